/- The walks, printed by program: whenever the model gives r, the call returns r. Part 5. -/
import Derived.Test.YtphinfkojhecdaaM
import Derived.Test.YtphinfkojhecdaaProg
import Derived.Test.YtphinfkojhecdaaC4
set_option linter.unusedVariables false
set_option maxRecDepth 100000
set_option maxHeartbeats 4000000
namespace Go.Proofs.Ytphinfkojhecdaa
open Go.Gx
theorem c_s_MoveRegion (w : World) (x7250 : List Region) (p7252 : Option Addr) (c7253 : Nat) (h7254 : rdS encRegion w x7250 p7252 c7253) (x7255 : Int) (x7256 : Int) {r : (List Region) × Bool} (hm : M.s_MoveRegion x7250 x7255 x7256 = some r) :
    Calls Try.prog 38 #[.slice p7252 x7250.length c7253, .int .i64 x7255, .int .i64 x7256] w fun e w' => ∃ (p7258 : Option Addr) (c7259 : Nat) (sg7260 : Seg), e = .returned (.tuple #[.slice p7258 r.1.length c7259, .bool r.2]) ∧ ownS encRegion r.1 p7258 c7259 sg7260 ∧ Mem [] w w' [sg7260] := by
  unfold M.s_MoveRegion at hm
  refine C_enter Try.func38 rfl (by kernel_rfl) ?_
  have M0 := Mem.refl [] w
  refine G_seq ?_
  refine G_region ?_
  refine W_run 2 [(0, .slice p7252 x7250.length c7253), (1, .int .i64 x7255), (2, .int .i64 x7256)] w (by kernel_rfl) ?_
  refine W_nil ?_
  refine N_then ?_
  refine G_seq ?_
  refine G_seq ?_
  obtain ⟨o7271, ho7272, hm7273⟩ := gx_bind hm
  refine G_meet (fun a w' => Mem [] w w' [] ∧ Sat Try.f38.ntmps [(0, .slice p7252 x7250.length c7253), (1, .int .i64 x7255), (2, .int .i64 x7256), (20, .bool o7271)] a) ?_ ?_
  · have hm := ho7272
    refine G_region ?_
    refine W_run 1 [(0, .slice p7252 x7250.length c7253), (1, .int .i64 x7255), (2, .int .i64 x7256), (10, .slice p7252 x7250.length c7253)] w (by kernel_rfl) ?_
    obtain ⟨r7274, hr7274, hm⟩ := gx_bind hm
    refine W_call 60 #[.slice p7252 x7250.length c7253] (by kernel_rfl) (by kernel_rfl) ?_
    refine (c_s_l17Good w x7250 p7252 c7253 (h7254.mem0 M0) hr7274).mono ?_
    rintro e_ w7275 ⟨rfl, K7276⟩
    have M7277 := M0.call0 K7276
    refine ⟨_, rfl, ?_⟩
    refine W_run 2 [(0, .slice p7252 x7250.length c7253), (1, .int .i64 x7255), (2, .int .i64 x7256), (13, .bool (!r7274))] w7275 (by kernel_rfl) ?_
    rcases gx_bif hm with ⟨hc7278, hm⟩ | ⟨hc7278, hm⟩
    · refine W_known 13 true (by kernel_rfl) hc7278 ?_
      refine W_run 7 [(0, .slice p7252 x7250.length c7253), (1, .int .i64 x7255), (2, .int .i64 x7256), (20, .bool true)] w7275 (by kernel_rfl) ?_
      refine W_nil ?_
      obtain rfl := Option.some.inj hm
      exact N_meet fun a ha => ⟨M7277.pick [] (by kernel_rfl), ha.sub (by kernel_rfl)⟩
    · refine W_known 13 false (by kernel_rfl) hc7278 ?_
      refine W_run 4 [(0, .slice p7252 x7250.length c7253), (1, .int .i64 x7255), (2, .int .i64 x7256), (13, .bool false), (14, .int .i64 x7255), (17, .int .i64 (w64 ((x7250.length : Int) - 1)))] w7275 (by kernel_rfl) ?_
      obtain ⟨r7279, hr7279, hm⟩ := gx_bind hm
      refine W_call 76 #[.int .i64 x7255, .int .i64 0, .int .i64 (w64 ((x7250.length : Int) - 1))] (by kernel_rfl) (by kernel_rfl) ?_
      refine (c_s_l1In w7275 x7255 0 (w64 ((x7250.length : Int) - 1)) hr7279).mono ?_
      rintro e_ w7280 ⟨rfl, K7281⟩
      have M7282 := M7277.call0 K7281
      refine ⟨_, rfl, ?_⟩
      refine W_run 2 [(0, .slice p7252 x7250.length c7253), (1, .int .i64 x7255), (2, .int .i64 x7256), (20, .bool (!r7279))] w7280 (by kernel_rfl) ?_
      refine W_nil ?_
      obtain rfl := Option.some.inj hm
      exact N_meet fun a ha => ⟨M7282.pick [] (by kernel_rfl), ha.sub (by kernel_rfl)⟩
  · intro a7285 w7283 ⟨M7284, hS7286⟩
    refine N_use hS7286 ?_
    have hm := hm7273
    refine N_then ?_
    rcases gx_bif hm with ⟨hc7287, hm⟩ | ⟨hc7287, hm⟩
    · refine G_cond_t (b := o7271) hc7287 (by kernel_rfl) ?_
      refine G_seq ?_
      refine G_region ?_
      refine W_lit (E := encRegion) ([] : List Region) 0 [] 59 M7284 (by kernel_rfl) (by kernel_rfl) (by kernel_rfl) (by kernel_rfl) (by kernel_rfl) ?_
      intro p7288 c7289 sg7290 w7291 ho7292 M7293
      refine W_run 2 [(6, .slice p7288 ([] : List Region).length c7289), (7, .bool false)] w7291 (by kernel_rfl) ?_
      refine W_nil ?_
      refine N_then ?_
      refine G_ret ?_
      refine N_then_ret ?_
      obtain rfl := Option.some.inj hm
      refine N_ret [.slice p7288 ([] : List Region).length c7289, .bool false] (RVs_cons (RV_tmp (by kernel_rfl)) (RVs_cons (RV_tmp (by kernel_rfl)) RVs_nil)) ?_
      exact ⟨p7288, c7289, sg7290, rfl, ho7292, M7293.pick [0] (by kernel_rfl)⟩
    · refine G_cond_f (b := o7271) hc7287 (by kernel_rfl) ?_
      refine G_skip ?_
      refine N_then ?_
      refine G_seq ?_
      refine G_region ?_
      refine W_run 2 [(0, .slice p7252 x7250.length c7253), (1, .int .i64 x7255), (2, .int .i64 x7256), (22, .slice p7252 x7250.length c7253), (23, .int .i64 x7255)] w7283 (by kernel_rfl) ?_
      obtain ⟨y7295, hy7295, hm⟩ := gx_bind hm
      refine W_val (elemP p7252 (x7255.toNat * 4)) w7283 (by kernel_rfl) (E_index (E := encRegion) _ _ _ x7250.length c7253 .i64 x7255 4 (y := y7295) rfl (by kernel_rfl) (by kernel_rfl) (by kernel_rfl) (h7254.mem0 M7284) rfl hy7295) ?_
      refine W_val (.agg #[.int .i64 y7295.Base, .int .i64 y7295.Size, .int .i64 y7295.Kind, .int .i64 y7295.Unit]) w7283 (by kernel_rfl) (E_loadE (E := encRegion) _ _ true 4 x7255 0 (x7255.toNat * 4) y7295 (.agg #[.int .i64 y7295.Base, .int .i64 y7295.Size, .int .i64 y7295.Kind, .int .i64 y7295.Unit]) rfl (by kernel_rfl) (by kernel_rfl) (by kernel_rfl) (h7254.mem0 M7284) hy7295 rfl) ?_
      refine W_new (fun b => .pointer (some ⟨b, 0, none⟩)) (.cells ⟨[.int .i64 0, .int .i64 0, .int .i64 0, .int .i64 0]⟩ 59 (0, 0)) M7284 rfl (by kernel_rfl) (by kernel_rfl) ?_
      intro b7297 w7298 M7299
      refine W_store _ _ _ true 4 b7297 0 [.int .i64 0, .int .i64 0, .int .i64 0, .int .i64 0] 59 (.agg #[.int .i64 y7295.Base, .int .i64 y7295.Size, .int .i64 y7295.Kind, .int .i64 y7295.Unit]) 0 [.int .i64 y7295.Base, .int .i64 y7295.Size, .int .i64 y7295.Kind, .int .i64 y7295.Unit] M7299 (by kernel_rfl) rfl (by kernel_rfl) (by kernel_rfl) (by kernel_rfl) (by kernel_rfl) (by kernel_rfl) (by kernel_rfl) (by kernel_rfl) (by kernel_rfl) ?_
      intro w7300 M7301
      refine W_nil ?_
      refine N_then ?_
      refine G_seq ?_
      refine G_region ?_
      refine W_run 2 [(0, .slice p7252 x7250.length c7253), (1, .int .i64 x7255), (8, .pointer (some ⟨b7297, 0, none⟩)), (26, .int .i64 x7256), (27, .pointer (some ⟨b7297, 0, none⟩))] w7300 (by kernel_rfl) ?_
      refine W_store _ _ _ false 1 b7297 0 [.int .i64 y7295.Base, .int .i64 y7295.Size, .int .i64 y7295.Kind, .int .i64 y7295.Unit] 59 (.int .i64 x7256) 0 [.int .i64 x7256, .int .i64 y7295.Size, .int .i64 y7295.Kind, .int .i64 y7295.Unit] M7301 (by kernel_rfl) rfl (by kernel_rfl) (by kernel_rfl) (by kernel_rfl) (by kernel_rfl) (by kernel_rfl) (by kernel_rfl) (by kernel_rfl) (by kernel_rfl) ?_
      intro w7302 M7303
      refine W_nil ?_
      refine N_then ?_
      refine G_seq ?_
      obtain ⟨ys7311, hys7311, hm⟩ := gx_bind hm
      obtain ⟨ap7313, hap7313, hm⟩ := gx_bind hm
      obtain ⟨ys7319, hys7319, hm⟩ := gx_bind hm
      obtain ⟨ap7321, hap7321, hm⟩ := gx_bind hm
      refine G_sub [(0, .slice p7252 x7250.length c7253), (1, .int .i64 x7255), (8, .pointer (some ⟨b7297, 0, none⟩)), (26, .int .i64 x7256), (27, .pointer (some ⟨b7297, 0, none⟩))] (by kernel_rfl) ?_
      refine G_dagL 11 [[], [], [], [1, 2], [0, 3], [], [], [6], [5, 7], [4, 8], []] [[], [], [], [], [0], [], [], [], [], [4], []] [[], [], [], [], [], [], [], [], [], [], []] [[], [], [], [], [], [], [], [], [], [], []] [[], [], [], [], [], [], [], [], [], [], []] [[], [], [], [], [], [], [], [], [], [], []] (fun _ => []) (fun i => ([fun f v s => ∃ (p7307 : Option Addr) (c7308 : Nat), v = (.slice p7307 ([] : List Region).length c7308 : Value) ∧ ownS encRegion ([] : List Region) p7307 c7308 s, fun f v s => v = (.slice p7252 x7250.length c7253 : Value) ∧ s = [], fun f v s => v = (.int .i64 x7255 : Value) ∧ s = [], fun f v s => v = (.slice (subP p7252 (0 : Int).toNat c7253 4) ys7311.length (c7253 - (0 : Int).toNat) : Value) ∧ s = [], fun f v s => ∃ (p7315 : Option Addr) (c7316 : Nat), v = (.slice p7315 ap7313.length c7316 : Value) ∧ ownS encRegion ap7313 p7315 c7316 s, fun f v s => v = (.slice p7252 x7250.length c7253 : Value) ∧ s = [], fun f v s => v = (.int .i64 x7255 : Value) ∧ s = [], fun f v s => v = (.int .i64 (w64 (x7255 + 1)) : Value) ∧ s = [], fun f v s => v = (.slice (subP p7252 (w64 (x7255 + 1)).toNat c7253 4) ys7319.length (c7253 - (w64 (x7255 + 1)).toNat) : Value) ∧ s = [], fun f v s => ∃ (p7323 : Option Addr) (c7324 : Nat), v = (.slice p7323 ap7321.length c7324 : Value) ∧ ownS encRegion ap7321 p7323 c7324 s, fun f v s => v = (.agg #[.int .i64 x7256, .int .i64 y7295.Size, .int .i64 y7295.Kind, .int .i64 y7295.Unit] : Value) ∧ s = []] : List ((Nat → Value) → Value → Seg → Prop)).getD i (fun _ _ _ => False)) (fun j f v => ∃ s, (fun i => ([fun f v s => ∃ (p7307 : Option Addr) (c7308 : Nat), v = (.slice p7307 ([] : List Region).length c7308 : Value) ∧ ownS encRegion ([] : List Region) p7307 c7308 s, fun f v s => v = (.slice p7252 x7250.length c7253 : Value) ∧ s = [], fun f v s => v = (.int .i64 x7255 : Value) ∧ s = [], fun f v s => v = (.slice (subP p7252 (0 : Int).toNat c7253 4) ys7311.length (c7253 - (0 : Int).toNat) : Value) ∧ s = [], fun f v s => ∃ (p7315 : Option Addr) (c7316 : Nat), v = (.slice p7315 ap7313.length c7316 : Value) ∧ ownS encRegion ap7313 p7315 c7316 s, fun f v s => v = (.slice p7252 x7250.length c7253 : Value) ∧ s = [], fun f v s => v = (.int .i64 x7255 : Value) ∧ s = [], fun f v s => v = (.int .i64 (w64 (x7255 + 1)) : Value) ∧ s = [], fun f v s => v = (.slice (subP p7252 (w64 (x7255 + 1)).toNat c7253 4) ys7319.length (c7253 - (w64 (x7255 + 1)).toNat) : Value) ∧ s = [], fun f v s => ∃ (p7323 : Option Addr) (c7324 : Nat), v = (.slice p7323 ap7321.length c7324 : Value) ∧ ownS encRegion ap7321 p7323 c7324 s, fun f v s => v = (.agg #[.int .i64 x7256, .int .i64 y7295.Size, .int .i64 y7295.Kind, .int .i64 y7295.Unit] : Value) ∧ s = []] : List ((Nat → Value) → Value → Seg → Prop)).getD i (fun _ _ _ => False)) j f v s) [] [9, 10] [9] (fun _ _ _ s h => ⟨s, h⟩) (by kernel_rfl) (by kernel_rfl) (M7303.preNil 11) (by kernel_rfl) (by kernel_rfl) (by kernel_rfl) (by kernel_rfl) (allOb_cons ?_ (allOb_cons ?_ (allOb_cons ?_ (allOb_cons ?_ (allOb_cons ?_ (allOb_cons ?_ (allOb_cons ?_ (allOb_cons ?_ (allOb_cons ?_ (allOb_cons ?_ (allOb_cons ?_ allOb_nil))))))))))) ?_
      · intro g7304 f7305
        intro R w7327 M7328
        refine W_lit (E := encRegion) ([] : List Region) 0 [] 59 M7328 (by kernel_rfl) (by kernel_rfl) (by kernel_rfl) (by kernel_rfl) (by kernel_rfl) ?_
        intro p7307 c7308 sg7309 w7329 ho7310 M7330
        exact W_nil (ob_end (.slice p7307 ([] : List Region).length c7308) sg7309 rfl (by kernel_rfl) ⟨p7307, c7308, rfl, ho7310⟩ (Mem.mid M7330))
      · intro g7304 f7305
        intro R w7331 M7332
        refine W_run 1 [(29, .slice p7252 x7250.length c7253)] w7331 (by kernel_rfl) ?_
        exact W_nil (ob_end (.slice p7252 x7250.length c7253) [] rfl (by kernel_rfl) ⟨by kernel_rfl, rfl⟩ M7332)
      · intro g7304 f7305
        intro R w7335 M7336
        refine W_run 1 [(30, .int .i64 x7255)] w7335 (by kernel_rfl) ?_
        exact W_nil (ob_end (.int .i64 x7255) [] rfl (by kernel_rfl) ⟨by kernel_rfl, rfl⟩ M7336)
      · intro g7304 f7305
        intro v1_ hb1_
        obtain ⟨rfl, _⟩ := hb1_
        intro v2_ hb2_
        obtain ⟨rfl, _⟩ := hb2_
        intro R w7339 M7340
        refine W_val (.slice (subP p7252 (0 : Int).toNat c7253 4) ys7311.length (c7253 - (0 : Int).toNat)) w7339 (by kernel_rfl) (E_slice (E := encRegion) _ _ _ _ x7250.length 0 x7255 rfl (by kernel_rfl) (Or.inl ⟨rfl, rfl⟩) (Or.inr ⟨_, rfl, by kernel_rfl⟩) (by kernel_rfl) (h7254.mem0 M7340) rfl hys7311) ?_
        exact W_nil (ob_end (.slice (subP p7252 (0 : Int).toNat c7253 4) ys7311.length (c7253 - (0 : Int).toNat)) [] rfl (by kernel_rfl) ⟨by kernel_rfl, rfl⟩ M7340)
      · intro g7304 f7305
        intro v0_ hb0_
        obtain ⟨p7307, c7308, rfl, ho7310⟩ := hb0_
        intro v3_ hb3_
        obtain ⟨rfl, _⟩ := hb3_
        intro R w7343 M7344
        refine W_append (E := encRegion) _ _ _ 32 [.int .i64 0, .int .i64 0, .int .i64 0, .int .i64 0] 2 (c7253 - (0 : Int).toNat) M7344 ho7310 (by kernel_rfl) (by kernel_rfl) (by kernel_rfl) rfl (by kernel_rfl) (by kernel_rfl) (by kernel_rfl) (by kernel_rfl) (by kernel_rfl) (by kernel_rfl) ((h7254.mem0 M7344).sliceM hys7311) hap7313 ?_
        intro p7315 c7316 sg7317 w7345 ho7318 M7346
        exact W_nil (ob_end (.slice p7315 ap7313.length c7316) sg7317 rfl (by kernel_rfl) ⟨p7315, c7316, rfl, ho7318⟩ (Mem.takeOver M7346))
      · intro g7304 f7305
        intro R w7347 M7348
        refine W_run 1 [(33, .slice p7252 x7250.length c7253)] w7347 (by kernel_rfl) ?_
        exact W_nil (ob_end (.slice p7252 x7250.length c7253) [] rfl (by kernel_rfl) ⟨by kernel_rfl, rfl⟩ M7348)
      · intro g7304 f7305
        intro R w7351 M7352
        refine W_run 1 [(34, .int .i64 x7255)] w7351 (by kernel_rfl) ?_
        exact W_nil (ob_end (.int .i64 x7255) [] rfl (by kernel_rfl) ⟨by kernel_rfl, rfl⟩ M7352)
      · intro g7304 f7305
        intro v6_ hb6_
        obtain ⟨rfl, _⟩ := hb6_
        intro R w7355 M7356
        refine W_run 1 [(35, .int .i64 (w64 (x7255 + 1)))] w7355 (by kernel_rfl) ?_
        exact W_nil (ob_end (.int .i64 (w64 (x7255 + 1))) [] rfl (by kernel_rfl) ⟨by kernel_rfl, rfl⟩ M7356)
      · intro g7304 f7305
        intro v5_ hb5_
        obtain ⟨rfl, _⟩ := hb5_
        intro v7_ hb7_
        obtain ⟨rfl, _⟩ := hb7_
        intro R w7359 M7360
        refine W_val (.slice (subP p7252 (w64 (x7255 + 1)).toNat c7253 4) ys7319.length (c7253 - (w64 (x7255 + 1)).toNat)) w7359 (by kernel_rfl) (E_slice (E := encRegion) _ _ _ _ x7250.length (w64 (x7255 + 1)) (x7250.length : Int) rfl (by kernel_rfl) (Or.inr ⟨_, rfl, by kernel_rfl⟩) (Or.inl ⟨rfl, rfl⟩) (by kernel_rfl) (h7254.mem0 M7360) rfl hys7319) ?_
        exact W_nil (ob_end (.slice (subP p7252 (w64 (x7255 + 1)).toNat c7253 4) ys7319.length (c7253 - (w64 (x7255 + 1)).toNat)) [] rfl (by kernel_rfl) ⟨by kernel_rfl, rfl⟩ M7360)
      · intro g7304 f7305
        intro v4_ hb4_
        obtain ⟨p7315, c7316, rfl, ho7318⟩ := hb4_
        intro v8_ hb8_
        obtain ⟨rfl, _⟩ := hb8_
        intro R w7363 M7364
        refine W_append (E := encRegion) _ _ _ 32 [.int .i64 0, .int .i64 0, .int .i64 0, .int .i64 0] 2 (c7253 - (w64 (x7255 + 1)).toNat) M7364 ho7318 (by kernel_rfl) (by kernel_rfl) (by kernel_rfl) rfl (by kernel_rfl) (by kernel_rfl) (by kernel_rfl) (by kernel_rfl) (by kernel_rfl) (by kernel_rfl) ((h7254.mem0 M7364).sliceM hys7319) hap7321 ?_
        intro p7323 c7324 sg7325 w7365 ho7326 M7366
        exact W_nil (ob_end (.slice p7323 ap7321.length c7324) sg7325 rfl (by kernel_rfl) ⟨p7323, c7324, rfl, ho7326⟩ (Mem.takeOver M7366))
      · intro g7304 f7305
        intro R w7367 M7368
        refine W_val (.agg #[.int .i64 x7256, .int .i64 y7295.Size, .int .i64 y7295.Kind, .int .i64 y7295.Unit]) w7367 (by kernel_rfl) (E_load (e := 59) (fr := (0, 0)) _ _ true 4 b7297 0 [.int .i64 x7256, .int .i64 y7295.Size, .int .i64 y7295.Kind, .int .i64 y7295.Unit] (.agg #[.int .i64 x7256, .int .i64 y7295.Size, .int .i64 y7295.Kind, .int .i64 y7295.Unit]) rfl (by kernel_rfl) (by kernel_rfl) (by kernel_rfl) (M7368.blk 0 (b := b7297) (o := .cells ⟨[.int .i64 x7256, .int .i64 y7295.Size, .int .i64 y7295.Kind, .int .i64 y7295.Unit]⟩ 59 (0, 0)) (by kernel_rfl))) ?_
        exact W_nil (ob_end (.agg #[.int .i64 x7256, .int .i64 y7295.Size, .int .i64 y7295.Kind, .int .i64 y7295.Unit]) [] rfl (by kernel_rfl) ⟨by kernel_rfl, rfl⟩ M7368)
      · intro g7304 f7305
        intro v9_ hb9_
        obtain ⟨p7323, c7324, rfl, ho7326⟩ := hb9_
        intro v10_ hb10_
        obtain ⟨rfl, _⟩ := hb10_
        intro w7371 M7372
        have M7373 : Mem [] w w7371 [[(b7297, .cells ⟨[.int .i64 x7256, .int .i64 y7295.Size, .int .i64 y7295.Kind, .int .i64 y7295.Unit]⟩ 59 (0, 0))], (g7304 9)] := M7372
        obtain ⟨r7374, hr7374, hm⟩ := gx_bind hm
        refine W_call 72 #[.slice p7323 ap7321.length c7324, .agg #[.int .i64 x7256, .int .i64 y7295.Size, .int .i64 y7295.Kind, .int .i64 y7295.Unit]] (by kernel_rfl) (by kernel_rfl) ?_
        refine (c_s_l17Add w7371 ap7321 p7323 c7324 (ho7326.rd M7373 1 (by kernel_rfl)) (⟨x7256, y7295.Size, y7295.Kind, y7295.Unit⟩ : Region) hr7374).mono ?_
        rintro e_ w7380 ⟨p7376, c7377, sg7378, rfl, ho7379, K7381⟩
        have M7382 := M7373.call K7381
        refine ⟨_, rfl, ?_⟩
        refine W_run 1 [(9, .slice p7376 r7374.length c7377)] w7380 (by kernel_rfl) ?_
        refine W_nil ?_
        refine N_then ?_
        refine G_seq ?_
        refine G_seq ?_
        refine G_region ?_
        refine W_run 1 [(9, .slice p7376 r7374.length c7377), (40, .slice p7376 r7374.length c7377)] w7380 (by kernel_rfl) ?_
        obtain ⟨r7383, hr7383, hm⟩ := gx_bind hm
        refine W_call 60 #[.slice p7376 r7374.length c7377] (by kernel_rfl) (by kernel_rfl) ?_
        refine (c_s_l17Good w7380 r7374 p7376 c7377 (ho7379.rd M7382 2 (by kernel_rfl)) hr7383).mono ?_
        rintro e_ w7384 ⟨rfl, K7385⟩
        have M7386 := M7382.call0 K7385
        refine ⟨_, rfl, ?_⟩
        refine W_run 1 [(9, .slice p7376 r7374.length c7377), (42, .bool (!r7383))] w7384 (by kernel_rfl) ?_
        refine W_nil ?_
        refine N_then ?_
        rcases gx_bif hm with ⟨hc7387, hm⟩ | ⟨hc7387, hm⟩
        · refine G_cond_t (b := (!r7383)) hc7387 (by kernel_rfl) ?_
          refine G_seq ?_
          refine G_region ?_
          refine W_lit (E := encRegion) ([] : List Region) 0 [] 59 M7386 (by kernel_rfl) (by kernel_rfl) (by kernel_rfl) (by kernel_rfl) (by kernel_rfl) ?_
          intro p7388 c7389 sg7390 w7391 ho7392 M7393
          refine W_run 2 [(6, .slice p7388 ([] : List Region).length c7389), (7, .bool false)] w7391 (by kernel_rfl) ?_
          refine W_nil ?_
          refine N_then ?_
          refine G_ret ?_
          refine N_then_ret ?_
          obtain rfl := Option.some.inj hm
          refine N_ret [.slice p7388 ([] : List Region).length c7389, .bool false] (RVs_cons (RV_tmp (by kernel_rfl)) (RVs_cons (RV_tmp (by kernel_rfl)) RVs_nil)) ?_
          exact ⟨p7388, c7389, sg7390, rfl, ho7392, M7393.pick [3] (by kernel_rfl)⟩
        · refine G_cond_f (b := (!r7383)) hc7387 (by kernel_rfl) ?_
          refine G_skip ?_
          refine N_then ?_
          refine G_seq ?_
          refine G_region ?_
          refine W_run 3 [(6, .slice p7376 r7374.length c7377), (7, .bool true)] w7384 (by kernel_rfl) ?_
          refine W_nil ?_
          refine N_then ?_
          refine G_ret ?_
          obtain rfl := Option.some.inj hm
          refine N_ret [.slice p7376 r7374.length c7377, .bool true] (RVs_cons (RV_tmp (by kernel_rfl)) (RVs_cons (RV_tmp (by kernel_rfl)) RVs_nil)) ?_
          exact ⟨p7376, c7377, sg7378, rfl, ho7379, M7386.pick [2] (by kernel_rfl)⟩
theorem c_i_MoveRegion (w : World) (x7413 : List Region) (p7415 : Option Addr) (c7416 : Nat) (h7417 : rdS encRegion w x7413 p7415 c7416) (x7418 : Int) (x7419 : Int) {r : (List Region) × Bool} (hm : M.i_MoveRegion x7413 x7418 x7419 = some r) :
    Calls Try.prog 39 #[.slice p7415 x7413.length c7416, .int .i64 x7418, .int .i64 x7419] w fun e w' => ∃ (p7421 : Option Addr) (c7422 : Nat) (sg7423 : Seg), e = .returned (.tuple #[.slice p7421 r.1.length c7422, .bool r.2]) ∧ ownS encRegion r.1 p7421 c7422 sg7423 ∧ Mem [] w w' [sg7423] := by
  unfold M.i_MoveRegion at hm
  refine C_enter Try.func39 rfl (by kernel_rfl) ?_
  have M0 := Mem.refl [] w
  refine G_seq ?_
  refine G_region ?_
  refine W_run 2 [(0, .slice p7415 x7413.length c7416), (1, .int .i64 x7418), (2, .int .i64 x7419)] w (by kernel_rfl) ?_
  refine W_nil ?_
  refine N_then ?_
  refine G_seq ?_
  refine G_seq ?_
  obtain ⟨o7434, ho7435, hm7436⟩ := gx_bind hm
  refine G_meet (fun a w' => Mem [] w w' [] ∧ Sat Try.f39.ntmps [(0, .slice p7415 x7413.length c7416), (1, .int .i64 x7418), (2, .int .i64 x7419), (19, .bool o7434)] a) ?_ ?_
  · have hm := ho7435
    refine G_region ?_
    refine W_run 1 [(0, .slice p7415 x7413.length c7416), (1, .int .i64 x7418), (2, .int .i64 x7419), (9, .slice p7415 x7413.length c7416)] w (by kernel_rfl) ?_
    obtain ⟨r7437, hr7437, hm⟩ := gx_bind hm
    refine W_call 49 #[.slice p7415 x7413.length c7416] (by kernel_rfl) (by kernel_rfl) ?_
    refine (c_i_IsMap w x7413 p7415 c7416 (h7417.mem0 M0) hr7437).mono ?_
    rintro e_ w7438 ⟨rfl, K7439⟩
    have M7440 := M0.call0 K7439
    refine ⟨_, rfl, ?_⟩
    refine W_run 2 [(0, .slice p7415 x7413.length c7416), (1, .int .i64 x7418), (2, .int .i64 x7419), (12, .bool (!r7437))] w7438 (by kernel_rfl) ?_
    rcases gx_bif hm with ⟨hc7441, hm⟩ | ⟨hc7441, hm⟩
    · refine W_known 12 true (by kernel_rfl) hc7441 ?_
      refine W_run 7 [(0, .slice p7415 x7413.length c7416), (1, .int .i64 x7418), (2, .int .i64 x7419), (19, .bool true)] w7438 (by kernel_rfl) ?_
      refine W_nil ?_
      obtain rfl := Option.some.inj hm
      exact N_meet fun a ha => ⟨M7440.pick [] (by kernel_rfl), ha.sub (by kernel_rfl)⟩
    · refine W_known 12 false (by kernel_rfl) hc7441 ?_
      refine W_run 4 [(0, .slice p7415 x7413.length c7416), (1, .int .i64 x7418), (2, .int .i64 x7419), (12, .bool false), (13, .int .i64 x7418), (16, .int .i64 (w64 ((x7413.length : Int) - 1)))] w7438 (by kernel_rfl) ?_
      obtain ⟨r7442, hr7442, hm⟩ := gx_bind hm
      refine W_call 58 #[.int .i64 x7418, .int .i64 0, .int .i64 (w64 ((x7413.length : Int) - 1))] (by kernel_rfl) (by kernel_rfl) ?_
      refine (c_i_inside w7438 x7418 0 (w64 ((x7413.length : Int) - 1)) hr7442).mono ?_
      rintro e_ w7443 ⟨rfl, K7444⟩
      have M7445 := M7440.call0 K7444
      refine ⟨_, rfl, ?_⟩
      refine W_run 2 [(0, .slice p7415 x7413.length c7416), (1, .int .i64 x7418), (2, .int .i64 x7419), (19, .bool (!r7442))] w7443 (by kernel_rfl) ?_
      refine W_nil ?_
      obtain rfl := Option.some.inj hm
      exact N_meet fun a ha => ⟨M7445.pick [] (by kernel_rfl), ha.sub (by kernel_rfl)⟩
  · intro a7448 w7446 ⟨M7447, hS7449⟩
    refine N_use hS7449 ?_
    have hm := hm7436
    refine N_then ?_
    rcases gx_bif hm with ⟨hc7450, hm⟩ | ⟨hc7450, hm⟩
    · refine G_cond_t (b := o7434) hc7450 (by kernel_rfl) ?_
      refine G_seq ?_
      refine G_region ?_
      refine W_run 2 [(6, .slice none 0 0), (7, .bool false)] w7446 (by kernel_rfl) ?_
      refine W_nil ?_
      refine N_then ?_
      refine G_ret ?_
      refine N_then_ret ?_
      obtain rfl := Option.some.inj hm
      refine N_ret [.slice none 0 0, .bool false] (RVs_cons (RV_tmp (by kernel_rfl)) (RVs_cons (RV_tmp (by kernel_rfl)) RVs_nil)) ?_
      exact ⟨none, 0, [], rfl, ownS_nil, M7447.pick [100000] (by kernel_rfl)⟩
    · refine G_cond_f (b := o7434) hc7450 (by kernel_rfl) ?_
      refine G_skip ?_
      refine N_then ?_
      refine G_seq ?_
      refine G_region ?_
      refine W_run 1 [(1, .int .i64 x7418), (2, .int .i64 x7419), (20, .slice p7415 x7413.length c7416)] w7446 (by kernel_rfl) ?_
      obtain ⟨r7452, hr7452, hm⟩ := gx_bind hm
      refine W_call 75 #[.slice p7415 x7413.length c7416] (by kernel_rfl) (by kernel_rfl) ?_
      refine (c_slices_Clone_75 w7446 x7413 p7415 c7416 (h7417.mem0 M7447) hr7452).mono ?_
      rintro e_ w7458 ⟨p7454, c7455, sg7456, rfl, ho7457, K7459⟩
      have M7460 := M7447.call K7459
      refine ⟨_, rfl, ?_⟩
      refine W_run 1 [(1, .int .i64 x7418), (2, .int .i64 x7419), (8, .slice p7454 r7452.length c7455)] w7458 (by kernel_rfl) ?_
      refine W_nil ?_
      refine N_then ?_
      refine G_seq ?_
      refine G_region ?_
      refine W_run 3 [(8, .slice p7454 r7452.length c7455), (22, .slice p7454 r7452.length c7455), (23, .int .i64 x7418), (24, .int .i64 x7419)] w7458 (by kernel_rfl) ?_
      obtain ⟨y7461, hy7461, hm⟩ := gx_bind hm
      refine W_val (elemP p7454 (x7418.toNat * 4)) w7458 (by kernel_rfl) (E_index (E := encRegion) _ _ _ r7452.length c7455 .i64 x7418 4 (y := y7461) rfl (by kernel_rfl) (by kernel_rfl) (by kernel_rfl) (ho7457.rd M7460 0 (by kernel_rfl)) rfl hy7461) ?_
      refine W_val (elemP p7454 (x7418.toNat * 4 + 0)) w7458 (by kernel_rfl) (E_fieldE (E := encRegion) _ _ 0 (x7418.toNat * 4) 0 rfl (by kernel_rfl) (by kernel_rfl) (ho7457.rd M7460 0 (by kernel_rfl)) hy7461) ?_
      refine W_storeE (E := encRegion) _ _ _ false 1 x7418.toNat 0 (x7418.toNat * 4 + 0) y7461 (⟨x7419, y7461.Size, y7461.Kind, y7461.Unit⟩ : Region) (.int .i64 x7419) 0 M7460 ho7457 (by kernel_rfl) (by kernel_rfl) rfl (by kernel_rfl) (by kernel_rfl) (by kernel_rfl) (by kernel_rfl) (by kernel_rfl) (by kernel_rfl) (by kernel_rfl) (gxIdx_spec hy7461).2 rfl ?_
      intro w7462 sg7464 ho7465 M7463
      refine W_conv 8 (.slice p7454 r7452.length c7455) (.slice p7454 (r7452.set x7418.toNat (⟨x7419, y7461.Size, y7461.Kind, y7461.Unit⟩ : Region)).length c7455) (by kernel_rfl) (by rw [@List.length_set _ r7452 x7418.toNat (⟨x7419, y7461.Size, y7461.Kind, y7461.Unit⟩ : Region)]) ?_
      refine W_conv 22 (.slice p7454 r7452.length c7455) (.slice p7454 (r7452.set x7418.toNat (⟨x7419, y7461.Size, y7461.Kind, y7461.Unit⟩ : Region)).length c7455) (by kernel_rfl) (by rw [@List.length_set _ r7452 x7418.toNat (⟨x7419, y7461.Size, y7461.Kind, y7461.Unit⟩ : Region)]) ?_
      refine W_nil ?_
      refine N_then ?_
      refine G_seq ?_
      refine G_region ?_
      refine W_run 1 [(27, .slice p7454 (r7452.set x7418.toNat (⟨x7419, y7461.Size, y7461.Kind, y7461.Unit⟩ : Region)).length c7455)] w7462 (by kernel_rfl) ?_
      obtain ⟨r7466, hr7466, hm⟩ := gx_bind hm
      refine W_call 74 #[.slice p7454 (r7452.set x7418.toNat (⟨x7419, y7461.Size, y7461.Kind, y7461.Unit⟩ : Region)).length c7455] (by kernel_rfl) (by kernel_rfl) ?_
      refine (c_i_asMap w7462 (r7452.set x7418.toNat (⟨x7419, y7461.Size, y7461.Kind, y7461.Unit⟩ : Region)) p7454 c7455 (ho7465.rd M7463 0 (by kernel_rfl)) hr7466).mono ?_
      rintro e_ w7472 ⟨p7468, c7469, sg7470, rfl, ho7471, K7473⟩
      have M7474 := M7463.call K7473
      refine ⟨_, rfl, ?_⟩
      refine W_run 4 [(6, .slice p7468 r7466.1.length c7469), (7, .bool r7466.2)] w7472 (by kernel_rfl) ?_
      refine W_nil ?_
      refine N_then ?_
      refine G_ret ?_
      obtain rfl := Option.some.inj hm
      refine N_ret [.slice p7468 r7466.1.length c7469, .bool r7466.2] (RVs_cons (RV_tmp (by kernel_rfl)) (RVs_cons (RV_tmp (by kernel_rfl)) RVs_nil)) ?_
      exact ⟨p7468, c7469, sg7470, rfl, ho7471, M7474.pick [1] (by kernel_rfl)⟩
theorem c_l_FnExactMoveRegion (w : World) (x7229 : List Region) (p7231 : Option Addr) (c7232 : Nat) (h7233 : rdS encRegion w x7229 p7231 c7232) (x7234 : Int) (x7235 : Int) {r : Bool} (hm : M.l_FnExactMoveRegion x7229 x7234 x7235 = some r) :
    Calls Try.prog 9 #[.slice p7231 x7229.length c7232, .int .i64 x7234, .int .i64 x7235] w fun e w' => e = .returned (.bool r) ∧ Mem [] w w' [] := by
  unfold M.l_FnExactMoveRegion at hm
  refine C_enter Try.func9 rfl (by kernel_rfl) ?_
  have M0 := Mem.refl [] w
  refine G_seq ?_
  refine G_region ?_
  refine W_run 1 [(0, .slice p7231 x7229.length c7232), (1, .int .i64 x7234), (2, .int .i64 x7235)] w (by kernel_rfl) ?_
  refine W_nil ?_
  refine N_then ?_
  refine G_seq ?_
  refine G_region ?_
  refine W_run 1 [(0, .slice p7231 x7229.length c7232), (1, .int .i64 x7234), (2, .int .i64 x7235), (7, .int .i64 1048576)] w (by kernel_rfl) ?_
  refine W_nil ?_
  refine N_then ?_
  refine G_seq ?_
  refine G_region ?_
  refine W_run 2 [(0, .slice p7231 x7229.length c7232), (1, .int .i64 x7234), (2, .int .i64 x7235), (7, .int .i64 1048576), (18, .slice p7231 x7229.length c7232), (19, .int .i64 1048576)] w (by kernel_rfl) ?_
  obtain ⟨r7236, hr7236, hm⟩ := gx_bind hm
  refine W_call 15 #[.slice p7231 x7229.length c7232, .int .i64 1048576] (by kernel_rfl) (by kernel_rfl) ?_
  refine (c_l_szRegionS w x7229 p7231 c7232 (h7233.mem0 M0) 1048576 hr7236).mono ?_
  rintro e_ w7237 ⟨rfl, K7238⟩
  have M7239 := M0.call0 K7238
  refine ⟨_, rfl, ?_⟩
  refine W_run 1 [(0, .slice p7231 x7229.length c7232), (1, .int .i64 x7234), (2, .int .i64 x7235), (7, .int .i64 r7236)] w7237 (by kernel_rfl) ?_
  refine W_nil ?_
  refine N_then ?_
  refine G_seq ?_
  refine G_seq ?_
  refine G_region ?_
  refine W_run 2 [(0, .slice p7231 x7229.length c7232), (1, .int .i64 x7234), (2, .int .i64 x7235), (22, .bool (decide (r7236 < 0)))] w7237 (by kernel_rfl) ?_
  refine W_nil ?_
  refine N_then ?_
  rcases gx_bif hm with ⟨hc7240, hm⟩ | ⟨hc7240, hm⟩
  · refine G_cond_t (b := (decide (r7236 < 0))) hc7240 (by kernel_rfl) ?_
    refine G_seq ?_
    refine G_region ?_
    refine W_run 1 [(6, .bool true)] w7237 (by kernel_rfl) ?_
    refine W_nil ?_
    refine N_then ?_
    refine G_ret ?_
    refine N_then_ret ?_
    obtain rfl := Option.some.inj hm
    refine N_ret [.bool true] (RVs_cons (RV_tmp (by kernel_rfl)) RVs_nil) ?_
    exact ⟨rfl, M7239.pick [] (by kernel_rfl)⟩
  · refine G_cond_f (b := (decide (r7236 < 0))) hc7240 (by kernel_rfl) ?_
    refine G_skip ?_
    refine N_then ?_
    refine G_seq ?_
    refine G_region ?_
    refine W_run 1 [(0, .slice p7231 x7229.length c7232), (1, .int .i64 x7234), (2, .int .i64 x7235), (24, .slice p7231 x7229.length c7232)] w7237 (by kernel_rfl) ?_
    obtain ⟨r7241, hr7241, hm⟩ := gx_bind hm
    refine W_call 17 #[.slice p7231 x7229.length c7232] (by kernel_rfl) (by kernel_rfl) ?_
    refine (c_l_toRegionS w7237 x7229 p7231 c7232 (h7233.mem0 M7239) hr7241).mono ?_
    rintro e_ w7247 ⟨p7243, c7244, sg7245, rfl, ho7246, K7248⟩
    have M7249 := M7239.call K7248
    refine ⟨_, rfl, ?_⟩
    refine W_run 2 [(0, .slice p7231 x7229.length c7232), (1, .int .i64 x7234), (2, .int .i64 x7235), (25, .slice p7243 r7241.length c7244), (26, .int .i64 x7234), (27, .int .i64 x7235)] w7247 (by kernel_rfl) ?_
    obtain ⟨r7395, hr7395, hm⟩ := gx_bind hm
    refine W_call 38 #[.slice p7243 r7241.length c7244, .int .i64 x7234, .int .i64 x7235] (by kernel_rfl) (by kernel_rfl) ?_
    refine (c_s_MoveRegion w7247 r7241 p7243 c7244 (ho7246.rd M7249 0 (by kernel_rfl)) x7234 x7235 hr7395).mono ?_
    rintro e_ w7401 ⟨p7397, c7398, sg7399, rfl, ho7400, K7402⟩
    have M7403 := M7249.call K7402
    refine ⟨_, rfl, ?_⟩
    refine W_run 5 [(0, .slice p7231 x7229.length c7232), (1, .int .i64 x7234), (2, .int .i64 x7235), (8, .slice p7397 r7395.1.length c7398), (9, .bool r7395.2)] w7401 (by kernel_rfl) ?_
    refine W_nil ?_
    refine N_then ?_
    refine G_seq ?_
    refine G_region ?_
    refine W_run 1 [(0, .slice p7231 x7229.length c7232), (1, .int .i64 x7234), (2, .int .i64 x7235), (8, .slice p7397 r7395.1.length c7398), (9, .bool r7395.2), (31, .slice p7231 x7229.length c7232)] w7401 (by kernel_rfl) ?_
    obtain ⟨r7404, hr7404, hm⟩ := gx_bind hm
    refine W_call 17 #[.slice p7231 x7229.length c7232] (by kernel_rfl) (by kernel_rfl) ?_
    refine (c_l_toRegionS w7401 x7229 p7231 c7232 (h7233.mem0 M7403) hr7404).mono ?_
    rintro e_ w7410 ⟨p7406, c7407, sg7408, rfl, ho7409, K7411⟩
    have M7412 := M7403.call K7411
    refine ⟨_, rfl, ?_⟩
    refine W_run 1 [(0, .slice p7231 x7229.length c7232), (1, .int .i64 x7234), (2, .int .i64 x7235), (8, .slice p7397 r7395.1.length c7398), (9, .bool r7395.2), (10, .slice p7406 r7404.length c7407)] w7410 (by kernel_rfl) ?_
    refine W_nil ?_
    refine N_then ?_
    refine G_seq ?_
    refine G_region ?_
    refine W_run 3 [(0, .slice p7231 x7229.length c7232), (1, .int .i64 x7234), (2, .int .i64 x7235), (8, .slice p7397 r7395.1.length c7398), (9, .bool r7395.2), (10, .slice p7406 r7404.length c7407), (34, .slice p7406 r7404.length c7407), (35, .int .i64 x7234), (36, .int .i64 x7235)] w7410 (by kernel_rfl) ?_
    obtain ⟨r7475, hr7475, hm⟩ := gx_bind hm
    refine W_call 39 #[.slice p7406 r7404.length c7407, .int .i64 x7234, .int .i64 x7235] (by kernel_rfl) (by kernel_rfl) ?_
    refine (c_i_MoveRegion w7410 r7404 p7406 c7407 (ho7409.rd M7412 2 (by kernel_rfl)) x7234 x7235 hr7475).mono ?_
    rintro e_ w7481 ⟨p7477, c7478, sg7479, rfl, ho7480, K7482⟩
    have M7483 := M7412.call K7482
    refine ⟨_, rfl, ?_⟩
    refine W_run 5 [(0, .slice p7231 x7229.length c7232), (1, .int .i64 x7234), (2, .int .i64 x7235), (8, .slice p7397 r7395.1.length c7398), (9, .bool r7395.2), (10, .slice p7406 r7404.length c7407), (11, .slice p7477 r7475.1.length c7478), (12, .bool r7475.2)] w7481 (by kernel_rfl) ?_
    refine W_nil ?_
    refine N_then ?_
    refine G_seq ?_
    refine G_seq ?_
    obtain ⟨o7489, ho7490, hm7491⟩ := gx_bind hm
    refine G_meet (fun a w' => Mem [] w w' [sg7399, sg7408, sg7479] ∧ Sat Try.f9.ntmps [(0, .slice p7231 x7229.length c7232), (1, .int .i64 x7234), (2, .int .i64 x7235), (8, .slice p7397 r7395.1.length c7398), (9, .bool r7395.2), (10, .slice p7406 r7404.length c7407), (11, .slice p7477 r7475.1.length c7478), (12, .bool r7475.2), (48, .bool o7489)] a) ?_ ?_
    · have hm := ho7490
      refine G_region ?_
      refine W_run 2 [(0, .slice p7231 x7229.length c7232), (1, .int .i64 x7234), (2, .int .i64 x7235), (8, .slice p7397 r7395.1.length c7398), (9, .bool r7395.2), (10, .slice p7406 r7404.length c7407), (11, .slice p7477 r7475.1.length c7478), (12, .bool r7475.2), (40, .slice p7477 r7475.1.length c7478), (41, .slice p7397 r7395.1.length c7398)] w7481 (by kernel_rfl) ?_
      obtain ⟨r7492, hr7492, hm⟩ := gx_bind hm
      refine W_call 20 #[.slice p7477 r7475.1.length c7478, .slice p7397 r7395.1.length c7398] (by kernel_rfl) (by kernel_rfl) ?_
      refine (c_l_eqRegionS w7481 r7475.1 p7477 c7478 (ho7480.rd M7483 3 (by kernel_rfl)) r7395.1 p7397 c7398 (ho7400.rd M7483 1 (by kernel_rfl)) hr7492).mono ?_
      rintro e_ w7493 ⟨rfl, K7494⟩
      have M7495 := M7483.call0 K7494
      refine ⟨_, rfl, ?_⟩
      refine W_run 2 [(0, .slice p7231 x7229.length c7232), (1, .int .i64 x7234), (2, .int .i64 x7235), (8, .slice p7397 r7395.1.length c7398), (9, .bool r7395.2), (10, .slice p7406 r7404.length c7407), (11, .slice p7477 r7475.1.length c7478), (12, .bool r7475.2), (44, .bool (!r7492))] w7493 (by kernel_rfl) ?_
      rcases gx_bif hm with ⟨hc7496, hm⟩ | ⟨hc7496, hm⟩
      · refine W_known 44 true (by kernel_rfl) hc7496 ?_
        refine W_run 4 [(0, .slice p7231 x7229.length c7232), (1, .int .i64 x7234), (2, .int .i64 x7235), (8, .slice p7397 r7395.1.length c7398), (9, .bool r7395.2), (10, .slice p7406 r7404.length c7407), (11, .slice p7477 r7475.1.length c7478), (12, .bool r7475.2), (48, .bool true)] w7493 (by kernel_rfl) ?_
        refine W_nil ?_
        obtain rfl := Option.some.inj hm
        exact N_meet fun a ha => ⟨M7495.pick [1, 2, 3] (by kernel_rfl), ha.sub (by kernel_rfl)⟩
      · refine W_known 44 false (by kernel_rfl) hc7496 ?_
        refine W_run 4 [(0, .slice p7231 x7229.length c7232), (1, .int .i64 x7234), (2, .int .i64 x7235), (8, .slice p7397 r7395.1.length c7398), (9, .bool r7395.2), (10, .slice p7406 r7404.length c7407), (11, .slice p7477 r7475.1.length c7478), (12, .bool r7475.2), (48, .bool (!(r7475.2 == r7395.2)))] w7493 (by kernel_rfl) ?_
        refine W_nil ?_
        obtain rfl := Option.some.inj hm
        exact N_meet fun a ha => ⟨M7495.pick [1, 2, 3] (by kernel_rfl), ha.sub (by kernel_rfl)⟩
    · intro a7499 w7497 ⟨M7498, hS7500⟩
      refine N_use hS7500 ?_
      have hm := hm7491
      refine N_then ?_
      rcases gx_bif hm with ⟨hc7501, hm⟩ | ⟨hc7501, hm⟩
      · refine G_cond_t (b := o7489) hc7501 (by kernel_rfl) ?_
        refine G_seq ?_
        refine G_region ?_
        refine W_run 1 [(6, .bool false)] w7497 (by kernel_rfl) ?_
        refine W_nil ?_
        refine N_then ?_
        refine G_ret ?_
        refine N_then_ret ?_
        obtain rfl := Option.some.inj hm
        refine N_ret [.bool false] (RVs_cons (RV_tmp (by kernel_rfl)) RVs_nil) ?_
        exact ⟨rfl, M7498.pick [] (by kernel_rfl)⟩
      · refine G_cond_f (b := o7489) hc7501 (by kernel_rfl) ?_
        refine G_skip ?_
        refine N_then ?_
        refine G_seq ?_
        refine G_seq ?_
        refine G_region ?_
        refine W_run 2 [(0, .slice p7231 x7229.length c7232), (1, .int .i64 x7234), (2, .int .i64 x7235), (8, .slice p7397 r7395.1.length c7398), (9, .bool r7395.2), (10, .slice p7406 r7404.length c7407), (11, .slice p7477 r7475.1.length c7478), (12, .bool r7475.2), (49, .slice p7406 r7404.length c7407), (50, .slice p7231 x7229.length c7232)] w7497 (by kernel_rfl) ?_
        obtain ⟨r7502, hr7502, hm⟩ := gx_bind hm
        refine W_call 17 #[.slice p7231 x7229.length c7232] (by kernel_rfl) (by kernel_rfl) ?_
        refine (c_l_toRegionS w7497 x7229 p7231 c7232 (h7233.mem0 M7498) hr7502).mono ?_
        rintro e_ w7508 ⟨p7504, c7505, sg7506, rfl, ho7507, K7509⟩
        have M7510 := M7498.call K7509
        refine ⟨_, rfl, ?_⟩
        obtain ⟨r7511, hr7511, hm⟩ := gx_bind hm
        refine W_call 20 #[.slice p7406 r7404.length c7407, .slice p7504 r7502.length c7505] (by kernel_rfl) (by kernel_rfl) ?_
        refine (c_l_eqRegionS w7508 r7404 p7406 c7407 (ho7409.rd M7510 1 (by kernel_rfl)) r7502 p7504 c7505 (ho7507.rd M7510 3 (by kernel_rfl)) hr7511).mono ?_
        rintro e_ w7512 ⟨rfl, K7513⟩
        have M7514 := M7510.call0 K7513
        refine ⟨_, rfl, ?_⟩
        refine W_run 1 [(0, .slice p7231 x7229.length c7232), (1, .int .i64 x7234), (2, .int .i64 x7235), (8, .slice p7397 r7395.1.length c7398), (9, .bool r7395.2), (10, .slice p7406 r7404.length c7407), (11, .slice p7477 r7475.1.length c7478), (12, .bool r7475.2), (53, .bool (!r7511))] w7512 (by kernel_rfl) ?_
        refine W_nil ?_
        refine N_then ?_
        rcases gx_bif hm with ⟨hc7515, hm⟩ | ⟨hc7515, hm⟩
        · refine G_cond_t (b := (!r7511)) hc7515 (by kernel_rfl) ?_
          refine G_seq ?_
          refine G_region ?_
          refine W_run 1 [(6, .bool false)] w7512 (by kernel_rfl) ?_
          refine W_nil ?_
          refine N_then ?_
          refine G_ret ?_
          refine N_then_ret ?_
          obtain rfl := Option.some.inj hm
          refine N_ret [.bool false] (RVs_cons (RV_tmp (by kernel_rfl)) RVs_nil) ?_
          exact ⟨rfl, M7514.pick [] (by kernel_rfl)⟩
        · refine G_cond_f (b := (!r7511)) hc7515 (by kernel_rfl) ?_
          refine G_skip ?_
          refine N_then ?_
          refine G_seq ?_
          refine G_region ?_
          refine W_run 1 [(0, .slice p7231 x7229.length c7232), (1, .int .i64 x7234), (2, .int .i64 x7235), (8, .slice p7397 r7395.1.length c7398), (9, .bool r7395.2), (10, .slice p7406 r7404.length c7407), (11, .slice p7477 r7475.1.length c7478), (12, .bool r7475.2), (13, .int .i64 1)] w7512 (by kernel_rfl) ?_
          refine W_nil ?_
          refine N_then ?_
          refine G_seq ?_
          refine G_region ?_
          refine W_run 2 [(0, .slice p7231 x7229.length c7232), (1, .int .i64 x7234), (2, .int .i64 x7235), (8, .slice p7397 r7395.1.length c7398), (9, .bool r7395.2), (11, .slice p7477 r7475.1.length c7478), (12, .bool r7475.2), (13, .int .i64 1), (54, .slice p7406 r7404.length c7407), (55, .int .i64 1)] w7512 (by kernel_rfl) ?_
          obtain ⟨r7516, hr7516, hm⟩ := gx_bind hm
          refine W_call 24 #[.slice p7406 r7404.length c7407, .int .i64 1] (by kernel_rfl) (by kernel_rfl) ?_
          refine (c_l_markRegionS w7512 r7404 p7406 c7407 sg7408 ho7409 1 (M7514.hasPick [1]) (M7514.nodupPick [1] (by kernel_rfl)) hr7516).mono ?_
          rintro e_ w7520 ⟨sg7517, rfl, ho7518, hl7519, K7521⟩
          have M7522 := M7514.callF' [1] [0, 2, 3] (by kernel_rfl) K7521
          refine ⟨_, rfl, ?_⟩
          refine W_conv 54 (.slice p7406 r7404.length c7407) (.slice p7406 r7516.2.length c7407) (by kernel_rfl) (by first | rw [hl7519] | rw [hl7519]) ?_
          refine W_run 1 [(0, .slice p7231 x7229.length c7232), (1, .int .i64 x7234), (2, .int .i64 x7235), (8, .slice p7397 r7395.1.length c7398), (9, .bool r7395.2), (11, .slice p7477 r7475.1.length c7478), (12, .bool r7475.2), (13, .int .i64 r7516.1)] w7520 (by kernel_rfl) ?_
          refine W_nil ?_
          refine N_then ?_
          refine G_seq ?_
          refine G_seq ?_
          obtain ⟨o7529, ho7530, hm7531⟩ := gx_bind hm
          refine G_meet (fun a w' => Mem [] w w' [sg7399, sg7479] ∧ Sat Try.f9.ntmps [(0, .slice p7231 x7229.length c7232), (1, .int .i64 x7234), (2, .int .i64 x7235), (8, .slice p7397 r7395.1.length c7398), (9, .bool r7395.2), (11, .slice p7477 r7475.1.length c7478), (69, .bool o7529)] a) ?_ ?_
          · have hm := ho7530
            refine G_region ?_
            refine W_run 3 [(0, .slice p7231 x7229.length c7232), (1, .int .i64 x7234), (2, .int .i64 x7235), (8, .slice p7397 r7395.1.length c7398), (9, .bool r7395.2), (11, .slice p7477 r7475.1.length c7478), (12, .bool r7475.2), (59, .bool (decide (r7516.1 < 0)))] w7520 (by kernel_rfl) ?_
            rcases gx_bif hm with ⟨hc7532, hm⟩ | ⟨hc7532, hm⟩
            · refine W_known 59 true (by kernel_rfl) hc7532 ?_
              refine W_run 10 [(0, .slice p7231 x7229.length c7232), (1, .int .i64 x7234), (2, .int .i64 x7235), (8, .slice p7397 r7395.1.length c7398), (9, .bool r7395.2), (11, .slice p7477 r7475.1.length c7478), (69, .bool true)] w7520 (by kernel_rfl) ?_
              refine W_nil ?_
              obtain rfl := Option.some.inj hm
              exact N_meet fun a ha => ⟨M7522.pick [0, 1] (by kernel_rfl), ha.sub (by kernel_rfl)⟩
            · refine W_known 59 false (by kernel_rfl) hc7532 ?_
              refine W_run 2 [(0, .slice p7231 x7229.length c7232), (1, .int .i64 x7234), (2, .int .i64 x7235), (8, .slice p7397 r7395.1.length c7398), (9, .bool r7395.2), (11, .slice p7477 r7475.1.length c7478), (12, .bool r7475.2), (59, .bool false), (60, .slice p7477 r7475.1.length c7478), (61, .slice p7397 r7395.1.length c7398)] w7520 (by kernel_rfl) ?_
              obtain ⟨r7533, hr7533, hm⟩ := gx_bind hm
              refine W_call 20 #[.slice p7477 r7475.1.length c7478, .slice p7397 r7395.1.length c7398] (by kernel_rfl) (by kernel_rfl) ?_
              refine (c_l_eqRegionS w7520 r7475.1 p7477 c7478 (ho7480.rd M7522 1 (by kernel_rfl)) r7395.1 p7397 c7398 (ho7400.rd M7522 0 (by kernel_rfl)) hr7533).mono ?_
              rintro e_ w7534 ⟨rfl, K7535⟩
              have M7536 := M7522.call0 K7535
              refine ⟨_, rfl, ?_⟩
              refine W_run 3 [(0, .slice p7231 x7229.length c7232), (1, .int .i64 x7234), (2, .int .i64 x7235), (8, .slice p7397 r7395.1.length c7398), (9, .bool r7395.2), (11, .slice p7477 r7475.1.length c7478), (12, .bool r7475.2), (65, .bool (!r7533))] w7534 (by kernel_rfl) ?_
              rcases gx_bif hm with ⟨hc7537, hm⟩ | ⟨hc7537, hm⟩
              · refine W_known 65 true (by kernel_rfl) hc7537 ?_
                refine W_run 4 [(0, .slice p7231 x7229.length c7232), (1, .int .i64 x7234), (2, .int .i64 x7235), (8, .slice p7397 r7395.1.length c7398), (9, .bool r7395.2), (11, .slice p7477 r7475.1.length c7478), (69, .bool true)] w7534 (by kernel_rfl) ?_
                refine W_nil ?_
                obtain rfl := Option.some.inj hm
                exact N_meet fun a ha => ⟨M7536.pick [0, 1] (by kernel_rfl), ha.sub (by kernel_rfl)⟩
              · refine W_known 65 false (by kernel_rfl) hc7537 ?_
                refine W_run 4 [(0, .slice p7231 x7229.length c7232), (1, .int .i64 x7234), (2, .int .i64 x7235), (8, .slice p7397 r7395.1.length c7398), (9, .bool r7395.2), (11, .slice p7477 r7475.1.length c7478), (69, .bool (!(r7475.2 == r7395.2)))] w7534 (by kernel_rfl) ?_
                refine W_nil ?_
                obtain rfl := Option.some.inj hm
                exact N_meet fun a ha => ⟨M7536.pick [0, 1] (by kernel_rfl), ha.sub (by kernel_rfl)⟩
          · intro a7540 w7538 ⟨M7539, hS7541⟩
            refine N_use hS7541 ?_
            have hm := hm7531
            refine N_then ?_
            rcases gx_bif hm with ⟨hc7542, hm⟩ | ⟨hc7542, hm⟩
            · refine G_cond_t (b := o7529) hc7542 (by kernel_rfl) ?_
              refine G_seq ?_
              refine G_region ?_
              refine W_run 1 [(6, .bool false)] w7538 (by kernel_rfl) ?_
              refine W_nil ?_
              refine N_then ?_
              refine G_ret ?_
              refine N_then_ret ?_
              obtain rfl := Option.some.inj hm
              refine N_ret [.bool false] (RVs_cons (RV_tmp (by kernel_rfl)) RVs_nil) ?_
              exact ⟨rfl, M7539.pick [] (by kernel_rfl)⟩
            · refine G_cond_f (b := o7529) hc7542 (by kernel_rfl) ?_
              refine G_skip ?_
              refine N_then ?_
              refine G_seq ?_
              refine G_region ?_
              refine W_run 1 [(0, .slice p7231 x7229.length c7232), (1, .int .i64 x7234), (2, .int .i64 x7235), (8, .slice p7397 r7395.1.length c7398), (9, .bool r7395.2), (11, .slice p7477 r7475.1.length c7478), (14, .int .i64 1)] w7538 (by kernel_rfl) ?_
              refine W_nil ?_
              refine N_then ?_
              refine G_seq ?_
              refine G_region ?_
              refine W_run 2 [(0, .slice p7231 x7229.length c7232), (1, .int .i64 x7234), (2, .int .i64 x7235), (8, .slice p7397 r7395.1.length c7398), (9, .bool r7395.2), (11, .slice p7477 r7475.1.length c7478), (14, .int .i64 1), (70, .slice p7477 r7475.1.length c7478), (71, .int .i64 1)] w7538 (by kernel_rfl) ?_
              obtain ⟨r7543, hr7543, hm⟩ := gx_bind hm
              refine W_call 24 #[.slice p7477 r7475.1.length c7478, .int .i64 1] (by kernel_rfl) (by kernel_rfl) ?_
              refine (c_l_markRegionS w7538 r7475.1 p7477 c7478 sg7479 ho7480 1 (M7539.hasPick [1]) (M7539.nodupPick [1] (by kernel_rfl)) hr7543).mono ?_
              rintro e_ w7547 ⟨sg7544, rfl, ho7545, hl7546, K7548⟩
              have M7549 := M7539.callF' [1] [0] (by kernel_rfl) K7548
              refine ⟨_, rfl, ?_⟩
              refine W_conv 11 (.slice p7477 r7475.1.length c7478) (.slice p7477 r7543.2.length c7478) (by kernel_rfl) (by first | rw [hl7546] | rw [hl7546]) ?_
              refine W_conv 70 (.slice p7477 r7475.1.length c7478) (.slice p7477 r7543.2.length c7478) (by kernel_rfl) (by first | rw [hl7546] | rw [hl7546]) ?_
              refine W_run 1 [(0, .slice p7231 x7229.length c7232), (1, .int .i64 x7234), (2, .int .i64 x7235), (8, .slice p7397 r7395.1.length c7398), (9, .bool r7395.2), (11, .slice p7477 r7543.2.length c7478), (14, .int .i64 r7543.1)] w7547 (by kernel_rfl) ?_
              refine W_nil ?_
              refine N_then ?_
              refine G_seq ?_
              refine G_region ?_
              refine W_run 1 [(0, .slice p7231 x7229.length c7232), (1, .int .i64 x7234), (2, .int .i64 x7235), (8, .slice p7397 r7395.1.length c7398), (9, .bool r7395.2), (11, .slice p7477 r7543.2.length c7478), (14, .int .i64 r7543.1), (15, .int .i64 1)] w7547 (by kernel_rfl) ?_
              refine W_nil ?_
              refine N_then ?_
              refine G_seq ?_
              refine G_region ?_
              refine W_run 2 [(0, .slice p7231 x7229.length c7232), (1, .int .i64 x7234), (2, .int .i64 x7235), (8, .slice p7397 r7395.1.length c7398), (9, .bool r7395.2), (11, .slice p7477 r7543.2.length c7478), (14, .int .i64 r7543.1), (15, .int .i64 1), (73, .slice p7477 r7543.2.length c7478), (74, .int .i64 1)] w7547 (by kernel_rfl) ?_
              obtain ⟨r7550, hr7550, hm⟩ := gx_bind hm
              refine W_call 37 #[.slice p7477 r7543.2.length c7478, .int .i64 1] (by kernel_rfl) (by kernel_rfl) ?_
              refine (c_l_heldRegionS w7547 r7543.2 p7477 c7478 (ho7545.rd M7549 1 (by kernel_rfl)) 1 hr7550).mono ?_
              rintro e_ w7551 ⟨rfl, K7552⟩
              have M7553 := M7549.call0 K7552
              refine ⟨_, rfl, ?_⟩
              refine W_run 1 [(0, .slice p7231 x7229.length c7232), (1, .int .i64 x7234), (2, .int .i64 x7235), (8, .slice p7397 r7395.1.length c7398), (9, .bool r7395.2), (11, .slice p7477 r7543.2.length c7478), (14, .int .i64 r7543.1), (15, .int .i64 r7550)] w7551 (by kernel_rfl) ?_
              refine W_nil ?_
              refine N_then ?_
              refine G_seq ?_
              refine G_seq ?_
              refine G_region ?_
              refine W_run 2 [(0, .slice p7231 x7229.length c7232), (1, .int .i64 x7234), (2, .int .i64 x7235), (8, .slice p7397 r7395.1.length c7398), (9, .bool r7395.2), (11, .slice p7477 r7543.2.length c7478), (14, .int .i64 r7543.1), (15, .int .i64 r7550), (77, .bool (decide (r7550 < 0)))] w7551 (by kernel_rfl) ?_
              refine W_nil ?_
              refine N_then ?_
              rcases gx_bif hm with ⟨hc7554, hm⟩ | ⟨hc7554, hm⟩
              · refine G_cond_t (b := (decide (r7550 < 0))) hc7554 (by kernel_rfl) ?_
                refine G_seq ?_
                refine G_region ?_
                refine W_run 1 [(6, .bool false)] w7551 (by kernel_rfl) ?_
                refine W_nil ?_
                refine N_then ?_
                refine G_ret ?_
                refine N_then_ret ?_
                obtain rfl := Option.some.inj hm
                refine N_ret [.bool false] (RVs_cons (RV_tmp (by kernel_rfl)) RVs_nil) ?_
                exact ⟨rfl, M7553.pick [] (by kernel_rfl)⟩
              · refine G_cond_f (b := (decide (r7550 < 0))) hc7554 (by kernel_rfl) ?_
                refine G_skip ?_
                refine N_then ?_
                refine G_seq ?_
                refine G_seq ?_
                refine G_region ?_
                refine W_run 3 [(0, .slice p7231 x7229.length c7232), (1, .int .i64 x7234), (2, .int .i64 x7235), (8, .slice p7397 r7395.1.length c7398), (9, .bool r7395.2), (11, .slice p7477 r7543.2.length c7478), (14, .int .i64 r7543.1), (80, .bool (r7550 != r7543.1))] w7551 (by kernel_rfl) ?_
                refine W_nil ?_
                refine N_then ?_
                rcases gx_bif hm with ⟨hc7555, hm⟩ | ⟨hc7555, hm⟩
                · refine G_cond_t (b := (r7550 != r7543.1)) hc7555 (by kernel_rfl) ?_
                  refine G_seq ?_
                  refine G_region ?_
                  refine W_run 1 [(6, .bool false)] w7551 (by kernel_rfl) ?_
                  refine W_nil ?_
                  refine N_then ?_
                  refine G_ret ?_
                  refine N_then_ret ?_
                  obtain rfl := Option.some.inj hm
                  refine N_ret [.bool false] (RVs_cons (RV_tmp (by kernel_rfl)) RVs_nil) ?_
                  exact ⟨rfl, M7553.pick [] (by kernel_rfl)⟩
                · refine G_cond_f (b := (r7550 != r7543.1)) hc7555 (by kernel_rfl) ?_
                  refine G_skip ?_
                  refine N_then ?_
                  refine G_seq ?_
                  refine G_region ?_
                  refine W_run 1 [(1, .int .i64 x7234), (2, .int .i64 x7235), (8, .slice p7397 r7395.1.length c7398), (9, .bool r7395.2), (11, .slice p7477 r7543.2.length c7478), (14, .int .i64 r7543.1), (82, .slice p7231 x7229.length c7232)] w7551 (by kernel_rfl) ?_
                  obtain ⟨r7556, hr7556, hm⟩ := gx_bind hm
                  refine W_call 17 #[.slice p7231 x7229.length c7232] (by kernel_rfl) (by kernel_rfl) ?_
                  refine (c_l_toRegionS w7551 x7229 p7231 c7232 (h7233.mem0 M7553) hr7556).mono ?_
                  rintro e_ w7562 ⟨p7558, c7559, sg7560, rfl, ho7561, K7563⟩
                  have M7564 := M7553.call K7563
                  refine ⟨_, rfl, ?_⟩
                  refine W_run 2 [(8, .slice p7397 r7395.1.length c7398), (9, .bool r7395.2), (11, .slice p7477 r7543.2.length c7478), (14, .int .i64 r7543.1), (83, .slice p7558 r7556.length c7559), (84, .int .i64 x7234), (85, .int .i64 x7235)] w7562 (by kernel_rfl) ?_
                  obtain ⟨r7565, hr7565, hm⟩ := gx_bind hm
                  refine W_call 39 #[.slice p7558 r7556.length c7559, .int .i64 x7234, .int .i64 x7235] (by kernel_rfl) (by kernel_rfl) ?_
                  refine (c_i_MoveRegion w7562 r7556 p7558 c7559 (ho7561.rd M7564 2 (by kernel_rfl)) x7234 x7235 hr7565).mono ?_
                  rintro e_ w7571 ⟨p7567, c7568, sg7569, rfl, ho7570, K7572⟩
                  have M7573 := M7564.call K7572
                  refine ⟨_, rfl, ?_⟩
                  refine W_run 5 [(8, .slice p7397 r7395.1.length c7398), (9, .bool r7395.2), (11, .slice p7477 r7543.2.length c7478), (14, .int .i64 r7543.1), (16, .slice p7567 r7565.1.length c7568), (17, .bool r7565.2)] w7571 (by kernel_rfl) ?_
                  refine W_nil ?_
                  refine N_then ?_
                  refine G_seq ?_
                  refine G_seq ?_
                  obtain ⟨o7579, ho7580, hm7581⟩ := gx_bind hm
                  refine G_meet (fun a w' => Mem [] w w' [sg7544] ∧ Sat Try.f9.ntmps [(11, .slice p7477 r7543.2.length c7478), (14, .int .i64 r7543.1), (97, .bool o7579)] a) ?_ ?_
                  · have hm := ho7580
                    refine G_region ?_
                    refine W_run 2 [(9, .bool r7395.2), (11, .slice p7477 r7543.2.length c7478), (14, .int .i64 r7543.1), (17, .bool r7565.2), (89, .slice p7567 r7565.1.length c7568), (90, .slice p7397 r7395.1.length c7398)] w7571 (by kernel_rfl) ?_
                    obtain ⟨r7582, hr7582, hm⟩ := gx_bind hm
                    refine W_call 20 #[.slice p7567 r7565.1.length c7568, .slice p7397 r7395.1.length c7398] (by kernel_rfl) (by kernel_rfl) ?_
                    refine (c_l_eqRegionS w7571 r7565.1 p7567 c7568 (ho7570.rd M7573 3 (by kernel_rfl)) r7395.1 p7397 c7398 (ho7400.rd M7573 0 (by kernel_rfl)) hr7582).mono ?_
                    rintro e_ w7583 ⟨rfl, K7584⟩
                    have M7585 := M7573.call0 K7584
                    refine ⟨_, rfl, ?_⟩
                    refine W_run 2 [(9, .bool r7395.2), (11, .slice p7477 r7543.2.length c7478), (14, .int .i64 r7543.1), (17, .bool r7565.2), (93, .bool (!r7582))] w7583 (by kernel_rfl) ?_
                    rcases gx_bif hm with ⟨hc7586, hm⟩ | ⟨hc7586, hm⟩
                    · refine W_known 93 true (by kernel_rfl) hc7586 ?_
                      refine W_run 4 [(11, .slice p7477 r7543.2.length c7478), (14, .int .i64 r7543.1), (97, .bool true)] w7583 (by kernel_rfl) ?_
                      refine W_nil ?_
                      obtain rfl := Option.some.inj hm
                      exact N_meet fun a ha => ⟨M7585.pick [1] (by kernel_rfl), ha.sub (by kernel_rfl)⟩
                    · refine W_known 93 false (by kernel_rfl) hc7586 ?_
                      refine W_run 4 [(11, .slice p7477 r7543.2.length c7478), (14, .int .i64 r7543.1), (97, .bool (!(r7565.2 == r7395.2)))] w7583 (by kernel_rfl) ?_
                      refine W_nil ?_
                      obtain rfl := Option.some.inj hm
                      exact N_meet fun a ha => ⟨M7585.pick [1] (by kernel_rfl), ha.sub (by kernel_rfl)⟩
                  · intro a7589 w7587 ⟨M7588, hS7590⟩
                    refine N_use hS7590 ?_
                    have hm := hm7581
                    refine N_then ?_
                    rcases gx_bif hm with ⟨hc7591, hm⟩ | ⟨hc7591, hm⟩
                    · refine G_cond_t (b := o7579) hc7591 (by kernel_rfl) ?_
                      refine G_seq ?_
                      refine G_region ?_
                      refine W_run 1 [(6, .bool false)] w7587 (by kernel_rfl) ?_
                      refine W_nil ?_
                      refine N_then ?_
                      refine G_ret ?_
                      refine N_then_ret ?_
                      obtain rfl := Option.some.inj hm
                      refine N_ret [.bool false] (RVs_cons (RV_tmp (by kernel_rfl)) RVs_nil) ?_
                      exact ⟨rfl, M7588.pick [] (by kernel_rfl)⟩
                    · refine G_cond_f (b := o7579) hc7591 (by kernel_rfl) ?_
                      refine G_skip ?_
                      refine N_then ?_
                      refine G_seq ?_
                      refine G_region ?_
                      refine W_run 1 [(11, .slice p7477 r7543.2.length c7478), (14, .int .i64 r7543.1), (15, .int .i64 1)] w7587 (by kernel_rfl) ?_
                      refine W_nil ?_
                      refine N_then ?_
                      refine G_seq ?_
                      refine G_region ?_
                      refine W_run 2 [(14, .int .i64 r7543.1), (15, .int .i64 1), (98, .slice p7477 r7543.2.length c7478), (99, .int .i64 1)] w7587 (by kernel_rfl) ?_
                      obtain ⟨r7592, hr7592, hm⟩ := gx_bind hm
                      refine W_call 37 #[.slice p7477 r7543.2.length c7478, .int .i64 1] (by kernel_rfl) (by kernel_rfl) ?_
                      refine (c_l_heldRegionS w7587 r7543.2 p7477 c7478 (ho7545.rd M7588 0 (by kernel_rfl)) 1 hr7592).mono ?_
                      rintro e_ w7593 ⟨rfl, K7594⟩
                      have M7595 := M7588.call0 K7594
                      refine ⟨_, rfl, ?_⟩
                      refine W_run 1 [(14, .int .i64 r7543.1), (15, .int .i64 r7592)] w7593 (by kernel_rfl) ?_
                      refine W_nil ?_
                      refine N_then ?_
                      refine G_seq ?_
                      refine G_seq ?_
                      refine G_region ?_
                      refine W_run 2 [(14, .int .i64 r7543.1), (15, .int .i64 r7592), (102, .bool (decide (r7592 < 0)))] w7593 (by kernel_rfl) ?_
                      refine W_nil ?_
                      refine N_then ?_
                      rcases gx_bif hm with ⟨hc7596, hm⟩ | ⟨hc7596, hm⟩
                      · refine G_cond_t (b := (decide (r7592 < 0))) hc7596 (by kernel_rfl) ?_
                        refine G_seq ?_
                        refine G_region ?_
                        refine W_run 1 [(6, .bool false)] w7593 (by kernel_rfl) ?_
                        refine W_nil ?_
                        refine N_then ?_
                        refine G_ret ?_
                        refine N_then_ret ?_
                        obtain rfl := Option.some.inj hm
                        refine N_ret [.bool false] (RVs_cons (RV_tmp (by kernel_rfl)) RVs_nil) ?_
                        exact ⟨rfl, M7595.pick [] (by kernel_rfl)⟩
                      · refine G_cond_f (b := (decide (r7592 < 0))) hc7596 (by kernel_rfl) ?_
                        refine G_skip ?_
                        refine N_then ?_
                        refine G_seq ?_
                        refine G_seq ?_
                        refine G_region ?_
                        refine W_run 3 [(105, .bool (r7592 != r7543.1))] w7593 (by kernel_rfl) ?_
                        refine W_nil ?_
                        refine N_then ?_
                        rcases gx_bif hm with ⟨hc7597, hm⟩ | ⟨hc7597, hm⟩
                        · refine G_cond_t (b := (r7592 != r7543.1)) hc7597 (by kernel_rfl) ?_
                          refine G_seq ?_
                          refine G_region ?_
                          refine W_run 1 [(6, .bool false)] w7593 (by kernel_rfl) ?_
                          refine W_nil ?_
                          refine N_then ?_
                          refine G_ret ?_
                          refine N_then_ret ?_
                          obtain rfl := Option.some.inj hm
                          refine N_ret [.bool false] (RVs_cons (RV_tmp (by kernel_rfl)) RVs_nil) ?_
                          exact ⟨rfl, M7595.pick [] (by kernel_rfl)⟩
                        · refine G_cond_f (b := (r7592 != r7543.1)) hc7597 (by kernel_rfl) ?_
                          refine G_skip ?_
                          refine N_then ?_
                          refine G_seq ?_
                          refine G_region ?_
                          refine W_run 1 [(6, .bool true)] w7593 (by kernel_rfl) ?_
                          refine W_nil ?_
                          refine N_then ?_
                          refine G_ret ?_
                          obtain rfl := Option.some.inj hm
                          refine N_ret [.bool true] (RVs_cons (RV_tmp (by kernel_rfl)) RVs_nil) ?_
                          exact ⟨rfl, M7595.pick [] (by kernel_rfl)⟩
theorem c_l_rBig (w : World) (x7603 : List Int) (p7605 : Option Addr) (c7606 : Nat) (h7607 : rdS encU8 w x7603 p7605 c7606) {r : Bool} (hm : M.l_rBig x7603 = some r) :
    Calls Try.prog 40 #[.slice p7605 x7603.length c7606] w fun e w' => e = .returned (.bool r) ∧ Mem [] w w' [] := by
  unfold M.l_rBig at hm
  refine C_enter Try.func40 rfl (by kernel_rfl) ?_
  have M0 := Mem.refl [] w
  refine G_seq ?_
  refine G_region ?_
  refine W_run 1 [(0, .slice p7605 x7603.length c7606)] w (by kernel_rfl) ?_
  refine W_nil ?_
  refine N_then ?_
  refine G_seq ?_
  refine G_region ?_
  refine W_run 4 [(2, .bool (decide ((x7603.length : Int) > 65536)))] w (by kernel_rfl) ?_
  refine W_nil ?_
  refine N_then ?_
  refine G_ret ?_
  obtain rfl := Option.some.inj hm
  refine N_ret [.bool (decide ((x7603.length : Int) > 65536))] (RVs_cons (RV_tmp (by kernel_rfl)) RVs_nil) ?_
  exact ⟨rfl, M0.pick [] (by kernel_rfl)⟩
theorem c_s_l1Cur_next (w : World) (x7662 : l1Cur) (p7666 : Option Addr) (c7667 : Nat) (h7668 : rdS encU8 w x7662.code p7666 c7667) (b7664 : Nat) (hA : ∀ q ∈ List.flatten [[(b7664, .cells ⟨[.slice p7666 x7662.code.length c7667, .int .i64 x7662.at_, .int .u64 x7662.seed]⟩ 89 (0, 0))]], w.heap[q.1]? = some q.2) (hN : (idsOf [[(b7664, .cells ⟨[.slice p7666 x7662.code.length c7667, .int .i64 x7662.at_, .int .u64 x7662.seed]⟩ 89 (0, 0))]]).Nodup) (hap7669 : apartX (idsOf [[(b7664, .cells ⟨[.slice p7666 x7662.code.length c7667, .int .i64 x7662.at_, .int .u64 x7662.seed]⟩ 89 (0, 0))]]) x7662.code p7666) {r : Int × Int × Int} (hm : M.s_l1Cur_next x7662 = some r) :
    Calls Try.prog 93 #[.pointer (some ⟨b7664, 0, none⟩)] w fun e w' => e = .returned (.int .i64 r.1) ∧ Mem (idsOf [[(b7664, .cells ⟨[.slice p7666 x7662.code.length c7667, .int .i64 x7662.at_, .int .u64 x7662.seed]⟩ 89 (0, 0))]]) w w' [[(b7664, .cells ⟨[.slice p7666 x7662.code.length c7667, .int .i64 r.2.1, .int .u64 r.2.2]⟩ 89 (0, 0))]] := by
  unfold M.s_l1Cur_next at hm
  refine C_enter Try.func93 rfl (by kernel_rfl) ?_
  have M0 := Mem.start' w [[(b7664, .cells ⟨[.slice p7666 x7662.code.length c7667, .int .i64 x7662.at_, .int .u64 x7662.seed]⟩ 89 (0, 0))]] hA hN
  refine G_seq ?_
  refine G_region ?_
  refine W_run 1 [(0, .pointer (some ⟨b7664, 0, none⟩))] w (by kernel_rfl) ?_
  refine W_nil ?_
  refine N_then ?_
  refine G_seq ?_
  refine G_region ?_
  refine W_run 1 [(0, .pointer (some ⟨b7664, 0, none⟩)), (3, .int .i64 0)] w (by kernel_rfl) ?_
  refine W_nil ?_
  refine N_then ?_
  refine G_seq ?_
  refine G_seq ?_
  refine G_quiet (by kernel_rfl) (by kernel_rfl) M0 ?_
  refine Z_runs [.pointer (some ⟨b7664, 0, none⟩), .pointer (some ⟨b7664, 0, none⟩), .pointer (some ⟨b7664, 1, none⟩)] [(0, .pointer (some ⟨b7664, 0, none⟩)), (3, .int .i64 0), (6, .pointer (some ⟨b7664, 1, none⟩))] (fun w_ => by kernel_rfl) (by kernel_rfl) ?_
  refine Z_val (.int .i64 x7662.at_) (by kernel_rfl) (fun w_ M_ => (E_load (e := 89) (fr := (0, 0)) _ _ false 1 b7664 1 [.slice p7666 x7662.code.length c7667, .int .i64 x7662.at_, .int .u64 x7662.seed] (.int .i64 x7662.at_) rfl (by kernel_rfl) (by kernel_rfl) (by kernel_rfl) (M_.blk 0 (b := b7664) (o := .cells ⟨[.slice p7666 x7662.code.length c7667, .int .i64 x7662.at_, .int .u64 x7662.seed]⟩ 89 (0, 0)) (by kernel_rfl)))) ?_
  refine Z_runs [.pointer (some ⟨b7664, 0, none⟩), .pointer (some ⟨b7664, 0, none⟩), .pointer (some ⟨b7664, 0, none⟩)] [(0, .pointer (some ⟨b7664, 0, none⟩)), (3, .int .i64 0), (7, .int .i64 x7662.at_), (10, .pointer (some ⟨b7664, 0, none⟩))] (fun w_ => by kernel_rfl) (by kernel_rfl) ?_
  refine Z_val (.slice p7666 x7662.code.length c7667) (by kernel_rfl) (fun w_ M_ => (E_load (e := 89) (fr := (0, 0)) _ _ false 1 b7664 0 [.slice p7666 x7662.code.length c7667, .int .i64 x7662.at_, .int .u64 x7662.seed] (.slice p7666 x7662.code.length c7667) rfl (by kernel_rfl) (by kernel_rfl) (by kernel_rfl) (M_.blk 0 (b := b7664) (o := .cells ⟨[.slice p7666 x7662.code.length c7667, .int .i64 x7662.at_, .int .u64 x7662.seed]⟩ 89 (0, 0)) (by kernel_rfl)))) ?_
  refine Z_runs [.int .i64 (x7662.code.length : Int), .bool (decide (x7662.at_ < (x7662.code.length : Int)))] [(0, .pointer (some ⟨b7664, 0, none⟩)), (3, .int .i64 0), (13, .bool (decide (x7662.at_ < (x7662.code.length : Int))))] (fun w_ => by kernel_rfl) (by kernel_rfl) ?_
  refine Z_end fun w7670 M7671 => ?_
  refine N_then ?_
  obtain ⟨o7676, ho7677, hm7678⟩ := gx_bind hm
  refine G_meet (fun a w' => Mem (idsOf [[(b7664, .cells ⟨[.slice p7666 x7662.code.length c7667, .int .i64 x7662.at_, .int .u64 x7662.seed]⟩ 89 (0, 0))]]) w w' [[(b7664, .cells ⟨[.slice p7666 x7662.code.length c7667, .int .i64 x7662.at_, .int .u64 x7662.seed]⟩ 89 (0, 0))]] ∧ Sat Try.f93.ntmps [(0, .pointer (some ⟨b7664, 0, none⟩)), (3, .int .i64 o7676)] a) ?_ ?_
  · have hm := ho7677
    rcases gx_bif hm with ⟨hc7679, hm⟩ | ⟨hc7679, hm⟩
    · refine G_cond_t (b := (decide (x7662.at_ < (x7662.code.length : Int)))) hc7679 (by kernel_rfl) ?_
      refine G_quiet (by kernel_rfl) (by kernel_rfl) M7671 ?_
      refine Z_runs [.pointer (some ⟨b7664, 0, none⟩), .pointer (some ⟨b7664, 0, none⟩), .pointer (some ⟨b7664, 0, none⟩)] [(0, .pointer (some ⟨b7664, 0, none⟩)), (3, .int .i64 0), (16, .pointer (some ⟨b7664, 0, none⟩))] (fun w_ => by kernel_rfl) (by kernel_rfl) ?_
      refine Z_val (.slice p7666 x7662.code.length c7667) (by kernel_rfl) (fun w_ M_ => (E_load (e := 89) (fr := (0, 0)) _ _ false 1 b7664 0 [.slice p7666 x7662.code.length c7667, .int .i64 x7662.at_, .int .u64 x7662.seed] (.slice p7666 x7662.code.length c7667) rfl (by kernel_rfl) (by kernel_rfl) (by kernel_rfl) (M_.blk 0 (b := b7664) (o := .cells ⟨[.slice p7666 x7662.code.length c7667, .int .i64 x7662.at_, .int .u64 x7662.seed]⟩ 89 (0, 0)) (by kernel_rfl)))) ?_
      refine Z_runs [.pointer (some ⟨b7664, 0, none⟩), .pointer (some ⟨b7664, 0, none⟩), .pointer (some ⟨b7664, 1, none⟩)] [(0, .pointer (some ⟨b7664, 0, none⟩)), (3, .int .i64 0), (17, .slice p7666 x7662.code.length c7667), (20, .pointer (some ⟨b7664, 1, none⟩))] (fun w_ => by kernel_rfl) (by kernel_rfl) ?_
      refine Z_val (.int .i64 x7662.at_) (by kernel_rfl) (fun w_ M_ => (E_load (e := 89) (fr := (0, 0)) _ _ false 1 b7664 1 [.slice p7666 x7662.code.length c7667, .int .i64 x7662.at_, .int .u64 x7662.seed] (.int .i64 x7662.at_) rfl (by kernel_rfl) (by kernel_rfl) (by kernel_rfl) (M_.blk 0 (b := b7664) (o := .cells ⟨[.slice p7666 x7662.code.length c7667, .int .i64 x7662.at_, .int .u64 x7662.seed]⟩ 89 (0, 0)) (by kernel_rfl)))) ?_
      obtain ⟨y7680, hy7680, hm⟩ := gx_bind hm
      refine Z_val (elemP p7666 (x7662.at_.toNat * 1)) (by kernel_rfl) (fun w_ M_ => (E_index (E := encU8) _ _ _ x7662.code.length c7667 .i64 x7662.at_ 1 (y := y7680) rfl (by kernel_rfl) (by kernel_rfl) (by kernel_rfl) (h7668.memX hap7669 M_) rfl hy7680)) ?_
      refine Z_val (.int .u8 y7680) (by kernel_rfl) (fun w_ M_ => (E_loadE (E := encU8) _ _ false 1 x7662.at_ 0 (x7662.at_.toNat * 1) y7680 (.int .u8 y7680) rfl (by kernel_rfl) (by kernel_rfl) (by kernel_rfl) (h7668.memX hap7669 M_) hy7680 rfl)) ?_
      refine Z_runs [.int .i64 (w64 y7680), .int .i64 (w64 y7680)] [(0, .pointer (some ⟨b7664, 0, none⟩)), (3, .int .i64 (w64 y7680))] (fun w_ => by kernel_rfl) (by kernel_rfl) ?_
      refine Z_end fun w7681 M7682 => ?_
      obtain rfl := Option.some.inj hm
      exact N_meet fun a ha => ⟨M7682.pick [0] (by kernel_rfl), ha.sub (by kernel_rfl)⟩
    · refine G_cond_f (b := (decide (x7662.at_ < (x7662.code.length : Int)))) hc7679 (by kernel_rfl) ?_
      refine G_skip ?_
      obtain rfl := Option.some.inj hm
      exact N_meet fun a ha => ⟨M7671.pick [0] (by kernel_rfl), ha.sub (by kernel_rfl)⟩
  · intro a7685 w7683 ⟨M7684, hS7686⟩
    refine N_use hS7686 ?_
    have hm := hm7678
    refine N_then ?_
    refine G_seq ?_
    refine G_region ?_
    refine W_run 3 [(0, .pointer (some ⟨b7664, 0, none⟩)), (3, .int .i64 o7676), (25, .pointer (some ⟨b7664, 0, none⟩)), (27, .pointer (some ⟨b7664, 1, none⟩))] w7683 (by kernel_rfl) ?_
    refine W_val (.int .i64 x7662.at_) w7683 (by kernel_rfl) (E_load (e := 89) (fr := (0, 0)) _ _ false 1 b7664 1 [.slice p7666 x7662.code.length c7667, .int .i64 x7662.at_, .int .u64 x7662.seed] (.int .i64 x7662.at_) rfl (by kernel_rfl) (by kernel_rfl) (by kernel_rfl) (M7684.blk 0 (b := b7664) (o := .cells ⟨[.slice p7666 x7662.code.length c7667, .int .i64 x7662.at_, .int .u64 x7662.seed]⟩ 89 (0, 0)) (by kernel_rfl))) ?_
    refine W_run 3 [(0, .pointer (some ⟨b7664, 0, none⟩)), (3, .int .i64 o7676), (29, .int .i64 (w64 (x7662.at_ + 1))), (31, .pointer (some ⟨b7664, 1, none⟩))] w7683 (by kernel_rfl) ?_
    refine W_store _ _ _ false 1 b7664 1 [.slice p7666 x7662.code.length c7667, .int .i64 x7662.at_, .int .u64 x7662.seed] 89 (.int .i64 (w64 (x7662.at_ + 1))) 0 [.slice p7666 x7662.code.length c7667, .int .i64 (w64 (x7662.at_ + 1)), .int .u64 x7662.seed] M7684 (by kernel_rfl) rfl (by kernel_rfl) (by kernel_rfl) (by kernel_rfl) (by kernel_rfl) (by kernel_rfl) (by kernel_rfl) (by kernel_rfl) (by kernel_rfl) ?_
    intro w7687 M7688
    refine W_nil ?_
    refine N_then ?_
    refine G_seq ?_
    refine G_region ?_
    refine W_run 4 [(0, .pointer (some ⟨b7664, 0, none⟩)), (3, .int .i64 o7676), (32, .pointer (some ⟨b7664, 0, none⟩)), (35, .pointer (some ⟨b7664, 2, none⟩))] w7687 (by kernel_rfl) ?_
    refine W_val (.int .u64 x7662.seed) w7687 (by kernel_rfl) (E_load (e := 89) (fr := (0, 0)) _ _ false 1 b7664 2 [.slice p7666 x7662.code.length c7667, .int .i64 (w64 (x7662.at_ + 1)), .int .u64 x7662.seed] (.int .u64 x7662.seed) rfl (by kernel_rfl) (by kernel_rfl) (by kernel_rfl) (M7688.blk 0 (b := b7664) (o := .cells ⟨[.slice p7666 x7662.code.length c7667, .int .i64 (w64 (x7662.at_ + 1)), .int .u64 x7662.seed]⟩ 89 (0, 0)) (by kernel_rfl))) ?_
    refine W_run 7 [(0, .pointer (some ⟨b7664, 0, none⟩)), (3, .int .i64 o7676), (41, .int .u64 (IntKind.u64.wrap ((IntKind.u64.wrap ((IntKind.u64.wrap (x7662.seed * 6364136223846793005)) + (IntKind.u64.wrap o7676))) + 843843))), (43, .pointer (some ⟨b7664, 2, none⟩))] w7687 (by kernel_rfl) ?_
    refine W_store _ _ _ false 1 b7664 2 [.slice p7666 x7662.code.length c7667, .int .i64 (w64 (x7662.at_ + 1)), .int .u64 x7662.seed] 89 (.int .u64 (IntKind.u64.wrap ((IntKind.u64.wrap ((IntKind.u64.wrap (x7662.seed * 6364136223846793005)) + (IntKind.u64.wrap o7676))) + 843843))) 0 [.slice p7666 x7662.code.length c7667, .int .i64 (w64 (x7662.at_ + 1)), .int .u64 (IntKind.u64.wrap ((IntKind.u64.wrap ((IntKind.u64.wrap (x7662.seed * 6364136223846793005)) + (IntKind.u64.wrap o7676))) + 843843))] M7688 (by kernel_rfl) rfl (by kernel_rfl) (by kernel_rfl) (by kernel_rfl) (by kernel_rfl) (by kernel_rfl) (by kernel_rfl) (by kernel_rfl) (by kernel_rfl) ?_
    intro w7689 M7690
    refine W_nil ?_
    refine N_then ?_
    refine G_seq ?_
    refine G_seq ?_
    refine G_quiet (by kernel_rfl) (by kernel_rfl) M7690 ?_
    refine Z_runs [.pointer (some ⟨b7664, 0, none⟩), .pointer (some ⟨b7664, 0, none⟩), .pointer (some ⟨b7664, 1, none⟩)] [(0, .pointer (some ⟨b7664, 0, none⟩)), (3, .int .i64 o7676), (46, .pointer (some ⟨b7664, 1, none⟩))] (fun w_ => by kernel_rfl) (by kernel_rfl) ?_
    refine Z_val (.int .i64 (w64 (x7662.at_ + 1))) (by kernel_rfl) (fun w_ M_ => (E_load (e := 89) (fr := (0, 0)) _ _ false 1 b7664 1 [.slice p7666 x7662.code.length c7667, .int .i64 (w64 (x7662.at_ + 1)), .int .u64 (IntKind.u64.wrap ((IntKind.u64.wrap ((IntKind.u64.wrap (x7662.seed * 6364136223846793005)) + (IntKind.u64.wrap o7676))) + 843843))] (.int .i64 (w64 (x7662.at_ + 1))) rfl (by kernel_rfl) (by kernel_rfl) (by kernel_rfl) (M_.blk 0 (b := b7664) (o := .cells ⟨[.slice p7666 x7662.code.length c7667, .int .i64 (w64 (x7662.at_ + 1)), .int .u64 (IntKind.u64.wrap ((IntKind.u64.wrap ((IntKind.u64.wrap (x7662.seed * 6364136223846793005)) + (IntKind.u64.wrap o7676))) + 843843))]⟩ 89 (0, 0)) (by kernel_rfl)))) ?_
    refine Z_runs [.pointer (some ⟨b7664, 0, none⟩), .pointer (some ⟨b7664, 0, none⟩), .pointer (some ⟨b7664, 0, none⟩)] [(0, .pointer (some ⟨b7664, 0, none⟩)), (3, .int .i64 o7676), (47, .int .i64 (w64 (x7662.at_ + 1))), (50, .pointer (some ⟨b7664, 0, none⟩))] (fun w_ => by kernel_rfl) (by kernel_rfl) ?_
    refine Z_val (.slice p7666 x7662.code.length c7667) (by kernel_rfl) (fun w_ M_ => (E_load (e := 89) (fr := (0, 0)) _ _ false 1 b7664 0 [.slice p7666 x7662.code.length c7667, .int .i64 (w64 (x7662.at_ + 1)), .int .u64 (IntKind.u64.wrap ((IntKind.u64.wrap ((IntKind.u64.wrap (x7662.seed * 6364136223846793005)) + (IntKind.u64.wrap o7676))) + 843843))] (.slice p7666 x7662.code.length c7667) rfl (by kernel_rfl) (by kernel_rfl) (by kernel_rfl) (M_.blk 0 (b := b7664) (o := .cells ⟨[.slice p7666 x7662.code.length c7667, .int .i64 (w64 (x7662.at_ + 1)), .int .u64 (IntKind.u64.wrap ((IntKind.u64.wrap ((IntKind.u64.wrap (x7662.seed * 6364136223846793005)) + (IntKind.u64.wrap o7676))) + 843843))]⟩ 89 (0, 0)) (by kernel_rfl)))) ?_
    refine Z_runs [.int .i64 (x7662.code.length : Int), .bool (decide ((w64 (x7662.at_ + 1)) ≤ (x7662.code.length : Int)))] [(0, .pointer (some ⟨b7664, 0, none⟩)), (3, .int .i64 o7676), (53, .bool (decide ((w64 (x7662.at_ + 1)) ≤ (x7662.code.length : Int))))] (fun w_ => by kernel_rfl) (by kernel_rfl) ?_
    refine Z_end fun w7691 M7692 => ?_
    refine N_then ?_
    rcases gx_bif hm with ⟨hc7693, hm⟩ | ⟨hc7693, hm⟩
    · refine G_cond_t (b := (decide ((w64 (x7662.at_ + 1)) ≤ (x7662.code.length : Int)))) hc7693 (by kernel_rfl) ?_
      refine G_seq ?_
      refine G_region ?_
      refine W_run 2 [(2, .int .i64 o7676)] w7691 (by kernel_rfl) ?_
      refine W_nil ?_
      refine N_then ?_
      refine G_ret ?_
      refine N_then_ret ?_
      obtain rfl := Option.some.inj hm
      refine N_ret [.int .i64 o7676] (RVs_cons (RV_tmp (by kernel_rfl)) RVs_nil) ?_
      exact ⟨rfl, M7692.pick [0] (by kernel_rfl)⟩
    · refine G_cond_f (b := (decide ((w64 (x7662.at_ + 1)) ≤ (x7662.code.length : Int)))) hc7693 (by kernel_rfl) ?_
      refine G_skip ?_
      refine N_then ?_
      refine G_seq ?_
      refine G_region ?_
      refine W_run 3 [(57, .pointer (some ⟨b7664, 2, none⟩))] w7691 (by kernel_rfl) ?_
      refine W_val (.int .u64 (IntKind.u64.wrap ((IntKind.u64.wrap ((IntKind.u64.wrap (x7662.seed * 6364136223846793005)) + (IntKind.u64.wrap o7676))) + 843843))) w7691 (by kernel_rfl) (E_load (e := 89) (fr := (0, 0)) _ _ false 1 b7664 2 [.slice p7666 x7662.code.length c7667, .int .i64 (w64 (x7662.at_ + 1)), .int .u64 (IntKind.u64.wrap ((IntKind.u64.wrap ((IntKind.u64.wrap (x7662.seed * 6364136223846793005)) + (IntKind.u64.wrap o7676))) + 843843))] (.int .u64 (IntKind.u64.wrap ((IntKind.u64.wrap ((IntKind.u64.wrap (x7662.seed * 6364136223846793005)) + (IntKind.u64.wrap o7676))) + 843843))) rfl (by kernel_rfl) (by kernel_rfl) (by kernel_rfl) (M7692.blk 0 (b := b7664) (o := .cells ⟨[.slice p7666 x7662.code.length c7667, .int .i64 (w64 (x7662.at_ + 1)), .int .u64 (IntKind.u64.wrap ((IntKind.u64.wrap ((IntKind.u64.wrap (x7662.seed * 6364136223846793005)) + (IntKind.u64.wrap o7676))) + 843843))]⟩ 89 (0, 0)) (by kernel_rfl))) ?_
      refine W_run 4 [(2, .int .i64 (w64 (gxAnd .u64 ((IntKind.u64.wrap ((IntKind.u64.wrap ((IntKind.u64.wrap (x7662.seed * 6364136223846793005)) + (IntKind.u64.wrap o7676))) + 843843)).fdiv (2 ^ 40)) 255)))] w7691 (by kernel_rfl) ?_
      refine W_nil ?_
      refine N_then ?_
      refine G_ret ?_
      obtain rfl := Option.some.inj hm
      refine N_ret [.int .i64 (w64 (gxAnd .u64 ((IntKind.u64.wrap ((IntKind.u64.wrap ((IntKind.u64.wrap (x7662.seed * 6364136223846793005)) + (IntKind.u64.wrap o7676))) + 843843)).fdiv (2 ^ 40)) 255))] (RVs_cons (RV_tmp (by kernel_rfl)) RVs_nil) ?_
      exact ⟨rfl, M7692.pick [0] (by kernel_rfl)⟩
theorem c_s_l1Cur_pick (w : World) (x7652 : l1Cur) (p7656 : Option Addr) (c7657 : Nat) (h7658 : rdS encU8 w x7652.code p7656 c7657) (b7654 : Nat) (x7660 : Int) (hA : ∀ q ∈ List.flatten [[(b7654, .cells ⟨[.slice p7656 x7652.code.length c7657, .int .i64 x7652.at_, .int .u64 x7652.seed]⟩ 89 (0, 0))]], w.heap[q.1]? = some q.2) (hN : (idsOf [[(b7654, .cells ⟨[.slice p7656 x7652.code.length c7657, .int .i64 x7652.at_, .int .u64 x7652.seed]⟩ 89 (0, 0))]]).Nodup) (hap7659 : apartX (idsOf [[(b7654, .cells ⟨[.slice p7656 x7652.code.length c7657, .int .i64 x7652.at_, .int .u64 x7652.seed]⟩ 89 (0, 0))]]) x7652.code p7656) {r : Int × Int × Int} (hm : M.s_l1Cur_pick x7652 x7660 = some r) :
    Calls Try.prog 81 #[.pointer (some ⟨b7654, 0, none⟩), .int .i64 x7660] w fun e w' => e = .returned (.int .i64 r.1) ∧ Mem (idsOf [[(b7654, .cells ⟨[.slice p7656 x7652.code.length c7657, .int .i64 x7652.at_, .int .u64 x7652.seed]⟩ 89 (0, 0))]]) w w' [[(b7654, .cells ⟨[.slice p7656 x7652.code.length c7657, .int .i64 r.2.1, .int .u64 r.2.2]⟩ 89 (0, 0))]] := by
  unfold M.s_l1Cur_pick at hm
  refine C_enter Try.func81 rfl (by kernel_rfl) ?_
  have M0 := Mem.start' w [[(b7654, .cells ⟨[.slice p7656 x7652.code.length c7657, .int .i64 x7652.at_, .int .u64 x7652.seed]⟩ 89 (0, 0))]] hA hN
  refine G_seq ?_
  refine G_region ?_
  refine W_run 1 [(0, .pointer (some ⟨b7654, 0, none⟩)), (1, .int .i64 x7660)] w (by kernel_rfl) ?_
  refine W_nil ?_
  refine N_then ?_
  refine G_seq ?_
  refine G_seq ?_
  refine G_region ?_
  refine W_run 2 [(0, .pointer (some ⟨b7654, 0, none⟩)), (1, .int .i64 x7660), (7, .bool (decide (x7660 ≤ 1)))] w (by kernel_rfl) ?_
  refine W_nil ?_
  refine N_then ?_
  rcases gx_bif hm with ⟨hc7661, hm⟩ | ⟨hc7661, hm⟩
  · refine G_cond_t (b := (decide (x7660 ≤ 1))) hc7661 (by kernel_rfl) ?_
    refine G_seq ?_
    refine G_region ?_
    refine W_run 1 [(4, .int .i64 0)] w (by kernel_rfl) ?_
    refine W_nil ?_
    refine N_then ?_
    refine G_ret ?_
    refine N_then_ret ?_
    obtain rfl := Option.some.inj hm
    refine N_ret [.int .i64 0] (RVs_cons (RV_tmp (by kernel_rfl)) RVs_nil) ?_
    exact ⟨rfl, M0.pick [0] (by kernel_rfl)⟩
  · refine G_cond_f (b := (decide (x7660 ≤ 1))) hc7661 (by kernel_rfl) ?_
    refine G_skip ?_
    refine N_then ?_
    refine G_seq ?_
    refine G_region ?_
    refine W_run 1 [(0, .pointer (some ⟨b7654, 0, none⟩)), (1, .int .i64 x7660), (8, .pointer (some ⟨b7654, 0, none⟩))] w (by kernel_rfl) ?_
    obtain ⟨r7694, hr7694, hm⟩ := gx_bind hm
    refine W_call 93 #[.pointer (some ⟨b7654, 0, none⟩)] (by kernel_rfl) (by kernel_rfl) ?_
    refine (c_s_l1Cur_next w x7652 p7656 c7657 (h7658.memX hap7659 M0) b7654 (M0.hasPick [0]) (M0.nodupPick [0] (by kernel_rfl)) (apartX.old h7658 hap7659 M0 [0]) hr7694).mono ?_
    rintro e_ w7695 ⟨rfl, K7696⟩
    have M7697 := M0.callF' [0] [] (by kernel_rfl) K7696
    refine ⟨_, rfl, ?_⟩
    refine W_run 1 [(0, .pointer (some ⟨b7654, 0, none⟩)), (1, .int .i64 x7660), (5, .int .i64 r7694.1)] w7695 (by kernel_rfl) ?_
    refine W_nil ?_
    refine N_then ?_
    refine G_seq ?_
    refine G_seq ?_
    refine G_region ?_
    refine W_run 2 [(0, .pointer (some ⟨b7654, 0, none⟩)), (1, .int .i64 x7660), (5, .int .i64 r7694.1), (11, .bool (decide (x7660 > 200)))] w7695 (by kernel_rfl) ?_
    refine W_nil ?_
    refine N_then ?_
    obtain ⟨o7703, ho7704, hm7705⟩ := gx_bind hm
    refine G_meet (fun a w' => Mem (idsOf [[(b7654, .cells ⟨[.slice p7656 x7652.code.length c7657, .int .i64 x7652.at_, .int .u64 x7652.seed]⟩ 89 (0, 0))]]) w w' [[(b7654, .cells ⟨[.slice p7656 x7652.code.length c7657, .int .i64 o7703.2.1, .int .u64 o7703.2.2]⟩ 89 (0, 0))]] ∧ Sat Try.f81.ntmps [(1, .int .i64 x7660), (5, .int .i64 o7703.1)] a) ?_ ?_
    · have hm := ho7704
      rcases gx_bif hm with ⟨hc7706, hm⟩ | ⟨hc7706, hm⟩
      · refine G_cond_t (b := (decide (x7660 > 200))) hc7706 (by kernel_rfl) ?_
        refine G_region ?_
        refine W_run 3 [(1, .int .i64 x7660), (5, .int .i64 r7694.1), (13, .int .i64 (w64 (r7694.1 * 256))), (14, .pointer (some ⟨b7654, 0, none⟩))] w7695 (by kernel_rfl) ?_
        obtain ⟨r7707, hr7707, hm⟩ := gx_bind hm
        refine W_call 93 #[.pointer (some ⟨b7654, 0, none⟩)] (by kernel_rfl) (by kernel_rfl) ?_
        refine (c_s_l1Cur_next w7695 (⟨x7652.code, r7694.2.1, r7694.2.2⟩ : l1Cur) p7656 c7657 (h7658.memX hap7659 M7697) b7654 (M7697.hasPick [0]) (M7697.nodupPick [0] (by kernel_rfl)) (apartX.old h7658 hap7659 M7697 [0]) hr7707).mono ?_
        rintro e_ w7708 ⟨rfl, K7709⟩
        have M7710 := M7697.callF' [0] [] (by kernel_rfl) K7709
        refine ⟨_, rfl, ?_⟩
        refine W_run 2 [(1, .int .i64 x7660), (5, .int .i64 (w64 ((w64 (r7694.1 * 256)) + r7707.1)))] w7708 (by kernel_rfl) ?_
        refine W_nil ?_
        obtain rfl := Option.some.inj hm
        exact N_meet fun a ha => ⟨M7710.pick [0] (by kernel_rfl), ha.sub (by kernel_rfl)⟩
      · refine G_cond_f (b := (decide (x7660 > 200))) hc7706 (by kernel_rfl) ?_
        refine G_skip ?_
        obtain rfl := Option.some.inj hm
        exact N_meet fun a ha => ⟨M7697.pick [0] (by kernel_rfl), ha.sub (by kernel_rfl)⟩
    · intro a7713 w7711 ⟨M7712, hS7714⟩
      refine N_use hS7714 ?_
      have hm := hm7705
      refine N_then ?_
      refine G_seq ?_
      refine G_region ?_
      refine W_run 2 [(17, .int .i64 o7703.1), (18, .int .i64 x7660)] w7711 (by kernel_rfl) ?_
      obtain ⟨q7715, hq7715, hm⟩ := gx_bind hm
      refine W_val (.int .i64 q7715) w7711 (by kernel_rfl) (E_rem _ _ _ _ o7703.1 x7660 q7715 rfl (by kernel_rfl) (by kernel_rfl) hq7715) ?_
      refine W_run 1 [(4, .int .i64 q7715)] w7711 (by kernel_rfl) ?_
      refine W_nil ?_
      refine N_then ?_
      refine G_ret ?_
      obtain rfl := Option.some.inj hm
      refine N_ret [.int .i64 q7715] (RVs_cons (RV_tmp (by kernel_rfl)) RVs_nil) ?_
      exact ⟨rfl, M7712.pick [0] (by kernel_rfl)⟩
theorem c_s_l1Cur_among (w : World) (x7740 : l1Cur) (p7744 : Option Addr) (c7745 : Nat) (h7746 : rdS encU8 w x7740.code p7744 c7745) (b7742 : Nat) (x7748 : List Int) (p7750 : Option Addr) (c7751 : Nat) (h7752 : rdS encI w x7748 p7750 c7751) (hA : ∀ q ∈ List.flatten [[(b7742, .cells ⟨[.slice p7744 x7740.code.length c7745, .int .i64 x7740.at_, .int .u64 x7740.seed]⟩ 89 (0, 0))]], w.heap[q.1]? = some q.2) (hN : (idsOf [[(b7742, .cells ⟨[.slice p7744 x7740.code.length c7745, .int .i64 x7740.at_, .int .u64 x7740.seed]⟩ 89 (0, 0))]]).Nodup) (hap7747 : apartX (idsOf [[(b7742, .cells ⟨[.slice p7744 x7740.code.length c7745, .int .i64 x7740.at_, .int .u64 x7740.seed]⟩ 89 (0, 0))]]) x7740.code p7744) (hap7753 : apartX (idsOf [[(b7742, .cells ⟨[.slice p7744 x7740.code.length c7745, .int .i64 x7740.at_, .int .u64 x7740.seed]⟩ 89 (0, 0))]]) x7748 p7750) {r : Int × Int × Int} (hm : M.s_l1Cur_among x7740 x7748 = some r) :
    Calls Try.prog 80 #[.pointer (some ⟨b7742, 0, none⟩), .slice p7750 x7748.length c7751] w fun e w' => e = .returned (.int .i64 r.1) ∧ Mem (idsOf [[(b7742, .cells ⟨[.slice p7744 x7740.code.length c7745, .int .i64 x7740.at_, .int .u64 x7740.seed]⟩ 89 (0, 0))]]) w w' [[(b7742, .cells ⟨[.slice p7744 x7740.code.length c7745, .int .i64 r.2.1, .int .u64 r.2.2]⟩ 89 (0, 0))]] := by
  unfold M.s_l1Cur_among at hm
  refine C_enter Try.func80 rfl (by kernel_rfl) ?_
  have M0 := Mem.start' w [[(b7742, .cells ⟨[.slice p7744 x7740.code.length c7745, .int .i64 x7740.at_, .int .u64 x7740.seed]⟩ 89 (0, 0))]] hA hN
  refine G_seq ?_
  refine G_region ?_
  refine W_run 1 [(0, .pointer (some ⟨b7742, 0, none⟩)), (1, .slice p7750 x7748.length c7751)] w (by kernel_rfl) ?_
  refine W_nil ?_
  refine N_then ?_
  refine G_seq ?_
  refine G_region ?_
  refine W_run 4 [(5, .slice p7750 x7748.length c7751), (6, .pointer (some ⟨b7742, 0, none⟩)), (8, .int .i64 (x7748.length : Int))] w (by kernel_rfl) ?_
  obtain ⟨r7754, hr7754, hm⟩ := gx_bind hm
  refine W_call 81 #[.pointer (some ⟨b7742, 0, none⟩), .int .i64 (x7748.length : Int)] (by kernel_rfl) (by kernel_rfl) ?_
  refine (c_s_l1Cur_pick w x7740 p7744 c7745 (h7746.memX hap7747 M0) b7742 (x7748.length : Int) (M0.hasPick [0]) (M0.nodupPick [0] (by kernel_rfl)) (apartX.old h7746 hap7747 M0 [0]) hr7754).mono ?_
  rintro e_ w7755 ⟨rfl, K7756⟩
  have M7757 := M0.callF' [0] [] (by kernel_rfl) K7756
  refine ⟨_, rfl, ?_⟩
  obtain ⟨y7758, hy7758, hm⟩ := gx_bind hm
  refine W_val (elemP p7750 (r7754.1.toNat * 1)) w7755 (by kernel_rfl) (E_index (E := encI) _ _ _ x7748.length c7751 .i64 r7754.1 1 (y := y7758) rfl (by kernel_rfl) (by kernel_rfl) (by kernel_rfl) (h7752.memX hap7753 M7757) rfl hy7758) ?_
  refine W_val (.int .i64 y7758) w7755 (by kernel_rfl) (E_loadE (E := encI) _ _ false 1 r7754.1 0 (r7754.1.toNat * 1) y7758 (.int .i64 y7758) rfl (by kernel_rfl) (by kernel_rfl) (by kernel_rfl) (h7752.memX hap7753 M7757) hy7758 rfl) ?_
  refine W_run 1 [(4, .int .i64 y7758)] w7755 (by kernel_rfl) ?_
  refine W_nil ?_
  refine N_then ?_
  refine G_ret ?_
  obtain rfl := Option.some.inj hm
  refine N_ret [.int .i64 y7758] (RVs_cons (RV_tmp (by kernel_rfl)) RVs_nil) ?_
  exact ⟨rfl, M7757.pick [0] (by kernel_rfl)⟩
theorem c_s_l1Cur_region (w : World) (x7721 : l1Cur) (p7725 : Option Addr) (c7726 : Nat) (h7727 : rdS encU8 w x7721.code p7725 c7726) (b7723 : Nat) (hA : ∀ q ∈ List.flatten [[(b7723, .cells ⟨[.slice p7725 x7721.code.length c7726, .int .i64 x7721.at_, .int .u64 x7721.seed]⟩ 89 (0, 0))]], w.heap[q.1]? = some q.2) (hN : (idsOf [[(b7723, .cells ⟨[.slice p7725 x7721.code.length c7726, .int .i64 x7721.at_, .int .u64 x7721.seed]⟩ 89 (0, 0))]]).Nodup) (hap7728 : apartX (idsOf [[(b7723, .cells ⟨[.slice p7725 x7721.code.length c7726, .int .i64 x7721.at_, .int .u64 x7721.seed]⟩ 89 (0, 0))]]) x7721.code p7725) {r : Region × Int × Int} (hm : M.s_l1Cur_region x7721 = some r) :
    Calls Try.prog 82 #[.pointer (some ⟨b7723, 0, none⟩)] w fun e w' => e = .returned (.agg #[.int .i64 r.1.Base, .int .i64 r.1.Size, .int .i64 r.1.Kind, .int .i64 r.1.Unit]) ∧ Mem (idsOf [[(b7723, .cells ⟨[.slice p7725 x7721.code.length c7726, .int .i64 x7721.at_, .int .u64 x7721.seed]⟩ 89 (0, 0))]]) w w' [[(b7723, .cells ⟨[.slice p7725 x7721.code.length c7726, .int .i64 r.2.1, .int .u64 r.2.2]⟩ 89 (0, 0))]] := by
  unfold M.s_l1Cur_region at hm
  refine C_enter Try.func82 rfl (by kernel_rfl) ?_
  have M0 := Mem.start' w [[(b7723, .cells ⟨[.slice p7725 x7721.code.length c7726, .int .i64 x7721.at_, .int .u64 x7721.seed]⟩ 89 (0, 0))]] hA hN
  refine G_seq ?_
  refine G_region ?_
  refine W_new (fun b => .pointer (some ⟨b, 0, none⟩)) (.cells ⟨[.int .i64 0, .int .i64 0, .int .i64 0, .int .i64 0]⟩ 59 (0, 0)) M0 rfl (by kernel_rfl) (by kernel_rfl) ?_
  intro b7730 w7731 M7732
  refine W_nil ?_
  refine N_then ?_
  refine G_seq ?_
  refine G_region ?_
  refine W_run 1 [(0, .pointer (some ⟨b7723, 0, none⟩)), (2, .pointer (some ⟨b7730, 0, none⟩)), (4, .pointer (some ⟨b7723, 0, none⟩))] w7731 (by kernel_rfl) ?_
  refine W_lit (E := encI) [4, 8, 16, 256, 4096] 5 [.int .i64 4, .int .i64 8, .int .i64 16, .int .i64 256, .int .i64 4096] 3 M7732 (by kernel_rfl) (by kernel_rfl) (by kernel_rfl) (by kernel_rfl) (by kernel_rfl) ?_
  intro p7733 c7734 sg7735 w7736 ho7737 M7738
  obtain ⟨r7759, hr7759, hm⟩ := gx_bind hm
  refine W_call 80 #[.pointer (some ⟨b7723, 0, none⟩), .slice p7733 [4, 8, 16, 256, 4096].length c7734] (by kernel_rfl) (by kernel_rfl) ?_
  refine (c_s_l1Cur_among w7736 x7721 p7725 c7726 (h7727.memX hap7728 M7738) b7723 [4, 8, 16, 256, 4096] p7733 c7734 (ho7737.rd M7738 2 (by kernel_rfl)) (M7738.hasPick [0]) (M7738.nodupPick [0] (by kernel_rfl)) (apartX.old h7727 hap7728 M7738 [0]) (apartX.own ho7737 M7738 2 (by kernel_rfl) [0] (by kernel_rfl)) hr7759).mono ?_
  rintro e_ w7760 ⟨rfl, K7761⟩
  have M7762 := M7738.callF' [0] [1, 2] (by kernel_rfl) K7761
  refine ⟨_, rfl, ?_⟩
  refine W_run 1 [(0, .pointer (some ⟨b7723, 0, none⟩)), (2, .pointer (some ⟨b7730, 0, none⟩)), (6, .int .i64 r7759.1), (7, .pointer (some ⟨b7723, 0, none⟩))] w7760 (by kernel_rfl) ?_
  obtain ⟨r7763, hr7763, hm⟩ := gx_bind hm
  refine W_call 81 #[.pointer (some ⟨b7723, 0, none⟩), .int .i64 4] (by kernel_rfl) (by kernel_rfl) ?_
  refine (c_s_l1Cur_pick w7760 (⟨x7721.code, r7759.2.1, r7759.2.2⟩ : l1Cur) p7725 c7726 (h7727.memX hap7728 M7762) b7723 4 (M7762.hasPick [2]) (M7762.nodupPick [2] (by kernel_rfl)) (apartX.old h7727 hap7728 M7762 [2]) hr7763).mono ?_
  rintro e_ w7764 ⟨rfl, K7765⟩
  have M7766 := M7762.callF' [2] [0, 1] (by kernel_rfl) K7765
  refine ⟨_, rfl, ?_⟩
  refine W_run 1 [(0, .pointer (some ⟨b7723, 0, none⟩)), (2, .pointer (some ⟨b7730, 0, none⟩)), (6, .int .i64 r7759.1), (8, .int .i64 r7763.1), (9, .pointer (some ⟨b7723, 0, none⟩))] w7764 (by kernel_rfl) ?_
  obtain ⟨r7767, hr7767, hm⟩ := gx_bind hm
  refine W_call 81 #[.pointer (some ⟨b7723, 0, none⟩), .int .i64 16] (by kernel_rfl) (by kernel_rfl) ?_
  refine (c_s_l1Cur_pick w7764 (⟨x7721.code, r7763.2.1, r7763.2.2⟩ : l1Cur) p7725 c7726 (h7727.memX hap7728 M7766) b7723 16 (M7766.hasPick [2]) (M7766.nodupPick [2] (by kernel_rfl)) (apartX.old h7727 hap7728 M7766 [2]) hr7767).mono ?_
  rintro e_ w7768 ⟨rfl, K7769⟩
  have M7770 := M7766.callF' [2] [0, 1] (by kernel_rfl) K7769
  refine ⟨_, rfl, ?_⟩
  refine W_run 1 [(0, .pointer (some ⟨b7723, 0, none⟩)), (2, .pointer (some ⟨b7730, 0, none⟩)), (11, .agg #[.int .i64 0, .int .i64 r7759.1, .int .i64 r7763.1, .int .i64 r7767.1])] w7768 (by kernel_rfl) ?_
  refine W_new (fun b => .pointer (some ⟨b, 0, none⟩)) (.cells ⟨[.int .i64 0, .int .i64 0, .int .i64 0, .int .i64 0]⟩ 59 (0, 0)) M7770 rfl (by kernel_rfl) (by kernel_rfl) ?_
  intro b7772 w7773 M7774
  refine W_store _ _ _ true 4 b7772 0 [.int .i64 0, .int .i64 0, .int .i64 0, .int .i64 0] 59 (.agg #[.int .i64 0, .int .i64 r7759.1, .int .i64 r7763.1, .int .i64 r7767.1]) 3 [.int .i64 0, .int .i64 r7759.1, .int .i64 r7763.1, .int .i64 r7767.1] M7774 (by kernel_rfl) rfl (by kernel_rfl) (by kernel_rfl) (by kernel_rfl) (by kernel_rfl) (by kernel_rfl) (by kernel_rfl) (by kernel_rfl) (by kernel_rfl) ?_
  intro w7775 M7776
  refine W_nil ?_
  refine N_then ?_
  refine G_seq ?_
  obtain ⟨q7779, hq7779, hm⟩ := gx_bind hm
  obtain ⟨r7785, hr7785, hm⟩ := gx_bind hm
  have M7786 : Mem (idsOf [[(b7723, .cells ⟨[.slice p7725 x7721.code.length c7726, .int .i64 x7721.at_, .int .u64 x7721.seed]⟩ 89 (0, 0))]]) w w7775 ([[(b7730, .cells ⟨[.int .i64 0, .int .i64 0, .int .i64 0, .int .i64 0]⟩ 59 (0, 0))], sg7735, [(b7772, .cells ⟨[.int .i64 0, .int .i64 r7759.1, .int .i64 r7763.1, .int .i64 r7767.1]⟩ 59 (0, 0))]] ++ (List.range 9).map (fun i => ([[], [], [], [], [], [], [], [], [(b7723, .cells ⟨[.slice p7725 x7721.code.length c7726, .int .i64 r7767.2.1, .int .u64 r7767.2.2]⟩ 89 (0, 0))]] : List Seg).getD i [])) := M7776.pick [0, 1, 3, 300000, 300001, 300002, 300003, 300004, 300005, 300006, 300007, 2] (by kernel_rfl)
  refine G_sub [(0, .pointer (some ⟨b7723, 0, none⟩)), (2, .pointer (some ⟨b7730, 0, none⟩)), (3, .pointer (some ⟨b7772, 0, none⟩)), (11, .agg #[.int .i64 0, .int .i64 r7759.1, .int .i64 r7763.1, .int .i64 r7767.1])] (by kernel_rfl) ?_
  refine G_dagL 9 [[], [0], [], [], [3], [4], [5], [6], [2, 7]] [[], [], [], [], [], [], [], [], []] [[], [], [], [], [], [], [], [], [7]] [[], [], [], [], [], [], [], [], []] [[], [], [], [], [], [], [], [], []] [[], [], [], [], [], [], [], [], []] (fun i => ([[], [], [], [], [], [], [], [], [(b7723, .cells ⟨[.slice p7725 x7721.code.length c7726, .int .i64 r7767.2.1, .int .u64 r7767.2.2]⟩ 89 (0, 0))]] : List Seg).getD i []) (fun i => ([fun f v s => v = (.pointer (some ⟨b7772, 1, none⟩) : Value) ∧ s = [], fun f v s => v = (.int .i64 r7759.1 : Value) ∧ s = [], fun f v s => v = (.pointer (some ⟨b7723, 0, none⟩) : Value) ∧ s = [], fun f v s => v = (.pointer (some ⟨b7772, 1, none⟩) : Value) ∧ s = [], fun f v s => v = (.int .i64 r7759.1 : Value) ∧ s = [], fun f v s => v = (.int .i64 q7779 : Value) ∧ s = [], fun f v s => v = (.int .i64 (w64 (q7779 - 1)) : Value) ∧ s = [], fun f v s => ∃ (p7781 : Option Addr) (c7782 : Nat), v = (.slice p7781 [0, 1, 2, 3, 15, w64 (q7779 - 1)].length c7782 : Value) ∧ ownS encI [0, 1, 2, 3, 15, w64 (q7779 - 1)] p7781 c7782 s, fun f v s => v = (.int .i64 r7785.1 : Value) ∧ s = [(b7723, .cells ⟨[.slice p7725 x7721.code.length c7726, .int .i64 r7785.2.1, .int .u64 r7785.2.2]⟩ 89 (0, 0))]] : List ((Nat → Value) → Value → Seg → Prop)).getD i (fun _ _ _ => False)) (fun j f v => ∃ s, (fun i => ([fun f v s => v = (.pointer (some ⟨b7772, 1, none⟩) : Value) ∧ s = [], fun f v s => v = (.int .i64 r7759.1 : Value) ∧ s = [], fun f v s => v = (.pointer (some ⟨b7723, 0, none⟩) : Value) ∧ s = [], fun f v s => v = (.pointer (some ⟨b7772, 1, none⟩) : Value) ∧ s = [], fun f v s => v = (.int .i64 r7759.1 : Value) ∧ s = [], fun f v s => v = (.int .i64 q7779 : Value) ∧ s = [], fun f v s => v = (.int .i64 (w64 (q7779 - 1)) : Value) ∧ s = [], fun f v s => ∃ (p7781 : Option Addr) (c7782 : Nat), v = (.slice p7781 [0, 1, 2, 3, 15, w64 (q7779 - 1)].length c7782 : Value) ∧ ownS encI [0, 1, 2, 3, 15, w64 (q7779 - 1)] p7781 c7782 s, fun f v s => v = (.int .i64 r7785.1 : Value) ∧ s = [(b7723, .cells ⟨[.slice p7725 x7721.code.length c7726, .int .i64 r7785.2.1, .int .u64 r7785.2.2]⟩ 89 (0, 0))]] : List ((Nat → Value) → Value → Seg → Prop)).getD i (fun _ _ _ => False)) j f v s) [] [1, 7, 8] [7, 8] (fun _ _ _ s h => ⟨s, h⟩) (by kernel_rfl) (by kernel_rfl) M7786 (by kernel_rfl) (by kernel_rfl) (by kernel_rfl) (by kernel_rfl) (allOb_cons ?_ (allOb_cons ?_ (allOb_cons ?_ (allOb_cons ?_ (allOb_cons ?_ (allOb_cons ?_ (allOb_cons ?_ (allOb_cons ?_ (allOb_cons ?_ allOb_nil))))))))) ?_
  · intro g7777 f7778
    intro R w7787 M7788
    refine W_run 1 [(12, .pointer (some ⟨b7772, 1, none⟩))] w7787 (by kernel_rfl) ?_
    exact W_nil (ob_end (.pointer (some ⟨b7772, 1, none⟩)) [] rfl (by kernel_rfl) ⟨by kernel_rfl, rfl⟩ M7788)
  · intro g7777 f7778
    intro v0_ hb0_
    obtain ⟨rfl, _⟩ := hb0_
    intro R w7791 M7792
    refine W_val (.int .i64 r7759.1) w7791 (by kernel_rfl) (E_load (e := 59) (fr := (0, 0)) _ _ false 1 b7772 1 [.int .i64 0, .int .i64 r7759.1, .int .i64 r7763.1, .int .i64 r7767.1] (.int .i64 r7759.1) rfl (by kernel_rfl) (by kernel_rfl) (by kernel_rfl) (M7792.blk 2 (b := b7772) (o := .cells ⟨[.int .i64 0, .int .i64 r7759.1, .int .i64 r7763.1, .int .i64 r7767.1]⟩ 59 (0, 0)) (by kernel_rfl))) ?_
    exact W_nil (ob_end (.int .i64 r7759.1) [] rfl (by kernel_rfl) ⟨by kernel_rfl, rfl⟩ M7792)
  · intro g7777 f7778
    intro R w7795 M7796
    refine W_run 1 [(14, .pointer (some ⟨b7723, 0, none⟩))] w7795 (by kernel_rfl) ?_
    exact W_nil (ob_end (.pointer (some ⟨b7723, 0, none⟩)) [] rfl (by kernel_rfl) ⟨by kernel_rfl, rfl⟩ M7796)
  · intro g7777 f7778
    intro R w7799 M7800
    refine W_run 1 [(15, .pointer (some ⟨b7772, 1, none⟩))] w7799 (by kernel_rfl) ?_
    exact W_nil (ob_end (.pointer (some ⟨b7772, 1, none⟩)) [] rfl (by kernel_rfl) ⟨by kernel_rfl, rfl⟩ M7800)
  · intro g7777 f7778
    intro v3_ hb3_
    obtain ⟨rfl, _⟩ := hb3_
    intro R w7803 M7804
    refine W_val (.int .i64 r7759.1) w7803 (by kernel_rfl) (E_load (e := 59) (fr := (0, 0)) _ _ false 1 b7772 1 [.int .i64 0, .int .i64 r7759.1, .int .i64 r7763.1, .int .i64 r7767.1] (.int .i64 r7759.1) rfl (by kernel_rfl) (by kernel_rfl) (by kernel_rfl) (M7804.blk 2 (b := b7772) (o := .cells ⟨[.int .i64 0, .int .i64 r7759.1, .int .i64 r7763.1, .int .i64 r7767.1]⟩ 59 (0, 0)) (by kernel_rfl))) ?_
    exact W_nil (ob_end (.int .i64 r7759.1) [] rfl (by kernel_rfl) ⟨by kernel_rfl, rfl⟩ M7804)
  · intro g7777 f7778
    intro v4_ hb4_
    obtain ⟨rfl, _⟩ := hb4_
    intro R w7807 M7808
    refine W_val (.int .i64 q7779) w7807 (by kernel_rfl) (E_div _ _ _ _ 65536 r7759.1 q7779 rfl (by kernel_rfl) (by kernel_rfl) hq7779) ?_
    exact W_nil (ob_end (.int .i64 q7779) [] rfl (by kernel_rfl) ⟨by kernel_rfl, rfl⟩ M7808)
  · intro g7777 f7778
    intro v5_ hb5_
    obtain ⟨rfl, _⟩ := hb5_
    intro R w7811 M7812
    refine W_run 1 [(18, .int .i64 (w64 (q7779 - 1)))] w7811 (by kernel_rfl) ?_
    exact W_nil (ob_end (.int .i64 (w64 (q7779 - 1))) [] rfl (by kernel_rfl) ⟨by kernel_rfl, rfl⟩ M7812)
  · intro g7777 f7778
    intro v6_ hb6_
    obtain ⟨rfl, _⟩ := hb6_
    intro R w7815 M7816
    refine W_lit (E := encI) [0, 1, 2, 3, 15, w64 (q7779 - 1)] 6 [.int .i64 0, .int .i64 1, .int .i64 2, .int .i64 3, .int .i64 15, .int .i64 (w64 (q7779 - 1))] 3 M7816 (by kernel_rfl) (by kernel_rfl) (by kernel_rfl) (by kernel_rfl) (by kernel_rfl) ?_
    intro p7781 c7782 sg7783 w7817 ho7784 M7818
    exact W_nil (ob_end (.slice p7781 [0, 1, 2, 3, 15, w64 (q7779 - 1)].length c7782) sg7783 rfl (by kernel_rfl) ⟨p7781, c7782, rfl, ho7784⟩ (Mem.mid M7818))
  · intro g7777 f7778
    intro v2_ hb2_
    obtain ⟨rfl, _⟩ := hb2_
    intro v7_ hb7_
    obtain ⟨p7781, c7782, rfl, ho7784⟩ := hb7_
    intro R w7819 M7820
    refine W_call 80 #[.pointer (some ⟨b7723, 0, none⟩), .slice p7781 [0, 1, 2, 3, 15, w64 (q7779 - 1)].length c7782] (by kernel_rfl) (by kernel_rfl) ?_
    refine (c_s_l1Cur_among w7819 (⟨x7721.code, r7767.2.1, r7767.2.2⟩ : l1Cur) p7725 c7726 (h7727.memX hap7728 M7820) b7723 [0, 1, 2, 3, 15, w64 (q7779 - 1)] p7781 c7782 (ho7784.rd M7820 4 (by kernel_rfl)) (M7820.hasPick [3]) (M7820.nodupPick [3] (by kernel_rfl)) (apartX.old h7727 hap7728 M7820 [3]) (apartX.own ho7784 M7820 4 (by kernel_rfl) [3] (by kernel_rfl)) hr7785).mono ?_
    rintro e_ w7821 ⟨rfl, K7823⟩
    refine ⟨_, rfl, ?_⟩
    exact W_nil (ob_end (.int .i64 r7785.1) [(b7723, .cells ⟨[.slice p7725 x7721.code.length c7726, .int .i64 r7785.2.1, .int .u64 r7785.2.2]⟩ 89 (0, 0))] rfl (by kernel_rfl) ⟨rfl, rfl⟩ (Mem.callMidF M7820 K7823))
  · intro g7777 f7778
    intro v1_ hb1_
    obtain ⟨rfl, _⟩ := hb1_
    intro v7_ hb7_
    obtain ⟨p7781, c7782, rfl, ho7784⟩ := hb7_
    intro v8_ hb8_
    obtain ⟨rfl, hs8_⟩ := hb8_
    intro w7824 M7825
    have M7826 : Mem (idsOf [[(b7723, .cells ⟨[.slice p7725 x7721.code.length c7726, .int .i64 x7721.at_, .int .u64 x7721.seed]⟩ 89 (0, 0))]]) w w7824 [[(b7730, .cells ⟨[.int .i64 0, .int .i64 0, .int .i64 0, .int .i64 0]⟩ 59 (0, 0))], sg7735, [(b7772, .cells ⟨[.int .i64 0, .int .i64 r7759.1, .int .i64 r7763.1, .int .i64 r7767.1]⟩ 59 (0, 0))], (g7777 7), (g7777 8)] := M7825
    rw [hs8_] at M7826
    refine W_run 2 [(0, .pointer (some ⟨b7723, 0, none⟩)), (2, .pointer (some ⟨b7730, 0, none⟩)), (3, .pointer (some ⟨b7772, 0, none⟩)), (21, .int .i64 (w64 (r7759.1 * r7785.1))), (22, .pointer (some ⟨b7772, 0, none⟩))] w7824 (by kernel_rfl) ?_
    refine W_store _ _ _ false 1 b7772 0 [.int .i64 0, .int .i64 r7759.1, .int .i64 r7763.1, .int .i64 r7767.1] 59 (.int .i64 (w64 (r7759.1 * r7785.1))) 2 [.int .i64 (w64 (r7759.1 * r7785.1)), .int .i64 r7759.1, .int .i64 r7763.1, .int .i64 r7767.1] M7826 (by kernel_rfl) rfl (by kernel_rfl) (by kernel_rfl) (by kernel_rfl) (by kernel_rfl) (by kernel_rfl) (by kernel_rfl) (by kernel_rfl) (by kernel_rfl) ?_
    intro w7827 M7828
    refine W_nil ?_
    refine N_then ?_
    refine G_seq ?_
    refine G_seq ?_
    refine G_region ?_
    refine W_run 1 [(0, .pointer (some ⟨b7723, 0, none⟩)), (2, .pointer (some ⟨b7730, 0, none⟩)), (3, .pointer (some ⟨b7772, 0, none⟩)), (23, .pointer (some ⟨b7723, 0, none⟩))] w7827 (by kernel_rfl) ?_
    obtain ⟨r7829, hr7829, hm⟩ := gx_bind hm
    refine W_call 81 #[.pointer (some ⟨b7723, 0, none⟩), .int .i64 60] (by kernel_rfl) (by kernel_rfl) ?_
    refine (c_s_l1Cur_pick w7827 (⟨x7721.code, r7785.2.1, r7785.2.2⟩ : l1Cur) p7725 c7726 (h7727.memX hap7728 M7828) b7723 60 (M7828.hasPick [4]) (M7828.nodupPick [4] (by kernel_rfl)) (apartX.old h7727 hap7728 M7828 [4]) hr7829).mono ?_
    rintro e_ w7830 ⟨rfl, K7831⟩
    have M7832 := M7828.callF' [4] [0, 1, 2, 3] (by kernel_rfl) K7831
    refine ⟨_, rfl, ?_⟩
    refine W_nil ?_
    refine N_then ?_
    refine G_block ?_
    refine G_seq ?_
    refine G_region ?_
    refine W_run 2 [(0, .pointer (some ⟨b7723, 0, none⟩)), (2, .pointer (some ⟨b7730, 0, none⟩)), (3, .pointer (some ⟨b7772, 0, none⟩)), (24, .int .i64 r7829.1), (25, .bool (r7829.1 == 0))] w7830 (by kernel_rfl) ?_
    refine W_nil ?_
    refine N_then ?_
    obtain ⟨o8092, ho8093, hm8094⟩ := gx_bind hm
    refine G_meet (fun a w' => Mem (idsOf [[(b7723, .cells ⟨[.slice p7725 x7721.code.length c7726, .int .i64 x7721.at_, .int .u64 x7721.seed]⟩ 89 (0, 0))]]) w w' [[(b7730, .cells ⟨[.int .i64 0, .int .i64 0, .int .i64 0, .int .i64 0]⟩ 59 (0, 0))], [(b7772, .cells ⟨[.int .i64 o8092.2.2.1, .int .i64 o8092.2.2.2.1, .int .i64 o8092.2.2.2.2.1, .int .i64 o8092.2.2.2.2.2]⟩ 59 (0, 0))], [(b7723, .cells ⟨[.slice p7725 x7721.code.length c7726, .int .i64 o8092.1, .int .u64 o8092.2.1]⟩ 89 (0, 0))]] ∧ Sat Try.f82.ntmps [(2, .pointer (some ⟨b7730, 0, none⟩)), (3, .pointer (some ⟨b7772, 0, none⟩))] a) ?_ ?_
    · have hm := ho8093
      rcases gx_bif hm with ⟨hc8095, hm⟩ | ⟨hc8095, hm⟩
      · refine G_cond_t (b := (r7829.1 == 0)) hc8095 (by kernel_rfl) ?_
        refine G_region ?_
        refine W_run 1 [(2, .pointer (some ⟨b7730, 0, none⟩)), (3, .pointer (some ⟨b7772, 0, none⟩)), (27, .pointer (some ⟨b7723, 0, none⟩))] w7830 (by kernel_rfl) ?_
        refine W_lit (E := encI) [(-4), 2, 65536] 3 [.int .i64 (-4), .int .i64 2, .int .i64 65536] 3 M7832 (by kernel_rfl) (by kernel_rfl) (by kernel_rfl) (by kernel_rfl) (by kernel_rfl) ?_
        intro p8096 c8097 sg8098 w8099 ho8100 M8101
        obtain ⟨r8103, hr8103, hm⟩ := gx_bind hm
        refine W_call 80 #[.pointer (some ⟨b7723, 0, none⟩), .slice p8096 [(-4), 2, 65536].length c8097] (by kernel_rfl) (by kernel_rfl) ?_
        refine (c_s_l1Cur_among w8099 (⟨x7721.code, r7829.2.1, r7829.2.2⟩ : l1Cur) p7725 c7726 (h7727.memX hap7728 M8101) b7723 [(-4), 2, 65536] p8096 c8097 (ho8100.rd M8101 5 (by kernel_rfl)) (M8101.hasPick [4]) (M8101.nodupPick [4] (by kernel_rfl)) (apartX.old h7727 hap7728 M8101 [4]) (apartX.own ho8100 M8101 5 (by kernel_rfl) [4] (by kernel_rfl)) hr8103).mono ?_
        rintro e_ w8104 ⟨rfl, K8105⟩
        have M8106 := M8101.callF' [4] [0, 1, 2, 3, 5] (by kernel_rfl) K8105
        refine ⟨_, rfl, ?_⟩
        refine W_run 1 [(2, .pointer (some ⟨b7730, 0, none⟩)), (3, .pointer (some ⟨b7772, 0, none⟩)), (29, .int .i64 r8103.1), (30, .pointer (some ⟨b7772, 0, none⟩))] w8104 (by kernel_rfl) ?_
        refine W_store _ _ _ false 1 b7772 0 [.int .i64 (w64 (r7759.1 * r7785.1)), .int .i64 r7759.1, .int .i64 r7763.1, .int .i64 r7767.1] 59 (.int .i64 r8103.1) 2 [.int .i64 r8103.1, .int .i64 r7759.1, .int .i64 r7763.1, .int .i64 r7767.1] M8106 (by kernel_rfl) rfl (by kernel_rfl) (by kernel_rfl) (by kernel_rfl) (by kernel_rfl) (by kernel_rfl) (by kernel_rfl) (by kernel_rfl) (by kernel_rfl) ?_
        intro w8107 M8108
        refine W_nil ?_
        obtain rfl := Option.some.inj hm
        exact N_meet fun a ha => ⟨M8108.pick [0, 2, 5] (by kernel_rfl), ha.sub (by kernel_rfl)⟩
      · refine G_cond_f (b := (r7829.1 == 0)) hc8095 (by kernel_rfl) ?_
        refine G_seq ?_
        refine G_region ?_
        refine W_run 2 [(0, .pointer (some ⟨b7723, 0, none⟩)), (2, .pointer (some ⟨b7730, 0, none⟩)), (3, .pointer (some ⟨b7772, 0, none⟩)), (24, .int .i64 r7829.1), (31, .bool (r7829.1 == 1))] w7830 (by kernel_rfl) ?_
        refine W_nil ?_
        refine N_then ?_
        obtain ⟨o8228, ho8229, hm8230⟩ := gx_bind hm
        refine G_meet (fun a w' => Mem (idsOf [[(b7723, .cells ⟨[.slice p7725 x7721.code.length c7726, .int .i64 x7721.at_, .int .u64 x7721.seed]⟩ 89 (0, 0))]]) w w' [[(b7730, .cells ⟨[.int .i64 0, .int .i64 0, .int .i64 0, .int .i64 0]⟩ 59 (0, 0))], [(b7772, .cells ⟨[.int .i64 (w64 (r7759.1 * r7785.1)), .int .i64 o8228.2.2.1, .int .i64 o8228.2.2.2.1, .int .i64 o8228.2.2.2.2]⟩ 59 (0, 0))], [(b7723, .cells ⟨[.slice p7725 x7721.code.length c7726, .int .i64 o8228.1, .int .u64 o8228.2.1]⟩ 89 (0, 0))]] ∧ Sat Try.f82.ntmps [(2, .pointer (some ⟨b7730, 0, none⟩)), (3, .pointer (some ⟨b7772, 0, none⟩))] a) ?_ ?_
        · have hm := ho8229
          rcases gx_bif hm with ⟨hc8231, hm⟩ | ⟨hc8231, hm⟩
          · refine G_cond_t (b := (r7829.1 == 1)) hc8231 (by kernel_rfl) ?_
            refine G_region ?_
            refine W_run 1 [(2, .pointer (some ⟨b7730, 0, none⟩)), (3, .pointer (some ⟨b7772, 0, none⟩)), (33, .pointer (some ⟨b7723, 0, none⟩))] w7830 (by kernel_rfl) ?_
            refine W_lit (E := encI) [0, 2, 6, 8192] 4 [.int .i64 0, .int .i64 2, .int .i64 6, .int .i64 8192] 3 M7832 (by kernel_rfl) (by kernel_rfl) (by kernel_rfl) (by kernel_rfl) (by kernel_rfl) ?_
            intro p8232 c8233 sg8234 w8235 ho8236 M8237
            obtain ⟨r8239, hr8239, hm⟩ := gx_bind hm
            refine W_call 80 #[.pointer (some ⟨b7723, 0, none⟩), .slice p8232 [0, 2, 6, 8192].length c8233] (by kernel_rfl) (by kernel_rfl) ?_
            refine (c_s_l1Cur_among w8235 (⟨x7721.code, r7829.2.1, r7829.2.2⟩ : l1Cur) p7725 c7726 (h7727.memX hap7728 M8237) b7723 [0, 2, 6, 8192] p8232 c8233 (ho8236.rd M8237 5 (by kernel_rfl)) (M8237.hasPick [4]) (M8237.nodupPick [4] (by kernel_rfl)) (apartX.old h7727 hap7728 M8237 [4]) (apartX.own ho8236 M8237 5 (by kernel_rfl) [4] (by kernel_rfl)) hr8239).mono ?_
            rintro e_ w8240 ⟨rfl, K8241⟩
            have M8242 := M8237.callF' [4] [0, 1, 2, 3, 5] (by kernel_rfl) K8241
            refine ⟨_, rfl, ?_⟩
            refine W_run 1 [(2, .pointer (some ⟨b7730, 0, none⟩)), (3, .pointer (some ⟨b7772, 0, none⟩)), (35, .int .i64 r8239.1), (36, .pointer (some ⟨b7772, 1, none⟩))] w8240 (by kernel_rfl) ?_
            refine W_store _ _ _ false 1 b7772 1 [.int .i64 (w64 (r7759.1 * r7785.1)), .int .i64 r7759.1, .int .i64 r7763.1, .int .i64 r7767.1] 59 (.int .i64 r8239.1) 2 [.int .i64 (w64 (r7759.1 * r7785.1)), .int .i64 r8239.1, .int .i64 r7763.1, .int .i64 r7767.1] M8242 (by kernel_rfl) rfl (by kernel_rfl) (by kernel_rfl) (by kernel_rfl) (by kernel_rfl) (by kernel_rfl) (by kernel_rfl) (by kernel_rfl) (by kernel_rfl) ?_
            intro w8243 M8244
            refine W_nil ?_
            obtain rfl := Option.some.inj hm
            exact N_meet fun a ha => ⟨M8244.pick [0, 2, 5] (by kernel_rfl), ha.sub (by kernel_rfl)⟩
          · refine G_cond_f (b := (r7829.1 == 1)) hc8231 (by kernel_rfl) ?_
            refine G_seq ?_
            refine G_region ?_
            refine W_run 2 [(0, .pointer (some ⟨b7723, 0, none⟩)), (2, .pointer (some ⟨b7730, 0, none⟩)), (3, .pointer (some ⟨b7772, 0, none⟩)), (24, .int .i64 r7829.1), (37, .bool (r7829.1 == 2))] w7830 (by kernel_rfl) ?_
            refine W_nil ?_
            refine N_then ?_
            obtain ⟨o8294, ho8295, hm8296⟩ := gx_bind hm
            refine G_meet (fun a w' => Mem (idsOf [[(b7723, .cells ⟨[.slice p7725 x7721.code.length c7726, .int .i64 x7721.at_, .int .u64 x7721.seed]⟩ 89 (0, 0))]]) w w' [[(b7730, .cells ⟨[.int .i64 0, .int .i64 0, .int .i64 0, .int .i64 0]⟩ 59 (0, 0))], [(b7772, .cells ⟨[.int .i64 (w64 (r7759.1 * r7785.1)), .int .i64 r7759.1, .int .i64 o8294.2.2.1, .int .i64 o8294.2.2.2]⟩ 59 (0, 0))], [(b7723, .cells ⟨[.slice p7725 x7721.code.length c7726, .int .i64 o8294.1, .int .u64 o8294.2.1]⟩ 89 (0, 0))]] ∧ Sat Try.f82.ntmps [(2, .pointer (some ⟨b7730, 0, none⟩)), (3, .pointer (some ⟨b7772, 0, none⟩))] a) ?_ ?_
            · have hm := ho8295
              rcases gx_bif hm with ⟨hc8297, hm⟩ | ⟨hc8297, hm⟩
              · refine G_cond_t (b := (r7829.1 == 2)) hc8297 (by kernel_rfl) ?_
                refine G_region ?_
                refine W_run 1 [(2, .pointer (some ⟨b7730, 0, none⟩)), (3, .pointer (some ⟨b7772, 0, none⟩)), (39, .pointer (some ⟨b7723, 0, none⟩))] w7830 (by kernel_rfl) ?_
                refine W_lit (E := encI) [(-1), 4] 2 [.int .i64 (-1), .int .i64 4] 3 M7832 (by kernel_rfl) (by kernel_rfl) (by kernel_rfl) (by kernel_rfl) (by kernel_rfl) ?_
                intro p8298 c8299 sg8300 w8301 ho8302 M8303
                obtain ⟨r8305, hr8305, hm⟩ := gx_bind hm
                refine W_call 80 #[.pointer (some ⟨b7723, 0, none⟩), .slice p8298 [(-1), 4].length c8299] (by kernel_rfl) (by kernel_rfl) ?_
                refine (c_s_l1Cur_among w8301 (⟨x7721.code, r7829.2.1, r7829.2.2⟩ : l1Cur) p7725 c7726 (h7727.memX hap7728 M8303) b7723 [(-1), 4] p8298 c8299 (ho8302.rd M8303 5 (by kernel_rfl)) (M8303.hasPick [4]) (M8303.nodupPick [4] (by kernel_rfl)) (apartX.old h7727 hap7728 M8303 [4]) (apartX.own ho8302 M8303 5 (by kernel_rfl) [4] (by kernel_rfl)) hr8305).mono ?_
                rintro e_ w8306 ⟨rfl, K8307⟩
                have M8308 := M8303.callF' [4] [0, 1, 2, 3, 5] (by kernel_rfl) K8307
                refine ⟨_, rfl, ?_⟩
                refine W_run 1 [(2, .pointer (some ⟨b7730, 0, none⟩)), (3, .pointer (some ⟨b7772, 0, none⟩)), (41, .int .i64 r8305.1), (42, .pointer (some ⟨b7772, 2, none⟩))] w8306 (by kernel_rfl) ?_
                refine W_store _ _ _ false 1 b7772 2 [.int .i64 (w64 (r7759.1 * r7785.1)), .int .i64 r7759.1, .int .i64 r7763.1, .int .i64 r7767.1] 59 (.int .i64 r8305.1) 2 [.int .i64 (w64 (r7759.1 * r7785.1)), .int .i64 r7759.1, .int .i64 r8305.1, .int .i64 r7767.1] M8308 (by kernel_rfl) rfl (by kernel_rfl) (by kernel_rfl) (by kernel_rfl) (by kernel_rfl) (by kernel_rfl) (by kernel_rfl) (by kernel_rfl) (by kernel_rfl) ?_
                intro w8309 M8310
                refine W_nil ?_
                obtain rfl := Option.some.inj hm
                exact N_meet fun a ha => ⟨M8310.pick [0, 2, 5] (by kernel_rfl), ha.sub (by kernel_rfl)⟩
              · refine G_cond_f (b := (r7829.1 == 2)) hc8297 (by kernel_rfl) ?_
                refine G_seq ?_
                refine G_region ?_
                refine W_run 2 [(0, .pointer (some ⟨b7723, 0, none⟩)), (2, .pointer (some ⟨b7730, 0, none⟩)), (3, .pointer (some ⟨b7772, 0, none⟩)), (43, .bool (r7829.1 == 3))] w7830 (by kernel_rfl) ?_
                refine W_nil ?_
                refine N_then ?_
                obtain ⟨o8325, ho8326, hm8327⟩ := gx_bind hm
                refine G_meet (fun a w' => Mem (idsOf [[(b7723, .cells ⟨[.slice p7725 x7721.code.length c7726, .int .i64 x7721.at_, .int .u64 x7721.seed]⟩ 89 (0, 0))]]) w w' [[(b7730, .cells ⟨[.int .i64 0, .int .i64 0, .int .i64 0, .int .i64 0]⟩ 59 (0, 0))], [(b7772, .cells ⟨[.int .i64 (w64 (r7759.1 * r7785.1)), .int .i64 r7759.1, .int .i64 r7763.1, .int .i64 o8325.2.2]⟩ 59 (0, 0))], [(b7723, .cells ⟨[.slice p7725 x7721.code.length c7726, .int .i64 o8325.1, .int .u64 o8325.2.1]⟩ 89 (0, 0))]] ∧ Sat Try.f82.ntmps [(2, .pointer (some ⟨b7730, 0, none⟩)), (3, .pointer (some ⟨b7772, 0, none⟩))] a) ?_ ?_
                · have hm := ho8326
                  rcases gx_bif hm with ⟨hc8328, hm⟩ | ⟨hc8328, hm⟩
                  · refine G_cond_t (b := (r7829.1 == 3)) hc8328 (by kernel_rfl) ?_
                    refine G_region ?_
                    refine W_run 1 [(2, .pointer (some ⟨b7730, 0, none⟩)), (3, .pointer (some ⟨b7772, 0, none⟩)), (45, .pointer (some ⟨b7723, 0, none⟩))] w7830 (by kernel_rfl) ?_
                    refine W_lit (E := encI) [(-1), 16] 2 [.int .i64 (-1), .int .i64 16] 3 M7832 (by kernel_rfl) (by kernel_rfl) (by kernel_rfl) (by kernel_rfl) (by kernel_rfl) ?_
                    intro p8329 c8330 sg8331 w8332 ho8333 M8334
                    obtain ⟨r8336, hr8336, hm⟩ := gx_bind hm
                    refine W_call 80 #[.pointer (some ⟨b7723, 0, none⟩), .slice p8329 [(-1), 16].length c8330] (by kernel_rfl) (by kernel_rfl) ?_
                    refine (c_s_l1Cur_among w8332 (⟨x7721.code, r7829.2.1, r7829.2.2⟩ : l1Cur) p7725 c7726 (h7727.memX hap7728 M8334) b7723 [(-1), 16] p8329 c8330 (ho8333.rd M8334 5 (by kernel_rfl)) (M8334.hasPick [4]) (M8334.nodupPick [4] (by kernel_rfl)) (apartX.old h7727 hap7728 M8334 [4]) (apartX.own ho8333 M8334 5 (by kernel_rfl) [4] (by kernel_rfl)) hr8336).mono ?_
                    rintro e_ w8337 ⟨rfl, K8338⟩
                    have M8339 := M8334.callF' [4] [0, 1, 2, 3, 5] (by kernel_rfl) K8338
                    refine ⟨_, rfl, ?_⟩
                    refine W_run 1 [(2, .pointer (some ⟨b7730, 0, none⟩)), (3, .pointer (some ⟨b7772, 0, none⟩)), (47, .int .i64 r8336.1), (48, .pointer (some ⟨b7772, 3, none⟩))] w8337 (by kernel_rfl) ?_
                    refine W_store _ _ _ false 1 b7772 3 [.int .i64 (w64 (r7759.1 * r7785.1)), .int .i64 r7759.1, .int .i64 r7763.1, .int .i64 r7767.1] 59 (.int .i64 r8336.1) 2 [.int .i64 (w64 (r7759.1 * r7785.1)), .int .i64 r7759.1, .int .i64 r7763.1, .int .i64 r8336.1] M8339 (by kernel_rfl) rfl (by kernel_rfl) (by kernel_rfl) (by kernel_rfl) (by kernel_rfl) (by kernel_rfl) (by kernel_rfl) (by kernel_rfl) (by kernel_rfl) ?_
                    intro w8340 M8341
                    refine W_nil ?_
                    obtain rfl := Option.some.inj hm
                    exact N_meet fun a ha => ⟨M8341.pick [0, 2, 5] (by kernel_rfl), ha.sub (by kernel_rfl)⟩
                  · refine G_cond_f (b := (r7829.1 == 3)) hc8328 (by kernel_rfl) ?_
                    refine G_skip ?_
                    obtain rfl := Option.some.inj hm
                    exact N_meet fun a ha => ⟨M7832.pick [0, 2, 4] (by kernel_rfl), ha.sub (by kernel_rfl)⟩
                · intro a8344 w8342 ⟨M8343, hS8345⟩
                  refine N_use hS8345 ?_
                  have hm := hm8327
                  obtain rfl := Option.some.inj hm
                  exact N_meet fun a ha => ⟨M8343.pick [0, 1, 2] (by kernel_rfl), ha.sub (by kernel_rfl)⟩
            · intro a8348 w8346 ⟨M8347, hS8349⟩
              refine N_use hS8349 ?_
              have hm := hm8296
              obtain rfl := Option.some.inj hm
              exact N_meet fun a ha => ⟨M8347.pick [0, 1, 2] (by kernel_rfl), ha.sub (by kernel_rfl)⟩
        · intro a8352 w8350 ⟨M8351, hS8353⟩
          refine N_use hS8353 ?_
          have hm := hm8230
          obtain rfl := Option.some.inj hm
          exact N_meet fun a ha => ⟨M8351.pick [0, 1, 2] (by kernel_rfl), ha.sub (by kernel_rfl)⟩
    · intro a8356 w8354 ⟨M8355, hS8357⟩
      refine N_use hS8357 ?_
      have hm := hm8094
      refine N_block ?_
      refine N_then ?_
      refine G_seq ?_
      refine G_region ?_
      refine W_val (.agg #[.int .i64 o8092.2.2.1, .int .i64 o8092.2.2.2.1, .int .i64 o8092.2.2.2.2.1, .int .i64 o8092.2.2.2.2.2]) w8354 (by kernel_rfl) (E_load (e := 59) (fr := (0, 0)) _ _ true 4 b7772 0 [.int .i64 o8092.2.2.1, .int .i64 o8092.2.2.2.1, .int .i64 o8092.2.2.2.2.1, .int .i64 o8092.2.2.2.2.2] (.agg #[.int .i64 o8092.2.2.1, .int .i64 o8092.2.2.2.1, .int .i64 o8092.2.2.2.2.1, .int .i64 o8092.2.2.2.2.2]) rfl (by kernel_rfl) (by kernel_rfl) (by kernel_rfl) (M8355.blk 1 (b := b7772) (o := .cells ⟨[.int .i64 o8092.2.2.1, .int .i64 o8092.2.2.2.1, .int .i64 o8092.2.2.2.2.1, .int .i64 o8092.2.2.2.2.2]⟩ 59 (0, 0)) (by kernel_rfl))) ?_
      refine W_store _ _ _ true 4 b7730 0 [.int .i64 0, .int .i64 0, .int .i64 0, .int .i64 0] 59 (.agg #[.int .i64 o8092.2.2.1, .int .i64 o8092.2.2.2.1, .int .i64 o8092.2.2.2.2.1, .int .i64 o8092.2.2.2.2.2]) 0 [.int .i64 o8092.2.2.1, .int .i64 o8092.2.2.2.1, .int .i64 o8092.2.2.2.2.1, .int .i64 o8092.2.2.2.2.2] M8355 (by kernel_rfl) rfl (by kernel_rfl) (by kernel_rfl) (by kernel_rfl) (by kernel_rfl) (by kernel_rfl) (by kernel_rfl) (by kernel_rfl) (by kernel_rfl) ?_
      intro w8358 M8359
      refine W_nil ?_
      refine N_then ?_
      refine G_ret ?_
      obtain rfl := Option.some.inj hm
      refine N_ret [.agg #[.int .i64 o8092.2.2.1, .int .i64 o8092.2.2.2.1, .int .i64 o8092.2.2.2.2.1, .int .i64 o8092.2.2.2.2.2]] (RVs_cons (RV_cell (g := true) (k := 4) (b := b7730) (off := 0) (cs := [.int .i64 o8092.2.2.1, .int .i64 o8092.2.2.2.1, .int .i64 o8092.2.2.2.2.1, .int .i64 o8092.2.2.2.2.2]) (e := 59) (fr := (0, 0)) (v := .agg #[.int .i64 o8092.2.2.1, .int .i64 o8092.2.2.2.1, .int .i64 o8092.2.2.2.2.1, .int .i64 o8092.2.2.2.2.2]) (M8359.blk 0 (b := b7730) (o := .cells ⟨[.int .i64 o8092.2.2.1, .int .i64 o8092.2.2.2.1, .int .i64 o8092.2.2.2.2.1, .int .i64 o8092.2.2.2.2.2]⟩ 59 (0, 0)) (by kernel_rfl)) (by kernel_rfl) (by kernel_rfl) (by kernel_rfl)) RVs_nil) ?_
      exact ⟨rfl, M8359.pick [2] (by kernel_rfl)⟩
theorem c_s_l1Cur_regions (w : World) (x7632 : l1Cur) (p7636 : Option Addr) (c7637 : Nat) (h7638 : rdS encU8 w x7632.code p7636 c7637) (b7634 : Nat) (hA : ∀ q ∈ List.flatten [[(b7634, .cells ⟨[.slice p7636 x7632.code.length c7637, .int .i64 x7632.at_, .int .u64 x7632.seed]⟩ 89 (0, 0))]], w.heap[q.1]? = some q.2) (hN : (idsOf [[(b7634, .cells ⟨[.slice p7636 x7632.code.length c7637, .int .i64 x7632.at_, .int .u64 x7632.seed]⟩ 89 (0, 0))]]).Nodup) (hap7639 : apartX (idsOf [[(b7634, .cells ⟨[.slice p7636 x7632.code.length c7637, .int .i64 x7632.at_, .int .u64 x7632.seed]⟩ 89 (0, 0))]]) x7632.code p7636) {r : (List Region) × Int × Int} (hm : M.s_l1Cur_regions x7632 = some r) :
    Calls Try.prog 77 #[.pointer (some ⟨b7634, 0, none⟩)] w fun e w' => ∃ (p7641 : Option Addr) (c7642 : Nat) (sg7643 : Seg), e = .returned (.slice p7641 r.1.length c7642) ∧ ownS encRegion r.1 p7641 c7642 sg7643 ∧ Mem (idsOf [[(b7634, .cells ⟨[.slice p7636 x7632.code.length c7637, .int .i64 x7632.at_, .int .u64 x7632.seed]⟩ 89 (0, 0))]]) w w' [[(b7634, .cells ⟨[.slice p7636 x7632.code.length c7637, .int .i64 r.2.1, .int .u64 r.2.2]⟩ 89 (0, 0))], sg7643] := by
  unfold M.s_l1Cur_regions at hm
  refine C_enter Try.func77 rfl (by kernel_rfl) ?_
  have M0 := Mem.start' w [[(b7634, .cells ⟨[.slice p7636 x7632.code.length c7637, .int .i64 x7632.at_, .int .u64 x7632.seed]⟩ 89 (0, 0))]] hA hN
  refine G_seq ?_
  refine G_region ?_
  refine W_run 1 [(0, .pointer (some ⟨b7634, 0, none⟩))] w (by kernel_rfl) ?_
  refine W_nil ?_
  refine N_then ?_
  refine G_seq ?_
  refine G_region ?_
  refine W_lit (E := encRegion) ([] : List Region) 0 [] 59 M0 (by kernel_rfl) (by kernel_rfl) (by kernel_rfl) (by kernel_rfl) (by kernel_rfl) ?_
  intro p7645 c7646 sg7647 w7648 ho7649 M7650
  refine W_run 1 [(0, .pointer (some ⟨b7634, 0, none⟩)), (3, .slice p7645 ([] : List Region).length c7646)] w7648 (by kernel_rfl) ?_
  refine W_nil ?_
  refine N_then ?_
  refine G_seq ?_
  refine G_seq ?_
  refine G_region ?_
  refine W_run 1 [(0, .pointer (some ⟨b7634, 0, none⟩)), (3, .slice p7645 ([] : List Region).length c7646), (9, .pointer (some ⟨b7634, 0, none⟩))] w7648 (by kernel_rfl) ?_
  obtain ⟨r7716, hr7716, hm⟩ := gx_bind hm
  refine W_call 81 #[.pointer (some ⟨b7634, 0, none⟩), .int .i64 7] (by kernel_rfl) (by kernel_rfl) ?_
  refine (c_s_l1Cur_pick w7648 x7632 p7636 c7637 (h7638.memX hap7639 M7650) b7634 7 (M7650.hasPick [0]) (M7650.nodupPick [0] (by kernel_rfl)) (apartX.old h7638 hap7639 M7650 [0]) hr7716).mono ?_
  rintro e_ w7717 ⟨rfl, K7718⟩
  have M7719 := M7650.callF' [0] [1] (by kernel_rfl) K7718
  refine ⟨_, rfl, ?_⟩
  refine W_run 1 [(0, .pointer (some ⟨b7634, 0, none⟩)), (3, .slice p7645 ([] : List Region).length c7646), (4, .int .i64 r7716.1)] w7717 (by kernel_rfl) ?_
  refine W_nil ?_
  refine N_then ?_
  obtain ⟨out8427, hw8428, hmo8429⟩ := gx_bind hm
  refine G_meet (fun a w' => ∃ (p8436 : Option Addr), ∃ (c8437 : Nat), ∃ (sg8438 : Seg), ownS encRegion out8427.1 p8436 c8437 sg8438 ∧ Mem (idsOf [[(b7634, .cells ⟨[.slice p7636 x7632.code.length c7637, .int .i64 x7632.at_, .int .u64 x7632.seed]⟩ 89 (0, 0))]]) w w' [[(b7634, .cells ⟨[.slice p7636 x7632.code.length c7637, .int .i64 out8427.2.1, .int .u64 out8427.2.2]⟩ 89 (0, 0))], sg8438] ∧ Sat Try.f77.ntmps [(0, .pointer (some ⟨b7634, 0, none⟩)), (3, .slice p8436 out8427.1.length c8437)] a) ?_ ?_
  · refine G_block ?_
    refine G_while (σ := List Region × Int × Int × Int) (ρ := List Region × Int × Int) (fun s8420 a w' => ∃ (p8430 : Option Addr), ∃ (c8431 : Nat), ∃ (sg8432 : Seg), ownS encRegion s8420.1 p8430 c8431 sg8432 ∧ Mem (idsOf [[(b7634, .cells ⟨[.slice p7636 x7632.code.length c7637, .int .i64 x7632.at_, .int .u64 x7632.seed]⟩ 89 (0, 0))]]) w w' [[(b7634, .cells ⟨[.slice p7636 x7632.code.length c7637, .int .i64 s8420.2.2.1, .int .u64 s8420.2.2.2]⟩ 89 (0, 0))], sg8432] ∧ Sat Try.f77.ntmps [(0, .pointer (some ⟨b7634, 0, none⟩)), (3, .slice p8430 s8420.1.length c8431), (4, .int .i64 s8420.2.1)] a) hw8428 (fun a ha => ⟨p7645, c7646, sg7647, ho7649, M7719.pick [1, 0] (by kernel_rfl), ha.sub (by kernel_rfl)⟩) ?_
    clear hm
    intro s8420 x8421 hm hout8422 a8423 w8424 ⟨p8430, c8431, sg8432, ho8433, M8425, hS8426⟩
    refine G_use hS8426 ?_
    refine G_seq ?_
    refine G_seq ?_
    refine G_region ?_
    refine W_run 2 [(0, .pointer (some ⟨b7634, 0, none⟩)), (3, .slice p8430 s8420.1.length c8431), (4, .int .i64 s8420.2.1), (12, .bool (decide (s8420.2.1 > 0)))] w8424 (by kernel_rfl) ?_
    refine W_nil ?_
    refine N_then ?_
    rcases gx_bif hm with ⟨hc8441, hm⟩ | ⟨hc8441, hm⟩
    · refine G_cond_t (b := (decide (s8420.2.1 > 0))) hc8441 (by kernel_rfl) ?_
      refine G_skip ?_
      refine N_then ?_
      refine G_seq ?_
      refine G_block ?_
      refine G_seq ?_
      refine G_region ?_
      refine W_run 2 [(0, .pointer (some ⟨b7634, 0, none⟩)), (3, .slice p8430 s8420.1.length c8431), (4, .int .i64 s8420.2.1), (16, .slice p8430 s8420.1.length c8431), (17, .pointer (some ⟨b7634, 0, none⟩))] w8424 (by kernel_rfl) ?_
      obtain ⟨r8442, hr8442, hm⟩ := gx_bind hm
      refine W_call 82 #[.pointer (some ⟨b7634, 0, none⟩)] (by kernel_rfl) (by kernel_rfl) ?_
      refine (c_s_l1Cur_region w8424 (⟨x7632.code, s8420.2.2.1, s8420.2.2.2⟩ : l1Cur) p7636 c7637 (h7638.memX hap7639 M8425) b7634 (M8425.hasPick [0]) (M8425.nodupPick [0] (by kernel_rfl)) (apartX.old h7638 hap7639 M8425 [0]) hr8442).mono ?_
      rintro e_ w8443 ⟨rfl, K8444⟩
      have M8445 := M8425.callF' [0] [1] (by kernel_rfl) K8444
      refine ⟨_, rfl, ?_⟩
      obtain ⟨r8446, hr8446, hm⟩ := gx_bind hm
      refine W_call 34 #[.slice p8430 s8420.1.length c8431, .agg #[.int .i64 r8442.1.Base, .int .i64 r8442.1.Size, .int .i64 r8442.1.Kind, .int .i64 r8442.1.Unit]] (by kernel_rfl) (by kernel_rfl) ?_
      refine (c_s_AddRegion w8443 s8420.1 p8430 c8431 (ho8433.rd M8445 0 (by kernel_rfl)) r8442.1 hr8446).mono ?_
      rintro e_ w8452 ⟨p8448, c8449, sg8450, rfl, ho8451, K8453⟩
      have M8454 := M8445.call K8453
      refine ⟨_, rfl, ?_⟩
      refine W_run 5 [(0, .pointer (some ⟨b7634, 0, none⟩)), (3, .slice p8430 s8420.1.length c8431), (4, .int .i64 s8420.2.1), (5, .slice p8448 r8446.1.length c8449), (6, .bool r8446.2)] w8452 (by kernel_rfl) ?_
      refine W_nil ?_
      refine N_then ?_
      refine G_seq ?_
      refine G_region ?_
      refine W_run 1 [(0, .pointer (some ⟨b7634, 0, none⟩)), (3, .slice p8430 s8420.1.length c8431), (4, .int .i64 s8420.2.1), (5, .slice p8448 r8446.1.length c8449), (22, .bool r8446.2)] w8452 (by kernel_rfl) ?_
      refine W_nil ?_
      refine N_then ?_
      obtain ⟨o8456, ho8457, hm8458⟩ := gx_bind hm
      refine G_meet (fun a w' => ∃ (p8459 : Option Addr), ∃ (c8460 : Nat), ∃ (sg8461 : Seg), ownS encRegion o8456 p8459 c8460 sg8461 ∧ Mem (idsOf [[(b7634, .cells ⟨[.slice p7636 x7632.code.length c7637, .int .i64 x7632.at_, .int .u64 x7632.seed]⟩ 89 (0, 0))]]) w w' [[(b7634, .cells ⟨[.slice p7636 x7632.code.length c7637, .int .i64 r8442.2.1, .int .u64 r8442.2.2]⟩ 89 (0, 0))], sg8461] ∧ Sat Try.f77.ntmps [(0, .pointer (some ⟨b7634, 0, none⟩)), (3, .slice p8459 o8456.length c8460), (4, .int .i64 s8420.2.1)] a) ?_ ?_
      · have hm := ho8457
        rcases gx_bif hm with ⟨hc8464, hm⟩ | ⟨hc8464, hm⟩
        · refine G_cond_t (b := r8446.2) hc8464 (by kernel_rfl) ?_
          refine G_region ?_
          refine W_run 2 [(0, .pointer (some ⟨b7634, 0, none⟩)), (3, .slice p8448 r8446.1.length c8449), (4, .int .i64 s8420.2.1)] w8452 (by kernel_rfl) ?_
          refine W_nil ?_
          obtain rfl := Option.some.inj hm
          exact N_meet fun a ha => ⟨p8448, c8449, sg8450, ho8451, M8454.pick [1, 2] (by kernel_rfl), ha.sub (by kernel_rfl)⟩
        · refine G_cond_f (b := r8446.2) hc8464 (by kernel_rfl) ?_
          refine G_skip ?_
          obtain rfl := Option.some.inj hm
          exact N_meet fun a ha => ⟨p8430, c8431, sg8432, ho8433, M8454.pick [1, 0] (by kernel_rfl), ha.sub (by kernel_rfl)⟩
      · intro a8467 w8465 ⟨p8459, c8460, sg8461, ho8462, M8466, hS8468⟩
        refine N_use hS8468 ?_
        have hm := hm8458
        refine N_block ?_
        refine N_then ?_
        refine G_region ?_
        refine W_run 3 [(0, .pointer (some ⟨b7634, 0, none⟩)), (3, .slice p8459 o8456.length c8460), (4, .int .i64 (w64 (s8420.2.1 - 1)))] w8465 (by kernel_rfl) ?_
        refine W_nil ?_
        obtain rfl := Option.some.inj hm
        exact N_loop fun a ha => ⟨_, rfl, p8459, c8460, sg8461, ho8462, M8466.pick [0, 1] (by kernel_rfl), ha.sub (by kernel_rfl)⟩
    · refine G_cond_f (b := (decide (s8420.2.1 > 0))) hc8441 (by kernel_rfl) ?_
      refine G_exit ?_
      refine N_then_exit ?_
      refine N_then_exit ?_
      refine N_block_eq ?_
      obtain rfl := Option.some.inj hm
      obtain rfl := hout8422 _ rfl
      exact N_meet fun a ha => ⟨p8430, c8431, sg8432, ho8433, M8425.pick [0, 1] (by kernel_rfl), ha.sub (by kernel_rfl)⟩
  · intro a8469 w8470 ⟨p8436, c8437, sg8438, ho8439, M8471, hS8472⟩
    refine N_use hS8472 ?_
    have hm := hmo8429
    refine N_then ?_
    refine G_seq ?_
    refine G_seq ?_
    refine G_region ?_
    refine W_run 1 [(0, .pointer (some ⟨b7634, 0, none⟩)), (3, .slice p8436 out8427.1.length c8437), (24, .pointer (some ⟨b7634, 0, none⟩))] w8470 (by kernel_rfl) ?_
    obtain ⟨r8473, hr8473, hm⟩ := gx_bind hm
    refine W_call 81 #[.pointer (some ⟨b7634, 0, none⟩), .int .i64 30] (by kernel_rfl) (by kernel_rfl) ?_
    refine (c_s_l1Cur_pick w8470 (⟨x7632.code, out8427.2.1, out8427.2.2⟩ : l1Cur) p7636 c7637 (h7638.memX hap7639 M8471) b7634 30 (M8471.hasPick [0]) (M8471.nodupPick [0] (by kernel_rfl)) (apartX.old h7638 hap7639 M8471 [0]) hr8473).mono ?_
    rintro e_ w8474 ⟨rfl, K8475⟩
    have M8476 := M8471.callF' [0] [1] (by kernel_rfl) K8475
    refine ⟨_, rfl, ?_⟩
    refine W_nil ?_
    refine N_then ?_
    refine G_block ?_
    refine G_seq ?_
    refine G_region ?_
    refine W_run 2 [(0, .pointer (some ⟨b7634, 0, none⟩)), (3, .slice p8436 out8427.1.length c8437), (25, .int .i64 r8473.1), (26, .bool (r8473.1 == 0))] w8474 (by kernel_rfl) ?_
    refine W_nil ?_
    refine N_then ?_
    obtain ⟨o8705, ho8706, hm8707⟩ := gx_bind hm
    refine G_meet (fun a w' => ∃ (p8708 : Option Addr), ∃ (c8709 : Nat), ∃ (sg8710 : Seg), ownS encRegion o8705.1 p8708 c8709 sg8710 ∧ Mem (idsOf [[(b7634, .cells ⟨[.slice p7636 x7632.code.length c7637, .int .i64 x7632.at_, .int .u64 x7632.seed]⟩ 89 (0, 0))]]) w w' [[(b7634, .cells ⟨[.slice p7636 x7632.code.length c7637, .int .i64 o8705.2.1, .int .u64 o8705.2.2]⟩ 89 (0, 0))], sg8710] ∧ Sat Try.f77.ntmps [(3, .slice p8708 o8705.1.length c8709)] a) ?_ ?_
    · have hm := ho8706
      rcases gx_bif hm with ⟨hc8713, hm⟩ | ⟨hc8713, hm⟩
      · refine G_cond_t (b := (r8473.1 == 0)) hc8713 (by kernel_rfl) ?_
        refine G_region ?_
        refine W_run 2 [(3, .slice p8436 out8427.1.length c8437), (28, .slice p8436 out8427.1.length c8437), (29, .pointer (some ⟨b7634, 0, none⟩))] w8474 (by kernel_rfl) ?_
        obtain ⟨r8714, hr8714, hm⟩ := gx_bind hm
        refine W_call 82 #[.pointer (some ⟨b7634, 0, none⟩)] (by kernel_rfl) (by kernel_rfl) ?_
        refine (c_s_l1Cur_region w8474 (⟨x7632.code, r8473.2.1, r8473.2.2⟩ : l1Cur) p7636 c7637 (h7638.memX hap7639 M8476) b7634 (M8476.hasPick [1]) (M8476.nodupPick [1] (by kernel_rfl)) (apartX.old h7638 hap7639 M8476 [1]) hr8714).mono ?_
        rintro e_ w8715 ⟨rfl, K8716⟩
        have M8717 := M8476.callF' [1] [0] (by kernel_rfl) K8716
        refine ⟨_, rfl, ?_⟩
        refine W_lit (E := encRegion) [r8714.1] 1 [.int .i64 r8714.1.Base, .int .i64 r8714.1.Size, .int .i64 r8714.1.Kind, .int .i64 r8714.1.Unit] 59 M8717 (by kernel_rfl) (by kernel_rfl) (by kernel_rfl) (by kernel_rfl) (by kernel_rfl) ?_
        intro p8718 c8719 sg8720 w8721 ho8722 M8723
        obtain ⟨ap8725, hap8725, hm⟩ := gx_bind hm
        refine W_append (E := encRegion) _ _ _ 32 [.int .i64 0, .int .i64 0, .int .i64 0, .int .i64 0] 0 c8719 M8723 ho8439 (by kernel_rfl) (by kernel_rfl) (by kernel_rfl) rfl (by kernel_rfl) (by kernel_rfl) (by kernel_rfl) (by kernel_rfl) (by kernel_rfl) (by kernel_rfl) (ho8722.rd M8723 2 (by kernel_rfl)) hap8725 ?_
        intro p8726 c8727 sg8728 w8729 ho8730 M8731
        refine W_run 1 [(3, .slice p8726 ap8725.length c8727)] w8729 (by kernel_rfl) ?_
        refine W_nil ?_
        obtain rfl := Option.some.inj hm
        exact N_meet fun a ha => ⟨p8726, c8727, sg8728, ho8730, M8731.pick [1, 0] (by kernel_rfl), ha.sub (by kernel_rfl)⟩
      · refine G_cond_f (b := (r8473.1 == 0)) hc8713 (by kernel_rfl) ?_
        refine G_seq ?_
        refine G_region ?_
        refine W_run 2 [(0, .pointer (some ⟨b7634, 0, none⟩)), (3, .slice p8436 out8427.1.length c8437), (33, .bool (r8473.1 == 1))] w8474 (by kernel_rfl) ?_
        refine W_nil ?_
        refine N_then ?_
        obtain ⟨o8831, ho8832, hm8833⟩ := gx_bind hm
        refine G_meet (fun a w' => ∃ (p8834 : Option Addr), ∃ (c8835 : Nat), ∃ (sg8836 : Seg), ownS encRegion o8831.1 p8834 c8835 sg8836 ∧ Mem (idsOf [[(b7634, .cells ⟨[.slice p7636 x7632.code.length c7637, .int .i64 x7632.at_, .int .u64 x7632.seed]⟩ 89 (0, 0))]]) w w' [[(b7634, .cells ⟨[.slice p7636 x7632.code.length c7637, .int .i64 o8831.2.1, .int .u64 o8831.2.2]⟩ 89 (0, 0))], sg8836] ∧ Sat Try.f77.ntmps [(3, .slice p8834 o8831.1.length c8835)] a) ?_ ?_
        · have hm := ho8832
          rcases gx_bif hm with ⟨hc8839, hm⟩ | ⟨hc8839, hm⟩
          · refine G_cond_t (b := (r8473.1 == 1)) hc8839 (by kernel_rfl) ?_
            refine G_seq ?_
            refine G_region ?_
            refine W_lit (E := encRegion) ([] : List Region) 0 [] 59 M8476 (by kernel_rfl) (by kernel_rfl) (by kernel_rfl) (by kernel_rfl) (by kernel_rfl) ?_
            intro p8840 c8841 sg8842 w8843 ho8844 M8845
            refine W_run 1 [(0, .pointer (some ⟨b7634, 0, none⟩)), (3, .slice p8840 ([] : List Region).length c8841)] w8843 (by kernel_rfl) ?_
            refine W_nil ?_
            refine N_then ?_
            refine G_seq ?_
            refine G_region ?_
            refine W_run 1 [(0, .pointer (some ⟨b7634, 0, none⟩)), (3, .slice p8840 ([] : List Region).length c8841), (7, .int .i64 0)] w8843 (by kernel_rfl) ?_
            refine W_nil ?_
            refine N_then ?_
            obtain ⟨out8899, hw8900, hmo8901⟩ := gx_bind hm
            refine G_meet (fun a w' => ∃ (p8908 : Option Addr), ∃ (c8909 : Nat), ∃ (sg8910 : Seg), ownS encRegion out8899.1 p8908 c8909 sg8910 ∧ Mem (idsOf [[(b7634, .cells ⟨[.slice p7636 x7632.code.length c7637, .int .i64 x7632.at_, .int .u64 x7632.seed]⟩ 89 (0, 0))]]) w w' [[(b7634, .cells ⟨[.slice p7636 x7632.code.length c7637, .int .i64 out8899.2.1, .int .u64 out8899.2.2]⟩ 89 (0, 0))], sg8910] ∧ Sat Try.f77.ntmps [(3, .slice p8908 out8899.1.length c8909)] a) ?_ ?_
            · refine G_block ?_
              refine G_while (σ := List Region × Int × Int × Int) (ρ := List Region × Int × Int) (fun s8892 a w' => ∃ (p8902 : Option Addr), ∃ (c8903 : Nat), ∃ (sg8904 : Seg), ownS encRegion s8892.1 p8902 c8903 sg8904 ∧ Mem (idsOf [[(b7634, .cells ⟨[.slice p7636 x7632.code.length c7637, .int .i64 x7632.at_, .int .u64 x7632.seed]⟩ 89 (0, 0))]]) w w' [[(b7634, .cells ⟨[.slice p7636 x7632.code.length c7637, .int .i64 s8892.2.2.1, .int .u64 s8892.2.2.2]⟩ 89 (0, 0))], sg8904] ∧ Sat Try.f77.ntmps [(0, .pointer (some ⟨b7634, 0, none⟩)), (3, .slice p8902 s8892.1.length c8903), (7, .int .i64 s8892.2.1)] a) hw8900 (fun a ha => ⟨p8840, c8841, sg8842, ho8844, M8845.pick [1, 2] (by kernel_rfl), ha.sub (by kernel_rfl)⟩) ?_
              clear hm
              intro s8892 x8893 hm hout8894 a8895 w8896 ⟨p8902, c8903, sg8904, ho8905, M8897, hS8898⟩
              refine G_use hS8898 ?_
              refine G_seq ?_
              refine G_seq ?_
              refine G_region ?_
              refine W_run 2 [(0, .pointer (some ⟨b7634, 0, none⟩)), (3, .slice p8902 s8892.1.length c8903), (7, .int .i64 s8892.2.1), (36, .int .i64 s8892.2.1), (37, .pointer (some ⟨b7634, 0, none⟩))] w8896 (by kernel_rfl) ?_
              obtain ⟨r8913, hr8913, hm⟩ := gx_bind hm
              refine W_call 81 #[.pointer (some ⟨b7634, 0, none⟩), .int .i64 2] (by kernel_rfl) (by kernel_rfl) ?_
              refine (c_s_l1Cur_pick w8896 (⟨x7632.code, s8892.2.2.1, s8892.2.2.2⟩ : l1Cur) p7636 c7637 (h7638.memX hap7639 M8897) b7634 2 (M8897.hasPick [0]) (M8897.nodupPick [0] (by kernel_rfl)) (apartX.old h7638 hap7639 M8897 [0]) hr8913).mono ?_
              rintro e_ w8914 ⟨rfl, K8915⟩
              have M8916 := M8897.callF' [0] [1] (by kernel_rfl) K8915
              refine ⟨_, rfl, ?_⟩
              refine W_run 2 [(0, .pointer (some ⟨b7634, 0, none⟩)), (3, .slice p8902 s8892.1.length c8903), (7, .int .i64 s8892.2.1), (40, .bool (decide (s8892.2.1 < (w64 (6 + r8913.1)))))] w8914 (by kernel_rfl) ?_
              refine W_nil ?_
              refine N_then ?_
              rcases gx_bif hm with ⟨hc8917, hm⟩ | ⟨hc8917, hm⟩
              · refine G_cond_t (b := (decide (s8892.2.1 < (w64 (6 + r8913.1))))) hc8917 (by kernel_rfl) ?_
                refine G_skip ?_
                refine N_then ?_
                refine G_seq ?_
                refine G_block ?_
                refine G_region ?_
                refine W_run 7 [(0, .pointer (some ⟨b7634, 0, none⟩)), (3, .slice p8902 s8892.1.length c8903), (7, .int .i64 s8892.2.1), (43, .slice p8902 s8892.1.length c8903), (49, .agg #[.int .i64 (w64 (8 * s8892.2.1)), .int .i64 4, .int .i64 (s8892.2.1.tmod 4), .int .i64 s8892.2.1])] w8914 (by kernel_rfl) ?_
                refine W_lit (E := encRegion) [(⟨w64 (8 * s8892.2.1), 4, s8892.2.1.tmod 4, s8892.2.1⟩ : Region)] 1 [.int .i64 (w64 (8 * s8892.2.1)), .int .i64 4, .int .i64 (s8892.2.1.tmod 4), .int .i64 s8892.2.1] 59 M8916 (by kernel_rfl) (by kernel_rfl) (by kernel_rfl) (by kernel_rfl) (by kernel_rfl) ?_
                intro p8918 c8919 sg8920 w8921 ho8922 M8923
                obtain ⟨ap8925, hap8925, hm⟩ := gx_bind hm
                refine W_append (E := encRegion) _ _ _ 32 [.int .i64 0, .int .i64 0, .int .i64 0, .int .i64 0] 0 c8919 M8923 ho8905 (by kernel_rfl) (by kernel_rfl) (by kernel_rfl) rfl (by kernel_rfl) (by kernel_rfl) (by kernel_rfl) (by kernel_rfl) (by kernel_rfl) (by kernel_rfl) (ho8922.rd M8923 2 (by kernel_rfl)) hap8925 ?_
                intro p8926 c8927 sg8928 w8929 ho8930 M8931
                refine W_run 1 [(0, .pointer (some ⟨b7634, 0, none⟩)), (3, .slice p8926 ap8925.length c8927), (7, .int .i64 s8892.2.1)] w8929 (by kernel_rfl) ?_
                refine W_nil ?_
                refine N_block ?_
                refine N_then ?_
                refine G_region ?_
                refine W_run 3 [(0, .pointer (some ⟨b7634, 0, none⟩)), (3, .slice p8926 ap8925.length c8927), (7, .int .i64 (w64 (s8892.2.1 + 1)))] w8929 (by kernel_rfl) ?_
                refine W_nil ?_
                obtain rfl := Option.some.inj hm
                exact N_loop fun a ha => ⟨_, rfl, p8926, c8927, sg8928, ho8930, M8931.pick [1, 0] (by kernel_rfl), ha.sub (by kernel_rfl)⟩
              · refine G_cond_f (b := (decide (s8892.2.1 < (w64 (6 + r8913.1))))) hc8917 (by kernel_rfl) ?_
                refine G_exit ?_
                refine N_then_exit ?_
                refine N_then_exit ?_
                refine N_block_eq ?_
                obtain rfl := Option.some.inj hm
                obtain rfl := hout8894 _ rfl
                exact N_meet fun a ha => ⟨p8902, c8903, sg8904, ho8905, M8916.pick [1, 0] (by kernel_rfl), ha.sub (by kernel_rfl)⟩
            · intro a8933 w8934 ⟨p8908, c8909, sg8910, ho8911, M8935, hS8936⟩
              refine N_use hS8936 ?_
              have hm := hmo8901
              obtain rfl := Option.some.inj hm
              exact N_meet fun a ha => ⟨p8908, c8909, sg8910, ho8911, M8935.pick [0, 1] (by kernel_rfl), ha.sub (by kernel_rfl)⟩
          · refine G_cond_f (b := (r8473.1 == 1)) hc8839 (by kernel_rfl) ?_
            refine G_skip ?_
            obtain rfl := Option.some.inj hm
            exact N_meet fun a ha => ⟨p8436, c8437, sg8438, ho8439, M8476.pick [1, 0] (by kernel_rfl), ha.sub (by kernel_rfl)⟩
        · intro a8939 w8937 ⟨p8834, c8835, sg8836, ho8837, M8938, hS8940⟩
          refine N_use hS8940 ?_
          have hm := hm8833
          obtain rfl := Option.some.inj hm
          exact N_meet fun a ha => ⟨p8834, c8835, sg8836, ho8837, M8938.pick [0, 1] (by kernel_rfl), ha.sub (by kernel_rfl)⟩
    · intro a8943 w8941 ⟨p8708, c8709, sg8710, ho8711, M8942, hS8944⟩
      refine N_use hS8944 ?_
      have hm := hm8707
      refine N_block ?_
      refine N_then ?_
      refine G_seq ?_
      refine G_region ?_
      refine W_run 2 [(2, .slice p8708 o8705.1.length c8709)] w8941 (by kernel_rfl) ?_
      refine W_nil ?_
      refine N_then ?_
      refine G_ret ?_
      obtain rfl := Option.some.inj hm
      refine N_ret [.slice p8708 o8705.1.length c8709] (RVs_cons (RV_tmp (by kernel_rfl)) RVs_nil) ?_
      exact ⟨p8708, c8709, sg8710, rfl, ho8711, M8942.pick [0, 1] (by kernel_rfl)⟩
theorem c_s_l1Cur_one (w : World) (x8987 : l1Cur) (p8991 : Option Addr) (c8992 : Nat) (h8993 : rdS encU8 w x8987.code p8991 c8992) (b8989 : Nat) (x8995 : Int) (hA : ∀ q ∈ List.flatten [[(b8989, .cells ⟨[.slice p8991 x8987.code.length c8992, .int .i64 x8987.at_, .int .u64 x8987.seed]⟩ 89 (0, 0))]], w.heap[q.1]? = some q.2) (hN : (idsOf [[(b8989, .cells ⟨[.slice p8991 x8987.code.length c8992, .int .i64 x8987.at_, .int .u64 x8987.seed]⟩ 89 (0, 0))]]).Nodup) (hap8994 : apartX (idsOf [[(b8989, .cells ⟨[.slice p8991 x8987.code.length c8992, .int .i64 x8987.at_, .int .u64 x8987.seed]⟩ 89 (0, 0))]]) x8987.code p8991) {r : Bool × Int × Int} (hm : M.s_l1Cur_one x8987 x8995 = some r) :
    Calls Try.prog 92 #[.pointer (some ⟨b8989, 0, none⟩), .int .i64 x8995] w fun e w' => e = .returned (.bool r.1) ∧ Mem (idsOf [[(b8989, .cells ⟨[.slice p8991 x8987.code.length c8992, .int .i64 x8987.at_, .int .u64 x8987.seed]⟩ 89 (0, 0))]]) w w' [[(b8989, .cells ⟨[.slice p8991 x8987.code.length c8992, .int .i64 r.2.1, .int .u64 r.2.2]⟩ 89 (0, 0))]] := by
  unfold M.s_l1Cur_one at hm
  refine C_enter Try.func92 rfl (by kernel_rfl) ?_
  have M0 := Mem.start' w [[(b8989, .cells ⟨[.slice p8991 x8987.code.length c8992, .int .i64 x8987.at_, .int .u64 x8987.seed]⟩ 89 (0, 0))]] hA hN
  refine G_seq ?_
  refine G_region ?_
  refine W_run 1 [(0, .pointer (some ⟨b8989, 0, none⟩)), (1, .int .i64 x8995)] w (by kernel_rfl) ?_
  refine W_nil ?_
  refine N_then ?_
  refine G_seq ?_
  refine G_region ?_
  refine W_run 2 [(5, .pointer (some ⟨b8989, 0, none⟩)), (6, .int .i64 x8995)] w (by kernel_rfl) ?_
  obtain ⟨r8996, hr8996, hm⟩ := gx_bind hm
  refine W_call 81 #[.pointer (some ⟨b8989, 0, none⟩), .int .i64 x8995] (by kernel_rfl) (by kernel_rfl) ?_
  refine (c_s_l1Cur_pick w x8987 p8991 c8992 (h8993.memX hap8994 M0) b8989 x8995 (M0.hasPick [0]) (M0.nodupPick [0] (by kernel_rfl)) (apartX.old h8993 hap8994 M0 [0]) hr8996).mono ?_
  rintro e_ w8997 ⟨rfl, K8998⟩
  have M8999 := M0.callF' [0] [] (by kernel_rfl) K8998
  refine ⟨_, rfl, ?_⟩
  refine W_run 2 [(4, .bool (r8996.1 == 0))] w8997 (by kernel_rfl) ?_
  refine W_nil ?_
  refine N_then ?_
  refine G_ret ?_
  obtain rfl := Option.some.inj hm
  refine N_ret [.bool (r8996.1 == 0)] (RVs_cons (RV_tmp (by kernel_rfl)) RVs_nil) ?_
  exact ⟨rfl, M8999.pick [0] (by kernel_rfl)⟩
theorem c_s_l1Cur_address17 (w : World) (x8972 : l1Cur) (p8976 : Option Addr) (c8977 : Nat) (h8978 : rdS encU8 w x8972.code p8976 c8977) (b8974 : Nat) (x8980 : List Region) (p8982 : Option Addr) (c8983 : Nat) (h8984 : rdS encRegion w x8980 p8982 c8983) (hA : ∀ q ∈ List.flatten [[(b8974, .cells ⟨[.slice p8976 x8972.code.length c8977, .int .i64 x8972.at_, .int .u64 x8972.seed]⟩ 89 (0, 0))]], w.heap[q.1]? = some q.2) (hN : (idsOf [[(b8974, .cells ⟨[.slice p8976 x8972.code.length c8977, .int .i64 x8972.at_, .int .u64 x8972.seed]⟩ 89 (0, 0))]]).Nodup) (hap8979 : apartX (idsOf [[(b8974, .cells ⟨[.slice p8976 x8972.code.length c8977, .int .i64 x8972.at_, .int .u64 x8972.seed]⟩ 89 (0, 0))]]) x8972.code p8976) (hap8985 : apartX (idsOf [[(b8974, .cells ⟨[.slice p8976 x8972.code.length c8977, .int .i64 x8972.at_, .int .u64 x8972.seed]⟩ 89 (0, 0))]]) x8980 p8982) {r : Int × Int × Int} (hm : M.s_l1Cur_address17 x8972 x8980 = some r) :
    Calls Try.prog 79 #[.pointer (some ⟨b8974, 0, none⟩), .slice p8982 x8980.length c8983] w fun e w' => e = .returned (.int .i64 r.1) ∧ Mem (idsOf [[(b8974, .cells ⟨[.slice p8976 x8972.code.length c8977, .int .i64 x8972.at_, .int .u64 x8972.seed]⟩ 89 (0, 0))]]) w w' [[(b8974, .cells ⟨[.slice p8976 x8972.code.length c8977, .int .i64 r.2.1, .int .u64 r.2.2]⟩ 89 (0, 0))]] := by
  unfold M.s_l1Cur_address17 at hm
  refine C_enter Try.func79 rfl (by kernel_rfl) ?_
  have M0 := Mem.start' w [[(b8974, .cells ⟨[.slice p8976 x8972.code.length c8977, .int .i64 x8972.at_, .int .u64 x8972.seed]⟩ 89 (0, 0))]] hA hN
  refine G_seq ?_
  refine G_region ?_
  refine W_run 1 [(0, .pointer (some ⟨b8974, 0, none⟩)), (1, .slice p8982 x8980.length c8983)] w (by kernel_rfl) ?_
  refine W_nil ?_
  refine N_then ?_
  refine G_seq ?_
  refine G_seq ?_
  obtain ⟨o9004, ho9005, hm9006⟩ := gx_bind hm
  refine G_meet (fun a w' => Mem (idsOf [[(b8974, .cells ⟨[.slice p8976 x8972.code.length c8977, .int .i64 x8972.at_, .int .u64 x8972.seed]⟩ 89 (0, 0))]]) w w' [[(b8974, .cells ⟨[.slice p8976 x8972.code.length c8977, .int .i64 o9004.2.1, .int .u64 o9004.2.2]⟩ 89 (0, 0))]] ∧ Sat Try.f79.ntmps [(0, .pointer (some ⟨b8974, 0, none⟩)), (1, .slice p8982 x8980.length c8983), (12, .bool o9004.1)] a) ?_ ?_
  · have hm := ho9005
    refine G_region ?_
    refine W_run 4 [(0, .pointer (some ⟨b8974, 0, none⟩)), (1, .slice p8982 x8980.length c8983), (9, .bool ((x8980.length : Int) == 0))] w (by kernel_rfl) ?_
    rcases gx_bif hm with ⟨hc9007, hm⟩ | ⟨hc9007, hm⟩
    · refine W_known 9 true (by kernel_rfl) hc9007 ?_
      refine W_run 3 [(0, .pointer (some ⟨b8974, 0, none⟩)), (1, .slice p8982 x8980.length c8983), (12, .bool true)] w (by kernel_rfl) ?_
      refine W_nil ?_
      obtain rfl := Option.some.inj hm
      exact N_meet fun a ha => ⟨M0.pick [0] (by kernel_rfl), ha.sub (by kernel_rfl)⟩
    · refine W_known 9 false (by kernel_rfl) hc9007 ?_
      refine W_run 1 [(0, .pointer (some ⟨b8974, 0, none⟩)), (1, .slice p8982 x8980.length c8983), (9, .bool false), (10, .pointer (some ⟨b8974, 0, none⟩))] w (by kernel_rfl) ?_
      obtain ⟨r9008, hr9008, hm⟩ := gx_bind hm
      refine W_call 92 #[.pointer (some ⟨b8974, 0, none⟩), .int .i64 4] (by kernel_rfl) (by kernel_rfl) ?_
      refine (c_s_l1Cur_one w x8972 p8976 c8977 (h8978.memX hap8979 M0) b8974 4 (M0.hasPick [0]) (M0.nodupPick [0] (by kernel_rfl)) (apartX.old h8978 hap8979 M0 [0]) hr9008).mono ?_
      rintro e_ w9009 ⟨rfl, K9010⟩
      have M9011 := M0.callF' [0] [] (by kernel_rfl) K9010
      refine ⟨_, rfl, ?_⟩
      refine W_run 1 [(0, .pointer (some ⟨b8974, 0, none⟩)), (1, .slice p8982 x8980.length c8983), (12, .bool r9008.1)] w9009 (by kernel_rfl) ?_
      refine W_nil ?_
      obtain rfl := Option.some.inj hm
      exact N_meet fun a ha => ⟨M9011.pick [0] (by kernel_rfl), ha.sub (by kernel_rfl)⟩
  · intro a9014 w9012 ⟨M9013, hS9015⟩
    refine N_use hS9015 ?_
    have hm := hm9006
    refine N_then ?_
    rcases gx_bif hm with ⟨hc9016, hm⟩ | ⟨hc9016, hm⟩
    · refine G_cond_t (b := o9004.1) hc9016 (by kernel_rfl) ?_
      refine G_seq ?_
      refine G_region ?_
      refine W_run 1 [(0, .pointer (some ⟨b8974, 0, none⟩)), (13, .pointer (some ⟨b8974, 0, none⟩))] w9012 (by kernel_rfl) ?_
      refine W_lit (E := encI) [0, 5, 40, 65535, (-1), 65536] 6 [.int .i64 0, .int .i64 5, .int .i64 40, .int .i64 65535, .int .i64 (-1), .int .i64 65536] 3 M9013 (by kernel_rfl) (by kernel_rfl) (by kernel_rfl) (by kernel_rfl) (by kernel_rfl) ?_
      intro p9017 c9018 sg9019 w9020 ho9021 M9022
      refine W_run 1 [(13, .pointer (some ⟨b8974, 0, none⟩)), (14, .slice p9017 [0, 5, 40, 65535, (-1), 65536].length c9018), (15, .pointer (some ⟨b8974, 0, none⟩))] w9020 (by kernel_rfl) ?_
      obtain ⟨r9024, hr9024, hm⟩ := gx_bind hm
      refine W_call 81 #[.pointer (some ⟨b8974, 0, none⟩), .int .i64 24] (by kernel_rfl) (by kernel_rfl) ?_
      refine (c_s_l1Cur_pick w9020 (⟨x8972.code, o9004.2.1, o9004.2.2⟩ : l1Cur) p8976 c8977 (h8978.memX hap8979 M9022) b8974 24 (M9022.hasPick [0]) (M9022.nodupPick [0] (by kernel_rfl)) (apartX.old h8978 hap8979 M9022 [0]) hr9024).mono ?_
      rintro e_ w9025 ⟨rfl, K9026⟩
      have M9027 := M9022.callF' [0] [1] (by kernel_rfl) K9026
      refine ⟨_, rfl, ?_⟩
      refine W_run 2 [(13, .pointer (some ⟨b8974, 0, none⟩)), (14, .slice p9017 [0, 5, 40, 65535, (-1), 65536].length c9018), (18, .int .i64 (w64 (4 + (w64 (r9024.1.tdiv 11)))))] w9025 (by kernel_rfl) ?_
      obtain ⟨ys9028, hys9028, hm⟩ := gx_bind hm
      refine W_val (.slice (subP p9017 (0 : Int).toNat c9018 1) ys9028.length (c9018 - (0 : Int).toNat)) w9025 (by kernel_rfl) (E_slice (E := encI) _ _ _ _ [0, 5, 40, 65535, (-1), 65536].length 0 (w64 (4 + (w64 (r9024.1.tdiv 11)))) rfl (by kernel_rfl) (Or.inl ⟨rfl, rfl⟩) (Or.inr ⟨_, rfl, by kernel_rfl⟩) (by kernel_rfl) (ho9021.rd M9027 0 (by kernel_rfl)) rfl hys9028) ?_
      obtain ⟨r9030, hr9030, hm⟩ := gx_bind hm
      refine W_call 80 #[.pointer (some ⟨b8974, 0, none⟩), .slice (subP p9017 (0 : Int).toNat c9018 1) ys9028.length (c9018 - (0 : Int).toNat)] (by kernel_rfl) (by kernel_rfl) ?_
      refine (c_s_l1Cur_among w9025 (⟨x8972.code, r9024.2.1, r9024.2.2⟩ : l1Cur) p8976 c8977 (h8978.memX hap8979 M9027) b8974 ys9028 (subP p9017 (0 : Int).toNat c9018 1) (c9018 - (0 : Int).toNat) ((ho9021.rd M9027 0 (by kernel_rfl)).sliceM hys9028) (M9027.hasPick [1]) (M9027.nodupPick [1] (by kernel_rfl)) (apartX.old h8978 hap8979 M9027 [1]) (apartX.slice (apartX.own ho9021 M9027 0 (by kernel_rfl) [1] (by kernel_rfl)) hys9028) hr9030).mono ?_
      rintro e_ w9031 ⟨rfl, K9032⟩
      have M9033 := M9027.callF' [1] [0] (by kernel_rfl) K9032
      refine ⟨_, rfl, ?_⟩
      refine W_run 1 [(4, .int .i64 r9030.1)] w9031 (by kernel_rfl) ?_
      refine W_nil ?_
      refine N_then ?_
      refine G_ret ?_
      refine N_then_ret ?_
      obtain rfl := Option.some.inj hm
      refine N_ret [.int .i64 r9030.1] (RVs_cons (RV_tmp (by kernel_rfl)) RVs_nil) ?_
      exact ⟨rfl, M9033.pick [1] (by kernel_rfl)⟩
    · refine G_cond_f (b := o9004.1) hc9016 (by kernel_rfl) ?_
      refine G_skip ?_
      refine N_then ?_
      refine G_seq ?_
      refine G_region ?_
      refine W_run 4 [(0, .pointer (some ⟨b8974, 0, none⟩)), (21, .slice p8982 x8980.length c8983), (22, .pointer (some ⟨b8974, 0, none⟩)), (24, .int .i64 (x8980.length : Int))] w9012 (by kernel_rfl) ?_
      obtain ⟨r9034, hr9034, hm⟩ := gx_bind hm
      refine W_call 81 #[.pointer (some ⟨b8974, 0, none⟩), .int .i64 (x8980.length : Int)] (by kernel_rfl) (by kernel_rfl) ?_
      refine (c_s_l1Cur_pick w9012 (⟨x8972.code, o9004.2.1, o9004.2.2⟩ : l1Cur) p8976 c8977 (h8978.memX hap8979 M9013) b8974 (x8980.length : Int) (M9013.hasPick [0]) (M9013.nodupPick [0] (by kernel_rfl)) (apartX.old h8978 hap8979 M9013 [0]) hr9034).mono ?_
      rintro e_ w9035 ⟨rfl, K9036⟩
      have M9037 := M9013.callF' [0] [] (by kernel_rfl) K9036
      refine ⟨_, rfl, ?_⟩
      obtain ⟨y9038, hy9038, hm⟩ := gx_bind hm
      refine W_val (elemP p8982 (r9034.1.toNat * 4)) w9035 (by kernel_rfl) (E_index (E := encRegion) _ _ _ x8980.length c8983 .i64 r9034.1 4 (y := y9038) rfl (by kernel_rfl) (by kernel_rfl) (by kernel_rfl) (h8984.memX hap8985 M9037) rfl hy9038) ?_
      refine W_val (.agg #[.int .i64 y9038.Base, .int .i64 y9038.Size, .int .i64 y9038.Kind, .int .i64 y9038.Unit]) w9035 (by kernel_rfl) (E_loadE (E := encRegion) _ _ true 4 r9034.1 0 (r9034.1.toNat * 4) y9038 (.agg #[.int .i64 y9038.Base, .int .i64 y9038.Size, .int .i64 y9038.Kind, .int .i64 y9038.Unit]) rfl (by kernel_rfl) (by kernel_rfl) (by kernel_rfl) (h8984.memX hap8985 M9037) hy9038 rfl) ?_
      refine W_new (fun b => .pointer (some ⟨b, 0, none⟩)) (.cells ⟨[.int .i64 0, .int .i64 0, .int .i64 0, .int .i64 0]⟩ 59 (0, 0)) M9037 rfl (by kernel_rfl) (by kernel_rfl) ?_
      intro b9040 w9041 M9042
      refine W_store _ _ _ true 4 b9040 0 [.int .i64 0, .int .i64 0, .int .i64 0, .int .i64 0] 59 (.agg #[.int .i64 y9038.Base, .int .i64 y9038.Size, .int .i64 y9038.Kind, .int .i64 y9038.Unit]) 1 [.int .i64 y9038.Base, .int .i64 y9038.Size, .int .i64 y9038.Kind, .int .i64 y9038.Unit] M9042 (by kernel_rfl) rfl (by kernel_rfl) (by kernel_rfl) (by kernel_rfl) (by kernel_rfl) (by kernel_rfl) (by kernel_rfl) (by kernel_rfl) (by kernel_rfl) ?_
      intro w9043 M9044
      refine W_nil ?_
      refine N_then ?_
      refine G_seq ?_
      obtain ⟨r9052, hr9052, hm⟩ := gx_bind hm
      have M9053 : Mem (idsOf [[(b8974, .cells ⟨[.slice p8976 x8972.code.length c8977, .int .i64 x8972.at_, .int .u64 x8972.seed]⟩ 89 (0, 0))]]) w w9043 ([[(b9040, .cells ⟨[.int .i64 y9038.Base, .int .i64 y9038.Size, .int .i64 y9038.Kind, .int .i64 y9038.Unit]⟩ 59 (0, 0))]] ++ (List.range 10).map (fun i => ([[], [], [], [], [], [], [], [], [], [(b8974, .cells ⟨[.slice p8976 x8972.code.length c8977, .int .i64 r9034.2.1, .int .u64 r9034.2.2]⟩ 89 (0, 0))]] : List Seg).getD i [])) := M9044.pick [1, 300000, 300001, 300002, 300003, 300004, 300005, 300006, 300007, 300008, 0] (by kernel_rfl)
      refine G_sub [(0, .pointer (some ⟨b8974, 0, none⟩)), (5, .pointer (some ⟨b9040, 0, none⟩)), (21, .slice p8982 x8980.length c8983), (22, .pointer (some ⟨b8974, 0, none⟩)), (24, .int .i64 (x8980.length : Int)), (25, .int .i64 r9034.1), (26, elemP p8982 (r9034.1.toNat * 4)), (27, .agg #[.int .i64 y9038.Base, .int .i64 y9038.Size, .int .i64 y9038.Kind, .int .i64 y9038.Unit])] (by kernel_rfl) ?_
      refine G_dagL 10 [[], [0], [], [], [3], [4], [], [6], [5, 7], [2, 8]] [[], [], [], [], [], [], [], [], [], []] [[], [], [], [], [], [], [], [], [], [8]] [[], [], [], [], [], [], [], [], [], []] [[], [], [], [], [], [], [], [], [], []] [[], [], [], [], [], [], [], [], [], []] (fun i => ([[], [], [], [], [], [], [], [], [], [(b8974, .cells ⟨[.slice p8976 x8972.code.length c8977, .int .i64 r9034.2.1, .int .u64 r9034.2.2]⟩ 89 (0, 0))]] : List Seg).getD i []) (fun i => ([fun f v s => v = (.pointer (some ⟨b9040, 0, none⟩) : Value) ∧ s = [], fun f v s => v = (.int .i64 y9038.Base : Value) ∧ s = [], fun f v s => v = (.pointer (some ⟨b8974, 0, none⟩) : Value) ∧ s = [], fun f v s => v = (.pointer (some ⟨b9040, 1, none⟩) : Value) ∧ s = [], fun f v s => v = (.int .i64 y9038.Size : Value) ∧ s = [], fun f v s => v = (.int .i64 (w64 (y9038.Size - 1)) : Value) ∧ s = [], fun f v s => v = (.pointer (some ⟨b9040, 1, none⟩) : Value) ∧ s = [], fun f v s => v = (.int .i64 y9038.Size : Value) ∧ s = [], fun f v s => ∃ (p9048 : Option Addr) (c9049 : Nat), v = (.slice p9048 [0, 1, 2, 4, w64 (y9038.Size - 1), y9038.Size, (-1)].length c9049 : Value) ∧ ownS encI [0, 1, 2, 4, w64 (y9038.Size - 1), y9038.Size, (-1)] p9048 c9049 s, fun f v s => v = (.int .i64 r9052.1 : Value) ∧ s = [(b8974, .cells ⟨[.slice p8976 x8972.code.length c8977, .int .i64 r9052.2.1, .int .u64 r9052.2.2]⟩ 89 (0, 0))]] : List ((Nat → Value) → Value → Seg → Prop)).getD i (fun _ _ _ => False)) (fun j f v => ∃ s, (fun i => ([fun f v s => v = (.pointer (some ⟨b9040, 0, none⟩) : Value) ∧ s = [], fun f v s => v = (.int .i64 y9038.Base : Value) ∧ s = [], fun f v s => v = (.pointer (some ⟨b8974, 0, none⟩) : Value) ∧ s = [], fun f v s => v = (.pointer (some ⟨b9040, 1, none⟩) : Value) ∧ s = [], fun f v s => v = (.int .i64 y9038.Size : Value) ∧ s = [], fun f v s => v = (.int .i64 (w64 (y9038.Size - 1)) : Value) ∧ s = [], fun f v s => v = (.pointer (some ⟨b9040, 1, none⟩) : Value) ∧ s = [], fun f v s => v = (.int .i64 y9038.Size : Value) ∧ s = [], fun f v s => ∃ (p9048 : Option Addr) (c9049 : Nat), v = (.slice p9048 [0, 1, 2, 4, w64 (y9038.Size - 1), y9038.Size, (-1)].length c9049 : Value) ∧ ownS encI [0, 1, 2, 4, w64 (y9038.Size - 1), y9038.Size, (-1)] p9048 c9049 s, fun f v s => v = (.int .i64 r9052.1 : Value) ∧ s = [(b8974, .cells ⟨[.slice p8976 x8972.code.length c8977, .int .i64 r9052.2.1, .int .u64 r9052.2.2]⟩ 89 (0, 0))]] : List ((Nat → Value) → Value → Seg → Prop)).getD i (fun _ _ _ => False)) j f v s) [] [1, 8, 9] [8, 9] (fun _ _ _ s h => ⟨s, h⟩) (by kernel_rfl) (by kernel_rfl) M9053 (by kernel_rfl) (by kernel_rfl) (by kernel_rfl) (by kernel_rfl) (allOb_cons ?_ (allOb_cons ?_ (allOb_cons ?_ (allOb_cons ?_ (allOb_cons ?_ (allOb_cons ?_ (allOb_cons ?_ (allOb_cons ?_ (allOb_cons ?_ (allOb_cons ?_ allOb_nil)))))))))) ?_
      · intro g9045 f9046
        intro R w9054 M9055
        refine W_run 1 [(28, .pointer (some ⟨b9040, 0, none⟩))] w9054 (by kernel_rfl) ?_
        exact W_nil (ob_end (.pointer (some ⟨b9040, 0, none⟩)) [] rfl (by kernel_rfl) ⟨by kernel_rfl, rfl⟩ M9055)
      · intro g9045 f9046
        intro v0_ hb0_
        obtain ⟨rfl, _⟩ := hb0_
        intro R w9058 M9059
        refine W_val (.int .i64 y9038.Base) w9058 (by kernel_rfl) (E_load (e := 59) (fr := (0, 0)) _ _ false 1 b9040 0 [.int .i64 y9038.Base, .int .i64 y9038.Size, .int .i64 y9038.Kind, .int .i64 y9038.Unit] (.int .i64 y9038.Base) rfl (by kernel_rfl) (by kernel_rfl) (by kernel_rfl) (M9059.blk 0 (b := b9040) (o := .cells ⟨[.int .i64 y9038.Base, .int .i64 y9038.Size, .int .i64 y9038.Kind, .int .i64 y9038.Unit]⟩ 59 (0, 0)) (by kernel_rfl))) ?_
        exact W_nil (ob_end (.int .i64 y9038.Base) [] rfl (by kernel_rfl) ⟨by kernel_rfl, rfl⟩ M9059)
      · intro g9045 f9046
        intro R w9062 M9063
        refine W_run 1 [(30, .pointer (some ⟨b8974, 0, none⟩))] w9062 (by kernel_rfl) ?_
        exact W_nil (ob_end (.pointer (some ⟨b8974, 0, none⟩)) [] rfl (by kernel_rfl) ⟨by kernel_rfl, rfl⟩ M9063)
      · intro g9045 f9046
        intro R w9066 M9067
        refine W_run 1 [(31, .pointer (some ⟨b9040, 1, none⟩))] w9066 (by kernel_rfl) ?_
        exact W_nil (ob_end (.pointer (some ⟨b9040, 1, none⟩)) [] rfl (by kernel_rfl) ⟨by kernel_rfl, rfl⟩ M9067)
      · intro g9045 f9046
        intro v3_ hb3_
        obtain ⟨rfl, _⟩ := hb3_
        intro R w9070 M9071
        refine W_val (.int .i64 y9038.Size) w9070 (by kernel_rfl) (E_load (e := 59) (fr := (0, 0)) _ _ false 1 b9040 1 [.int .i64 y9038.Base, .int .i64 y9038.Size, .int .i64 y9038.Kind, .int .i64 y9038.Unit] (.int .i64 y9038.Size) rfl (by kernel_rfl) (by kernel_rfl) (by kernel_rfl) (M9071.blk 0 (b := b9040) (o := .cells ⟨[.int .i64 y9038.Base, .int .i64 y9038.Size, .int .i64 y9038.Kind, .int .i64 y9038.Unit]⟩ 59 (0, 0)) (by kernel_rfl))) ?_
        exact W_nil (ob_end (.int .i64 y9038.Size) [] rfl (by kernel_rfl) ⟨by kernel_rfl, rfl⟩ M9071)
      · intro g9045 f9046
        intro v4_ hb4_
        obtain ⟨rfl, _⟩ := hb4_
        intro R w9074 M9075
        refine W_run 1 [(33, .int .i64 (w64 (y9038.Size - 1)))] w9074 (by kernel_rfl) ?_
        exact W_nil (ob_end (.int .i64 (w64 (y9038.Size - 1))) [] rfl (by kernel_rfl) ⟨by kernel_rfl, rfl⟩ M9075)
      · intro g9045 f9046
        intro R w9078 M9079
        refine W_run 1 [(34, .pointer (some ⟨b9040, 1, none⟩))] w9078 (by kernel_rfl) ?_
        exact W_nil (ob_end (.pointer (some ⟨b9040, 1, none⟩)) [] rfl (by kernel_rfl) ⟨by kernel_rfl, rfl⟩ M9079)
      · intro g9045 f9046
        intro v6_ hb6_
        obtain ⟨rfl, _⟩ := hb6_
        intro R w9082 M9083
        refine W_val (.int .i64 y9038.Size) w9082 (by kernel_rfl) (E_load (e := 59) (fr := (0, 0)) _ _ false 1 b9040 1 [.int .i64 y9038.Base, .int .i64 y9038.Size, .int .i64 y9038.Kind, .int .i64 y9038.Unit] (.int .i64 y9038.Size) rfl (by kernel_rfl) (by kernel_rfl) (by kernel_rfl) (M9083.blk 0 (b := b9040) (o := .cells ⟨[.int .i64 y9038.Base, .int .i64 y9038.Size, .int .i64 y9038.Kind, .int .i64 y9038.Unit]⟩ 59 (0, 0)) (by kernel_rfl))) ?_
        exact W_nil (ob_end (.int .i64 y9038.Size) [] rfl (by kernel_rfl) ⟨by kernel_rfl, rfl⟩ M9083)
      · intro g9045 f9046
        intro v5_ hb5_
        obtain ⟨rfl, _⟩ := hb5_
        intro v7_ hb7_
        obtain ⟨rfl, _⟩ := hb7_
        intro R w9086 M9087
        refine W_lit (E := encI) [0, 1, 2, 4, w64 (y9038.Size - 1), y9038.Size, (-1)] 7 [.int .i64 0, .int .i64 1, .int .i64 2, .int .i64 4, .int .i64 (w64 (y9038.Size - 1)), .int .i64 y9038.Size, .int .i64 (-1)] 3 M9087 (by kernel_rfl) (by kernel_rfl) (by kernel_rfl) (by kernel_rfl) (by kernel_rfl) ?_
        intro p9048 c9049 sg9050 w9088 ho9051 M9089
        exact W_nil (ob_end (.slice p9048 [0, 1, 2, 4, w64 (y9038.Size - 1), y9038.Size, (-1)].length c9049) sg9050 rfl (by kernel_rfl) ⟨p9048, c9049, rfl, ho9051⟩ (Mem.mid M9089))
      · intro g9045 f9046
        intro v2_ hb2_
        obtain ⟨rfl, _⟩ := hb2_
        intro v8_ hb8_
        obtain ⟨p9048, c9049, rfl, ho9051⟩ := hb8_
        intro R w9090 M9091
        refine W_call 80 #[.pointer (some ⟨b8974, 0, none⟩), .slice p9048 [0, 1, 2, 4, w64 (y9038.Size - 1), y9038.Size, (-1)].length c9049] (by kernel_rfl) (by kernel_rfl) ?_
        refine (c_s_l1Cur_among w9090 (⟨x8972.code, r9034.2.1, r9034.2.2⟩ : l1Cur) p8976 c8977 (h8978.memX hap8979 M9091) b8974 [0, 1, 2, 4, w64 (y9038.Size - 1), y9038.Size, (-1)] p9048 c9049 (ho9051.rd M9091 2 (by kernel_rfl)) (M9091.hasPick [1]) (M9091.nodupPick [1] (by kernel_rfl)) (apartX.old h8978 hap8979 M9091 [1]) (apartX.own ho9051 M9091 2 (by kernel_rfl) [1] (by kernel_rfl)) hr9052).mono ?_
        rintro e_ w9092 ⟨rfl, K9094⟩
        refine ⟨_, rfl, ?_⟩
        exact W_nil (ob_end (.int .i64 r9052.1) [(b8974, .cells ⟨[.slice p8976 x8972.code.length c8977, .int .i64 r9052.2.1, .int .u64 r9052.2.2]⟩ 89 (0, 0))] rfl (by kernel_rfl) ⟨rfl, rfl⟩ (Mem.callMidF M9091 K9094))
      · intro g9045 f9046
        intro v1_ hb1_
        obtain ⟨rfl, _⟩ := hb1_
        intro v8_ hb8_
        obtain ⟨p9048, c9049, rfl, ho9051⟩ := hb8_
        intro v9_ hb9_
        obtain ⟨rfl, hs9_⟩ := hb9_
        intro w9095 M9096
        have M9097 : Mem (idsOf [[(b8974, .cells ⟨[.slice p8976 x8972.code.length c8977, .int .i64 x8972.at_, .int .u64 x8972.seed]⟩ 89 (0, 0))]]) w w9095 [[(b9040, .cells ⟨[.int .i64 y9038.Base, .int .i64 y9038.Size, .int .i64 y9038.Kind, .int .i64 y9038.Unit]⟩ 59 (0, 0))], (g9045 8), (g9045 9)] := M9096
        rw [hs9_] at M9097
        refine W_run 2 [(4, .int .i64 (w64 (y9038.Base + r9052.1)))] w9095 (by kernel_rfl) ?_
        refine W_nil ?_
        refine N_then ?_
        refine G_ret ?_
        obtain rfl := Option.some.inj hm
        refine N_ret [.int .i64 (w64 (y9038.Base + r9052.1))] (RVs_cons (RV_tmp (by kernel_rfl)) RVs_nil) ?_
        exact ⟨rfl, M9097.pick [2] (by kernel_rfl)⟩
theorem c_s_l1Cur_access (w : World) (x8954 : l1Cur) (p8958 : Option Addr) (c8959 : Nat) (h8960 : rdS encU8 w x8954.code p8958 c8959) (b8956 : Nat) (x8962 : List Region) (p8964 : Option Addr) (c8965 : Nat) (h8966 : rdS encRegion w x8962 p8964 c8965) (hA : ∀ q ∈ List.flatten [[(b8956, .cells ⟨[.slice p8958 x8954.code.length c8959, .int .i64 x8954.at_, .int .u64 x8954.seed]⟩ 89 (0, 0))]], w.heap[q.1]? = some q.2) (hN : (idsOf [[(b8956, .cells ⟨[.slice p8958 x8954.code.length c8959, .int .i64 x8954.at_, .int .u64 x8954.seed]⟩ 89 (0, 0))]]).Nodup) (hap8961 : apartX (idsOf [[(b8956, .cells ⟨[.slice p8958 x8954.code.length c8959, .int .i64 x8954.at_, .int .u64 x8954.seed]⟩ 89 (0, 0))]]) x8954.code p8958) (hap8967 : apartX (idsOf [[(b8956, .cells ⟨[.slice p8958 x8954.code.length c8959, .int .i64 x8954.at_, .int .u64 x8954.seed]⟩ 89 (0, 0))]]) x8962 p8964) {r : Access × Int × Int} (hm : M.s_l1Cur_access x8954 x8962 = some r) :
    Calls Try.prog 78 #[.pointer (some ⟨b8956, 0, none⟩), .slice p8964 x8962.length c8965] w fun e w' => e = .returned (.agg #[.int .i64 r.1.Address, .int .i64 r.1.Width, .bool r.1.Store]) ∧ Mem (idsOf [[(b8956, .cells ⟨[.slice p8958 x8954.code.length c8959, .int .i64 x8954.at_, .int .u64 x8954.seed]⟩ 89 (0, 0))]]) w w' [[(b8956, .cells ⟨[.slice p8958 x8954.code.length c8959, .int .i64 r.2.1, .int .u64 r.2.2]⟩ 89 (0, 0))]] := by
  unfold M.s_l1Cur_access at hm
  refine C_enter Try.func78 rfl (by kernel_rfl) ?_
  have M0 := Mem.start' w [[(b8956, .cells ⟨[.slice p8958 x8954.code.length c8959, .int .i64 x8954.at_, .int .u64 x8954.seed]⟩ 89 (0, 0))]] hA hN
  refine G_seq ?_
  refine G_region ?_
  refine W_new (fun b => .pointer (some ⟨b, 0, none⟩)) (.cells ⟨[.int .i64 0, .int .i64 0, .bool false]⟩ 36 (0, 0)) M0 rfl (by kernel_rfl) (by kernel_rfl) ?_
  intro b8969 w8970 M8971
  refine W_nil ?_
  refine N_then ?_
  refine G_seq ?_
  refine G_region ?_
  refine W_run 2 [(0, .pointer (some ⟨b8956, 0, none⟩)), (4, .pointer (some ⟨b8969, 0, none⟩)), (6, .pointer (some ⟨b8956, 0, none⟩)), (7, .slice p8964 x8962.length c8965)] w8970 (by kernel_rfl) ?_
  obtain ⟨r9098, hr9098, hm⟩ := gx_bind hm
  refine W_call 79 #[.pointer (some ⟨b8956, 0, none⟩), .slice p8964 x8962.length c8965] (by kernel_rfl) (by kernel_rfl) ?_
  refine (c_s_l1Cur_address17 w8970 x8954 p8958 c8959 (h8960.memX hap8961 M8971) b8956 x8962 p8964 c8965 (h8966.memX hap8967 M8971) (M8971.hasPick [0]) (M8971.nodupPick [0] (by kernel_rfl)) (apartX.old h8960 hap8961 M8971 [0]) (apartX.old h8966 hap8967 M8971 [0]) hr9098).mono ?_
  rintro e_ w9099 ⟨rfl, K9100⟩
  have M9101 := M8971.callF' [0] [1] (by kernel_rfl) K9100
  refine ⟨_, rfl, ?_⟩
  refine W_run 1 [(0, .pointer (some ⟨b8956, 0, none⟩)), (4, .pointer (some ⟨b8969, 0, none⟩)), (8, .int .i64 r9098.1), (9, .pointer (some ⟨b8956, 0, none⟩))] w9099 (by kernel_rfl) ?_
  refine W_lit (E := encI) [1, 2, 4, 4] 4 [.int .i64 1, .int .i64 2, .int .i64 4, .int .i64 4] 3 M9101 (by kernel_rfl) (by kernel_rfl) (by kernel_rfl) (by kernel_rfl) (by kernel_rfl) ?_
  intro p9102 c9103 sg9104 w9105 ho9106 M9107
  obtain ⟨r9109, hr9109, hm⟩ := gx_bind hm
  refine W_call 80 #[.pointer (some ⟨b8956, 0, none⟩), .slice p9102 [1, 2, 4, 4].length c9103] (by kernel_rfl) (by kernel_rfl) ?_
  refine (c_s_l1Cur_among w9105 (⟨x8954.code, r9098.2.1, r9098.2.2⟩ : l1Cur) p8958 c8959 (h8960.memX hap8961 M9107) b8956 [1, 2, 4, 4] p9102 c9103 (ho9106.rd M9107 2 (by kernel_rfl)) (M9107.hasPick [1]) (M9107.nodupPick [1] (by kernel_rfl)) (apartX.old h8960 hap8961 M9107 [1]) (apartX.own ho9106 M9107 2 (by kernel_rfl) [1] (by kernel_rfl)) hr9109).mono ?_
  rintro e_ w9110 ⟨rfl, K9111⟩
  have M9112 := M9107.callF' [1] [0, 2] (by kernel_rfl) K9111
  refine ⟨_, rfl, ?_⟩
  refine W_run 1 [(0, .pointer (some ⟨b8956, 0, none⟩)), (4, .pointer (some ⟨b8969, 0, none⟩)), (8, .int .i64 r9098.1), (11, .int .i64 r9109.1), (12, .pointer (some ⟨b8956, 0, none⟩))] w9110 (by kernel_rfl) ?_
  obtain ⟨r9113, hr9113, hm⟩ := gx_bind hm
  refine W_call 92 #[.pointer (some ⟨b8956, 0, none⟩), .int .i64 2] (by kernel_rfl) (by kernel_rfl) ?_
  refine (c_s_l1Cur_one w9110 (⟨x8954.code, r9109.2.1, r9109.2.2⟩ : l1Cur) p8958 c8959 (h8960.memX hap8961 M9112) b8956 2 (M9112.hasPick [2]) (M9112.nodupPick [2] (by kernel_rfl)) (apartX.old h8960 hap8961 M9112 [2]) hr9113).mono ?_
  rintro e_ w9114 ⟨rfl, K9115⟩
  have M9116 := M9112.callF' [2] [0, 1] (by kernel_rfl) K9115
  refine ⟨_, rfl, ?_⟩
  refine W_run 1 [(0, .pointer (some ⟨b8956, 0, none⟩)), (4, .pointer (some ⟨b8969, 0, none⟩)), (14, .agg #[.int .i64 r9098.1, .int .i64 r9109.1, .bool r9113.1])] w9114 (by kernel_rfl) ?_
  refine W_new (fun b => .pointer (some ⟨b, 0, none⟩)) (.cells ⟨[.int .i64 0, .int .i64 0, .bool false]⟩ 36 (0, 0)) M9116 rfl (by kernel_rfl) (by kernel_rfl) ?_
  intro b9118 w9119 M9120
  refine W_store _ _ _ true 3 b9118 0 [.int .i64 0, .int .i64 0, .bool false] 36 (.agg #[.int .i64 r9098.1, .int .i64 r9109.1, .bool r9113.1]) 3 [.int .i64 r9098.1, .int .i64 r9109.1, .bool r9113.1] M9120 (by kernel_rfl) rfl (by kernel_rfl) (by kernel_rfl) (by kernel_rfl) (by kernel_rfl) (by kernel_rfl) (by kernel_rfl) (by kernel_rfl) (by kernel_rfl) ?_
  intro w9121 M9122
  refine W_nil ?_
  refine N_then ?_
  refine G_seq ?_
  refine G_seq ?_
  obtain ⟨o9128, ho9129, hm9130⟩ := gx_bind hm
  refine G_meet (fun a w' => Mem (idsOf [[(b8956, .cells ⟨[.slice p8958 x8954.code.length c8959, .int .i64 x8954.at_, .int .u64 x8954.seed]⟩ 89 (0, 0))]]) w w' [[(b8969, .cells ⟨[.int .i64 0, .int .i64 0, .bool false]⟩ 36 (0, 0))], [(b8956, .cells ⟨[.slice p8958 x8954.code.length c8959, .int .i64 o9128.2.1, .int .u64 o9128.2.2]⟩ 89 (0, 0))], [(b9118, .cells ⟨[.int .i64 r9098.1, .int .i64 r9109.1, .bool r9113.1]⟩ 36 (0, 0))]] ∧ Sat Try.f78.ntmps [(0, .pointer (some ⟨b8956, 0, none⟩)), (4, .pointer (some ⟨b8969, 0, none⟩)), (5, .pointer (some ⟨b9118, 0, none⟩)), (22, .bool o9128.1)] a) ?_ ?_
  · have hm := ho9129
    refine G_region ?_
    refine W_run 1 [(0, .pointer (some ⟨b8956, 0, none⟩)), (4, .pointer (some ⟨b8969, 0, none⟩)), (5, .pointer (some ⟨b9118, 0, none⟩)), (15, .pointer (some ⟨b9118, 0, none⟩))] w9121 (by kernel_rfl) ?_
    refine W_val (.int .i64 r9098.1) w9121 (by kernel_rfl) (E_load (e := 36) (fr := (0, 0)) _ _ false 1 b9118 0 [.int .i64 r9098.1, .int .i64 r9109.1, .bool r9113.1] (.int .i64 r9098.1) rfl (by kernel_rfl) (by kernel_rfl) (by kernel_rfl) (M9122.blk 3 (b := b9118) (o := .cells ⟨[.int .i64 r9098.1, .int .i64 r9109.1, .bool r9113.1]⟩ 36 (0, 0)) (by kernel_rfl))) ?_
    refine W_run 2 [(0, .pointer (some ⟨b8956, 0, none⟩)), (4, .pointer (some ⟨b8969, 0, none⟩)), (5, .pointer (some ⟨b9118, 0, none⟩)), (18, .bool (decide (r9098.1 > 0)))] w9121 (by kernel_rfl) ?_
    rcases gx_bif hm with ⟨hc9131, hm⟩ | ⟨hc9131, hm⟩
    · refine W_known 18 true (by kernel_rfl) hc9131 ?_
      refine W_run 1 [(0, .pointer (some ⟨b8956, 0, none⟩)), (4, .pointer (some ⟨b8969, 0, none⟩)), (5, .pointer (some ⟨b9118, 0, none⟩)), (18, .bool true), (19, .pointer (some ⟨b8956, 0, none⟩))] w9121 (by kernel_rfl) ?_
      obtain ⟨r9132, hr9132, hm⟩ := gx_bind hm
      refine W_call 92 #[.pointer (some ⟨b8956, 0, none⟩), .int .i64 4] (by kernel_rfl) (by kernel_rfl) ?_
      refine (c_s_l1Cur_one w9121 (⟨x8954.code, r9113.2.1, r9113.2.2⟩ : l1Cur) p8958 c8959 (h8960.memX hap8961 M9122) b8956 4 (M9122.hasPick [2]) (M9122.nodupPick [2] (by kernel_rfl)) (apartX.old h8960 hap8961 M9122 [2]) hr9132).mono ?_
      rintro e_ w9133 ⟨rfl, K9134⟩
      have M9135 := M9122.callF' [2] [0, 1, 3] (by kernel_rfl) K9134
      refine ⟨_, rfl, ?_⟩
      refine W_run 2 [(0, .pointer (some ⟨b8956, 0, none⟩)), (4, .pointer (some ⟨b8969, 0, none⟩)), (5, .pointer (some ⟨b9118, 0, none⟩)), (22, .bool (!r9132.1))] w9133 (by kernel_rfl) ?_
      refine W_nil ?_
      obtain rfl := Option.some.inj hm
      exact N_meet fun a ha => ⟨M9135.pick [0, 3, 2] (by kernel_rfl), ha.sub (by kernel_rfl)⟩
    · refine W_known 18 false (by kernel_rfl) hc9131 ?_
      refine W_run 4 [(0, .pointer (some ⟨b8956, 0, none⟩)), (4, .pointer (some ⟨b8969, 0, none⟩)), (5, .pointer (some ⟨b9118, 0, none⟩)), (22, .bool false)] w9121 (by kernel_rfl) ?_
      refine W_nil ?_
      obtain rfl := Option.some.inj hm
      exact N_meet fun a ha => ⟨M9122.pick [0, 2, 3] (by kernel_rfl), ha.sub (by kernel_rfl)⟩
  · intro a9138 w9136 ⟨M9137, hS9139⟩
    refine N_use hS9139 ?_
    have hm := hm9130
    refine N_then ?_
    obtain ⟨o9177, ho9178, hm9179⟩ := gx_bind hm
    refine G_meet (fun a w' => Mem (idsOf [[(b8956, .cells ⟨[.slice p8958 x8954.code.length c8959, .int .i64 x8954.at_, .int .u64 x8954.seed]⟩ 89 (0, 0))]]) w w' [[(b8969, .cells ⟨[.int .i64 0, .int .i64 0, .bool false]⟩ 36 (0, 0))], [(b8956, .cells ⟨[.slice p8958 x8954.code.length c8959, .int .i64 o9128.2.1, .int .u64 o9128.2.2]⟩ 89 (0, 0))], [(b9118, .cells ⟨[.int .i64 o9177, .int .i64 r9109.1, .bool r9113.1]⟩ 36 (0, 0))]] ∧ Sat Try.f78.ntmps [(0, .pointer (some ⟨b8956, 0, none⟩)), (4, .pointer (some ⟨b8969, 0, none⟩)), (5, .pointer (some ⟨b9118, 0, none⟩))] a) ?_ ?_
    · have hm := ho9178
      rcases gx_bif hm with ⟨hc9180, hm⟩ | ⟨hc9180, hm⟩
      · refine G_cond_t (b := o9128.1) hc9180 (by kernel_rfl) ?_
        obtain ⟨q9183, hq9183, hm⟩ := gx_bind hm
        refine G_sub [(0, .pointer (some ⟨b8956, 0, none⟩)), (4, .pointer (some ⟨b8969, 0, none⟩)), (5, .pointer (some ⟨b9118, 0, none⟩)), (22, .bool o9128.1)] (by kernel_rfl) ?_
        refine G_dagL 7 [[], [0], [], [2], [], [4], [3, 5]] [[], [], [], [], [], [], []] [[], [], [], [], [], [], []] [[], [], [], [], [], [], []] [[], [], [], [], [], [], []] [[], [], [], [], [], [], []] (fun _ => []) (fun i => ([fun f v s => v = (.pointer (some ⟨b9118, 0, none⟩) : Value) ∧ s = [], fun f v s => v = (.int .i64 r9098.1 : Value) ∧ s = [], fun f v s => v = (.pointer (some ⟨b9118, 0, none⟩) : Value) ∧ s = [], fun f v s => v = (.int .i64 r9098.1 : Value) ∧ s = [], fun f v s => v = (.pointer (some ⟨b9118, 1, none⟩) : Value) ∧ s = [], fun f v s => v = (.int .i64 r9109.1 : Value) ∧ s = [], fun f v s => v = (.int .i64 q9183 : Value) ∧ s = []] : List ((Nat → Value) → Value → Seg → Prop)).getD i (fun _ _ _ => False)) (fun j f v => ∃ s, (fun i => ([fun f v s => v = (.pointer (some ⟨b9118, 0, none⟩) : Value) ∧ s = [], fun f v s => v = (.int .i64 r9098.1 : Value) ∧ s = [], fun f v s => v = (.pointer (some ⟨b9118, 0, none⟩) : Value) ∧ s = [], fun f v s => v = (.int .i64 r9098.1 : Value) ∧ s = [], fun f v s => v = (.pointer (some ⟨b9118, 1, none⟩) : Value) ∧ s = [], fun f v s => v = (.int .i64 r9109.1 : Value) ∧ s = [], fun f v s => v = (.int .i64 q9183 : Value) ∧ s = []] : List ((Nat → Value) → Value → Seg → Prop)).getD i (fun _ _ _ => False)) j f v s) [] [1, 6] [] (fun _ _ _ s h => ⟨s, h⟩) (by kernel_rfl) (by kernel_rfl) (M9137.preNil 7) (by kernel_rfl) (by kernel_rfl) (by kernel_rfl) (by kernel_rfl) (allOb_cons ?_ (allOb_cons ?_ (allOb_cons ?_ (allOb_cons ?_ (allOb_cons ?_ (allOb_cons ?_ (allOb_cons ?_ allOb_nil))))))) ?_
        · intro g9181 f9182
          intro R w9184 M9185
          refine W_run 1 [(23, .pointer (some ⟨b9118, 0, none⟩))] w9184 (by kernel_rfl) ?_
          exact W_nil (ob_end (.pointer (some ⟨b9118, 0, none⟩)) [] rfl (by kernel_rfl) ⟨by kernel_rfl, rfl⟩ M9185)
        · intro g9181 f9182
          intro v0_ hb0_
          obtain ⟨rfl, _⟩ := hb0_
          intro R w9188 M9189
          refine W_val (.int .i64 r9098.1) w9188 (by kernel_rfl) (E_load (e := 36) (fr := (0, 0)) _ _ false 1 b9118 0 [.int .i64 r9098.1, .int .i64 r9109.1, .bool r9113.1] (.int .i64 r9098.1) rfl (by kernel_rfl) (by kernel_rfl) (by kernel_rfl) (M9189.blk 2 (b := b9118) (o := .cells ⟨[.int .i64 r9098.1, .int .i64 r9109.1, .bool r9113.1]⟩ 36 (0, 0)) (by kernel_rfl))) ?_
          exact W_nil (ob_end (.int .i64 r9098.1) [] rfl (by kernel_rfl) ⟨by kernel_rfl, rfl⟩ M9189)
        · intro g9181 f9182
          intro R w9192 M9193
          refine W_run 1 [(25, .pointer (some ⟨b9118, 0, none⟩))] w9192 (by kernel_rfl) ?_
          exact W_nil (ob_end (.pointer (some ⟨b9118, 0, none⟩)) [] rfl (by kernel_rfl) ⟨by kernel_rfl, rfl⟩ M9193)
        · intro g9181 f9182
          intro v2_ hb2_
          obtain ⟨rfl, _⟩ := hb2_
          intro R w9196 M9197
          refine W_val (.int .i64 r9098.1) w9196 (by kernel_rfl) (E_load (e := 36) (fr := (0, 0)) _ _ false 1 b9118 0 [.int .i64 r9098.1, .int .i64 r9109.1, .bool r9113.1] (.int .i64 r9098.1) rfl (by kernel_rfl) (by kernel_rfl) (by kernel_rfl) (M9197.blk 2 (b := b9118) (o := .cells ⟨[.int .i64 r9098.1, .int .i64 r9109.1, .bool r9113.1]⟩ 36 (0, 0)) (by kernel_rfl))) ?_
          exact W_nil (ob_end (.int .i64 r9098.1) [] rfl (by kernel_rfl) ⟨by kernel_rfl, rfl⟩ M9197)
        · intro g9181 f9182
          intro R w9200 M9201
          refine W_run 1 [(27, .pointer (some ⟨b9118, 1, none⟩))] w9200 (by kernel_rfl) ?_
          exact W_nil (ob_end (.pointer (some ⟨b9118, 1, none⟩)) [] rfl (by kernel_rfl) ⟨by kernel_rfl, rfl⟩ M9201)
        · intro g9181 f9182
          intro v4_ hb4_
          obtain ⟨rfl, _⟩ := hb4_
          intro R w9204 M9205
          refine W_val (.int .i64 r9109.1) w9204 (by kernel_rfl) (E_load (e := 36) (fr := (0, 0)) _ _ false 1 b9118 1 [.int .i64 r9098.1, .int .i64 r9109.1, .bool r9113.1] (.int .i64 r9109.1) rfl (by kernel_rfl) (by kernel_rfl) (by kernel_rfl) (M9205.blk 2 (b := b9118) (o := .cells ⟨[.int .i64 r9098.1, .int .i64 r9109.1, .bool r9113.1]⟩ 36 (0, 0)) (by kernel_rfl))) ?_
          exact W_nil (ob_end (.int .i64 r9109.1) [] rfl (by kernel_rfl) ⟨by kernel_rfl, rfl⟩ M9205)
        · intro g9181 f9182
          intro v3_ hb3_
          obtain ⟨rfl, _⟩ := hb3_
          intro v5_ hb5_
          obtain ⟨rfl, _⟩ := hb5_
          intro R w9208 M9209
          refine W_val (.int .i64 q9183) w9208 (by kernel_rfl) (E_rem _ _ _ _ r9098.1 r9109.1 q9183 rfl (by kernel_rfl) (by kernel_rfl) hq9183) ?_
          exact W_nil (ob_end (.int .i64 q9183) [] rfl (by kernel_rfl) ⟨by kernel_rfl, rfl⟩ M9209)
        · intro g9181 f9182
          intro v1_ hb1_
          obtain ⟨rfl, _⟩ := hb1_
          intro v6_ hb6_
          obtain ⟨rfl, _⟩ := hb6_
          intro w9212 M9213
          have M9214 : Mem (idsOf [[(b8956, .cells ⟨[.slice p8958 x8954.code.length c8959, .int .i64 x8954.at_, .int .u64 x8954.seed]⟩ 89 (0, 0))]]) w w9212 [[(b8969, .cells ⟨[.int .i64 0, .int .i64 0, .bool false]⟩ 36 (0, 0))], [(b8956, .cells ⟨[.slice p8958 x8954.code.length c8959, .int .i64 o9128.2.1, .int .u64 o9128.2.2]⟩ 89 (0, 0))], [(b9118, .cells ⟨[.int .i64 r9098.1, .int .i64 r9109.1, .bool r9113.1]⟩ 36 (0, 0))]] := M9213
          refine W_run 2 [(0, .pointer (some ⟨b8956, 0, none⟩)), (4, .pointer (some ⟨b8969, 0, none⟩)), (5, .pointer (some ⟨b9118, 0, none⟩)), (30, .int .i64 (w64 (r9098.1 - q9183))), (31, .pointer (some ⟨b9118, 0, none⟩))] w9212 (by kernel_rfl) ?_
          refine W_store _ _ _ false 1 b9118 0 [.int .i64 r9098.1, .int .i64 r9109.1, .bool r9113.1] 36 (.int .i64 (w64 (r9098.1 - q9183))) 2 [.int .i64 (w64 (r9098.1 - q9183)), .int .i64 r9109.1, .bool r9113.1] M9214 (by kernel_rfl) rfl (by kernel_rfl) (by kernel_rfl) (by kernel_rfl) (by kernel_rfl) (by kernel_rfl) (by kernel_rfl) (by kernel_rfl) (by kernel_rfl) ?_
          intro w9215 M9216
          refine W_nil ?_
          obtain rfl := Option.some.inj hm
          exact N_meet fun a ha => ⟨M9216.pick [0, 1, 2] (by kernel_rfl), ha.sub (by kernel_rfl)⟩
      · refine G_cond_f (b := o9128.1) hc9180 (by kernel_rfl) ?_
        refine G_skip ?_
        obtain rfl := Option.some.inj hm
        exact N_meet fun a ha => ⟨M9137.pick [0, 1, 2] (by kernel_rfl), ha.sub (by kernel_rfl)⟩
    · intro a9219 w9217 ⟨M9218, hS9220⟩
      refine N_use hS9220 ?_
      have hm := hm9179
      refine N_then ?_
      refine G_seq ?_
      refine G_seq ?_
      refine G_region ?_
      refine W_run 1 [(0, .pointer (some ⟨b8956, 0, none⟩)), (4, .pointer (some ⟨b8969, 0, none⟩)), (5, .pointer (some ⟨b9118, 0, none⟩)), (32, .pointer (some ⟨b8956, 0, none⟩))] w9217 (by kernel_rfl) ?_
      obtain ⟨r9221, hr9221, hm⟩ := gx_bind hm
      refine W_call 92 #[.pointer (some ⟨b8956, 0, none⟩), .int .i64 30] (by kernel_rfl) (by kernel_rfl) ?_
      refine (c_s_l1Cur_one w9217 (⟨x8954.code, o9128.2.1, o9128.2.2⟩ : l1Cur) p8958 c8959 (h8960.memX hap8961 M9218) b8956 30 (M9218.hasPick [1]) (M9218.nodupPick [1] (by kernel_rfl)) (apartX.old h8960 hap8961 M9218 [1]) hr9221).mono ?_
      rintro e_ w9222 ⟨rfl, K9223⟩
      have M9224 := M9218.callF' [1] [0, 2] (by kernel_rfl) K9223
      refine ⟨_, rfl, ?_⟩
      refine W_nil ?_
      refine N_then ?_
      obtain ⟨o9239, ho9240, hm9241⟩ := gx_bind hm
      refine G_meet (fun a w' => Mem (idsOf [[(b8956, .cells ⟨[.slice p8958 x8954.code.length c8959, .int .i64 x8954.at_, .int .u64 x8954.seed]⟩ 89 (0, 0))]]) w w' [[(b8969, .cells ⟨[.int .i64 0, .int .i64 0, .bool false]⟩ 36 (0, 0))], [(b9118, .cells ⟨[.int .i64 o9177, .int .i64 o9239.2.2, .bool r9113.1]⟩ 36 (0, 0))], [(b8956, .cells ⟨[.slice p8958 x8954.code.length c8959, .int .i64 o9239.1, .int .u64 o9239.2.1]⟩ 89 (0, 0))]] ∧ Sat Try.f78.ntmps [(4, .pointer (some ⟨b8969, 0, none⟩)), (5, .pointer (some ⟨b9118, 0, none⟩))] a) ?_ ?_
      · have hm := ho9240
        rcases gx_bif hm with ⟨hc9242, hm⟩ | ⟨hc9242, hm⟩
        · refine G_cond_t (b := r9221.1) hc9242 (by kernel_rfl) ?_
          refine G_region ?_
          refine W_run 1 [(4, .pointer (some ⟨b8969, 0, none⟩)), (5, .pointer (some ⟨b9118, 0, none⟩)), (34, .pointer (some ⟨b8956, 0, none⟩))] w9222 (by kernel_rfl) ?_
          refine W_lit (E := encI) [0, 3, 8] 3 [.int .i64 0, .int .i64 3, .int .i64 8] 3 M9224 (by kernel_rfl) (by kernel_rfl) (by kernel_rfl) (by kernel_rfl) (by kernel_rfl) ?_
          intro p9243 c9244 sg9245 w9246 ho9247 M9248
          obtain ⟨r9250, hr9250, hm⟩ := gx_bind hm
          refine W_call 80 #[.pointer (some ⟨b8956, 0, none⟩), .slice p9243 [0, 3, 8].length c9244] (by kernel_rfl) (by kernel_rfl) ?_
          refine (c_s_l1Cur_among w9246 (⟨x8954.code, r9221.2.1, r9221.2.2⟩ : l1Cur) p8958 c8959 (h8960.memX hap8961 M9248) b8956 [0, 3, 8] p9243 c9244 (ho9247.rd M9248 3 (by kernel_rfl)) (M9248.hasPick [2]) (M9248.nodupPick [2] (by kernel_rfl)) (apartX.old h8960 hap8961 M9248 [2]) (apartX.own ho9247 M9248 3 (by kernel_rfl) [2] (by kernel_rfl)) hr9250).mono ?_
          rintro e_ w9251 ⟨rfl, K9252⟩
          have M9253 := M9248.callF' [2] [0, 1, 3] (by kernel_rfl) K9252
          refine ⟨_, rfl, ?_⟩
          refine W_run 1 [(4, .pointer (some ⟨b8969, 0, none⟩)), (5, .pointer (some ⟨b9118, 0, none⟩)), (36, .int .i64 r9250.1), (37, .pointer (some ⟨b9118, 1, none⟩))] w9251 (by kernel_rfl) ?_
          refine W_store _ _ _ false 1 b9118 1 [.int .i64 o9177, .int .i64 r9109.1, .bool r9113.1] 36 (.int .i64 r9250.1) 1 [.int .i64 o9177, .int .i64 r9250.1, .bool r9113.1] M9253 (by kernel_rfl) rfl (by kernel_rfl) (by kernel_rfl) (by kernel_rfl) (by kernel_rfl) (by kernel_rfl) (by kernel_rfl) (by kernel_rfl) (by kernel_rfl) ?_
          intro w9254 M9255
          refine W_nil ?_
          obtain rfl := Option.some.inj hm
          exact N_meet fun a ha => ⟨M9255.pick [0, 1, 3] (by kernel_rfl), ha.sub (by kernel_rfl)⟩
        · refine G_cond_f (b := r9221.1) hc9242 (by kernel_rfl) ?_
          refine G_skip ?_
          obtain rfl := Option.some.inj hm
          exact N_meet fun a ha => ⟨M9224.pick [0, 1, 2] (by kernel_rfl), ha.sub (by kernel_rfl)⟩
      · intro a9258 w9256 ⟨M9257, hS9259⟩
        refine N_use hS9259 ?_
        have hm := hm9241
        refine N_then ?_
        refine G_seq ?_
        refine G_region ?_
        refine W_val (.agg #[.int .i64 o9177, .int .i64 o9239.2.2, .bool r9113.1]) w9256 (by kernel_rfl) (E_load (e := 36) (fr := (0, 0)) _ _ true 3 b9118 0 [.int .i64 o9177, .int .i64 o9239.2.2, .bool r9113.1] (.agg #[.int .i64 o9177, .int .i64 o9239.2.2, .bool r9113.1]) rfl (by kernel_rfl) (by kernel_rfl) (by kernel_rfl) (M9257.blk 1 (b := b9118) (o := .cells ⟨[.int .i64 o9177, .int .i64 o9239.2.2, .bool r9113.1]⟩ 36 (0, 0)) (by kernel_rfl))) ?_
        refine W_store _ _ _ true 3 b8969 0 [.int .i64 0, .int .i64 0, .bool false] 36 (.agg #[.int .i64 o9177, .int .i64 o9239.2.2, .bool r9113.1]) 0 [.int .i64 o9177, .int .i64 o9239.2.2, .bool r9113.1] M9257 (by kernel_rfl) rfl (by kernel_rfl) (by kernel_rfl) (by kernel_rfl) (by kernel_rfl) (by kernel_rfl) (by kernel_rfl) (by kernel_rfl) (by kernel_rfl) ?_
        intro w9260 M9261
        refine W_nil ?_
        refine N_then ?_
        refine G_ret ?_
        obtain rfl := Option.some.inj hm
        refine N_ret [.agg #[.int .i64 o9177, .int .i64 o9239.2.2, .bool r9113.1]] (RVs_cons (RV_cell (g := true) (k := 3) (b := b8969) (off := 0) (cs := [.int .i64 o9177, .int .i64 o9239.2.2, .bool r9113.1]) (e := 36) (fr := (0, 0)) (v := .agg #[.int .i64 o9177, .int .i64 o9239.2.2, .bool r9113.1]) (M9261.blk 0 (b := b8969) (o := .cells ⟨[.int .i64 o9177, .int .i64 o9239.2.2, .bool r9113.1]⟩ 36 (0, 0)) (by kernel_rfl)) (by kernel_rfl) (by kernel_rfl) (by kernel_rfl)) RVs_nil) ?_
        exact ⟨rfl, M9261.pick [2] (by kernel_rfl)⟩
theorem c_s_DrawRouteAccess (w : World) (x7613 : List Int) (p7615 : Option Addr) (c7616 : Nat) (h7617 : rdS encU8 w x7613 p7615 c7616) {r : (List Region) × Access} (hm : M.s_DrawRouteAccess x7613 = some r) :
    Calls Try.prog 41 #[.slice p7615 x7613.length c7616] w fun e w' => ∃ (p7619 : Option Addr) (c7620 : Nat) (sg7621 : Seg), e = .returned (.tuple #[.slice p7619 r.1.length c7620, .agg #[.int .i64 r.2.Address, .int .i64 r.2.Width, .bool r.2.Store]]) ∧ ownS encRegion r.1 p7619 c7620 sg7621 ∧ Mem [] w w' [sg7621] := by
  unfold M.s_DrawRouteAccess at hm
  refine C_enter Try.func41 rfl (by kernel_rfl) ?_
  have M0 := Mem.refl [] w
  refine G_seq ?_
  refine G_region ?_
  refine W_run 1 [(0, .slice p7615 x7613.length c7616)] w (by kernel_rfl) ?_
  refine W_new (fun b => .pointer (some ⟨b, 0, none⟩)) (.cells ⟨[.int .i64 0, .int .i64 0, .bool false]⟩ 36 (0, 0)) M0 rfl (by kernel_rfl) (by kernel_rfl) ?_
  intro b7624 w7625 M7626
  refine W_nil ?_
  refine N_then ?_
  refine G_seq ?_
  refine G_region ?_
  refine W_run 2 [(3, .pointer (some ⟨b7624, 0, none⟩)), (7, .agg #[.slice p7615 x7613.length c7616, .int .i64 0, .int .u64 0])] w7625 (by kernel_rfl) ?_
  refine W_new (fun b => .pointer (some ⟨b, 0, none⟩)) (.cells ⟨[.slice p7615 x7613.length c7616, .int .i64 0, .int .u64 0]⟩ 89 (0, 0)) M7626 rfl (by kernel_rfl) (by kernel_rfl) ?_
  intro b7629 w7630 M7631
  refine W_run 1 [(3, .pointer (some ⟨b7624, 0, none⟩)), (4, .pointer (some ⟨b7629, 0, none⟩))] w7630 (by kernel_rfl) ?_
  refine W_nil ?_
  refine N_then ?_
  refine G_seq ?_
  refine G_region ?_
  refine W_run 1 [(3, .pointer (some ⟨b7624, 0, none⟩)), (4, .pointer (some ⟨b7629, 0, none⟩)), (9, .pointer (some ⟨b7629, 0, none⟩))] w7630 (by kernel_rfl) ?_
  obtain ⟨r8945, hr8945, hm⟩ := gx_bind hm
  refine W_call 77 #[.pointer (some ⟨b7629, 0, none⟩)] (by kernel_rfl) (by kernel_rfl) ?_
  refine (c_s_l1Cur_regions w7630 (⟨x7613, 0, 0⟩ : l1Cur) p7615 c7616 (h7617.mem0 M7631) b7629 (M7631.hasPick [1]) (M7631.nodupPick [1] (by kernel_rfl)) (apartX.old0 h7617 M7631 [1]) hr8945).mono ?_
  rintro e_ w8951 ⟨p8947, c8948, sg8949, rfl, ho8950, K8952⟩
  have M8953 := M7631.callF' [1] [0] (by kernel_rfl) K8952
  refine ⟨_, rfl, ?_⟩
  refine W_run 1 [(3, .pointer (some ⟨b7624, 0, none⟩)), (4, .pointer (some ⟨b7629, 0, none⟩)), (5, .slice p8947 r8945.1.length c8948)] w8951 (by kernel_rfl) ?_
  refine W_nil ?_
  refine N_then ?_
  refine G_seq ?_
  refine G_region ?_
  refine W_run 3 [(3, .pointer (some ⟨b7624, 0, none⟩)), (11, .slice p8947 r8945.1.length c8948), (12, .pointer (some ⟨b7629, 0, none⟩)), (13, .slice p8947 r8945.1.length c8948)] w8951 (by kernel_rfl) ?_
  obtain ⟨r9262, hr9262, hm⟩ := gx_bind hm
  refine W_call 78 #[.pointer (some ⟨b7629, 0, none⟩), .slice p8947 r8945.1.length c8948] (by kernel_rfl) (by kernel_rfl) ?_
  refine (c_s_l1Cur_access w8951 (⟨x7613, r8945.2.1, r8945.2.2⟩ : l1Cur) p7615 c7616 (h7617.mem0 M8953) b7629 r8945.1 p8947 c8948 (ho8950.rd M8953 2 (by kernel_rfl)) (M8953.hasPick [1]) (M8953.nodupPick [1] (by kernel_rfl)) (apartX.old0 h7617 M8953 [1]) (apartX.own ho8950 M8953 2 (by kernel_rfl) [1] (by kernel_rfl)) hr9262).mono ?_
  rintro e_ w9263 ⟨rfl, K9264⟩
  have M9265 := M8953.callF' [1] [0, 2] (by kernel_rfl) K9264
  refine ⟨_, rfl, ?_⟩
  refine W_run 1 [(2, .slice p8947 r8945.1.length c8948), (3, .pointer (some ⟨b7624, 0, none⟩)), (14, .agg #[.int .i64 r9262.1.Address, .int .i64 r9262.1.Width, .bool r9262.1.Store])] w9263 (by kernel_rfl) ?_
  refine W_store _ _ _ true 3 b7624 0 [.int .i64 0, .int .i64 0, .bool false] 36 (.agg #[.int .i64 r9262.1.Address, .int .i64 r9262.1.Width, .bool r9262.1.Store]) 0 [.int .i64 r9262.1.Address, .int .i64 r9262.1.Width, .bool r9262.1.Store] M9265 (by kernel_rfl) rfl (by kernel_rfl) (by kernel_rfl) (by kernel_rfl) (by kernel_rfl) (by kernel_rfl) (by kernel_rfl) (by kernel_rfl) (by kernel_rfl) ?_
  intro w9266 M9267
  refine W_nil ?_
  refine N_then ?_
  refine G_ret ?_
  obtain rfl := Option.some.inj hm
  refine N_ret [.slice p8947 r8945.1.length c8948, .agg #[.int .i64 r9262.1.Address, .int .i64 r9262.1.Width, .bool r9262.1.Store]] (RVs_cons (RV_tmp (by kernel_rfl)) (RVs_cons (RV_cell (g := true) (k := 3) (b := b7624) (off := 0) (cs := [.int .i64 r9262.1.Address, .int .i64 r9262.1.Width, .bool r9262.1.Store]) (e := 36) (fr := (0, 0)) (v := .agg #[.int .i64 r9262.1.Address, .int .i64 r9262.1.Width, .bool r9262.1.Store]) (M9267.blk 0 (b := b7624) (o := .cells ⟨[.int .i64 r9262.1.Address, .int .i64 r9262.1.Width, .bool r9262.1.Store]⟩ 36 (0, 0)) (by kernel_rfl)) (by kernel_rfl) (by kernel_rfl) (by kernel_rfl)) RVs_nil)) ?_
  exact ⟨p8947, c8948, sg8949, rfl, ho8950, M9267.pick [1] (by kernel_rfl)⟩
theorem c_i_FindRegion (w : World) (x9305 : List Region) (p9307 : Option Addr) (c9308 : Nat) (h9309 : rdS encRegion w x9305 p9307 c9308) (x9310 : Int) {r : Int × Bool} (hm : M.i_FindRegion x9305 x9310 = some r) :
    Calls Try.prog 42 #[.slice p9307 x9305.length c9308, .int .i64 x9310] w fun e w' => e = .returned (.tuple #[.int .i64 r.1, .bool r.2]) ∧ Mem [] w w' [] := by
  unfold M.i_FindRegion at hm
  refine C_enter Try.func42 rfl (by kernel_rfl) ?_
  have M0 := Mem.refl [] w
  refine G_seq ?_
  refine G_region ?_
  refine W_run 2 [(0, .slice p9307 x9305.length c9308), (1, .int .i64 x9310)] w (by kernel_rfl) ?_
  refine W_nil ?_
  refine N_then ?_
  refine G_seq ?_
  refine G_region ?_
  refine W_run 2 [(0, .slice p9307 x9305.length c9308), (7, .slice p9307 x9305.length c9308), (8, .int .i64 x9310)] w (by kernel_rfl) ?_
  obtain ⟨r9311, hr9311, hm⟩ := gx_bind hm
  refine W_call 65 #[.slice p9307 x9305.length c9308, .int .i64 x9310] (by kernel_rfl) (by kernel_rfl) ?_
  refine (c_i_findRegion w x9305 p9307 c9308 (h9309.mem0 M0) x9310 hr9311).mono ?_
  rintro e_ w9312 ⟨rfl, K9313⟩
  have M9314 := M0.call0 K9313
  refine ⟨_, rfl, ?_⟩
  refine W_run 1 [(0, .slice p9307 x9305.length c9308), (6, .int .i64 r9311)] w9312 (by kernel_rfl) ?_
  refine W_nil ?_
  refine N_then ?_
  refine G_seq ?_
  refine G_seq ?_
  obtain ⟨o9320, ho9321, hm9322⟩ := gx_bind hm
  refine G_meet (fun a w' => Mem [] w w' [] ∧ Sat Try.f42.ntmps [(6, .int .i64 r9311), (16, .bool o9320)] a) ?_ ?_
  · have hm := ho9321
    refine G_region ?_
    refine W_run 1 [(6, .int .i64 r9311), (10, .slice p9307 x9305.length c9308)] w9312 (by kernel_rfl) ?_
    obtain ⟨r9323, hr9323, hm⟩ := gx_bind hm
    refine W_call 49 #[.slice p9307 x9305.length c9308] (by kernel_rfl) (by kernel_rfl) ?_
    refine (c_i_IsMap w9312 x9305 p9307 c9308 (h9309.mem0 M9314) hr9323).mono ?_
    rintro e_ w9324 ⟨rfl, K9325⟩
    have M9326 := M9314.call0 K9325
    refine ⟨_, rfl, ?_⟩
    refine W_run 2 [(6, .int .i64 r9311), (13, .bool (!r9323))] w9324 (by kernel_rfl) ?_
    rcases gx_bif hm with ⟨hc9327, hm⟩ | ⟨hc9327, hm⟩
    · refine W_known 13 true (by kernel_rfl) hc9327 ?_
      refine W_run 3 [(6, .int .i64 r9311), (16, .bool true)] w9324 (by kernel_rfl) ?_
      refine W_nil ?_
      obtain rfl := Option.some.inj hm
      exact N_meet fun a ha => ⟨M9326.pick [] (by kernel_rfl), ha.sub (by kernel_rfl)⟩
    · refine W_known 13 false (by kernel_rfl) hc9327 ?_
      refine W_run 3 [(6, .int .i64 r9311), (16, .bool (decide (r9311 < 0)))] w9324 (by kernel_rfl) ?_
      refine W_nil ?_
      obtain rfl := Option.some.inj hm
      exact N_meet fun a ha => ⟨M9326.pick [] (by kernel_rfl), ha.sub (by kernel_rfl)⟩
  · intro a9330 w9328 ⟨M9329, hS9331⟩
    refine N_use hS9331 ?_
    have hm := hm9322
    refine N_then ?_
    rcases gx_bif hm with ⟨hc9332, hm⟩ | ⟨hc9332, hm⟩
    · refine G_cond_t (b := o9320) hc9332 (by kernel_rfl) ?_
      refine G_seq ?_
      refine G_region ?_
      refine W_run 2 [(4, .int .i64 0), (5, .bool false)] w9328 (by kernel_rfl) ?_
      refine W_nil ?_
      refine N_then ?_
      refine G_ret ?_
      refine N_then_ret ?_
      obtain rfl := Option.some.inj hm
      refine N_ret [.int .i64 0, .bool false] (RVs_cons (RV_tmp (by kernel_rfl)) (RVs_cons (RV_tmp (by kernel_rfl)) RVs_nil)) ?_
      exact ⟨rfl, M9329.pick [] (by kernel_rfl)⟩
    · refine G_cond_f (b := o9320) hc9332 (by kernel_rfl) ?_
      refine G_skip ?_
      refine N_then ?_
      refine G_seq ?_
      refine G_region ?_
      refine W_run 3 [(4, .int .i64 r9311), (5, .bool true)] w9328 (by kernel_rfl) ?_
      refine W_nil ?_
      refine N_then ?_
      refine G_ret ?_
      obtain rfl := Option.some.inj hm
      refine N_ret [.int .i64 r9311, .bool true] (RVs_cons (RV_tmp (by kernel_rfl)) (RVs_cons (RV_tmp (by kernel_rfl)) RVs_nil)) ?_
      exact ⟨rfl, M9329.pick [] (by kernel_rfl)⟩
theorem c_s_FindRegion (w : World) (x9337 : List Region) (p9339 : Option Addr) (c9340 : Nat) (h9341 : rdS encRegion w x9337 p9339 c9340) (x9342 : Int) {r : Int × Bool} (hm : M.s_FindRegion x9337 x9342 = some r) :
    Calls Try.prog 43 #[.slice p9339 x9337.length c9340, .int .i64 x9342] w fun e w' => e = .returned (.tuple #[.int .i64 r.1, .bool r.2]) ∧ Mem [] w w' [] := by
  unfold M.s_FindRegion at hm
  refine C_enter Try.func43 rfl (by kernel_rfl) ?_
  have M0 := Mem.refl [] w
  refine G_seq ?_
  refine G_region ?_
  refine W_run 2 [(0, .slice p9339 x9337.length c9340), (1, .int .i64 x9342)] w (by kernel_rfl) ?_
  refine W_nil ?_
  refine N_then ?_
  refine G_seq ?_
  refine G_seq ?_
  obtain ⟨o9357, ho9358, hm9359⟩ := gx_bind hm
  refine G_meet (fun a w' => Mem [] w w' [] ∧ Sat Try.f43.ntmps [(0, .slice p9339 x9337.length c9340), (1, .int .i64 x9342), (19, .bool o9357)] a) ?_ ?_
  · have hm := ho9358
    refine G_region ?_
    refine W_run 1 [(0, .slice p9339 x9337.length c9340), (1, .int .i64 x9342), (6, .slice p9339 x9337.length c9340)] w (by kernel_rfl) ?_
    obtain ⟨r9360, hr9360, hm⟩ := gx_bind hm
    refine W_call 60 #[.slice p9339 x9337.length c9340] (by kernel_rfl) (by kernel_rfl) ?_
    refine (c_s_l17Good w x9337 p9339 c9340 (h9341.mem0 M0) hr9360).mono ?_
    rintro e_ w9361 ⟨rfl, K9362⟩
    have M9363 := M0.call0 K9362
    refine ⟨_, rfl, ?_⟩
    refine W_run 2 [(0, .slice p9339 x9337.length c9340), (1, .int .i64 x9342), (9, .bool (!r9360))] w9361 (by kernel_rfl) ?_
    rcases gx_bif hm with ⟨hc9364, hm⟩ | ⟨hc9364, hm⟩
    · refine W_known 9 true (by kernel_rfl) hc9364 ?_
      refine W_run 10 [(0, .slice p9339 x9337.length c9340), (1, .int .i64 x9342), (19, .bool true)] w9361 (by kernel_rfl) ?_
      refine W_nil ?_
      obtain rfl := Option.some.inj hm
      exact N_meet fun a ha => ⟨M9363.pick [] (by kernel_rfl), ha.sub (by kernel_rfl)⟩
    · refine W_known 9 false (by kernel_rfl) hc9364 ?_
      refine W_run 1 [(0, .slice p9339 x9337.length c9340), (1, .int .i64 x9342), (9, .bool false), (10, .int .i64 x9342)] w9361 (by kernel_rfl) ?_
      obtain ⟨r9365, hr9365, hm⟩ := gx_bind hm
      refine W_call 68 #[.int .i64 x9342] (by kernel_rfl) (by kernel_rfl) ?_
      refine (c_s_l17Address w9361 x9342 hr9365).mono ?_
      rintro e_ w9366 ⟨rfl, K9367⟩
      have M9368 := M9363.call0 K9367
      refine ⟨_, rfl, ?_⟩
      refine W_run 3 [(0, .slice p9339 x9337.length c9340), (1, .int .i64 x9342), (14, .bool (!r9365))] w9366 (by kernel_rfl) ?_
      rcases gx_bif hm with ⟨hc9369, hm⟩ | ⟨hc9369, hm⟩
      · refine W_known 14 true (by kernel_rfl) hc9369 ?_
        refine W_run 5 [(0, .slice p9339 x9337.length c9340), (1, .int .i64 x9342), (19, .bool true)] w9366 (by kernel_rfl) ?_
        refine W_nil ?_
        obtain rfl := Option.some.inj hm
        exact N_meet fun a ha => ⟨M9368.pick [] (by kernel_rfl), ha.sub (by kernel_rfl)⟩
      · refine W_known 14 false (by kernel_rfl) hc9369 ?_
        refine W_run 2 [(0, .slice p9339 x9337.length c9340), (1, .int .i64 x9342), (14, .bool false), (15, .slice p9339 x9337.length c9340), (16, .int .i64 x9342)] w9366 (by kernel_rfl) ?_
        obtain ⟨r9370, hr9370, hm⟩ := gx_bind hm
        refine W_call 62 #[.slice p9339 x9337.length c9340, .int .i64 x9342] (by kernel_rfl) (by kernel_rfl) ?_
        refine (c_s_l17Find w9366 x9337 p9339 c9340 (h9341.mem0 M9368) x9342 hr9370).mono ?_
        rintro e_ w9371 ⟨rfl, K9372⟩
        have M9373 := M9368.call0 K9372
        refine ⟨_, rfl, ?_⟩
        refine W_run 2 [(0, .slice p9339 x9337.length c9340), (1, .int .i64 x9342), (19, .bool (decide (r9370 < 0)))] w9371 (by kernel_rfl) ?_
        refine W_nil ?_
        obtain rfl := Option.some.inj hm
        exact N_meet fun a ha => ⟨M9373.pick [] (by kernel_rfl), ha.sub (by kernel_rfl)⟩
  · intro a9376 w9374 ⟨M9375, hS9377⟩
    refine N_use hS9377 ?_
    have hm := hm9359
    refine N_then ?_
    rcases gx_bif hm with ⟨hc9378, hm⟩ | ⟨hc9378, hm⟩
    · refine G_cond_t (b := o9357) hc9378 (by kernel_rfl) ?_
      refine G_seq ?_
      refine G_region ?_
      refine W_run 2 [(4, .int .i64 0), (5, .bool false)] w9374 (by kernel_rfl) ?_
      refine W_nil ?_
      refine N_then ?_
      refine G_ret ?_
      refine N_then_ret ?_
      obtain rfl := Option.some.inj hm
      refine N_ret [.int .i64 0, .bool false] (RVs_cons (RV_tmp (by kernel_rfl)) (RVs_cons (RV_tmp (by kernel_rfl)) RVs_nil)) ?_
      exact ⟨rfl, M9375.pick [] (by kernel_rfl)⟩
    · refine G_cond_f (b := o9357) hc9378 (by kernel_rfl) ?_
      refine G_skip ?_
      refine N_then ?_
      refine G_seq ?_
      refine G_region ?_
      refine W_run 2 [(20, .slice p9339 x9337.length c9340), (21, .int .i64 x9342)] w9374 (by kernel_rfl) ?_
      obtain ⟨r9379, hr9379, hm⟩ := gx_bind hm
      refine W_call 62 #[.slice p9339 x9337.length c9340, .int .i64 x9342] (by kernel_rfl) (by kernel_rfl) ?_
      refine (c_s_l17Find w9374 x9337 p9339 c9340 (h9341.mem0 M9375) x9342 hr9379).mono ?_
      rintro e_ w9380 ⟨rfl, K9381⟩
      have M9382 := M9375.call0 K9381
      refine ⟨_, rfl, ?_⟩
      refine W_run 2 [(4, .int .i64 r9379), (5, .bool true)] w9380 (by kernel_rfl) ?_
      refine W_nil ?_
      refine N_then ?_
      refine G_ret ?_
      obtain rfl := Option.some.inj hm
      refine N_ret [.int .i64 r9379, .bool true] (RVs_cons (RV_tmp (by kernel_rfl)) (RVs_cons (RV_tmp (by kernel_rfl)) RVs_nil)) ?_
      exact ⟨rfl, M9382.pick [] (by kernel_rfl)⟩
theorem c_s_DrawUnitsBetween (w : World) (x9631 : List Int) (p9633 : Option Addr) (c9634 : Nat) (h9635 : rdS encU8 w x9631 p9633 c9634) {r : (List Region) × Int × Int} (hm : M.s_DrawUnitsBetween x9631 = some r) :
    Calls Try.prog 44 #[.slice p9633 x9631.length c9634] w fun e w' => ∃ (p9637 : Option Addr) (c9638 : Nat) (sg9639 : Seg), e = .returned (.tuple #[.slice p9637 r.1.length c9638, .int .i64 r.2.1, .int .i64 r.2.2]) ∧ ownS encRegion r.1 p9637 c9638 sg9639 ∧ Mem [] w w' [sg9639] := by
  unfold M.s_DrawUnitsBetween at hm
  refine C_enter Try.func44 rfl (by kernel_rfl) ?_
  have M0 := Mem.refl [] w
  refine G_seq ?_
  refine G_region ?_
  refine W_run 3 [(0, .slice p9633 x9631.length c9634)] w (by kernel_rfl) ?_
  refine W_nil ?_
  refine N_then ?_
  refine G_seq ?_
  refine G_region ?_
  refine W_run 2 [(9, .agg #[.slice p9633 x9631.length c9634, .int .i64 0, .int .u64 0])] w (by kernel_rfl) ?_
  refine W_new (fun b => .pointer (some ⟨b, 0, none⟩)) (.cells ⟨[.slice p9633 x9631.length c9634, .int .i64 0, .int .u64 0]⟩ 89 (0, 0)) M0 rfl (by kernel_rfl) (by kernel_rfl) ?_
  intro b9643 w9644 M9645
  refine W_run 1 [(5, .pointer (some ⟨b9643, 0, none⟩))] w9644 (by kernel_rfl) ?_
  refine W_nil ?_
  refine N_then ?_
  refine G_seq ?_
  refine G_region ?_
  refine W_run 1 [(5, .pointer (some ⟨b9643, 0, none⟩)), (11, .pointer (some ⟨b9643, 0, none⟩))] w9644 (by kernel_rfl) ?_
  obtain ⟨r9646, hr9646, hm⟩ := gx_bind hm
  refine W_call 77 #[.pointer (some ⟨b9643, 0, none⟩)] (by kernel_rfl) (by kernel_rfl) ?_
  refine (c_s_l1Cur_regions w9644 (⟨x9631, 0, 0⟩ : l1Cur) p9633 c9634 (h9635.mem0 M9645) b9643 (M9645.hasPick [0]) (M9645.nodupPick [0] (by kernel_rfl)) (apartX.old0 h9635 M9645 [0]) hr9646).mono ?_
  rintro e_ w9652 ⟨p9648, c9649, sg9650, rfl, ho9651, K9653⟩
  have M9654 := M9645.callF' [0] [] (by kernel_rfl) K9653
  refine ⟨_, rfl, ?_⟩
  refine W_run 1 [(5, .pointer (some ⟨b9643, 0, none⟩)), (6, .slice p9648 r9646.1.length c9649)] w9652 (by kernel_rfl) ?_
  refine W_nil ?_
  refine N_then ?_
  refine G_seq ?_
  refine G_region ?_
  refine W_run 2 [(5, .pointer (some ⟨b9643, 0, none⟩)), (6, .slice p9648 r9646.1.length c9649), (13, .pointer (some ⟨b9643, 0, none⟩)), (14, .slice p9648 r9646.1.length c9649)] w9652 (by kernel_rfl) ?_
  obtain ⟨r9655, hr9655, hm⟩ := gx_bind hm
  refine W_call 79 #[.pointer (some ⟨b9643, 0, none⟩), .slice p9648 r9646.1.length c9649] (by kernel_rfl) (by kernel_rfl) ?_
  refine (c_s_l1Cur_address17 w9652 (⟨x9631, r9646.2.1, r9646.2.2⟩ : l1Cur) p9633 c9634 (h9635.mem0 M9654) b9643 r9646.1 p9648 c9649 (ho9651.rd M9654 1 (by kernel_rfl)) (M9654.hasPick [0]) (M9654.nodupPick [0] (by kernel_rfl)) (apartX.old0 h9635 M9654 [0]) (apartX.own ho9651 M9654 1 (by kernel_rfl) [0] (by kernel_rfl)) hr9655).mono ?_
  rintro e_ w9656 ⟨rfl, K9657⟩
  have M9658 := M9654.callF' [0] [1] (by kernel_rfl) K9657
  refine ⟨_, rfl, ?_⟩
  refine W_run 1 [(5, .pointer (some ⟨b9643, 0, none⟩)), (6, .slice p9648 r9646.1.length c9649), (7, .int .i64 r9655.1)] w9656 (by kernel_rfl) ?_
  refine W_nil ?_
  refine N_then ?_
  refine G_seq ?_
  refine G_region ?_
  refine W_run 4 [(16, .slice p9648 r9646.1.length c9649), (17, .int .i64 r9655.1), (18, .int .i64 r9655.1), (19, .pointer (some ⟨b9643, 0, none⟩))] w9656 (by kernel_rfl) ?_
  refine W_lit (E := encI) [0, 3, 100, 5000, (-1), 70000] 6 [.int .i64 0, .int .i64 3, .int .i64 100, .int .i64 5000, .int .i64 (-1), .int .i64 70000] 3 M9658 (by kernel_rfl) (by kernel_rfl) (by kernel_rfl) (by kernel_rfl) (by kernel_rfl) ?_
  intro p9659 c9660 sg9661 w9662 ho9663 M9664
  obtain ⟨r9666, hr9666, hm⟩ := gx_bind hm
  refine W_call 80 #[.pointer (some ⟨b9643, 0, none⟩), .slice p9659 [0, 3, 100, 5000, (-1), 70000].length c9660] (by kernel_rfl) (by kernel_rfl) ?_
  refine (c_s_l1Cur_among w9662 (⟨x9631, r9655.2.1, r9655.2.2⟩ : l1Cur) p9633 c9634 (h9635.mem0 M9664) b9643 [0, 3, 100, 5000, (-1), 70000] p9659 c9660 (ho9663.rd M9664 2 (by kernel_rfl)) (M9664.hasPick [1]) (M9664.nodupPick [1] (by kernel_rfl)) (apartX.old0 h9635 M9664 [1]) (apartX.own ho9663 M9664 2 (by kernel_rfl) [1] (by kernel_rfl)) hr9666).mono ?_
  rintro e_ w9667 ⟨rfl, K9668⟩
  have M9669 := M9664.callF' [1] [0, 2] (by kernel_rfl) K9668
  refine ⟨_, rfl, ?_⟩
  refine W_run 4 [(2, .slice p9648 r9646.1.length c9649), (3, .int .i64 r9655.1), (4, .int .i64 (w64 (r9655.1 + r9666.1)))] w9667 (by kernel_rfl) ?_
  refine W_nil ?_
  refine N_then ?_
  refine G_ret ?_
  obtain rfl := Option.some.inj hm
  refine N_ret [.slice p9648 r9646.1.length c9649, .int .i64 r9655.1, .int .i64 (w64 (r9655.1 + r9666.1))] (RVs_cons (RV_tmp (by kernel_rfl)) (RVs_cons (RV_tmp (by kernel_rfl)) (RVs_cons (RV_tmp (by kernel_rfl)) RVs_nil))) ?_
  exact ⟨p9648, c9649, sg9650, rfl, ho9651, M9669.pick [0] (by kernel_rfl)⟩
theorem c_l_rInts (w : World) (x9698 : List Int) (p9700 : Option Addr) (c9701 : Nat) (h9702 : rdS encI w x9698 p9700 c9701) (x9703 : List Int) (p9705 : Option Addr) (c9706 : Nat) (h9707 : rdS encI w x9703 p9705 c9706) {r : Bool} (hm : M.l_rInts x9698 x9703 = some r) :
    Calls Try.prog 45 #[.slice p9700 x9698.length c9701, .slice p9705 x9703.length c9706] w fun e w' => e = .returned (.bool r) ∧ Mem [] w w' [] := by
  unfold M.l_rInts at hm
  refine C_enter Try.func45 rfl (by kernel_rfl) ?_
  have M0 := Mem.refl [] w
  refine G_seq ?_
  refine G_region ?_
  refine W_run 1 [(0, .slice p9700 x9698.length c9701), (1, .slice p9705 x9703.length c9706)] w (by kernel_rfl) ?_
  refine W_nil ?_
  refine N_then ?_
  refine G_seq ?_
  refine G_seq ?_
  refine G_region ?_
  refine W_run 5 [(0, .slice p9700 x9698.length c9701), (1, .slice p9705 x9703.length c9706), (10, .bool ((x9698.length : Int) != (x9703.length : Int)))] w (by kernel_rfl) ?_
  refine W_nil ?_
  refine N_then ?_
  rcases gx_bif hm with ⟨hc9708, hm⟩ | ⟨hc9708, hm⟩
  · refine G_cond_t (b := ((x9698.length : Int) != (x9703.length : Int))) hc9708 (by kernel_rfl) ?_
    refine G_seq ?_
    refine G_region ?_
    refine W_run 1 [(4, .bool false)] w (by kernel_rfl) ?_
    refine W_nil ?_
    refine N_then ?_
    refine G_ret ?_
    refine N_then_ret ?_
    obtain rfl := Option.some.inj hm
    refine N_ret [.bool false] (RVs_cons (RV_tmp (by kernel_rfl)) RVs_nil) ?_
    exact ⟨rfl, M0.pick [] (by kernel_rfl)⟩
  · refine G_cond_f (b := ((x9698.length : Int) != (x9703.length : Int))) hc9708 (by kernel_rfl) ?_
    refine G_skip ?_
    refine N_then ?_
    refine G_seq ?_
    refine G_seq ?_
    refine G_region ?_
    refine W_run 1 [(0, .slice p9700 x9698.length c9701), (1, .slice p9705 x9703.length c9706), (5, .int .i64 0)] w (by kernel_rfl) ?_
    refine W_nil ?_
    refine N_then ?_
    obtain ⟨out9728, hw9729, hmo9730⟩ := gx_bind hm
    refine G_meet (fun a w' => ∃ (o9731 : Unit), out9728 = .inl o9731 ∧ Mem [] w w' [] ∧ Sat Try.f45.ntmps [] a) ?_ ?_
    · refine G_block ?_
      refine G_while (σ := Int) (ρ := (Unit) ⊕ (Bool)) (fun s9721 a w' => Mem [] w w' [] ∧ Sat Try.f45.ntmps [(0, .slice p9700 x9698.length c9701), (1, .slice p9705 x9703.length c9706), (5, .int .i64 s9721)] a) hw9729 (fun a ha => ⟨M0.pick [] (by kernel_rfl), ha.sub (by kernel_rfl)⟩) ?_
      clear hm
      intro s9721 x9722 hm hout9723 a9724 w9725 ⟨M9726, hS9727⟩
      refine G_use hS9727 ?_
      refine G_seq ?_
      refine G_seq ?_
      refine G_region ?_
      refine W_run 4 [(0, .slice p9700 x9698.length c9701), (1, .slice p9705 x9703.length c9706), (5, .int .i64 s9721), (14, .bool (decide (s9721 < (x9698.length : Int))))] w9725 (by kernel_rfl) ?_
      refine W_nil ?_
      refine N_then ?_
      rcases gx_bif hm with ⟨hc9732, hm⟩ | ⟨hc9732, hm⟩
      · refine G_cond_t (b := (decide (s9721 < (x9698.length : Int)))) hc9732 (by kernel_rfl) ?_
        refine G_skip ?_
        refine N_then ?_
        refine G_seq ?_
        refine G_block ?_
        refine G_seq ?_
        refine G_quiet (by kernel_rfl) (by kernel_rfl) M9726 ?_
        refine Z_runs [.slice p9700 x9698.length c9701, .int .i64 s9721] [(0, .slice p9700 x9698.length c9701), (1, .slice p9705 x9703.length c9706), (5, .int .i64 s9721), (17, .slice p9700 x9698.length c9701), (18, .int .i64 s9721)] (fun w_ => by kernel_rfl) (by kernel_rfl) ?_
        obtain ⟨y9733, hy9733, hm⟩ := gx_bind hm
        refine Z_val (elemP p9700 (s9721.toNat * 1)) (by kernel_rfl) (fun w_ M_ => (E_index (E := encI) _ _ _ x9698.length c9701 .i64 s9721 1 (y := y9733) rfl (by kernel_rfl) (by kernel_rfl) (by kernel_rfl) (h9702.mem0 M_) rfl hy9733)) ?_
        refine Z_val (.int .i64 y9733) (by kernel_rfl) (fun w_ M_ => (E_loadE (E := encI) _ _ false 1 s9721 0 (s9721.toNat * 1) y9733 (.int .i64 y9733) rfl (by kernel_rfl) (by kernel_rfl) (by kernel_rfl) (h9702.mem0 M_) hy9733 rfl)) ?_
        refine Z_runs [.slice p9705 x9703.length c9706, .int .i64 s9721] [(0, .slice p9700 x9698.length c9701), (1, .slice p9705 x9703.length c9706), (5, .int .i64 s9721), (20, .int .i64 y9733), (21, .slice p9705 x9703.length c9706), (22, .int .i64 s9721)] (fun w_ => by kernel_rfl) (by kernel_rfl) ?_
        obtain ⟨y9734, hy9734, hm⟩ := gx_bind hm
        refine Z_val (elemP p9705 (s9721.toNat * 1)) (by kernel_rfl) (fun w_ M_ => (E_index (E := encI) _ _ _ x9703.length c9706 .i64 s9721 1 (y := y9734) rfl (by kernel_rfl) (by kernel_rfl) (by kernel_rfl) (h9707.mem0 M_) rfl hy9734)) ?_
        refine Z_val (.int .i64 y9734) (by kernel_rfl) (fun w_ M_ => (E_loadE (E := encI) _ _ false 1 s9721 0 (s9721.toNat * 1) y9734 (.int .i64 y9734) rfl (by kernel_rfl) (by kernel_rfl) (by kernel_rfl) (h9707.mem0 M_) hy9734 rfl)) ?_
        refine Z_runs [.bool (y9733 != y9734)] [(0, .slice p9700 x9698.length c9701), (1, .slice p9705 x9703.length c9706), (5, .int .i64 s9721), (25, .bool (y9733 != y9734))] (fun w_ => by kernel_rfl) (by kernel_rfl) ?_
        refine Z_end fun w9735 M9736 => ?_
        refine N_then ?_
        rcases gx_bif hm with ⟨hc9737, hm⟩ | ⟨hc9737, hm⟩
        · refine G_cond_t (b := (y9733 != y9734)) hc9737 (by kernel_rfl) ?_
          refine G_seq ?_
          refine G_region ?_
          refine W_run 1 [(4, .bool false)] w9735 (by kernel_rfl) ?_
          refine W_nil ?_
          refine N_then ?_
          refine G_ret ?_
          refine N_block_ret ?_
          refine N_then_ret ?_
          refine N_then_ret ?_
          obtain rfl := Option.some.inj hm
          obtain rfl := hout9723 _ rfl
          have hm := hmo9730; simp only [Sum.elim_inr] at hm
          refine N_block_ret ?_
          refine N_meet_ret ?_
          refine N_then_ret ?_
          obtain rfl := Option.some.inj hm
          refine N_ret [.bool false] (RVs_cons (RV_tmp (by kernel_rfl)) RVs_nil) ?_
          exact ⟨rfl, M9736.pick [] (by kernel_rfl)⟩
        · refine G_cond_f (b := (y9733 != y9734)) hc9737 (by kernel_rfl) ?_
          refine G_skip ?_
          refine N_block ?_
          refine N_then ?_
          refine G_region ?_
          refine W_run 3 [(0, .slice p9700 x9698.length c9701), (1, .slice p9705 x9703.length c9706), (5, .int .i64 (w64 (s9721 + 1)))] w9735 (by kernel_rfl) ?_
          refine W_nil ?_
          obtain rfl := Option.some.inj hm
          exact N_loop fun a ha => ⟨_, rfl, M9736.pick [] (by kernel_rfl), ha.sub (by kernel_rfl)⟩
      · refine G_cond_f (b := (decide (s9721 < (x9698.length : Int)))) hc9732 (by kernel_rfl) ?_
        refine G_exit ?_
        refine N_then_exit ?_
        refine N_then_exit ?_
        refine N_block_eq ?_
        obtain rfl := Option.some.inj hm
        obtain rfl := hout9723 _ rfl
        exact N_meet fun a ha => ⟨_, rfl, M9726.pick [] (by kernel_rfl), ha.sub (by kernel_rfl)⟩
    · intro a9738 w9739 ⟨o9731, hout_, M9740, hS9741⟩
      refine N_use hS9741 ?_
      subst hout_
      have hm := hmo9730; simp only [Sum.elim_inl] at hm
      refine N_then ?_
      refine G_seq ?_
      refine G_region ?_
      refine W_run 1 [(4, .bool true)] w9739 (by kernel_rfl) ?_
      refine W_nil ?_
      refine N_then ?_
      refine G_ret ?_
      obtain rfl := Option.some.inj hm
      refine N_ret [.bool true] (RVs_cons (RV_tmp (by kernel_rfl)) RVs_nil) ?_
      exact ⟨rfl, M9740.pick [] (by kernel_rfl)⟩
theorem c_s_DrawFindRegion (w : World) (x9759 : List Int) (p9761 : Option Addr) (c9762 : Nat) (h9763 : rdS encU8 w x9759 p9761 c9762) {r : (List Region) × Int} (hm : M.s_DrawFindRegion x9759 = some r) :
    Calls Try.prog 46 #[.slice p9761 x9759.length c9762] w fun e w' => ∃ (p9765 : Option Addr) (c9766 : Nat) (sg9767 : Seg), e = .returned (.tuple #[.slice p9765 r.1.length c9766, .int .i64 r.2]) ∧ ownS encRegion r.1 p9765 c9766 sg9767 ∧ Mem [] w w' [sg9767] := by
  unfold M.s_DrawFindRegion at hm
  refine C_enter Try.func46 rfl (by kernel_rfl) ?_
  have M0 := Mem.refl [] w
  refine G_seq ?_
  refine G_region ?_
  refine W_run 2 [(0, .slice p9761 x9759.length c9762)] w (by kernel_rfl) ?_
  refine W_nil ?_
  refine N_then ?_
  refine G_seq ?_
  refine G_region ?_
  refine W_run 2 [(7, .agg #[.slice p9761 x9759.length c9762, .int .i64 0, .int .u64 0])] w (by kernel_rfl) ?_
  refine W_new (fun b => .pointer (some ⟨b, 0, none⟩)) (.cells ⟨[.slice p9761 x9759.length c9762, .int .i64 0, .int .u64 0]⟩ 89 (0, 0)) M0 rfl (by kernel_rfl) (by kernel_rfl) ?_
  intro b9771 w9772 M9773
  refine W_run 1 [(4, .pointer (some ⟨b9771, 0, none⟩))] w9772 (by kernel_rfl) ?_
  refine W_nil ?_
  refine N_then ?_
  refine G_seq ?_
  refine G_region ?_
  refine W_run 1 [(4, .pointer (some ⟨b9771, 0, none⟩)), (9, .pointer (some ⟨b9771, 0, none⟩))] w9772 (by kernel_rfl) ?_
  obtain ⟨r9774, hr9774, hm⟩ := gx_bind hm
  refine W_call 77 #[.pointer (some ⟨b9771, 0, none⟩)] (by kernel_rfl) (by kernel_rfl) ?_
  refine (c_s_l1Cur_regions w9772 (⟨x9759, 0, 0⟩ : l1Cur) p9761 c9762 (h9763.mem0 M9773) b9771 (M9773.hasPick [0]) (M9773.nodupPick [0] (by kernel_rfl)) (apartX.old0 h9763 M9773 [0]) hr9774).mono ?_
  rintro e_ w9780 ⟨p9776, c9777, sg9778, rfl, ho9779, K9781⟩
  have M9782 := M9773.callF' [0] [] (by kernel_rfl) K9781
  refine ⟨_, rfl, ?_⟩
  refine W_run 1 [(4, .pointer (some ⟨b9771, 0, none⟩)), (5, .slice p9776 r9774.1.length c9777)] w9780 (by kernel_rfl) ?_
  refine W_nil ?_
  refine N_then ?_
  refine G_seq ?_
  refine G_region ?_
  refine W_run 3 [(11, .slice p9776 r9774.1.length c9777), (12, .pointer (some ⟨b9771, 0, none⟩)), (13, .slice p9776 r9774.1.length c9777)] w9780 (by kernel_rfl) ?_
  obtain ⟨r9783, hr9783, hm⟩ := gx_bind hm
  refine W_call 79 #[.pointer (some ⟨b9771, 0, none⟩), .slice p9776 r9774.1.length c9777] (by kernel_rfl) (by kernel_rfl) ?_
  refine (c_s_l1Cur_address17 w9780 (⟨x9759, r9774.2.1, r9774.2.2⟩ : l1Cur) p9761 c9762 (h9763.mem0 M9782) b9771 r9774.1 p9776 c9777 (ho9779.rd M9782 1 (by kernel_rfl)) (M9782.hasPick [0]) (M9782.nodupPick [0] (by kernel_rfl)) (apartX.old0 h9763 M9782 [0]) (apartX.own ho9779 M9782 1 (by kernel_rfl) [0] (by kernel_rfl)) hr9783).mono ?_
  rintro e_ w9784 ⟨rfl, K9785⟩
  have M9786 := M9782.callF' [0] [1] (by kernel_rfl) K9785
  refine ⟨_, rfl, ?_⟩
  refine W_run 2 [(2, .slice p9776 r9774.1.length c9777), (3, .int .i64 r9783.1)] w9784 (by kernel_rfl) ?_
  refine W_nil ?_
  refine N_then ?_
  refine G_ret ?_
  obtain rfl := Option.some.inj hm
  refine N_ret [.slice p9776 r9774.1.length c9777, .int .i64 r9783.1] (RVs_cons (RV_tmp (by kernel_rfl)) (RVs_cons (RV_tmp (by kernel_rfl)) RVs_nil)) ?_
  exact ⟨p9776, c9777, sg9778, rfl, ho9779, M9786.pick [0] (by kernel_rfl)⟩
end Go.Proofs.Ytphinfkojhecdaa
