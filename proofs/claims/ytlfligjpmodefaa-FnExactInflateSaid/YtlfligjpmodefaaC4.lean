/- The walks, printed by program: whenever the model gives r, the call returns r. Part 4. -/
import Derived.Test.YtlfligjpmodefaaM
import Derived.Test.YtlfligjpmodefaaProg
import Derived.Test.YtlfligjpmodefaaSh
import Derived.Test.YtlfligjpmodefaaC3
set_option linter.unusedVariables false
set_option maxRecDepth 100000
set_option maxHeartbeats 4000000
namespace Go.Proofs.Ytlfligjpmodefaa
open Go.Gx
theorem c_s_l1Put (w : World) (x8384 : List Int) (p8386 : Option Addr) (c8387 : Nat) (sg8388 : Seg) (ho8389 : ownS Gx.encI x8384 p8386 c8387 sg8388) (x8390 : Int) (hA : ∀ q ∈ List.flatten [sg8388], w.heap[q.1]? = some q.2) (hN : (idsOf [sg8388]).Nodup) {r : (List Int)} (hm : M.s_l1Put x8384 x8390 = some r) :
    Calls Try.prog 87 #[.slice p8386 x8384.length c8387, .int .i64 x8390] w fun e w' => ∃ (p8392 : Option Addr) (c8393 : Nat) (sg8394 : Seg), e = .returned (.slice p8392 r.length c8393) ∧ ownS Gx.encI r p8392 c8393 sg8394 ∧ Mem (idsOf [sg8388]) w w' [sg8394] := by
  unfold M.s_l1Put at hm
  refine C_enter Try.func87 rfl (by kernel_rfl) ?_
  have M0 := Mem.start' w [sg8388] hA hN
  refine G_seq ?_
  refine G_region ?_
  refine W_run 1 [(0, .slice p8386 x8384.length c8387), (1, .int .i64 x8390)] w (by kernel_rfl) ?_
  refine W_nil ?_
  refine N_then ?_
  refine G_seq ?_
  refine G_region ?_
  refine W_run 1 [(0, .slice p8386 x8384.length c8387), (1, .int .i64 x8390), (5, .int .i64 0)] w (by kernel_rfl) ?_
  refine W_nil ?_
  refine N_then ?_
  refine G_seq ?_
  obtain ⟨out8427, hw8428, hmo8429⟩ := gx_bind hm
  refine G_meet (fun a w' => Mem (idsOf [sg8388]) w w' [sg8388] ∧ Sat Try.f87.ntmps [(0, .slice p8386 x8384.length c8387), (1, .int .i64 x8390), (5, .int .i64 out8427)] a) ?_ ?_
  · refine G_block ?_
    refine G_while (σ := Int) (ρ := Int) (fun s8420 a w' => Mem (idsOf [sg8388]) w w' [sg8388] ∧ Sat Try.f87.ntmps [(0, .slice p8386 x8384.length c8387), (1, .int .i64 x8390), (5, .int .i64 s8420)] a) hw8428 (fun a ha => ⟨M0.pick [0] (by kernel_rfl), ha.sub (by kernel_rfl)⟩) ?_
    clear hm
    intro s8420 x8421 hm hout8422 a8423 w8424 ⟨M8425, hS8426⟩
    refine G_use hS8426 ?_
    refine G_seq ?_
    refine G_seq ?_
    obtain ⟨o8433, ho8434, hm8435⟩ := gx_bind hm
    refine G_meet (fun a w' => Mem (idsOf [sg8388]) w w' [sg8388] ∧ Sat Try.f87.ntmps [(0, .slice p8386 x8384.length c8387), (1, .int .i64 x8390), (5, .int .i64 s8420), (17, .bool o8433)] a) ?_ ?_
    · have hm := ho8434
      refine G_region ?_
      refine W_run 5 [(0, .slice p8386 x8384.length c8387), (1, .int .i64 x8390), (5, .int .i64 s8420), (10, .bool (decide (s8420 < (x8384.length : Int))))] w8424 (by kernel_rfl) ?_
      rcases gx_bif hm with ⟨hc8436, hm⟩ | ⟨hc8436, hm⟩
      · refine W_known 10 true (by kernel_rfl) hc8436 ?_
        refine W_run 2 [(0, .slice p8386 x8384.length c8387), (1, .int .i64 x8390), (5, .int .i64 s8420), (10, .bool true), (11, .slice p8386 x8384.length c8387), (12, .int .i64 s8420)] w8424 (by kernel_rfl) ?_
        obtain ⟨y8437, hy8437, hm⟩ := gx_bind hm
        refine W_val (elemP p8386 (s8420.toNat * 1)) w8424 (by kernel_rfl) (E_index (E := Gx.encI) _ _ _ x8384.length c8387 .i64 s8420 1 (y := y8437) rfl (by kernel_rfl) (by kernel_rfl) (by kernel_rfl) (ho8389.rd M8425 0 (by kernel_rfl)) rfl hy8437) ?_
        refine W_val (.int .i64 y8437) w8424 (by kernel_rfl) (E_loadE (E := Gx.encI) _ _ false 1 s8420 0 (s8420.toNat * 1) y8437 (.int .i64 y8437) rfl (by kernel_rfl) (by kernel_rfl) (by kernel_rfl) (ho8389.rd M8425 0 (by kernel_rfl)) hy8437 rfl) ?_
        refine W_run 3 [(0, .slice p8386 x8384.length c8387), (1, .int .i64 x8390), (5, .int .i64 s8420), (17, .bool (decide (y8437 < x8390)))] w8424 (by kernel_rfl) ?_
        refine W_nil ?_
        obtain rfl := Option.some.inj hm
        exact N_meet fun a ha => ⟨M8425.pick [0] (by kernel_rfl), ha.sub (by kernel_rfl)⟩
      refine W_known 10 false (by kernel_rfl) hc8436 ?_
      refine W_run 7 [(0, .slice p8386 x8384.length c8387), (1, .int .i64 x8390), (5, .int .i64 s8420), (17, .bool false)] w8424 (by kernel_rfl) ?_
      refine W_nil ?_
      obtain rfl := Option.some.inj hm
      exact N_meet fun a ha => ⟨M8425.pick [0] (by kernel_rfl), ha.sub (by kernel_rfl)⟩
    intro a8440 w8438 ⟨M8439, hS8441⟩
    refine N_use hS8441 ?_
    have hm := hm8435
    refine N_then ?_
    rcases gx_bif hm with ⟨hc8442, hm⟩ | ⟨hc8442, hm⟩
    · refine G_cond_t (b := o8433) hc8442 (by kernel_rfl) ?_
      refine G_skip ?_
      refine N_then ?_
      refine G_block ?_
      refine G_region ?_
      refine W_run 3 [(0, .slice p8386 x8384.length c8387), (1, .int .i64 x8390), (5, .int .i64 (w64 (s8420 + 1)))] w8438 (by kernel_rfl) ?_
      refine W_nil ?_
      refine N_block ?_
      obtain rfl := Option.some.inj hm
      exact N_loop fun a ha => ⟨_, rfl, M8439.pick [0] (by kernel_rfl), ha.sub (by kernel_rfl)⟩
    refine G_cond_f (b := o8433) hc8442 (by kernel_rfl) ?_
    refine G_exit ?_
    refine N_then_exit ?_
    refine N_then_exit ?_
    refine N_block_eq ?_
    obtain rfl := Option.some.inj hm
    obtain rfl := hout8422 _ rfl
    exact N_meet fun a ha => ⟨M8439.pick [0] (by kernel_rfl), ha.sub (by kernel_rfl)⟩
  intro a8443 w8444 ⟨M8445, hS8446⟩
  refine N_use hS8446 ?_
  have hm := hmo8429
  refine N_then ?_
  refine G_seq ?_
  refine G_seq ?_
  obtain ⟨o8449, ho8450, hm8451⟩ := gx_bind hm
  refine G_meet (fun a w' => Mem (idsOf [sg8388]) w w' [sg8388] ∧ Sat Try.f87.ntmps [(0, .slice p8386 x8384.length c8387), (1, .int .i64 x8390), (5, .int .i64 out8427), (31, .bool o8449)] a) ?_ ?_
  · have hm := ho8450
    refine G_region ?_
    refine W_run 5 [(0, .slice p8386 x8384.length c8387), (1, .int .i64 x8390), (5, .int .i64 out8427), (24, .bool (decide (out8427 < (x8384.length : Int))))] w8444 (by kernel_rfl) ?_
    rcases gx_bif hm with ⟨hc8452, hm⟩ | ⟨hc8452, hm⟩
    · refine W_known 24 true (by kernel_rfl) hc8452 ?_
      refine W_run 2 [(0, .slice p8386 x8384.length c8387), (1, .int .i64 x8390), (5, .int .i64 out8427), (24, .bool true), (25, .slice p8386 x8384.length c8387), (26, .int .i64 out8427)] w8444 (by kernel_rfl) ?_
      obtain ⟨y8453, hy8453, hm⟩ := gx_bind hm
      refine W_val (elemP p8386 (out8427.toNat * 1)) w8444 (by kernel_rfl) (E_index (E := Gx.encI) _ _ _ x8384.length c8387 .i64 out8427 1 (y := y8453) rfl (by kernel_rfl) (by kernel_rfl) (by kernel_rfl) (ho8389.rd M8445 0 (by kernel_rfl)) rfl hy8453) ?_
      refine W_val (.int .i64 y8453) w8444 (by kernel_rfl) (E_loadE (E := Gx.encI) _ _ false 1 out8427 0 (out8427.toNat * 1) y8453 (.int .i64 y8453) rfl (by kernel_rfl) (by kernel_rfl) (by kernel_rfl) (ho8389.rd M8445 0 (by kernel_rfl)) hy8453 rfl) ?_
      refine W_run 3 [(0, .slice p8386 x8384.length c8387), (1, .int .i64 x8390), (5, .int .i64 out8427), (31, .bool (y8453 == x8390))] w8444 (by kernel_rfl) ?_
      refine W_nil ?_
      obtain rfl := Option.some.inj hm
      exact N_meet fun a ha => ⟨M8445.pick [0] (by kernel_rfl), ha.sub (by kernel_rfl)⟩
    refine W_known 24 false (by kernel_rfl) hc8452 ?_
    refine W_run 7 [(0, .slice p8386 x8384.length c8387), (1, .int .i64 x8390), (5, .int .i64 out8427), (31, .bool false)] w8444 (by kernel_rfl) ?_
    refine W_nil ?_
    obtain rfl := Option.some.inj hm
    exact N_meet fun a ha => ⟨M8445.pick [0] (by kernel_rfl), ha.sub (by kernel_rfl)⟩
  intro a8456 w8454 ⟨M8455, hS8457⟩
  refine N_use hS8457 ?_
  have hm := hm8451
  refine N_then ?_
  rcases gx_bif hm with ⟨hc8458, hm⟩ | ⟨hc8458, hm⟩
  · refine G_cond_t (b := o8449) hc8458 (by kernel_rfl) ?_
    refine G_seq ?_
    refine G_region ?_
    refine W_run 2 [(4, .slice p8386 x8384.length c8387)] w8454 (by kernel_rfl) ?_
    refine W_nil ?_
    refine N_then ?_
    refine G_ret ?_
    refine N_then_ret ?_
    obtain rfl := Option.some.inj hm
    refine N_ret [.slice p8386 x8384.length c8387] (RVs_cons (RV_tmp (by kernel_rfl)) RVs_nil) ?_
    exact ⟨p8386, c8387, sg8388, rfl, ho8389, M8455.pick [0] (by kernel_rfl)⟩
  refine G_cond_f (b := o8449) hc8458 (by kernel_rfl) ?_
  refine G_skip ?_
  refine N_then ?_
  refine G_seq ?_
  obtain ⟨ys8466, hys8466, hm⟩ := gx_bind hm
  obtain ⟨ap8468, hap8468, hm⟩ := gx_bind hm
  obtain ⟨ap8479, hap8479, hm⟩ := gx_bind hm
  obtain ⟨ys8485, hys8485, hm⟩ := gx_bind hm
  refine G_sub [(0, .slice p8386 x8384.length c8387), (1, .int .i64 x8390), (5, .int .i64 out8427), (31, .bool o8449)] (by kernel_rfl) ?_
  refine G_dagL 11 [[], [], [], [1, 2], [0, 3], [], [5], [4, 6], [], [], [8, 9]] [[], [], [], [], [0], [], [], [4], [], [], []] [[], [], [], [], [], [], [], [6], [], [], []] [[], [], [], [], [], [], [], [], [], [], []] [[], [], [], [], [], [], [], [], [], [], []] [[], [], [], [], [], [], [], [], [], [], []] (fun _ => []) (fun i => ([fun f v s => ∃ (p8462 : Option Addr) (c8463 : Nat), v = (.slice p8462 ([] : List Int).length c8463 : Value) ∧ ownS Gx.encI ([] : List Int) p8462 c8463 s, fun f v s => v = (.slice p8386 x8384.length c8387 : Value) ∧ s = [], fun f v s => v = (.int .i64 out8427 : Value) ∧ s = [], fun f v s => v = (.slice (subP p8386 (0 : Int).toNat c8387 1) ys8466.length (c8387 - (0 : Int).toNat) : Value) ∧ s = [], fun f v s => ∃ (p8470 : Option Addr) (c8471 : Nat), v = (.slice p8470 ap8468.length c8471 : Value) ∧ ownS Gx.encI ap8468 p8470 c8471 s, fun f v s => v = (.int .i64 x8390 : Value) ∧ s = [], fun f v s => ∃ (p8475 : Option Addr) (c8476 : Nat), v = (.slice p8475 [x8390].length c8476 : Value) ∧ ownS Gx.encI [x8390] p8475 c8476 s, fun f v s => ∃ (p8481 : Option Addr) (c8482 : Nat), v = (.slice p8481 ap8479.length c8482 : Value) ∧ ownS Gx.encI ap8479 p8481 c8482 s, fun f v s => v = (.slice p8386 x8384.length c8387 : Value) ∧ s = [], fun f v s => v = (.int .i64 out8427 : Value) ∧ s = [], fun f v s => v = (.slice (subP p8386 out8427.toNat c8387 1) ys8485.length (c8387 - out8427.toNat) : Value) ∧ s = []] : List ((Nat → Value) → Value → Seg → Prop)).getD i (fun _ _ _ => False)) (fun j f v => ∃ s, (fun i => ([fun f v s => ∃ (p8462 : Option Addr) (c8463 : Nat), v = (.slice p8462 ([] : List Int).length c8463 : Value) ∧ ownS Gx.encI ([] : List Int) p8462 c8463 s, fun f v s => v = (.slice p8386 x8384.length c8387 : Value) ∧ s = [], fun f v s => v = (.int .i64 out8427 : Value) ∧ s = [], fun f v s => v = (.slice (subP p8386 (0 : Int).toNat c8387 1) ys8466.length (c8387 - (0 : Int).toNat) : Value) ∧ s = [], fun f v s => ∃ (p8470 : Option Addr) (c8471 : Nat), v = (.slice p8470 ap8468.length c8471 : Value) ∧ ownS Gx.encI ap8468 p8470 c8471 s, fun f v s => v = (.int .i64 x8390 : Value) ∧ s = [], fun f v s => ∃ (p8475 : Option Addr) (c8476 : Nat), v = (.slice p8475 [x8390].length c8476 : Value) ∧ ownS Gx.encI [x8390] p8475 c8476 s, fun f v s => ∃ (p8481 : Option Addr) (c8482 : Nat), v = (.slice p8481 ap8479.length c8482 : Value) ∧ ownS Gx.encI ap8479 p8481 c8482 s, fun f v s => v = (.slice p8386 x8384.length c8387 : Value) ∧ s = [], fun f v s => v = (.int .i64 out8427 : Value) ∧ s = [], fun f v s => v = (.slice (subP p8386 out8427.toNat c8387 1) ys8485.length (c8387 - out8427.toNat) : Value) ∧ s = []] : List ((Nat → Value) → Value → Seg → Prop)).getD i (fun _ _ _ => False)) j f v s) [] [6, 7, 10] [6, 7] (fun _ _ _ s h => ⟨s, h⟩) (by kernel_rfl) (by kernel_rfl) (M8455.preNil 11) (by kernel_rfl) (by kernel_rfl) (by kernel_rfl) (by kernel_rfl) (allOb_cons ?_ (allOb_cons ?_ (allOb_cons ?_ (allOb_cons ?_ (allOb_cons ?_ (allOb_cons ?_ (allOb_cons ?_ (allOb_cons ?_ (allOb_cons ?_ (allOb_cons ?_ (allOb_cons ?_ allOb_nil))))))))))) ?_
  · intro g8459 f8460
    intro R w8487 M8488
    refine W_lit (E := Gx.encI) ([] : List Int) 0 [] 3 M8488 (by kernel_rfl) (by kernel_rfl) (by kernel_rfl) (by kernel_rfl) (by kernel_rfl) ?_
    intro p8462 c8463 sg8464 w8489 ho8465 M8490
    exact W_nil (ob_end (.slice p8462 ([] : List Int).length c8463) sg8464 rfl (by kernel_rfl) ⟨p8462, c8463, rfl, ho8465⟩ (Mem.mid M8490))
  · intro g8459 f8460
    intro R w8491 M8492
    refine W_run 1 [(34, .slice p8386 x8384.length c8387)] w8491 (by kernel_rfl) ?_
    exact W_nil (ob_end (.slice p8386 x8384.length c8387) [] rfl (by kernel_rfl) ⟨by kernel_rfl, rfl⟩ M8492)
  · intro g8459 f8460
    intro R w8495 M8496
    refine W_run 1 [(35, .int .i64 out8427)] w8495 (by kernel_rfl) ?_
    exact W_nil (ob_end (.int .i64 out8427) [] rfl (by kernel_rfl) ⟨by kernel_rfl, rfl⟩ M8496)
  · intro g8459 f8460
    intro v1_ hb1_
    obtain ⟨rfl, _⟩ := hb1_
    intro v2_ hb2_
    obtain ⟨rfl, _⟩ := hb2_
    intro R w8499 M8500
    refine W_val (.slice (subP p8386 (0 : Int).toNat c8387 1) ys8466.length (c8387 - (0 : Int).toNat)) w8499 (by kernel_rfl) (E_slice (E := Gx.encI) _ _ _ _ x8384.length 0 out8427 rfl (by kernel_rfl) (Or.inl ⟨rfl, rfl⟩) (Or.inr ⟨_, rfl, by kernel_rfl⟩) (by kernel_rfl) (ho8389.rd M8500 0 (by kernel_rfl)) rfl hys8466) ?_
    exact W_nil (ob_end (.slice (subP p8386 (0 : Int).toNat c8387 1) ys8466.length (c8387 - (0 : Int).toNat)) [] rfl (by kernel_rfl) ⟨by kernel_rfl, rfl⟩ M8500)
  · intro g8459 f8460
    intro v0_ hb0_
    obtain ⟨p8462, c8463, rfl, ho8465⟩ := hb0_
    intro v3_ hb3_
    obtain ⟨rfl, _⟩ := hb3_
    intro R w8503 M8504
    refine W_append (E := Gx.encI) _ _ _ 8 [.int .i64 0] 2 (c8387 - (0 : Int).toNat) M8504 ho8465 (by kernel_rfl) (by kernel_rfl) (by kernel_rfl) rfl (by kernel_rfl) (by kernel_rfl) (by kernel_rfl) (by kernel_rfl) (by kernel_rfl) (by kernel_rfl) ((ho8389.rd M8504 0 (by kernel_rfl)).sliceM hys8466) hap8468 ?_
    intro p8470 c8471 sg8472 w8505 ho8473 M8506
    exact W_nil (ob_end (.slice p8470 ap8468.length c8471) sg8472 rfl (by kernel_rfl) ⟨p8470, c8471, rfl, ho8473⟩ (Mem.takeOver M8506))
  · intro g8459 f8460
    intro R w8507 M8508
    refine W_run 1 [(38, .int .i64 x8390)] w8507 (by kernel_rfl) ?_
    exact W_nil (ob_end (.int .i64 x8390) [] rfl (by kernel_rfl) ⟨by kernel_rfl, rfl⟩ M8508)
  · intro g8459 f8460
    intro v5_ hb5_
    obtain ⟨rfl, _⟩ := hb5_
    intro R w8511 M8512
    refine W_lit (E := Gx.encI) [x8390] 1 [.int .i64 x8390] 3 M8512 (by kernel_rfl) (by kernel_rfl) (by kernel_rfl) (by kernel_rfl) (by kernel_rfl) ?_
    intro p8475 c8476 sg8477 w8513 ho8478 M8514
    exact W_nil (ob_end (.slice p8475 [x8390].length c8476) sg8477 rfl (by kernel_rfl) ⟨p8475, c8476, rfl, ho8478⟩ (Mem.mid M8514))
  · intro g8459 f8460
    intro v4_ hb4_
    obtain ⟨p8470, c8471, rfl, ho8473⟩ := hb4_
    intro v6_ hb6_
    obtain ⟨p8475, c8476, rfl, ho8478⟩ := hb6_
    intro R w8515 M8516
    refine W_append (E := Gx.encI) _ _ _ 8 [.int .i64 0] 2 c8476 M8516 ho8473 (by kernel_rfl) (by kernel_rfl) (by kernel_rfl) rfl (by kernel_rfl) (by kernel_rfl) (by kernel_rfl) (by kernel_rfl) (by kernel_rfl) (by kernel_rfl) (ho8478.rd M8516 3 (by kernel_rfl)) hap8479 ?_
    intro p8481 c8482 sg8483 w8517 ho8484 M8518
    exact W_nil (ob_end (.slice p8481 ap8479.length c8482) sg8483 rfl (by kernel_rfl) ⟨p8481, c8482, rfl, ho8484⟩ (Mem.takeOver M8518))
  · intro g8459 f8460
    intro R w8519 M8520
    refine W_run 1 [(41, .slice p8386 x8384.length c8387)] w8519 (by kernel_rfl) ?_
    exact W_nil (ob_end (.slice p8386 x8384.length c8387) [] rfl (by kernel_rfl) ⟨by kernel_rfl, rfl⟩ M8520)
  · intro g8459 f8460
    intro R w8523 M8524
    refine W_run 1 [(42, .int .i64 out8427)] w8523 (by kernel_rfl) ?_
    exact W_nil (ob_end (.int .i64 out8427) [] rfl (by kernel_rfl) ⟨by kernel_rfl, rfl⟩ M8524)
  · intro g8459 f8460
    intro v8_ hb8_
    obtain ⟨rfl, _⟩ := hb8_
    intro v9_ hb9_
    obtain ⟨rfl, _⟩ := hb9_
    intro R w8527 M8528
    refine W_val (.slice (subP p8386 out8427.toNat c8387 1) ys8485.length (c8387 - out8427.toNat)) w8527 (by kernel_rfl) (E_slice (E := Gx.encI) _ _ _ _ x8384.length out8427 (x8384.length : Int) rfl (by kernel_rfl) (Or.inr ⟨_, rfl, by kernel_rfl⟩) (Or.inl ⟨rfl, rfl⟩) (by kernel_rfl) (ho8389.rd M8528 0 (by kernel_rfl)) rfl hys8485) ?_
    exact W_nil (ob_end (.slice (subP p8386 out8427.toNat c8387 1) ys8485.length (c8387 - out8427.toNat)) [] rfl (by kernel_rfl) ⟨by kernel_rfl, rfl⟩ M8528)
  intro g8459 f8460
  intro v6_ hb6_
  obtain ⟨p8475, c8476, rfl, ho8478⟩ := hb6_
  intro v7_ hb7_
  obtain ⟨p8481, c8482, rfl, ho8484⟩ := hb7_
  intro v10_ hb10_
  obtain ⟨rfl, _⟩ := hb10_
  intro w8531 M8532
  have M8533 : Mem (idsOf [sg8388]) w w8531 [sg8388, (g8459 6), (g8459 7)] := M8532
  obtain ⟨ap8534, hap8534, hm⟩ := gx_bind hm
  refine W_append (E := Gx.encI) _ _ _ 8 [.int .i64 0] 2 (c8387 - out8427.toNat) M8533 ho8484 (by kernel_rfl) (by kernel_rfl) (by kernel_rfl) rfl (by kernel_rfl) (by kernel_rfl) (by kernel_rfl) (by kernel_rfl) (by kernel_rfl) (by kernel_rfl) ((ho8389.rd M8533 0 (by kernel_rfl)).sliceM hys8485) hap8534 ?_
  intro p8535 c8536 sg8537 w8538 ho8539 M8540
  refine W_run 1 [(4, .slice p8535 ap8534.length c8536)] w8538 (by kernel_rfl) ?_
  refine W_nil ?_
  refine N_then ?_
  refine G_ret ?_
  obtain rfl := Option.some.inj hm
  refine N_ret [.slice p8535 ap8534.length c8536] (RVs_cons (RV_tmp (by kernel_rfl)) RVs_nil) ?_
  exact ⟨p8535, c8536, sg8537, rfl, ho8539, M8540.pick [2] (by kernel_rfl)⟩
theorem c_s_l18Step (w : World) (x8200 : List Int) (p8202 : Option Addr) (c8203 : Nat) (h8204 : rdS Gx.encI w x8200 p8202 c8203) (x8205 : List Balloon) (p8207 : Option Addr) (c8208 : Nat) (h8209 : rdD deepBalloon w x8205 p8207 c8208) (x8210 : Int) (x8211 : Int) {r : (List Int) × (List Balloon) × Bool} (hm : M.s_l18Step x8200 x8205 x8210 x8211 = some r) :
    Calls Try.prog 68 #[.slice p8202 x8200.length c8203, .slice p8207 x8205.length c8208, .int .i64 x8210, .int .i64 x8211] w fun e w' => ∃ (p8213 : Option Addr) (c8214 : Nat) (sg8215 : Seg), ∃ (p8217 : Option Addr) (c8218 : Nat) (sg8219 : Seg) (sg8220 : Seg), e = .returned (.tuple #[.slice p8213 r.1.length c8214, .slice p8217 r.2.1.length c8218, .bool r.2.2]) ∧ (r.2.2 = true → ownS Gx.encI r.1 p8213 c8214 sg8215) ∧ (r.2.2 = true → ownD deepBalloon r.2.1 p8217 c8218 sg8219 sg8220) ∧ Mem [] w w' [sg8215, sg8219, sg8220] := by
  unfold M.s_l18Step at hm
  refine C_enter Try.func68 rfl (by kernel_rfl) ?_
  have M0 := Mem.refl [] w
  refine G_seq ?_
  refine G_region ?_
  refine W_run 3 [(0, .slice p8202 x8200.length c8203), (1, .slice p8207 x8205.length c8208), (2, .int .i64 x8210), (3, .int .i64 x8211)] w (by kernel_rfl) ?_
  refine W_nil ?_
  refine N_then ?_
  refine G_seq ?_
  refine G_region ?_
  refine W_run 2 [(0, .slice p8202 x8200.length c8203), (1, .slice p8207 x8205.length c8208), (2, .int .i64 x8210), (3, .int .i64 x8211), (13, .slice p8207 x8205.length c8208), (14, .int .i64 x8210)] w (by kernel_rfl) ?_
  obtain ⟨y8223, hy8223, hm⟩ := gx_bind hm
  obtain ⟨zs8224, hz8225, hr8226, hi8227⟩ := id h8209
  obtain ⟨g8228, hg8229⟩ := gxIdx_fst hz8225 hy8223
  refine W_val (elemP p8207 (x8210.toNat * 3)) w (by kernel_rfl) (E_index (E := deepBalloon.E) _ _ _ x8205.length c8208 .i64 x8210 3 (y := (y8223, g8228)) rfl (by kernel_rfl) (by kernel_rfl) (by kernel_rfl) (hr8226.mem0 M0) (len_fst hz8225) hg8229) ?_
  refine W_val (.agg #[.int .i64 y8223.Guest, .int .i64 y8223.Goal, .slice ((g8228 0).1) y8223.Gave.length ((g8228 0).2)]) w (by kernel_rfl) (E_loadE (E := deepBalloon.E) _ _ true 3 x8210 0 (x8210.toNat * 3) (y8223, g8228) (.agg #[.int .i64 y8223.Guest, .int .i64 y8223.Goal, .slice ((g8228 0).1) y8223.Gave.length ((g8228 0).2)]) rfl (by kernel_rfl) (by kernel_rfl) (by kernel_rfl) (hr8226.mem0 M0) hg8229 rfl) ?_
  refine W_new (fun b => .pointer (some ⟨b, 0, none⟩)) (.cells ⟨[.int .i64 0, .int .i64 0, .slice none 0 0]⟩ 50 (0, 0)) M0 rfl (by kernel_rfl) (by kernel_rfl) ?_
  intro b8233 w8234 M8235
  refine W_store _ _ _ true 3 b8233 0 [.int .i64 0, .int .i64 0, .slice none 0 0] 50 (.agg #[.int .i64 y8223.Guest, .int .i64 y8223.Goal, .slice ((g8228 0).1) y8223.Gave.length ((g8228 0).2)]) 0 [.int .i64 y8223.Guest, .int .i64 y8223.Goal, .slice ((g8228 0).1) y8223.Gave.length ((g8228 0).2)] M8235 (by kernel_rfl) rfl (by kernel_rfl) (by kernel_rfl) (by kernel_rfl) (by kernel_rfl) (by kernel_rfl) (by kernel_rfl) (by kernel_rfl) (by kernel_rfl) ?_
  intro w8236 M8237
  refine W_nil ?_
  refine N_then ?_
  refine G_seq ?_
  refine G_seq ?_
  refine G_region ?_
  refine W_run 2 [(0, .slice p8202 x8200.length c8203), (1, .slice p8207 x8205.length c8208), (2, .int .i64 x8210), (11, .pointer (some ⟨b8233, 0, none⟩)), (18, .bool (decide (x8211 < 0)))] w8236 (by kernel_rfl) ?_
  refine W_nil ?_
  refine N_then ?_
  rcases gx_bif hm with ⟨hc8238, hm⟩ | ⟨hc8238, hm⟩
  · refine G_cond_t (b := (decide (x8211 < 0))) hc8238 (by kernel_rfl) ?_
    refine G_seq ?_
    refine G_seq ?_
    refine G_region ?_
    refine W_run 1 [(0, .slice p8202 x8200.length c8203), (1, .slice p8207 x8205.length c8208), (2, .int .i64 x8210), (11, .pointer (some ⟨b8233, 0, none⟩)), (19, .pointer (some ⟨b8233, 2, none⟩))] w8236 (by kernel_rfl) ?_
    refine W_val (.slice ((g8228 0).1) y8223.Gave.length ((g8228 0).2)) w8236 (by kernel_rfl) (E_load (e := 50) (fr := (0, 0)) _ _ false 1 b8233 2 [.int .i64 y8223.Guest, .int .i64 y8223.Goal, .slice ((g8228 0).1) y8223.Gave.length ((g8228 0).2)] (.slice ((g8228 0).1) y8223.Gave.length ((g8228 0).2)) rfl (by kernel_rfl) (by kernel_rfl) (by kernel_rfl) (M8237.blk 0 (b := b8233) (o := .cells ⟨[.int .i64 y8223.Guest, .int .i64 y8223.Goal, .slice ((g8228 0).1) y8223.Gave.length ((g8228 0).2)]⟩ 50 (0, 0)) (by kernel_rfl))) ?_
    refine W_run 2 [(0, .slice p8202 x8200.length c8203), (1, .slice p8207 x8205.length c8208), (2, .int .i64 x8210), (11, .pointer (some ⟨b8233, 0, none⟩)), (21, .int .i64 (y8223.Gave.length : Int)), (22, .pointer (some ⟨b8233, 1, none⟩))] w8236 (by kernel_rfl) ?_
    refine W_val (.int .i64 y8223.Goal) w8236 (by kernel_rfl) (E_load (e := 50) (fr := (0, 0)) _ _ false 1 b8233 1 [.int .i64 y8223.Guest, .int .i64 y8223.Goal, .slice ((g8228 0).1) y8223.Gave.length ((g8228 0).2)] (.int .i64 y8223.Goal) rfl (by kernel_rfl) (by kernel_rfl) (by kernel_rfl) (M8237.blk 0 (b := b8233) (o := .cells ⟨[.int .i64 y8223.Guest, .int .i64 y8223.Goal, .slice ((g8228 0).1) y8223.Gave.length ((g8228 0).2)]⟩ 50 (0, 0)) (by kernel_rfl))) ?_
    refine W_run 1 [(0, .slice p8202 x8200.length c8203), (1, .slice p8207 x8205.length c8208), (2, .int .i64 x8210), (11, .pointer (some ⟨b8233, 0, none⟩)), (24, .bool (decide ((y8223.Gave.length : Int) ≤ y8223.Goal)))] w8236 (by kernel_rfl) ?_
    refine W_nil ?_
    refine N_then ?_
    rcases gx_bif hm with ⟨hc8239, hm⟩ | ⟨hc8239, hm⟩
    · refine G_cond_t (b := (decide ((y8223.Gave.length : Int) ≤ y8223.Goal))) hc8239 (by kernel_rfl) ?_
      refine G_seq ?_
      refine G_region ?_
      refine W_run 5 [(8, .slice p8202 x8200.length c8203), (9, .slice p8207 x8205.length c8208), (10, .bool false)] w8236 (by kernel_rfl) ?_
      refine W_nil ?_
      refine N_then ?_
      refine G_ret ?_
      refine N_then_ret ?_
      refine N_then_ret ?_
      obtain rfl := Option.some.inj hm
      refine N_ret [.slice p8202 x8200.length c8203, .slice p8207 x8205.length c8208, .bool false] (RVs_cons (RV_tmp (by kernel_rfl)) (RVs_cons (RV_tmp (by kernel_rfl)) (RVs_cons (RV_tmp (by kernel_rfl)) RVs_nil))) ?_
      exact ⟨p8202, c8203, [], p8207, c8208, [], [], rfl, (fun h_ => by cases h_), (fun h_ => by cases h_), M8237.pick [100000, 100001, 100002] (by kernel_rfl)⟩
    refine G_cond_f (b := (decide ((y8223.Gave.length : Int) ≤ y8223.Goal))) hc8239 (by kernel_rfl) ?_
    refine G_skip ?_
    refine N_then ?_
    refine G_seq ?_
    obtain ⟨y8242, hy8242, hm⟩ := gx_bind hm
    obtain ⟨r8243, hr8243, hm⟩ := gx_bind hm
    obtain ⟨ys8249, hys8249, hm⟩ := gx_bind hm
    refine G_sub [(0, .slice p8202 x8200.length c8203), (1, .slice p8207 x8205.length c8208), (2, .int .i64 x8210), (11, .pointer (some ⟨b8233, 0, none⟩)), (24, .bool (decide ((y8223.Gave.length : Int) ≤ y8223.Goal)))] (by kernel_rfl) ?_
    refine G_dagL 15 [[], [], [1], [2], [3], [], [5], [0, 4, 6], [], [], [], [10], [], [12], [13]] [[], [], [], [], [], [], [], [], [], [], [], [], [], [], []] [[], [], [], [], [], [], [], [], [], [], [], [], [], [], []] [[], [], [], [], [], [], [], [], [], [], [], [], [], [], []] [[], [], [], [], [], [], [], [], [], [], [], [], [], [], []] [[], [], [], [], [], [], [], [], [], [], [], [], [], [], []] (fun _ => []) (fun i => ([fun f v s => v = (.slice p8202 x8200.length c8203 : Value) ∧ s = [], fun f v s => v = (.pointer (some ⟨b8233, 2, none⟩) : Value) ∧ s = [], fun f v s => v = (.slice ((g8228 0).1) y8223.Gave.length ((g8228 0).2) : Value) ∧ s = [], fun f v s => v = (elemP ((g8228 0).1) ((0 : Int).toNat * 1) : Value) ∧ s = [], fun f v s => v = (.int .i64 y8242 : Value) ∧ s = [], fun f v s => v = (.pointer (some ⟨b8233, 0, none⟩) : Value) ∧ s = [], fun f v s => v = (.int .i64 y8223.Guest : Value) ∧ s = [], fun f v s => ∃ (p8245 : Option Addr) (c8246 : Nat), v = (.slice p8245 r8243.length c8246 : Value) ∧ ownS Gx.encI r8243 p8245 c8246 s, fun f v s => v = (.slice p8207 x8205.length c8208 : Value) ∧ s = [], fun f v s => v = (.int .i64 x8210 : Value) ∧ s = [], fun f v s => v = (.pointer (some ⟨b8233, 1, none⟩) : Value) ∧ s = [], fun f v s => v = (.int .i64 y8223.Goal : Value) ∧ s = [], fun f v s => v = (.pointer (some ⟨b8233, 2, none⟩) : Value) ∧ s = [], fun f v s => v = (.slice ((g8228 0).1) y8223.Gave.length ((g8228 0).2) : Value) ∧ s = [], fun f v s => v = (.slice (subP ((g8228 0).1) (1 : Int).toNat ((g8228 0).2) 1) ys8249.length (((g8228 0).2) - (1 : Int).toNat) : Value) ∧ s = []] : List ((Nat → Value) → Value → Seg → Prop)).getD i (fun _ _ _ => False)) (fun j f v => ∃ s, (fun i => ([fun f v s => v = (.slice p8202 x8200.length c8203 : Value) ∧ s = [], fun f v s => v = (.pointer (some ⟨b8233, 2, none⟩) : Value) ∧ s = [], fun f v s => v = (.slice ((g8228 0).1) y8223.Gave.length ((g8228 0).2) : Value) ∧ s = [], fun f v s => v = (elemP ((g8228 0).1) ((0 : Int).toNat * 1) : Value) ∧ s = [], fun f v s => v = (.int .i64 y8242 : Value) ∧ s = [], fun f v s => v = (.pointer (some ⟨b8233, 0, none⟩) : Value) ∧ s = [], fun f v s => v = (.int .i64 y8223.Guest : Value) ∧ s = [], fun f v s => ∃ (p8245 : Option Addr) (c8246 : Nat), v = (.slice p8245 r8243.length c8246 : Value) ∧ ownS Gx.encI r8243 p8245 c8246 s, fun f v s => v = (.slice p8207 x8205.length c8208 : Value) ∧ s = [], fun f v s => v = (.int .i64 x8210 : Value) ∧ s = [], fun f v s => v = (.pointer (some ⟨b8233, 1, none⟩) : Value) ∧ s = [], fun f v s => v = (.int .i64 y8223.Goal : Value) ∧ s = [], fun f v s => v = (.pointer (some ⟨b8233, 2, none⟩) : Value) ∧ s = [], fun f v s => v = (.slice ((g8228 0).1) y8223.Gave.length ((g8228 0).2) : Value) ∧ s = [], fun f v s => v = (.slice (subP ((g8228 0).1) (1 : Int).toNat ((g8228 0).2) 1) ys8249.length (((g8228 0).2) - (1 : Int).toNat) : Value) ∧ s = []] : List ((Nat → Value) → Value → Seg → Prop)).getD i (fun _ _ _ => False)) j f v s) [] [7, 8, 9, 11, 14] [7] (fun _ _ _ s h => ⟨s, h⟩) (by kernel_rfl) (by kernel_rfl) (M8237.preNil 15) (by kernel_rfl) (by kernel_rfl) (by kernel_rfl) (by kernel_rfl) (allOb_cons ?_ (allOb_cons ?_ (allOb_cons ?_ (allOb_cons ?_ (allOb_cons ?_ (allOb_cons ?_ (allOb_cons ?_ (allOb_cons ?_ (allOb_cons ?_ (allOb_cons ?_ (allOb_cons ?_ (allOb_cons ?_ (allOb_cons ?_ (allOb_cons ?_ (allOb_cons ?_ allOb_nil))))))))))))))) ?_
    · intro g8240 f8241
      intro R w8251 M8252
      refine W_run 1 [(27, .slice p8202 x8200.length c8203)] w8251 (by kernel_rfl) ?_
      exact W_nil (ob_end (.slice p8202 x8200.length c8203) [] rfl (by kernel_rfl) ⟨by kernel_rfl, rfl⟩ M8252)
    · intro g8240 f8241
      intro R w8255 M8256
      refine W_run 1 [(28, .pointer (some ⟨b8233, 2, none⟩))] w8255 (by kernel_rfl) ?_
      exact W_nil (ob_end (.pointer (some ⟨b8233, 2, none⟩)) [] rfl (by kernel_rfl) ⟨by kernel_rfl, rfl⟩ M8256)
    · intro g8240 f8241
      intro v1_ hb1_
      obtain ⟨rfl, _⟩ := hb1_
      intro R w8259 M8260
      refine W_val (.slice ((g8228 0).1) y8223.Gave.length ((g8228 0).2)) w8259 (by kernel_rfl) (E_load (e := 50) (fr := (0, 0)) _ _ false 1 b8233 2 [.int .i64 y8223.Guest, .int .i64 y8223.Goal, .slice ((g8228 0).1) y8223.Gave.length ((g8228 0).2)] (.slice ((g8228 0).1) y8223.Gave.length ((g8228 0).2)) rfl (by kernel_rfl) (by kernel_rfl) (by kernel_rfl) (M8260.blk 0 (b := b8233) (o := .cells ⟨[.int .i64 y8223.Guest, .int .i64 y8223.Goal, .slice ((g8228 0).1) y8223.Gave.length ((g8228 0).2)]⟩ 50 (0, 0)) (by kernel_rfl))) ?_
      exact W_nil (ob_end (.slice ((g8228 0).1) y8223.Gave.length ((g8228 0).2)) [] rfl (by kernel_rfl) ⟨by kernel_rfl, rfl⟩ M8260)
    · intro g8240 f8241
      intro v2_ hb2_
      obtain ⟨rfl, _⟩ := hb2_
      intro R w8263 M8264
      refine W_val (elemP ((g8228 0).1) ((0 : Int).toNat * 1)) w8263 (by kernel_rfl) (E_index (E := Gx.encI) _ _ _ y8223.Gave.length ((g8228 0).2) .i64 0 1 (y := y8242) rfl (by kernel_rfl) (by kernel_rfl) (by kernel_rfl) ((hi8227.mem0 M8264).at_ hg8229 0 ⟨Int, Gx.encI, y8223.Gave, (g8228 0).1, (g8228 0).2⟩ (by kernel_rfl)) rfl hy8242) ?_
      exact W_nil (ob_end (elemP ((g8228 0).1) ((0 : Int).toNat * 1)) [] rfl (by kernel_rfl) ⟨by kernel_rfl, rfl⟩ M8264)
    · intro g8240 f8241
      intro v3_ hb3_
      obtain ⟨rfl, _⟩ := hb3_
      intro R w8267 M8268
      refine W_val (.int .i64 y8242) w8267 (by kernel_rfl) (E_loadE (E := Gx.encI) _ _ false 1 0 0 ((0 : Int).toNat * 1) y8242 (.int .i64 y8242) rfl (by kernel_rfl) (by kernel_rfl) (by kernel_rfl) ((hi8227.mem0 M8268).at_ hg8229 0 ⟨Int, Gx.encI, y8223.Gave, (g8228 0).1, (g8228 0).2⟩ (by kernel_rfl)) hy8242 rfl) ?_
      exact W_nil (ob_end (.int .i64 y8242) [] rfl (by kernel_rfl) ⟨by kernel_rfl, rfl⟩ M8268)
    · intro g8240 f8241
      intro R w8271 M8272
      refine W_run 1 [(32, .pointer (some ⟨b8233, 0, none⟩))] w8271 (by kernel_rfl) ?_
      exact W_nil (ob_end (.pointer (some ⟨b8233, 0, none⟩)) [] rfl (by kernel_rfl) ⟨by kernel_rfl, rfl⟩ M8272)
    · intro g8240 f8241
      intro v5_ hb5_
      obtain ⟨rfl, _⟩ := hb5_
      intro R w8275 M8276
      refine W_val (.int .i64 y8223.Guest) w8275 (by kernel_rfl) (E_load (e := 50) (fr := (0, 0)) _ _ false 1 b8233 0 [.int .i64 y8223.Guest, .int .i64 y8223.Goal, .slice ((g8228 0).1) y8223.Gave.length ((g8228 0).2)] (.int .i64 y8223.Guest) rfl (by kernel_rfl) (by kernel_rfl) (by kernel_rfl) (M8276.blk 0 (b := b8233) (o := .cells ⟨[.int .i64 y8223.Guest, .int .i64 y8223.Goal, .slice ((g8228 0).1) y8223.Gave.length ((g8228 0).2)]⟩ 50 (0, 0)) (by kernel_rfl))) ?_
      exact W_nil (ob_end (.int .i64 y8223.Guest) [] rfl (by kernel_rfl) ⟨by kernel_rfl, rfl⟩ M8276)
    · intro g8240 f8241
      intro v0_ hb0_
      obtain ⟨rfl, _⟩ := hb0_
      intro v4_ hb4_
      obtain ⟨rfl, _⟩ := hb4_
      intro v6_ hb6_
      obtain ⟨rfl, _⟩ := hb6_
      intro R w8279 M8280
      refine W_call 61 #[.slice p8202 x8200.length c8203, .int .i64 y8242, .int .i64 y8223.Guest] (by kernel_rfl) (by kernel_rfl) ?_
      refine (c_s_l18Owner w8279 x8200 p8202 c8203 (h8204.mem0 M8280) y8242 y8223.Guest hr8243).mono ?_
      rintro e_ w8281 ⟨p8245, c8246, sg8247, rfl, ho8248, K8283⟩
      refine ⟨_, rfl, ?_⟩
      exact W_nil (ob_end (.slice p8245 r8243.length c8246) sg8247 rfl (by kernel_rfl) ⟨p8245, c8246, rfl, ho8248⟩ (Mem.callMid M8280 K8283))
    · intro g8240 f8241
      intro R w8284 M8285
      refine W_run 1 [(35, .slice p8207 x8205.length c8208)] w8284 (by kernel_rfl) ?_
      exact W_nil (ob_end (.slice p8207 x8205.length c8208) [] rfl (by kernel_rfl) ⟨by kernel_rfl, rfl⟩ M8285)
    · intro g8240 f8241
      intro R w8288 M8289
      refine W_run 1 [(36, .int .i64 x8210)] w8288 (by kernel_rfl) ?_
      exact W_nil (ob_end (.int .i64 x8210) [] rfl (by kernel_rfl) ⟨by kernel_rfl, rfl⟩ M8289)
    · intro g8240 f8241
      intro R w8292 M8293
      refine W_run 1 [(37, .pointer (some ⟨b8233, 1, none⟩))] w8292 (by kernel_rfl) ?_
      exact W_nil (ob_end (.pointer (some ⟨b8233, 1, none⟩)) [] rfl (by kernel_rfl) ⟨by kernel_rfl, rfl⟩ M8293)
    · intro g8240 f8241
      intro v10_ hb10_
      obtain ⟨rfl, _⟩ := hb10_
      intro R w8296 M8297
      refine W_val (.int .i64 y8223.Goal) w8296 (by kernel_rfl) (E_load (e := 50) (fr := (0, 0)) _ _ false 1 b8233 1 [.int .i64 y8223.Guest, .int .i64 y8223.Goal, .slice ((g8228 0).1) y8223.Gave.length ((g8228 0).2)] (.int .i64 y8223.Goal) rfl (by kernel_rfl) (by kernel_rfl) (by kernel_rfl) (M8297.blk 0 (b := b8233) (o := .cells ⟨[.int .i64 y8223.Guest, .int .i64 y8223.Goal, .slice ((g8228 0).1) y8223.Gave.length ((g8228 0).2)]⟩ 50 (0, 0)) (by kernel_rfl))) ?_
      exact W_nil (ob_end (.int .i64 y8223.Goal) [] rfl (by kernel_rfl) ⟨by kernel_rfl, rfl⟩ M8297)
    · intro g8240 f8241
      intro R w8300 M8301
      refine W_run 1 [(39, .pointer (some ⟨b8233, 2, none⟩))] w8300 (by kernel_rfl) ?_
      exact W_nil (ob_end (.pointer (some ⟨b8233, 2, none⟩)) [] rfl (by kernel_rfl) ⟨by kernel_rfl, rfl⟩ M8301)
    · intro g8240 f8241
      intro v12_ hb12_
      obtain ⟨rfl, _⟩ := hb12_
      intro R w8304 M8305
      refine W_val (.slice ((g8228 0).1) y8223.Gave.length ((g8228 0).2)) w8304 (by kernel_rfl) (E_load (e := 50) (fr := (0, 0)) _ _ false 1 b8233 2 [.int .i64 y8223.Guest, .int .i64 y8223.Goal, .slice ((g8228 0).1) y8223.Gave.length ((g8228 0).2)] (.slice ((g8228 0).1) y8223.Gave.length ((g8228 0).2)) rfl (by kernel_rfl) (by kernel_rfl) (by kernel_rfl) (M8305.blk 0 (b := b8233) (o := .cells ⟨[.int .i64 y8223.Guest, .int .i64 y8223.Goal, .slice ((g8228 0).1) y8223.Gave.length ((g8228 0).2)]⟩ 50 (0, 0)) (by kernel_rfl))) ?_
      exact W_nil (ob_end (.slice ((g8228 0).1) y8223.Gave.length ((g8228 0).2)) [] rfl (by kernel_rfl) ⟨by kernel_rfl, rfl⟩ M8305)
    · intro g8240 f8241
      intro v13_ hb13_
      obtain ⟨rfl, _⟩ := hb13_
      intro R w8308 M8309
      refine W_val (.slice (subP ((g8228 0).1) (1 : Int).toNat ((g8228 0).2) 1) ys8249.length (((g8228 0).2) - (1 : Int).toNat)) w8308 (by kernel_rfl) (E_slice (E := Gx.encI) _ _ _ _ y8223.Gave.length 1 (y8223.Gave.length : Int) rfl (by kernel_rfl) (Or.inr ⟨_, rfl, by kernel_rfl⟩) (Or.inl ⟨rfl, rfl⟩) (by kernel_rfl) ((hi8227.mem0 M8309).at_ hg8229 0 ⟨Int, Gx.encI, y8223.Gave, (g8228 0).1, (g8228 0).2⟩ (by kernel_rfl)) rfl hys8249) ?_
      exact W_nil (ob_end (.slice (subP ((g8228 0).1) (1 : Int).toNat ((g8228 0).2) 1) ys8249.length (((g8228 0).2) - (1 : Int).toNat)) [] rfl (by kernel_rfl) ⟨by kernel_rfl, rfl⟩ M8309)
    intro g8240 f8241
    intro v7_ hb7_
    obtain ⟨p8245, c8246, rfl, ho8248⟩ := hb7_
    intro v8_ hb8_
    obtain ⟨rfl, _⟩ := hb8_
    intro v9_ hb9_
    obtain ⟨rfl, _⟩ := hb9_
    intro v11_ hb11_
    obtain ⟨rfl, _⟩ := hb11_
    intro v14_ hb14_
    obtain ⟨rfl, _⟩ := hb14_
    intro w8312 M8313
    have M8314 : Mem [] w w8312 [[(b8233, .cells ⟨[.int .i64 y8223.Guest, .int .i64 y8223.Goal, .slice ((g8228 0).1) y8223.Gave.length ((g8228 0).2)]⟩ 50 (0, 0))], (g8240 7)] := M8313
    obtain ⟨r8315, hr8315, hm⟩ := gx_bind hm
    refine W_call 58 #[.slice p8207 x8205.length c8208, .int .i64 x8210, .int .i64 y8223.Goal, .slice (subP ((g8228 0).1) (1 : Int).toNat ((g8228 0).2) 1) ys8249.length (((g8228 0).2) - (1 : Int).toNat)] (by kernel_rfl) (by kernel_rfl) ?_
    refine (c_s_l18With w8312 x8205 p8207 c8208 (h8209.mem0 M8314) x8210 y8223.Goal ys8249 (subP ((g8228 0).1) (1 : Int).toNat ((g8228 0).2) 1) (((g8228 0).2) - (1 : Int).toNat) (((hi8227.mem0 M8314).at_ hg8229 0 ⟨Int, Gx.encI, y8223.Gave, (g8228 0).1, (g8228 0).2⟩ (by kernel_rfl)).sliceM hys8249) hr8315).mono ?_
    rintro e_ w8322 ⟨p8317, c8318, sg8319, sg8320, rfl, ho8321, K8323⟩
    have M8324 := M8314.call K8323
    refine ⟨_, rfl, ?_⟩
    refine W_run 3 [(8, .slice p8245 r8243.length c8246), (9, .slice p8317 r8315.length c8318), (10, .bool true)] w8322 (by kernel_rfl) ?_
    refine W_nil ?_
    refine N_then ?_
    refine G_ret ?_
    refine N_then_ret ?_
    obtain rfl := Option.some.inj hm
    refine N_ret [.slice p8245 r8243.length c8246, .slice p8317 r8315.length c8318, .bool true] (RVs_cons (RV_tmp (by kernel_rfl)) (RVs_cons (RV_tmp (by kernel_rfl)) (RVs_cons (RV_tmp (by kernel_rfl)) RVs_nil))) ?_
    exact ⟨p8245, c8246, (g8240 7), p8317, c8318, sg8319, sg8320, rfl, (fun _ => ho8248), (fun _ => ho8321), M8324.pick [1, 2, 3] (by kernel_rfl)⟩
  refine G_cond_f (b := (decide (x8211 < 0))) hc8238 (by kernel_rfl) ?_
  refine G_skip ?_
  refine N_then ?_
  refine G_seq ?_
  refine G_seq ?_
  obtain ⟨o8330, ho8331, hm8332⟩ := gx_bind hm
  refine G_meet (fun a w' => Mem [] w w' [[(b8233, .cells ⟨[.int .i64 y8223.Guest, .int .i64 y8223.Goal, .slice ((g8228 0).1) y8223.Gave.length ((g8228 0).2)]⟩ 50 (0, 0))]] ∧ Sat Try.f68.ntmps [(0, .slice p8202 x8200.length c8203), (1, .slice p8207 x8205.length c8208), (2, .int .i64 x8210), (11, .pointer (some ⟨b8233, 0, none⟩)), (55, .bool o8330)] a) ?_ ?_
  · have hm := ho8331
    refine G_region ?_
    refine W_run 1 [(0, .slice p8202 x8200.length c8203), (1, .slice p8207 x8205.length c8208), (2, .int .i64 x8210), (11, .pointer (some ⟨b8233, 0, none⟩)), (43, .pointer (some ⟨b8233, 2, none⟩))] w8236 (by kernel_rfl) ?_
    refine W_val (.slice ((g8228 0).1) y8223.Gave.length ((g8228 0).2)) w8236 (by kernel_rfl) (E_load (e := 50) (fr := (0, 0)) _ _ false 1 b8233 2 [.int .i64 y8223.Guest, .int .i64 y8223.Goal, .slice ((g8228 0).1) y8223.Gave.length ((g8228 0).2)] (.slice ((g8228 0).1) y8223.Gave.length ((g8228 0).2)) rfl (by kernel_rfl) (by kernel_rfl) (by kernel_rfl) (M8237.blk 0 (b := b8233) (o := .cells ⟨[.int .i64 y8223.Guest, .int .i64 y8223.Goal, .slice ((g8228 0).1) y8223.Gave.length ((g8228 0).2)]⟩ 50 (0, 0)) (by kernel_rfl))) ?_
    refine W_run 2 [(0, .slice p8202 x8200.length c8203), (1, .slice p8207 x8205.length c8208), (2, .int .i64 x8210), (11, .pointer (some ⟨b8233, 0, none⟩)), (45, .int .i64 (y8223.Gave.length : Int)), (46, .pointer (some ⟨b8233, 1, none⟩))] w8236 (by kernel_rfl) ?_
    refine W_val (.int .i64 y8223.Goal) w8236 (by kernel_rfl) (E_load (e := 50) (fr := (0, 0)) _ _ false 1 b8233 1 [.int .i64 y8223.Guest, .int .i64 y8223.Goal, .slice ((g8228 0).1) y8223.Gave.length ((g8228 0).2)] (.int .i64 y8223.Goal) rfl (by kernel_rfl) (by kernel_rfl) (by kernel_rfl) (M8237.blk 0 (b := b8233) (o := .cells ⟨[.int .i64 y8223.Guest, .int .i64 y8223.Goal, .slice ((g8228 0).1) y8223.Gave.length ((g8228 0).2)]⟩ 50 (0, 0)) (by kernel_rfl))) ?_
    refine W_run 2 [(0, .slice p8202 x8200.length c8203), (1, .slice p8207 x8205.length c8208), (2, .int .i64 x8210), (11, .pointer (some ⟨b8233, 0, none⟩)), (49, .bool (decide ((y8223.Gave.length : Int) ≥ y8223.Goal)))] w8236 (by kernel_rfl) ?_
    rcases gx_bif hm with ⟨hc8333, hm⟩ | ⟨hc8333, hm⟩
    · refine W_known 49 true (by kernel_rfl) hc8333 ?_
      refine W_run 6 [(0, .slice p8202 x8200.length c8203), (1, .slice p8207 x8205.length c8208), (2, .int .i64 x8210), (11, .pointer (some ⟨b8233, 0, none⟩)), (55, .bool true)] w8236 (by kernel_rfl) ?_
      refine W_nil ?_
      obtain rfl := Option.some.inj hm
      exact N_meet fun a ha => ⟨M8237.pick [0] (by kernel_rfl), ha.sub (by kernel_rfl)⟩
    refine W_known 49 false (by kernel_rfl) hc8333 ?_
    refine W_run 2 [(0, .slice p8202 x8200.length c8203), (1, .slice p8207 x8205.length c8208), (2, .int .i64 x8210), (11, .pointer (some ⟨b8233, 0, none⟩)), (49, .bool false), (50, .slice p8202 x8200.length c8203), (51, .pointer (some ⟨b8233, 0, none⟩))] w8236 (by kernel_rfl) ?_
    refine W_val (.int .i64 y8223.Guest) w8236 (by kernel_rfl) (E_load (e := 50) (fr := (0, 0)) _ _ false 1 b8233 0 [.int .i64 y8223.Guest, .int .i64 y8223.Goal, .slice ((g8228 0).1) y8223.Gave.length ((g8228 0).2)] (.int .i64 y8223.Guest) rfl (by kernel_rfl) (by kernel_rfl) (by kernel_rfl) (M8237.blk 0 (b := b8233) (o := .cells ⟨[.int .i64 y8223.Guest, .int .i64 y8223.Goal, .slice ((g8228 0).1) y8223.Gave.length ((g8228 0).2)]⟩ 50 (0, 0)) (by kernel_rfl))) ?_
    obtain ⟨r8334, hr8334, hm⟩ := gx_bind hm
    refine W_call 65 #[.slice p8202 x8200.length c8203, .int .i64 y8223.Guest] (by kernel_rfl) (by kernel_rfl) ?_
    refine (c_s_l18Count w8236 x8200 p8202 c8203 (h8204.mem0 M8237) y8223.Guest hr8334).mono ?_
    rintro e_ w8335 ⟨rfl, K8336⟩
    have M8337 := M8237.call0 K8336
    refine ⟨_, rfl, ?_⟩
    refine W_run 2 [(0, .slice p8202 x8200.length c8203), (1, .slice p8207 x8205.length c8208), (2, .int .i64 x8210), (11, .pointer (some ⟨b8233, 0, none⟩)), (55, .bool (decide (r8334 < 2)))] w8335 (by kernel_rfl) ?_
    refine W_nil ?_
    obtain rfl := Option.some.inj hm
    exact N_meet fun a ha => ⟨M8337.pick [0] (by kernel_rfl), ha.sub (by kernel_rfl)⟩
  intro a8340 w8338 ⟨M8339, hS8341⟩
  refine N_use hS8341 ?_
  have hm := hm8332
  refine N_then ?_
  rcases gx_bif hm with ⟨hc8342, hm⟩ | ⟨hc8342, hm⟩
  · refine G_cond_t (b := o8330) hc8342 (by kernel_rfl) ?_
    refine G_seq ?_
    refine G_region ?_
    refine W_run 5 [(8, .slice p8202 x8200.length c8203), (9, .slice p8207 x8205.length c8208), (10, .bool false)] w8338 (by kernel_rfl) ?_
    refine W_nil ?_
    refine N_then ?_
    refine G_ret ?_
    refine N_then_ret ?_
    obtain rfl := Option.some.inj hm
    refine N_ret [.slice p8202 x8200.length c8203, .slice p8207 x8205.length c8208, .bool false] (RVs_cons (RV_tmp (by kernel_rfl)) (RVs_cons (RV_tmp (by kernel_rfl)) (RVs_cons (RV_tmp (by kernel_rfl)) RVs_nil))) ?_
    exact ⟨p8202, c8203, [], p8207, c8208, [], [], rfl, (fun h_ => by cases h_), (fun h_ => by cases h_), M8339.pick [100000, 100001, 100002] (by kernel_rfl)⟩
  refine G_cond_f (b := o8330) hc8342 (by kernel_rfl) ?_
  refine G_skip ?_
  refine N_then ?_
  refine G_seq ?_
  refine G_region ?_
  refine W_run 4 [(0, .slice p8202 x8200.length c8203), (1, .slice p8207 x8205.length c8208), (2, .int .i64 x8210), (11, .pointer (some ⟨b8233, 0, none⟩)), (12, .int .i64 (w64 ((x8200.length : Int) - 1)))] w8338 (by kernel_rfl) ?_
  refine W_nil ?_
  refine N_then ?_
  refine G_seq ?_
  obtain ⟨out8358, hw8359, hmo8360⟩ := gx_bind hm
  refine G_meet (fun a w' => Mem [] w w' [[(b8233, .cells ⟨[.int .i64 y8223.Guest, .int .i64 y8223.Goal, .slice ((g8228 0).1) y8223.Gave.length ((g8228 0).2)]⟩ 50 (0, 0))]] ∧ Sat Try.f68.ntmps [(0, .slice p8202 x8200.length c8203), (1, .slice p8207 x8205.length c8208), (2, .int .i64 x8210), (11, .pointer (some ⟨b8233, 0, none⟩)), (12, .int .i64 out8358)] a) ?_ ?_
  · refine G_block ?_
    refine G_while (σ := Int) (ρ := Int) (fun s8351 a w' => Mem [] w w' [[(b8233, .cells ⟨[.int .i64 y8223.Guest, .int .i64 y8223.Goal, .slice ((g8228 0).1) y8223.Gave.length ((g8228 0).2)]⟩ 50 (0, 0))]] ∧ Sat Try.f68.ntmps [(0, .slice p8202 x8200.length c8203), (1, .slice p8207 x8205.length c8208), (2, .int .i64 x8210), (11, .pointer (some ⟨b8233, 0, none⟩)), (12, .int .i64 s8351)] a) hw8359 (fun a ha => ⟨M8339.pick [0] (by kernel_rfl), ha.sub (by kernel_rfl)⟩) ?_
    clear hm
    intro s8351 x8352 hm hout8353 a8354 w8355 ⟨M8356, hS8357⟩
    refine G_use hS8357 ?_
    refine G_seq ?_
    refine G_seq ?_
    refine G_quiet (by kernel_rfl) (by kernel_rfl) M8356 ?_
    refine Z_runs [.slice p8202 x8200.length c8203, .int .i64 s8351] [(0, .slice p8202 x8200.length c8203), (1, .slice p8207 x8205.length c8208), (2, .int .i64 x8210), (11, .pointer (some ⟨b8233, 0, none⟩)), (12, .int .i64 s8351), (61, .slice p8202 x8200.length c8203), (62, .int .i64 s8351)] (fun w_ => by kernel_rfl) (by kernel_rfl) ?_
    obtain ⟨y8362, hy8362, hm⟩ := gx_bind hm
    refine Z_val (elemP p8202 (s8351.toNat * 1)) (by kernel_rfl) (fun w_ M_ => (E_index (E := Gx.encI) _ _ _ x8200.length c8203 .i64 s8351 1 (y := y8362) rfl (by kernel_rfl) (by kernel_rfl) (by kernel_rfl) (h8204.mem0 M_) rfl hy8362)) ?_
    refine Z_val (.int .i64 y8362) (by kernel_rfl) (fun w_ M_ => (E_loadE (E := Gx.encI) _ _ false 1 s8351 0 (s8351.toNat * 1) y8362 (.int .i64 y8362) rfl (by kernel_rfl) (by kernel_rfl) (by kernel_rfl) (h8204.mem0 M_) hy8362 rfl)) ?_
    refine Z_runs [.pointer (some ⟨b8233, 0, none⟩)] [(0, .slice p8202 x8200.length c8203), (1, .slice p8207 x8205.length c8208), (2, .int .i64 x8210), (11, .pointer (some ⟨b8233, 0, none⟩)), (12, .int .i64 s8351), (64, .int .i64 y8362), (65, .pointer (some ⟨b8233, 0, none⟩))] (fun w_ => by kernel_rfl) (by kernel_rfl) ?_
    refine Z_val (.int .i64 y8223.Guest) (by kernel_rfl) (fun w_ M_ => (E_load (e := 50) (fr := (0, 0)) _ _ false 1 b8233 0 [.int .i64 y8223.Guest, .int .i64 y8223.Goal, .slice ((g8228 0).1) y8223.Gave.length ((g8228 0).2)] (.int .i64 y8223.Guest) rfl (by kernel_rfl) (by kernel_rfl) (by kernel_rfl) (M_.blk 0 (b := b8233) (o := .cells ⟨[.int .i64 y8223.Guest, .int .i64 y8223.Goal, .slice ((g8228 0).1) y8223.Gave.length ((g8228 0).2)]⟩ 50 (0, 0)) (by kernel_rfl)))) ?_
    refine Z_runs [.bool (y8362 != y8223.Guest)] [(0, .slice p8202 x8200.length c8203), (1, .slice p8207 x8205.length c8208), (2, .int .i64 x8210), (11, .pointer (some ⟨b8233, 0, none⟩)), (12, .int .i64 s8351), (67, .bool (y8362 != y8223.Guest))] (fun w_ => by kernel_rfl) (by kernel_rfl) ?_
    refine Z_end fun w8363 M8364 => ?_
    refine N_then ?_
    rcases gx_bif hm with ⟨hc8365, hm⟩ | ⟨hc8365, hm⟩
    · refine G_cond_t (b := (y8362 != y8223.Guest)) hc8365 (by kernel_rfl) ?_
      refine G_skip ?_
      refine N_then ?_
      refine G_block ?_
      refine G_region ?_
      refine W_run 3 [(0, .slice p8202 x8200.length c8203), (1, .slice p8207 x8205.length c8208), (2, .int .i64 x8210), (11, .pointer (some ⟨b8233, 0, none⟩)), (12, .int .i64 (w64 (s8351 - 1)))] w8363 (by kernel_rfl) ?_
      refine W_nil ?_
      refine N_block ?_
      obtain rfl := Option.some.inj hm
      exact N_loop fun a ha => ⟨_, rfl, M8364.pick [0] (by kernel_rfl), ha.sub (by kernel_rfl)⟩
    refine G_cond_f (b := (y8362 != y8223.Guest)) hc8365 (by kernel_rfl) ?_
    refine G_exit ?_
    refine N_then_exit ?_
    refine N_then_exit ?_
    refine N_block_eq ?_
    obtain rfl := Option.some.inj hm
    obtain rfl := hout8353 _ rfl
    exact N_meet fun a ha => ⟨M8364.pick [0] (by kernel_rfl), ha.sub (by kernel_rfl)⟩
  intro a8366 w8367 ⟨M8368, hS8369⟩
  refine N_use hS8369 ?_
  have hm := hmo8360
  refine N_then ?_
  refine G_seq ?_
  obtain ⟨r8372, hr8372, hm⟩ := gx_bind hm
  obtain ⟨r8378, hr8378, hm⟩ := gx_bind hm
  obtain ⟨r8542, hr8542, hm⟩ := gx_bind hm
  refine G_sub [(0, .slice p8202 x8200.length c8203), (1, .slice p8207 x8205.length c8208), (2, .int .i64 x8210), (11, .pointer (some ⟨b8233, 0, none⟩)), (12, .int .i64 out8358)] (by kernel_rfl) ?_
  refine G_dagL 12 [[], [], [0, 1], [], [], [], [5], [], [7], [8], [], [9, 10]] [[], [], [], [], [], [], [], [], [], [], [], [9]] [[], [], [], [], [], [], [], [], [], [], [], []] [[], [], [], [], [], [], [], [], [], [], [], []] [[], [], [], [], [], [], [], [], [], [], [], []] [[], [], [], [], [], [], [], [], [], [], [], []] (fun _ => []) (fun i => ([fun f v s => v = (.slice p8202 x8200.length c8203 : Value) ∧ s = [], fun f v s => v = (.int .i64 out8358 : Value) ∧ s = [], fun f v s => ∃ (p8374 : Option Addr) (c8375 : Nat), v = (.slice p8374 r8372.length c8375 : Value) ∧ ownS Gx.encI r8372 p8374 c8375 s, fun f v s => v = (.slice p8207 x8205.length c8208 : Value) ∧ s = [], fun f v s => v = (.int .i64 x8210 : Value) ∧ s = [], fun f v s => v = (.pointer (some ⟨b8233, 1, none⟩) : Value) ∧ s = [], fun f v s => v = (.int .i64 y8223.Goal : Value) ∧ s = [], fun f v s => v = (.pointer (some ⟨b8233, 2, none⟩) : Value) ∧ s = [], fun f v s => v = (.slice ((g8228 0).1) y8223.Gave.length ((g8228 0).2) : Value) ∧ s = [], fun f v s => ∃ (p8380 : Option Addr) (c8381 : Nat), v = (.slice p8380 r8378.length c8381 : Value) ∧ ownS Gx.encI r8378 p8380 c8381 s, fun f v s => v = (.int .i64 out8358 : Value) ∧ s = [], fun f v s => ∃ (p8544 : Option Addr) (c8545 : Nat), v = (.slice p8544 r8542.length c8545 : Value) ∧ ownS Gx.encI r8542 p8544 c8545 s] : List ((Nat → Value) → Value → Seg → Prop)).getD i (fun _ _ _ => False)) (fun j f v => ∃ s, (fun i => ([fun f v s => v = (.slice p8202 x8200.length c8203 : Value) ∧ s = [], fun f v s => v = (.int .i64 out8358 : Value) ∧ s = [], fun f v s => ∃ (p8374 : Option Addr) (c8375 : Nat), v = (.slice p8374 r8372.length c8375 : Value) ∧ ownS Gx.encI r8372 p8374 c8375 s, fun f v s => v = (.slice p8207 x8205.length c8208 : Value) ∧ s = [], fun f v s => v = (.int .i64 x8210 : Value) ∧ s = [], fun f v s => v = (.pointer (some ⟨b8233, 1, none⟩) : Value) ∧ s = [], fun f v s => v = (.int .i64 y8223.Goal : Value) ∧ s = [], fun f v s => v = (.pointer (some ⟨b8233, 2, none⟩) : Value) ∧ s = [], fun f v s => v = (.slice ((g8228 0).1) y8223.Gave.length ((g8228 0).2) : Value) ∧ s = [], fun f v s => ∃ (p8380 : Option Addr) (c8381 : Nat), v = (.slice p8380 r8378.length c8381 : Value) ∧ ownS Gx.encI r8378 p8380 c8381 s, fun f v s => v = (.int .i64 out8358 : Value) ∧ s = [], fun f v s => ∃ (p8544 : Option Addr) (c8545 : Nat), v = (.slice p8544 r8542.length c8545 : Value) ∧ ownS Gx.encI r8542 p8544 c8545 s] : List ((Nat → Value) → Value → Seg → Prop)).getD i (fun _ _ _ => False)) j f v s) [] [2, 3, 4, 6, 11] [2, 11] (fun _ _ _ s h => ⟨s, h⟩) (by kernel_rfl) (by kernel_rfl) (M8368.preNil 12) (by kernel_rfl) (by kernel_rfl) (by kernel_rfl) (by kernel_rfl) (allOb_cons ?_ (allOb_cons ?_ (allOb_cons ?_ (allOb_cons ?_ (allOb_cons ?_ (allOb_cons ?_ (allOb_cons ?_ (allOb_cons ?_ (allOb_cons ?_ (allOb_cons ?_ (allOb_cons ?_ (allOb_cons ?_ allOb_nil)))))))))))) ?_
  · intro g8370 f8371
    intro R w8548 M8549
    refine W_run 1 [(70, .slice p8202 x8200.length c8203)] w8548 (by kernel_rfl) ?_
    exact W_nil (ob_end (.slice p8202 x8200.length c8203) [] rfl (by kernel_rfl) ⟨by kernel_rfl, rfl⟩ M8549)
  · intro g8370 f8371
    intro R w8552 M8553
    refine W_run 1 [(71, .int .i64 out8358)] w8552 (by kernel_rfl) ?_
    exact W_nil (ob_end (.int .i64 out8358) [] rfl (by kernel_rfl) ⟨by kernel_rfl, rfl⟩ M8553)
  · intro g8370 f8371
    intro v0_ hb0_
    obtain ⟨rfl, _⟩ := hb0_
    intro v1_ hb1_
    obtain ⟨rfl, _⟩ := hb1_
    intro R w8556 M8557
    refine W_call 61 #[.slice p8202 x8200.length c8203, .int .i64 out8358, .int .i64 0] (by kernel_rfl) (by kernel_rfl) ?_
    refine (c_s_l18Owner w8556 x8200 p8202 c8203 (h8204.mem0 M8557) out8358 0 hr8372).mono ?_
    rintro e_ w8558 ⟨p8374, c8375, sg8376, rfl, ho8377, K8560⟩
    refine ⟨_, rfl, ?_⟩
    exact W_nil (ob_end (.slice p8374 r8372.length c8375) sg8376 rfl (by kernel_rfl) ⟨p8374, c8375, rfl, ho8377⟩ (Mem.callMid M8557 K8560))
  · intro g8370 f8371
    intro R w8561 M8562
    refine W_run 1 [(73, .slice p8207 x8205.length c8208)] w8561 (by kernel_rfl) ?_
    exact W_nil (ob_end (.slice p8207 x8205.length c8208) [] rfl (by kernel_rfl) ⟨by kernel_rfl, rfl⟩ M8562)
  · intro g8370 f8371
    intro R w8565 M8566
    refine W_run 1 [(74, .int .i64 x8210)] w8565 (by kernel_rfl) ?_
    exact W_nil (ob_end (.int .i64 x8210) [] rfl (by kernel_rfl) ⟨by kernel_rfl, rfl⟩ M8566)
  · intro g8370 f8371
    intro R w8569 M8570
    refine W_run 1 [(75, .pointer (some ⟨b8233, 1, none⟩))] w8569 (by kernel_rfl) ?_
    exact W_nil (ob_end (.pointer (some ⟨b8233, 1, none⟩)) [] rfl (by kernel_rfl) ⟨by kernel_rfl, rfl⟩ M8570)
  · intro g8370 f8371
    intro v5_ hb5_
    obtain ⟨rfl, _⟩ := hb5_
    intro R w8573 M8574
    refine W_val (.int .i64 y8223.Goal) w8573 (by kernel_rfl) (E_load (e := 50) (fr := (0, 0)) _ _ false 1 b8233 1 [.int .i64 y8223.Guest, .int .i64 y8223.Goal, .slice ((g8228 0).1) y8223.Gave.length ((g8228 0).2)] (.int .i64 y8223.Goal) rfl (by kernel_rfl) (by kernel_rfl) (by kernel_rfl) (M8574.blk 0 (b := b8233) (o := .cells ⟨[.int .i64 y8223.Guest, .int .i64 y8223.Goal, .slice ((g8228 0).1) y8223.Gave.length ((g8228 0).2)]⟩ 50 (0, 0)) (by kernel_rfl))) ?_
    exact W_nil (ob_end (.int .i64 y8223.Goal) [] rfl (by kernel_rfl) ⟨by kernel_rfl, rfl⟩ M8574)
  · intro g8370 f8371
    intro R w8577 M8578
    refine W_run 1 [(77, .pointer (some ⟨b8233, 2, none⟩))] w8577 (by kernel_rfl) ?_
    exact W_nil (ob_end (.pointer (some ⟨b8233, 2, none⟩)) [] rfl (by kernel_rfl) ⟨by kernel_rfl, rfl⟩ M8578)
  · intro g8370 f8371
    intro v7_ hb7_
    obtain ⟨rfl, _⟩ := hb7_
    intro R w8581 M8582
    refine W_val (.slice ((g8228 0).1) y8223.Gave.length ((g8228 0).2)) w8581 (by kernel_rfl) (E_load (e := 50) (fr := (0, 0)) _ _ false 1 b8233 2 [.int .i64 y8223.Guest, .int .i64 y8223.Goal, .slice ((g8228 0).1) y8223.Gave.length ((g8228 0).2)] (.slice ((g8228 0).1) y8223.Gave.length ((g8228 0).2)) rfl (by kernel_rfl) (by kernel_rfl) (by kernel_rfl) (M8582.blk 0 (b := b8233) (o := .cells ⟨[.int .i64 y8223.Guest, .int .i64 y8223.Goal, .slice ((g8228 0).1) y8223.Gave.length ((g8228 0).2)]⟩ 50 (0, 0)) (by kernel_rfl))) ?_
    exact W_nil (ob_end (.slice ((g8228 0).1) y8223.Gave.length ((g8228 0).2)) [] rfl (by kernel_rfl) ⟨by kernel_rfl, rfl⟩ M8582)
  · intro g8370 f8371
    intro v8_ hb8_
    obtain ⟨rfl, _⟩ := hb8_
    intro R w8585 M8586
    refine W_call 71 #[.slice ((g8228 0).1) y8223.Gave.length ((g8228 0).2)] (by kernel_rfl) (by kernel_rfl) ?_
    refine (c_s_l1Own w8585 y8223.Gave ((g8228 0).1) ((g8228 0).2) ((hi8227.mem0 M8586).at_ hg8229 0 ⟨Int, Gx.encI, y8223.Gave, (g8228 0).1, (g8228 0).2⟩ (by kernel_rfl)) hr8378).mono ?_
    rintro e_ w8587 ⟨p8380, c8381, sg8382, rfl, ho8383, K8589⟩
    refine ⟨_, rfl, ?_⟩
    exact W_nil (ob_end (.slice p8380 r8378.length c8381) sg8382 rfl (by kernel_rfl) ⟨p8380, c8381, rfl, ho8383⟩ (Mem.callMid M8586 K8589))
  · intro g8370 f8371
    intro R w8590 M8591
    refine W_run 1 [(80, .int .i64 out8358)] w8590 (by kernel_rfl) ?_
    exact W_nil (ob_end (.int .i64 out8358) [] rfl (by kernel_rfl) ⟨by kernel_rfl, rfl⟩ M8591)
  · intro g8370 f8371
    intro v9_ hb9_
    obtain ⟨p8380, c8381, rfl, ho8383⟩ := hb9_
    intro v10_ hb10_
    obtain ⟨rfl, _⟩ := hb10_
    intro R w8594 M8595
    have M8598 := Mem.takeOver M8595
    refine W_call 87 #[.slice p8380 r8378.length c8381, .int .i64 out8358] (by kernel_rfl) (by kernel_rfl) ?_
    refine (c_s_l1Put w8594 r8378 p8380 c8381 (g8370 9) ho8383 out8358 (M8598.hasPick [1]) (M8598.nodupPick [1] (by kernel_rfl)) hr8542).mono ?_
    rintro e_ w8596 ⟨p8544, c8545, sg8546, rfl, ho8547, K8599⟩
    refine ⟨_, rfl, ?_⟩
    exact W_nil (ob_end (.slice p8544 r8542.length c8545) sg8546 rfl (by kernel_rfl) ⟨p8544, c8545, rfl, ho8547⟩ (Mem.callMidF M8598 K8599))
  intro g8370 f8371
  intro v2_ hb2_
  obtain ⟨p8374, c8375, rfl, ho8377⟩ := hb2_
  intro v3_ hb3_
  obtain ⟨rfl, _⟩ := hb3_
  intro v4_ hb4_
  obtain ⟨rfl, _⟩ := hb4_
  intro v6_ hb6_
  obtain ⟨rfl, _⟩ := hb6_
  intro v11_ hb11_
  obtain ⟨p8544, c8545, rfl, ho8547⟩ := hb11_
  intro w8600 M8601
  have M8602 : Mem [] w w8600 [[(b8233, .cells ⟨[.int .i64 y8223.Guest, .int .i64 y8223.Goal, .slice ((g8228 0).1) y8223.Gave.length ((g8228 0).2)]⟩ 50 (0, 0))], (g8370 2), (g8370 11)] := M8601
  obtain ⟨r8603, hr8603, hm⟩ := gx_bind hm
  refine W_call 58 #[.slice p8207 x8205.length c8208, .int .i64 x8210, .int .i64 y8223.Goal, .slice p8544 r8542.length c8545] (by kernel_rfl) (by kernel_rfl) ?_
  refine (c_s_l18With w8600 x8205 p8207 c8208 (h8209.mem0 M8602) x8210 y8223.Goal r8542 p8544 c8545 (ho8547.rd M8602 2 (by kernel_rfl)) hr8603).mono ?_
  rintro e_ w8610 ⟨p8605, c8606, sg8607, sg8608, rfl, ho8609, K8611⟩
  have M8612 := M8602.call K8611
  refine ⟨_, rfl, ?_⟩
  refine W_run 3 [(8, .slice p8374 r8372.length c8375), (9, .slice p8605 r8603.length c8606), (10, .bool true)] w8610 (by kernel_rfl) ?_
  refine W_nil ?_
  refine N_then ?_
  refine G_ret ?_
  obtain rfl := Option.some.inj hm
  refine N_ret [.slice p8374 r8372.length c8375, .slice p8605 r8603.length c8606, .bool true] (RVs_cons (RV_tmp (by kernel_rfl)) (RVs_cons (RV_tmp (by kernel_rfl)) (RVs_cons (RV_tmp (by kernel_rfl)) RVs_nil))) ?_
  exact ⟨p8374, c8375, (g8370 2), p8605, c8606, sg8607, sg8608, rfl, (fun _ => ho8377), (fun _ => ho8609), M8612.pick [1, 3, 4] (by kernel_rfl)⟩
theorem c_s_Deflate (w : World) (x8116 : List Int) (p8118 : Option Addr) (c8119 : Nat) (h8120 : rdS Gx.encI w x8116 p8118 c8119) (x8121 : List Balloon) (p8123 : Option Addr) (c8124 : Nat) (h8125 : rdD deepBalloon w x8121 p8123 c8124) (x8126 : Int) {r : (List Int) × (List Balloon) × Bool} (hm : M.s_Deflate x8116 x8121 x8126 = some r) :
    Calls Try.prog 32 #[.slice p8118 x8116.length c8119, .slice p8123 x8121.length c8124, .int .i64 x8126] w fun e w' => ∃ (p8128 : Option Addr) (c8129 : Nat) (sg8130 : Seg), ∃ (p8132 : Option Addr) (c8133 : Nat) (sg8134 : Seg) (sg8135 : Seg), e = .returned (.tuple #[.slice p8128 r.1.length c8129, .slice p8132 r.2.1.length c8133, .bool r.2.2]) ∧ ownS Gx.encI r.1 p8128 c8129 sg8130 ∧ ownD deepBalloon r.2.1 p8132 c8133 sg8134 sg8135 ∧ Mem [] w w' [sg8130, sg8134, sg8135] := by
  unfold M.s_Deflate at hm
  refine C_enter Try.func32 rfl (by kernel_rfl) ?_
  have M0 := Mem.refl [] w
  refine G_seq ?_
  refine G_region ?_
  refine W_run 3 [(0, .slice p8118 x8116.length c8119), (1, .slice p8123 x8121.length c8124), (2, .int .i64 x8126)] w (by kernel_rfl) ?_
  refine W_nil ?_
  refine N_then ?_
  refine G_seq ?_
  refine G_region ?_
  refine W_run 2 [(0, .slice p8118 x8116.length c8119), (1, .slice p8123 x8121.length c8124), (13, .slice p8123 x8121.length c8124), (14, .int .i64 x8126)] w (by kernel_rfl) ?_
  obtain ⟨r8138, hr8138, hm⟩ := gx_bind hm
  refine W_call 56 #[.slice p8123 x8121.length c8124, .int .i64 x8126] (by kernel_rfl) (by kernel_rfl) ?_
  refine (c_s_l18Find w x8121 p8123 c8124 (h8125.mem0 M0) x8126 hr8138).mono ?_
  rintro e_ w8139 ⟨rfl, K8140⟩
  have M8141 := M0.call0 K8140
  refine ⟨_, rfl, ?_⟩
  refine W_run 1 [(0, .slice p8118 x8116.length c8119), (1, .slice p8123 x8121.length c8124), (9, .int .i64 r8138)] w8139 (by kernel_rfl) ?_
  refine W_nil ?_
  refine N_then ?_
  refine G_seq ?_
  refine G_seq ?_
  obtain ⟨o8147, ho8148, hm8149⟩ := gx_bind hm
  refine G_meet (fun a w' => Mem [] w w' [] ∧ Sat Try.f32.ntmps [(0, .slice p8118 x8116.length c8119), (1, .slice p8123 x8121.length c8124), (9, .int .i64 r8138), (22, .bool o8147)] a) ?_ ?_
  · have hm := ho8148
    refine G_region ?_
    refine W_run 2 [(0, .slice p8118 x8116.length c8119), (1, .slice p8123 x8121.length c8124), (9, .int .i64 r8138), (16, .slice p8118 x8116.length c8119), (17, .slice p8123 x8121.length c8124)] w8139 (by kernel_rfl) ?_
    obtain ⟨r8150, hr8150, hm⟩ := gx_bind hm
    refine W_call 47 #[.slice p8118 x8116.length c8119, .slice p8123 x8121.length c8124] (by kernel_rfl) (by kernel_rfl) ?_
    refine (c_s_l18Good w8139 x8116 p8118 c8119 (h8120.mem0 M8141) x8121 p8123 c8124 (h8125.mem0 M8141) hr8150).mono ?_
    rintro e_ w8151 ⟨rfl, K8152⟩
    have M8153 := M8141.call0 K8152
    refine ⟨_, rfl, ?_⟩
    refine W_run 1 [(0, .slice p8118 x8116.length c8119), (1, .slice p8123 x8121.length c8124), (9, .int .i64 r8138), (19, .bool r8150)] w8151 (by kernel_rfl) ?_
    rcases gx_bif hm with ⟨hc8154, hm⟩ | ⟨hc8154, hm⟩
    · refine W_known 19 true (by kernel_rfl) hc8154 ?_
      refine W_run 3 [(0, .slice p8118 x8116.length c8119), (1, .slice p8123 x8121.length c8124), (9, .int .i64 r8138), (22, .bool (decide (r8138 ≥ 0)))] w8151 (by kernel_rfl) ?_
      refine W_nil ?_
      obtain rfl := Option.some.inj hm
      exact N_meet fun a ha => ⟨M8153.pick [] (by kernel_rfl), ha.sub (by kernel_rfl)⟩
    refine W_known 19 false (by kernel_rfl) hc8154 ?_
    refine W_run 3 [(0, .slice p8118 x8116.length c8119), (1, .slice p8123 x8121.length c8124), (9, .int .i64 r8138), (22, .bool false)] w8151 (by kernel_rfl) ?_
    refine W_nil ?_
    obtain rfl := Option.some.inj hm
    exact N_meet fun a ha => ⟨M8153.pick [] (by kernel_rfl), ha.sub (by kernel_rfl)⟩
  intro a8157 w8155 ⟨M8156, hS8158⟩
  refine N_use hS8158 ?_
  have hm := hm8149
  refine N_then ?_
  obtain ⟨out8632, ho8630, hm8631⟩ := gx_bind hm
  refine G_meet (fun a w' => ∃ (o8629 : Unit), out8632 = .inl o8629 ∧ Mem [] w w' [] ∧ Sat Try.f32.ntmps [] a) ?_ ?_
  · have hm := ho8630
    rcases gx_bif hm with ⟨hc8633, hm⟩ | ⟨hc8633, hm⟩
    · refine G_cond_t (b := o8147) hc8633 (by kernel_rfl) ?_
      refine G_seq ?_
      refine G_region ?_
      refine W_run 3 [(24, .slice p8118 x8116.length c8119), (25, .slice p8123 x8121.length c8124), (26, .int .i64 r8138)] w8155 (by kernel_rfl) ?_
      obtain ⟨r8634, hr8634, hm⟩ := gx_bind hm
      refine W_call 68 #[.slice p8118 x8116.length c8119, .slice p8123 x8121.length c8124, .int .i64 r8138, .int .i64 (-1)] (by kernel_rfl) (by kernel_rfl) ?_
      refine (c_s_l18Step w8155 x8116 p8118 c8119 (h8120.mem0 M8156) x8121 p8123 c8124 (h8125.mem0 M8156) r8138 (-1) hr8634).mono ?_
      rintro e_ w8646 ⟨p8636, c8637, sg8638, p8641, c8642, sg8643, sg8644, rfl, ho8639, ho8645, K8647⟩
      have M8648 := M8156.call K8647
      refine ⟨_, rfl, ?_⟩
      refine W_run 7 [(10, .slice p8636 r8634.1.length c8637), (11, .slice p8641 r8634.2.1.length c8642), (12, .bool r8634.2.2)] w8646 (by kernel_rfl) ?_
      refine W_nil ?_
      refine N_then ?_
      refine G_seq ?_
      refine G_region ?_
      refine W_run 1 [(10, .slice p8636 r8634.1.length c8637), (11, .slice p8641 r8634.2.1.length c8642), (31, .bool r8634.2.2)] w8646 (by kernel_rfl) ?_
      refine W_nil ?_
      refine N_then ?_
      rcases gx_bif hm with ⟨hc8649, hm⟩ | ⟨hc8649, hm⟩
      · refine G_cond_t (b := r8634.2.2) hc8649 (by kernel_rfl) ?_
        refine G_seq ?_
        refine G_region ?_
        refine W_run 5 [(6, .slice p8636 r8634.1.length c8637), (7, .slice p8641 r8634.2.1.length c8642), (8, .bool true)] w8646 (by kernel_rfl) ?_
        refine W_nil ?_
        refine N_then ?_
        refine G_ret ?_
        refine N_meet_ret ?_
        obtain rfl := Option.some.inj hm
        have hm := hm8631
        simp only [Sum.elim_inr] at hm
        refine N_then_ret ?_
        obtain rfl := Option.some.inj hm
        refine N_ret [.slice p8636 r8634.1.length c8637, .slice p8641 r8634.2.1.length c8642, .bool true] (RVs_cons (RV_tmp (by kernel_rfl)) (RVs_cons (RV_tmp (by kernel_rfl)) (RVs_cons (RV_tmp (by kernel_rfl)) RVs_nil))) ?_
        exact ⟨p8636, c8637, sg8638, p8641, c8642, sg8643, sg8644, rfl, (ho8639 hc8649), (ho8645 hc8649), M8648.pick [0, 1, 2] (by kernel_rfl)⟩
      refine G_cond_f (b := r8634.2.2) hc8649 (by kernel_rfl) ?_
      refine G_skip ?_
      obtain rfl := Option.some.inj hm
      exact N_meet fun a ha => ⟨_, rfl, M8648.pick [] (by kernel_rfl), ha.sub (by kernel_rfl)⟩
    refine G_cond_f (b := o8147) hc8633 (by kernel_rfl) ?_
    refine G_skip ?_
    obtain rfl := Option.some.inj hm
    exact N_meet fun a ha => ⟨_, rfl, M8156.pick [] (by kernel_rfl), ha.sub (by kernel_rfl)⟩
  intro a8652 w8650 ⟨o8629, hout_, M8651, hS8653⟩
  refine N_use hS8653 ?_
  subst hout_
  have hm := hm8631
  simp only [Sum.elim_inl] at hm
  refine N_then ?_
  refine G_seq ?_
  refine G_region ?_
  refine W_lit (E := Gx.encI) ([] : List Int) 0 [] 3 M8651 (by kernel_rfl) (by kernel_rfl) (by kernel_rfl) (by kernel_rfl) (by kernel_rfl) ?_
  intro p8654 c8655 sg8656 w8657 ho8658 M8659
  have M8661 : Mem [] w w8657 [sg8656] := M8659.pick [0] (by kernel_rfl)
  have M8662 : Mem [] w w8657 [sg8656, []] := M8661.regroup (by simp)
  refine W_litD (D := deepBalloon) [] ([] : List Balloon) rfl 0 [] 50 M8662 (by kernel_rfl) (by kernel_rfl) (by kernel_rfl) (by kernel_rfl) (by kernel_rfl) ownI_nil ?_
  intro p8663 c8664 sg8665 w8666 ho8667 M8668
  refine W_run 3 [(6, .slice p8654 ([] : List Int).length c8655), (7, .slice p8663 ([] : List Balloon).length c8664), (8, .bool false)] w8666 (by kernel_rfl) ?_
  refine W_nil ?_
  refine N_then ?_
  refine G_ret ?_
  obtain rfl := Option.some.inj hm
  refine N_ret [.slice p8654 ([] : List Int).length c8655, .slice p8663 ([] : List Balloon).length c8664, .bool false] (RVs_cons (RV_tmp (by kernel_rfl)) (RVs_cons (RV_tmp (by kernel_rfl)) (RVs_cons (RV_tmp (by kernel_rfl)) RVs_nil))) ?_
  exact ⟨p8654, c8655, sg8656, p8663, c8664, sg8665, [], rfl, ho8658, ho8667, M8668.pick [0, 2, 1] (by kernel_rfl)⟩
theorem c_i_deflate__e1 (w : World) (x8840 : List Int) (p8842 : Option Addr) (c8843 : Nat) (sg8844 : Seg) (ho8845 : ownS Gx.encI x8840 p8842 c8843 sg8844) (x8846 : List Balloon) (p8848 : Option Addr) (c8849 : Nat) (sg8850 : Seg) (sg8851 : Seg) (ho8852 : ownD deepBalloon x8846 p8848 c8849 sg8850 sg8851) (x8853 : Int) (hA : ∀ q ∈ List.flatten [sg8844, sg8850, sg8851], w.heap[q.1]? = some q.2) (hN : (idsOf [sg8844, sg8850, sg8851]).Nodup) {r : Bool × (List Int) × (List Balloon)} (hm : M.i_deflate__e1 x8840 x8846 x8853 = some r) :
    Calls Try.prog 69 #[.slice p8842 x8840.length c8843, elemP p8848 (x8853.toNat * 3)] w fun e w' => ∃ (sg8861 : Seg), ∃ (sg8862 : Seg) (sg8863 : Seg), e = .returned (.bool r.1) ∧ ownS Gx.encI r.2.1 p8842 c8843 sg8861 ∧ r.2.1.length = x8840.length ∧ ownD deepBalloon r.2.2 p8848 c8849 sg8862 sg8863 ∧ r.2.2.length = x8846.length ∧ Mem (idsOf [sg8844, sg8850, sg8851]) w w' [sg8861, sg8862, sg8863] := by
  unfold M.i_deflate__e1 at hm
  refine C_enter Try.func69 rfl (by kernel_rfl) ?_
  have M0 := Mem.start' w [sg8844, sg8850, sg8851] hA hN
  obtain ⟨y8854, hy8854, hm⟩ := gx_bind hm
  obtain ⟨zs8855, hz8856, hr8857, hi8858⟩ := id ho8852
  obtain ⟨g8859, hg8860⟩ := gxIdx_fst hz8856 hy8854
  refine G_seq ?_
  refine G_region ?_
  refine W_run 1 [(0, .slice p8842 x8840.length c8843), (1, elemP p8848 (x8853.toNat * 3))] w (by kernel_rfl) ?_
  refine W_nil ?_
  refine N_then ?_
  refine G_seq ?_
  refine G_seq ?_
  refine G_quiet (by kernel_rfl) (by kernel_rfl) M0 ?_
  refine Z_runs [elemP p8848 (x8853.toNat * 3)] [(0, .slice p8842 x8840.length c8843), (1, elemP p8848 (x8853.toNat * 3)), (5, elemP p8848 (x8853.toNat * 3))] (fun w_ => by kernel_rfl) (by kernel_rfl) ?_
  refine Z_val (elemP p8848 (x8853.toNat * 3)) (by kernel_rfl) (fun w_ M_ => (E_nilE (E := deepBalloon.E) _ (x8853.toNat * 3) rfl (by kernel_rfl) (hr8857.rd M_ 1 (by kernel_rfl)) hg8860)) ?_
  refine Z_val (elemP p8848 (x8853.toNat * 3 + 2)) (by kernel_rfl) (fun w_ M_ => (E_fieldE (E := deepBalloon.E) _ _ 2 (x8853.toNat * 3) 2 rfl (by kernel_rfl) (by kernel_rfl) (hr8857.rd M_ 1 (by kernel_rfl)) hg8860)) ?_
  refine Z_val (.slice ((g8859 0).1) y8854.Gave.length ((g8859 0).2)) (by kernel_rfl) (fun w_ M_ => (E_loadE (E := deepBalloon.E) _ _ false 1 x8853 2 (x8853.toNat * 3 + 2) (y8854, g8859) (.slice ((g8859 0).1) y8854.Gave.length ((g8859 0).2)) rfl (by kernel_rfl) (by kernel_rfl) (by kernel_rfl) (hr8857.rd M_ 1 (by kernel_rfl)) hg8860 rfl)) ?_
  refine Z_runs [.int .i64 (y8854.Gave.length : Int), elemP p8848 (x8853.toNat * 3)] [(0, .slice p8842 x8840.length c8843), (1, elemP p8848 (x8853.toNat * 3)), (9, .int .i64 (y8854.Gave.length : Int)), (10, elemP p8848 (x8853.toNat * 3))] (fun w_ => by kernel_rfl) (by kernel_rfl) ?_
  refine Z_val (elemP p8848 (x8853.toNat * 3)) (by kernel_rfl) (fun w_ M_ => (E_nilE (E := deepBalloon.E) _ (x8853.toNat * 3) rfl (by kernel_rfl) (hr8857.rd M_ 1 (by kernel_rfl)) hg8860)) ?_
  refine Z_val (elemP p8848 (x8853.toNat * 3 + 1)) (by kernel_rfl) (fun w_ M_ => (E_fieldE (E := deepBalloon.E) _ _ 1 (x8853.toNat * 3) 1 rfl (by kernel_rfl) (by kernel_rfl) (hr8857.rd M_ 1 (by kernel_rfl)) hg8860)) ?_
  refine Z_val (.int .i64 y8854.Goal) (by kernel_rfl) (fun w_ M_ => (E_loadE (E := deepBalloon.E) _ _ false 1 x8853 1 (x8853.toNat * 3 + 1) (y8854, g8859) (.int .i64 y8854.Goal) rfl (by kernel_rfl) (by kernel_rfl) (by kernel_rfl) (hr8857.rd M_ 1 (by kernel_rfl)) hg8860 rfl)) ?_
  refine Z_runs [.bool (decide ((y8854.Gave.length : Int) ≤ y8854.Goal))] [(0, .slice p8842 x8840.length c8843), (1, elemP p8848 (x8853.toNat * 3)), (14, .bool (decide ((y8854.Gave.length : Int) ≤ y8854.Goal)))] (fun w_ => by kernel_rfl) (by kernel_rfl) ?_
  refine Z_end fun w8866 M8867 => ?_
  refine N_then ?_
  rcases gx_bif hm with ⟨hc8868, hm⟩ | ⟨hc8868, hm⟩
  · refine G_cond_t (b := (decide ((y8854.Gave.length : Int) ≤ y8854.Goal))) hc8868 (by kernel_rfl) ?_
    refine G_seq ?_
    refine G_region ?_
    refine W_run 1 [(4, .bool false)] w8866 (by kernel_rfl) ?_
    refine W_nil ?_
    refine N_then ?_
    refine G_ret ?_
    refine N_then_ret ?_
    obtain rfl := Option.some.inj hm
    refine N_ret [.bool false] (RVs_cons (RV_tmp (by kernel_rfl)) RVs_nil) ?_
    exact ⟨sg8844, sg8850, sg8851, rfl, ho8845, rfl, ho8852, rfl, M8867.pick [0, 1, 2] (by kernel_rfl)⟩
  refine G_cond_f (b := (decide ((y8854.Gave.length : Int) ≤ y8854.Goal))) hc8868 (by kernel_rfl) ?_
  refine G_skip ?_
  refine N_then ?_
  refine G_seq ?_
  obtain ⟨y8872, hy8872, hm⟩ := gx_bind hm
  refine G_sub [(0, .slice p8842 x8840.length c8843), (1, elemP p8848 (x8853.toNat * 3)), (14, .bool (decide ((y8854.Gave.length : Int) ≤ y8854.Goal)))] (by kernel_rfl) ?_
  refine G_dagL 11 [[], [], [1], [2], [3], [4], [5], [], [7], [8], [9]] [[], [], [], [], [], [], [], [], [], [], []] [[], [], [], [], [], [], [], [], [], [], []] [[], [], [], [], [], [], [], [], [], [], []] [[], [], [], [], [], [], [], [], [], [], []] [[], [], [], [], [], [], [], [], [], [], []] (fun _ => []) (fun i => ([fun f v s => v = (.slice p8842 x8840.length c8843 : Value) ∧ s = [], fun f v s => v = (elemP p8848 (x8853.toNat * 3) : Value) ∧ s = [], fun f v s => v = (elemP p8848 (x8853.toNat * 3) : Value) ∧ s = [], fun f v s => v = (elemP p8848 (x8853.toNat * 3 + 2) : Value) ∧ s = [], fun f v s => v = (.slice ((g8859 0).1) y8854.Gave.length ((g8859 0).2) : Value) ∧ s = [], fun f v s => v = (elemP ((g8859 0).1) ((0 : Int).toNat * 1) : Value) ∧ s = [], fun f v s => v = (.int .i64 y8872 : Value) ∧ s = [], fun f v s => v = (elemP p8848 (x8853.toNat * 3) : Value) ∧ s = [], fun f v s => v = (elemP p8848 (x8853.toNat * 3) : Value) ∧ s = [], fun f v s => v = (elemP p8848 (x8853.toNat * 3 + 0) : Value) ∧ s = [], fun f v s => v = (.int .i64 y8854.Guest : Value) ∧ s = []] : List ((Nat → Value) → Value → Seg → Prop)).getD i (fun _ _ _ => False)) (fun j f v => ∃ s, (fun i => ([fun f v s => v = (.slice p8842 x8840.length c8843 : Value) ∧ s = [], fun f v s => v = (elemP p8848 (x8853.toNat * 3) : Value) ∧ s = [], fun f v s => v = (elemP p8848 (x8853.toNat * 3) : Value) ∧ s = [], fun f v s => v = (elemP p8848 (x8853.toNat * 3 + 2) : Value) ∧ s = [], fun f v s => v = (.slice ((g8859 0).1) y8854.Gave.length ((g8859 0).2) : Value) ∧ s = [], fun f v s => v = (elemP ((g8859 0).1) ((0 : Int).toNat * 1) : Value) ∧ s = [], fun f v s => v = (.int .i64 y8872 : Value) ∧ s = [], fun f v s => v = (elemP p8848 (x8853.toNat * 3) : Value) ∧ s = [], fun f v s => v = (elemP p8848 (x8853.toNat * 3) : Value) ∧ s = [], fun f v s => v = (elemP p8848 (x8853.toNat * 3 + 0) : Value) ∧ s = [], fun f v s => v = (.int .i64 y8854.Guest : Value) ∧ s = []] : List ((Nat → Value) → Value → Seg → Prop)).getD i (fun _ _ _ => False)) j f v s) [] [0, 6, 10] [] (fun _ _ _ s h => ⟨s, h⟩) (by kernel_rfl) (by kernel_rfl) (M8867.preNil 11) (by kernel_rfl) (by kernel_rfl) (by kernel_rfl) (by kernel_rfl) (allOb_cons ?_ (allOb_cons ?_ (allOb_cons ?_ (allOb_cons ?_ (allOb_cons ?_ (allOb_cons ?_ (allOb_cons ?_ (allOb_cons ?_ (allOb_cons ?_ (allOb_cons ?_ (allOb_cons ?_ allOb_nil))))))))))) ?_
  · intro g8869 f8870
    intro R w8874 M8875
    refine W_run 1 [(15, .slice p8842 x8840.length c8843)] w8874 (by kernel_rfl) ?_
    exact W_nil (ob_end (.slice p8842 x8840.length c8843) [] rfl (by kernel_rfl) ⟨by kernel_rfl, rfl⟩ M8875)
  · intro g8869 f8870
    intro R w8878 M8879
    refine W_run 1 [(16, elemP p8848 (x8853.toNat * 3))] w8878 (by kernel_rfl) ?_
    exact W_nil (ob_end (elemP p8848 (x8853.toNat * 3)) [] rfl (by kernel_rfl) ⟨by kernel_rfl, rfl⟩ M8879)
  · intro g8869 f8870
    intro v1_ hb1_
    obtain ⟨rfl, _⟩ := hb1_
    intro R w8882 M8883
    refine W_val (elemP p8848 (x8853.toNat * 3)) w8882 (by kernel_rfl) (E_nilE (E := deepBalloon.E) _ (x8853.toNat * 3) rfl (by kernel_rfl) (hr8857.rd M8883 1 (by kernel_rfl)) hg8860) ?_
    exact W_nil (ob_end (elemP p8848 (x8853.toNat * 3)) [] rfl (by kernel_rfl) ⟨by kernel_rfl, rfl⟩ M8883)
  · intro g8869 f8870
    intro v2_ hb2_
    obtain ⟨rfl, _⟩ := hb2_
    intro R w8886 M8887
    refine W_val (elemP p8848 (x8853.toNat * 3 + 2)) w8886 (by kernel_rfl) (E_fieldE (E := deepBalloon.E) _ _ 2 (x8853.toNat * 3) 2 rfl (by kernel_rfl) (by kernel_rfl) (hr8857.rd M8887 1 (by kernel_rfl)) hg8860) ?_
    exact W_nil (ob_end (elemP p8848 (x8853.toNat * 3 + 2)) [] rfl (by kernel_rfl) ⟨by kernel_rfl, rfl⟩ M8887)
  · intro g8869 f8870
    intro v3_ hb3_
    obtain ⟨rfl, _⟩ := hb3_
    intro R w8890 M8891
    refine W_val (.slice ((g8859 0).1) y8854.Gave.length ((g8859 0).2)) w8890 (by kernel_rfl) (E_loadE (E := deepBalloon.E) _ _ false 1 x8853 2 (x8853.toNat * 3 + 2) (y8854, g8859) (.slice ((g8859 0).1) y8854.Gave.length ((g8859 0).2)) rfl (by kernel_rfl) (by kernel_rfl) (by kernel_rfl) (hr8857.rd M8891 1 (by kernel_rfl)) hg8860 rfl) ?_
    exact W_nil (ob_end (.slice ((g8859 0).1) y8854.Gave.length ((g8859 0).2)) [] rfl (by kernel_rfl) ⟨by kernel_rfl, rfl⟩ M8891)
  · intro g8869 f8870
    intro v4_ hb4_
    obtain ⟨rfl, _⟩ := hb4_
    intro R w8894 M8895
    refine W_val (elemP ((g8859 0).1) ((0 : Int).toNat * 1)) w8894 (by kernel_rfl) (E_index (E := Gx.encI) _ _ _ y8854.Gave.length ((g8859 0).2) .i64 0 1 (y := y8872) rfl (by kernel_rfl) (by kernel_rfl) (by kernel_rfl) ((hi8858.rd M8895 2 (by kernel_rfl)).at_ hg8860 0 ⟨Int, Gx.encI, y8854.Gave, (g8859 0).1, (g8859 0).2⟩ (by kernel_rfl)) rfl hy8872) ?_
    exact W_nil (ob_end (elemP ((g8859 0).1) ((0 : Int).toNat * 1)) [] rfl (by kernel_rfl) ⟨by kernel_rfl, rfl⟩ M8895)
  · intro g8869 f8870
    intro v5_ hb5_
    obtain ⟨rfl, _⟩ := hb5_
    intro R w8898 M8899
    refine W_val (.int .i64 y8872) w8898 (by kernel_rfl) (E_loadE (E := Gx.encI) _ _ false 1 0 0 ((0 : Int).toNat * 1) y8872 (.int .i64 y8872) rfl (by kernel_rfl) (by kernel_rfl) (by kernel_rfl) ((hi8858.rd M8899 2 (by kernel_rfl)).at_ hg8860 0 ⟨Int, Gx.encI, y8854.Gave, (g8859 0).1, (g8859 0).2⟩ (by kernel_rfl)) hy8872 rfl) ?_
    exact W_nil (ob_end (.int .i64 y8872) [] rfl (by kernel_rfl) ⟨by kernel_rfl, rfl⟩ M8899)
  · intro g8869 f8870
    intro R w8902 M8903
    refine W_run 1 [(22, elemP p8848 (x8853.toNat * 3))] w8902 (by kernel_rfl) ?_
    exact W_nil (ob_end (elemP p8848 (x8853.toNat * 3)) [] rfl (by kernel_rfl) ⟨by kernel_rfl, rfl⟩ M8903)
  · intro g8869 f8870
    intro v7_ hb7_
    obtain ⟨rfl, _⟩ := hb7_
    intro R w8906 M8907
    refine W_val (elemP p8848 (x8853.toNat * 3)) w8906 (by kernel_rfl) (E_nilE (E := deepBalloon.E) _ (x8853.toNat * 3) rfl (by kernel_rfl) (hr8857.rd M8907 1 (by kernel_rfl)) hg8860) ?_
    exact W_nil (ob_end (elemP p8848 (x8853.toNat * 3)) [] rfl (by kernel_rfl) ⟨by kernel_rfl, rfl⟩ M8907)
  · intro g8869 f8870
    intro v8_ hb8_
    obtain ⟨rfl, _⟩ := hb8_
    intro R w8910 M8911
    refine W_val (elemP p8848 (x8853.toNat * 3 + 0)) w8910 (by kernel_rfl) (E_fieldE (E := deepBalloon.E) _ _ 0 (x8853.toNat * 3) 0 rfl (by kernel_rfl) (by kernel_rfl) (hr8857.rd M8911 1 (by kernel_rfl)) hg8860) ?_
    exact W_nil (ob_end (elemP p8848 (x8853.toNat * 3 + 0)) [] rfl (by kernel_rfl) ⟨by kernel_rfl, rfl⟩ M8911)
  · intro g8869 f8870
    intro v9_ hb9_
    obtain ⟨rfl, _⟩ := hb9_
    intro R w8914 M8915
    refine W_val (.int .i64 y8854.Guest) w8914 (by kernel_rfl) (E_loadE (E := deepBalloon.E) _ _ false 1 x8853 0 (x8853.toNat * 3 + 0) (y8854, g8859) (.int .i64 y8854.Guest) rfl (by kernel_rfl) (by kernel_rfl) (by kernel_rfl) (hr8857.rd M8915 1 (by kernel_rfl)) hg8860 rfl) ?_
    exact W_nil (ob_end (.int .i64 y8854.Guest) [] rfl (by kernel_rfl) ⟨by kernel_rfl, rfl⟩ M8915)
  intro g8869 f8870
  intro v0_ hb0_
  obtain ⟨rfl, _⟩ := hb0_
  intro v6_ hb6_
  obtain ⟨rfl, _⟩ := hb6_
  intro v10_ hb10_
  obtain ⟨rfl, _⟩ := hb10_
  intro w8918 M8919
  have M8920 : Mem (idsOf [sg8844, sg8850, sg8851]) w w8918 [sg8844, sg8850, sg8851] := M8919
  obtain ⟨y8921, hy8921, hm⟩ := gx_bind hm
  refine W_val (elemP p8842 (y8872.toNat * 1)) w8918 (by kernel_rfl) (E_index (E := Gx.encI) _ _ _ x8840.length c8843 .i64 y8872 1 (y := y8921) rfl (by kernel_rfl) (by kernel_rfl) (by kernel_rfl) (ho8845.rd M8920 0 (by kernel_rfl)) rfl hy8921) ?_
  refine W_storeE (E := Gx.encI) _ _ _ false 1 y8872.toNat 0 (y8872.toNat * 1) y8921 y8854.Guest (.int .i64 y8854.Guest) 0 M8920 ho8845 (by kernel_rfl) (by kernel_rfl) rfl (by kernel_rfl) (by kernel_rfl) (by kernel_rfl) (by kernel_rfl) (by kernel_rfl) (by kernel_rfl) (by kernel_rfl) (gxIdx_spec hy8921).2 rfl ?_
  intro w8922 sg8924 ho8925 M8923
  refine W_conv 0 (.slice p8842 x8840.length c8843) (.slice p8842 (x8840.set y8872.toNat y8854.Guest).length c8843) (by kernel_rfl) (by rw [@List.length_set _ x8840 y8872.toNat y8854.Guest]) ?_
  refine W_conv 15 (.slice p8842 x8840.length c8843) (.slice p8842 (x8840.set y8872.toNat y8854.Guest).length c8843) (by kernel_rfl) (by rw [@List.length_set _ x8840 y8872.toNat y8854.Guest]) ?_
  refine W_nil ?_
  refine N_then ?_
  refine G_seq ?_
  refine G_region ?_
  refine W_run 2 [(27, elemP p8848 (x8853.toNat * 3)), (28, elemP p8848 (x8853.toNat * 3))] w8922 (by kernel_rfl) ?_
  refine W_val (elemP p8848 (x8853.toNat * 3)) w8922 (by kernel_rfl) (E_nilE (E := deepBalloon.E) _ (x8853.toNat * 3) rfl (by kernel_rfl) (hr8857.rd M8923 1 (by kernel_rfl)) hg8860) ?_
  refine W_val (elemP p8848 (x8853.toNat * 3 + 2)) w8922 (by kernel_rfl) (E_fieldE (E := deepBalloon.E) _ _ 2 (x8853.toNat * 3) 2 rfl (by kernel_rfl) (by kernel_rfl) (hr8857.rd M8923 1 (by kernel_rfl)) hg8860) ?_
  refine W_val (.slice ((g8859 0).1) y8854.Gave.length ((g8859 0).2)) w8922 (by kernel_rfl) (E_loadE (E := deepBalloon.E) _ _ false 1 x8853 2 (x8853.toNat * 3 + 2) (y8854, g8859) (.slice ((g8859 0).1) y8854.Gave.length ((g8859 0).2)) rfl (by kernel_rfl) (by kernel_rfl) (by kernel_rfl) (hr8857.rd M8923 1 (by kernel_rfl)) hg8860 rfl) ?_
  obtain ⟨ys8927, hys8927, hm⟩ := gx_bind hm
  refine W_val (.slice (subP ((g8859 0).1) (1 : Int).toNat ((g8859 0).2) 1) ys8927.length (((g8859 0).2) - (1 : Int).toNat)) w8922 (by kernel_rfl) (E_slice (E := Gx.encI) _ _ _ _ y8854.Gave.length 1 (y8854.Gave.length : Int) rfl (by kernel_rfl) (Or.inr ⟨_, rfl, by kernel_rfl⟩) (Or.inl ⟨rfl, rfl⟩) (by kernel_rfl) ((hi8858.rd M8923 2 (by kernel_rfl)).at_ hg8860 0 ⟨Int, Gx.encI, y8854.Gave, (g8859 0).1, (g8859 0).2⟩ (by kernel_rfl)) rfl hys8927) ?_
  refine W_val (elemP p8848 (x8853.toNat * 3)) w8922 (by kernel_rfl) (E_nilE (E := deepBalloon.E) _ (x8853.toNat * 3) rfl (by kernel_rfl) (hr8857.rd M8923 1 (by kernel_rfl)) hg8860) ?_
  refine W_val (elemP p8848 (x8853.toNat * 3 + 2)) w8922 (by kernel_rfl) (E_fieldE (E := deepBalloon.E) _ _ 2 (x8853.toNat * 3) 2 rfl (by kernel_rfl) (by kernel_rfl) (hr8857.rd M8923 1 (by kernel_rfl)) hg8860) ?_
  obtain ⟨sa8929, sb8930, sc8931, hs8932, hb8933, hp8934⟩ := hi8858.lens (gxIdx_spec hg8860).2
  have M8935 := M8923.cut 2 (sa := sa8929) (sb := sb8930) (sc := sc8931) hs8932 (by kernel_rfl)
  obtain ⟨u8936, r8937, hu8938, ho8939, hr8940⟩ := hb8933
  have M8941 := M8935.cut 3 (sa := []) (sb := u8936) (sc := r8937) hu8938 (by kernel_rfl)
  refine W_storeE (E := deepBalloon.E) _ _ _ false 1 x8853.toNat 2 (x8853.toNat * 3 + 2) (y8854, g8859) ((⟨y8854.Guest, y8854.Goal, ys8927⟩ : Balloon), (plOf [((subP ((g8859 0).1) (1 : Int).toNat ((g8859 0).2) 1), (((g8859 0).2) - (1 : Int).toNat))])) (.slice (subP ((g8859 0).1) (1 : Int).toNat ((g8859 0).2) 1) ys8927.length (((g8859 0).2) - (1 : Int).toNat)) 1 M8941 hr8857 (by kernel_rfl) (by kernel_rfl) rfl (by kernel_rfl) (by kernel_rfl) (by kernel_rfl) (by kernel_rfl) (by kernel_rfl) (by kernel_rfl) (by kernel_rfl) (gxIdx_spec hg8860).2 rfl ?_
  intro w8944 sg8946 ho8947 M8945
  have M8948 : Mem (idsOf [sg8844, sg8850, sg8851]) w w8944 [sg8924, sg8946, [], sa8929, u8936, sc8931] := M8945.pick [0, 1, 3, 2, 5, 4] (by kernel_rfl)
  have M8949 : Mem (idsOf [sg8844, sg8850, sg8851]) w w8944 [sg8924, sg8946, [], (sa8929 ++ ((u8936 ++ []) ++ sc8931))] := M8948.regroup (by simp)
  have ho8950 : ownD deepBalloon (x8846.set x8853.toNat (⟨y8854.Guest, y8854.Goal, ys8927⟩ : Balloon)) p8848 c8849 sg8946 (sa8929 ++ ((u8936 ++ []) ++ sc8931)) := ⟨_, set_fst hz8856 x8853.toNat ((⟨y8854.Guest, y8854.Goal, ys8927⟩ : Balloon), (plOf [((subP ((g8859 0).1) (1 : Int).toNat ((g8859 0).2) 1), (((g8859 0).2) - (1 : Int).toNat))])), ho8947, hp8934 ((⟨y8854.Guest, y8854.Goal, ys8927⟩ : Balloon), (plOf [((subP ((g8859 0).1) (1 : Int).toNat ((g8859 0).2) 1), (((g8859 0).2) - (1 : Int).toNat))])) _ (ownI_cons (i := ⟨Int, Gx.encI, _, _, _⟩) (ho8939.partM hys8927) ownI_nil)⟩
  have hput8951 := gxIdx_put (⟨y8854.Guest, y8854.Goal, ys8927⟩ : Balloon) (gxIdx_down hz8856 hg8860)
  refine W_nil ?_
  refine N_then ?_
  refine G_seq ?_
  refine G_region ?_
  refine W_run 1 [(4, .bool true)] w8944 (by kernel_rfl) ?_
  refine W_nil ?_
  refine N_then ?_
  refine G_ret ?_
  obtain rfl := Option.some.inj hm
  refine N_ret [.bool true] (RVs_cons (RV_tmp (by kernel_rfl)) RVs_nil) ?_
  exact ⟨sg8924, sg8946, (sa8929 ++ ((u8936 ++ []) ++ sc8931)), rfl, ho8925, (List.length_set.trans rfl), ho8950, (List.length_set.trans rfl), M8949.pick [0, 1, 3] (by kernel_rfl)⟩
theorem c_i_Deflate (w : World) (x8704 : List Int) (p8706 : Option Addr) (c8707 : Nat) (h8708 : rdS Gx.encI w x8704 p8706 c8707) (x8709 : List Balloon) (p8711 : Option Addr) (c8712 : Nat) (h8713 : rdD deepBalloon w x8709 p8711 c8712) (x8714 : Int) {r : (List Int) × (List Balloon) × Bool} (hm : M.i_Deflate x8704 x8709 x8714 = some r) :
    Calls Try.prog 33 #[.slice p8706 x8704.length c8707, .slice p8711 x8709.length c8712, .int .i64 x8714] w fun e w' => ∃ (p8716 : Option Addr) (c8717 : Nat) (sg8718 : Seg), ∃ (p8720 : Option Addr) (c8721 : Nat) (sg8722 : Seg) (sg8723 : Seg), e = .returned (.tuple #[.slice p8716 r.1.length c8717, .slice p8720 r.2.1.length c8721, .bool r.2.2]) ∧ ownS Gx.encI r.1 p8716 c8717 sg8718 ∧ ownD deepBalloon r.2.1 p8720 c8721 sg8722 sg8723 ∧ Mem [] w w' [sg8718, sg8722, sg8723] := by
  unfold M.i_Deflate at hm
  refine C_enter Try.func33 rfl (by kernel_rfl) ?_
  have M0 := Mem.refl [] w
  refine G_seq ?_
  refine G_region ?_
  refine W_run 3 [(0, .slice p8706 x8704.length c8707), (1, .slice p8711 x8709.length c8712), (2, .int .i64 x8714)] w (by kernel_rfl) ?_
  refine W_nil ?_
  refine N_then ?_
  refine G_seq ?_
  refine G_region ?_
  refine W_run 3 [(0, .slice p8706 x8704.length c8707), (1, .slice p8711 x8709.length c8712), (14, .slice p8706 x8704.length c8707), (15, .slice p8711 x8709.length c8712), (16, .int .i64 x8714)] w (by kernel_rfl) ?_
  obtain ⟨r8726, hr8726, hm⟩ := gx_bind hm
  refine W_call 59 #[.slice p8706 x8704.length c8707, .slice p8711 x8709.length c8712, .int .i64 x8714] (by kernel_rfl) (by kernel_rfl) ?_
  refine (c_i_balloonOf w x8704 p8706 c8707 (h8708.mem0 M0) x8709 p8711 c8712 (h8713.mem0 M0) x8714 hr8726).mono ?_
  rintro e_ w8727 ⟨rfl, K8728⟩
  have M8729 := M0.call0 K8728
  refine ⟨_, rfl, ?_⟩
  refine W_run 5 [(0, .slice p8706 x8704.length c8707), (1, .slice p8711 x8709.length c8712), (9, .int .i64 r8726.1), (10, .bool r8726.2)] w8727 (by kernel_rfl) ?_
  refine W_nil ?_
  refine N_then ?_
  refine G_seq ?_
  refine G_seq ?_
  refine G_region ?_
  refine W_run 2 [(0, .slice p8706 x8704.length c8707), (1, .slice p8711 x8709.length c8712), (9, .int .i64 r8726.1), (21, .bool (!r8726.2))] w8727 (by kernel_rfl) ?_
  refine W_nil ?_
  refine N_then ?_
  rcases gx_bif hm with ⟨hc8730, hm⟩ | ⟨hc8730, hm⟩
  · refine G_cond_t (b := (!r8726.2)) hc8730 (by kernel_rfl) ?_
    refine G_seq ?_
    refine G_region ?_
    refine W_run 3 [(6, .slice none 0 0), (7, .slice none 0 0), (8, .bool false)] w8727 (by kernel_rfl) ?_
    refine W_nil ?_
    refine N_then ?_
    refine G_ret ?_
    refine N_then_ret ?_
    obtain rfl := Option.some.inj hm
    refine N_ret [.slice none 0 0, .slice none 0 0, .bool false] (RVs_cons (RV_tmp (by kernel_rfl)) (RVs_cons (RV_tmp (by kernel_rfl)) (RVs_cons (RV_tmp (by kernel_rfl)) RVs_nil))) ?_
    exact ⟨none, 0, [], none, 0, [], [], rfl, ownS_nil, ownD_nil, M8729.pick [100000, 100001, 100002] (by kernel_rfl)⟩
  refine G_cond_f (b := (!r8726.2)) hc8730 (by kernel_rfl) ?_
  refine G_skip ?_
  refine N_then ?_
  refine G_seq ?_
  refine G_region ?_
  refine W_run 1 [(1, .slice p8711 x8709.length c8712), (9, .int .i64 r8726.1), (22, .slice p8706 x8704.length c8707)] w8727 (by kernel_rfl) ?_
  obtain ⟨r8733, hr8733, hm⟩ := gx_bind hm
  refine W_call 62 #[.slice p8706 x8704.length c8707] (by kernel_rfl) (by kernel_rfl) ?_
  refine (c_i_copyInts w8727 x8704 p8706 c8707 (h8708.mem0 M8729) hr8733).mono ?_
  rintro e_ w8739 ⟨p8735, c8736, sg8737, rfl, ho8738, K8740⟩
  have M8741 := M8729.call K8740
  refine ⟨_, rfl, ?_⟩
  refine W_run 1 [(9, .int .i64 r8726.1), (23, .slice p8735 r8733.length c8736), (24, .slice p8711 x8709.length c8712)] w8739 (by kernel_rfl) ?_
  obtain ⟨r8742, hr8742, hm⟩ := gx_bind hm
  refine W_call 60 #[.slice p8711 x8709.length c8712] (by kernel_rfl) (by kernel_rfl) ?_
  refine (c_i_newBalloons w8739 x8709 p8711 c8712 (h8713.mem0 M8741) hr8742).mono ?_
  rintro e_ w8749 ⟨p8744, c8745, sg8746, sg8747, rfl, ho8748, K8750⟩
  have M8751 := M8741.call K8750
  refine ⟨_, rfl, ?_⟩
  refine W_run 2 [(9, .int .i64 r8726.1), (11, .slice p8735 r8733.length c8736), (12, .slice p8744 r8742.length c8745)] w8749 (by kernel_rfl) ?_
  refine W_nil ?_
  refine N_then ?_
  refine G_seq ?_
  refine G_seq ?_
  refine G_region ?_
  refine W_run 3 [(11, .slice p8735 r8733.length c8736), (12, .slice p8744 r8742.length c8745), (26, .slice p8735 r8733.length c8736), (27, .slice p8744 r8742.length c8745), (28, .int .i64 r8726.1)] w8749 (by kernel_rfl) ?_
  obtain ⟨y8752, hy8752, hm⟩ := gx_bind hm
  obtain ⟨zs8753, hz8754, hr8755, hi8756⟩ := id ho8748
  obtain ⟨g8757, hg8758⟩ := gxIdx_fst hz8754 hy8752
  refine W_val (elemP p8744 (r8726.1.toNat * 3)) w8749 (by kernel_rfl) (E_index (E := deepBalloon.E) _ _ _ r8742.length c8745 .i64 r8726.1 3 (y := (y8752, g8757)) rfl (by kernel_rfl) (by kernel_rfl) (by kernel_rfl) (hr8755.rd M8751 1 (by kernel_rfl)) (len_fst hz8754) hg8758) ?_
  obtain ⟨r8952, hr8952, hm⟩ := gx_bind hm
  refine W_call 69 #[.slice p8735 r8733.length c8736, elemP p8744 (r8726.1.toNat * 3)] (by kernel_rfl) (by kernel_rfl) ?_
  refine (c_i_deflate__e1 w8749 r8733 p8735 c8736 sg8737 ho8738 r8742 p8744 c8745 sg8746 sg8747 ho8748 r8726.1 (M8751.hasPick [0, 1, 2]) (M8751.nodupPick [0, 1, 2] (by kernel_rfl)) hr8952).mono ?_
  rintro e_ w8960 ⟨sg8953, sg8956, sg8957, rfl, ho8954, hl8955, ho8958, hl8959, K8961⟩
  have M8962 := M8751.callF' [0, 1, 2] [] (by kernel_rfl) K8961
  refine ⟨_, rfl, ?_⟩
  refine W_conv 11 (.slice p8735 r8733.length c8736) (.slice p8735 r8952.2.1.length c8736) (by kernel_rfl) (by first | rw [hl8955, hl8959] | rw [hl8955] | rw [hl8959]) ?_
  refine W_conv 12 (.slice p8744 r8742.length c8745) (.slice p8744 r8952.2.2.length c8745) (by kernel_rfl) (by first | rw [hl8955, hl8959] | rw [hl8955] | rw [hl8959]) ?_
  refine W_conv 26 (.slice p8735 r8733.length c8736) (.slice p8735 r8952.2.1.length c8736) (by kernel_rfl) (by first | rw [hl8955, hl8959] | rw [hl8955] | rw [hl8959]) ?_
  refine W_conv 27 (.slice p8744 r8742.length c8745) (.slice p8744 r8952.2.2.length c8745) (by kernel_rfl) (by first | rw [hl8955, hl8959] | rw [hl8955] | rw [hl8959]) ?_
  refine W_run 1 [(11, .slice p8735 r8952.2.1.length c8736), (12, .slice p8744 r8952.2.2.length c8745), (31, .bool (!r8952.1))] w8960 (by kernel_rfl) ?_
  refine W_nil ?_
  refine N_then ?_
  rcases gx_bif hm with ⟨hc8963, hm⟩ | ⟨hc8963, hm⟩
  · refine G_cond_t (b := (!r8952.1)) hc8963 (by kernel_rfl) ?_
    refine G_seq ?_
    refine G_region ?_
    refine W_run 3 [(6, .slice none 0 0), (7, .slice none 0 0), (8, .bool false)] w8960 (by kernel_rfl) ?_
    refine W_nil ?_
    refine N_then ?_
    refine G_ret ?_
    refine N_then_ret ?_
    obtain rfl := Option.some.inj hm
    refine N_ret [.slice none 0 0, .slice none 0 0, .bool false] (RVs_cons (RV_tmp (by kernel_rfl)) (RVs_cons (RV_tmp (by kernel_rfl)) (RVs_cons (RV_tmp (by kernel_rfl)) RVs_nil))) ?_
    exact ⟨none, 0, [], none, 0, [], [], rfl, ownS_nil, ownD_nil, M8962.pick [100000, 100001, 100002] (by kernel_rfl)⟩
  refine G_cond_f (b := (!r8952.1)) hc8963 (by kernel_rfl) ?_
  refine G_skip ?_
  refine N_then ?_
  refine G_seq ?_
  refine G_region ?_
  refine W_run 5 [(6, .slice p8735 r8952.2.1.length c8736), (7, .slice p8744 r8952.2.2.length c8745), (8, .bool true)] w8960 (by kernel_rfl) ?_
  refine W_nil ?_
  refine N_then ?_
  refine G_ret ?_
  obtain rfl := Option.some.inj hm
  refine N_ret [.slice p8735 r8952.2.1.length c8736, .slice p8744 r8952.2.2.length c8745, .bool true] (RVs_cons (RV_tmp (by kernel_rfl)) (RVs_cons (RV_tmp (by kernel_rfl)) (RVs_cons (RV_tmp (by kernel_rfl)) RVs_nil))) ?_
  exact ⟨p8735, c8736, sg8953, p8744, c8745, sg8956, sg8957, rfl, ho8954, ho8958, M8962.pick [0, 1, 2] (by kernel_rfl)⟩
theorem c_l_FnExactDeflate (w : World) (x8080 : List Int) (p8082 : Option Addr) (c8083 : Nat) (h8084 : rdS Gx.encI w x8080 p8082 c8083) (x8085 : List Balloon) (p8087 : Option Addr) (c8088 : Nat) (h8089 : rdD deepBalloon w x8085 p8087 c8088) (x8090 : Int) {r : Bool} (hm : M.l_FnExactDeflate x8080 x8085 x8090 = some r) :
    Calls Try.prog 8 #[.slice p8082 x8080.length c8083, .slice p8087 x8085.length c8088, .int .i64 x8090] w fun e w' => e = .returned (.bool r) ∧ Mem [] w w' [] := by
  unfold M.l_FnExactDeflate at hm
  refine C_enter Try.func8 rfl (by kernel_rfl) ?_
  have M0 := Mem.refl [] w
  refine G_seq ?_
  refine G_region ?_
  refine W_run 1 [(0, .slice p8082 x8080.length c8083), (1, .slice p8087 x8085.length c8088), (2, .int .i64 x8090)] w (by kernel_rfl) ?_
  refine W_nil ?_
  refine N_then ?_
  refine G_seq ?_
  refine G_seq ?_
  refine G_region ?_
  refine W_run 3 [(0, .slice p8082 x8080.length c8083), (1, .slice p8087 x8085.length c8088), (2, .int .i64 x8090), (24, .bool (decide ((x8080.length : Int) > 1048576)))] w (by kernel_rfl) ?_
  refine W_nil ?_
  refine N_then ?_
  rcases gx_bif hm with ⟨hc8091, hm⟩ | ⟨hc8091, hm⟩
  · refine G_cond_t (b := (decide ((x8080.length : Int) > 1048576))) hc8091 (by kernel_rfl) ?_
    refine G_seq ?_
    refine G_region ?_
    refine W_run 1 [(6, .bool true)] w (by kernel_rfl) ?_
    refine W_nil ?_
    refine N_then ?_
    refine G_ret ?_
    refine N_then_ret ?_
    obtain rfl := Option.some.inj hm
    refine N_ret [.bool true] (RVs_cons (RV_tmp (by kernel_rfl)) RVs_nil) ?_
    exact ⟨rfl, M0.pick [] (by kernel_rfl)⟩
  refine G_cond_f (b := (decide ((x8080.length : Int) > 1048576))) hc8091 (by kernel_rfl) ?_
  refine G_skip ?_
  refine N_then ?_
  refine G_seq ?_
  refine G_region ?_
  refine W_run 1 [(0, .slice p8082 x8080.length c8083), (1, .slice p8087 x8085.length c8088), (2, .int .i64 x8090), (7, .int .i64 1048576)] w (by kernel_rfl) ?_
  refine W_nil ?_
  refine N_then ?_
  refine G_seq ?_
  refine G_region ?_
  refine W_run 2 [(0, .slice p8082 x8080.length c8083), (1, .slice p8087 x8085.length c8088), (2, .int .i64 x8090), (7, .int .i64 1048576), (25, .slice p8087 x8085.length c8088), (26, .int .i64 1048576)] w (by kernel_rfl) ?_
  obtain ⟨r8092, hr8092, hm⟩ := gx_bind hm
  refine W_call 13 #[.slice p8087 x8085.length c8088, .int .i64 1048576] (by kernel_rfl) (by kernel_rfl) ?_
  refine (c_l_szBalloonS w x8085 p8087 c8088 (h8089.mem0 M0) 1048576 hr8092).mono ?_
  rintro e_ w8093 ⟨rfl, K8094⟩
  have M8095 := M0.call0 K8094
  refine ⟨_, rfl, ?_⟩
  refine W_run 1 [(0, .slice p8082 x8080.length c8083), (1, .slice p8087 x8085.length c8088), (2, .int .i64 x8090), (7, .int .i64 r8092)] w8093 (by kernel_rfl) ?_
  refine W_nil ?_
  refine N_then ?_
  refine G_seq ?_
  refine G_seq ?_
  refine G_region ?_
  refine W_run 2 [(0, .slice p8082 x8080.length c8083), (1, .slice p8087 x8085.length c8088), (2, .int .i64 x8090), (29, .bool (decide (r8092 < 0)))] w8093 (by kernel_rfl) ?_
  refine W_nil ?_
  refine N_then ?_
  rcases gx_bif hm with ⟨hc8096, hm⟩ | ⟨hc8096, hm⟩
  · refine G_cond_t (b := (decide (r8092 < 0))) hc8096 (by kernel_rfl) ?_
    refine G_seq ?_
    refine G_region ?_
    refine W_run 1 [(6, .bool true)] w8093 (by kernel_rfl) ?_
    refine W_nil ?_
    refine N_then ?_
    refine G_ret ?_
    refine N_then_ret ?_
    obtain rfl := Option.some.inj hm
    refine N_ret [.bool true] (RVs_cons (RV_tmp (by kernel_rfl)) RVs_nil) ?_
    exact ⟨rfl, M8095.pick [] (by kernel_rfl)⟩
  refine G_cond_f (b := (decide (r8092 < 0))) hc8096 (by kernel_rfl) ?_
  refine G_skip ?_
  refine N_then ?_
  refine G_seq ?_
  refine G_region ?_
  refine W_run 1 [(0, .slice p8082 x8080.length c8083), (1, .slice p8087 x8085.length c8088), (2, .int .i64 x8090), (31, .slice p8082 x8080.length c8083)] w8093 (by kernel_rfl) ?_
  obtain ⟨r8097, hr8097, hm⟩ := gx_bind hm
  refine W_call 15 #[.slice p8082 x8080.length c8083] (by kernel_rfl) (by kernel_rfl) ?_
  refine (c_l_toIntS w8093 x8080 p8082 c8083 (h8084.mem0 M8095) hr8097).mono ?_
  rintro e_ w8103 ⟨p8099, c8100, sg8101, rfl, ho8102, K8104⟩
  have M8105 := M8095.call K8104
  refine ⟨_, rfl, ?_⟩
  refine W_run 1 [(0, .slice p8082 x8080.length c8083), (1, .slice p8087 x8085.length c8088), (2, .int .i64 x8090), (32, .slice p8099 r8097.length c8100), (33, .slice p8087 x8085.length c8088)] w8103 (by kernel_rfl) ?_
  obtain ⟨r8106, hr8106, hm⟩ := gx_bind hm
  refine W_call 16 #[.slice p8087 x8085.length c8088] (by kernel_rfl) (by kernel_rfl) ?_
  refine (c_l_toBalloonS w8103 x8085 p8087 c8088 (h8089.mem0 M8105) hr8106).mono ?_
  rintro e_ w8113 ⟨p8108, c8109, sg8110, sg8111, rfl, ho8112, K8114⟩
  have M8115 := M8105.call K8114
  refine ⟨_, rfl, ?_⟩
  refine W_run 1 [(0, .slice p8082 x8080.length c8083), (1, .slice p8087 x8085.length c8088), (2, .int .i64 x8090), (32, .slice p8099 r8097.length c8100), (34, .slice p8108 r8106.length c8109), (35, .int .i64 x8090)] w8113 (by kernel_rfl) ?_
  obtain ⟨r8670, hr8670, hm⟩ := gx_bind hm
  refine W_call 32 #[.slice p8099 r8097.length c8100, .slice p8108 r8106.length c8109, .int .i64 x8090] (by kernel_rfl) (by kernel_rfl) ?_
  refine (c_s_Deflate w8113 r8097 p8099 c8100 (ho8102.rd M8115 0 (by kernel_rfl)) r8106 p8108 c8109 (ho8112.rd M8115 1 (by kernel_rfl) 2 (by kernel_rfl)) x8090 hr8670).mono ?_
  rintro e_ w8682 ⟨p8672, c8673, sg8674, p8677, c8678, sg8679, sg8680, rfl, ho8675, ho8681, K8683⟩
  have M8684 := M8115.call K8683
  refine ⟨_, rfl, ?_⟩
  refine W_run 7 [(0, .slice p8082 x8080.length c8083), (1, .slice p8087 x8085.length c8088), (2, .int .i64 x8090), (8, .slice p8672 r8670.1.length c8673), (9, .slice p8677 r8670.2.1.length c8678), (10, .bool r8670.2.2)] w8682 (by kernel_rfl) ?_
  refine W_nil ?_
  refine N_then ?_
  refine G_seq ?_
  refine G_region ?_
  refine W_run 1 [(0, .slice p8082 x8080.length c8083), (1, .slice p8087 x8085.length c8088), (2, .int .i64 x8090), (8, .slice p8672 r8670.1.length c8673), (9, .slice p8677 r8670.2.1.length c8678), (10, .bool r8670.2.2), (40, .slice p8082 x8080.length c8083)] w8682 (by kernel_rfl) ?_
  obtain ⟨r8685, hr8685, hm⟩ := gx_bind hm
  refine W_call 15 #[.slice p8082 x8080.length c8083] (by kernel_rfl) (by kernel_rfl) ?_
  refine (c_l_toIntS w8682 x8080 p8082 c8083 (h8084.mem0 M8684) hr8685).mono ?_
  rintro e_ w8691 ⟨p8687, c8688, sg8689, rfl, ho8690, K8692⟩
  have M8693 := M8684.call K8692
  refine ⟨_, rfl, ?_⟩
  refine W_run 1 [(0, .slice p8082 x8080.length c8083), (1, .slice p8087 x8085.length c8088), (2, .int .i64 x8090), (8, .slice p8672 r8670.1.length c8673), (9, .slice p8677 r8670.2.1.length c8678), (10, .bool r8670.2.2), (11, .slice p8687 r8685.length c8688)] w8691 (by kernel_rfl) ?_
  refine W_nil ?_
  refine N_then ?_
  refine G_seq ?_
  refine G_region ?_
  refine W_run 1 [(0, .slice p8082 x8080.length c8083), (1, .slice p8087 x8085.length c8088), (2, .int .i64 x8090), (8, .slice p8672 r8670.1.length c8673), (9, .slice p8677 r8670.2.1.length c8678), (10, .bool r8670.2.2), (11, .slice p8687 r8685.length c8688), (42, .slice p8087 x8085.length c8088)] w8691 (by kernel_rfl) ?_
  obtain ⟨r8694, hr8694, hm⟩ := gx_bind hm
  refine W_call 16 #[.slice p8087 x8085.length c8088] (by kernel_rfl) (by kernel_rfl) ?_
  refine (c_l_toBalloonS w8691 x8085 p8087 c8088 (h8089.mem0 M8693) hr8694).mono ?_
  rintro e_ w8701 ⟨p8696, c8697, sg8698, sg8699, rfl, ho8700, K8702⟩
  have M8703 := M8693.call K8702
  refine ⟨_, rfl, ?_⟩
  refine W_run 1 [(0, .slice p8082 x8080.length c8083), (1, .slice p8087 x8085.length c8088), (2, .int .i64 x8090), (8, .slice p8672 r8670.1.length c8673), (9, .slice p8677 r8670.2.1.length c8678), (10, .bool r8670.2.2), (11, .slice p8687 r8685.length c8688), (12, .slice p8696 r8694.length c8697)] w8701 (by kernel_rfl) ?_
  refine W_nil ?_
  refine N_then ?_
  refine G_seq ?_
  refine G_region ?_
  refine W_run 3 [(0, .slice p8082 x8080.length c8083), (1, .slice p8087 x8085.length c8088), (2, .int .i64 x8090), (8, .slice p8672 r8670.1.length c8673), (9, .slice p8677 r8670.2.1.length c8678), (10, .bool r8670.2.2), (11, .slice p8687 r8685.length c8688), (12, .slice p8696 r8694.length c8697), (45, .slice p8687 r8685.length c8688), (46, .slice p8696 r8694.length c8697), (47, .int .i64 x8090)] w8701 (by kernel_rfl) ?_
  obtain ⟨r8966, hr8966, hm⟩ := gx_bind hm
  refine W_call 33 #[.slice p8687 r8685.length c8688, .slice p8696 r8694.length c8697, .int .i64 x8090] (by kernel_rfl) (by kernel_rfl) ?_
  refine (c_i_Deflate w8701 r8685 p8687 c8688 (ho8690.rd M8703 6 (by kernel_rfl)) r8694 p8696 c8697 (ho8700.rd M8703 7 (by kernel_rfl) 8 (by kernel_rfl)) x8090 hr8966).mono ?_
  rintro e_ w8978 ⟨p8968, c8969, sg8970, p8973, c8974, sg8975, sg8976, rfl, ho8971, ho8977, K8979⟩
  have M8980 := M8703.call K8979
  refine ⟨_, rfl, ?_⟩
  refine W_run 7 [(0, .slice p8082 x8080.length c8083), (1, .slice p8087 x8085.length c8088), (2, .int .i64 x8090), (8, .slice p8672 r8670.1.length c8673), (9, .slice p8677 r8670.2.1.length c8678), (10, .bool r8670.2.2), (11, .slice p8687 r8685.length c8688), (12, .slice p8696 r8694.length c8697), (13, .slice p8968 r8966.1.length c8969), (14, .slice p8973 r8966.2.1.length c8974), (15, .bool r8966.2.2)] w8978 (by kernel_rfl) ?_
  refine W_nil ?_
  refine N_then ?_
  refine G_seq ?_
  refine G_seq ?_
  obtain ⟨o8991, ho8992, hm8993⟩ := gx_bind hm
  refine G_meet (fun a w' => Mem [] w w' [sg8674, sg8679, sg8680, sg8689, sg8698, sg8699, sg8970, sg8975, sg8976] ∧ Sat Try.f8.ntmps [(0, .slice p8082 x8080.length c8083), (1, .slice p8087 x8085.length c8088), (2, .int .i64 x8090), (8, .slice p8672 r8670.1.length c8673), (9, .slice p8677 r8670.2.1.length c8678), (10, .bool r8670.2.2), (11, .slice p8687 r8685.length c8688), (12, .slice p8696 r8694.length c8697), (13, .slice p8968 r8966.1.length c8969), (14, .slice p8973 r8966.2.1.length c8974), (15, .bool r8966.2.2), (66, .bool o8991)] a) ?_ ?_
  · have hm := ho8992
    refine G_region ?_
    refine W_run 2 [(0, .slice p8082 x8080.length c8083), (1, .slice p8087 x8085.length c8088), (2, .int .i64 x8090), (8, .slice p8672 r8670.1.length c8673), (9, .slice p8677 r8670.2.1.length c8678), (10, .bool r8670.2.2), (11, .slice p8687 r8685.length c8688), (12, .slice p8696 r8694.length c8697), (13, .slice p8968 r8966.1.length c8969), (14, .slice p8973 r8966.2.1.length c8974), (15, .bool r8966.2.2), (52, .slice p8968 r8966.1.length c8969), (53, .slice p8672 r8670.1.length c8673)] w8978 (by kernel_rfl) ?_
    obtain ⟨r8994, hr8994, hm⟩ := gx_bind hm
    refine W_call 18 #[.slice p8968 r8966.1.length c8969, .slice p8672 r8670.1.length c8673] (by kernel_rfl) (by kernel_rfl) ?_
    refine (c_l_eqIntS w8978 r8966.1 p8968 c8969 (ho8971.rd M8980 9 (by kernel_rfl)) r8670.1 p8672 c8673 (ho8675.rd M8980 3 (by kernel_rfl)) hr8994).mono ?_
    rintro e_ w8995 ⟨rfl, K8996⟩
    have M8997 := M8980.call0 K8996
    refine ⟨_, rfl, ?_⟩
    refine W_run 2 [(0, .slice p8082 x8080.length c8083), (1, .slice p8087 x8085.length c8088), (2, .int .i64 x8090), (8, .slice p8672 r8670.1.length c8673), (9, .slice p8677 r8670.2.1.length c8678), (10, .bool r8670.2.2), (11, .slice p8687 r8685.length c8688), (12, .slice p8696 r8694.length c8697), (13, .slice p8968 r8966.1.length c8969), (14, .slice p8973 r8966.2.1.length c8974), (15, .bool r8966.2.2), (56, .bool (!r8994))] w8995 (by kernel_rfl) ?_
    rcases gx_bif hm with ⟨hc8998, hm⟩ | ⟨hc8998, hm⟩
    · refine W_known 56 true (by kernel_rfl) hc8998 ?_
      refine W_run 10 [(0, .slice p8082 x8080.length c8083), (1, .slice p8087 x8085.length c8088), (2, .int .i64 x8090), (8, .slice p8672 r8670.1.length c8673), (9, .slice p8677 r8670.2.1.length c8678), (10, .bool r8670.2.2), (11, .slice p8687 r8685.length c8688), (12, .slice p8696 r8694.length c8697), (13, .slice p8968 r8966.1.length c8969), (14, .slice p8973 r8966.2.1.length c8974), (15, .bool r8966.2.2), (66, .bool true)] w8995 (by kernel_rfl) ?_
      refine W_nil ?_
      obtain rfl := Option.some.inj hm
      exact N_meet fun a ha => ⟨M8997.pick [3, 4, 5, 6, 7, 8, 9, 10, 11] (by kernel_rfl), ha.sub (by kernel_rfl)⟩
    refine W_known 56 false (by kernel_rfl) hc8998 ?_
    refine W_run 2 [(0, .slice p8082 x8080.length c8083), (1, .slice p8087 x8085.length c8088), (2, .int .i64 x8090), (8, .slice p8672 r8670.1.length c8673), (9, .slice p8677 r8670.2.1.length c8678), (10, .bool r8670.2.2), (11, .slice p8687 r8685.length c8688), (12, .slice p8696 r8694.length c8697), (13, .slice p8968 r8966.1.length c8969), (14, .slice p8973 r8966.2.1.length c8974), (15, .bool r8966.2.2), (56, .bool false), (57, .slice p8973 r8966.2.1.length c8974), (58, .slice p8677 r8670.2.1.length c8678)] w8995 (by kernel_rfl) ?_
    obtain ⟨r8999, hr8999, hm⟩ := gx_bind hm
    refine W_call 19 #[.slice p8973 r8966.2.1.length c8974, .slice p8677 r8670.2.1.length c8678] (by kernel_rfl) (by kernel_rfl) ?_
    refine (c_l_eqBalloonS w8995 r8966.2.1 p8973 c8974 (ho8977.rd M8997 10 (by kernel_rfl) 11 (by kernel_rfl)) r8670.2.1 p8677 c8678 (ho8681.rd M8997 4 (by kernel_rfl) 5 (by kernel_rfl)) hr8999).mono ?_
    rintro e_ w9000 ⟨rfl, K9001⟩
    have M9002 := M8997.call0 K9001
    refine ⟨_, rfl, ?_⟩
    refine W_run 3 [(0, .slice p8082 x8080.length c8083), (1, .slice p8087 x8085.length c8088), (2, .int .i64 x8090), (8, .slice p8672 r8670.1.length c8673), (9, .slice p8677 r8670.2.1.length c8678), (10, .bool r8670.2.2), (11, .slice p8687 r8685.length c8688), (12, .slice p8696 r8694.length c8697), (13, .slice p8968 r8966.1.length c8969), (14, .slice p8973 r8966.2.1.length c8974), (15, .bool r8966.2.2), (62, .bool (!r8999))] w9000 (by kernel_rfl) ?_
    rcases gx_bif hm with ⟨hc9003, hm⟩ | ⟨hc9003, hm⟩
    · refine W_known 62 true (by kernel_rfl) hc9003 ?_
      refine W_run 4 [(0, .slice p8082 x8080.length c8083), (1, .slice p8087 x8085.length c8088), (2, .int .i64 x8090), (8, .slice p8672 r8670.1.length c8673), (9, .slice p8677 r8670.2.1.length c8678), (10, .bool r8670.2.2), (11, .slice p8687 r8685.length c8688), (12, .slice p8696 r8694.length c8697), (13, .slice p8968 r8966.1.length c8969), (14, .slice p8973 r8966.2.1.length c8974), (15, .bool r8966.2.2), (66, .bool true)] w9000 (by kernel_rfl) ?_
      refine W_nil ?_
      obtain rfl := Option.some.inj hm
      exact N_meet fun a ha => ⟨M9002.pick [3, 4, 5, 6, 7, 8, 9, 10, 11] (by kernel_rfl), ha.sub (by kernel_rfl)⟩
    refine W_known 62 false (by kernel_rfl) hc9003 ?_
    refine W_run 4 [(0, .slice p8082 x8080.length c8083), (1, .slice p8087 x8085.length c8088), (2, .int .i64 x8090), (8, .slice p8672 r8670.1.length c8673), (9, .slice p8677 r8670.2.1.length c8678), (10, .bool r8670.2.2), (11, .slice p8687 r8685.length c8688), (12, .slice p8696 r8694.length c8697), (13, .slice p8968 r8966.1.length c8969), (14, .slice p8973 r8966.2.1.length c8974), (15, .bool r8966.2.2), (66, .bool (!(r8966.2.2 == r8670.2.2)))] w9000 (by kernel_rfl) ?_
    refine W_nil ?_
    obtain rfl := Option.some.inj hm
    exact N_meet fun a ha => ⟨M9002.pick [3, 4, 5, 6, 7, 8, 9, 10, 11] (by kernel_rfl), ha.sub (by kernel_rfl)⟩
  intro a9006 w9004 ⟨M9005, hS9007⟩
  refine N_use hS9007 ?_
  have hm := hm8993
  refine N_then ?_
  rcases gx_bif hm with ⟨hc9008, hm⟩ | ⟨hc9008, hm⟩
  · refine G_cond_t (b := o8991) hc9008 (by kernel_rfl) ?_
    refine G_seq ?_
    refine G_region ?_
    refine W_run 1 [(6, .bool false)] w9004 (by kernel_rfl) ?_
    refine W_nil ?_
    refine N_then ?_
    refine G_ret ?_
    refine N_then_ret ?_
    obtain rfl := Option.some.inj hm
    refine N_ret [.bool false] (RVs_cons (RV_tmp (by kernel_rfl)) RVs_nil) ?_
    exact ⟨rfl, M9005.pick [] (by kernel_rfl)⟩
  refine G_cond_f (b := o8991) hc9008 (by kernel_rfl) ?_
  refine G_skip ?_
  refine N_then ?_
  refine G_seq ?_
  refine G_seq ?_
  refine G_region ?_
  refine W_run 2 [(0, .slice p8082 x8080.length c8083), (1, .slice p8087 x8085.length c8088), (2, .int .i64 x8090), (8, .slice p8672 r8670.1.length c8673), (9, .slice p8677 r8670.2.1.length c8678), (10, .bool r8670.2.2), (11, .slice p8687 r8685.length c8688), (12, .slice p8696 r8694.length c8697), (13, .slice p8968 r8966.1.length c8969), (14, .slice p8973 r8966.2.1.length c8974), (15, .bool r8966.2.2), (67, .slice p8687 r8685.length c8688), (68, .slice p8082 x8080.length c8083)] w9004 (by kernel_rfl) ?_
  obtain ⟨r9009, hr9009, hm⟩ := gx_bind hm
  refine W_call 15 #[.slice p8082 x8080.length c8083] (by kernel_rfl) (by kernel_rfl) ?_
  refine (c_l_toIntS w9004 x8080 p8082 c8083 (h8084.mem0 M9005) hr9009).mono ?_
  rintro e_ w9015 ⟨p9011, c9012, sg9013, rfl, ho9014, K9016⟩
  have M9017 := M9005.call K9016
  refine ⟨_, rfl, ?_⟩
  obtain ⟨r9018, hr9018, hm⟩ := gx_bind hm
  refine W_call 18 #[.slice p8687 r8685.length c8688, .slice p9011 r9009.length c9012] (by kernel_rfl) (by kernel_rfl) ?_
  refine (c_l_eqIntS w9015 r8685 p8687 c8688 (ho8690.rd M9017 3 (by kernel_rfl)) r9009 p9011 c9012 (ho9014.rd M9017 9 (by kernel_rfl)) hr9018).mono ?_
  rintro e_ w9019 ⟨rfl, K9020⟩
  have M9021 := M9017.call0 K9020
  refine ⟨_, rfl, ?_⟩
  refine W_run 1 [(0, .slice p8082 x8080.length c8083), (1, .slice p8087 x8085.length c8088), (2, .int .i64 x8090), (8, .slice p8672 r8670.1.length c8673), (9, .slice p8677 r8670.2.1.length c8678), (10, .bool r8670.2.2), (11, .slice p8687 r8685.length c8688), (12, .slice p8696 r8694.length c8697), (13, .slice p8968 r8966.1.length c8969), (14, .slice p8973 r8966.2.1.length c8974), (15, .bool r8966.2.2), (71, .bool (!r9018))] w9019 (by kernel_rfl) ?_
  refine W_nil ?_
  refine N_then ?_
  rcases gx_bif hm with ⟨hc9022, hm⟩ | ⟨hc9022, hm⟩
  · refine G_cond_t (b := (!r9018)) hc9022 (by kernel_rfl) ?_
    refine G_seq ?_
    refine G_region ?_
    refine W_run 1 [(6, .bool false)] w9019 (by kernel_rfl) ?_
    refine W_nil ?_
    refine N_then ?_
    refine G_ret ?_
    refine N_then_ret ?_
    obtain rfl := Option.some.inj hm
    refine N_ret [.bool false] (RVs_cons (RV_tmp (by kernel_rfl)) RVs_nil) ?_
    exact ⟨rfl, M9021.pick [] (by kernel_rfl)⟩
  refine G_cond_f (b := (!r9018)) hc9022 (by kernel_rfl) ?_
  refine G_skip ?_
  refine N_then ?_
  refine G_seq ?_
  refine G_seq ?_
  refine G_region ?_
  refine W_run 2 [(0, .slice p8082 x8080.length c8083), (1, .slice p8087 x8085.length c8088), (2, .int .i64 x8090), (8, .slice p8672 r8670.1.length c8673), (9, .slice p8677 r8670.2.1.length c8678), (10, .bool r8670.2.2), (11, .slice p8687 r8685.length c8688), (12, .slice p8696 r8694.length c8697), (13, .slice p8968 r8966.1.length c8969), (14, .slice p8973 r8966.2.1.length c8974), (15, .bool r8966.2.2), (72, .slice p8696 r8694.length c8697), (73, .slice p8087 x8085.length c8088)] w9019 (by kernel_rfl) ?_
  obtain ⟨r9023, hr9023, hm⟩ := gx_bind hm
  refine W_call 16 #[.slice p8087 x8085.length c8088] (by kernel_rfl) (by kernel_rfl) ?_
  refine (c_l_toBalloonS w9019 x8085 p8087 c8088 (h8089.mem0 M9021) hr9023).mono ?_
  rintro e_ w9030 ⟨p9025, c9026, sg9027, sg9028, rfl, ho9029, K9031⟩
  have M9032 := M9021.call K9031
  refine ⟨_, rfl, ?_⟩
  obtain ⟨r9033, hr9033, hm⟩ := gx_bind hm
  refine W_call 19 #[.slice p8696 r8694.length c8697, .slice p9025 r9023.length c9026] (by kernel_rfl) (by kernel_rfl) ?_
  refine (c_l_eqBalloonS w9030 r8694 p8696 c8697 (ho8700.rd M9032 4 (by kernel_rfl) 5 (by kernel_rfl)) r9023 p9025 c9026 (ho9029.rd M9032 10 (by kernel_rfl) 11 (by kernel_rfl)) hr9033).mono ?_
  rintro e_ w9034 ⟨rfl, K9035⟩
  have M9036 := M9032.call0 K9035
  refine ⟨_, rfl, ?_⟩
  refine W_run 1 [(0, .slice p8082 x8080.length c8083), (1, .slice p8087 x8085.length c8088), (2, .int .i64 x8090), (8, .slice p8672 r8670.1.length c8673), (9, .slice p8677 r8670.2.1.length c8678), (10, .bool r8670.2.2), (11, .slice p8687 r8685.length c8688), (12, .slice p8696 r8694.length c8697), (13, .slice p8968 r8966.1.length c8969), (14, .slice p8973 r8966.2.1.length c8974), (15, .bool r8966.2.2), (76, .bool (!r9033))] w9034 (by kernel_rfl) ?_
  refine W_nil ?_
  refine N_then ?_
  rcases gx_bif hm with ⟨hc9037, hm⟩ | ⟨hc9037, hm⟩
  · refine G_cond_t (b := (!r9033)) hc9037 (by kernel_rfl) ?_
    refine G_seq ?_
    refine G_region ?_
    refine W_run 1 [(6, .bool false)] w9034 (by kernel_rfl) ?_
    refine W_nil ?_
    refine N_then ?_
    refine G_ret ?_
    refine N_then_ret ?_
    obtain rfl := Option.some.inj hm
    refine N_ret [.bool false] (RVs_cons (RV_tmp (by kernel_rfl)) RVs_nil) ?_
    exact ⟨rfl, M9036.pick [] (by kernel_rfl)⟩
  refine G_cond_f (b := (!r9033)) hc9037 (by kernel_rfl) ?_
  refine G_skip ?_
  refine N_then ?_
  refine G_seq ?_
  refine G_region ?_
  refine W_run 1 [(0, .slice p8082 x8080.length c8083), (1, .slice p8087 x8085.length c8088), (2, .int .i64 x8090), (8, .slice p8672 r8670.1.length c8673), (9, .slice p8677 r8670.2.1.length c8678), (10, .bool r8670.2.2), (11, .slice p8687 r8685.length c8688), (12, .slice p8696 r8694.length c8697), (13, .slice p8968 r8966.1.length c8969), (14, .slice p8973 r8966.2.1.length c8974), (15, .bool r8966.2.2), (16, .int .i64 1)] w9034 (by kernel_rfl) ?_
  refine W_nil ?_
  refine N_then ?_
  refine G_seq ?_
  refine G_region ?_
  refine W_run 2 [(0, .slice p8082 x8080.length c8083), (1, .slice p8087 x8085.length c8088), (2, .int .i64 x8090), (8, .slice p8672 r8670.1.length c8673), (9, .slice p8677 r8670.2.1.length c8678), (10, .bool r8670.2.2), (12, .slice p8696 r8694.length c8697), (13, .slice p8968 r8966.1.length c8969), (14, .slice p8973 r8966.2.1.length c8974), (15, .bool r8966.2.2), (16, .int .i64 1), (77, .slice p8687 r8685.length c8688), (78, .int .i64 1)] w9034 (by kernel_rfl) ?_
  obtain ⟨r9038, hr9038, hm⟩ := gx_bind hm
  refine W_call 24 #[.slice p8687 r8685.length c8688, .int .i64 1] (by kernel_rfl) (by kernel_rfl) ?_
  refine (c_l_markIntS w9034 r8685 p8687 c8688 sg8689 ho8690 1 (M9036.hasPick [3]) (M9036.nodupPick [3] (by kernel_rfl)) hr9038).mono ?_
  rintro e_ w9042 ⟨sg9039, rfl, ho9040, hl9041, K9043⟩
  have M9044 := M9036.callF' [3] [0, 1, 2, 4, 5, 6, 7, 8, 9, 10, 11] (by kernel_rfl) K9043
  refine ⟨_, rfl, ?_⟩
  refine W_conv 77 (.slice p8687 r8685.length c8688) (.slice p8687 r9038.2.length c8688) (by kernel_rfl) (by first | rw [hl9041] | rw [hl9041]) ?_
  refine W_run 1 [(0, .slice p8082 x8080.length c8083), (1, .slice p8087 x8085.length c8088), (2, .int .i64 x8090), (8, .slice p8672 r8670.1.length c8673), (9, .slice p8677 r8670.2.1.length c8678), (10, .bool r8670.2.2), (12, .slice p8696 r8694.length c8697), (13, .slice p8968 r8966.1.length c8969), (14, .slice p8973 r8966.2.1.length c8974), (15, .bool r8966.2.2), (16, .int .i64 r9038.1)] w9042 (by kernel_rfl) ?_
  refine W_nil ?_
  refine N_then ?_
  refine G_seq ?_
  refine G_region ?_
  refine W_run 2 [(0, .slice p8082 x8080.length c8083), (1, .slice p8087 x8085.length c8088), (2, .int .i64 x8090), (8, .slice p8672 r8670.1.length c8673), (9, .slice p8677 r8670.2.1.length c8678), (10, .bool r8670.2.2), (13, .slice p8968 r8966.1.length c8969), (14, .slice p8973 r8966.2.1.length c8974), (15, .bool r8966.2.2), (16, .int .i64 r9038.1), (80, .slice p8696 r8694.length c8697), (81, .int .i64 r9038.1)] w9042 (by kernel_rfl) ?_
  obtain ⟨r9045, hr9045, hm⟩ := gx_bind hm
  refine W_call 25 #[.slice p8696 r8694.length c8697, .int .i64 r9038.1] (by kernel_rfl) (by kernel_rfl) ?_
  refine (c_l_markBalloonS w9042 r8694 p8696 c8697 sg8698 sg8699 ho8700 r9038.1 (M9044.hasPick [3, 4]) (M9044.nodupPick [3, 4] (by kernel_rfl)) hr9045).mono ?_
  rintro e_ w9050 ⟨sg9046, sg9047, rfl, ho9048, hl9049, K9051⟩
  have M9052 := M9044.callF' [3, 4] [0, 1, 2, 5, 6, 7, 8, 9, 10, 11] (by kernel_rfl) K9051
  refine ⟨_, rfl, ?_⟩
  refine W_conv 80 (.slice p8696 r8694.length c8697) (.slice p8696 r9045.2.length c8697) (by kernel_rfl) (by first | rw [hl9049] | rw [hl9049]) ?_
  refine W_run 1 [(0, .slice p8082 x8080.length c8083), (1, .slice p8087 x8085.length c8088), (2, .int .i64 x8090), (8, .slice p8672 r8670.1.length c8673), (9, .slice p8677 r8670.2.1.length c8678), (10, .bool r8670.2.2), (13, .slice p8968 r8966.1.length c8969), (14, .slice p8973 r8966.2.1.length c8974), (15, .bool r8966.2.2), (16, .int .i64 r9045.1)] w9050 (by kernel_rfl) ?_
  refine W_nil ?_
  refine N_then ?_
  refine G_seq ?_
  refine G_seq ?_
  obtain ⟨o9064, ho9065, hm9066⟩ := gx_bind hm
  refine G_meet (fun a w' => Mem [] w w' [sg8674, sg8679, sg8680, sg8970, sg8975, sg8976] ∧ Sat Try.f8.ntmps [(0, .slice p8082 x8080.length c8083), (1, .slice p8087 x8085.length c8088), (2, .int .i64 x8090), (8, .slice p8672 r8670.1.length c8673), (9, .slice p8677 r8670.2.1.length c8678), (10, .bool r8670.2.2), (13, .slice p8968 r8966.1.length c8969), (14, .slice p8973 r8966.2.1.length c8974), (101, .bool o9064)] a) ?_ ?_
  · have hm := ho9065
    refine G_region ?_
    refine W_run 3 [(0, .slice p8082 x8080.length c8083), (1, .slice p8087 x8085.length c8088), (2, .int .i64 x8090), (8, .slice p8672 r8670.1.length c8673), (9, .slice p8677 r8670.2.1.length c8678), (10, .bool r8670.2.2), (13, .slice p8968 r8966.1.length c8969), (14, .slice p8973 r8966.2.1.length c8974), (15, .bool r8966.2.2), (85, .bool (decide (r9045.1 < 0)))] w9050 (by kernel_rfl) ?_
    rcases gx_bif hm with ⟨hc9067, hm⟩ | ⟨hc9067, hm⟩
    · refine W_known 85 true (by kernel_rfl) hc9067 ?_
      refine W_run 16 [(0, .slice p8082 x8080.length c8083), (1, .slice p8087 x8085.length c8088), (2, .int .i64 x8090), (8, .slice p8672 r8670.1.length c8673), (9, .slice p8677 r8670.2.1.length c8678), (10, .bool r8670.2.2), (13, .slice p8968 r8966.1.length c8969), (14, .slice p8973 r8966.2.1.length c8974), (101, .bool true)] w9050 (by kernel_rfl) ?_
      refine W_nil ?_
      obtain rfl := Option.some.inj hm
      exact N_meet fun a ha => ⟨M9052.pick [0, 1, 2, 3, 4, 5] (by kernel_rfl), ha.sub (by kernel_rfl)⟩
    refine W_known 85 false (by kernel_rfl) hc9067 ?_
    refine W_run 2 [(0, .slice p8082 x8080.length c8083), (1, .slice p8087 x8085.length c8088), (2, .int .i64 x8090), (8, .slice p8672 r8670.1.length c8673), (9, .slice p8677 r8670.2.1.length c8678), (10, .bool r8670.2.2), (13, .slice p8968 r8966.1.length c8969), (14, .slice p8973 r8966.2.1.length c8974), (15, .bool r8966.2.2), (85, .bool false), (86, .slice p8968 r8966.1.length c8969), (87, .slice p8672 r8670.1.length c8673)] w9050 (by kernel_rfl) ?_
    obtain ⟨r9068, hr9068, hm⟩ := gx_bind hm
    refine W_call 18 #[.slice p8968 r8966.1.length c8969, .slice p8672 r8670.1.length c8673] (by kernel_rfl) (by kernel_rfl) ?_
    refine (c_l_eqIntS w9050 r8966.1 p8968 c8969 (ho8971.rd M9052 3 (by kernel_rfl)) r8670.1 p8672 c8673 (ho8675.rd M9052 0 (by kernel_rfl)) hr9068).mono ?_
    rintro e_ w9069 ⟨rfl, K9070⟩
    have M9071 := M9052.call0 K9070
    refine ⟨_, rfl, ?_⟩
    refine W_run 3 [(0, .slice p8082 x8080.length c8083), (1, .slice p8087 x8085.length c8088), (2, .int .i64 x8090), (8, .slice p8672 r8670.1.length c8673), (9, .slice p8677 r8670.2.1.length c8678), (10, .bool r8670.2.2), (13, .slice p8968 r8966.1.length c8969), (14, .slice p8973 r8966.2.1.length c8974), (15, .bool r8966.2.2), (91, .bool (!r9068))] w9069 (by kernel_rfl) ?_
    rcases gx_bif hm with ⟨hc9072, hm⟩ | ⟨hc9072, hm⟩
    · refine W_known 91 true (by kernel_rfl) hc9072 ?_
      refine W_run 10 [(0, .slice p8082 x8080.length c8083), (1, .slice p8087 x8085.length c8088), (2, .int .i64 x8090), (8, .slice p8672 r8670.1.length c8673), (9, .slice p8677 r8670.2.1.length c8678), (10, .bool r8670.2.2), (13, .slice p8968 r8966.1.length c8969), (14, .slice p8973 r8966.2.1.length c8974), (101, .bool true)] w9069 (by kernel_rfl) ?_
      refine W_nil ?_
      obtain rfl := Option.some.inj hm
      exact N_meet fun a ha => ⟨M9071.pick [0, 1, 2, 3, 4, 5] (by kernel_rfl), ha.sub (by kernel_rfl)⟩
    refine W_known 91 false (by kernel_rfl) hc9072 ?_
    refine W_run 2 [(0, .slice p8082 x8080.length c8083), (1, .slice p8087 x8085.length c8088), (2, .int .i64 x8090), (8, .slice p8672 r8670.1.length c8673), (9, .slice p8677 r8670.2.1.length c8678), (10, .bool r8670.2.2), (13, .slice p8968 r8966.1.length c8969), (14, .slice p8973 r8966.2.1.length c8974), (15, .bool r8966.2.2), (91, .bool false), (92, .slice p8973 r8966.2.1.length c8974), (93, .slice p8677 r8670.2.1.length c8678)] w9069 (by kernel_rfl) ?_
    obtain ⟨r9073, hr9073, hm⟩ := gx_bind hm
    refine W_call 19 #[.slice p8973 r8966.2.1.length c8974, .slice p8677 r8670.2.1.length c8678] (by kernel_rfl) (by kernel_rfl) ?_
    refine (c_l_eqBalloonS w9069 r8966.2.1 p8973 c8974 (ho8977.rd M9071 4 (by kernel_rfl) 5 (by kernel_rfl)) r8670.2.1 p8677 c8678 (ho8681.rd M9071 1 (by kernel_rfl) 2 (by kernel_rfl)) hr9073).mono ?_
    rintro e_ w9074 ⟨rfl, K9075⟩
    have M9076 := M9071.call0 K9075
    refine ⟨_, rfl, ?_⟩
    refine W_run 3 [(0, .slice p8082 x8080.length c8083), (1, .slice p8087 x8085.length c8088), (2, .int .i64 x8090), (8, .slice p8672 r8670.1.length c8673), (9, .slice p8677 r8670.2.1.length c8678), (10, .bool r8670.2.2), (13, .slice p8968 r8966.1.length c8969), (14, .slice p8973 r8966.2.1.length c8974), (15, .bool r8966.2.2), (97, .bool (!r9073))] w9074 (by kernel_rfl) ?_
    rcases gx_bif hm with ⟨hc9077, hm⟩ | ⟨hc9077, hm⟩
    · refine W_known 97 true (by kernel_rfl) hc9077 ?_
      refine W_run 4 [(0, .slice p8082 x8080.length c8083), (1, .slice p8087 x8085.length c8088), (2, .int .i64 x8090), (8, .slice p8672 r8670.1.length c8673), (9, .slice p8677 r8670.2.1.length c8678), (10, .bool r8670.2.2), (13, .slice p8968 r8966.1.length c8969), (14, .slice p8973 r8966.2.1.length c8974), (101, .bool true)] w9074 (by kernel_rfl) ?_
      refine W_nil ?_
      obtain rfl := Option.some.inj hm
      exact N_meet fun a ha => ⟨M9076.pick [0, 1, 2, 3, 4, 5] (by kernel_rfl), ha.sub (by kernel_rfl)⟩
    refine W_known 97 false (by kernel_rfl) hc9077 ?_
    refine W_run 4 [(0, .slice p8082 x8080.length c8083), (1, .slice p8087 x8085.length c8088), (2, .int .i64 x8090), (8, .slice p8672 r8670.1.length c8673), (9, .slice p8677 r8670.2.1.length c8678), (10, .bool r8670.2.2), (13, .slice p8968 r8966.1.length c8969), (14, .slice p8973 r8966.2.1.length c8974), (101, .bool (!(r8966.2.2 == r8670.2.2)))] w9074 (by kernel_rfl) ?_
    refine W_nil ?_
    obtain rfl := Option.some.inj hm
    exact N_meet fun a ha => ⟨M9076.pick [0, 1, 2, 3, 4, 5] (by kernel_rfl), ha.sub (by kernel_rfl)⟩
  intro a9080 w9078 ⟨M9079, hS9081⟩
  refine N_use hS9081 ?_
  have hm := hm9066
  refine N_then ?_
  rcases gx_bif hm with ⟨hc9082, hm⟩ | ⟨hc9082, hm⟩
  · refine G_cond_t (b := o9064) hc9082 (by kernel_rfl) ?_
    refine G_seq ?_
    refine G_region ?_
    refine W_run 1 [(6, .bool false)] w9078 (by kernel_rfl) ?_
    refine W_nil ?_
    refine N_then ?_
    refine G_ret ?_
    refine N_then_ret ?_
    obtain rfl := Option.some.inj hm
    refine N_ret [.bool false] (RVs_cons (RV_tmp (by kernel_rfl)) RVs_nil) ?_
    exact ⟨rfl, M9079.pick [] (by kernel_rfl)⟩
  refine G_cond_f (b := o9064) hc9082 (by kernel_rfl) ?_
  refine G_skip ?_
  refine N_then ?_
  refine G_seq ?_
  refine G_region ?_
  refine W_run 1 [(0, .slice p8082 x8080.length c8083), (1, .slice p8087 x8085.length c8088), (2, .int .i64 x8090), (8, .slice p8672 r8670.1.length c8673), (9, .slice p8677 r8670.2.1.length c8678), (10, .bool r8670.2.2), (13, .slice p8968 r8966.1.length c8969), (14, .slice p8973 r8966.2.1.length c8974), (17, .int .i64 1)] w9078 (by kernel_rfl) ?_
  refine W_nil ?_
  refine N_then ?_
  refine G_seq ?_
  refine G_region ?_
  refine W_run 2 [(0, .slice p8082 x8080.length c8083), (1, .slice p8087 x8085.length c8088), (2, .int .i64 x8090), (8, .slice p8672 r8670.1.length c8673), (9, .slice p8677 r8670.2.1.length c8678), (10, .bool r8670.2.2), (13, .slice p8968 r8966.1.length c8969), (14, .slice p8973 r8966.2.1.length c8974), (17, .int .i64 1), (102, .slice p8968 r8966.1.length c8969), (103, .int .i64 1)] w9078 (by kernel_rfl) ?_
  obtain ⟨r9083, hr9083, hm⟩ := gx_bind hm
  refine W_call 24 #[.slice p8968 r8966.1.length c8969, .int .i64 1] (by kernel_rfl) (by kernel_rfl) ?_
  refine (c_l_markIntS w9078 r8966.1 p8968 c8969 sg8970 ho8971 1 (M9079.hasPick [3]) (M9079.nodupPick [3] (by kernel_rfl)) hr9083).mono ?_
  rintro e_ w9087 ⟨sg9084, rfl, ho9085, hl9086, K9088⟩
  have M9089 := M9079.callF' [3] [0, 1, 2, 4, 5] (by kernel_rfl) K9088
  refine ⟨_, rfl, ?_⟩
  refine W_conv 13 (.slice p8968 r8966.1.length c8969) (.slice p8968 r9083.2.length c8969) (by kernel_rfl) (by first | rw [hl9086] | rw [hl9086]) ?_
  refine W_conv 102 (.slice p8968 r8966.1.length c8969) (.slice p8968 r9083.2.length c8969) (by kernel_rfl) (by first | rw [hl9086] | rw [hl9086]) ?_
  refine W_run 1 [(0, .slice p8082 x8080.length c8083), (1, .slice p8087 x8085.length c8088), (2, .int .i64 x8090), (8, .slice p8672 r8670.1.length c8673), (9, .slice p8677 r8670.2.1.length c8678), (10, .bool r8670.2.2), (13, .slice p8968 r9083.2.length c8969), (14, .slice p8973 r8966.2.1.length c8974), (17, .int .i64 r9083.1)] w9087 (by kernel_rfl) ?_
  refine W_nil ?_
  refine N_then ?_
  refine G_seq ?_
  refine G_region ?_
  refine W_run 2 [(0, .slice p8082 x8080.length c8083), (1, .slice p8087 x8085.length c8088), (2, .int .i64 x8090), (8, .slice p8672 r8670.1.length c8673), (9, .slice p8677 r8670.2.1.length c8678), (10, .bool r8670.2.2), (13, .slice p8968 r9083.2.length c8969), (14, .slice p8973 r8966.2.1.length c8974), (17, .int .i64 r9083.1), (105, .slice p8973 r8966.2.1.length c8974), (106, .int .i64 r9083.1)] w9087 (by kernel_rfl) ?_
  obtain ⟨r9090, hr9090, hm⟩ := gx_bind hm
  refine W_call 25 #[.slice p8973 r8966.2.1.length c8974, .int .i64 r9083.1] (by kernel_rfl) (by kernel_rfl) ?_
  refine (c_l_markBalloonS w9087 r8966.2.1 p8973 c8974 sg8975 sg8976 ho8977 r9083.1 (M9089.hasPick [3, 4]) (M9089.nodupPick [3, 4] (by kernel_rfl)) hr9090).mono ?_
  rintro e_ w9095 ⟨sg9091, sg9092, rfl, ho9093, hl9094, K9096⟩
  have M9097 := M9089.callF' [3, 4] [0, 1, 2, 5] (by kernel_rfl) K9096
  refine ⟨_, rfl, ?_⟩
  refine W_conv 14 (.slice p8973 r8966.2.1.length c8974) (.slice p8973 r9090.2.length c8974) (by kernel_rfl) (by first | rw [hl9094] | rw [hl9094]) ?_
  refine W_conv 105 (.slice p8973 r8966.2.1.length c8974) (.slice p8973 r9090.2.length c8974) (by kernel_rfl) (by first | rw [hl9094] | rw [hl9094]) ?_
  refine W_run 1 [(0, .slice p8082 x8080.length c8083), (1, .slice p8087 x8085.length c8088), (2, .int .i64 x8090), (8, .slice p8672 r8670.1.length c8673), (9, .slice p8677 r8670.2.1.length c8678), (10, .bool r8670.2.2), (13, .slice p8968 r9083.2.length c8969), (14, .slice p8973 r9090.2.length c8974), (17, .int .i64 r9090.1)] w9095 (by kernel_rfl) ?_
  refine W_nil ?_
  refine N_then ?_
  refine G_seq ?_
  refine G_region ?_
  refine W_run 1 [(0, .slice p8082 x8080.length c8083), (1, .slice p8087 x8085.length c8088), (2, .int .i64 x8090), (8, .slice p8672 r8670.1.length c8673), (9, .slice p8677 r8670.2.1.length c8678), (10, .bool r8670.2.2), (13, .slice p8968 r9083.2.length c8969), (14, .slice p8973 r9090.2.length c8974), (17, .int .i64 r9090.1), (18, .int .i64 1)] w9095 (by kernel_rfl) ?_
  refine W_nil ?_
  refine N_then ?_
  refine G_seq ?_
  refine G_region ?_
  refine W_run 2 [(0, .slice p8082 x8080.length c8083), (1, .slice p8087 x8085.length c8088), (2, .int .i64 x8090), (8, .slice p8672 r8670.1.length c8673), (9, .slice p8677 r8670.2.1.length c8678), (10, .bool r8670.2.2), (13, .slice p8968 r9083.2.length c8969), (14, .slice p8973 r9090.2.length c8974), (17, .int .i64 r9090.1), (18, .int .i64 1), (108, .slice p8968 r9083.2.length c8969), (109, .int .i64 1)] w9095 (by kernel_rfl) ?_
  obtain ⟨r9098, hr9098, hm⟩ := gx_bind hm
  refine W_call 29 #[.slice p8968 r9083.2.length c8969, .int .i64 1] (by kernel_rfl) (by kernel_rfl) ?_
  refine (c_l_heldIntS w9095 r9083.2 p8968 c8969 (ho9085.rd M9097 3 (by kernel_rfl)) 1 hr9098).mono ?_
  rintro e_ w9099 ⟨rfl, K9100⟩
  have M9101 := M9097.call0 K9100
  refine ⟨_, rfl, ?_⟩
  refine W_run 1 [(0, .slice p8082 x8080.length c8083), (1, .slice p8087 x8085.length c8088), (2, .int .i64 x8090), (8, .slice p8672 r8670.1.length c8673), (9, .slice p8677 r8670.2.1.length c8678), (10, .bool r8670.2.2), (13, .slice p8968 r9083.2.length c8969), (14, .slice p8973 r9090.2.length c8974), (17, .int .i64 r9090.1), (18, .int .i64 r9098)] w9099 (by kernel_rfl) ?_
  refine W_nil ?_
  refine N_then ?_
  refine G_seq ?_
  refine G_seq ?_
  refine G_region ?_
  refine W_run 2 [(0, .slice p8082 x8080.length c8083), (1, .slice p8087 x8085.length c8088), (2, .int .i64 x8090), (8, .slice p8672 r8670.1.length c8673), (9, .slice p8677 r8670.2.1.length c8678), (10, .bool r8670.2.2), (13, .slice p8968 r9083.2.length c8969), (14, .slice p8973 r9090.2.length c8974), (17, .int .i64 r9090.1), (18, .int .i64 r9098), (112, .bool (decide (r9098 < 0)))] w9099 (by kernel_rfl) ?_
  refine W_nil ?_
  refine N_then ?_
  rcases gx_bif hm with ⟨hc9102, hm⟩ | ⟨hc9102, hm⟩
  · refine G_cond_t (b := (decide (r9098 < 0))) hc9102 (by kernel_rfl) ?_
    refine G_seq ?_
    refine G_region ?_
    refine W_run 1 [(6, .bool false)] w9099 (by kernel_rfl) ?_
    refine W_nil ?_
    refine N_then ?_
    refine G_ret ?_
    refine N_then_ret ?_
    obtain rfl := Option.some.inj hm
    refine N_ret [.bool false] (RVs_cons (RV_tmp (by kernel_rfl)) RVs_nil) ?_
    exact ⟨rfl, M9101.pick [] (by kernel_rfl)⟩
  refine G_cond_f (b := (decide (r9098 < 0))) hc9102 (by kernel_rfl) ?_
  refine G_skip ?_
  refine N_then ?_
  refine G_seq ?_
  refine G_region ?_
  refine W_run 2 [(0, .slice p8082 x8080.length c8083), (1, .slice p8087 x8085.length c8088), (2, .int .i64 x8090), (8, .slice p8672 r8670.1.length c8673), (9, .slice p8677 r8670.2.1.length c8678), (10, .bool r8670.2.2), (13, .slice p8968 r9083.2.length c8969), (14, .slice p8973 r9090.2.length c8974), (17, .int .i64 r9090.1), (18, .int .i64 r9098), (113, .slice p8973 r9090.2.length c8974), (114, .int .i64 r9098)] w9099 (by kernel_rfl) ?_
  obtain ⟨r9103, hr9103, hm⟩ := gx_bind hm
  refine W_call 26 #[.slice p8973 r9090.2.length c8974, .int .i64 r9098] (by kernel_rfl) (by kernel_rfl) ?_
  refine (c_l_heldBalloonS w9099 r9090.2 p8973 c8974 (ho9093.rd M9101 4 (by kernel_rfl) 5 (by kernel_rfl)) r9098 hr9103).mono ?_
  rintro e_ w9104 ⟨rfl, K9105⟩
  have M9106 := M9101.call0 K9105
  refine ⟨_, rfl, ?_⟩
  refine W_run 1 [(0, .slice p8082 x8080.length c8083), (1, .slice p8087 x8085.length c8088), (2, .int .i64 x8090), (8, .slice p8672 r8670.1.length c8673), (9, .slice p8677 r8670.2.1.length c8678), (10, .bool r8670.2.2), (13, .slice p8968 r9083.2.length c8969), (14, .slice p8973 r9090.2.length c8974), (17, .int .i64 r9090.1), (18, .int .i64 r9103)] w9104 (by kernel_rfl) ?_
  refine W_nil ?_
  refine N_then ?_
  refine G_seq ?_
  refine G_seq ?_
  refine G_region ?_
  refine W_run 2 [(0, .slice p8082 x8080.length c8083), (1, .slice p8087 x8085.length c8088), (2, .int .i64 x8090), (8, .slice p8672 r8670.1.length c8673), (9, .slice p8677 r8670.2.1.length c8678), (10, .bool r8670.2.2), (13, .slice p8968 r9083.2.length c8969), (14, .slice p8973 r9090.2.length c8974), (17, .int .i64 r9090.1), (18, .int .i64 r9103), (117, .bool (decide (r9103 < 0)))] w9104 (by kernel_rfl) ?_
  refine W_nil ?_
  refine N_then ?_
  rcases gx_bif hm with ⟨hc9107, hm⟩ | ⟨hc9107, hm⟩
  · refine G_cond_t (b := (decide (r9103 < 0))) hc9107 (by kernel_rfl) ?_
    refine G_seq ?_
    refine G_region ?_
    refine W_run 1 [(6, .bool false)] w9104 (by kernel_rfl) ?_
    refine W_nil ?_
    refine N_then ?_
    refine G_ret ?_
    refine N_then_ret ?_
    obtain rfl := Option.some.inj hm
    refine N_ret [.bool false] (RVs_cons (RV_tmp (by kernel_rfl)) RVs_nil) ?_
    exact ⟨rfl, M9106.pick [] (by kernel_rfl)⟩
  refine G_cond_f (b := (decide (r9103 < 0))) hc9107 (by kernel_rfl) ?_
  refine G_skip ?_
  refine N_then ?_
  refine G_seq ?_
  refine G_seq ?_
  refine G_region ?_
  refine W_run 3 [(0, .slice p8082 x8080.length c8083), (1, .slice p8087 x8085.length c8088), (2, .int .i64 x8090), (8, .slice p8672 r8670.1.length c8673), (9, .slice p8677 r8670.2.1.length c8678), (10, .bool r8670.2.2), (13, .slice p8968 r9083.2.length c8969), (14, .slice p8973 r9090.2.length c8974), (17, .int .i64 r9090.1), (120, .bool (r9103 != r9090.1))] w9104 (by kernel_rfl) ?_
  refine W_nil ?_
  refine N_then ?_
  rcases gx_bif hm with ⟨hc9108, hm⟩ | ⟨hc9108, hm⟩
  · refine G_cond_t (b := (r9103 != r9090.1)) hc9108 (by kernel_rfl) ?_
    refine G_seq ?_
    refine G_region ?_
    refine W_run 1 [(6, .bool false)] w9104 (by kernel_rfl) ?_
    refine W_nil ?_
    refine N_then ?_
    refine G_ret ?_
    refine N_then_ret ?_
    obtain rfl := Option.some.inj hm
    refine N_ret [.bool false] (RVs_cons (RV_tmp (by kernel_rfl)) RVs_nil) ?_
    exact ⟨rfl, M9106.pick [] (by kernel_rfl)⟩
  refine G_cond_f (b := (r9103 != r9090.1)) hc9108 (by kernel_rfl) ?_
  refine G_skip ?_
  refine N_then ?_
  refine G_seq ?_
  refine G_region ?_
  refine W_run 1 [(1, .slice p8087 x8085.length c8088), (2, .int .i64 x8090), (8, .slice p8672 r8670.1.length c8673), (9, .slice p8677 r8670.2.1.length c8678), (10, .bool r8670.2.2), (13, .slice p8968 r9083.2.length c8969), (14, .slice p8973 r9090.2.length c8974), (17, .int .i64 r9090.1), (122, .slice p8082 x8080.length c8083)] w9104 (by kernel_rfl) ?_
  obtain ⟨r9109, hr9109, hm⟩ := gx_bind hm
  refine W_call 15 #[.slice p8082 x8080.length c8083] (by kernel_rfl) (by kernel_rfl) ?_
  refine (c_l_toIntS w9104 x8080 p8082 c8083 (h8084.mem0 M9106) hr9109).mono ?_
  rintro e_ w9115 ⟨p9111, c9112, sg9113, rfl, ho9114, K9116⟩
  have M9117 := M9106.call K9116
  refine ⟨_, rfl, ?_⟩
  refine W_run 1 [(2, .int .i64 x8090), (8, .slice p8672 r8670.1.length c8673), (9, .slice p8677 r8670.2.1.length c8678), (10, .bool r8670.2.2), (13, .slice p8968 r9083.2.length c8969), (14, .slice p8973 r9090.2.length c8974), (17, .int .i64 r9090.1), (123, .slice p9111 r9109.length c9112), (124, .slice p8087 x8085.length c8088)] w9115 (by kernel_rfl) ?_
  obtain ⟨r9118, hr9118, hm⟩ := gx_bind hm
  refine W_call 16 #[.slice p8087 x8085.length c8088] (by kernel_rfl) (by kernel_rfl) ?_
  refine (c_l_toBalloonS w9115 x8085 p8087 c8088 (h8089.mem0 M9117) hr9118).mono ?_
  rintro e_ w9125 ⟨p9120, c9121, sg9122, sg9123, rfl, ho9124, K9126⟩
  have M9127 := M9117.call K9126
  refine ⟨_, rfl, ?_⟩
  refine W_run 1 [(8, .slice p8672 r8670.1.length c8673), (9, .slice p8677 r8670.2.1.length c8678), (10, .bool r8670.2.2), (13, .slice p8968 r9083.2.length c8969), (14, .slice p8973 r9090.2.length c8974), (17, .int .i64 r9090.1), (123, .slice p9111 r9109.length c9112), (125, .slice p9120 r9118.length c9121), (126, .int .i64 x8090)] w9125 (by kernel_rfl) ?_
  obtain ⟨r9128, hr9128, hm⟩ := gx_bind hm
  refine W_call 33 #[.slice p9111 r9109.length c9112, .slice p9120 r9118.length c9121, .int .i64 x8090] (by kernel_rfl) (by kernel_rfl) ?_
  refine (c_i_Deflate w9125 r9109 p9111 c9112 (ho9114.rd M9127 6 (by kernel_rfl)) r9118 p9120 c9121 (ho9124.rd M9127 7 (by kernel_rfl) 8 (by kernel_rfl)) x8090 hr9128).mono ?_
  rintro e_ w9140 ⟨p9130, c9131, sg9132, p9135, c9136, sg9137, sg9138, rfl, ho9133, ho9139, K9141⟩
  have M9142 := M9127.call K9141
  refine ⟨_, rfl, ?_⟩
  refine W_run 7 [(8, .slice p8672 r8670.1.length c8673), (9, .slice p8677 r8670.2.1.length c8678), (10, .bool r8670.2.2), (13, .slice p8968 r9083.2.length c8969), (14, .slice p8973 r9090.2.length c8974), (17, .int .i64 r9090.1), (19, .slice p9130 r9128.1.length c9131), (20, .slice p9135 r9128.2.1.length c9136), (21, .bool r9128.2.2)] w9140 (by kernel_rfl) ?_
  refine W_nil ?_
  refine N_then ?_
  refine G_seq ?_
  refine G_seq ?_
  obtain ⟨o9153, ho9154, hm9155⟩ := gx_bind hm
  refine G_meet (fun a w' => Mem [] w w' [sg9084, sg9091, sg9092] ∧ Sat Try.f8.ntmps [(13, .slice p8968 r9083.2.length c8969), (14, .slice p8973 r9090.2.length c8974), (17, .int .i64 r9090.1), (145, .bool o9153)] a) ?_ ?_
  · have hm := ho9154
    refine G_region ?_
    refine W_run 2 [(9, .slice p8677 r8670.2.1.length c8678), (10, .bool r8670.2.2), (13, .slice p8968 r9083.2.length c8969), (14, .slice p8973 r9090.2.length c8974), (17, .int .i64 r9090.1), (20, .slice p9135 r9128.2.1.length c9136), (21, .bool r9128.2.2), (131, .slice p9130 r9128.1.length c9131), (132, .slice p8672 r8670.1.length c8673)] w9140 (by kernel_rfl) ?_
    obtain ⟨r9156, hr9156, hm⟩ := gx_bind hm
    refine W_call 18 #[.slice p9130 r9128.1.length c9131, .slice p8672 r8670.1.length c8673] (by kernel_rfl) (by kernel_rfl) ?_
    refine (c_l_eqIntS w9140 r9128.1 p9130 c9131 (ho9133.rd M9142 9 (by kernel_rfl)) r8670.1 p8672 c8673 (ho8675.rd M9142 0 (by kernel_rfl)) hr9156).mono ?_
    rintro e_ w9157 ⟨rfl, K9158⟩
    have M9159 := M9142.call0 K9158
    refine ⟨_, rfl, ?_⟩
    refine W_run 2 [(9, .slice p8677 r8670.2.1.length c8678), (10, .bool r8670.2.2), (13, .slice p8968 r9083.2.length c8969), (14, .slice p8973 r9090.2.length c8974), (17, .int .i64 r9090.1), (20, .slice p9135 r9128.2.1.length c9136), (21, .bool r9128.2.2), (135, .bool (!r9156))] w9157 (by kernel_rfl) ?_
    rcases gx_bif hm with ⟨hc9160, hm⟩ | ⟨hc9160, hm⟩
    · refine W_known 135 true (by kernel_rfl) hc9160 ?_
      refine W_run 10 [(13, .slice p8968 r9083.2.length c8969), (14, .slice p8973 r9090.2.length c8974), (17, .int .i64 r9090.1), (145, .bool true)] w9157 (by kernel_rfl) ?_
      refine W_nil ?_
      obtain rfl := Option.some.inj hm
      exact N_meet fun a ha => ⟨M9159.pick [3, 4, 5] (by kernel_rfl), ha.sub (by kernel_rfl)⟩
    refine W_known 135 false (by kernel_rfl) hc9160 ?_
    refine W_run 2 [(10, .bool r8670.2.2), (13, .slice p8968 r9083.2.length c8969), (14, .slice p8973 r9090.2.length c8974), (17, .int .i64 r9090.1), (21, .bool r9128.2.2), (135, .bool false), (136, .slice p9135 r9128.2.1.length c9136), (137, .slice p8677 r8670.2.1.length c8678)] w9157 (by kernel_rfl) ?_
    obtain ⟨r9161, hr9161, hm⟩ := gx_bind hm
    refine W_call 19 #[.slice p9135 r9128.2.1.length c9136, .slice p8677 r8670.2.1.length c8678] (by kernel_rfl) (by kernel_rfl) ?_
    refine (c_l_eqBalloonS w9157 r9128.2.1 p9135 c9136 (ho9139.rd M9159 10 (by kernel_rfl) 11 (by kernel_rfl)) r8670.2.1 p8677 c8678 (ho8681.rd M9159 1 (by kernel_rfl) 2 (by kernel_rfl)) hr9161).mono ?_
    rintro e_ w9162 ⟨rfl, K9163⟩
    have M9164 := M9159.call0 K9163
    refine ⟨_, rfl, ?_⟩
    refine W_run 3 [(10, .bool r8670.2.2), (13, .slice p8968 r9083.2.length c8969), (14, .slice p8973 r9090.2.length c8974), (17, .int .i64 r9090.1), (21, .bool r9128.2.2), (141, .bool (!r9161))] w9162 (by kernel_rfl) ?_
    rcases gx_bif hm with ⟨hc9165, hm⟩ | ⟨hc9165, hm⟩
    · refine W_known 141 true (by kernel_rfl) hc9165 ?_
      refine W_run 4 [(13, .slice p8968 r9083.2.length c8969), (14, .slice p8973 r9090.2.length c8974), (17, .int .i64 r9090.1), (145, .bool true)] w9162 (by kernel_rfl) ?_
      refine W_nil ?_
      obtain rfl := Option.some.inj hm
      exact N_meet fun a ha => ⟨M9164.pick [3, 4, 5] (by kernel_rfl), ha.sub (by kernel_rfl)⟩
    refine W_known 141 false (by kernel_rfl) hc9165 ?_
    refine W_run 4 [(13, .slice p8968 r9083.2.length c8969), (14, .slice p8973 r9090.2.length c8974), (17, .int .i64 r9090.1), (145, .bool (!(r9128.2.2 == r8670.2.2)))] w9162 (by kernel_rfl) ?_
    refine W_nil ?_
    obtain rfl := Option.some.inj hm
    exact N_meet fun a ha => ⟨M9164.pick [3, 4, 5] (by kernel_rfl), ha.sub (by kernel_rfl)⟩
  intro a9168 w9166 ⟨M9167, hS9169⟩
  refine N_use hS9169 ?_
  have hm := hm9155
  refine N_then ?_
  rcases gx_bif hm with ⟨hc9170, hm⟩ | ⟨hc9170, hm⟩
  · refine G_cond_t (b := o9153) hc9170 (by kernel_rfl) ?_
    refine G_seq ?_
    refine G_region ?_
    refine W_run 1 [(6, .bool false)] w9166 (by kernel_rfl) ?_
    refine W_nil ?_
    refine N_then ?_
    refine G_ret ?_
    refine N_then_ret ?_
    obtain rfl := Option.some.inj hm
    refine N_ret [.bool false] (RVs_cons (RV_tmp (by kernel_rfl)) RVs_nil) ?_
    exact ⟨rfl, M9167.pick [] (by kernel_rfl)⟩
  refine G_cond_f (b := o9153) hc9170 (by kernel_rfl) ?_
  refine G_skip ?_
  refine N_then ?_
  refine G_seq ?_
  refine G_region ?_
  refine W_run 1 [(13, .slice p8968 r9083.2.length c8969), (14, .slice p8973 r9090.2.length c8974), (17, .int .i64 r9090.1), (18, .int .i64 1)] w9166 (by kernel_rfl) ?_
  refine W_nil ?_
  refine N_then ?_
  refine G_seq ?_
  refine G_region ?_
  refine W_run 2 [(14, .slice p8973 r9090.2.length c8974), (17, .int .i64 r9090.1), (18, .int .i64 1), (146, .slice p8968 r9083.2.length c8969), (147, .int .i64 1)] w9166 (by kernel_rfl) ?_
  obtain ⟨r9171, hr9171, hm⟩ := gx_bind hm
  refine W_call 29 #[.slice p8968 r9083.2.length c8969, .int .i64 1] (by kernel_rfl) (by kernel_rfl) ?_
  refine (c_l_heldIntS w9166 r9083.2 p8968 c8969 (ho9085.rd M9167 0 (by kernel_rfl)) 1 hr9171).mono ?_
  rintro e_ w9172 ⟨rfl, K9173⟩
  have M9174 := M9167.call0 K9173
  refine ⟨_, rfl, ?_⟩
  refine W_run 1 [(14, .slice p8973 r9090.2.length c8974), (17, .int .i64 r9090.1), (18, .int .i64 r9171)] w9172 (by kernel_rfl) ?_
  refine W_nil ?_
  refine N_then ?_
  refine G_seq ?_
  refine G_seq ?_
  refine G_region ?_
  refine W_run 2 [(14, .slice p8973 r9090.2.length c8974), (17, .int .i64 r9090.1), (18, .int .i64 r9171), (150, .bool (decide (r9171 < 0)))] w9172 (by kernel_rfl) ?_
  refine W_nil ?_
  refine N_then ?_
  rcases gx_bif hm with ⟨hc9175, hm⟩ | ⟨hc9175, hm⟩
  · refine G_cond_t (b := (decide (r9171 < 0))) hc9175 (by kernel_rfl) ?_
    refine G_seq ?_
    refine G_region ?_
    refine W_run 1 [(6, .bool false)] w9172 (by kernel_rfl) ?_
    refine W_nil ?_
    refine N_then ?_
    refine G_ret ?_
    refine N_then_ret ?_
    obtain rfl := Option.some.inj hm
    refine N_ret [.bool false] (RVs_cons (RV_tmp (by kernel_rfl)) RVs_nil) ?_
    exact ⟨rfl, M9174.pick [] (by kernel_rfl)⟩
  refine G_cond_f (b := (decide (r9171 < 0))) hc9175 (by kernel_rfl) ?_
  refine G_skip ?_
  refine N_then ?_
  refine G_seq ?_
  refine G_region ?_
  refine W_run 2 [(17, .int .i64 r9090.1), (18, .int .i64 r9171), (151, .slice p8973 r9090.2.length c8974), (152, .int .i64 r9171)] w9172 (by kernel_rfl) ?_
  obtain ⟨r9176, hr9176, hm⟩ := gx_bind hm
  refine W_call 26 #[.slice p8973 r9090.2.length c8974, .int .i64 r9171] (by kernel_rfl) (by kernel_rfl) ?_
  refine (c_l_heldBalloonS w9172 r9090.2 p8973 c8974 (ho9093.rd M9174 1 (by kernel_rfl) 2 (by kernel_rfl)) r9171 hr9176).mono ?_
  rintro e_ w9177 ⟨rfl, K9178⟩
  have M9179 := M9174.call0 K9178
  refine ⟨_, rfl, ?_⟩
  refine W_run 1 [(17, .int .i64 r9090.1), (18, .int .i64 r9176)] w9177 (by kernel_rfl) ?_
  refine W_nil ?_
  refine N_then ?_
  refine G_seq ?_
  refine G_seq ?_
  refine G_region ?_
  refine W_run 2 [(17, .int .i64 r9090.1), (18, .int .i64 r9176), (155, .bool (decide (r9176 < 0)))] w9177 (by kernel_rfl) ?_
  refine W_nil ?_
  refine N_then ?_
  rcases gx_bif hm with ⟨hc9180, hm⟩ | ⟨hc9180, hm⟩
  · refine G_cond_t (b := (decide (r9176 < 0))) hc9180 (by kernel_rfl) ?_
    refine G_seq ?_
    refine G_region ?_
    refine W_run 1 [(6, .bool false)] w9177 (by kernel_rfl) ?_
    refine W_nil ?_
    refine N_then ?_
    refine G_ret ?_
    refine N_then_ret ?_
    obtain rfl := Option.some.inj hm
    refine N_ret [.bool false] (RVs_cons (RV_tmp (by kernel_rfl)) RVs_nil) ?_
    exact ⟨rfl, M9179.pick [] (by kernel_rfl)⟩
  refine G_cond_f (b := (decide (r9176 < 0))) hc9180 (by kernel_rfl) ?_
  refine G_skip ?_
  refine N_then ?_
  refine G_seq ?_
  refine G_seq ?_
  refine G_region ?_
  refine W_run 3 [(158, .bool (r9176 != r9090.1))] w9177 (by kernel_rfl) ?_
  refine W_nil ?_
  refine N_then ?_
  rcases gx_bif hm with ⟨hc9181, hm⟩ | ⟨hc9181, hm⟩
  · refine G_cond_t (b := (r9176 != r9090.1)) hc9181 (by kernel_rfl) ?_
    refine G_seq ?_
    refine G_region ?_
    refine W_run 1 [(6, .bool false)] w9177 (by kernel_rfl) ?_
    refine W_nil ?_
    refine N_then ?_
    refine G_ret ?_
    refine N_then_ret ?_
    obtain rfl := Option.some.inj hm
    refine N_ret [.bool false] (RVs_cons (RV_tmp (by kernel_rfl)) RVs_nil) ?_
    exact ⟨rfl, M9179.pick [] (by kernel_rfl)⟩
  refine G_cond_f (b := (r9176 != r9090.1)) hc9181 (by kernel_rfl) ?_
  refine G_skip ?_
  refine N_then ?_
  refine G_seq ?_
  refine G_region ?_
  refine W_run 1 [(6, .bool true)] w9177 (by kernel_rfl) ?_
  refine W_nil ?_
  refine N_then ?_
  refine G_ret ?_
  obtain rfl := Option.some.inj hm
  refine N_ret [.bool true] (RVs_cons (RV_tmp (by kernel_rfl)) RVs_nil) ?_
  exact ⟨rfl, M9179.pick [] (by kernel_rfl)⟩
theorem c_s_Inflate (w : World) (x9218 : List Int) (p9220 : Option Addr) (c9221 : Nat) (h9222 : rdS Gx.encI w x9218 p9220 c9221) (x9223 : List Balloon) (p9225 : Option Addr) (c9226 : Nat) (h9227 : rdD deepBalloon w x9223 p9225 c9226) (x9228 : Int) {r : (List Int) × (List Balloon) × Bool} (hm : M.s_Inflate x9218 x9223 x9228 = some r) :
    Calls Try.prog 34 #[.slice p9220 x9218.length c9221, .slice p9225 x9223.length c9226, .int .i64 x9228] w fun e w' => ∃ (p9230 : Option Addr) (c9231 : Nat) (sg9232 : Seg), ∃ (p9234 : Option Addr) (c9235 : Nat) (sg9236 : Seg) (sg9237 : Seg), e = .returned (.tuple #[.slice p9230 r.1.length c9231, .slice p9234 r.2.1.length c9235, .bool r.2.2]) ∧ ownS Gx.encI r.1 p9230 c9231 sg9232 ∧ ownD deepBalloon r.2.1 p9234 c9235 sg9236 sg9237 ∧ Mem [] w w' [sg9232, sg9236, sg9237] := by
  unfold M.s_Inflate at hm
  refine C_enter Try.func34 rfl (by kernel_rfl) ?_
  have M0 := Mem.refl [] w
  refine G_seq ?_
  refine G_region ?_
  refine W_run 3 [(0, .slice p9220 x9218.length c9221), (1, .slice p9225 x9223.length c9226), (2, .int .i64 x9228)] w (by kernel_rfl) ?_
  refine W_nil ?_
  refine N_then ?_
  refine G_seq ?_
  refine G_region ?_
  refine W_run 2 [(0, .slice p9220 x9218.length c9221), (1, .slice p9225 x9223.length c9226), (13, .slice p9225 x9223.length c9226), (14, .int .i64 x9228)] w (by kernel_rfl) ?_
  obtain ⟨r9240, hr9240, hm⟩ := gx_bind hm
  refine W_call 56 #[.slice p9225 x9223.length c9226, .int .i64 x9228] (by kernel_rfl) (by kernel_rfl) ?_
  refine (c_s_l18Find w x9223 p9225 c9226 (h9227.mem0 M0) x9228 hr9240).mono ?_
  rintro e_ w9241 ⟨rfl, K9242⟩
  have M9243 := M0.call0 K9242
  refine ⟨_, rfl, ?_⟩
  refine W_run 1 [(0, .slice p9220 x9218.length c9221), (1, .slice p9225 x9223.length c9226), (9, .int .i64 r9240)] w9241 (by kernel_rfl) ?_
  refine W_nil ?_
  refine N_then ?_
  refine G_seq ?_
  refine G_seq ?_
  obtain ⟨o9249, ho9250, hm9251⟩ := gx_bind hm
  refine G_meet (fun a w' => Mem [] w w' [] ∧ Sat Try.f34.ntmps [(0, .slice p9220 x9218.length c9221), (1, .slice p9225 x9223.length c9226), (9, .int .i64 r9240), (22, .bool o9249)] a) ?_ ?_
  · have hm := ho9250
    refine G_region ?_
    refine W_run 2 [(0, .slice p9220 x9218.length c9221), (1, .slice p9225 x9223.length c9226), (9, .int .i64 r9240), (16, .slice p9220 x9218.length c9221), (17, .slice p9225 x9223.length c9226)] w9241 (by kernel_rfl) ?_
    obtain ⟨r9252, hr9252, hm⟩ := gx_bind hm
    refine W_call 47 #[.slice p9220 x9218.length c9221, .slice p9225 x9223.length c9226] (by kernel_rfl) (by kernel_rfl) ?_
    refine (c_s_l18Good w9241 x9218 p9220 c9221 (h9222.mem0 M9243) x9223 p9225 c9226 (h9227.mem0 M9243) hr9252).mono ?_
    rintro e_ w9253 ⟨rfl, K9254⟩
    have M9255 := M9243.call0 K9254
    refine ⟨_, rfl, ?_⟩
    refine W_run 1 [(0, .slice p9220 x9218.length c9221), (1, .slice p9225 x9223.length c9226), (9, .int .i64 r9240), (19, .bool r9252)] w9253 (by kernel_rfl) ?_
    rcases gx_bif hm with ⟨hc9256, hm⟩ | ⟨hc9256, hm⟩
    · refine W_known 19 true (by kernel_rfl) hc9256 ?_
      refine W_run 3 [(0, .slice p9220 x9218.length c9221), (1, .slice p9225 x9223.length c9226), (9, .int .i64 r9240), (22, .bool (decide (r9240 ≥ 0)))] w9253 (by kernel_rfl) ?_
      refine W_nil ?_
      obtain rfl := Option.some.inj hm
      exact N_meet fun a ha => ⟨M9255.pick [] (by kernel_rfl), ha.sub (by kernel_rfl)⟩
    refine W_known 19 false (by kernel_rfl) hc9256 ?_
    refine W_run 3 [(0, .slice p9220 x9218.length c9221), (1, .slice p9225 x9223.length c9226), (9, .int .i64 r9240), (22, .bool false)] w9253 (by kernel_rfl) ?_
    refine W_nil ?_
    obtain rfl := Option.some.inj hm
    exact N_meet fun a ha => ⟨M9255.pick [] (by kernel_rfl), ha.sub (by kernel_rfl)⟩
  intro a9259 w9257 ⟨M9258, hS9260⟩
  refine N_use hS9260 ?_
  have hm := hm9251
  refine N_then ?_
  obtain ⟨out9281, ho9279, hm9280⟩ := gx_bind hm
  refine G_meet (fun a w' => ∃ (o9278 : Unit), out9281 = .inl o9278 ∧ Mem [] w w' [] ∧ Sat Try.f34.ntmps [] a) ?_ ?_
  · have hm := ho9279
    rcases gx_bif hm with ⟨hc9282, hm⟩ | ⟨hc9282, hm⟩
    · refine G_cond_t (b := o9249) hc9282 (by kernel_rfl) ?_
      refine G_seq ?_
      refine G_region ?_
      refine W_run 3 [(24, .slice p9220 x9218.length c9221), (25, .slice p9225 x9223.length c9226), (26, .int .i64 r9240)] w9257 (by kernel_rfl) ?_
      obtain ⟨r9283, hr9283, hm⟩ := gx_bind hm
      refine W_call 68 #[.slice p9220 x9218.length c9221, .slice p9225 x9223.length c9226, .int .i64 r9240, .int .i64 1] (by kernel_rfl) (by kernel_rfl) ?_
      refine (c_s_l18Step w9257 x9218 p9220 c9221 (h9222.mem0 M9258) x9223 p9225 c9226 (h9227.mem0 M9258) r9240 1 hr9283).mono ?_
      rintro e_ w9295 ⟨p9285, c9286, sg9287, p9290, c9291, sg9292, sg9293, rfl, ho9288, ho9294, K9296⟩
      have M9297 := M9258.call K9296
      refine ⟨_, rfl, ?_⟩
      refine W_run 7 [(10, .slice p9285 r9283.1.length c9286), (11, .slice p9290 r9283.2.1.length c9291), (12, .bool r9283.2.2)] w9295 (by kernel_rfl) ?_
      refine W_nil ?_
      refine N_then ?_
      refine G_seq ?_
      refine G_region ?_
      refine W_run 1 [(10, .slice p9285 r9283.1.length c9286), (11, .slice p9290 r9283.2.1.length c9291), (31, .bool r9283.2.2)] w9295 (by kernel_rfl) ?_
      refine W_nil ?_
      refine N_then ?_
      rcases gx_bif hm with ⟨hc9298, hm⟩ | ⟨hc9298, hm⟩
      · refine G_cond_t (b := r9283.2.2) hc9298 (by kernel_rfl) ?_
        refine G_seq ?_
        refine G_region ?_
        refine W_run 5 [(6, .slice p9285 r9283.1.length c9286), (7, .slice p9290 r9283.2.1.length c9291), (8, .bool true)] w9295 (by kernel_rfl) ?_
        refine W_nil ?_
        refine N_then ?_
        refine G_ret ?_
        refine N_meet_ret ?_
        obtain rfl := Option.some.inj hm
        have hm := hm9280
        simp only [Sum.elim_inr] at hm
        refine N_then_ret ?_
        obtain rfl := Option.some.inj hm
        refine N_ret [.slice p9285 r9283.1.length c9286, .slice p9290 r9283.2.1.length c9291, .bool true] (RVs_cons (RV_tmp (by kernel_rfl)) (RVs_cons (RV_tmp (by kernel_rfl)) (RVs_cons (RV_tmp (by kernel_rfl)) RVs_nil))) ?_
        exact ⟨p9285, c9286, sg9287, p9290, c9291, sg9292, sg9293, rfl, (ho9288 hc9298), (ho9294 hc9298), M9297.pick [0, 1, 2] (by kernel_rfl)⟩
      refine G_cond_f (b := r9283.2.2) hc9298 (by kernel_rfl) ?_
      refine G_skip ?_
      obtain rfl := Option.some.inj hm
      exact N_meet fun a ha => ⟨_, rfl, M9297.pick [] (by kernel_rfl), ha.sub (by kernel_rfl)⟩
    refine G_cond_f (b := o9249) hc9282 (by kernel_rfl) ?_
    refine G_skip ?_
    obtain rfl := Option.some.inj hm
    exact N_meet fun a ha => ⟨_, rfl, M9258.pick [] (by kernel_rfl), ha.sub (by kernel_rfl)⟩
  intro a9301 w9299 ⟨o9278, hout_, M9300, hS9302⟩
  refine N_use hS9302 ?_
  subst hout_
  have hm := hm9280
  simp only [Sum.elim_inl] at hm
  refine N_then ?_
  refine G_seq ?_
  refine G_region ?_
  refine W_lit (E := Gx.encI) ([] : List Int) 0 [] 3 M9300 (by kernel_rfl) (by kernel_rfl) (by kernel_rfl) (by kernel_rfl) (by kernel_rfl) ?_
  intro p9303 c9304 sg9305 w9306 ho9307 M9308
  have M9310 : Mem [] w w9306 [sg9305] := M9308.pick [0] (by kernel_rfl)
  have M9311 : Mem [] w w9306 [sg9305, []] := M9310.regroup (by simp)
  refine W_litD (D := deepBalloon) [] ([] : List Balloon) rfl 0 [] 50 M9311 (by kernel_rfl) (by kernel_rfl) (by kernel_rfl) (by kernel_rfl) (by kernel_rfl) ownI_nil ?_
  intro p9312 c9313 sg9314 w9315 ho9316 M9317
  refine W_run 3 [(6, .slice p9303 ([] : List Int).length c9304), (7, .slice p9312 ([] : List Balloon).length c9313), (8, .bool false)] w9315 (by kernel_rfl) ?_
  refine W_nil ?_
  refine N_then ?_
  refine G_ret ?_
  obtain rfl := Option.some.inj hm
  refine N_ret [.slice p9303 ([] : List Int).length c9304, .slice p9312 ([] : List Balloon).length c9313, .bool false] (RVs_cons (RV_tmp (by kernel_rfl)) (RVs_cons (RV_tmp (by kernel_rfl)) (RVs_cons (RV_tmp (by kernel_rfl)) RVs_nil))) ?_
  exact ⟨p9303, c9304, sg9305, p9312, c9313, sg9314, [], rfl, ho9307, ho9316, M9317.pick [0, 2, 1] (by kernel_rfl)⟩
theorem c_slices_Sort_88 (w : World) (x9578 : List Int) (p9580 : Option Addr) (c9581 : Nat) (sg9582 : Seg) (ho9583 : ownS Gx.encI x9578 p9580 c9581 sg9582) (hA : ∀ q ∈ List.flatten [sg9582], w.heap[q.1]? = some q.2) (hN : (idsOf [sg9582]).Nodup) {r : (List Int)} (hm : M.slices_Sort_88 x9578 = some r) :
    Calls Try.prog 88 #[.slice p9580 x9578.length c9581] w fun e w' => ∃ (sg9584 : Seg), e = .returned (.tuple #[]) ∧ ownS Gx.encI r p9580 c9581 sg9584 ∧ r.length = x9578.length ∧ Mem (idsOf [sg9582]) w w' [sg9584] := by
  unfold M.slices_Sort_88 at hm
  rcases gx_bif hm with ⟨h, hm⟩ | ⟨h, hm⟩
  · obtain rfl := Option.some.inj hm
    exact sortI_run Try.slices_Sort_int Try.slices_Sort_int_none w x9578 p9580 c9581 sg9582 ho9583 hA hN (of_decide_eq_true h)
  cases hm
theorem c_i_inflate__e1 (w : World) (x9465 : List Int) (p9467 : Option Addr) (c9468 : Nat) (sg9469 : Seg) (ho9470 : ownS Gx.encI x9465 p9467 c9468 sg9469) (x9471 : List Balloon) (p9473 : Option Addr) (c9474 : Nat) (sg9475 : Seg) (sg9476 : Seg) (ho9477 : ownD deepBalloon x9471 p9473 c9474 sg9475 sg9476) (x9478 : Int) (hA : ∀ q ∈ List.flatten [sg9469, sg9475, sg9476], w.heap[q.1]? = some q.2) (hN : (idsOf [sg9469, sg9475, sg9476]).Nodup) {r : Bool × (List Int) × (List Balloon)} (hm : M.i_inflate__e1 x9465 x9471 x9478 = some r) :
    Calls Try.prog 70 #[.slice p9467 x9465.length c9468, elemP p9473 (x9478.toNat * 3)] w fun e w' => ∃ (sg9486 : Seg), ∃ (sg9487 : Seg) (sg9488 : Seg), e = .returned (.bool r.1) ∧ ownS Gx.encI r.2.1 p9467 c9468 sg9486 ∧ r.2.1.length = x9465.length ∧ ownD deepBalloon r.2.2 p9473 c9474 sg9487 sg9488 ∧ r.2.2.length = x9471.length ∧ Mem (idsOf [sg9469, sg9475, sg9476]) w w' [sg9486, sg9487, sg9488] := by
  unfold M.i_inflate__e1 at hm
  refine C_enter Try.func70 rfl (by kernel_rfl) ?_
  have M0 := Mem.start' w [sg9469, sg9475, sg9476] hA hN
  obtain ⟨y9479, hy9479, hm⟩ := gx_bind hm
  obtain ⟨zs9480, hz9481, hr9482, hi9483⟩ := id ho9477
  obtain ⟨g9484, hg9485⟩ := gxIdx_fst hz9481 hy9479
  refine G_seq ?_
  refine G_region ?_
  refine W_run 1 [(0, .slice p9467 x9465.length c9468), (1, elemP p9473 (x9478.toNat * 3))] w (by kernel_rfl) ?_
  refine W_nil ?_
  refine N_then ?_
  refine G_seq ?_
  refine G_region ?_
  refine W_run 2 [(0, .slice p9467 x9465.length c9468), (1, elemP p9473 (x9478.toNat * 3)), (7, .slice p9467 x9465.length c9468), (8, elemP p9473 (x9478.toNat * 3))] w (by kernel_rfl) ?_
  refine W_val (elemP p9473 (x9478.toNat * 3)) w (by kernel_rfl) (E_nilE (E := deepBalloon.E) _ (x9478.toNat * 3) rfl (by kernel_rfl) (hr9482.rd M0 1 (by kernel_rfl)) hg9485) ?_
  refine W_val (elemP p9473 (x9478.toNat * 3 + 0)) w (by kernel_rfl) (E_fieldE (E := deepBalloon.E) _ _ 0 (x9478.toNat * 3) 0 rfl (by kernel_rfl) (by kernel_rfl) (hr9482.rd M0 1 (by kernel_rfl)) hg9485) ?_
  refine W_val (.int .i64 y9479.Guest) w (by kernel_rfl) (E_loadE (E := deepBalloon.E) _ _ false 1 x9478 0 (x9478.toNat * 3 + 0) (y9479, g9484) (.int .i64 y9479.Guest) rfl (by kernel_rfl) (by kernel_rfl) (by kernel_rfl) (hr9482.rd M0 1 (by kernel_rfl)) hg9485 rfl) ?_
  obtain ⟨r9490, hr9490, hm⟩ := gx_bind hm
  refine W_call 66 #[.slice p9467 x9465.length c9468, .int .i64 y9479.Guest] (by kernel_rfl) (by kernel_rfl) ?_
  refine (c_i_framesOf w x9465 p9467 c9468 (ho9470.rd M0 0 (by kernel_rfl)) y9479.Guest hr9490).mono ?_
  rintro e_ w9496 ⟨p9492, c9493, sg9494, rfl, ho9495, K9497⟩
  have M9498 := M0.call K9497
  refine ⟨_, rfl, ?_⟩
  refine W_run 1 [(0, .slice p9467 x9465.length c9468), (1, elemP p9473 (x9478.toNat * 3)), (5, .slice p9492 r9490.length c9493)] w9496 (by kernel_rfl) ?_
  refine W_nil ?_
  refine N_then ?_
  refine G_seq ?_
  refine G_seq ?_
  obtain ⟨o9506, ho9507, hm9508⟩ := gx_bind hm
  refine G_meet (fun a w' => Mem (idsOf [sg9469, sg9475, sg9476]) w w' [sg9469, sg9475, sg9476, sg9494] ∧ Sat Try.f70.ntmps [(0, .slice p9467 x9465.length c9468), (1, elemP p9473 (x9478.toNat * 3)), (5, .slice p9492 r9490.length c9493), (27, .bool o9506)] a) ?_ ?_
  · have hm := ho9507
    refine G_quiet (by kernel_rfl) (by kernel_rfl) M9498 ?_
    refine Z_runs [elemP p9473 (x9478.toNat * 3)] [(0, .slice p9467 x9465.length c9468), (1, elemP p9473 (x9478.toNat * 3)), (5, .slice p9492 r9490.length c9493), (13, elemP p9473 (x9478.toNat * 3))] (fun w_ => by kernel_rfl) (by kernel_rfl) ?_
    refine Z_val (elemP p9473 (x9478.toNat * 3)) (by kernel_rfl) (fun w_ M_ => (E_nilE (E := deepBalloon.E) _ (x9478.toNat * 3) rfl (by kernel_rfl) (hr9482.rd M_ 1 (by kernel_rfl)) hg9485)) ?_
    refine Z_val (elemP p9473 (x9478.toNat * 3 + 2)) (by kernel_rfl) (fun w_ M_ => (E_fieldE (E := deepBalloon.E) _ _ 2 (x9478.toNat * 3) 2 rfl (by kernel_rfl) (by kernel_rfl) (hr9482.rd M_ 1 (by kernel_rfl)) hg9485)) ?_
    refine Z_val (.slice ((g9484 0).1) y9479.Gave.length ((g9484 0).2)) (by kernel_rfl) (fun w_ M_ => (E_loadE (E := deepBalloon.E) _ _ false 1 x9478 2 (x9478.toNat * 3 + 2) (y9479, g9484) (.slice ((g9484 0).1) y9479.Gave.length ((g9484 0).2)) rfl (by kernel_rfl) (by kernel_rfl) (by kernel_rfl) (hr9482.rd M_ 1 (by kernel_rfl)) hg9485 rfl)) ?_
    refine Z_runs [.int .i64 (y9479.Gave.length : Int), elemP p9473 (x9478.toNat * 3)] [(0, .slice p9467 x9465.length c9468), (1, elemP p9473 (x9478.toNat * 3)), (5, .slice p9492 r9490.length c9493), (17, .int .i64 (y9479.Gave.length : Int)), (18, elemP p9473 (x9478.toNat * 3))] (fun w_ => by kernel_rfl) (by kernel_rfl) ?_
    refine Z_val (elemP p9473 (x9478.toNat * 3)) (by kernel_rfl) (fun w_ M_ => (E_nilE (E := deepBalloon.E) _ (x9478.toNat * 3) rfl (by kernel_rfl) (hr9482.rd M_ 1 (by kernel_rfl)) hg9485)) ?_
    refine Z_val (elemP p9473 (x9478.toNat * 3 + 1)) (by kernel_rfl) (fun w_ M_ => (E_fieldE (E := deepBalloon.E) _ _ 1 (x9478.toNat * 3) 1 rfl (by kernel_rfl) (by kernel_rfl) (hr9482.rd M_ 1 (by kernel_rfl)) hg9485)) ?_
    refine Z_val (.int .i64 y9479.Goal) (by kernel_rfl) (fun w_ M_ => (E_loadE (E := deepBalloon.E) _ _ false 1 x9478 1 (x9478.toNat * 3 + 1) (y9479, g9484) (.int .i64 y9479.Goal) rfl (by kernel_rfl) (by kernel_rfl) (by kernel_rfl) (hr9482.rd M_ 1 (by kernel_rfl)) hg9485 rfl)) ?_
    refine Z_runs [.bool (decide ((y9479.Gave.length : Int) ≥ y9479.Goal)), .bool (decide ((y9479.Gave.length : Int) ≥ y9479.Goal))] [(0, .slice p9467 x9465.length c9468), (1, elemP p9473 (x9478.toNat * 3)), (5, .slice p9492 r9490.length c9493), (23, .bool (decide ((y9479.Gave.length : Int) ≥ y9479.Goal)))] (fun w_ => by kernel_rfl) (by kernel_rfl) ?_
    rcases gx_bif hm with ⟨hc9511, hm⟩ | ⟨hc9511, hm⟩
    · refine Z_known 23 true (by kernel_rfl) hc9511 ?_
      refine Z_runs [undef, undef, undef, .bool true] [(0, .slice p9467 x9465.length c9468), (1, elemP p9473 (x9478.toNat * 3)), (5, .slice p9492 r9490.length c9493), (27, .bool true)] (fun w_ => by kernel_rfl) (by kernel_rfl) ?_
      refine Z_end fun w9512 M9513 => ?_
      obtain rfl := Option.some.inj hm
      exact N_meet fun a ha => ⟨M9513.pick [0, 1, 2, 3] (by kernel_rfl), ha.sub (by kernel_rfl)⟩
    refine Z_known 23 false (by kernel_rfl) hc9511 ?_
    refine Z_runs [.slice p9492 r9490.length c9493, .int .i64 (r9490.length : Int), .bool (decide ((r9490.length : Int) < 2)), .bool (decide ((r9490.length : Int) < 2))] [(0, .slice p9467 x9465.length c9468), (1, elemP p9473 (x9478.toNat * 3)), (5, .slice p9492 r9490.length c9493), (27, .bool (decide ((r9490.length : Int) < 2)))] (fun w_ => by kernel_rfl) (by kernel_rfl) ?_
    refine Z_end fun w9514 M9515 => ?_
    obtain rfl := Option.some.inj hm
    exact N_meet fun a ha => ⟨M9515.pick [0, 1, 2, 3] (by kernel_rfl), ha.sub (by kernel_rfl)⟩
  intro a9518 w9516 ⟨M9517, hS9519⟩
  refine N_use hS9519 ?_
  have hm := hm9508
  refine N_then ?_
  rcases gx_bif hm with ⟨hc9520, hm⟩ | ⟨hc9520, hm⟩
  · refine G_cond_t (b := o9506) hc9520 (by kernel_rfl) ?_
    refine G_seq ?_
    refine G_region ?_
    refine W_run 1 [(4, .bool false)] w9516 (by kernel_rfl) ?_
    refine W_nil ?_
    refine N_then ?_
    refine G_ret ?_
    refine N_then_ret ?_
    obtain rfl := Option.some.inj hm
    refine N_ret [.bool false] (RVs_cons (RV_tmp (by kernel_rfl)) RVs_nil) ?_
    exact ⟨sg9469, sg9475, sg9476, rfl, ho9470, rfl, ho9477, rfl, M9517.pick [0, 1, 2] (by kernel_rfl)⟩
  refine G_cond_f (b := o9506) hc9520 (by kernel_rfl) ?_
  refine G_skip ?_
  refine N_then ?_
  refine G_seq ?_
  refine G_region ?_
  refine W_run 4 [(0, .slice p9467 x9465.length c9468), (1, elemP p9473 (x9478.toNat * 3)), (28, .slice p9492 r9490.length c9493), (31, .int .i64 (w64 ((r9490.length : Int) - 1)))] w9516 (by kernel_rfl) ?_
  obtain ⟨y9521, hy9521, hm⟩ := gx_bind hm
  refine W_val (elemP p9492 ((w64 ((r9490.length : Int) - 1)).toNat * 1)) w9516 (by kernel_rfl) (E_index (E := Gx.encI) _ _ _ r9490.length c9493 .i64 (w64 ((r9490.length : Int) - 1)) 1 (y := y9521) rfl (by kernel_rfl) (by kernel_rfl) (by kernel_rfl) (ho9495.rd M9517 3 (by kernel_rfl)) rfl hy9521) ?_
  refine W_val (.int .i64 y9521) w9516 (by kernel_rfl) (E_loadE (E := Gx.encI) _ _ false 1 (w64 ((r9490.length : Int) - 1)) 0 ((w64 ((r9490.length : Int) - 1)).toNat * 1) y9521 (.int .i64 y9521) rfl (by kernel_rfl) (by kernel_rfl) (by kernel_rfl) (ho9495.rd M9517 3 (by kernel_rfl)) hy9521 rfl) ?_
  refine W_run 1 [(0, .slice p9467 x9465.length c9468), (1, elemP p9473 (x9478.toNat * 3)), (6, .int .i64 y9521)] w9516 (by kernel_rfl) ?_
  refine W_nil ?_
  refine N_then ?_
  refine G_seq ?_
  refine G_region ?_
  refine W_run 2 [(1, elemP p9473 (x9478.toNat * 3)), (6, .int .i64 y9521), (34, .slice p9467 x9465.length c9468), (35, .int .i64 y9521)] w9516 (by kernel_rfl) ?_
  obtain ⟨y9522, hy9522, hm⟩ := gx_bind hm
  refine W_val (elemP p9467 (y9521.toNat * 1)) w9516 (by kernel_rfl) (E_index (E := Gx.encI) _ _ _ x9465.length c9468 .i64 y9521 1 (y := y9522) rfl (by kernel_rfl) (by kernel_rfl) (by kernel_rfl) (ho9470.rd M9517 0 (by kernel_rfl)) rfl hy9522) ?_
  refine W_storeE (E := Gx.encI) _ _ _ false 1 y9521.toNat 0 (y9521.toNat * 1) y9522 0 (.int .i64 0) 0 M9517 ho9470 (by kernel_rfl) (by kernel_rfl) rfl (by kernel_rfl) (by kernel_rfl) (by kernel_rfl) (by kernel_rfl) (by kernel_rfl) (by kernel_rfl) (by kernel_rfl) (gxIdx_spec hy9522).2 rfl ?_
  intro w9523 sg9525 ho9526 M9524
  refine W_conv 34 (.slice p9467 x9465.length c9468) (.slice p9467 (x9465.set y9521.toNat 0).length c9468) (by kernel_rfl) (by rw [@List.length_set _ x9465 y9521.toNat 0]) ?_
  refine W_nil ?_
  refine N_then ?_
  refine G_seq ?_
  refine G_region ?_
  refine W_run 2 [(1, elemP p9473 (x9478.toNat * 3)), (6, .int .i64 y9521), (37, elemP p9473 (x9478.toNat * 3)), (38, elemP p9473 (x9478.toNat * 3))] w9523 (by kernel_rfl) ?_
  refine W_val (elemP p9473 (x9478.toNat * 3)) w9523 (by kernel_rfl) (E_nilE (E := deepBalloon.E) _ (x9478.toNat * 3) rfl (by kernel_rfl) (hr9482.rd M9524 1 (by kernel_rfl)) hg9485) ?_
  refine W_val (elemP p9473 (x9478.toNat * 3 + 2)) w9523 (by kernel_rfl) (E_fieldE (E := deepBalloon.E) _ _ 2 (x9478.toNat * 3) 2 rfl (by kernel_rfl) (by kernel_rfl) (hr9482.rd M9524 1 (by kernel_rfl)) hg9485) ?_
  refine W_val (.slice ((g9484 0).1) y9479.Gave.length ((g9484 0).2)) w9523 (by kernel_rfl) (E_loadE (E := deepBalloon.E) _ _ false 1 x9478 2 (x9478.toNat * 3 + 2) (y9479, g9484) (.slice ((g9484 0).1) y9479.Gave.length ((g9484 0).2)) rfl (by kernel_rfl) (by kernel_rfl) (by kernel_rfl) (hr9482.rd M9524 1 (by kernel_rfl)) hg9485 rfl) ?_
  refine W_run 1 [(1, elemP p9473 (x9478.toNat * 3)), (37, elemP p9473 (x9478.toNat * 3)), (41, .slice ((g9484 0).1) y9479.Gave.length ((g9484 0).2)), (42, .int .i64 y9521)] w9523 (by kernel_rfl) ?_
  refine W_lit (E := Gx.encI) [y9521] 1 [.int .i64 y9521] 3 M9524 (by kernel_rfl) (by kernel_rfl) (by kernel_rfl) (by kernel_rfl) (by kernel_rfl) ?_
  intro p9528 c9529 sg9530 w9531 ho9532 M9533
  obtain ⟨sa9535, sb9536, sc9537, hs9538, hb9539, hp9540⟩ := hi9483.lens (gxIdx_spec hg9485).2
  have M9541 := M9533.cut 2 (sa := sa9535) (sb := sb9536) (sc := sc9537) hs9538 (by kernel_rfl)
  obtain ⟨u9542, r9543, hu9544, ho9545, hr9546⟩ := hb9539
  have M9547 := M9541.cut 5 (sa := []) (sb := u9542) (sc := r9543) hu9544 (by kernel_rfl)
  obtain ⟨ap9549, hap9549, hm⟩ := gx_bind hm
  refine W_append (E := Gx.encI) _ _ _ 8 [.int .i64 0] 7 c9529 M9547 ho9545 (by kernel_rfl) (by kernel_rfl) (by kernel_rfl) rfl (by kernel_rfl) (by kernel_rfl) (by kernel_rfl) (by kernel_rfl) (by kernel_rfl) (by kernel_rfl) (ho9532.rd M9547 4 (by kernel_rfl)) hap9549 ?_
  intro p9550 c9551 sg9552 w9553 ho9554 M9555
  refine W_val (elemP p9473 (x9478.toNat * 3)) w9553 (by kernel_rfl) (E_nilE (E := deepBalloon.E) _ (x9478.toNat * 3) rfl (by kernel_rfl) (hr9482.rd M9555 1 (by kernel_rfl)) hg9485) ?_
  refine W_val (elemP p9473 (x9478.toNat * 3 + 2)) w9553 (by kernel_rfl) (E_fieldE (E := deepBalloon.E) _ _ 2 (x9478.toNat * 3) 2 rfl (by kernel_rfl) (by kernel_rfl) (hr9482.rd M9555 1 (by kernel_rfl)) hg9485) ?_
  refine W_storeE (E := deepBalloon.E) _ _ _ false 1 x9478.toNat 2 (x9478.toNat * 3 + 2) (y9479, g9484) ((⟨y9479.Guest, y9479.Goal, ap9549⟩ : Balloon), (plOf [(p9550, c9551)])) (.slice p9550 ap9549.length c9551) 1 M9555 hr9482 (by kernel_rfl) (by kernel_rfl) rfl (by kernel_rfl) (by kernel_rfl) (by kernel_rfl) (by kernel_rfl) (by kernel_rfl) (by kernel_rfl) (by kernel_rfl) (gxIdx_spec hg9485).2 rfl ?_
  intro w9558 sg9560 ho9561 M9559
  have M9562 : Mem (idsOf [sg9469, sg9475, sg9476]) w w9558 [sg9525, sg9560, sg9494, sg9530, [], sa9535, sg9552, sc9537] := M9559.pick [0, 1, 3, 4, 5, 2, 7, 6] (by kernel_rfl)
  have M9563 : Mem (idsOf [sg9469, sg9475, sg9476]) w w9558 [sg9525, sg9560, sg9494, sg9530, [], (sa9535 ++ ((sg9552 ++ []) ++ sc9537))] := M9562.regroup (by simp)
  have ho9564 : ownD deepBalloon (x9471.set x9478.toNat (⟨y9479.Guest, y9479.Goal, ap9549⟩ : Balloon)) p9473 c9474 sg9560 (sa9535 ++ ((sg9552 ++ []) ++ sc9537)) := ⟨_, set_fst hz9481 x9478.toNat ((⟨y9479.Guest, y9479.Goal, ap9549⟩ : Balloon), (plOf [(p9550, c9551)])), ho9561, hp9540 ((⟨y9479.Guest, y9479.Goal, ap9549⟩ : Balloon), (plOf [(p9550, c9551)])) _ (ownI_cons (i := ⟨Int, Gx.encI, _, _, _⟩) ho9554 ownI_nil)⟩
  have hput9565 := gxIdx_put (⟨y9479.Guest, y9479.Goal, ap9549⟩ : Balloon) (gxIdx_down hz9481 hg9485)
  refine W_nil ?_
  refine N_then ?_
  refine G_seq ?_
  refine G_region ?_
  refine W_run 1 [(47, elemP p9473 (x9478.toNat * 3))] w9558 (by kernel_rfl) ?_
  obtain ⟨zs9566, hz9567, hr9568, hi9569⟩ := id ho9564
  obtain ⟨g9570, hg9571⟩ := gxIdx_fst hz9567 hput9565
  refine W_val (elemP p9473 (x9478.toNat * 3)) w9558 (by kernel_rfl) (E_nilE (E := deepBalloon.E) _ (x9478.toNat * 3) rfl (by kernel_rfl) (hr9568.rd M9563 1 (by kernel_rfl)) hg9571) ?_
  refine W_val (elemP p9473 (x9478.toNat * 3 + 2)) w9558 (by kernel_rfl) (E_fieldE (E := deepBalloon.E) _ _ 2 (x9478.toNat * 3) 2 rfl (by kernel_rfl) (by kernel_rfl) (hr9568.rd M9563 1 (by kernel_rfl)) hg9571) ?_
  refine W_val (.slice ((g9570 0).1) ((⟨y9479.Guest, y9479.Goal, ap9549⟩ : Balloon).Gave).length ((g9570 0).2)) w9558 (by kernel_rfl) (E_loadE (E := deepBalloon.E) _ _ false 1 x9478 2 (x9478.toNat * 3 + 2) ((⟨y9479.Guest, y9479.Goal, ap9549⟩ : Balloon), g9570) (.slice ((g9570 0).1) ((⟨y9479.Guest, y9479.Goal, ap9549⟩ : Balloon).Gave).length ((g9570 0).2)) rfl (by kernel_rfl) (by kernel_rfl) (by kernel_rfl) (hr9568.rd M9563 1 (by kernel_rfl)) hg9571 rfl) ?_
  obtain ⟨sa9586, sb9587, sc9588, hs9589, hb9590, hp9591⟩ := hi9569.lens (gxIdx_spec hg9571).2
  have M9592 := M9563.cut 5 (sa := sa9586) (sb := sb9587) (sc := sc9588) hs9589 (by kernel_rfl)
  obtain ⟨u9593, r9594, hu9595, ho9596, hr9597⟩ := hb9590
  have M9598 := M9592.cut 6 (sa := []) (sb := u9593) (sc := r9594) hu9595 (by kernel_rfl)
  obtain ⟨r9585, hr9585, hm⟩ := gx_bind hm
  refine W_call 88 #[.slice ((g9570 0).1) ((⟨y9479.Guest, y9479.Goal, ap9549⟩ : Balloon).Gave).length ((g9570 0).2)] (by kernel_rfl) (by kernel_rfl) ?_
  refine (c_slices_Sort_88 w9558 ((⟨y9479.Guest, y9479.Goal, ap9549⟩ : Balloon).Gave) ((g9570 0).1) ((g9570 0).2) u9593 ho9596 (M9598.hasPick [8]) (M9598.nodupPick [8] (by kernel_rfl)) hr9585).mono ?_
  rintro e_ w9603 ⟨sg9600, rfl, ho9601, hl9602, K9604⟩
  have M9605 := M9598.callF' [8] [0, 1, 2, 3, 4, 5, 6, 7, 9] (by kernel_rfl) K9604
  refine ⟨_, rfl, ?_⟩
  refine W_conv 50 (.slice ((g9570 0).1) ((⟨y9479.Guest, y9479.Goal, ap9549⟩ : Balloon).Gave).length ((g9570 0).2)) (.slice ((g9570 0).1) r9585.length ((g9570 0).2)) (by kernel_rfl) (by first | rw [hl9602] | rw [hl9602]) ?_
  have M9607 : Mem (idsOf [sg9469, sg9475, sg9476]) w w9603 [sg9525, sg9560, sg9494, sg9530, [], [], sa9586, sg9600, sc9588] := M9605.pick [0, 1, 2, 3, 4, 6, 5, 9, 7] (by kernel_rfl)
  have M9608 : Mem (idsOf [sg9469, sg9475, sg9476]) w w9603 [sg9525, sg9560, sg9494, sg9530, [], [], (sa9586 ++ ((sg9600 ++ []) ++ sc9588))] := M9607.regroup (by simp)
  have ho9609 : ownD deepBalloon ((x9471.set x9478.toNat (⟨y9479.Guest, y9479.Goal, ap9549⟩ : Balloon)).set x9478.toNat (⟨(⟨y9479.Guest, y9479.Goal, ap9549⟩ : Balloon).Guest, (⟨y9479.Guest, y9479.Goal, ap9549⟩ : Balloon).Goal, r9585⟩ : Balloon)) p9473 c9474 sg9560 (sa9586 ++ ((sg9600 ++ []) ++ sc9588)) := ⟨_, set_fst hz9567 x9478.toNat ((⟨(⟨y9479.Guest, y9479.Goal, ap9549⟩ : Balloon).Guest, (⟨y9479.Guest, y9479.Goal, ap9549⟩ : Balloon).Goal, r9585⟩ : Balloon), g9570), (hr9568.setSame (z' := ((⟨(⟨y9479.Guest, y9479.Goal, ap9549⟩ : Balloon).Guest, (⟨y9479.Guest, y9479.Goal, ap9549⟩ : Balloon).Goal, r9585⟩ : Balloon), g9570)) (gxIdx_spec hg9571).2 (by show ([.int .i64 ((⟨y9479.Guest, y9479.Goal, ap9549⟩ : Balloon).Guest), .int .i64 ((⟨y9479.Guest, y9479.Goal, ap9549⟩ : Balloon).Goal), .slice ((g9570 0).1) r9585.length ((g9570 0).2)] : List Value) = [.int .i64 ((⟨y9479.Guest, y9479.Goal, ap9549⟩ : Balloon).Guest), .int .i64 ((⟨y9479.Guest, y9479.Goal, ap9549⟩ : Balloon).Goal), .slice ((g9570 0).1) ((⟨y9479.Guest, y9479.Goal, ap9549⟩ : Balloon).Gave).length ((g9570 0).2)]; rw [hl9602])), hp9591 ((⟨(⟨y9479.Guest, y9479.Goal, ap9549⟩ : Balloon).Guest, (⟨y9479.Guest, y9479.Goal, ap9549⟩ : Balloon).Goal, r9585⟩ : Balloon), g9570) _ (ownI_cons (i := ⟨Int, Gx.encI, _, _, _⟩) ho9601 ownI_nil)⟩
  have hput9610 := gxIdx_put (⟨(⟨y9479.Guest, y9479.Goal, ap9549⟩ : Balloon).Guest, (⟨y9479.Guest, y9479.Goal, ap9549⟩ : Balloon).Goal, r9585⟩ : Balloon) (gxIdx_down hz9567 hg9571)
  refine W_nil ?_
  refine N_then ?_
  refine G_seq ?_
  refine G_region ?_
  refine W_run 1 [(4, .bool true)] w9603 (by kernel_rfl) ?_
  refine W_nil ?_
  refine N_then ?_
  refine G_ret ?_
  obtain rfl := Option.some.inj hm
  refine N_ret [.bool true] (RVs_cons (RV_tmp (by kernel_rfl)) RVs_nil) ?_
  exact ⟨sg9525, sg9560, (sa9586 ++ ((sg9600 ++ []) ++ sc9588)), rfl, ho9526, (List.length_set.trans rfl), ho9609, (List.length_set.trans (List.length_set.trans rfl)), M9608.pick [0, 1, 6] (by kernel_rfl)⟩
theorem c_i_Inflate (w : World) (x9353 : List Int) (p9355 : Option Addr) (c9356 : Nat) (h9357 : rdS Gx.encI w x9353 p9355 c9356) (x9358 : List Balloon) (p9360 : Option Addr) (c9361 : Nat) (h9362 : rdD deepBalloon w x9358 p9360 c9361) (x9363 : Int) {r : (List Int) × (List Balloon) × Bool} (hm : M.i_Inflate x9353 x9358 x9363 = some r) :
    Calls Try.prog 35 #[.slice p9355 x9353.length c9356, .slice p9360 x9358.length c9361, .int .i64 x9363] w fun e w' => ∃ (p9365 : Option Addr) (c9366 : Nat) (sg9367 : Seg), ∃ (p9369 : Option Addr) (c9370 : Nat) (sg9371 : Seg) (sg9372 : Seg), e = .returned (.tuple #[.slice p9365 r.1.length c9366, .slice p9369 r.2.1.length c9370, .bool r.2.2]) ∧ ownS Gx.encI r.1 p9365 c9366 sg9367 ∧ ownD deepBalloon r.2.1 p9369 c9370 sg9371 sg9372 ∧ Mem [] w w' [sg9367, sg9371, sg9372] := by
  unfold M.i_Inflate at hm
  refine C_enter Try.func35 rfl (by kernel_rfl) ?_
  have M0 := Mem.refl [] w
  refine G_seq ?_
  refine G_region ?_
  refine W_run 3 [(0, .slice p9355 x9353.length c9356), (1, .slice p9360 x9358.length c9361), (2, .int .i64 x9363)] w (by kernel_rfl) ?_
  refine W_nil ?_
  refine N_then ?_
  refine G_seq ?_
  refine G_region ?_
  refine W_run 3 [(0, .slice p9355 x9353.length c9356), (1, .slice p9360 x9358.length c9361), (14, .slice p9355 x9353.length c9356), (15, .slice p9360 x9358.length c9361), (16, .int .i64 x9363)] w (by kernel_rfl) ?_
  obtain ⟨r9375, hr9375, hm⟩ := gx_bind hm
  refine W_call 59 #[.slice p9355 x9353.length c9356, .slice p9360 x9358.length c9361, .int .i64 x9363] (by kernel_rfl) (by kernel_rfl) ?_
  refine (c_i_balloonOf w x9353 p9355 c9356 (h9357.mem0 M0) x9358 p9360 c9361 (h9362.mem0 M0) x9363 hr9375).mono ?_
  rintro e_ w9376 ⟨rfl, K9377⟩
  have M9378 := M0.call0 K9377
  refine ⟨_, rfl, ?_⟩
  refine W_run 5 [(0, .slice p9355 x9353.length c9356), (1, .slice p9360 x9358.length c9361), (9, .int .i64 r9375.1), (10, .bool r9375.2)] w9376 (by kernel_rfl) ?_
  refine W_nil ?_
  refine N_then ?_
  refine G_seq ?_
  refine G_seq ?_
  refine G_region ?_
  refine W_run 2 [(0, .slice p9355 x9353.length c9356), (1, .slice p9360 x9358.length c9361), (9, .int .i64 r9375.1), (21, .bool (!r9375.2))] w9376 (by kernel_rfl) ?_
  refine W_nil ?_
  refine N_then ?_
  rcases gx_bif hm with ⟨hc9379, hm⟩ | ⟨hc9379, hm⟩
  · refine G_cond_t (b := (!r9375.2)) hc9379 (by kernel_rfl) ?_
    refine G_seq ?_
    refine G_region ?_
    refine W_run 3 [(6, .slice none 0 0), (7, .slice none 0 0), (8, .bool false)] w9376 (by kernel_rfl) ?_
    refine W_nil ?_
    refine N_then ?_
    refine G_ret ?_
    refine N_then_ret ?_
    obtain rfl := Option.some.inj hm
    refine N_ret [.slice none 0 0, .slice none 0 0, .bool false] (RVs_cons (RV_tmp (by kernel_rfl)) (RVs_cons (RV_tmp (by kernel_rfl)) (RVs_cons (RV_tmp (by kernel_rfl)) RVs_nil))) ?_
    exact ⟨none, 0, [], none, 0, [], [], rfl, ownS_nil, ownD_nil, M9378.pick [100000, 100001, 100002] (by kernel_rfl)⟩
  refine G_cond_f (b := (!r9375.2)) hc9379 (by kernel_rfl) ?_
  refine G_skip ?_
  refine N_then ?_
  refine G_seq ?_
  refine G_region ?_
  refine W_run 1 [(1, .slice p9360 x9358.length c9361), (9, .int .i64 r9375.1), (22, .slice p9355 x9353.length c9356)] w9376 (by kernel_rfl) ?_
  obtain ⟨r9382, hr9382, hm⟩ := gx_bind hm
  refine W_call 62 #[.slice p9355 x9353.length c9356] (by kernel_rfl) (by kernel_rfl) ?_
  refine (c_i_copyInts w9376 x9353 p9355 c9356 (h9357.mem0 M9378) hr9382).mono ?_
  rintro e_ w9388 ⟨p9384, c9385, sg9386, rfl, ho9387, K9389⟩
  have M9390 := M9378.call K9389
  refine ⟨_, rfl, ?_⟩
  refine W_run 1 [(9, .int .i64 r9375.1), (23, .slice p9384 r9382.length c9385), (24, .slice p9360 x9358.length c9361)] w9388 (by kernel_rfl) ?_
  obtain ⟨r9391, hr9391, hm⟩ := gx_bind hm
  refine W_call 60 #[.slice p9360 x9358.length c9361] (by kernel_rfl) (by kernel_rfl) ?_
  refine (c_i_newBalloons w9388 x9358 p9360 c9361 (h9362.mem0 M9390) hr9391).mono ?_
  rintro e_ w9398 ⟨p9393, c9394, sg9395, sg9396, rfl, ho9397, K9399⟩
  have M9400 := M9390.call K9399
  refine ⟨_, rfl, ?_⟩
  refine W_run 2 [(9, .int .i64 r9375.1), (11, .slice p9384 r9382.length c9385), (12, .slice p9393 r9391.length c9394)] w9398 (by kernel_rfl) ?_
  refine W_nil ?_
  refine N_then ?_
  refine G_seq ?_
  refine G_seq ?_
  refine G_region ?_
  refine W_run 3 [(11, .slice p9384 r9382.length c9385), (12, .slice p9393 r9391.length c9394), (26, .slice p9384 r9382.length c9385), (27, .slice p9393 r9391.length c9394), (28, .int .i64 r9375.1)] w9398 (by kernel_rfl) ?_
  obtain ⟨y9401, hy9401, hm⟩ := gx_bind hm
  obtain ⟨zs9402, hz9403, hr9404, hi9405⟩ := id ho9397
  obtain ⟨g9406, hg9407⟩ := gxIdx_fst hz9403 hy9401
  refine W_val (elemP p9393 (r9375.1.toNat * 3)) w9398 (by kernel_rfl) (E_index (E := deepBalloon.E) _ _ _ r9391.length c9394 .i64 r9375.1 3 (y := (y9401, g9406)) rfl (by kernel_rfl) (by kernel_rfl) (by kernel_rfl) (hr9404.rd M9400 1 (by kernel_rfl)) (len_fst hz9403) hg9407) ?_
  obtain ⟨r9611, hr9611, hm⟩ := gx_bind hm
  refine W_call 70 #[.slice p9384 r9382.length c9385, elemP p9393 (r9375.1.toNat * 3)] (by kernel_rfl) (by kernel_rfl) ?_
  refine (c_i_inflate__e1 w9398 r9382 p9384 c9385 sg9386 ho9387 r9391 p9393 c9394 sg9395 sg9396 ho9397 r9375.1 (M9400.hasPick [0, 1, 2]) (M9400.nodupPick [0, 1, 2] (by kernel_rfl)) hr9611).mono ?_
  rintro e_ w9619 ⟨sg9612, sg9615, sg9616, rfl, ho9613, hl9614, ho9617, hl9618, K9620⟩
  have M9621 := M9400.callF' [0, 1, 2] [] (by kernel_rfl) K9620
  refine ⟨_, rfl, ?_⟩
  refine W_conv 11 (.slice p9384 r9382.length c9385) (.slice p9384 r9611.2.1.length c9385) (by kernel_rfl) (by first | rw [hl9614, hl9618] | rw [hl9614] | rw [hl9618]) ?_
  refine W_conv 12 (.slice p9393 r9391.length c9394) (.slice p9393 r9611.2.2.length c9394) (by kernel_rfl) (by first | rw [hl9614, hl9618] | rw [hl9614] | rw [hl9618]) ?_
  refine W_conv 26 (.slice p9384 r9382.length c9385) (.slice p9384 r9611.2.1.length c9385) (by kernel_rfl) (by first | rw [hl9614, hl9618] | rw [hl9614] | rw [hl9618]) ?_
  refine W_conv 27 (.slice p9393 r9391.length c9394) (.slice p9393 r9611.2.2.length c9394) (by kernel_rfl) (by first | rw [hl9614, hl9618] | rw [hl9614] | rw [hl9618]) ?_
  refine W_run 1 [(11, .slice p9384 r9611.2.1.length c9385), (12, .slice p9393 r9611.2.2.length c9394), (31, .bool (!r9611.1))] w9619 (by kernel_rfl) ?_
  refine W_nil ?_
  refine N_then ?_
  rcases gx_bif hm with ⟨hc9622, hm⟩ | ⟨hc9622, hm⟩
  · refine G_cond_t (b := (!r9611.1)) hc9622 (by kernel_rfl) ?_
    refine G_seq ?_
    refine G_region ?_
    refine W_run 3 [(6, .slice none 0 0), (7, .slice none 0 0), (8, .bool false)] w9619 (by kernel_rfl) ?_
    refine W_nil ?_
    refine N_then ?_
    refine G_ret ?_
    refine N_then_ret ?_
    obtain rfl := Option.some.inj hm
    refine N_ret [.slice none 0 0, .slice none 0 0, .bool false] (RVs_cons (RV_tmp (by kernel_rfl)) (RVs_cons (RV_tmp (by kernel_rfl)) (RVs_cons (RV_tmp (by kernel_rfl)) RVs_nil))) ?_
    exact ⟨none, 0, [], none, 0, [], [], rfl, ownS_nil, ownD_nil, M9621.pick [100000, 100001, 100002] (by kernel_rfl)⟩
  refine G_cond_f (b := (!r9611.1)) hc9622 (by kernel_rfl) ?_
  refine G_skip ?_
  refine N_then ?_
  refine G_seq ?_
  refine G_region ?_
  refine W_run 5 [(6, .slice p9384 r9611.2.1.length c9385), (7, .slice p9393 r9611.2.2.length c9394), (8, .bool true)] w9619 (by kernel_rfl) ?_
  refine W_nil ?_
  refine N_then ?_
  refine G_ret ?_
  obtain rfl := Option.some.inj hm
  refine N_ret [.slice p9384 r9611.2.1.length c9385, .slice p9393 r9611.2.2.length c9394, .bool true] (RVs_cons (RV_tmp (by kernel_rfl)) (RVs_cons (RV_tmp (by kernel_rfl)) (RVs_cons (RV_tmp (by kernel_rfl)) RVs_nil))) ?_
  exact ⟨p9384, c9385, sg9612, p9393, c9394, sg9615, sg9616, rfl, ho9613, ho9617, M9621.pick [0, 1, 2] (by kernel_rfl)⟩
end Go.Proofs.Ytlfligjpmodefaa
