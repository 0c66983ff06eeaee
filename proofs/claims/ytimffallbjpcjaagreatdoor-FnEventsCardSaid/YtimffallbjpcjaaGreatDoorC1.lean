/- The walks, printed by program: whenever the model gives r, the call returns r. Part 1. -/
import Derived.Test.YtimffallbjpcjaaGreatDoorM
import Derived.Test.YtimffallbjpcjaaGreatDoorProg
import Derived.Test.YtimffallbjpcjaaGreatDoorPi
import Derived.Test.YtimffallbjpcjaaGreatDoorSh
set_option linter.unusedVariables false
set_option maxRecDepth 100000
set_option maxHeartbeats 4000000
namespace Go.Proofs.YtimffallbjpcjaaGreatDoor
open Go.Gx
theorem c_l_rBig (w : World) (x6 : List Int) (p8 : Option Addr) (c9 : Nat) (h10 : rdS Gx.encU8 w x6 p8 c9) {r : Bool} (hm : M.l_rBig x6 = some r) :
    Calls Tryz.prog 4 #[.slice p8 x6.length c9] w fun e w' => e = .returned (.bool r) ∧ Mem [] w w' [] := by
  unfold M.l_rBig at hm
  refine C_enter Tryz.func4 rfl (by kernel_rfl) ?_
  have M0 := Mem.refl [] w
  refine G_seq ?_
  refine G_region ?_
  refine W_run 1 [(0, .slice p8 x6.length c9)] w (by kernel_rfl) ?_
  refine W_nil ?_
  refine N_then ?_
  refine G_seq ?_
  refine G_region ?_
  refine W_run 4 [(2, .bool (decide ((x6.length : Int) > 65536)))] w (by kernel_rfl) ?_
  refine W_nil ?_
  refine N_then ?_
  refine G_ret ?_
  obtain rfl := Option.some.inj hm
  refine N_ret [.bool (decide ((x6.length : Int) > 65536))] (RVs_cons (RV_tmp (by kernel_rfl)) RVs_nil) ?_
  exact ⟨rfl, M0.pick [] (by kernel_rfl)⟩
theorem c_s_l1Cur_next (w : World) (x70 : l1Cur) (p74 : Option Addr) (c75 : Nat) (h76 : rdS Gx.encU8 w x70.code p74 c75) (b72 : Nat) (hA : ∀ q ∈ List.flatten [[(b72, .cells ⟨[.slice p74 x70.code.length c75, .int .i64 x70.at_, .int .u64 x70.seed]⟩ 57 (0, 0))]], w.heap[q.1]? = some q.2) (hN : (idsOf [[(b72, .cells ⟨[.slice p74 x70.code.length c75, .int .i64 x70.at_, .int .u64 x70.seed]⟩ 57 (0, 0))]]).Nodup) (hap77 : apartX (idsOf [[(b72, .cells ⟨[.slice p74 x70.code.length c75, .int .i64 x70.at_, .int .u64 x70.seed]⟩ 57 (0, 0))]]) x70.code p74) {r : Int × Int × Int} (hm : M.s_l1Cur_next x70 = some r) :
    Calls Tryz.prog 82 #[.pointer (some ⟨b72, 0, none⟩)] w fun e w' => e = .returned (.int .i64 r.1) ∧ Mem (idsOf [[(b72, .cells ⟨[.slice p74 x70.code.length c75, .int .i64 x70.at_, .int .u64 x70.seed]⟩ 57 (0, 0))]]) w w' [[(b72, .cells ⟨[.slice p74 x70.code.length c75, .int .i64 r.2.1, .int .u64 r.2.2]⟩ 57 (0, 0))]] := by
  unfold M.s_l1Cur_next at hm
  refine C_enter Tryz.func82 rfl (by kernel_rfl) ?_
  have M0 := Mem.start' w [[(b72, .cells ⟨[.slice p74 x70.code.length c75, .int .i64 x70.at_, .int .u64 x70.seed]⟩ 57 (0, 0))]] hA hN
  refine G_seq ?_
  refine G_region ?_
  refine W_run 1 [(0, .pointer (some ⟨b72, 0, none⟩))] w (by kernel_rfl) ?_
  refine W_nil ?_
  refine N_then ?_
  refine G_seq ?_
  refine G_region ?_
  refine W_run 1 [(0, .pointer (some ⟨b72, 0, none⟩)), (3, .int .i64 0)] w (by kernel_rfl) ?_
  refine W_nil ?_
  refine N_then ?_
  refine G_seq ?_
  refine G_seq ?_
  refine G_quiet (by kernel_rfl) (by kernel_rfl) M0 ?_
  refine Z_runs [.pointer (some ⟨b72, 0, none⟩), .pointer (some ⟨b72, 0, none⟩), .pointer (some ⟨b72, 1, none⟩)] [(0, .pointer (some ⟨b72, 0, none⟩)), (3, .int .i64 0), (6, .pointer (some ⟨b72, 1, none⟩))] (fun w_ => by kernel_rfl) (by kernel_rfl) ?_
  refine Z_val (.int .i64 x70.at_) (by kernel_rfl) (fun w_ M_ => (E_load (e := 57) (fr := (0, 0)) _ _ false 1 b72 1 [.slice p74 x70.code.length c75, .int .i64 x70.at_, .int .u64 x70.seed] (.int .i64 x70.at_) rfl (by kernel_rfl) (by kernel_rfl) (by kernel_rfl) (M_.blk 0 (b := b72) (o := .cells ⟨[.slice p74 x70.code.length c75, .int .i64 x70.at_, .int .u64 x70.seed]⟩ 57 (0, 0)) (by kernel_rfl)))) ?_
  refine Z_runs [.pointer (some ⟨b72, 0, none⟩), .pointer (some ⟨b72, 0, none⟩), .pointer (some ⟨b72, 0, none⟩)] [(0, .pointer (some ⟨b72, 0, none⟩)), (3, .int .i64 0), (7, .int .i64 x70.at_), (10, .pointer (some ⟨b72, 0, none⟩))] (fun w_ => by kernel_rfl) (by kernel_rfl) ?_
  refine Z_val (.slice p74 x70.code.length c75) (by kernel_rfl) (fun w_ M_ => (E_load (e := 57) (fr := (0, 0)) _ _ false 1 b72 0 [.slice p74 x70.code.length c75, .int .i64 x70.at_, .int .u64 x70.seed] (.slice p74 x70.code.length c75) rfl (by kernel_rfl) (by kernel_rfl) (by kernel_rfl) (M_.blk 0 (b := b72) (o := .cells ⟨[.slice p74 x70.code.length c75, .int .i64 x70.at_, .int .u64 x70.seed]⟩ 57 (0, 0)) (by kernel_rfl)))) ?_
  refine Z_runs [.int .i64 (x70.code.length : Int), .bool (decide (x70.at_ < (x70.code.length : Int)))] [(0, .pointer (some ⟨b72, 0, none⟩)), (3, .int .i64 0), (13, .bool (decide (x70.at_ < (x70.code.length : Int))))] (fun w_ => by kernel_rfl) (by kernel_rfl) ?_
  refine Z_end fun w78 M79 => ?_
  refine N_then ?_
  obtain ⟨o84, ho85, hm86⟩ := gx_bind hm
  refine G_meet (fun a w' => Mem (idsOf [[(b72, .cells ⟨[.slice p74 x70.code.length c75, .int .i64 x70.at_, .int .u64 x70.seed]⟩ 57 (0, 0))]]) w w' [[(b72, .cells ⟨[.slice p74 x70.code.length c75, .int .i64 x70.at_, .int .u64 x70.seed]⟩ 57 (0, 0))]] ∧ Sat Tryz.f82.ntmps [(0, .pointer (some ⟨b72, 0, none⟩)), (3, .int .i64 o84)] a) ?_ ?_
  · have hm := ho85
    rcases gx_bif hm with ⟨hc87, hm⟩ | ⟨hc87, hm⟩
    · refine G_cond_t (b := (decide (x70.at_ < (x70.code.length : Int)))) hc87 (by kernel_rfl) ?_
      refine G_quiet (by kernel_rfl) (by kernel_rfl) M79 ?_
      refine Z_runs [.pointer (some ⟨b72, 0, none⟩), .pointer (some ⟨b72, 0, none⟩), .pointer (some ⟨b72, 0, none⟩)] [(0, .pointer (some ⟨b72, 0, none⟩)), (3, .int .i64 0), (16, .pointer (some ⟨b72, 0, none⟩))] (fun w_ => by kernel_rfl) (by kernel_rfl) ?_
      refine Z_val (.slice p74 x70.code.length c75) (by kernel_rfl) (fun w_ M_ => (E_load (e := 57) (fr := (0, 0)) _ _ false 1 b72 0 [.slice p74 x70.code.length c75, .int .i64 x70.at_, .int .u64 x70.seed] (.slice p74 x70.code.length c75) rfl (by kernel_rfl) (by kernel_rfl) (by kernel_rfl) (M_.blk 0 (b := b72) (o := .cells ⟨[.slice p74 x70.code.length c75, .int .i64 x70.at_, .int .u64 x70.seed]⟩ 57 (0, 0)) (by kernel_rfl)))) ?_
      refine Z_runs [.pointer (some ⟨b72, 0, none⟩), .pointer (some ⟨b72, 0, none⟩), .pointer (some ⟨b72, 1, none⟩)] [(0, .pointer (some ⟨b72, 0, none⟩)), (3, .int .i64 0), (17, .slice p74 x70.code.length c75), (20, .pointer (some ⟨b72, 1, none⟩))] (fun w_ => by kernel_rfl) (by kernel_rfl) ?_
      refine Z_val (.int .i64 x70.at_) (by kernel_rfl) (fun w_ M_ => (E_load (e := 57) (fr := (0, 0)) _ _ false 1 b72 1 [.slice p74 x70.code.length c75, .int .i64 x70.at_, .int .u64 x70.seed] (.int .i64 x70.at_) rfl (by kernel_rfl) (by kernel_rfl) (by kernel_rfl) (M_.blk 0 (b := b72) (o := .cells ⟨[.slice p74 x70.code.length c75, .int .i64 x70.at_, .int .u64 x70.seed]⟩ 57 (0, 0)) (by kernel_rfl)))) ?_
      obtain ⟨y88, hy88, hm⟩ := gx_bind hm
      refine Z_val (elemP p74 (x70.at_.toNat * 1)) (by kernel_rfl) (fun w_ M_ => (E_index (E := Gx.encU8) _ _ _ x70.code.length c75 .i64 x70.at_ 1 (y := y88) rfl (by kernel_rfl) (by kernel_rfl) (by kernel_rfl) (h76.memX hap77 M_) rfl hy88)) ?_
      refine Z_val (.int .u8 y88) (by kernel_rfl) (fun w_ M_ => (E_loadE (E := Gx.encU8) _ _ false 1 x70.at_ 0 (x70.at_.toNat * 1) y88 (.int .u8 y88) rfl (by kernel_rfl) (by kernel_rfl) (by kernel_rfl) (h76.memX hap77 M_) hy88 rfl)) ?_
      refine Z_runs [.int .i64 (w64 y88), .int .i64 (w64 y88)] [(0, .pointer (some ⟨b72, 0, none⟩)), (3, .int .i64 (w64 y88))] (fun w_ => by kernel_rfl) (by kernel_rfl) ?_
      refine Z_end fun w89 M90 => ?_
      obtain rfl := Option.some.inj hm
      exact N_meet fun a ha => ⟨M90.pick [0] (by kernel_rfl), ha.sub (by kernel_rfl)⟩
    refine G_cond_f (b := (decide (x70.at_ < (x70.code.length : Int)))) hc87 (by kernel_rfl) ?_
    refine G_skip ?_
    obtain rfl := Option.some.inj hm
    exact N_meet fun a ha => ⟨M79.pick [0] (by kernel_rfl), ha.sub (by kernel_rfl)⟩
  intro a93 w91 ⟨M92, hS94⟩
  refine N_use hS94 ?_
  have hm := hm86
  refine N_then ?_
  refine G_seq ?_
  refine G_region ?_
  refine W_run 3 [(0, .pointer (some ⟨b72, 0, none⟩)), (3, .int .i64 o84), (25, .pointer (some ⟨b72, 0, none⟩)), (27, .pointer (some ⟨b72, 1, none⟩))] w91 (by kernel_rfl) ?_
  refine W_val (.int .i64 x70.at_) w91 (by kernel_rfl) (E_load (e := 57) (fr := (0, 0)) _ _ false 1 b72 1 [.slice p74 x70.code.length c75, .int .i64 x70.at_, .int .u64 x70.seed] (.int .i64 x70.at_) rfl (by kernel_rfl) (by kernel_rfl) (by kernel_rfl) (M92.blk 0 (b := b72) (o := .cells ⟨[.slice p74 x70.code.length c75, .int .i64 x70.at_, .int .u64 x70.seed]⟩ 57 (0, 0)) (by kernel_rfl))) ?_
  refine W_run 3 [(0, .pointer (some ⟨b72, 0, none⟩)), (3, .int .i64 o84), (29, .int .i64 (w64 (x70.at_ + 1))), (31, .pointer (some ⟨b72, 1, none⟩))] w91 (by kernel_rfl) ?_
  refine W_store _ _ _ false 1 b72 1 [.slice p74 x70.code.length c75, .int .i64 x70.at_, .int .u64 x70.seed] 57 (.int .i64 (w64 (x70.at_ + 1))) 0 [.slice p74 x70.code.length c75, .int .i64 (w64 (x70.at_ + 1)), .int .u64 x70.seed] M92 (by kernel_rfl) rfl (by kernel_rfl) (by kernel_rfl) (by kernel_rfl) (by kernel_rfl) (by kernel_rfl) (by kernel_rfl) (by kernel_rfl) (by kernel_rfl) ?_
  intro w95 M96
  refine W_nil ?_
  refine N_then ?_
  refine G_seq ?_
  refine G_region ?_
  refine W_run 4 [(0, .pointer (some ⟨b72, 0, none⟩)), (3, .int .i64 o84), (32, .pointer (some ⟨b72, 0, none⟩)), (35, .pointer (some ⟨b72, 2, none⟩))] w95 (by kernel_rfl) ?_
  refine W_val (.int .u64 x70.seed) w95 (by kernel_rfl) (E_load (e := 57) (fr := (0, 0)) _ _ false 1 b72 2 [.slice p74 x70.code.length c75, .int .i64 (w64 (x70.at_ + 1)), .int .u64 x70.seed] (.int .u64 x70.seed) rfl (by kernel_rfl) (by kernel_rfl) (by kernel_rfl) (M96.blk 0 (b := b72) (o := .cells ⟨[.slice p74 x70.code.length c75, .int .i64 (w64 (x70.at_ + 1)), .int .u64 x70.seed]⟩ 57 (0, 0)) (by kernel_rfl))) ?_
  refine W_run 7 [(0, .pointer (some ⟨b72, 0, none⟩)), (3, .int .i64 o84), (41, .int .u64 (IntKind.u64.wrap ((IntKind.u64.wrap ((IntKind.u64.wrap (x70.seed * 6364136223846793005)) + (IntKind.u64.wrap o84))) + 843843))), (43, .pointer (some ⟨b72, 2, none⟩))] w95 (by kernel_rfl) ?_
  refine W_store _ _ _ false 1 b72 2 [.slice p74 x70.code.length c75, .int .i64 (w64 (x70.at_ + 1)), .int .u64 x70.seed] 57 (.int .u64 (IntKind.u64.wrap ((IntKind.u64.wrap ((IntKind.u64.wrap (x70.seed * 6364136223846793005)) + (IntKind.u64.wrap o84))) + 843843))) 0 [.slice p74 x70.code.length c75, .int .i64 (w64 (x70.at_ + 1)), .int .u64 (IntKind.u64.wrap ((IntKind.u64.wrap ((IntKind.u64.wrap (x70.seed * 6364136223846793005)) + (IntKind.u64.wrap o84))) + 843843))] M96 (by kernel_rfl) rfl (by kernel_rfl) (by kernel_rfl) (by kernel_rfl) (by kernel_rfl) (by kernel_rfl) (by kernel_rfl) (by kernel_rfl) (by kernel_rfl) ?_
  intro w97 M98
  refine W_nil ?_
  refine N_then ?_
  refine G_seq ?_
  refine G_seq ?_
  refine G_quiet (by kernel_rfl) (by kernel_rfl) M98 ?_
  refine Z_runs [.pointer (some ⟨b72, 0, none⟩), .pointer (some ⟨b72, 0, none⟩), .pointer (some ⟨b72, 1, none⟩)] [(0, .pointer (some ⟨b72, 0, none⟩)), (3, .int .i64 o84), (46, .pointer (some ⟨b72, 1, none⟩))] (fun w_ => by kernel_rfl) (by kernel_rfl) ?_
  refine Z_val (.int .i64 (w64 (x70.at_ + 1))) (by kernel_rfl) (fun w_ M_ => (E_load (e := 57) (fr := (0, 0)) _ _ false 1 b72 1 [.slice p74 x70.code.length c75, .int .i64 (w64 (x70.at_ + 1)), .int .u64 (IntKind.u64.wrap ((IntKind.u64.wrap ((IntKind.u64.wrap (x70.seed * 6364136223846793005)) + (IntKind.u64.wrap o84))) + 843843))] (.int .i64 (w64 (x70.at_ + 1))) rfl (by kernel_rfl) (by kernel_rfl) (by kernel_rfl) (M_.blk 0 (b := b72) (o := .cells ⟨[.slice p74 x70.code.length c75, .int .i64 (w64 (x70.at_ + 1)), .int .u64 (IntKind.u64.wrap ((IntKind.u64.wrap ((IntKind.u64.wrap (x70.seed * 6364136223846793005)) + (IntKind.u64.wrap o84))) + 843843))]⟩ 57 (0, 0)) (by kernel_rfl)))) ?_
  refine Z_runs [.pointer (some ⟨b72, 0, none⟩), .pointer (some ⟨b72, 0, none⟩), .pointer (some ⟨b72, 0, none⟩)] [(0, .pointer (some ⟨b72, 0, none⟩)), (3, .int .i64 o84), (47, .int .i64 (w64 (x70.at_ + 1))), (50, .pointer (some ⟨b72, 0, none⟩))] (fun w_ => by kernel_rfl) (by kernel_rfl) ?_
  refine Z_val (.slice p74 x70.code.length c75) (by kernel_rfl) (fun w_ M_ => (E_load (e := 57) (fr := (0, 0)) _ _ false 1 b72 0 [.slice p74 x70.code.length c75, .int .i64 (w64 (x70.at_ + 1)), .int .u64 (IntKind.u64.wrap ((IntKind.u64.wrap ((IntKind.u64.wrap (x70.seed * 6364136223846793005)) + (IntKind.u64.wrap o84))) + 843843))] (.slice p74 x70.code.length c75) rfl (by kernel_rfl) (by kernel_rfl) (by kernel_rfl) (M_.blk 0 (b := b72) (o := .cells ⟨[.slice p74 x70.code.length c75, .int .i64 (w64 (x70.at_ + 1)), .int .u64 (IntKind.u64.wrap ((IntKind.u64.wrap ((IntKind.u64.wrap (x70.seed * 6364136223846793005)) + (IntKind.u64.wrap o84))) + 843843))]⟩ 57 (0, 0)) (by kernel_rfl)))) ?_
  refine Z_runs [.int .i64 (x70.code.length : Int), .bool (decide ((w64 (x70.at_ + 1)) ≤ (x70.code.length : Int)))] [(0, .pointer (some ⟨b72, 0, none⟩)), (3, .int .i64 o84), (53, .bool (decide ((w64 (x70.at_ + 1)) ≤ (x70.code.length : Int))))] (fun w_ => by kernel_rfl) (by kernel_rfl) ?_
  refine Z_end fun w99 M100 => ?_
  refine N_then ?_
  rcases gx_bif hm with ⟨hc101, hm⟩ | ⟨hc101, hm⟩
  · refine G_cond_t (b := (decide ((w64 (x70.at_ + 1)) ≤ (x70.code.length : Int)))) hc101 (by kernel_rfl) ?_
    refine G_seq ?_
    refine G_region ?_
    refine W_run 2 [(2, .int .i64 o84)] w99 (by kernel_rfl) ?_
    refine W_nil ?_
    refine N_then ?_
    refine G_ret ?_
    refine N_then_ret ?_
    obtain rfl := Option.some.inj hm
    refine N_ret [.int .i64 o84] (RVs_cons (RV_tmp (by kernel_rfl)) RVs_nil) ?_
    exact ⟨rfl, M100.pick [0] (by kernel_rfl)⟩
  refine G_cond_f (b := (decide ((w64 (x70.at_ + 1)) ≤ (x70.code.length : Int)))) hc101 (by kernel_rfl) ?_
  refine G_skip ?_
  refine N_then ?_
  refine G_seq ?_
  refine G_region ?_
  refine W_run 3 [(57, .pointer (some ⟨b72, 2, none⟩))] w99 (by kernel_rfl) ?_
  refine W_val (.int .u64 (IntKind.u64.wrap ((IntKind.u64.wrap ((IntKind.u64.wrap (x70.seed * 6364136223846793005)) + (IntKind.u64.wrap o84))) + 843843))) w99 (by kernel_rfl) (E_load (e := 57) (fr := (0, 0)) _ _ false 1 b72 2 [.slice p74 x70.code.length c75, .int .i64 (w64 (x70.at_ + 1)), .int .u64 (IntKind.u64.wrap ((IntKind.u64.wrap ((IntKind.u64.wrap (x70.seed * 6364136223846793005)) + (IntKind.u64.wrap o84))) + 843843))] (.int .u64 (IntKind.u64.wrap ((IntKind.u64.wrap ((IntKind.u64.wrap (x70.seed * 6364136223846793005)) + (IntKind.u64.wrap o84))) + 843843))) rfl (by kernel_rfl) (by kernel_rfl) (by kernel_rfl) (M100.blk 0 (b := b72) (o := .cells ⟨[.slice p74 x70.code.length c75, .int .i64 (w64 (x70.at_ + 1)), .int .u64 (IntKind.u64.wrap ((IntKind.u64.wrap ((IntKind.u64.wrap (x70.seed * 6364136223846793005)) + (IntKind.u64.wrap o84))) + 843843))]⟩ 57 (0, 0)) (by kernel_rfl))) ?_
  refine W_run 4 [(2, .int .i64 (w64 (gxAnd .u64 ((IntKind.u64.wrap ((IntKind.u64.wrap ((IntKind.u64.wrap (x70.seed * 6364136223846793005)) + (IntKind.u64.wrap o84))) + 843843)).fdiv (2 ^ 40)) 255)))] w99 (by kernel_rfl) ?_
  refine W_nil ?_
  refine N_then ?_
  refine G_ret ?_
  obtain rfl := Option.some.inj hm
  refine N_ret [.int .i64 (w64 (gxAnd .u64 ((IntKind.u64.wrap ((IntKind.u64.wrap ((IntKind.u64.wrap (x70.seed * 6364136223846793005)) + (IntKind.u64.wrap o84))) + 843843)).fdiv (2 ^ 40)) 255))] (RVs_cons (RV_tmp (by kernel_rfl)) RVs_nil) ?_
  exact ⟨rfl, M100.pick [0] (by kernel_rfl)⟩
theorem c_s_l1Cur_pick (w : World) (x60 : l1Cur) (p64 : Option Addr) (c65 : Nat) (h66 : rdS Gx.encU8 w x60.code p64 c65) (b62 : Nat) (x68 : Int) (hA : ∀ q ∈ List.flatten [[(b62, .cells ⟨[.slice p64 x60.code.length c65, .int .i64 x60.at_, .int .u64 x60.seed]⟩ 57 (0, 0))]], w.heap[q.1]? = some q.2) (hN : (idsOf [[(b62, .cells ⟨[.slice p64 x60.code.length c65, .int .i64 x60.at_, .int .u64 x60.seed]⟩ 57 (0, 0))]]).Nodup) (hap67 : apartX (idsOf [[(b62, .cells ⟨[.slice p64 x60.code.length c65, .int .i64 x60.at_, .int .u64 x60.seed]⟩ 57 (0, 0))]]) x60.code p64) {r : Int × Int × Int} (hm : M.s_l1Cur_pick x60 x68 = some r) :
    Calls Tryz.prog 65 #[.pointer (some ⟨b62, 0, none⟩), .int .i64 x68] w fun e w' => e = .returned (.int .i64 r.1) ∧ Mem (idsOf [[(b62, .cells ⟨[.slice p64 x60.code.length c65, .int .i64 x60.at_, .int .u64 x60.seed]⟩ 57 (0, 0))]]) w w' [[(b62, .cells ⟨[.slice p64 x60.code.length c65, .int .i64 r.2.1, .int .u64 r.2.2]⟩ 57 (0, 0))]] := by
  unfold M.s_l1Cur_pick at hm
  refine C_enter Tryz.func65 rfl (by kernel_rfl) ?_
  have M0 := Mem.start' w [[(b62, .cells ⟨[.slice p64 x60.code.length c65, .int .i64 x60.at_, .int .u64 x60.seed]⟩ 57 (0, 0))]] hA hN
  refine G_seq ?_
  refine G_region ?_
  refine W_run 1 [(0, .pointer (some ⟨b62, 0, none⟩)), (1, .int .i64 x68)] w (by kernel_rfl) ?_
  refine W_nil ?_
  refine N_then ?_
  refine G_seq ?_
  refine G_seq ?_
  refine G_region ?_
  refine W_run 2 [(0, .pointer (some ⟨b62, 0, none⟩)), (1, .int .i64 x68), (7, .bool (decide (x68 ≤ 1)))] w (by kernel_rfl) ?_
  refine W_nil ?_
  refine N_then ?_
  rcases gx_bif hm with ⟨hc69, hm⟩ | ⟨hc69, hm⟩
  · refine G_cond_t (b := (decide (x68 ≤ 1))) hc69 (by kernel_rfl) ?_
    refine G_seq ?_
    refine G_region ?_
    refine W_run 1 [(4, .int .i64 0)] w (by kernel_rfl) ?_
    refine W_nil ?_
    refine N_then ?_
    refine G_ret ?_
    refine N_then_ret ?_
    obtain rfl := Option.some.inj hm
    refine N_ret [.int .i64 0] (RVs_cons (RV_tmp (by kernel_rfl)) RVs_nil) ?_
    exact ⟨rfl, M0.pick [0] (by kernel_rfl)⟩
  refine G_cond_f (b := (decide (x68 ≤ 1))) hc69 (by kernel_rfl) ?_
  refine G_skip ?_
  refine N_then ?_
  refine G_seq ?_
  refine G_region ?_
  refine W_run 1 [(0, .pointer (some ⟨b62, 0, none⟩)), (1, .int .i64 x68), (8, .pointer (some ⟨b62, 0, none⟩))] w (by kernel_rfl) ?_
  obtain ⟨r102, hr102, hm⟩ := gx_bind hm
  refine W_call 82 #[.pointer (some ⟨b62, 0, none⟩)] (by kernel_rfl) (by kernel_rfl) ?_
  refine (c_s_l1Cur_next w x60 p64 c65 (h66.memX hap67 M0) b62 (M0.hasPick [0]) (M0.nodupPick [0] (by kernel_rfl)) (apartX.old h66 hap67 M0 [0]) hr102).mono ?_
  rintro e_ w103 ⟨rfl, K104⟩
  have M105 := M0.callF' [0] [] (by kernel_rfl) K104
  refine ⟨_, rfl, ?_⟩
  refine W_run 1 [(0, .pointer (some ⟨b62, 0, none⟩)), (1, .int .i64 x68), (5, .int .i64 r102.1)] w103 (by kernel_rfl) ?_
  refine W_nil ?_
  refine N_then ?_
  refine G_seq ?_
  refine G_seq ?_
  refine G_region ?_
  refine W_run 2 [(0, .pointer (some ⟨b62, 0, none⟩)), (1, .int .i64 x68), (5, .int .i64 r102.1), (11, .bool (decide (x68 > 200)))] w103 (by kernel_rfl) ?_
  refine W_nil ?_
  refine N_then ?_
  obtain ⟨o111, ho112, hm113⟩ := gx_bind hm
  refine G_meet (fun a w' => Mem (idsOf [[(b62, .cells ⟨[.slice p64 x60.code.length c65, .int .i64 x60.at_, .int .u64 x60.seed]⟩ 57 (0, 0))]]) w w' [[(b62, .cells ⟨[.slice p64 x60.code.length c65, .int .i64 o111.2.1, .int .u64 o111.2.2]⟩ 57 (0, 0))]] ∧ Sat Tryz.f65.ntmps [(1, .int .i64 x68), (5, .int .i64 o111.1)] a) ?_ ?_
  · have hm := ho112
    rcases gx_bif hm with ⟨hc114, hm⟩ | ⟨hc114, hm⟩
    · refine G_cond_t (b := (decide (x68 > 200))) hc114 (by kernel_rfl) ?_
      refine G_region ?_
      refine W_run 3 [(1, .int .i64 x68), (5, .int .i64 r102.1), (13, .int .i64 (w64 (r102.1 * 256))), (14, .pointer (some ⟨b62, 0, none⟩))] w103 (by kernel_rfl) ?_
      obtain ⟨r115, hr115, hm⟩ := gx_bind hm
      refine W_call 82 #[.pointer (some ⟨b62, 0, none⟩)] (by kernel_rfl) (by kernel_rfl) ?_
      refine (c_s_l1Cur_next w103 (⟨x60.code, r102.2.1, r102.2.2⟩ : l1Cur) p64 c65 (h66.memX hap67 M105) b62 (M105.hasPick [0]) (M105.nodupPick [0] (by kernel_rfl)) (apartX.old h66 hap67 M105 [0]) hr115).mono ?_
      rintro e_ w116 ⟨rfl, K117⟩
      have M118 := M105.callF' [0] [] (by kernel_rfl) K117
      refine ⟨_, rfl, ?_⟩
      refine W_run 2 [(1, .int .i64 x68), (5, .int .i64 (w64 ((w64 (r102.1 * 256)) + r115.1)))] w116 (by kernel_rfl) ?_
      refine W_nil ?_
      obtain rfl := Option.some.inj hm
      exact N_meet fun a ha => ⟨M118.pick [0] (by kernel_rfl), ha.sub (by kernel_rfl)⟩
    refine G_cond_f (b := (decide (x68 > 200))) hc114 (by kernel_rfl) ?_
    refine G_skip ?_
    obtain rfl := Option.some.inj hm
    exact N_meet fun a ha => ⟨M105.pick [0] (by kernel_rfl), ha.sub (by kernel_rfl)⟩
  intro a121 w119 ⟨M120, hS122⟩
  refine N_use hS122 ?_
  have hm := hm113
  refine N_then ?_
  refine G_seq ?_
  refine G_region ?_
  refine W_run 2 [(17, .int .i64 o111.1), (18, .int .i64 x68)] w119 (by kernel_rfl) ?_
  obtain ⟨q123, hq123, hm⟩ := gx_bind hm
  refine W_val (.int .i64 q123) w119 (by kernel_rfl) (E_rem _ _ _ _ o111.1 x68 q123 rfl (by kernel_rfl) (by kernel_rfl) hq123) ?_
  refine W_run 1 [(4, .int .i64 q123)] w119 (by kernel_rfl) ?_
  refine W_nil ?_
  refine N_then ?_
  refine G_ret ?_
  obtain rfl := Option.some.inj hm
  refine N_ret [.int .i64 q123] (RVs_cons (RV_tmp (by kernel_rfl)) RVs_nil) ?_
  exact ⟨rfl, M120.pick [0] (by kernel_rfl)⟩
theorem c_s_l1Cur_among (w : World) (x46 : l1Cur) (p50 : Option Addr) (c51 : Nat) (h52 : rdS Gx.encU8 w x46.code p50 c51) (b48 : Nat) (x54 : List Int) (p56 : Option Addr) (c57 : Nat) (h58 : rdS Gx.encI w x54 p56 c57) (hA : ∀ q ∈ List.flatten [[(b48, .cells ⟨[.slice p50 x46.code.length c51, .int .i64 x46.at_, .int .u64 x46.seed]⟩ 57 (0, 0))]], w.heap[q.1]? = some q.2) (hN : (idsOf [[(b48, .cells ⟨[.slice p50 x46.code.length c51, .int .i64 x46.at_, .int .u64 x46.seed]⟩ 57 (0, 0))]]).Nodup) (hap53 : apartX (idsOf [[(b48, .cells ⟨[.slice p50 x46.code.length c51, .int .i64 x46.at_, .int .u64 x46.seed]⟩ 57 (0, 0))]]) x46.code p50) (hap59 : apartX (idsOf [[(b48, .cells ⟨[.slice p50 x46.code.length c51, .int .i64 x46.at_, .int .u64 x46.seed]⟩ 57 (0, 0))]]) x54 p56) {r : Int × Int × Int} (hm : M.s_l1Cur_among x46 x54 = some r) :
    Calls Tryz.prog 34 #[.pointer (some ⟨b48, 0, none⟩), .slice p56 x54.length c57] w fun e w' => e = .returned (.int .i64 r.1) ∧ Mem (idsOf [[(b48, .cells ⟨[.slice p50 x46.code.length c51, .int .i64 x46.at_, .int .u64 x46.seed]⟩ 57 (0, 0))]]) w w' [[(b48, .cells ⟨[.slice p50 x46.code.length c51, .int .i64 r.2.1, .int .u64 r.2.2]⟩ 57 (0, 0))]] := by
  unfold M.s_l1Cur_among at hm
  refine C_enter Tryz.func34 rfl (by kernel_rfl) ?_
  have M0 := Mem.start' w [[(b48, .cells ⟨[.slice p50 x46.code.length c51, .int .i64 x46.at_, .int .u64 x46.seed]⟩ 57 (0, 0))]] hA hN
  refine G_seq ?_
  refine G_region ?_
  refine W_run 1 [(0, .pointer (some ⟨b48, 0, none⟩)), (1, .slice p56 x54.length c57)] w (by kernel_rfl) ?_
  refine W_nil ?_
  refine N_then ?_
  refine G_seq ?_
  refine G_region ?_
  refine W_run 4 [(5, .slice p56 x54.length c57), (6, .pointer (some ⟨b48, 0, none⟩)), (8, .int .i64 (x54.length : Int))] w (by kernel_rfl) ?_
  obtain ⟨r124, hr124, hm⟩ := gx_bind hm
  refine W_call 65 #[.pointer (some ⟨b48, 0, none⟩), .int .i64 (x54.length : Int)] (by kernel_rfl) (by kernel_rfl) ?_
  refine (c_s_l1Cur_pick w x46 p50 c51 (h52.memX hap53 M0) b48 (x54.length : Int) (M0.hasPick [0]) (M0.nodupPick [0] (by kernel_rfl)) (apartX.old h52 hap53 M0 [0]) hr124).mono ?_
  rintro e_ w125 ⟨rfl, K126⟩
  have M127 := M0.callF' [0] [] (by kernel_rfl) K126
  refine ⟨_, rfl, ?_⟩
  obtain ⟨y128, hy128, hm⟩ := gx_bind hm
  refine W_val (elemP p56 (r124.1.toNat * 1)) w125 (by kernel_rfl) (E_index (E := Gx.encI) _ _ _ x54.length c57 .i64 r124.1 1 (y := y128) rfl (by kernel_rfl) (by kernel_rfl) (by kernel_rfl) (h58.memX hap59 M127) rfl hy128) ?_
  refine W_val (.int .i64 y128) w125 (by kernel_rfl) (E_loadE (E := Gx.encI) _ _ false 1 r124.1 0 (r124.1.toNat * 1) y128 (.int .i64 y128) rfl (by kernel_rfl) (by kernel_rfl) (by kernel_rfl) (h58.memX hap59 M127) hy128 rfl) ?_
  refine W_run 1 [(4, .int .i64 y128)] w125 (by kernel_rfl) ?_
  refine W_nil ?_
  refine N_then ?_
  refine G_ret ?_
  obtain rfl := Option.some.inj hm
  refine N_ret [.int .i64 y128] (RVs_cons (RV_tmp (by kernel_rfl)) RVs_nil) ?_
  exact ⟨rfl, M127.pick [0] (by kernel_rfl)⟩
theorem c_s_l1Cur_of (w : World) (x157 : l1Cur) (p161 : Option Addr) (c162 : Nat) (h163 : rdS Gx.encU8 w x157.code p161 c162) (b159 : Nat) (x165 : List ByteArray) (p167 : Option Addr) (c168 : Nat) (h169 : rdS Gx.encS w x165 p167 c168) (hA : ∀ q ∈ List.flatten [[(b159, .cells ⟨[.slice p161 x157.code.length c162, .int .i64 x157.at_, .int .u64 x157.seed]⟩ 57 (0, 0))]], w.heap[q.1]? = some q.2) (hN : (idsOf [[(b159, .cells ⟨[.slice p161 x157.code.length c162, .int .i64 x157.at_, .int .u64 x157.seed]⟩ 57 (0, 0))]]).Nodup) (hap164 : apartX (idsOf [[(b159, .cells ⟨[.slice p161 x157.code.length c162, .int .i64 x157.at_, .int .u64 x157.seed]⟩ 57 (0, 0))]]) x157.code p161) (hap170 : apartX (idsOf [[(b159, .cells ⟨[.slice p161 x157.code.length c162, .int .i64 x157.at_, .int .u64 x157.seed]⟩ 57 (0, 0))]]) x165 p167) {r : ByteArray × Int × Int} (hm : M.s_l1Cur_of x157 x165 = some r) :
    Calls Tryz.prog 66 #[.pointer (some ⟨b159, 0, none⟩), .slice p167 x165.length c168] w fun e w' => e = .returned (.string r.1) ∧ Mem (idsOf [[(b159, .cells ⟨[.slice p161 x157.code.length c162, .int .i64 x157.at_, .int .u64 x157.seed]⟩ 57 (0, 0))]]) w w' [[(b159, .cells ⟨[.slice p161 x157.code.length c162, .int .i64 r.2.1, .int .u64 r.2.2]⟩ 57 (0, 0))]] := by
  unfold M.s_l1Cur_of at hm
  refine C_enter Tryz.func66 rfl (by kernel_rfl) ?_
  have M0 := Mem.start' w [[(b159, .cells ⟨[.slice p161 x157.code.length c162, .int .i64 x157.at_, .int .u64 x157.seed]⟩ 57 (0, 0))]] hA hN
  refine G_seq ?_
  refine G_region ?_
  refine W_run 1 [(0, .pointer (some ⟨b159, 0, none⟩)), (1, .slice p167 x165.length c168)] w (by kernel_rfl) ?_
  refine W_nil ?_
  refine N_then ?_
  refine G_seq ?_
  refine G_region ?_
  refine W_run 4 [(5, .slice p167 x165.length c168), (6, .pointer (some ⟨b159, 0, none⟩)), (8, .int .i64 (x165.length : Int))] w (by kernel_rfl) ?_
  obtain ⟨r171, hr171, hm⟩ := gx_bind hm
  refine W_call 65 #[.pointer (some ⟨b159, 0, none⟩), .int .i64 (x165.length : Int)] (by kernel_rfl) (by kernel_rfl) ?_
  refine (c_s_l1Cur_pick w x157 p161 c162 (h163.memX hap164 M0) b159 (x165.length : Int) (M0.hasPick [0]) (M0.nodupPick [0] (by kernel_rfl)) (apartX.old h163 hap164 M0 [0]) hr171).mono ?_
  rintro e_ w172 ⟨rfl, K173⟩
  have M174 := M0.callF' [0] [] (by kernel_rfl) K173
  refine ⟨_, rfl, ?_⟩
  obtain ⟨y175, hy175, hm⟩ := gx_bind hm
  refine W_val (elemP p167 (r171.1.toNat * 1)) w172 (by kernel_rfl) (E_index (E := Gx.encS) _ _ _ x165.length c168 .i64 r171.1 1 (y := y175) rfl (by kernel_rfl) (by kernel_rfl) (by kernel_rfl) (h169.memX hap170 M174) rfl hy175) ?_
  refine W_val (.string y175) w172 (by kernel_rfl) (E_loadE (E := Gx.encS) _ _ false 1 r171.1 0 (r171.1.toNat * 1) y175 (.string y175) rfl (by kernel_rfl) (by kernel_rfl) (by kernel_rfl) (h169.memX hap170 M174) hy175 rfl) ?_
  refine W_run 1 [(4, .string y175)] w172 (by kernel_rfl) ?_
  refine W_nil ?_
  refine N_then ?_
  refine G_ret ?_
  obtain rfl := Option.some.inj hm
  refine N_ret [.string y175] (RVs_cons (RV_tmp (by kernel_rfl)) RVs_nil) ?_
  exact ⟨rfl, M174.pick [0] (by kernel_rfl)⟩
theorem c_s_l1Cur_event (w : World) (x133 : l1Cur) (p137 : Option Addr) (c138 : Nat) (h139 : rdS Gx.encU8 w x133.code p137 c138) (b135 : Nat) (x141 : Int) (hA : ∀ q ∈ List.flatten [[(b135, .cells ⟨[.slice p137 x133.code.length c138, .int .i64 x133.at_, .int .u64 x133.seed]⟩ 57 (0, 0))]], w.heap[q.1]? = some q.2) (hN : (idsOf [[(b135, .cells ⟨[.slice p137 x133.code.length c138, .int .i64 x133.at_, .int .u64 x133.seed]⟩ 57 (0, 0))]]).Nodup) (hap140 : apartX (idsOf [[(b135, .cells ⟨[.slice p137 x133.code.length c138, .int .i64 x133.at_, .int .u64 x133.seed]⟩ 57 (0, 0))]]) x133.code p137) {r : Event × Int × Int} (hm : M.s_l1Cur_event x133 x141 = some r) :
    Calls Tryz.prog 33 #[.pointer (some ⟨b135, 0, none⟩), .int .i64 x141] w fun e w' => e = .returned (.agg #[.int .i64 r.1.Tick, .int .i64 r.1.Guest, .string r.1.Kind, .int .i64 r.1.Value]) ∧ Mem (idsOf [[(b135, .cells ⟨[.slice p137 x133.code.length c138, .int .i64 x133.at_, .int .u64 x133.seed]⟩ 57 (0, 0))]]) w w' [[(b135, .cells ⟨[.slice p137 x133.code.length c138, .int .i64 r.2.1, .int .u64 r.2.2]⟩ 57 (0, 0))]] := by
  unfold M.s_l1Cur_event at hm
  refine C_enter Tryz.func33 rfl (by kernel_rfl) ?_
  have M0 := Mem.start' w [[(b135, .cells ⟨[.slice p137 x133.code.length c138, .int .i64 x133.at_, .int .u64 x133.seed]⟩ 57 (0, 0))]] hA hN
  refine G_seq ?_
  refine G_region ?_
  refine W_new (fun b => .pointer (some ⟨b, 0, none⟩)) (.cells ⟨[.int .i64 0, .int .i64 0, .string ByteArray.empty, .int .i64 0]⟩ 25 (0, 0)) M0 rfl (by kernel_rfl) (by kernel_rfl) ?_
  intro b143 w144 M145
  refine W_nil ?_
  refine N_then ?_
  refine G_seq ?_
  refine G_region ?_
  refine W_run 2 [(0, .pointer (some ⟨b135, 0, none⟩)), (4, .pointer (some ⟨b143, 0, none⟩)), (6, .int .i64 x141), (7, .pointer (some ⟨b135, 0, none⟩))] w144 (by kernel_rfl) ?_
  obtain ⟨r146, hr146, hm⟩ := gx_bind hm
  refine W_call 65 #[.pointer (some ⟨b135, 0, none⟩), .int .i64 5] (by kernel_rfl) (by kernel_rfl) ?_
  refine (c_s_l1Cur_pick w144 x133 p137 c138 (h139.memX hap140 M145) b135 5 (M145.hasPick [0]) (M145.nodupPick [0] (by kernel_rfl)) (apartX.old h139 hap140 M145 [0]) hr146).mono ?_
  rintro e_ w147 ⟨rfl, K148⟩
  have M149 := M145.callF' [0] [1] (by kernel_rfl) K148
  refine ⟨_, rfl, ?_⟩
  refine W_run 1 [(0, .pointer (some ⟨b135, 0, none⟩)), (4, .pointer (some ⟨b143, 0, none⟩)), (6, .int .i64 x141), (8, .int .i64 r146.1), (9, .pointer (some ⟨b135, 0, none⟩))] w147 (by kernel_rfl) ?_
  refine W_lit (E := Gx.encS) [(ByteArray.mk #[116, 114, 97, 112]), (ByteArray.mk #[116, 114, 97, 112]), (ByteArray.mk #[104, 97, 108, 116]), (ByteArray.mk #[105, 114, 113]), (ByteArray.mk #[119, 97, 107, 101]), (ByteArray.mk #[97]), (ByteArray.mk #[108, 111, 110, 103, 119, 111, 114, 100])] 7 [.string (ByteArray.mk #[116, 114, 97, 112]), .string (ByteArray.mk #[116, 114, 97, 112]), .string (ByteArray.mk #[104, 97, 108, 116]), .string (ByteArray.mk #[105, 114, 113]), .string (ByteArray.mk #[119, 97, 107, 101]), .string (ByteArray.mk #[97]), .string (ByteArray.mk #[108, 111, 110, 103, 119, 111, 114, 100])] 9 M149 (by kernel_rfl) (by kernel_rfl) (by kernel_rfl) (by kernel_rfl) (by kernel_rfl) ?_
  intro p150 c151 sg152 w153 ho154 M155
  obtain ⟨r176, hr176, hm⟩ := gx_bind hm
  refine W_call 66 #[.pointer (some ⟨b135, 0, none⟩), .slice p150 [(ByteArray.mk #[116, 114, 97, 112]), (ByteArray.mk #[116, 114, 97, 112]), (ByteArray.mk #[104, 97, 108, 116]), (ByteArray.mk #[105, 114, 113]), (ByteArray.mk #[119, 97, 107, 101]), (ByteArray.mk #[97]), (ByteArray.mk #[108, 111, 110, 103, 119, 111, 114, 100])].length c151] (by kernel_rfl) (by kernel_rfl) ?_
  refine (c_s_l1Cur_of w153 (⟨x133.code, r146.2.1, r146.2.2⟩ : l1Cur) p137 c138 (h139.memX hap140 M155) b135 [(ByteArray.mk #[116, 114, 97, 112]), (ByteArray.mk #[116, 114, 97, 112]), (ByteArray.mk #[104, 97, 108, 116]), (ByteArray.mk #[105, 114, 113]), (ByteArray.mk #[119, 97, 107, 101]), (ByteArray.mk #[97]), (ByteArray.mk #[108, 111, 110, 103, 119, 111, 114, 100])] p150 c151 (ho154.rd M155 2 (by kernel_rfl)) (M155.hasPick [1]) (M155.nodupPick [1] (by kernel_rfl)) (apartX.old h139 hap140 M155 [1]) (apartX.own ho154 M155 2 (by kernel_rfl) [1] (by kernel_rfl)) hr176).mono ?_
  rintro e_ w177 ⟨rfl, K178⟩
  have M179 := M155.callF' [1] [0, 2] (by kernel_rfl) K178
  refine ⟨_, rfl, ?_⟩
  refine W_run 1 [(0, .pointer (some ⟨b135, 0, none⟩)), (4, .pointer (some ⟨b143, 0, none⟩)), (6, .int .i64 x141), (8, .int .i64 r146.1), (11, .string r176.1), (12, .pointer (some ⟨b135, 0, none⟩))] w177 (by kernel_rfl) ?_
  refine W_lit (E := Gx.encI) [0, 0, 1, 7, 255, 65535] 6 [.int .i64 0, .int .i64 0, .int .i64 1, .int .i64 7, .int .i64 255, .int .i64 65535] 3 M179 (by kernel_rfl) (by kernel_rfl) (by kernel_rfl) (by kernel_rfl) (by kernel_rfl) ?_
  intro p180 c181 sg182 w183 ho184 M185
  obtain ⟨r187, hr187, hm⟩ := gx_bind hm
  refine W_call 34 #[.pointer (some ⟨b135, 0, none⟩), .slice p180 [0, 0, 1, 7, 255, 65535].length c181] (by kernel_rfl) (by kernel_rfl) ?_
  refine (c_s_l1Cur_among w183 (⟨x133.code, r176.2.1, r176.2.2⟩ : l1Cur) p137 c138 (h139.memX hap140 M185) b135 [0, 0, 1, 7, 255, 65535] p180 c181 (ho184.rd M185 3 (by kernel_rfl)) (M185.hasPick [2]) (M185.nodupPick [2] (by kernel_rfl)) (apartX.old h139 hap140 M185 [2]) (apartX.own ho184 M185 3 (by kernel_rfl) [2] (by kernel_rfl)) hr187).mono ?_
  rintro e_ w188 ⟨rfl, K189⟩
  have M190 := M185.callF' [2] [0, 1, 3] (by kernel_rfl) K189
  refine ⟨_, rfl, ?_⟩
  refine W_run 1 [(0, .pointer (some ⟨b135, 0, none⟩)), (4, .pointer (some ⟨b143, 0, none⟩)), (15, .agg #[.int .i64 x141, .int .i64 r146.1, .string r176.1, .int .i64 r187.1])] w188 (by kernel_rfl) ?_
  refine W_new (fun b => .pointer (some ⟨b, 0, none⟩)) (.cells ⟨[.int .i64 0, .int .i64 0, .string ByteArray.empty, .int .i64 0]⟩ 25 (0, 0)) M190 rfl (by kernel_rfl) (by kernel_rfl) ?_
  intro b192 w193 M194
  refine W_store _ _ _ true 4 b192 0 [.int .i64 0, .int .i64 0, .string ByteArray.empty, .int .i64 0] 25 (.agg #[.int .i64 x141, .int .i64 r146.1, .string r176.1, .int .i64 r187.1]) 4 [.int .i64 x141, .int .i64 r146.1, .string r176.1, .int .i64 r187.1] M194 (by kernel_rfl) rfl (by kernel_rfl) (by kernel_rfl) (by kernel_rfl) (by kernel_rfl) (by kernel_rfl) (by kernel_rfl) (by kernel_rfl) (by kernel_rfl) ?_
  intro w195 M196
  refine W_nil ?_
  refine N_then ?_
  refine G_seq ?_
  refine G_seq ?_
  refine G_region ?_
  refine W_run 1 [(0, .pointer (some ⟨b135, 0, none⟩)), (4, .pointer (some ⟨b143, 0, none⟩)), (5, .pointer (some ⟨b192, 0, none⟩)), (16, .pointer (some ⟨b135, 0, none⟩))] w195 (by kernel_rfl) ?_
  obtain ⟨r197, hr197, hm⟩ := gx_bind hm
  refine W_call 65 #[.pointer (some ⟨b135, 0, none⟩), .int .i64 80] (by kernel_rfl) (by kernel_rfl) ?_
  refine (c_s_l1Cur_pick w195 (⟨x133.code, r187.2.1, r187.2.2⟩ : l1Cur) p137 c138 (h139.memX hap140 M196) b135 80 (M196.hasPick [3]) (M196.nodupPick [3] (by kernel_rfl)) (apartX.old h139 hap140 M196 [3]) hr197).mono ?_
  rintro e_ w198 ⟨rfl, K199⟩
  have M200 := M196.callF' [3] [0, 1, 2, 4] (by kernel_rfl) K199
  refine ⟨_, rfl, ?_⟩
  refine W_nil ?_
  refine N_then ?_
  refine G_block ?_
  refine G_seq ?_
  refine G_region ?_
  refine W_run 2 [(0, .pointer (some ⟨b135, 0, none⟩)), (4, .pointer (some ⟨b143, 0, none⟩)), (5, .pointer (some ⟨b192, 0, none⟩)), (17, .int .i64 r197.1), (18, .bool (r197.1 == 0))] w198 (by kernel_rfl) ?_
  refine W_nil ?_
  refine N_then ?_
  obtain ⟨o460, ho461, hm462⟩ := gx_bind hm
  refine G_meet (fun a w' => Mem (idsOf [[(b135, .cells ⟨[.slice p137 x133.code.length c138, .int .i64 x133.at_, .int .u64 x133.seed]⟩ 57 (0, 0))]]) w w' [[(b143, .cells ⟨[.int .i64 0, .int .i64 0, .string ByteArray.empty, .int .i64 0]⟩ 25 (0, 0))], [(b192, .cells ⟨[.int .i64 o460.2.2.1, .int .i64 o460.2.2.2.1, .string o460.2.2.2.2.1, .int .i64 o460.2.2.2.2.2]⟩ 25 (0, 0))], [(b135, .cells ⟨[.slice p137 x133.code.length c138, .int .i64 o460.1, .int .u64 o460.2.1]⟩ 57 (0, 0))]] ∧ Sat Tryz.f33.ntmps [(4, .pointer (some ⟨b143, 0, none⟩)), (5, .pointer (some ⟨b192, 0, none⟩))] a) ?_ ?_
  · have hm := ho461
    rcases gx_bif hm with ⟨hc463, hm⟩ | ⟨hc463, hm⟩
    · refine G_cond_t (b := (r197.1 == 0)) hc463 (by kernel_rfl) ?_
      refine G_region ?_
      refine W_run 1 [(4, .pointer (some ⟨b143, 0, none⟩)), (5, .pointer (some ⟨b192, 0, none⟩)), (20, .pointer (some ⟨b135, 0, none⟩))] w198 (by kernel_rfl) ?_
      refine W_lit (E := Gx.encI) [(-1), 100000, 100001] 3 [.int .i64 (-1), .int .i64 100000, .int .i64 100001] 3 M200 (by kernel_rfl) (by kernel_rfl) (by kernel_rfl) (by kernel_rfl) (by kernel_rfl) ?_
      intro p464 c465 sg466 w467 ho468 M469
      obtain ⟨r471, hr471, hm⟩ := gx_bind hm
      refine W_call 34 #[.pointer (some ⟨b135, 0, none⟩), .slice p464 [(-1), 100000, 100001].length c465] (by kernel_rfl) (by kernel_rfl) ?_
      refine (c_s_l1Cur_among w467 (⟨x133.code, r197.2.1, r197.2.2⟩ : l1Cur) p137 c138 (h139.memX hap140 M469) b135 [(-1), 100000, 100001] p464 c465 (ho468.rd M469 5 (by kernel_rfl)) (M469.hasPick [4]) (M469.nodupPick [4] (by kernel_rfl)) (apartX.old h139 hap140 M469 [4]) (apartX.own ho468 M469 5 (by kernel_rfl) [4] (by kernel_rfl)) hr471).mono ?_
      rintro e_ w472 ⟨rfl, K473⟩
      have M474 := M469.callF' [4] [0, 1, 2, 3, 5] (by kernel_rfl) K473
      refine ⟨_, rfl, ?_⟩
      refine W_run 1 [(4, .pointer (some ⟨b143, 0, none⟩)), (5, .pointer (some ⟨b192, 0, none⟩)), (22, .int .i64 r471.1), (23, .pointer (some ⟨b192, 0, none⟩))] w472 (by kernel_rfl) ?_
      refine W_store _ _ _ false 1 b192 0 [.int .i64 x141, .int .i64 r146.1, .string r176.1, .int .i64 r187.1] 25 (.int .i64 r471.1) 3 [.int .i64 r471.1, .int .i64 r146.1, .string r176.1, .int .i64 r187.1] M474 (by kernel_rfl) rfl (by kernel_rfl) (by kernel_rfl) (by kernel_rfl) (by kernel_rfl) (by kernel_rfl) (by kernel_rfl) (by kernel_rfl) (by kernel_rfl) ?_
      intro w475 M476
      refine W_nil ?_
      obtain rfl := Option.some.inj hm
      exact N_meet fun a ha => ⟨M476.pick [0, 3, 5] (by kernel_rfl), ha.sub (by kernel_rfl)⟩
    refine G_cond_f (b := (r197.1 == 0)) hc463 (by kernel_rfl) ?_
    refine G_seq ?_
    refine G_region ?_
    refine W_run 2 [(0, .pointer (some ⟨b135, 0, none⟩)), (4, .pointer (some ⟨b143, 0, none⟩)), (5, .pointer (some ⟨b192, 0, none⟩)), (17, .int .i64 r197.1), (24, .bool (r197.1 == 1))] w198 (by kernel_rfl) ?_
    refine W_nil ?_
    refine N_then ?_
    obtain ⟨o596, ho597, hm598⟩ := gx_bind hm
    refine G_meet (fun a w' => Mem (idsOf [[(b135, .cells ⟨[.slice p137 x133.code.length c138, .int .i64 x133.at_, .int .u64 x133.seed]⟩ 57 (0, 0))]]) w w' [[(b143, .cells ⟨[.int .i64 0, .int .i64 0, .string ByteArray.empty, .int .i64 0]⟩ 25 (0, 0))], [(b192, .cells ⟨[.int .i64 x141, .int .i64 o596.2.2.1, .string o596.2.2.2.1, .int .i64 o596.2.2.2.2]⟩ 25 (0, 0))], [(b135, .cells ⟨[.slice p137 x133.code.length c138, .int .i64 o596.1, .int .u64 o596.2.1]⟩ 57 (0, 0))]] ∧ Sat Tryz.f33.ntmps [(4, .pointer (some ⟨b143, 0, none⟩)), (5, .pointer (some ⟨b192, 0, none⟩))] a) ?_ ?_
    · have hm := ho597
      rcases gx_bif hm with ⟨hc599, hm⟩ | ⟨hc599, hm⟩
      · refine G_cond_t (b := (r197.1 == 1)) hc599 (by kernel_rfl) ?_
        refine G_region ?_
        refine W_run 1 [(4, .pointer (some ⟨b143, 0, none⟩)), (5, .pointer (some ⟨b192, 0, none⟩)), (26, .pointer (some ⟨b135, 0, none⟩))] w198 (by kernel_rfl) ?_
        refine W_lit (E := Gx.encI) [(-1), 5] 2 [.int .i64 (-1), .int .i64 5] 3 M200 (by kernel_rfl) (by kernel_rfl) (by kernel_rfl) (by kernel_rfl) (by kernel_rfl) ?_
        intro p600 c601 sg602 w603 ho604 M605
        obtain ⟨r607, hr607, hm⟩ := gx_bind hm
        refine W_call 34 #[.pointer (some ⟨b135, 0, none⟩), .slice p600 [(-1), 5].length c601] (by kernel_rfl) (by kernel_rfl) ?_
        refine (c_s_l1Cur_among w603 (⟨x133.code, r197.2.1, r197.2.2⟩ : l1Cur) p137 c138 (h139.memX hap140 M605) b135 [(-1), 5] p600 c601 (ho604.rd M605 5 (by kernel_rfl)) (M605.hasPick [4]) (M605.nodupPick [4] (by kernel_rfl)) (apartX.old h139 hap140 M605 [4]) (apartX.own ho604 M605 5 (by kernel_rfl) [4] (by kernel_rfl)) hr607).mono ?_
        rintro e_ w608 ⟨rfl, K609⟩
        have M610 := M605.callF' [4] [0, 1, 2, 3, 5] (by kernel_rfl) K609
        refine ⟨_, rfl, ?_⟩
        refine W_run 1 [(4, .pointer (some ⟨b143, 0, none⟩)), (5, .pointer (some ⟨b192, 0, none⟩)), (28, .int .i64 r607.1), (29, .pointer (some ⟨b192, 1, none⟩))] w608 (by kernel_rfl) ?_
        refine W_store _ _ _ false 1 b192 1 [.int .i64 x141, .int .i64 r146.1, .string r176.1, .int .i64 r187.1] 25 (.int .i64 r607.1) 3 [.int .i64 x141, .int .i64 r607.1, .string r176.1, .int .i64 r187.1] M610 (by kernel_rfl) rfl (by kernel_rfl) (by kernel_rfl) (by kernel_rfl) (by kernel_rfl) (by kernel_rfl) (by kernel_rfl) (by kernel_rfl) (by kernel_rfl) ?_
        intro w611 M612
        refine W_nil ?_
        obtain rfl := Option.some.inj hm
        exact N_meet fun a ha => ⟨M612.pick [0, 3, 5] (by kernel_rfl), ha.sub (by kernel_rfl)⟩
      refine G_cond_f (b := (r197.1 == 1)) hc599 (by kernel_rfl) ?_
      refine G_seq ?_
      refine G_region ?_
      refine W_run 2 [(0, .pointer (some ⟨b135, 0, none⟩)), (4, .pointer (some ⟨b143, 0, none⟩)), (5, .pointer (some ⟨b192, 0, none⟩)), (17, .int .i64 r197.1), (30, .bool (r197.1 == 2))] w198 (by kernel_rfl) ?_
      refine W_nil ?_
      refine N_then ?_
      obtain ⟨o662, ho663, hm664⟩ := gx_bind hm
      refine G_meet (fun a w' => Mem (idsOf [[(b135, .cells ⟨[.slice p137 x133.code.length c138, .int .i64 x133.at_, .int .u64 x133.seed]⟩ 57 (0, 0))]]) w w' [[(b143, .cells ⟨[.int .i64 0, .int .i64 0, .string ByteArray.empty, .int .i64 0]⟩ 25 (0, 0))], [(b192, .cells ⟨[.int .i64 x141, .int .i64 r146.1, .string o662.2.2.1, .int .i64 o662.2.2.2]⟩ 25 (0, 0))], [(b135, .cells ⟨[.slice p137 x133.code.length c138, .int .i64 o662.1, .int .u64 o662.2.1]⟩ 57 (0, 0))]] ∧ Sat Tryz.f33.ntmps [(4, .pointer (some ⟨b143, 0, none⟩)), (5, .pointer (some ⟨b192, 0, none⟩))] a) ?_ ?_
      · have hm := ho663
        rcases gx_bif hm with ⟨hc665, hm⟩ | ⟨hc665, hm⟩
        · refine G_cond_t (b := (r197.1 == 2)) hc665 (by kernel_rfl) ?_
          refine G_region ?_
          refine W_run 1 [(4, .pointer (some ⟨b143, 0, none⟩)), (5, .pointer (some ⟨b192, 0, none⟩)), (32, .pointer (some ⟨b135, 0, none⟩))] w198 (by kernel_rfl) ?_
          refine W_lit (E := Gx.encS) [(ByteArray.mk #[]), (ByteArray.mk #[65]), (ByteArray.mk #[110, 105, 110, 101, 99, 104, 97, 114, 115])] 3 [.string (ByteArray.mk #[]), .string (ByteArray.mk #[65]), .string (ByteArray.mk #[110, 105, 110, 101, 99, 104, 97, 114, 115])] 9 M200 (by kernel_rfl) (by kernel_rfl) (by kernel_rfl) (by kernel_rfl) (by kernel_rfl) ?_
          intro p666 c667 sg668 w669 ho670 M671
          obtain ⟨r673, hr673, hm⟩ := gx_bind hm
          refine W_call 66 #[.pointer (some ⟨b135, 0, none⟩), .slice p666 [(ByteArray.mk #[]), (ByteArray.mk #[65]), (ByteArray.mk #[110, 105, 110, 101, 99, 104, 97, 114, 115])].length c667] (by kernel_rfl) (by kernel_rfl) ?_
          refine (c_s_l1Cur_of w669 (⟨x133.code, r197.2.1, r197.2.2⟩ : l1Cur) p137 c138 (h139.memX hap140 M671) b135 [(ByteArray.mk #[]), (ByteArray.mk #[65]), (ByteArray.mk #[110, 105, 110, 101, 99, 104, 97, 114, 115])] p666 c667 (ho670.rd M671 5 (by kernel_rfl)) (M671.hasPick [4]) (M671.nodupPick [4] (by kernel_rfl)) (apartX.old h139 hap140 M671 [4]) (apartX.own ho670 M671 5 (by kernel_rfl) [4] (by kernel_rfl)) hr673).mono ?_
          rintro e_ w674 ⟨rfl, K675⟩
          have M676 := M671.callF' [4] [0, 1, 2, 3, 5] (by kernel_rfl) K675
          refine ⟨_, rfl, ?_⟩
          refine W_run 1 [(4, .pointer (some ⟨b143, 0, none⟩)), (5, .pointer (some ⟨b192, 0, none⟩)), (34, .string r673.1), (35, .pointer (some ⟨b192, 2, none⟩))] w674 (by kernel_rfl) ?_
          refine W_store _ _ _ false 1 b192 2 [.int .i64 x141, .int .i64 r146.1, .string r176.1, .int .i64 r187.1] 25 (.string r673.1) 3 [.int .i64 x141, .int .i64 r146.1, .string r673.1, .int .i64 r187.1] M676 (by kernel_rfl) rfl (by kernel_rfl) (by kernel_rfl) (by kernel_rfl) (by kernel_rfl) (by kernel_rfl) (by kernel_rfl) (by kernel_rfl) (by kernel_rfl) ?_
          intro w677 M678
          refine W_nil ?_
          obtain rfl := Option.some.inj hm
          exact N_meet fun a ha => ⟨M678.pick [0, 3, 5] (by kernel_rfl), ha.sub (by kernel_rfl)⟩
        refine G_cond_f (b := (r197.1 == 2)) hc665 (by kernel_rfl) ?_
        refine G_seq ?_
        refine G_region ?_
        refine W_run 2 [(0, .pointer (some ⟨b135, 0, none⟩)), (4, .pointer (some ⟨b143, 0, none⟩)), (5, .pointer (some ⟨b192, 0, none⟩)), (36, .bool (r197.1 == 3))] w198 (by kernel_rfl) ?_
        refine W_nil ?_
        refine N_then ?_
        obtain ⟨o693, ho694, hm695⟩ := gx_bind hm
        refine G_meet (fun a w' => Mem (idsOf [[(b135, .cells ⟨[.slice p137 x133.code.length c138, .int .i64 x133.at_, .int .u64 x133.seed]⟩ 57 (0, 0))]]) w w' [[(b143, .cells ⟨[.int .i64 0, .int .i64 0, .string ByteArray.empty, .int .i64 0]⟩ 25 (0, 0))], [(b192, .cells ⟨[.int .i64 x141, .int .i64 r146.1, .string r176.1, .int .i64 o693.2.2]⟩ 25 (0, 0))], [(b135, .cells ⟨[.slice p137 x133.code.length c138, .int .i64 o693.1, .int .u64 o693.2.1]⟩ 57 (0, 0))]] ∧ Sat Tryz.f33.ntmps [(4, .pointer (some ⟨b143, 0, none⟩)), (5, .pointer (some ⟨b192, 0, none⟩))] a) ?_ ?_
        · have hm := ho694
          rcases gx_bif hm with ⟨hc696, hm⟩ | ⟨hc696, hm⟩
          · refine G_cond_t (b := (r197.1 == 3)) hc696 (by kernel_rfl) ?_
            refine G_region ?_
            refine W_run 1 [(4, .pointer (some ⟨b143, 0, none⟩)), (5, .pointer (some ⟨b192, 0, none⟩)), (38, .pointer (some ⟨b135, 0, none⟩))] w198 (by kernel_rfl) ?_
            refine W_lit (E := Gx.encI) [(-1), 65536] 2 [.int .i64 (-1), .int .i64 65536] 3 M200 (by kernel_rfl) (by kernel_rfl) (by kernel_rfl) (by kernel_rfl) (by kernel_rfl) ?_
            intro p697 c698 sg699 w700 ho701 M702
            obtain ⟨r704, hr704, hm⟩ := gx_bind hm
            refine W_call 34 #[.pointer (some ⟨b135, 0, none⟩), .slice p697 [(-1), 65536].length c698] (by kernel_rfl) (by kernel_rfl) ?_
            refine (c_s_l1Cur_among w700 (⟨x133.code, r197.2.1, r197.2.2⟩ : l1Cur) p137 c138 (h139.memX hap140 M702) b135 [(-1), 65536] p697 c698 (ho701.rd M702 5 (by kernel_rfl)) (M702.hasPick [4]) (M702.nodupPick [4] (by kernel_rfl)) (apartX.old h139 hap140 M702 [4]) (apartX.own ho701 M702 5 (by kernel_rfl) [4] (by kernel_rfl)) hr704).mono ?_
            rintro e_ w705 ⟨rfl, K706⟩
            have M707 := M702.callF' [4] [0, 1, 2, 3, 5] (by kernel_rfl) K706
            refine ⟨_, rfl, ?_⟩
            refine W_run 1 [(4, .pointer (some ⟨b143, 0, none⟩)), (5, .pointer (some ⟨b192, 0, none⟩)), (40, .int .i64 r704.1), (41, .pointer (some ⟨b192, 3, none⟩))] w705 (by kernel_rfl) ?_
            refine W_store _ _ _ false 1 b192 3 [.int .i64 x141, .int .i64 r146.1, .string r176.1, .int .i64 r187.1] 25 (.int .i64 r704.1) 3 [.int .i64 x141, .int .i64 r146.1, .string r176.1, .int .i64 r704.1] M707 (by kernel_rfl) rfl (by kernel_rfl) (by kernel_rfl) (by kernel_rfl) (by kernel_rfl) (by kernel_rfl) (by kernel_rfl) (by kernel_rfl) (by kernel_rfl) ?_
            intro w708 M709
            refine W_nil ?_
            obtain rfl := Option.some.inj hm
            exact N_meet fun a ha => ⟨M709.pick [0, 3, 5] (by kernel_rfl), ha.sub (by kernel_rfl)⟩
          refine G_cond_f (b := (r197.1 == 3)) hc696 (by kernel_rfl) ?_
          refine G_skip ?_
          obtain rfl := Option.some.inj hm
          exact N_meet fun a ha => ⟨M200.pick [0, 3, 4] (by kernel_rfl), ha.sub (by kernel_rfl)⟩
        intro a712 w710 ⟨M711, hS713⟩
        refine N_use hS713 ?_
        have hm := hm695
        obtain rfl := Option.some.inj hm
        exact N_meet fun a ha => ⟨M711.pick [0, 1, 2] (by kernel_rfl), ha.sub (by kernel_rfl)⟩
      intro a716 w714 ⟨M715, hS717⟩
      refine N_use hS717 ?_
      have hm := hm664
      obtain rfl := Option.some.inj hm
      exact N_meet fun a ha => ⟨M715.pick [0, 1, 2] (by kernel_rfl), ha.sub (by kernel_rfl)⟩
    intro a720 w718 ⟨M719, hS721⟩
    refine N_use hS721 ?_
    have hm := hm598
    obtain rfl := Option.some.inj hm
    exact N_meet fun a ha => ⟨M719.pick [0, 1, 2] (by kernel_rfl), ha.sub (by kernel_rfl)⟩
  intro a724 w722 ⟨M723, hS725⟩
  refine N_use hS725 ?_
  have hm := hm462
  refine N_block ?_
  refine N_then ?_
  refine G_seq ?_
  refine G_region ?_
  refine W_val (.agg #[.int .i64 o460.2.2.1, .int .i64 o460.2.2.2.1, .string o460.2.2.2.2.1, .int .i64 o460.2.2.2.2.2]) w722 (by kernel_rfl) (E_load (e := 25) (fr := (0, 0)) _ _ true 4 b192 0 [.int .i64 o460.2.2.1, .int .i64 o460.2.2.2.1, .string o460.2.2.2.2.1, .int .i64 o460.2.2.2.2.2] (.agg #[.int .i64 o460.2.2.1, .int .i64 o460.2.2.2.1, .string o460.2.2.2.2.1, .int .i64 o460.2.2.2.2.2]) rfl (by kernel_rfl) (by kernel_rfl) (by kernel_rfl) (M723.blk 1 (b := b192) (o := .cells ⟨[.int .i64 o460.2.2.1, .int .i64 o460.2.2.2.1, .string o460.2.2.2.2.1, .int .i64 o460.2.2.2.2.2]⟩ 25 (0, 0)) (by kernel_rfl))) ?_
  refine W_store _ _ _ true 4 b143 0 [.int .i64 0, .int .i64 0, .string ByteArray.empty, .int .i64 0] 25 (.agg #[.int .i64 o460.2.2.1, .int .i64 o460.2.2.2.1, .string o460.2.2.2.2.1, .int .i64 o460.2.2.2.2.2]) 0 [.int .i64 o460.2.2.1, .int .i64 o460.2.2.2.1, .string o460.2.2.2.2.1, .int .i64 o460.2.2.2.2.2] M723 (by kernel_rfl) rfl (by kernel_rfl) (by kernel_rfl) (by kernel_rfl) (by kernel_rfl) (by kernel_rfl) (by kernel_rfl) (by kernel_rfl) (by kernel_rfl) ?_
  intro w726 M727
  refine W_nil ?_
  refine N_then ?_
  refine G_ret ?_
  obtain rfl := Option.some.inj hm
  refine N_ret [.agg #[.int .i64 o460.2.2.1, .int .i64 o460.2.2.2.1, .string o460.2.2.2.2.1, .int .i64 o460.2.2.2.2.2]] (RVs_cons (RV_cell (g := true) (k := 4) (b := b143) (off := 0) (cs := [.int .i64 o460.2.2.1, .int .i64 o460.2.2.2.1, .string o460.2.2.2.2.1, .int .i64 o460.2.2.2.2.2]) (e := 25) (fr := (0, 0)) (v := .agg #[.int .i64 o460.2.2.1, .int .i64 o460.2.2.2.1, .string o460.2.2.2.2.1, .int .i64 o460.2.2.2.2.2]) (M727.blk 0 (b := b143) (o := .cells ⟨[.int .i64 o460.2.2.1, .int .i64 o460.2.2.2.1, .string o460.2.2.2.2.1, .int .i64 o460.2.2.2.2.2]⟩ 25 (0, 0)) (by kernel_rfl)) (by kernel_rfl) (by kernel_rfl) (by kernel_rfl)) RVs_nil) ?_
  exact ⟨rfl, M727.pick [2] (by kernel_rfl)⟩
theorem c_s_DrawIsEvent (w : World) (x25 : List Int) (p27 : Option Addr) (c28 : Nat) (h29 : rdS Gx.encU8 w x25 p27 c28) {r : Event} (hm : M.s_DrawIsEvent x25 = some r) :
    Calls Tryz.prog 22 #[.slice p27 x25.length c28] w fun e w' => e = .returned (.agg #[.int .i64 r.Tick, .int .i64 r.Guest, .string r.Kind, .int .i64 r.Value]) ∧ Mem [] w w' [] := by
  unfold M.s_DrawIsEvent at hm
  refine C_enter Tryz.func22 rfl (by kernel_rfl) ?_
  have M0 := Mem.refl [] w
  refine G_seq ?_
  refine G_region ?_
  refine W_new (fun b => .pointer (some ⟨b, 0, none⟩)) (.cells ⟨[.int .i64 0, .int .i64 0, .string ByteArray.empty, .int .i64 0]⟩ 25 (0, 0)) M0 rfl (by kernel_rfl) (by kernel_rfl) ?_
  intro b31 w32 M33
  refine W_nil ?_
  refine N_then ?_
  refine G_seq ?_
  refine G_region ?_
  refine W_run 2 [(2, .pointer (some ⟨b31, 0, none⟩)), (5, .agg #[.slice p27 x25.length c28, .int .i64 0, .int .u64 0])] w32 (by kernel_rfl) ?_
  refine W_new (fun b => .pointer (some ⟨b, 0, none⟩)) (.cells ⟨[.slice p27 x25.length c28, .int .i64 0, .int .u64 0]⟩ 57 (0, 0)) M33 rfl (by kernel_rfl) (by kernel_rfl) ?_
  intro b36 w37 M38
  refine W_run 1 [(2, .pointer (some ⟨b31, 0, none⟩)), (3, .pointer (some ⟨b36, 0, none⟩))] w37 (by kernel_rfl) ?_
  refine W_nil ?_
  refine N_then ?_
  refine G_seq ?_
  refine G_region ?_
  refine W_run 2 [(2, .pointer (some ⟨b31, 0, none⟩)), (7, .pointer (some ⟨b36, 0, none⟩)), (8, .pointer (some ⟨b36, 0, none⟩))] w37 (by kernel_rfl) ?_
  refine W_lit (E := Gx.encI) [0, 12, 100000] 3 [.int .i64 0, .int .i64 12, .int .i64 100000] 3 M38 (by kernel_rfl) (by kernel_rfl) (by kernel_rfl) (by kernel_rfl) (by kernel_rfl) ?_
  intro p39 c40 sg41 w42 ho43 M44
  obtain ⟨r129, hr129, hm⟩ := gx_bind hm
  refine W_call 34 #[.pointer (some ⟨b36, 0, none⟩), .slice p39 [0, 12, 100000].length c40] (by kernel_rfl) (by kernel_rfl) ?_
  refine (c_s_l1Cur_among w42 (⟨x25, 0, 0⟩ : l1Cur) p27 c28 (h29.mem0 M44) b36 [0, 12, 100000] p39 c40 (ho43.rd M44 2 (by kernel_rfl)) (M44.hasPick [1]) (M44.nodupPick [1] (by kernel_rfl)) (apartX.old0 h29 M44 [1]) (apartX.own ho43 M44 2 (by kernel_rfl) [1] (by kernel_rfl)) hr129).mono ?_
  rintro e_ w130 ⟨rfl, K131⟩
  have M132 := M44.callF' [1] [0, 2] (by kernel_rfl) K131
  refine ⟨_, rfl, ?_⟩
  obtain ⟨r728, hr728, hm⟩ := gx_bind hm
  refine W_call 33 #[.pointer (some ⟨b36, 0, none⟩), .int .i64 r129.1] (by kernel_rfl) (by kernel_rfl) ?_
  refine (c_s_l1Cur_event w130 (⟨x25, r129.2.1, r129.2.2⟩ : l1Cur) p27 c28 (h29.mem0 M132) b36 r129.1 (M132.hasPick [2]) (M132.nodupPick [2] (by kernel_rfl)) (apartX.old0 h29 M132 [2]) hr728).mono ?_
  rintro e_ w729 ⟨rfl, K730⟩
  have M731 := M132.callF' [2] [0, 1] (by kernel_rfl) K730
  refine ⟨_, rfl, ?_⟩
  refine W_store _ _ _ true 4 b31 0 [.int .i64 0, .int .i64 0, .string ByteArray.empty, .int .i64 0] 25 (.agg #[.int .i64 r728.1.Tick, .int .i64 r728.1.Guest, .string r728.1.Kind, .int .i64 r728.1.Value]) 0 [.int .i64 r728.1.Tick, .int .i64 r728.1.Guest, .string r728.1.Kind, .int .i64 r728.1.Value] M731 (by kernel_rfl) rfl (by kernel_rfl) (by kernel_rfl) (by kernel_rfl) (by kernel_rfl) (by kernel_rfl) (by kernel_rfl) (by kernel_rfl) (by kernel_rfl) ?_
  intro w732 M733
  refine W_nil ?_
  refine N_then ?_
  refine G_ret ?_
  obtain rfl := Option.some.inj hm
  refine N_ret [.agg #[.int .i64 r728.1.Tick, .int .i64 r728.1.Guest, .string r728.1.Kind, .int .i64 r728.1.Value]] (RVs_cons (RV_cell (g := true) (k := 4) (b := b31) (off := 0) (cs := [.int .i64 r728.1.Tick, .int .i64 r728.1.Guest, .string r728.1.Kind, .int .i64 r728.1.Value]) (e := 25) (fr := (0, 0)) (v := .agg #[.int .i64 r728.1.Tick, .int .i64 r728.1.Guest, .string r728.1.Kind, .int .i64 r728.1.Value]) (M733.blk 0 (b := b31) (o := .cells ⟨[.int .i64 r728.1.Tick, .int .i64 r728.1.Guest, .string r728.1.Kind, .int .i64 r728.1.Value]⟩ 25 (0, 0)) (by kernel_rfl)) (by kernel_rfl) (by kernel_rfl) (by kernel_rfl)) RVs_nil) ?_
  exact ⟨rfl, M733.pick [] (by kernel_rfl)⟩
theorem c_s_DrawEventText (w : World) (x16 : List Int) (p18 : Option Addr) (c19 : Nat) (h20 : rdS Gx.encU8 w x16 p18 c19) {r : Event} (hm : M.s_DrawEventText x16 = some r) :
    Calls Tryz.prog 5 #[.slice p18 x16.length c19] w fun e w' => e = .returned (.agg #[.int .i64 r.Tick, .int .i64 r.Guest, .string r.Kind, .int .i64 r.Value]) ∧ Mem [] w w' [] := by
  unfold M.s_DrawEventText at hm
  refine C_enter Tryz.func5 rfl (by kernel_rfl) ?_
  have M0 := Mem.refl [] w
  refine G_seq ?_
  refine G_region ?_
  refine W_new (fun b => .pointer (some ⟨b, 0, none⟩)) (.cells ⟨[.int .i64 0, .int .i64 0, .string ByteArray.empty, .int .i64 0]⟩ 25 (0, 0)) M0 rfl (by kernel_rfl) (by kernel_rfl) ?_
  intro b22 w23 M24
  refine W_nil ?_
  refine N_then ?_
  refine G_seq ?_
  refine G_region ?_
  refine W_run 1 [(2, .pointer (some ⟨b22, 0, none⟩)), (3, .slice p18 x16.length c19)] w23 (by kernel_rfl) ?_
  obtain ⟨r734, hr734, hm⟩ := gx_bind hm
  refine W_call 22 #[.slice p18 x16.length c19] (by kernel_rfl) (by kernel_rfl) ?_
  refine (c_s_DrawIsEvent w23 x16 p18 c19 (h20.mem0 M24) hr734).mono ?_
  rintro e_ w735 ⟨rfl, K736⟩
  have M737 := M24.call0 K736
  refine ⟨_, rfl, ?_⟩
  refine W_store _ _ _ true 4 b22 0 [.int .i64 0, .int .i64 0, .string ByteArray.empty, .int .i64 0] 25 (.agg #[.int .i64 r734.Tick, .int .i64 r734.Guest, .string r734.Kind, .int .i64 r734.Value]) 0 [.int .i64 r734.Tick, .int .i64 r734.Guest, .string r734.Kind, .int .i64 r734.Value] M737 (by kernel_rfl) rfl (by kernel_rfl) (by kernel_rfl) (by kernel_rfl) (by kernel_rfl) (by kernel_rfl) (by kernel_rfl) (by kernel_rfl) (by kernel_rfl) ?_
  intro w738 M739
  refine W_nil ?_
  refine N_then ?_
  refine G_ret ?_
  obtain rfl := Option.some.inj hm
  refine N_ret [.agg #[.int .i64 r734.Tick, .int .i64 r734.Guest, .string r734.Kind, .int .i64 r734.Value]] (RVs_cons (RV_cell (g := true) (k := 4) (b := b22) (off := 0) (cs := [.int .i64 r734.Tick, .int .i64 r734.Guest, .string r734.Kind, .int .i64 r734.Value]) (e := 25) (fr := (0, 0)) (v := .agg #[.int .i64 r734.Tick, .int .i64 r734.Guest, .string r734.Kind, .int .i64 r734.Value]) (M739.blk 0 (b := b22) (o := .cells ⟨[.int .i64 r734.Tick, .int .i64 r734.Guest, .string r734.Kind, .int .i64 r734.Value]⟩ 25 (0, 0)) (by kernel_rfl)) (by kernel_rfl) (by kernel_rfl) (by kernel_rfl)) RVs_nil) ?_
  exact ⟨rfl, M739.pick [] (by kernel_rfl)⟩
theorem c_i_inside (w : World) (x761 : Int) (x762 : Int) (x763 : Int) {r : Bool} (hm : M.i_inside x761 x762 x763 = some r) :
    Calls Tryz.prog 55 #[.int .i64 x761, .int .i64 x762, .int .i64 x763] w fun e w' => e = .returned (.bool r) ∧ Mem [] w w' [] := by
  unfold M.i_inside at hm
  refine C_enter Tryz.func55 rfl (by kernel_rfl) ?_
  have M0 := Mem.refl [] w
  refine G_seq ?_
  refine G_region ?_
  refine W_run 1 [(0, .int .i64 x761), (1, .int .i64 x762), (2, .int .i64 x763)] w (by kernel_rfl) ?_
  refine W_nil ?_
  refine N_then ?_
  refine G_seq ?_
  obtain ⟨o765, ho766, hm767⟩ := gx_bind hm
  refine G_meet (fun a w' => Mem [] w w' [] ∧ Sat Tryz.f55.ntmps [(6, .bool o765)] a) ?_ ?_
  · have hm := ho766
    refine G_region ?_
    refine W_run 4 [(0, .int .i64 x761), (2, .int .i64 x763), (10, .bool (decide (x761 ≥ x762)))] w (by kernel_rfl) ?_
    rcases gx_bif hm with ⟨hc768, hm⟩ | ⟨hc768, hm⟩
    · refine W_known 10 true (by kernel_rfl) hc768 ?_
      refine W_run 5 [(6, .bool (decide (x761 ≤ x763)))] w (by kernel_rfl) ?_
      refine W_nil ?_
      obtain rfl := Option.some.inj hm
      exact N_meet fun a ha => ⟨M0.pick [] (by kernel_rfl), ha.sub (by kernel_rfl)⟩
    refine W_known 10 false (by kernel_rfl) hc768 ?_
    refine W_run 5 [(6, .bool false)] w (by kernel_rfl) ?_
    refine W_nil ?_
    obtain rfl := Option.some.inj hm
    exact N_meet fun a ha => ⟨M0.pick [] (by kernel_rfl), ha.sub (by kernel_rfl)⟩
  intro a771 w769 ⟨M770, hS772⟩
  refine N_use hS772 ?_
  have hm := hm767
  refine N_then ?_
  refine G_ret ?_
  obtain rfl := Option.some.inj hm
  refine N_ret [.bool o765] (RVs_cons (RV_tmp (by kernel_rfl)) RVs_nil) ?_
  exact ⟨rfl, M770.pick [] (by kernel_rfl)⟩
theorem c_i_isTick (w : World) (x760 : Int) {r : Bool} (hm : M.i_isTick x760 = some r) :
    Calls Tryz.prog 26 #[.int .i64 x760] w fun e w' => e = .returned (.bool r) ∧ Mem [] w w' [] := by
  unfold M.i_isTick at hm
  refine C_enter Tryz.func26 rfl (by kernel_rfl) ?_
  have M0 := Mem.refl [] w
  refine G_seq ?_
  refine G_region ?_
  refine W_run 1 [(0, .int .i64 x760)] w (by kernel_rfl) ?_
  refine W_nil ?_
  refine N_then ?_
  refine G_seq ?_
  refine G_region ?_
  refine W_run 1 [(3, .int .i64 x760)] w (by kernel_rfl) ?_
  obtain ⟨r773, hr773, hm⟩ := gx_bind hm
  refine W_call 55 #[.int .i64 x760, .int .i64 0, .int .i64 100000] (by kernel_rfl) (by kernel_rfl) ?_
  refine (c_i_inside w x760 0 100000 hr773).mono ?_
  rintro e_ w774 ⟨rfl, K775⟩
  have M776 := M0.call0 K775
  refine ⟨_, rfl, ?_⟩
  refine W_run 1 [(2, .bool r773)] w774 (by kernel_rfl) ?_
  refine W_nil ?_
  refine N_then ?_
  refine G_ret ?_
  obtain rfl := Option.some.inj hm
  refine N_ret [.bool r773] (RVs_cons (RV_tmp (by kernel_rfl)) RVs_nil) ?_
  exact ⟨rfl, M776.pick [] (by kernel_rfl)⟩
theorem c_i_isParty (w : World) (x782 : Int) {r : Bool} (hm : M.i_isParty x782 = some r) :
    Calls Tryz.prog 27 #[.int .i64 x782] w fun e w' => e = .returned (.bool r) ∧ Mem [] w w' [] := by
  unfold M.i_isParty at hm
  refine C_enter Tryz.func27 rfl (by kernel_rfl) ?_
  have M0 := Mem.refl [] w
  refine G_seq ?_
  refine G_region ?_
  refine W_run 1 [(0, .int .i64 x782)] w (by kernel_rfl) ?_
  refine W_nil ?_
  refine N_then ?_
  refine G_seq ?_
  refine G_region ?_
  refine W_run 1 [(3, .int .i64 x782)] w (by kernel_rfl) ?_
  obtain ⟨r783, hr783, hm⟩ := gx_bind hm
  refine W_call 55 #[.int .i64 x782, .int .i64 0, .int .i64 4] (by kernel_rfl) (by kernel_rfl) ?_
  refine (c_i_inside w x782 0 4 hr783).mono ?_
  rintro e_ w784 ⟨rfl, K785⟩
  have M786 := M0.call0 K785
  refine ⟨_, rfl, ?_⟩
  refine W_run 1 [(2, .bool r783)] w784 (by kernel_rfl) ?_
  refine W_nil ?_
  refine N_then ?_
  refine G_ret ?_
  obtain rfl := Option.some.inj hm
  refine N_ret [.bool r783] (RVs_cons (RV_tmp (by kernel_rfl)) RVs_nil) ?_
  exact ⟨rfl, M786.pick [] (by kernel_rfl)⟩
theorem c_i_isWord (w : World) (x793 : ByteArray) {r : Bool} (hm : M.i_isWord x793 = some r) :
    Calls Tryz.prog 56 #[.string x793] w fun e w' => e = .returned (.bool r) ∧ Mem [] w w' [] := by
  unfold M.i_isWord at hm
  refine C_enter Tryz.func56 rfl (by kernel_rfl) ?_
  have M0 := Mem.refl [] w
  refine G_seq ?_
  refine G_region ?_
  refine W_run 1 [(0, .string x793)] w (by kernel_rfl) ?_
  refine W_nil ?_
  refine N_then ?_
  refine G_seq ?_
  refine G_seq ?_
  refine G_region ?_
  refine W_run 1 [(0, .string x793), (3, .int .i64 0)] w (by kernel_rfl) ?_
  refine W_nil ?_
  refine N_then ?_
  obtain ⟨out831, hw832, hmo833⟩ := gx_bind hm
  refine G_meet (fun a w' => ∃ (o834 : Unit), out831 = .inl o834 ∧ Mem [] w w' [] ∧ Sat Tryz.f56.ntmps [(0, .string x793)] a) ?_ ?_
  · refine G_block ?_
    refine G_while (σ := Int) (ρ := (Unit) ⊕ (Bool)) (fun s824 a w' => Mem [] w w' [] ∧ Sat Tryz.f56.ntmps [(0, .string x793), (3, .int .i64 s824)] a) hw832 (fun a ha => ⟨M0.pick [] (by kernel_rfl), ha.sub (by kernel_rfl)⟩) ?_
    clear hm
    intro s824 x825 hm hout826 a827 w828 ⟨M829, hS830⟩
    refine G_use hS830 ?_
    refine G_seq ?_
    refine G_seq ?_
    refine G_region ?_
    refine W_run 4 [(0, .string x793), (3, .int .i64 s824), (7, .bool (decide (s824 < (x793.size : Int))))] w828 (by kernel_rfl) ?_
    refine W_nil ?_
    refine N_then ?_
    rcases gx_bif hm with ⟨hc835, hm⟩ | ⟨hc835, hm⟩
    · refine G_cond_t (b := (decide (s824 < (x793.size : Int)))) hc835 (by kernel_rfl) ?_
      refine G_skip ?_
      refine N_then ?_
      refine G_seq ?_
      refine G_block ?_
      refine G_seq ?_
      obtain ⟨o839, ho840, hm841⟩ := gx_bind hm
      refine G_meet (fun a w' => Mem [] w w' [] ∧ Sat Tryz.f56.ntmps [(0, .string x793), (3, .int .i64 s824), (19, .bool o839)] a) ?_ ?_
      · have hm := ho840
        refine G_region ?_
        refine W_run 2 [(0, .string x793), (3, .int .i64 s824), (10, .string x793), (11, .int .i64 s824)] w828 (by kernel_rfl) ?_
        obtain ⟨q842, hq842, hm⟩ := gx_bind hm
        refine W_val (.int .u8 q842) w828 (by kernel_rfl) (E_strIdx _ _ _ x793 .i64 s824 q842 rfl (by kernel_rfl) (by kernel_rfl) (by kernel_rfl) hq842) ?_
        refine W_run 2 [(0, .string x793), (3, .int .i64 s824), (14, .bool (decide (q842 < 97)))] w828 (by kernel_rfl) ?_
        rcases gx_bif hm with ⟨hc843, hm⟩ | ⟨hc843, hm⟩
        · refine W_known 14 true (by kernel_rfl) hc843 ?_
          refine W_run 5 [(0, .string x793), (3, .int .i64 s824), (19, .bool true)] w828 (by kernel_rfl) ?_
          refine W_nil ?_
          obtain rfl := Option.some.inj hm
          exact N_meet fun a ha => ⟨M829.pick [] (by kernel_rfl), ha.sub (by kernel_rfl)⟩
        refine W_known 14 false (by kernel_rfl) hc843 ?_
        refine W_run 2 [(0, .string x793), (3, .int .i64 s824), (14, .bool false), (15, .string x793), (16, .int .i64 s824)] w828 (by kernel_rfl) ?_
        obtain ⟨q844, hq844, hm⟩ := gx_bind hm
        refine W_val (.int .u8 q844) w828 (by kernel_rfl) (E_strIdx _ _ _ x793 .i64 s824 q844 rfl (by kernel_rfl) (by kernel_rfl) (by kernel_rfl) hq844) ?_
        refine W_run 2 [(0, .string x793), (3, .int .i64 s824), (19, .bool (decide (q844 > 122)))] w828 (by kernel_rfl) ?_
        refine W_nil ?_
        obtain rfl := Option.some.inj hm
        exact N_meet fun a ha => ⟨M829.pick [] (by kernel_rfl), ha.sub (by kernel_rfl)⟩
      intro a847 w845 ⟨M846, hS848⟩
      refine N_use hS848 ?_
      have hm := hm841
      refine N_then ?_
      rcases gx_bif hm with ⟨hc849, hm⟩ | ⟨hc849, hm⟩
      · refine G_cond_t (b := o839) hc849 (by kernel_rfl) ?_
        refine G_seq ?_
        refine G_region ?_
        refine W_run 1 [(2, .bool false)] w845 (by kernel_rfl) ?_
        refine W_nil ?_
        refine N_then ?_
        refine G_ret ?_
        refine N_block_ret ?_
        refine N_then_ret ?_
        refine N_then_ret ?_
        obtain rfl := Option.some.inj hm
        obtain rfl := hout826 _ rfl
        have hm := hmo833; simp only [Sum.elim_inr] at hm
        refine N_block_ret ?_
        refine N_meet_ret ?_
        refine N_then_ret ?_
        obtain rfl := Option.some.inj hm
        refine N_ret [.bool false] (RVs_cons (RV_tmp (by kernel_rfl)) RVs_nil) ?_
        exact ⟨rfl, M846.pick [] (by kernel_rfl)⟩
      refine G_cond_f (b := o839) hc849 (by kernel_rfl) ?_
      refine G_skip ?_
      refine N_block ?_
      refine N_then ?_
      refine G_region ?_
      refine W_run 3 [(0, .string x793), (3, .int .i64 (w64 (s824 + 1)))] w845 (by kernel_rfl) ?_
      refine W_nil ?_
      obtain rfl := Option.some.inj hm
      exact N_loop fun a ha => ⟨_, rfl, M846.pick [] (by kernel_rfl), ha.sub (by kernel_rfl)⟩
    refine G_cond_f (b := (decide (s824 < (x793.size : Int)))) hc835 (by kernel_rfl) ?_
    refine G_exit ?_
    refine N_then_exit ?_
    refine N_then_exit ?_
    refine N_block_eq ?_
    obtain rfl := Option.some.inj hm
    obtain rfl := hout826 _ rfl
    exact N_meet fun a ha => ⟨_, rfl, M829.pick [] (by kernel_rfl), ha.sub (by kernel_rfl)⟩
  intro a850 w851 ⟨o834, hout_, M852, hS853⟩
  refine N_use hS853 ?_
  subst hout_
  have hm := hmo833; simp only [Sum.elim_inl] at hm
  refine N_then ?_
  refine G_seq ?_
  refine G_region ?_
  refine W_run 2 [(21, .int .i64 (x793.size : Int))] w851 (by kernel_rfl) ?_
  obtain ⟨r854, hr854, hm⟩ := gx_bind hm
  refine W_call 55 #[.int .i64 (x793.size : Int), .int .i64 1, .int .i64 10] (by kernel_rfl) (by kernel_rfl) ?_
  refine (c_i_inside w851 (x793.size : Int) 1 10 hr854).mono ?_
  rintro e_ w855 ⟨rfl, K856⟩
  have M857 := M852.call0 K856
  refine ⟨_, rfl, ?_⟩
  refine W_run 1 [(2, .bool r854)] w855 (by kernel_rfl) ?_
  refine W_nil ?_
  refine N_then ?_
  refine G_ret ?_
  obtain rfl := Option.some.inj hm
  refine N_ret [.bool r854] (RVs_cons (RV_tmp (by kernel_rfl)) RVs_nil) ?_
  exact ⟨rfl, M857.pick [] (by kernel_rfl)⟩
theorem c_i_isEventKind (w : World) (x792 : ByteArray) {r : Bool} (hm : M.i_isEventKind x792 = some r) :
    Calls Tryz.prog 28 #[.string x792] w fun e w' => e = .returned (.bool r) ∧ Mem [] w w' [] := by
  unfold M.i_isEventKind at hm
  refine C_enter Tryz.func28 rfl (by kernel_rfl) ?_
  have M0 := Mem.refl [] w
  refine G_seq ?_
  refine G_region ?_
  refine W_run 1 [(0, .string x792)] w (by kernel_rfl) ?_
  refine W_nil ?_
  refine N_then ?_
  refine G_seq ?_
  obtain ⟨o863, ho864, hm865⟩ := gx_bind hm
  refine G_meet (fun a w' => Mem [] w w' [] ∧ Sat Tryz.f28.ntmps [(2, .bool o863)] a) ?_ ?_
  · have hm := ho864
    refine G_region ?_
    refine W_run 1 [(0, .string x792), (3, .string x792)] w (by kernel_rfl) ?_
    obtain ⟨r866, hr866, hm⟩ := gx_bind hm
    refine W_call 56 #[.string x792] (by kernel_rfl) (by kernel_rfl) ?_
    refine (c_i_isWord w x792 hr866).mono ?_
    rintro e_ w867 ⟨rfl, K868⟩
    have M869 := M0.call0 K868
    refine ⟨_, rfl, ?_⟩
    refine W_run 1 [(0, .string x792), (5, .bool r866)] w867 (by kernel_rfl) ?_
    rcases gx_bif hm with ⟨hc870, hm⟩ | ⟨hc870, hm⟩
    · refine W_known 5 true (by kernel_rfl) hc870 ?_
      refine W_run 5 [(2, .bool (decide ((x792.size : Int) ≤ 8)))] w867 (by kernel_rfl) ?_
      refine W_nil ?_
      obtain rfl := Option.some.inj hm
      exact N_meet fun a ha => ⟨M869.pick [] (by kernel_rfl), ha.sub (by kernel_rfl)⟩
    refine W_known 5 false (by kernel_rfl) hc870 ?_
    refine W_run 5 [(2, .bool false)] w867 (by kernel_rfl) ?_
    refine W_nil ?_
    obtain rfl := Option.some.inj hm
    exact N_meet fun a ha => ⟨M869.pick [] (by kernel_rfl), ha.sub (by kernel_rfl)⟩
  intro a873 w871 ⟨M872, hS874⟩
  refine N_use hS874 ?_
  have hm := hm865
  refine N_then ?_
  refine G_ret ?_
  obtain rfl := Option.some.inj hm
  refine N_ret [.bool o863] (RVs_cons (RV_tmp (by kernel_rfl)) RVs_nil) ?_
  exact ⟨rfl, M872.pick [] (by kernel_rfl)⟩
theorem c_i_isWord16 (w : World) (x880 : Int) {r : Bool} (hm : M.i_isWord16 x880 = some r) :
    Calls Tryz.prog 29 #[.int .i64 x880] w fun e w' => e = .returned (.bool r) ∧ Mem [] w w' [] := by
  unfold M.i_isWord16 at hm
  refine C_enter Tryz.func29 rfl (by kernel_rfl) ?_
  have M0 := Mem.refl [] w
  refine G_seq ?_
  refine G_region ?_
  refine W_run 1 [(0, .int .i64 x880)] w (by kernel_rfl) ?_
  refine W_nil ?_
  refine N_then ?_
  refine G_seq ?_
  refine G_region ?_
  refine W_run 1 [(3, .int .i64 x880)] w (by kernel_rfl) ?_
  obtain ⟨r881, hr881, hm⟩ := gx_bind hm
  refine W_call 55 #[.int .i64 x880, .int .i64 0, .int .i64 65535] (by kernel_rfl) (by kernel_rfl) ?_
  refine (c_i_inside w x880 0 65535 hr881).mono ?_
  rintro e_ w882 ⟨rfl, K883⟩
  have M884 := M0.call0 K883
  refine ⟨_, rfl, ?_⟩
  refine W_run 1 [(2, .bool r881)] w882 (by kernel_rfl) ?_
  refine W_nil ?_
  refine N_then ?_
  refine G_ret ?_
  obtain rfl := Option.some.inj hm
  refine N_ret [.bool r881] (RVs_cons (RV_tmp (by kernel_rfl)) RVs_nil) ?_
  exact ⟨rfl, M884.pick [] (by kernel_rfl)⟩
theorem c_i_IsEvent (w : World) (x755 : Event) {r : Bool} (hm : M.i_IsEvent x755 = some r) :
    Calls Tryz.prog 8 #[.agg #[.int .i64 x755.Tick, .int .i64 x755.Guest, .string x755.Kind, .int .i64 x755.Value]] w fun e w' => e = .returned (.bool r) ∧ Mem [] w w' [] := by
  unfold M.i_IsEvent at hm
  refine C_enter Tryz.func8 rfl (by kernel_rfl) ?_
  have M0 := Mem.refl [] w
  refine G_seq ?_
  refine G_region ?_
  refine W_new (fun b => .pointer (some ⟨b, 0, none⟩)) (.cells ⟨[.int .i64 x755.Tick, .int .i64 x755.Guest, .string x755.Kind, .int .i64 x755.Value]⟩ 25 (0, 0)) M0 rfl (by kernel_rfl) (by kernel_rfl) ?_
  intro b757 w758 M759
  refine W_run 1 [(1, .pointer (some ⟨b757, 0, none⟩))] w758 (by kernel_rfl) ?_
  refine W_nil ?_
  refine N_then ?_
  refine G_seq ?_
  obtain ⟨o889, ho890, hm891⟩ := gx_bind hm
  refine G_meet (fun a w' => Mem [] w w' [] ∧ Sat Tryz.f8.ntmps [(2, .bool o889)] a) ?_ ?_
  · have hm := ho890
    refine G_region ?_
    refine W_run 1 [(1, .pointer (some ⟨b757, 0, none⟩)), (3, .pointer (some ⟨b757, 0, none⟩))] w758 (by kernel_rfl) ?_
    refine W_val (.int .i64 x755.Tick) w758 (by kernel_rfl) (E_load (e := 25) (fr := (0, 0)) _ _ false 1 b757 0 [.int .i64 x755.Tick, .int .i64 x755.Guest, .string x755.Kind, .int .i64 x755.Value] (.int .i64 x755.Tick) rfl (by kernel_rfl) (by kernel_rfl) (by kernel_rfl) (M759.blk 0 (b := b757) (o := .cells ⟨[.int .i64 x755.Tick, .int .i64 x755.Guest, .string x755.Kind, .int .i64 x755.Value]⟩ 25 (0, 0)) (by kernel_rfl))) ?_
    obtain ⟨r892, hr892, hm⟩ := gx_bind hm
    refine W_call 26 #[.int .i64 x755.Tick] (by kernel_rfl) (by kernel_rfl) ?_
    refine (c_i_isTick w758 x755.Tick hr892).mono ?_
    rintro e_ w893 ⟨rfl, K894⟩
    have M895 := M759.call0 K894
    refine ⟨_, rfl, ?_⟩
    refine W_run 1 [(1, .pointer (some ⟨b757, 0, none⟩)), (6, .bool r892)] w893 (by kernel_rfl) ?_
    rcases gx_bif hm with ⟨hc896, hm⟩ | ⟨hc896, hm⟩
    · refine W_known 6 true (by kernel_rfl) hc896 ?_
      refine W_run 1 [(1, .pointer (some ⟨b757, 0, none⟩)), (6, .bool true), (7, .pointer (some ⟨b757, 1, none⟩))] w893 (by kernel_rfl) ?_
      refine W_val (.int .i64 x755.Guest) w893 (by kernel_rfl) (E_load (e := 25) (fr := (0, 0)) _ _ false 1 b757 1 [.int .i64 x755.Tick, .int .i64 x755.Guest, .string x755.Kind, .int .i64 x755.Value] (.int .i64 x755.Guest) rfl (by kernel_rfl) (by kernel_rfl) (by kernel_rfl) (M895.blk 0 (b := b757) (o := .cells ⟨[.int .i64 x755.Tick, .int .i64 x755.Guest, .string x755.Kind, .int .i64 x755.Value]⟩ 25 (0, 0)) (by kernel_rfl))) ?_
      obtain ⟨r897, hr897, hm⟩ := gx_bind hm
      refine W_call 27 #[.int .i64 x755.Guest] (by kernel_rfl) (by kernel_rfl) ?_
      refine (c_i_isParty w893 x755.Guest hr897).mono ?_
      rintro e_ w898 ⟨rfl, K899⟩
      have M900 := M895.call0 K899
      refine ⟨_, rfl, ?_⟩
      refine W_run 2 [(1, .pointer (some ⟨b757, 0, none⟩)), (11, .bool r897)] w898 (by kernel_rfl) ?_
      rcases gx_bif hm with ⟨hc901, hm⟩ | ⟨hc901, hm⟩
      · refine W_known 11 true (by kernel_rfl) hc901 ?_
        refine W_run 1 [(1, .pointer (some ⟨b757, 0, none⟩)), (11, .bool true), (12, .pointer (some ⟨b757, 2, none⟩))] w898 (by kernel_rfl) ?_
        refine W_val (.string x755.Kind) w898 (by kernel_rfl) (E_load (e := 25) (fr := (0, 0)) _ _ false 1 b757 2 [.int .i64 x755.Tick, .int .i64 x755.Guest, .string x755.Kind, .int .i64 x755.Value] (.string x755.Kind) rfl (by kernel_rfl) (by kernel_rfl) (by kernel_rfl) (M900.blk 0 (b := b757) (o := .cells ⟨[.int .i64 x755.Tick, .int .i64 x755.Guest, .string x755.Kind, .int .i64 x755.Value]⟩ 25 (0, 0)) (by kernel_rfl))) ?_
        obtain ⟨r902, hr902, hm⟩ := gx_bind hm
        refine W_call 28 #[.string x755.Kind] (by kernel_rfl) (by kernel_rfl) ?_
        refine (c_i_isEventKind w898 x755.Kind hr902).mono ?_
        rintro e_ w903 ⟨rfl, K904⟩
        have M905 := M900.call0 K904
        refine ⟨_, rfl, ?_⟩
        refine W_run 2 [(1, .pointer (some ⟨b757, 0, none⟩)), (16, .bool r902)] w903 (by kernel_rfl) ?_
        rcases gx_bif hm with ⟨hc906, hm⟩ | ⟨hc906, hm⟩
        · refine W_known 16 true (by kernel_rfl) hc906 ?_
          refine W_run 1 [(16, .bool true), (17, .pointer (some ⟨b757, 3, none⟩))] w903 (by kernel_rfl) ?_
          refine W_val (.int .i64 x755.Value) w903 (by kernel_rfl) (E_load (e := 25) (fr := (0, 0)) _ _ false 1 b757 3 [.int .i64 x755.Tick, .int .i64 x755.Guest, .string x755.Kind, .int .i64 x755.Value] (.int .i64 x755.Value) rfl (by kernel_rfl) (by kernel_rfl) (by kernel_rfl) (M905.blk 0 (b := b757) (o := .cells ⟨[.int .i64 x755.Tick, .int .i64 x755.Guest, .string x755.Kind, .int .i64 x755.Value]⟩ 25 (0, 0)) (by kernel_rfl))) ?_
          obtain ⟨r907, hr907, hm⟩ := gx_bind hm
          refine W_call 29 #[.int .i64 x755.Value] (by kernel_rfl) (by kernel_rfl) ?_
          refine (c_i_isWord16 w903 x755.Value hr907).mono ?_
          rintro e_ w908 ⟨rfl, K909⟩
          have M910 := M905.call0 K909
          refine ⟨_, rfl, ?_⟩
          refine W_run 2 [(2, .bool r907)] w908 (by kernel_rfl) ?_
          refine W_nil ?_
          obtain rfl := Option.some.inj hm
          exact N_meet fun a ha => ⟨M910.pick [] (by kernel_rfl), ha.sub (by kernel_rfl)⟩
        refine W_known 16 false (by kernel_rfl) hc906 ?_
        refine W_run 5 [(2, .bool false)] w903 (by kernel_rfl) ?_
        refine W_nil ?_
        obtain rfl := Option.some.inj hm
        exact N_meet fun a ha => ⟨M905.pick [] (by kernel_rfl), ha.sub (by kernel_rfl)⟩
      refine W_known 11 false (by kernel_rfl) hc901 ?_
      refine W_run 10 [(2, .bool false)] w898 (by kernel_rfl) ?_
      refine W_nil ?_
      obtain rfl := Option.some.inj hm
      exact N_meet fun a ha => ⟨M900.pick [] (by kernel_rfl), ha.sub (by kernel_rfl)⟩
    refine W_known 6 false (by kernel_rfl) hc896 ?_
    refine W_run 15 [(2, .bool false)] w893 (by kernel_rfl) ?_
    refine W_nil ?_
    obtain rfl := Option.some.inj hm
    exact N_meet fun a ha => ⟨M895.pick [] (by kernel_rfl), ha.sub (by kernel_rfl)⟩
  intro a913 w911 ⟨M912, hS914⟩
  refine N_use hS914 ?_
  have hm := hm891
  refine N_then ?_
  refine G_ret ?_
  obtain rfl := Option.some.inj hm
  refine N_ret [.bool o889] (RVs_cons (RV_tmp (by kernel_rfl)) RVs_nil) ?_
  exact ⟨rfl, M912.pick [] (by kernel_rfl)⟩
theorem c_strconv_Itoa (w : World) (x926 : Int) (ht_ : TabY Tryz.prog w) {r : ByteArray} (hm : M.strconv_Itoa x926 = some r) :
    Calls Tryz.prog 50 #[.int .i64 x926] w fun e w' => e = .returned (.string r) ∧ Mem [] w w' [] := by
  unfold M.strconv_Itoa at hm
  rcases gx_bif hm with ⟨h, hm⟩ | ⟨h, hm⟩
  · obtain rfl := Option.some.inj hm
    rw [Bool.and_eq_true, decide_eq_true_eq, decide_eq_true_eq] at h
    exact itoa_run Tryz.strconv_Itoa x926 w h.1 h.2 ht_.tab
  cases hm
theorem c_i_eventText (w : World) (x920 : Event) (ht_ : TabY Tryz.prog w) {r : ByteArray} (hm : M.i_eventText x920 = some r) :
    Calls Tryz.prog 23 #[.agg #[.int .i64 x920.Tick, .int .i64 x920.Guest, .string x920.Kind, .int .i64 x920.Value]] w fun e w' => e = .returned (.string r) ∧ Mem [] w w' [] := by
  unfold M.i_eventText at hm
  refine C_enter Tryz.func23 rfl (by kernel_rfl) ?_
  have M0 := Mem.refl [] w
  refine G_seq ?_
  refine G_region ?_
  refine W_new (fun b => .pointer (some ⟨b, 0, none⟩)) (.cells ⟨[.int .i64 x920.Tick, .int .i64 x920.Guest, .string x920.Kind, .int .i64 x920.Value]⟩ 25 (0, 0)) M0 rfl (by kernel_rfl) (by kernel_rfl) ?_
  intro b922 w923 M924
  refine W_run 1 [(1, .pointer (some ⟨b922, 0, none⟩))] w923 (by kernel_rfl) ?_
  refine W_nil ?_
  refine N_then ?_
  refine G_seq ?_
  refine G_region ?_
  refine W_run 1 [(1, .pointer (some ⟨b922, 0, none⟩)), (3, .string (ByteArray.mk #[109, 97, 99, 104, 105, 110, 101]))] w923 (by kernel_rfl) ?_
  refine W_nil ?_
  refine N_then ?_
  refine G_seq ?_
  refine G_seq ?_
  refine G_region ?_
  refine W_run 1 [(1, .pointer (some ⟨b922, 0, none⟩)), (3, .string (ByteArray.mk #[109, 97, 99, 104, 105, 110, 101])), (5, .pointer (some ⟨b922, 1, none⟩))] w923 (by kernel_rfl) ?_
  refine W_val (.int .i64 x920.Guest) w923 (by kernel_rfl) (E_load (e := 25) (fr := (0, 0)) _ _ false 1 b922 1 [.int .i64 x920.Tick, .int .i64 x920.Guest, .string x920.Kind, .int .i64 x920.Value] (.int .i64 x920.Guest) rfl (by kernel_rfl) (by kernel_rfl) (by kernel_rfl) (M924.blk 0 (b := b922) (o := .cells ⟨[.int .i64 x920.Tick, .int .i64 x920.Guest, .string x920.Kind, .int .i64 x920.Value]⟩ 25 (0, 0)) (by kernel_rfl))) ?_
  refine W_run 1 [(1, .pointer (some ⟨b922, 0, none⟩)), (3, .string (ByteArray.mk #[109, 97, 99, 104, 105, 110, 101])), (7, .bool (decide (x920.Guest > 0)))] w923 (by kernel_rfl) ?_
  refine W_nil ?_
  refine N_then ?_
  obtain ⟨o932, ho933, hm934⟩ := gx_bind hm
  refine G_meet (fun a w' => Mem [] w w' [[(b922, .cells ⟨[.int .i64 x920.Tick, .int .i64 x920.Guest, .string x920.Kind, .int .i64 x920.Value]⟩ 25 (0, 0))]] ∧ Sat Tryz.f23.ntmps [(1, .pointer (some ⟨b922, 0, none⟩)), (3, .string o932)] a) ?_ ?_
  · have hm := ho933
    rcases gx_bif hm with ⟨hc935, hm⟩ | ⟨hc935, hm⟩
    · refine G_cond_t (b := (decide (x920.Guest > 0))) hc935 (by kernel_rfl) ?_
      refine G_region ?_
      refine W_run 1 [(1, .pointer (some ⟨b922, 0, none⟩)), (3, .string (ByteArray.mk #[109, 97, 99, 104, 105, 110, 101])), (8, .pointer (some ⟨b922, 1, none⟩))] w923 (by kernel_rfl) ?_
      refine W_val (.int .i64 x920.Guest) w923 (by kernel_rfl) (E_load (e := 25) (fr := (0, 0)) _ _ false 1 b922 1 [.int .i64 x920.Tick, .int .i64 x920.Guest, .string x920.Kind, .int .i64 x920.Value] (.int .i64 x920.Guest) rfl (by kernel_rfl) (by kernel_rfl) (by kernel_rfl) (M924.blk 0 (b := b922) (o := .cells ⟨[.int .i64 x920.Tick, .int .i64 x920.Guest, .string x920.Kind, .int .i64 x920.Value]⟩ 25 (0, 0)) (by kernel_rfl))) ?_
      obtain ⟨r936, hr936, hm⟩ := gx_bind hm
      refine W_call 50 #[.int .i64 x920.Guest] (by kernel_rfl) (by kernel_rfl) ?_
      refine (c_strconv_Itoa w923 x920.Guest (TabYM ht_ M924) hr936).mono ?_
      rintro e_ w937 ⟨rfl, K938⟩
      have M939 := M924.call0 K938
      refine ⟨_, rfl, ?_⟩
      obtain ⟨q940, hq940, hm⟩ := gx_bind hm
      refine W_val (.string q940) w937 (by kernel_rfl) (E_strCat _ _ _ _ (ByteArray.mk #[103, 117, 101, 115, 116, 32]) r936 q940 rfl (by kernel_rfl) (by kernel_rfl) hq940) ?_
      refine W_run 1 [(1, .pointer (some ⟨b922, 0, none⟩)), (3, .string q940)] w937 (by kernel_rfl) ?_
      refine W_nil ?_
      obtain rfl := Option.some.inj hm
      exact N_meet fun a ha => ⟨M939.pick [0] (by kernel_rfl), ha.sub (by kernel_rfl)⟩
    refine G_cond_f (b := (decide (x920.Guest > 0))) hc935 (by kernel_rfl) ?_
    refine G_skip ?_
    obtain rfl := Option.some.inj hm
    exact N_meet fun a ha => ⟨M924.pick [0] (by kernel_rfl), ha.sub (by kernel_rfl)⟩
  intro a943 w941 ⟨M942, hS944⟩
  refine N_use hS944 ?_
  have hm := hm934
  refine N_then ?_
  refine G_seq ?_
  refine G_quiet (by kernel_rfl) (by kernel_rfl) M942 ?_
  refine Z_runs [.pointer (some ⟨b922, 0, none⟩)] [(1, .pointer (some ⟨b922, 0, none⟩)), (3, .string o932), (12, .pointer (some ⟨b922, 0, none⟩))] (fun w_ => by kernel_rfl) (by kernel_rfl) ?_
  refine Z_val (.int .i64 x920.Tick) (by kernel_rfl) (fun w_ M_ => (E_load (e := 25) (fr := (0, 0)) _ _ false 1 b922 0 [.int .i64 x920.Tick, .int .i64 x920.Guest, .string x920.Kind, .int .i64 x920.Value] (.int .i64 x920.Tick) rfl (by kernel_rfl) (by kernel_rfl) (by kernel_rfl) (M_.blk 0 (b := b922) (o := .cells ⟨[.int .i64 x920.Tick, .int .i64 x920.Guest, .string x920.Kind, .int .i64 x920.Value]⟩ 25 (0, 0)) (by kernel_rfl)))) ?_
  obtain ⟨r945, hr945, hm⟩ := gx_bind hm
  refine Z_call 50 #[.int .i64 x920.Tick] (.string r945) (by kernel_rfl) (fun w_ => by kernel_rfl) (fun w_ M_ => (c_strconv_Itoa w_ x920.Tick (TabYM ht_ M_) hr945).mono fun e w2_ h_ => ⟨h_.1, M_.call0 h_.2⟩) ?_
  obtain ⟨q949, hq949, hm⟩ := gx_bind hm
  refine Z_val (.string q949) (by kernel_rfl) (fun w_ M_ => (E_strCat _ _ _ _ r945 (ByteArray.mk #[32]) q949 rfl (by kernel_rfl) (by kernel_rfl) hq949)) ?_
  refine Z_runs [.string o932] [(1, .pointer (some ⟨b922, 0, none⟩)), (15, .string q949), (16, .string o932)] (fun w_ => by kernel_rfl) (by kernel_rfl) ?_
  obtain ⟨q950, hq950, hm⟩ := gx_bind hm
  refine Z_val (.string q950) (by kernel_rfl) (fun w_ M_ => (E_strCat _ _ _ _ q949 o932 q950 rfl (by kernel_rfl) (by kernel_rfl) hq950)) ?_
  obtain ⟨q951, hq951, hm⟩ := gx_bind hm
  refine Z_val (.string q951) (by kernel_rfl) (fun w_ M_ => (E_strCat _ _ _ _ q950 (ByteArray.mk #[32]) q951 rfl (by kernel_rfl) (by kernel_rfl) hq951)) ?_
  refine Z_runs [.pointer (some ⟨b922, 2, none⟩)] [(1, .pointer (some ⟨b922, 0, none⟩)), (18, .string q951), (19, .pointer (some ⟨b922, 2, none⟩))] (fun w_ => by kernel_rfl) (by kernel_rfl) ?_
  refine Z_val (.string x920.Kind) (by kernel_rfl) (fun w_ M_ => (E_load (e := 25) (fr := (0, 0)) _ _ false 1 b922 2 [.int .i64 x920.Tick, .int .i64 x920.Guest, .string x920.Kind, .int .i64 x920.Value] (.string x920.Kind) rfl (by kernel_rfl) (by kernel_rfl) (by kernel_rfl) (M_.blk 0 (b := b922) (o := .cells ⟨[.int .i64 x920.Tick, .int .i64 x920.Guest, .string x920.Kind, .int .i64 x920.Value]⟩ 25 (0, 0)) (by kernel_rfl)))) ?_
  obtain ⟨q952, hq952, hm⟩ := gx_bind hm
  refine Z_val (.string q952) (by kernel_rfl) (fun w_ M_ => (E_strCat _ _ _ _ q951 x920.Kind q952 rfl (by kernel_rfl) (by kernel_rfl) hq952)) ?_
  refine Z_runs [.string q952] [(1, .pointer (some ⟨b922, 0, none⟩)), (4, .string q952)] (fun w_ => by kernel_rfl) (by kernel_rfl) ?_
  refine Z_end fun w953 M954 => ?_
  refine N_then ?_
  refine G_seq ?_
  refine G_seq ?_
  refine G_region ?_
  refine W_run 1 [(1, .pointer (some ⟨b922, 0, none⟩)), (4, .string q952), (22, .pointer (some ⟨b922, 3, none⟩))] w953 (by kernel_rfl) ?_
  refine W_val (.int .i64 x920.Value) w953 (by kernel_rfl) (E_load (e := 25) (fr := (0, 0)) _ _ false 1 b922 3 [.int .i64 x920.Tick, .int .i64 x920.Guest, .string x920.Kind, .int .i64 x920.Value] (.int .i64 x920.Value) rfl (by kernel_rfl) (by kernel_rfl) (by kernel_rfl) (M954.blk 0 (b := b922) (o := .cells ⟨[.int .i64 x920.Tick, .int .i64 x920.Guest, .string x920.Kind, .int .i64 x920.Value]⟩ 25 (0, 0)) (by kernel_rfl))) ?_
  refine W_run 1 [(1, .pointer (some ⟨b922, 0, none⟩)), (4, .string q952), (24, .bool (decide (x920.Value > 0)))] w953 (by kernel_rfl) ?_
  refine W_nil ?_
  refine N_then ?_
  obtain ⟨o962, ho963, hm964⟩ := gx_bind hm
  refine G_meet (fun a w' => Mem [] w w' [] ∧ Sat Tryz.f23.ntmps [(4, .string o962)] a) ?_ ?_
  · have hm := ho963
    rcases gx_bif hm with ⟨hc965, hm⟩ | ⟨hc965, hm⟩
    · refine G_cond_t (b := (decide (x920.Value > 0))) hc965 (by kernel_rfl) ?_
      refine G_region ?_
      refine W_run 2 [(4, .string q952), (25, .string q952), (26, .pointer (some ⟨b922, 3, none⟩))] w953 (by kernel_rfl) ?_
      refine W_val (.int .i64 x920.Value) w953 (by kernel_rfl) (E_load (e := 25) (fr := (0, 0)) _ _ false 1 b922 3 [.int .i64 x920.Tick, .int .i64 x920.Guest, .string x920.Kind, .int .i64 x920.Value] (.int .i64 x920.Value) rfl (by kernel_rfl) (by kernel_rfl) (by kernel_rfl) (M954.blk 0 (b := b922) (o := .cells ⟨[.int .i64 x920.Tick, .int .i64 x920.Guest, .string x920.Kind, .int .i64 x920.Value]⟩ 25 (0, 0)) (by kernel_rfl))) ?_
      obtain ⟨r966, hr966, hm⟩ := gx_bind hm
      refine W_call 50 #[.int .i64 x920.Value] (by kernel_rfl) (by kernel_rfl) ?_
      refine (c_strconv_Itoa w953 x920.Value (TabYM ht_ M954) hr966).mono ?_
      rintro e_ w967 ⟨rfl, K968⟩
      have M969 := M954.call0 K968
      refine ⟨_, rfl, ?_⟩
      obtain ⟨q970, hq970, hm⟩ := gx_bind hm
      refine W_val (.string q970) w967 (by kernel_rfl) (E_strCat _ _ _ _ (ByteArray.mk #[32]) r966 q970 rfl (by kernel_rfl) (by kernel_rfl) hq970) ?_
      obtain ⟨q971, hq971, hm⟩ := gx_bind hm
      refine W_val (.string q971) w967 (by kernel_rfl) (E_strCat _ _ _ _ q952 q970 q971 rfl (by kernel_rfl) (by kernel_rfl) hq971) ?_
      refine W_run 1 [(4, .string q971)] w967 (by kernel_rfl) ?_
      refine W_nil ?_
      obtain rfl := Option.some.inj hm
      exact N_meet fun a ha => ⟨M969.pick [] (by kernel_rfl), ha.sub (by kernel_rfl)⟩
    refine G_cond_f (b := (decide (x920.Value > 0))) hc965 (by kernel_rfl) ?_
    refine G_skip ?_
    obtain rfl := Option.some.inj hm
    exact N_meet fun a ha => ⟨M954.pick [] (by kernel_rfl), ha.sub (by kernel_rfl)⟩
  intro a974 w972 ⟨M973, hS975⟩
  refine N_use hS975 ?_
  have hm := hm964
  refine N_then ?_
  refine G_seq ?_
  refine G_region ?_
  refine W_run 2 [(2, .string o962)] w972 (by kernel_rfl) ?_
  refine W_nil ?_
  refine N_then ?_
  refine G_ret ?_
  obtain rfl := Option.some.inj hm
  refine N_ret [.string o962] (RVs_cons (RV_tmp (by kernel_rfl)) RVs_nil) ?_
  exact ⟨rfl, M973.pick [] (by kernel_rfl)⟩
theorem c_i_EventText (w : World) (x750 : Event) (ht_ : TabY Tryz.prog w) {r : ByteArray × Bool} (hm : M.i_EventText x750 = some r) :
    Calls Tryz.prog 6 #[.agg #[.int .i64 x750.Tick, .int .i64 x750.Guest, .string x750.Kind, .int .i64 x750.Value]] w fun e w' => e = .returned (.tuple #[.string r.1, .bool r.2]) ∧ Mem [] w w' [] := by
  unfold M.i_EventText at hm
  refine C_enter Tryz.func6 rfl (by kernel_rfl) ?_
  have M0 := Mem.refl [] w
  refine G_seq ?_
  refine G_region ?_
  refine W_new (fun b => .pointer (some ⟨b, 0, none⟩)) (.cells ⟨[.int .i64 x750.Tick, .int .i64 x750.Guest, .string x750.Kind, .int .i64 x750.Value]⟩ 25 (0, 0)) M0 rfl (by kernel_rfl) (by kernel_rfl) ?_
  intro b752 w753 M754
  refine W_run 2 [(1, .pointer (some ⟨b752, 0, none⟩))] w753 (by kernel_rfl) ?_
  refine W_nil ?_
  refine N_then ?_
  refine G_seq ?_
  refine G_seq ?_
  refine G_region ?_
  refine W_val (.agg #[.int .i64 x750.Tick, .int .i64 x750.Guest, .string x750.Kind, .int .i64 x750.Value]) w753 (by kernel_rfl) (E_load (e := 25) (fr := (0, 0)) _ _ true 4 b752 0 [.int .i64 x750.Tick, .int .i64 x750.Guest, .string x750.Kind, .int .i64 x750.Value] (.agg #[.int .i64 x750.Tick, .int .i64 x750.Guest, .string x750.Kind, .int .i64 x750.Value]) rfl (by kernel_rfl) (by kernel_rfl) (by kernel_rfl) (M754.blk 0 (b := b752) (o := .cells ⟨[.int .i64 x750.Tick, .int .i64 x750.Guest, .string x750.Kind, .int .i64 x750.Value]⟩ 25 (0, 0)) (by kernel_rfl))) ?_
  obtain ⟨r915, hr915, hm⟩ := gx_bind hm
  refine W_call 8 #[.agg #[.int .i64 x750.Tick, .int .i64 x750.Guest, .string x750.Kind, .int .i64 x750.Value]] (by kernel_rfl) (by kernel_rfl) ?_
  refine (c_i_IsEvent w753 x750 hr915).mono ?_
  rintro e_ w916 ⟨rfl, K917⟩
  have M918 := M754.call0 K917
  refine ⟨_, rfl, ?_⟩
  refine W_run 1 [(1, .pointer (some ⟨b752, 0, none⟩)), (6, .bool (!r915))] w916 (by kernel_rfl) ?_
  refine W_nil ?_
  refine N_then ?_
  rcases gx_bif hm with ⟨hc919, hm⟩ | ⟨hc919, hm⟩
  · refine G_cond_t (b := (!r915)) hc919 (by kernel_rfl) ?_
    refine G_seq ?_
    refine G_region ?_
    refine W_run 2 [(2, .string (ByteArray.mk #[])), (3, .bool false)] w916 (by kernel_rfl) ?_
    refine W_nil ?_
    refine N_then ?_
    refine G_ret ?_
    refine N_then_ret ?_
    obtain rfl := Option.some.inj hm
    refine N_ret [.string (ByteArray.mk #[]), .bool false] (RVs_cons (RV_tmp (by kernel_rfl)) (RVs_cons (RV_tmp (by kernel_rfl)) RVs_nil)) ?_
    exact ⟨rfl, M918.pick [] (by kernel_rfl)⟩
  refine G_cond_f (b := (!r915)) hc919 (by kernel_rfl) ?_
  refine G_skip ?_
  refine N_then ?_
  refine G_seq ?_
  refine G_region ?_
  refine W_val (.agg #[.int .i64 x750.Tick, .int .i64 x750.Guest, .string x750.Kind, .int .i64 x750.Value]) w916 (by kernel_rfl) (E_load (e := 25) (fr := (0, 0)) _ _ true 4 b752 0 [.int .i64 x750.Tick, .int .i64 x750.Guest, .string x750.Kind, .int .i64 x750.Value] (.agg #[.int .i64 x750.Tick, .int .i64 x750.Guest, .string x750.Kind, .int .i64 x750.Value]) rfl (by kernel_rfl) (by kernel_rfl) (by kernel_rfl) (M918.blk 0 (b := b752) (o := .cells ⟨[.int .i64 x750.Tick, .int .i64 x750.Guest, .string x750.Kind, .int .i64 x750.Value]⟩ 25 (0, 0)) (by kernel_rfl))) ?_
  obtain ⟨r976, hr976, hm⟩ := gx_bind hm
  refine W_call 23 #[.agg #[.int .i64 x750.Tick, .int .i64 x750.Guest, .string x750.Kind, .int .i64 x750.Value]] (by kernel_rfl) (by kernel_rfl) ?_
  refine (c_i_eventText w916 x750 (TabYM ht_ M918) hr976).mono ?_
  rintro e_ w977 ⟨rfl, K978⟩
  have M979 := M918.call0 K978
  refine ⟨_, rfl, ?_⟩
  refine W_run 2 [(2, .string r976), (3, .bool true)] w977 (by kernel_rfl) ?_
  refine W_nil ?_
  refine N_then ?_
  refine G_ret ?_
  obtain rfl := Option.some.inj hm
  refine N_ret [.string r976, .bool true] (RVs_cons (RV_tmp (by kernel_rfl)) (RVs_cons (RV_tmp (by kernel_rfl)) RVs_nil)) ?_
  exact ⟨rfl, M979.pick [] (by kernel_rfl)⟩
theorem c_s_l1In (w : World) (x995 : Int) (x996 : Int) (x997 : Int) {r : Bool} (hm : M.s_l1In x995 x996 x997 = some r) :
    Calls Tryz.prog 53 #[.int .i64 x995, .int .i64 x996, .int .i64 x997] w fun e w' => e = .returned (.bool r) ∧ Mem [] w w' [] := by
  unfold M.s_l1In at hm
  refine C_enter Tryz.func53 rfl (by kernel_rfl) ?_
  have M0 := Mem.refl [] w
  refine G_seq ?_
  refine G_region ?_
  refine W_run 1 [(0, .int .i64 x995), (1, .int .i64 x996), (2, .int .i64 x997)] w (by kernel_rfl) ?_
  refine W_nil ?_
  refine N_then ?_
  refine G_seq ?_
  obtain ⟨o999, ho1000, hm1001⟩ := gx_bind hm
  refine G_meet (fun a w' => Mem [] w w' [] ∧ Sat Tryz.f53.ntmps [(6, .bool o999)] a) ?_ ?_
  · have hm := ho1000
    refine G_region ?_
    refine W_run 4 [(0, .int .i64 x995), (2, .int .i64 x997), (10, .bool (decide (x995 ≥ x996)))] w (by kernel_rfl) ?_
    rcases gx_bif hm with ⟨hc1002, hm⟩ | ⟨hc1002, hm⟩
    · refine W_known 10 true (by kernel_rfl) hc1002 ?_
      refine W_run 5 [(6, .bool (decide (x995 ≤ x997)))] w (by kernel_rfl) ?_
      refine W_nil ?_
      obtain rfl := Option.some.inj hm
      exact N_meet fun a ha => ⟨M0.pick [] (by kernel_rfl), ha.sub (by kernel_rfl)⟩
    refine W_known 10 false (by kernel_rfl) hc1002 ?_
    refine W_run 5 [(6, .bool false)] w (by kernel_rfl) ?_
    refine W_nil ?_
    obtain rfl := Option.some.inj hm
    exact N_meet fun a ha => ⟨M0.pick [] (by kernel_rfl), ha.sub (by kernel_rfl)⟩
  intro a1005 w1003 ⟨M1004, hS1006⟩
  refine N_use hS1006 ?_
  have hm := hm1001
  refine N_then ?_
  refine G_ret ?_
  obtain rfl := Option.some.inj hm
  refine N_ret [.bool o999] (RVs_cons (RV_tmp (by kernel_rfl)) RVs_nil) ?_
  exact ⟨rfl, M1004.pick [] (by kernel_rfl)⟩
theorem c_s_l11Tick (w : World) (x994 : Int) {r : Bool} (hm : M.s_l11Tick x994 = some r) :
    Calls Tryz.prog 51 #[.int .i64 x994] w fun e w' => e = .returned (.bool r) ∧ Mem [] w w' [] := by
  unfold M.s_l11Tick at hm
  refine C_enter Tryz.func51 rfl (by kernel_rfl) ?_
  have M0 := Mem.refl [] w
  refine G_seq ?_
  refine G_region ?_
  refine W_run 1 [(0, .int .i64 x994)] w (by kernel_rfl) ?_
  refine W_nil ?_
  refine N_then ?_
  refine G_seq ?_
  refine G_region ?_
  refine W_run 1 [(3, .int .i64 x994)] w (by kernel_rfl) ?_
  obtain ⟨r1007, hr1007, hm⟩ := gx_bind hm
  refine W_call 53 #[.int .i64 x994, .int .i64 0, .int .i64 100000] (by kernel_rfl) (by kernel_rfl) ?_
  refine (c_s_l1In w x994 0 100000 hr1007).mono ?_
  rintro e_ w1008 ⟨rfl, K1009⟩
  have M1010 := M0.call0 K1009
  refine ⟨_, rfl, ?_⟩
  refine W_run 1 [(2, .bool r1007)] w1008 (by kernel_rfl) ?_
  refine W_nil ?_
  refine N_then ?_
  refine G_ret ?_
  obtain rfl := Option.some.inj hm
  refine N_ret [.bool r1007] (RVs_cons (RV_tmp (by kernel_rfl)) RVs_nil) ?_
  exact ⟨rfl, M1010.pick [] (by kernel_rfl)⟩
theorem c_s_l22Guest (w : World) (x1016 : Int) {r : Bool} (hm : M.s_l22Guest x1016 = some r) :
    Calls Tryz.prog 45 #[.int .i64 x1016] w fun e w' => e = .returned (.bool r) ∧ Mem [] w w' [] := by
  unfold M.s_l22Guest at hm
  refine C_enter Tryz.func45 rfl (by kernel_rfl) ?_
  have M0 := Mem.refl [] w
  refine G_seq ?_
  refine G_region ?_
  refine W_run 1 [(0, .int .i64 x1016)] w (by kernel_rfl) ?_
  refine W_nil ?_
  refine N_then ?_
  refine G_seq ?_
  refine G_region ?_
  refine W_run 1 [(3, .int .i64 x1016)] w (by kernel_rfl) ?_
  obtain ⟨r1017, hr1017, hm⟩ := gx_bind hm
  refine W_call 53 #[.int .i64 x1016, .int .i64 0, .int .i64 4] (by kernel_rfl) (by kernel_rfl) ?_
  refine (c_s_l1In w x1016 0 4 hr1017).mono ?_
  rintro e_ w1018 ⟨rfl, K1019⟩
  have M1020 := M0.call0 K1019
  refine ⟨_, rfl, ?_⟩
  refine W_run 1 [(2, .bool r1017)] w1018 (by kernel_rfl) ?_
  refine W_nil ?_
  refine N_then ?_
  refine G_ret ?_
  obtain rfl := Option.some.inj hm
  refine N_ret [.bool r1017] (RVs_cons (RV_tmp (by kernel_rfl)) RVs_nil) ?_
  exact ⟨rfl, M1020.pick [] (by kernel_rfl)⟩
theorem c_s_l22Kind (w : World) (x1026 : ByteArray) {r : Bool} (hm : M.s_l22Kind x1026 = some r) :
    Calls Tryz.prog 52 #[.string x1026] w fun e w' => e = .returned (.bool r) ∧ Mem [] w w' [] := by
  unfold M.s_l22Kind at hm
  refine C_enter Tryz.func52 rfl (by kernel_rfl) ?_
  have M0 := Mem.refl [] w
  refine G_seq ?_
  refine G_region ?_
  refine W_run 1 [(0, .string x1026)] w (by kernel_rfl) ?_
  refine W_nil ?_
  refine N_then ?_
  refine G_seq ?_
  refine G_seq ?_
  refine G_region ?_
  refine W_run 1 [(0, .string x1026), (3, .int .i64 0)] w (by kernel_rfl) ?_
  refine W_nil ?_
  refine N_then ?_
  obtain ⟨out1064, hw1065, hmo1066⟩ := gx_bind hm
  refine G_meet (fun a w' => ∃ (o1067 : Unit), out1064 = .inl o1067 ∧ Mem [] w w' [] ∧ Sat Tryz.f52.ntmps [(0, .string x1026)] a) ?_ ?_
  · refine G_block ?_
    refine G_while (σ := Int) (ρ := (Unit) ⊕ (Bool)) (fun s1057 a w' => Mem [] w w' [] ∧ Sat Tryz.f52.ntmps [(0, .string x1026), (3, .int .i64 s1057)] a) hw1065 (fun a ha => ⟨M0.pick [] (by kernel_rfl), ha.sub (by kernel_rfl)⟩) ?_
    clear hm
    intro s1057 x1058 hm hout1059 a1060 w1061 ⟨M1062, hS1063⟩
    refine G_use hS1063 ?_
    refine G_seq ?_
    refine G_seq ?_
    refine G_region ?_
    refine W_run 4 [(0, .string x1026), (3, .int .i64 s1057), (7, .bool (decide (s1057 < (x1026.size : Int))))] w1061 (by kernel_rfl) ?_
    refine W_nil ?_
    refine N_then ?_
    rcases gx_bif hm with ⟨hc1068, hm⟩ | ⟨hc1068, hm⟩
    · refine G_cond_t (b := (decide (s1057 < (x1026.size : Int)))) hc1068 (by kernel_rfl) ?_
      refine G_skip ?_
      refine N_then ?_
      refine G_seq ?_
      refine G_block ?_
      refine G_seq ?_
      obtain ⟨o1072, ho1073, hm1074⟩ := gx_bind hm
      refine G_meet (fun a w' => Mem [] w w' [] ∧ Sat Tryz.f52.ntmps [(0, .string x1026), (3, .int .i64 s1057), (19, .bool o1072)] a) ?_ ?_
      · have hm := ho1073
        refine G_region ?_
        refine W_run 2 [(0, .string x1026), (3, .int .i64 s1057), (10, .string x1026), (11, .int .i64 s1057)] w1061 (by kernel_rfl) ?_
        obtain ⟨q1075, hq1075, hm⟩ := gx_bind hm
        refine W_val (.int .u8 q1075) w1061 (by kernel_rfl) (E_strIdx _ _ _ x1026 .i64 s1057 q1075 rfl (by kernel_rfl) (by kernel_rfl) (by kernel_rfl) hq1075) ?_
        refine W_run 2 [(0, .string x1026), (3, .int .i64 s1057), (14, .bool (decide (q1075 < 97)))] w1061 (by kernel_rfl) ?_
        rcases gx_bif hm with ⟨hc1076, hm⟩ | ⟨hc1076, hm⟩
        · refine W_known 14 true (by kernel_rfl) hc1076 ?_
          refine W_run 5 [(0, .string x1026), (3, .int .i64 s1057), (19, .bool true)] w1061 (by kernel_rfl) ?_
          refine W_nil ?_
          obtain rfl := Option.some.inj hm
          exact N_meet fun a ha => ⟨M1062.pick [] (by kernel_rfl), ha.sub (by kernel_rfl)⟩
        refine W_known 14 false (by kernel_rfl) hc1076 ?_
        refine W_run 2 [(0, .string x1026), (3, .int .i64 s1057), (14, .bool false), (15, .string x1026), (16, .int .i64 s1057)] w1061 (by kernel_rfl) ?_
        obtain ⟨q1077, hq1077, hm⟩ := gx_bind hm
        refine W_val (.int .u8 q1077) w1061 (by kernel_rfl) (E_strIdx _ _ _ x1026 .i64 s1057 q1077 rfl (by kernel_rfl) (by kernel_rfl) (by kernel_rfl) hq1077) ?_
        refine W_run 2 [(0, .string x1026), (3, .int .i64 s1057), (19, .bool (decide (q1077 > 122)))] w1061 (by kernel_rfl) ?_
        refine W_nil ?_
        obtain rfl := Option.some.inj hm
        exact N_meet fun a ha => ⟨M1062.pick [] (by kernel_rfl), ha.sub (by kernel_rfl)⟩
      intro a1080 w1078 ⟨M1079, hS1081⟩
      refine N_use hS1081 ?_
      have hm := hm1074
      refine N_then ?_
      rcases gx_bif hm with ⟨hc1082, hm⟩ | ⟨hc1082, hm⟩
      · refine G_cond_t (b := o1072) hc1082 (by kernel_rfl) ?_
        refine G_seq ?_
        refine G_region ?_
        refine W_run 1 [(2, .bool false)] w1078 (by kernel_rfl) ?_
        refine W_nil ?_
        refine N_then ?_
        refine G_ret ?_
        refine N_block_ret ?_
        refine N_then_ret ?_
        refine N_then_ret ?_
        obtain rfl := Option.some.inj hm
        obtain rfl := hout1059 _ rfl
        have hm := hmo1066; simp only [Sum.elim_inr] at hm
        refine N_block_ret ?_
        refine N_meet_ret ?_
        refine N_then_ret ?_
        obtain rfl := Option.some.inj hm
        refine N_ret [.bool false] (RVs_cons (RV_tmp (by kernel_rfl)) RVs_nil) ?_
        exact ⟨rfl, M1079.pick [] (by kernel_rfl)⟩
      refine G_cond_f (b := o1072) hc1082 (by kernel_rfl) ?_
      refine G_skip ?_
      refine N_block ?_
      refine N_then ?_
      refine G_region ?_
      refine W_run 3 [(0, .string x1026), (3, .int .i64 (w64 (s1057 + 1)))] w1078 (by kernel_rfl) ?_
      refine W_nil ?_
      obtain rfl := Option.some.inj hm
      exact N_loop fun a ha => ⟨_, rfl, M1079.pick [] (by kernel_rfl), ha.sub (by kernel_rfl)⟩
    refine G_cond_f (b := (decide (s1057 < (x1026.size : Int)))) hc1068 (by kernel_rfl) ?_
    refine G_exit ?_
    refine N_then_exit ?_
    refine N_then_exit ?_
    refine N_block_eq ?_
    obtain rfl := Option.some.inj hm
    obtain rfl := hout1059 _ rfl
    exact N_meet fun a ha => ⟨_, rfl, M1062.pick [] (by kernel_rfl), ha.sub (by kernel_rfl)⟩
  intro a1083 w1084 ⟨o1067, hout_, M1085, hS1086⟩
  refine N_use hS1086 ?_
  subst hout_
  have hm := hmo1066; simp only [Sum.elim_inl] at hm
  refine N_then ?_
  refine G_seq ?_
  refine G_region ?_
  refine W_run 2 [(21, .int .i64 (x1026.size : Int))] w1084 (by kernel_rfl) ?_
  obtain ⟨r1087, hr1087, hm⟩ := gx_bind hm
  refine W_call 53 #[.int .i64 (x1026.size : Int), .int .i64 1, .int .i64 8] (by kernel_rfl) (by kernel_rfl) ?_
  refine (c_s_l1In w1084 (x1026.size : Int) 1 8 hr1087).mono ?_
  rintro e_ w1088 ⟨rfl, K1089⟩
  have M1090 := M1085.call0 K1089
  refine ⟨_, rfl, ?_⟩
  refine W_run 1 [(2, .bool r1087)] w1088 (by kernel_rfl) ?_
  refine W_nil ?_
  refine N_then ?_
  refine G_ret ?_
  obtain rfl := Option.some.inj hm
  refine N_ret [.bool r1087] (RVs_cons (RV_tmp (by kernel_rfl)) RVs_nil) ?_
  exact ⟨rfl, M1090.pick [] (by kernel_rfl)⟩
theorem c_s_l22One (w : World) (x989 : Event) {r : Bool} (hm : M.s_l22One x989 = some r) :
    Calls Tryz.prog 24 #[.agg #[.int .i64 x989.Tick, .int .i64 x989.Guest, .string x989.Kind, .int .i64 x989.Value]] w fun e w' => e = .returned (.bool r) ∧ Mem [] w w' [] := by
  unfold M.s_l22One at hm
  refine C_enter Tryz.func24 rfl (by kernel_rfl) ?_
  have M0 := Mem.refl [] w
  refine G_seq ?_
  refine G_region ?_
  refine W_new (fun b => .pointer (some ⟨b, 0, none⟩)) (.cells ⟨[.int .i64 x989.Tick, .int .i64 x989.Guest, .string x989.Kind, .int .i64 x989.Value]⟩ 25 (0, 0)) M0 rfl (by kernel_rfl) (by kernel_rfl) ?_
  intro b991 w992 M993
  refine W_run 1 [(1, .pointer (some ⟨b991, 0, none⟩))] w992 (by kernel_rfl) ?_
  refine W_nil ?_
  refine N_then ?_
  refine G_seq ?_
  obtain ⟨o1100, ho1101, hm1102⟩ := gx_bind hm
  refine G_meet (fun a w' => Mem [] w w' [] ∧ Sat Tryz.f24.ntmps [(2, .bool o1100)] a) ?_ ?_
  · have hm := ho1101
    refine G_region ?_
    refine W_run 1 [(1, .pointer (some ⟨b991, 0, none⟩)), (3, .pointer (some ⟨b991, 0, none⟩))] w992 (by kernel_rfl) ?_
    refine W_val (.int .i64 x989.Tick) w992 (by kernel_rfl) (E_load (e := 25) (fr := (0, 0)) _ _ false 1 b991 0 [.int .i64 x989.Tick, .int .i64 x989.Guest, .string x989.Kind, .int .i64 x989.Value] (.int .i64 x989.Tick) rfl (by kernel_rfl) (by kernel_rfl) (by kernel_rfl) (M993.blk 0 (b := b991) (o := .cells ⟨[.int .i64 x989.Tick, .int .i64 x989.Guest, .string x989.Kind, .int .i64 x989.Value]⟩ 25 (0, 0)) (by kernel_rfl))) ?_
    obtain ⟨r1103, hr1103, hm⟩ := gx_bind hm
    refine W_call 51 #[.int .i64 x989.Tick] (by kernel_rfl) (by kernel_rfl) ?_
    refine (c_s_l11Tick w992 x989.Tick hr1103).mono ?_
    rintro e_ w1104 ⟨rfl, K1105⟩
    have M1106 := M993.call0 K1105
    refine ⟨_, rfl, ?_⟩
    refine W_run 1 [(1, .pointer (some ⟨b991, 0, none⟩)), (6, .bool r1103)] w1104 (by kernel_rfl) ?_
    rcases gx_bif hm with ⟨hc1107, hm⟩ | ⟨hc1107, hm⟩
    · refine W_known 6 true (by kernel_rfl) hc1107 ?_
      refine W_run 1 [(1, .pointer (some ⟨b991, 0, none⟩)), (6, .bool true), (7, .pointer (some ⟨b991, 1, none⟩))] w1104 (by kernel_rfl) ?_
      refine W_val (.int .i64 x989.Guest) w1104 (by kernel_rfl) (E_load (e := 25) (fr := (0, 0)) _ _ false 1 b991 1 [.int .i64 x989.Tick, .int .i64 x989.Guest, .string x989.Kind, .int .i64 x989.Value] (.int .i64 x989.Guest) rfl (by kernel_rfl) (by kernel_rfl) (by kernel_rfl) (M1106.blk 0 (b := b991) (o := .cells ⟨[.int .i64 x989.Tick, .int .i64 x989.Guest, .string x989.Kind, .int .i64 x989.Value]⟩ 25 (0, 0)) (by kernel_rfl))) ?_
      obtain ⟨r1108, hr1108, hm⟩ := gx_bind hm
      refine W_call 45 #[.int .i64 x989.Guest] (by kernel_rfl) (by kernel_rfl) ?_
      refine (c_s_l22Guest w1104 x989.Guest hr1108).mono ?_
      rintro e_ w1109 ⟨rfl, K1110⟩
      have M1111 := M1106.call0 K1110
      refine ⟨_, rfl, ?_⟩
      refine W_run 2 [(1, .pointer (some ⟨b991, 0, none⟩)), (11, .bool r1108)] w1109 (by kernel_rfl) ?_
      rcases gx_bif hm with ⟨hc1112, hm⟩ | ⟨hc1112, hm⟩
      · refine W_known 11 true (by kernel_rfl) hc1112 ?_
        refine W_run 1 [(1, .pointer (some ⟨b991, 0, none⟩)), (11, .bool true), (12, .pointer (some ⟨b991, 2, none⟩))] w1109 (by kernel_rfl) ?_
        refine W_val (.string x989.Kind) w1109 (by kernel_rfl) (E_load (e := 25) (fr := (0, 0)) _ _ false 1 b991 2 [.int .i64 x989.Tick, .int .i64 x989.Guest, .string x989.Kind, .int .i64 x989.Value] (.string x989.Kind) rfl (by kernel_rfl) (by kernel_rfl) (by kernel_rfl) (M1111.blk 0 (b := b991) (o := .cells ⟨[.int .i64 x989.Tick, .int .i64 x989.Guest, .string x989.Kind, .int .i64 x989.Value]⟩ 25 (0, 0)) (by kernel_rfl))) ?_
        obtain ⟨r1113, hr1113, hm⟩ := gx_bind hm
        refine W_call 52 #[.string x989.Kind] (by kernel_rfl) (by kernel_rfl) ?_
        refine (c_s_l22Kind w1109 x989.Kind hr1113).mono ?_
        rintro e_ w1114 ⟨rfl, K1115⟩
        have M1116 := M1111.call0 K1115
        refine ⟨_, rfl, ?_⟩
        refine W_run 2 [(1, .pointer (some ⟨b991, 0, none⟩)), (16, .bool r1113)] w1114 (by kernel_rfl) ?_
        rcases gx_bif hm with ⟨hc1117, hm⟩ | ⟨hc1117, hm⟩
        · refine W_known 16 true (by kernel_rfl) hc1117 ?_
          refine W_run 1 [(16, .bool true), (17, .pointer (some ⟨b991, 3, none⟩))] w1114 (by kernel_rfl) ?_
          refine W_val (.int .i64 x989.Value) w1114 (by kernel_rfl) (E_load (e := 25) (fr := (0, 0)) _ _ false 1 b991 3 [.int .i64 x989.Tick, .int .i64 x989.Guest, .string x989.Kind, .int .i64 x989.Value] (.int .i64 x989.Value) rfl (by kernel_rfl) (by kernel_rfl) (by kernel_rfl) (M1116.blk 0 (b := b991) (o := .cells ⟨[.int .i64 x989.Tick, .int .i64 x989.Guest, .string x989.Kind, .int .i64 x989.Value]⟩ 25 (0, 0)) (by kernel_rfl))) ?_
          obtain ⟨r1118, hr1118, hm⟩ := gx_bind hm
          refine W_call 53 #[.int .i64 x989.Value, .int .i64 0, .int .i64 65535] (by kernel_rfl) (by kernel_rfl) ?_
          refine (c_s_l1In w1114 x989.Value 0 65535 hr1118).mono ?_
          rintro e_ w1119 ⟨rfl, K1120⟩
          have M1121 := M1116.call0 K1120
          refine ⟨_, rfl, ?_⟩
          refine W_run 2 [(2, .bool r1118)] w1119 (by kernel_rfl) ?_
          refine W_nil ?_
          obtain rfl := Option.some.inj hm
          exact N_meet fun a ha => ⟨M1121.pick [] (by kernel_rfl), ha.sub (by kernel_rfl)⟩
        refine W_known 16 false (by kernel_rfl) hc1117 ?_
        refine W_run 5 [(2, .bool false)] w1114 (by kernel_rfl) ?_
        refine W_nil ?_
        obtain rfl := Option.some.inj hm
        exact N_meet fun a ha => ⟨M1116.pick [] (by kernel_rfl), ha.sub (by kernel_rfl)⟩
      refine W_known 11 false (by kernel_rfl) hc1112 ?_
      refine W_run 10 [(2, .bool false)] w1109 (by kernel_rfl) ?_
      refine W_nil ?_
      obtain rfl := Option.some.inj hm
      exact N_meet fun a ha => ⟨M1111.pick [] (by kernel_rfl), ha.sub (by kernel_rfl)⟩
    refine W_known 6 false (by kernel_rfl) hc1107 ?_
    refine W_run 15 [(2, .bool false)] w1104 (by kernel_rfl) ?_
    refine W_nil ?_
    obtain rfl := Option.some.inj hm
    exact N_meet fun a ha => ⟨M1106.pick [] (by kernel_rfl), ha.sub (by kernel_rfl)⟩
  intro a1124 w1122 ⟨M1123, hS1125⟩
  refine N_use hS1125 ?_
  have hm := hm1102
  refine N_then ?_
  refine G_ret ?_
  obtain rfl := Option.some.inj hm
  refine N_ret [.bool o1100] (RVs_cons (RV_tmp (by kernel_rfl)) RVs_nil) ?_
  exact ⟨rfl, M1123.pick [] (by kernel_rfl)⟩
theorem c_s_l1Num (fuel_ : Nat) : ∀ (w : World) (x1136 : Int) {r : ByteArray} (hm : M.s_l1Num fuel_ x1136 = some r),
    Calls Tryz.prog 54 #[.int .i64 x1136] w fun e w' => e = .returned (.string r) ∧ Mem [] w w' [] := by
  induction fuel_ with
  | zero =>
    intro w x1136 r hm
    unfold M.s_l1Num at hm
    cases hm
  | succ n_ ih_ =>
    intro w x1136 r hm
    unfold M.s_l1Num at hm
    refine C_enter Tryz.func54 rfl (by kernel_rfl) ?_
    have M0 := Mem.refl [] w
    refine G_seq ?_
    refine G_region ?_
    refine W_run 1 [(0, .int .i64 x1136)] w (by kernel_rfl) ?_
    refine W_nil ?_
    refine N_then ?_
    refine G_seq ?_
    refine G_seq ?_
    refine G_region ?_
    refine W_run 2 [(0, .int .i64 x1136), (4, .bool (decide (x1136 < 0)))] w (by kernel_rfl) ?_
    refine W_nil ?_
    refine N_then ?_
    rcases gx_bif hm with ⟨hc1137, hm⟩ | ⟨hc1137, hm⟩
    · refine G_cond_t (b := (decide (x1136 < 0))) hc1137 (by kernel_rfl) ?_
      refine G_seq ?_
      refine G_region ?_
      refine W_run 2 [(6, .int .i64 (w64 (0 - x1136)))] w (by kernel_rfl) ?_
      obtain ⟨r1138, hr1138, hm⟩ := gx_bind hm
      refine W_call 54 #[.int .i64 (w64 (0 - x1136))] (by kernel_rfl) (by kernel_rfl) ?_
      refine (ih_ w (w64 (0 - x1136)) hr1138).mono ?_
      rintro e_ w1139 ⟨rfl, K1140⟩
      have M1141 := M0.call0 K1140
      refine ⟨_, rfl, ?_⟩
      obtain ⟨q1142, hq1142, hm⟩ := gx_bind hm
      refine W_val (.string q1142) w1139 (by kernel_rfl) (E_strCat _ _ _ _ (ByteArray.mk #[45]) r1138 q1142 rfl (by kernel_rfl) (by kernel_rfl) hq1142) ?_
      refine W_run 1 [(2, .string q1142)] w1139 (by kernel_rfl) ?_
      refine W_nil ?_
      refine N_then ?_
      refine G_ret ?_
      refine N_then_ret ?_
      obtain rfl := Option.some.inj hm
      refine N_ret [.string q1142] (RVs_cons (RV_tmp (by kernel_rfl)) RVs_nil) ?_
      exact ⟨rfl, M1141.pick [] (by kernel_rfl)⟩
    refine G_cond_f (b := (decide (x1136 < 0))) hc1137 (by kernel_rfl) ?_
    refine G_skip ?_
    refine N_then ?_
    refine G_seq ?_
    refine G_seq ?_
    refine G_region ?_
    refine W_run 2 [(0, .int .i64 x1136), (10, .bool (decide (x1136 < 10)))] w (by kernel_rfl) ?_
    refine W_nil ?_
    refine N_then ?_
    rcases gx_bif hm with ⟨hc1143, hm⟩ | ⟨hc1143, hm⟩
    · refine G_cond_t (b := (decide (x1136 < 10))) hc1143 (by kernel_rfl) ?_
      refine G_seq ?_
      refine G_region ?_
      refine W_run 3 [(11, .int .i64 x1136), (13, .int .i64 (w64 (x1136 + 1)))] w (by kernel_rfl) ?_
      obtain ⟨q1144, hq1144, hm⟩ := gx_bind hm
      refine W_val (.string q1144) w (by kernel_rfl) (E_strSub _ _ _ _ (ByteArray.mk #[48, 49, 50, 51, 52, 53, 54, 55, 56, 57]) x1136 (w64 (x1136 + 1)) q1144 rfl (by kernel_rfl) (Or.inr ⟨_, rfl, by kernel_rfl⟩) (Or.inr ⟨_, rfl, by kernel_rfl⟩) (by kernel_rfl) hq1144) ?_
      refine W_run 1 [(2, .string q1144)] w (by kernel_rfl) ?_
      refine W_nil ?_
      refine N_then ?_
      refine G_ret ?_
      refine N_then_ret ?_
      obtain rfl := Option.some.inj hm
      refine N_ret [.string q1144] (RVs_cons (RV_tmp (by kernel_rfl)) RVs_nil) ?_
      exact ⟨rfl, M0.pick [] (by kernel_rfl)⟩
    refine G_cond_f (b := (decide (x1136 < 10))) hc1143 (by kernel_rfl) ?_
    refine G_skip ?_
    refine N_then ?_
    refine G_seq ?_
    refine G_quiet (by kernel_rfl) (by kernel_rfl) M0 ?_
    refine Z_runs [.int .i64 x1136, .int .i64 (w64 (x1136.tdiv 10))] [(0, .int .i64 x1136), (16, .int .i64 (w64 (x1136.tdiv 10)))] (fun w_ => by kernel_rfl) (by kernel_rfl) ?_
    obtain ⟨r1145, hr1145, hm⟩ := gx_bind hm
    refine Z_call 54 #[.int .i64 (w64 (x1136.tdiv 10))] (.string r1145) (by kernel_rfl) (fun w_ => by kernel_rfl) (fun w_ M_ => (ih_ w_ (w64 (x1136.tdiv 10)) hr1145).mono fun e w2_ h_ => ⟨h_.1, M_.call0 h_.2⟩) ?_
    refine Z_runs [.int .i64 x1136, .int .i64 (x1136.tmod 10), .int .i64 x1136, .int .i64 (x1136.tmod 10), .int .i64 (w64 ((x1136.tmod 10) + 1))] [(17, .string r1145), (19, .int .i64 (x1136.tmod 10)), (22, .int .i64 (w64 ((x1136.tmod 10) + 1)))] (fun w_ => by kernel_rfl) (by kernel_rfl) ?_
    obtain ⟨q1149, hq1149, hm⟩ := gx_bind hm
    refine Z_val (.string q1149) (by kernel_rfl) (fun w_ M_ => (E_strSub _ _ _ _ (ByteArray.mk #[48, 49, 50, 51, 52, 53, 54, 55, 56, 57]) (x1136.tmod 10) (w64 ((x1136.tmod 10) + 1)) q1149 rfl (by kernel_rfl) (Or.inr ⟨_, rfl, by kernel_rfl⟩) (Or.inr ⟨_, rfl, by kernel_rfl⟩) (by kernel_rfl) hq1149)) ?_
    obtain ⟨q1150, hq1150, hm⟩ := gx_bind hm
    refine Z_val (.string q1150) (by kernel_rfl) (fun w_ M_ => (E_strCat _ _ _ _ r1145 q1149 q1150 rfl (by kernel_rfl) (by kernel_rfl) hq1150)) ?_
    refine Z_runs [.string q1150] [(2, .string q1150)] (fun w_ => by kernel_rfl) (by kernel_rfl) ?_
    refine Z_end fun w1151 M1152 => ?_
    refine N_then ?_
    refine G_ret ?_
    obtain rfl := Option.some.inj hm
    refine N_ret [.string q1150] (RVs_cons (RV_tmp (by kernel_rfl)) RVs_nil) ?_
    exact ⟨rfl, M1152.pick [] (by kernel_rfl)⟩
theorem c_s_l22Text (w : World) (x1131 : Event) {r : ByteArray} (hm : M.s_l22Text x1131 = some r) :
    Calls Tryz.prog 25 #[.agg #[.int .i64 x1131.Tick, .int .i64 x1131.Guest, .string x1131.Kind, .int .i64 x1131.Value]] w fun e w' => e = .returned (.string r) ∧ Mem [] w w' [] := by
  unfold M.s_l22Text at hm
  refine C_enter Tryz.func25 rfl (by kernel_rfl) ?_
  have M0 := Mem.refl [] w
  refine G_seq ?_
  refine G_region ?_
  refine W_new (fun b => .pointer (some ⟨b, 0, none⟩)) (.cells ⟨[.int .i64 x1131.Tick, .int .i64 x1131.Guest, .string x1131.Kind, .int .i64 x1131.Value]⟩ 25 (0, 0)) M0 rfl (by kernel_rfl) (by kernel_rfl) ?_
  intro b1133 w1134 M1135
  refine W_run 1 [(1, .pointer (some ⟨b1133, 0, none⟩))] w1134 (by kernel_rfl) ?_
  refine W_nil ?_
  refine N_then ?_
  refine G_seq ?_
  refine G_region ?_
  refine W_run 1 [(1, .pointer (some ⟨b1133, 0, none⟩)), (4, .pointer (some ⟨b1133, 0, none⟩))] w1134 (by kernel_rfl) ?_
  refine W_val (.int .i64 x1131.Tick) w1134 (by kernel_rfl) (E_load (e := 25) (fr := (0, 0)) _ _ false 1 b1133 0 [.int .i64 x1131.Tick, .int .i64 x1131.Guest, .string x1131.Kind, .int .i64 x1131.Value] (.int .i64 x1131.Tick) rfl (by kernel_rfl) (by kernel_rfl) (by kernel_rfl) (M1135.blk 0 (b := b1133) (o := .cells ⟨[.int .i64 x1131.Tick, .int .i64 x1131.Guest, .string x1131.Kind, .int .i64 x1131.Value]⟩ 25 (0, 0)) (by kernel_rfl))) ?_
  obtain ⟨r1153, hr1153, hm⟩ := gx_bind hm
  refine W_call 54 #[.int .i64 x1131.Tick] (by kernel_rfl) (by kernel_rfl) ?_
  refine (c_s_l1Num gxFuel w1134 x1131.Tick hr1153).mono ?_
  rintro e_ w1154 ⟨rfl, K1155⟩
  have M1156 := M1135.call0 K1155
  refine ⟨_, rfl, ?_⟩
  obtain ⟨q1157, hq1157, hm⟩ := gx_bind hm
  refine W_val (.string q1157) w1154 (by kernel_rfl) (E_strCat _ _ _ _ r1153 (ByteArray.mk #[32, 109, 97, 99, 104, 105, 110, 101, 32]) q1157 rfl (by kernel_rfl) (by kernel_rfl) hq1157) ?_
  refine W_run 1 [(1, .pointer (some ⟨b1133, 0, none⟩)), (3, .string q1157)] w1154 (by kernel_rfl) ?_
  refine W_nil ?_
  refine N_then ?_
  refine G_seq ?_
  refine G_seq ?_
  refine G_region ?_
  refine W_run 1 [(1, .pointer (some ⟨b1133, 0, none⟩)), (3, .string q1157), (8, .pointer (some ⟨b1133, 1, none⟩))] w1154 (by kernel_rfl) ?_
  refine W_val (.int .i64 x1131.Guest) w1154 (by kernel_rfl) (E_load (e := 25) (fr := (0, 0)) _ _ false 1 b1133 1 [.int .i64 x1131.Tick, .int .i64 x1131.Guest, .string x1131.Kind, .int .i64 x1131.Value] (.int .i64 x1131.Guest) rfl (by kernel_rfl) (by kernel_rfl) (by kernel_rfl) (M1156.blk 0 (b := b1133) (o := .cells ⟨[.int .i64 x1131.Tick, .int .i64 x1131.Guest, .string x1131.Kind, .int .i64 x1131.Value]⟩ 25 (0, 0)) (by kernel_rfl))) ?_
  refine W_run 1 [(1, .pointer (some ⟨b1133, 0, none⟩)), (3, .string q1157), (10, .bool (decide (x1131.Guest > 0)))] w1154 (by kernel_rfl) ?_
  refine W_nil ?_
  refine N_then ?_
  obtain ⟨o1172, ho1173, hm1174⟩ := gx_bind hm
  refine G_meet (fun a w' => Mem [] w w' [[(b1133, .cells ⟨[.int .i64 x1131.Tick, .int .i64 x1131.Guest, .string x1131.Kind, .int .i64 x1131.Value]⟩ 25 (0, 0))]] ∧ Sat Tryz.f25.ntmps [(1, .pointer (some ⟨b1133, 0, none⟩)), (3, .string o1172)] a) ?_ ?_
  · have hm := ho1173
    rcases gx_bif hm with ⟨hc1175, hm⟩ | ⟨hc1175, hm⟩
    · refine G_cond_t (b := (decide (x1131.Guest > 0))) hc1175 (by kernel_rfl) ?_
      refine G_quiet (by kernel_rfl) (by kernel_rfl) M1156 ?_
      refine Z_runs [.pointer (some ⟨b1133, 0, none⟩)] [(1, .pointer (some ⟨b1133, 0, none⟩)), (3, .string q1157), (11, .pointer (some ⟨b1133, 0, none⟩))] (fun w_ => by kernel_rfl) (by kernel_rfl) ?_
      refine Z_val (.int .i64 x1131.Tick) (by kernel_rfl) (fun w_ M_ => (E_load (e := 25) (fr := (0, 0)) _ _ false 1 b1133 0 [.int .i64 x1131.Tick, .int .i64 x1131.Guest, .string x1131.Kind, .int .i64 x1131.Value] (.int .i64 x1131.Tick) rfl (by kernel_rfl) (by kernel_rfl) (by kernel_rfl) (M_.blk 0 (b := b1133) (o := .cells ⟨[.int .i64 x1131.Tick, .int .i64 x1131.Guest, .string x1131.Kind, .int .i64 x1131.Value]⟩ 25 (0, 0)) (by kernel_rfl)))) ?_
      obtain ⟨r1176, hr1176, hm⟩ := gx_bind hm
      refine Z_call 54 #[.int .i64 x1131.Tick] (.string r1176) (by kernel_rfl) (fun w_ => by kernel_rfl) (fun w_ M_ => (c_s_l1Num gxFuel w_ x1131.Tick hr1176).mono fun e w2_ h_ => ⟨h_.1, M_.call0 h_.2⟩) ?_
      obtain ⟨q1180, hq1180, hm⟩ := gx_bind hm
      refine Z_val (.string q1180) (by kernel_rfl) (fun w_ M_ => (E_strCat _ _ _ _ r1176 (ByteArray.mk #[32, 103, 117, 101, 115, 116, 32]) q1180 rfl (by kernel_rfl) (by kernel_rfl) hq1180)) ?_
      refine Z_runs [.pointer (some ⟨b1133, 1, none⟩)] [(1, .pointer (some ⟨b1133, 0, none⟩)), (3, .string q1157), (14, .string q1180), (15, .pointer (some ⟨b1133, 1, none⟩))] (fun w_ => by kernel_rfl) (by kernel_rfl) ?_
      refine Z_val (.int .i64 x1131.Guest) (by kernel_rfl) (fun w_ M_ => (E_load (e := 25) (fr := (0, 0)) _ _ false 1 b1133 1 [.int .i64 x1131.Tick, .int .i64 x1131.Guest, .string x1131.Kind, .int .i64 x1131.Value] (.int .i64 x1131.Guest) rfl (by kernel_rfl) (by kernel_rfl) (by kernel_rfl) (M_.blk 0 (b := b1133) (o := .cells ⟨[.int .i64 x1131.Tick, .int .i64 x1131.Guest, .string x1131.Kind, .int .i64 x1131.Value]⟩ 25 (0, 0)) (by kernel_rfl)))) ?_
      obtain ⟨r1181, hr1181, hm⟩ := gx_bind hm
      refine Z_call 54 #[.int .i64 x1131.Guest] (.string r1181) (by kernel_rfl) (fun w_ => by kernel_rfl) (fun w_ M_ => (c_s_l1Num gxFuel w_ x1131.Guest hr1181).mono fun e w2_ h_ => ⟨h_.1, M_.call0 h_.2⟩) ?_
      obtain ⟨q1185, hq1185, hm⟩ := gx_bind hm
      refine Z_val (.string q1185) (by kernel_rfl) (fun w_ M_ => (E_strCat _ _ _ _ q1180 r1181 q1185 rfl (by kernel_rfl) (by kernel_rfl) hq1185)) ?_
      obtain ⟨q1186, hq1186, hm⟩ := gx_bind hm
      refine Z_val (.string q1186) (by kernel_rfl) (fun w_ M_ => (E_strCat _ _ _ _ q1185 (ByteArray.mk #[32]) q1186 rfl (by kernel_rfl) (by kernel_rfl) hq1186)) ?_
      refine Z_runs [.string q1186] [(1, .pointer (some ⟨b1133, 0, none⟩)), (3, .string q1186)] (fun w_ => by kernel_rfl) (by kernel_rfl) ?_
      refine Z_end fun w1187 M1188 => ?_
      obtain rfl := Option.some.inj hm
      exact N_meet fun a ha => ⟨M1188.pick [0] (by kernel_rfl), ha.sub (by kernel_rfl)⟩
    refine G_cond_f (b := (decide (x1131.Guest > 0))) hc1175 (by kernel_rfl) ?_
    refine G_skip ?_
    obtain rfl := Option.some.inj hm
    exact N_meet fun a ha => ⟨M1156.pick [0] (by kernel_rfl), ha.sub (by kernel_rfl)⟩
  intro a1191 w1189 ⟨M1190, hS1192⟩
  refine N_use hS1192 ?_
  have hm := hm1174
  refine N_then ?_
  refine G_seq ?_
  refine G_region ?_
  refine W_run 2 [(1, .pointer (some ⟨b1133, 0, none⟩)), (3, .string o1172), (20, .string o1172), (21, .pointer (some ⟨b1133, 2, none⟩))] w1189 (by kernel_rfl) ?_
  refine W_val (.string x1131.Kind) w1189 (by kernel_rfl) (E_load (e := 25) (fr := (0, 0)) _ _ false 1 b1133 2 [.int .i64 x1131.Tick, .int .i64 x1131.Guest, .string x1131.Kind, .int .i64 x1131.Value] (.string x1131.Kind) rfl (by kernel_rfl) (by kernel_rfl) (by kernel_rfl) (M1190.blk 0 (b := b1133) (o := .cells ⟨[.int .i64 x1131.Tick, .int .i64 x1131.Guest, .string x1131.Kind, .int .i64 x1131.Value]⟩ 25 (0, 0)) (by kernel_rfl))) ?_
  obtain ⟨q1193, hq1193, hm⟩ := gx_bind hm
  refine W_val (.string q1193) w1189 (by kernel_rfl) (E_strCat _ _ _ _ o1172 x1131.Kind q1193 rfl (by kernel_rfl) (by kernel_rfl) hq1193) ?_
  refine W_run 1 [(1, .pointer (some ⟨b1133, 0, none⟩)), (3, .string q1193)] w1189 (by kernel_rfl) ?_
  refine W_nil ?_
  refine N_then ?_
  refine G_seq ?_
  refine G_seq ?_
  refine G_region ?_
  refine W_run 1 [(1, .pointer (some ⟨b1133, 0, none⟩)), (3, .string q1193), (24, .pointer (some ⟨b1133, 3, none⟩))] w1189 (by kernel_rfl) ?_
  refine W_val (.int .i64 x1131.Value) w1189 (by kernel_rfl) (E_load (e := 25) (fr := (0, 0)) _ _ false 1 b1133 3 [.int .i64 x1131.Tick, .int .i64 x1131.Guest, .string x1131.Kind, .int .i64 x1131.Value] (.int .i64 x1131.Value) rfl (by kernel_rfl) (by kernel_rfl) (by kernel_rfl) (M1190.blk 0 (b := b1133) (o := .cells ⟨[.int .i64 x1131.Tick, .int .i64 x1131.Guest, .string x1131.Kind, .int .i64 x1131.Value]⟩ 25 (0, 0)) (by kernel_rfl))) ?_
  refine W_run 1 [(1, .pointer (some ⟨b1133, 0, none⟩)), (3, .string q1193), (26, .bool (decide (x1131.Value > 0)))] w1189 (by kernel_rfl) ?_
  refine W_nil ?_
  refine N_then ?_
  obtain ⟨o1201, ho1202, hm1203⟩ := gx_bind hm
  refine G_meet (fun a w' => Mem [] w w' [] ∧ Sat Tryz.f25.ntmps [(3, .string o1201)] a) ?_ ?_
  · have hm := ho1202
    rcases gx_bif hm with ⟨hc1204, hm⟩ | ⟨hc1204, hm⟩
    · refine G_cond_t (b := (decide (x1131.Value > 0))) hc1204 (by kernel_rfl) ?_
      refine G_region ?_
      refine W_run 1 [(1, .pointer (some ⟨b1133, 0, none⟩)), (3, .string q1193), (27, .string q1193)] w1189 (by kernel_rfl) ?_
      obtain ⟨q1205, hq1205, hm⟩ := gx_bind hm
      refine W_val (.string q1205) w1189 (by kernel_rfl) (E_strCat _ _ _ _ q1193 (ByteArray.mk #[32]) q1205 rfl (by kernel_rfl) (by kernel_rfl) hq1205) ?_
      refine W_run 1 [(3, .string q1193), (28, .string q1205), (29, .pointer (some ⟨b1133, 3, none⟩))] w1189 (by kernel_rfl) ?_
      refine W_val (.int .i64 x1131.Value) w1189 (by kernel_rfl) (E_load (e := 25) (fr := (0, 0)) _ _ false 1 b1133 3 [.int .i64 x1131.Tick, .int .i64 x1131.Guest, .string x1131.Kind, .int .i64 x1131.Value] (.int .i64 x1131.Value) rfl (by kernel_rfl) (by kernel_rfl) (by kernel_rfl) (M1190.blk 0 (b := b1133) (o := .cells ⟨[.int .i64 x1131.Tick, .int .i64 x1131.Guest, .string x1131.Kind, .int .i64 x1131.Value]⟩ 25 (0, 0)) (by kernel_rfl))) ?_
      obtain ⟨r1206, hr1206, hm⟩ := gx_bind hm
      refine W_call 54 #[.int .i64 x1131.Value] (by kernel_rfl) (by kernel_rfl) ?_
      refine (c_s_l1Num gxFuel w1189 x1131.Value hr1206).mono ?_
      rintro e_ w1207 ⟨rfl, K1208⟩
      have M1209 := M1190.call0 K1208
      refine ⟨_, rfl, ?_⟩
      obtain ⟨q1210, hq1210, hm⟩ := gx_bind hm
      refine W_val (.string q1210) w1207 (by kernel_rfl) (E_strCat _ _ _ _ q1205 r1206 q1210 rfl (by kernel_rfl) (by kernel_rfl) hq1210) ?_
      refine W_run 1 [(3, .string q1210)] w1207 (by kernel_rfl) ?_
      refine W_nil ?_
      obtain rfl := Option.some.inj hm
      exact N_meet fun a ha => ⟨M1209.pick [] (by kernel_rfl), ha.sub (by kernel_rfl)⟩
    refine G_cond_f (b := (decide (x1131.Value > 0))) hc1204 (by kernel_rfl) ?_
    refine G_skip ?_
    obtain rfl := Option.some.inj hm
    exact N_meet fun a ha => ⟨M1190.pick [] (by kernel_rfl), ha.sub (by kernel_rfl)⟩
  intro a1213 w1211 ⟨M1212, hS1214⟩
  refine N_use hS1214 ?_
  have hm := hm1203
  refine N_then ?_
  refine G_seq ?_
  refine G_region ?_
  refine W_run 2 [(2, .string o1201)] w1211 (by kernel_rfl) ?_
  refine W_nil ?_
  refine N_then ?_
  refine G_ret ?_
  obtain rfl := Option.some.inj hm
  refine N_ret [.string o1201] (RVs_cons (RV_tmp (by kernel_rfl)) RVs_nil) ?_
  exact ⟨rfl, M1212.pick [] (by kernel_rfl)⟩
theorem c_s_EventText (w : World) (x984 : Event) {r : ByteArray × Bool} (hm : M.s_EventText x984 = some r) :
    Calls Tryz.prog 7 #[.agg #[.int .i64 x984.Tick, .int .i64 x984.Guest, .string x984.Kind, .int .i64 x984.Value]] w fun e w' => e = .returned (.tuple #[.string r.1, .bool r.2]) ∧ Mem [] w w' [] := by
  unfold M.s_EventText at hm
  refine C_enter Tryz.func7 rfl (by kernel_rfl) ?_
  have M0 := Mem.refl [] w
  refine G_seq ?_
  refine G_region ?_
  refine W_new (fun b => .pointer (some ⟨b, 0, none⟩)) (.cells ⟨[.int .i64 x984.Tick, .int .i64 x984.Guest, .string x984.Kind, .int .i64 x984.Value]⟩ 25 (0, 0)) M0 rfl (by kernel_rfl) (by kernel_rfl) ?_
  intro b986 w987 M988
  refine W_run 2 [(1, .pointer (some ⟨b986, 0, none⟩))] w987 (by kernel_rfl) ?_
  refine W_nil ?_
  refine N_then ?_
  refine G_seq ?_
  refine G_seq ?_
  refine G_region ?_
  refine W_val (.agg #[.int .i64 x984.Tick, .int .i64 x984.Guest, .string x984.Kind, .int .i64 x984.Value]) w987 (by kernel_rfl) (E_load (e := 25) (fr := (0, 0)) _ _ true 4 b986 0 [.int .i64 x984.Tick, .int .i64 x984.Guest, .string x984.Kind, .int .i64 x984.Value] (.agg #[.int .i64 x984.Tick, .int .i64 x984.Guest, .string x984.Kind, .int .i64 x984.Value]) rfl (by kernel_rfl) (by kernel_rfl) (by kernel_rfl) (M988.blk 0 (b := b986) (o := .cells ⟨[.int .i64 x984.Tick, .int .i64 x984.Guest, .string x984.Kind, .int .i64 x984.Value]⟩ 25 (0, 0)) (by kernel_rfl))) ?_
  obtain ⟨r1126, hr1126, hm⟩ := gx_bind hm
  refine W_call 24 #[.agg #[.int .i64 x984.Tick, .int .i64 x984.Guest, .string x984.Kind, .int .i64 x984.Value]] (by kernel_rfl) (by kernel_rfl) ?_
  refine (c_s_l22One w987 x984 hr1126).mono ?_
  rintro e_ w1127 ⟨rfl, K1128⟩
  have M1129 := M988.call0 K1128
  refine ⟨_, rfl, ?_⟩
  refine W_run 1 [(1, .pointer (some ⟨b986, 0, none⟩)), (6, .bool (!r1126))] w1127 (by kernel_rfl) ?_
  refine W_nil ?_
  refine N_then ?_
  rcases gx_bif hm with ⟨hc1130, hm⟩ | ⟨hc1130, hm⟩
  · refine G_cond_t (b := (!r1126)) hc1130 (by kernel_rfl) ?_
    refine G_seq ?_
    refine G_region ?_
    refine W_run 2 [(2, .string (ByteArray.mk #[])), (3, .bool false)] w1127 (by kernel_rfl) ?_
    refine W_nil ?_
    refine N_then ?_
    refine G_ret ?_
    refine N_then_ret ?_
    obtain rfl := Option.some.inj hm
    refine N_ret [.string (ByteArray.mk #[]), .bool false] (RVs_cons (RV_tmp (by kernel_rfl)) (RVs_cons (RV_tmp (by kernel_rfl)) RVs_nil)) ?_
    exact ⟨rfl, M1129.pick [] (by kernel_rfl)⟩
  refine G_cond_f (b := (!r1126)) hc1130 (by kernel_rfl) ?_
  refine G_skip ?_
  refine N_then ?_
  refine G_seq ?_
  refine G_region ?_
  refine W_val (.agg #[.int .i64 x984.Tick, .int .i64 x984.Guest, .string x984.Kind, .int .i64 x984.Value]) w1127 (by kernel_rfl) (E_load (e := 25) (fr := (0, 0)) _ _ true 4 b986 0 [.int .i64 x984.Tick, .int .i64 x984.Guest, .string x984.Kind, .int .i64 x984.Value] (.agg #[.int .i64 x984.Tick, .int .i64 x984.Guest, .string x984.Kind, .int .i64 x984.Value]) rfl (by kernel_rfl) (by kernel_rfl) (by kernel_rfl) (M1129.blk 0 (b := b986) (o := .cells ⟨[.int .i64 x984.Tick, .int .i64 x984.Guest, .string x984.Kind, .int .i64 x984.Value]⟩ 25 (0, 0)) (by kernel_rfl))) ?_
  obtain ⟨r1215, hr1215, hm⟩ := gx_bind hm
  refine W_call 25 #[.agg #[.int .i64 x984.Tick, .int .i64 x984.Guest, .string x984.Kind, .int .i64 x984.Value]] (by kernel_rfl) (by kernel_rfl) ?_
  refine (c_s_l22Text w1127 x984 hr1215).mono ?_
  rintro e_ w1216 ⟨rfl, K1217⟩
  have M1218 := M1129.call0 K1217
  refine ⟨_, rfl, ?_⟩
  refine W_run 2 [(2, .string r1215), (3, .bool true)] w1216 (by kernel_rfl) ?_
  refine W_nil ?_
  refine N_then ?_
  refine G_ret ?_
  obtain rfl := Option.some.inj hm
  refine N_ret [.string r1215, .bool true] (RVs_cons (RV_tmp (by kernel_rfl)) (RVs_cons (RV_tmp (by kernel_rfl)) RVs_nil)) ?_
  exact ⟨rfl, M1218.pick [] (by kernel_rfl)⟩
theorem c_strings_Replace (w : World) (x1248 : ByteArray) (x1249 : ByteArray) (x1250 : ByteArray) (x1251 : Int) (ht_ : TabY Tryz.prog w) {r : ByteArray} (hm : M.strings_Replace x1248 x1249 x1250 x1251 = some r) :
    Calls Tryz.prog 31 #[.string x1248, .string x1249, .string x1250, .int .i64 x1251] w fun e w' => e = .returned (.string r) ∧ Mem [] w w' [] := by
  unfold M.strings_Replace at hm
  rcases gx_bif hm with ⟨h, hm⟩ | ⟨h, hm⟩
  · obtain rfl := Option.some.inj hm
    simp only [Bool.and_eq_true, decide_eq_true_eq] at h
    exact repl_run (g := MaxLenG) (by kernel_rfl) Tryz.strings_Replace x1248 x1249 x1250 x1251 w h.1 h.2.1 h.2.2 ht_
  cases hm
theorem c_strings_Split (w : World) (x1256 : ByteArray) (x1257 : ByteArray) (ht_ : TabY Tryz.prog w) {r : (List ByteArray)} (hm : M.strings_Split x1256 x1257 = some r) :
    Calls Tryz.prog 30 #[.string x1256, .string x1257] w fun e w' => ∃ (p1259 : Option Addr) (c1260 : Nat) (sg1261 : Seg), e = .returned (.slice p1259 r.length c1260) ∧ ownS Gx.encS r p1259 c1260 sg1261 ∧ Mem [] w w' [sg1261] := by
  unfold M.strings_Split at hm
  rcases gx_bif hm with ⟨h, hm⟩ | ⟨h, hm⟩
  · obtain rfl := Option.some.inj hm
    simp only [Bool.and_eq_true, decide_eq_true_eq] at h
    exact split_run (g := MaxLenG) (by kernel_rfl) Tryz.strings_Split x1256 x1257 w h.1 h.2 ht_
  cases hm
theorem c_i_ParseInt (w : World) (x1319 : ByteArray) (ht_ : TabY Tryz.prog w) {r : Int × Bool} (hm : M.i_ParseInt x1319 = some r) :
    Calls Tryz.prog 32 #[.string x1319] w fun e w' => e = .returned (.tuple #[.int .i64 r.1, .bool r.2]) ∧ Mem [] w w' [] := by
  unfold M.i_ParseInt at hm
  obtain rfl := Option.some.inj hm
  exact parse_run w x1319 ht_
theorem c_i_ParseEvent (w : World) (x1243 : ByteArray) (ht_ : TabY Tryz.prog w) {r : Event × Bool} (hm : M.i_ParseEvent x1243 = some r) :
    Calls Tryz.prog 9 #[.string x1243] w fun e w' => e = .returned (.tuple #[.agg #[.int .i64 r.1.Tick, .int .i64 r.1.Guest, .string r.1.Kind, .int .i64 r.1.Value], .bool r.2]) ∧ Mem [] w w' [] := by
  unfold M.i_ParseEvent at hm
  refine C_enter Tryz.func9 rfl (by kernel_rfl) ?_
  have M0 := Mem.refl [] w
  refine G_seq ?_
  refine G_region ?_
  refine W_new (fun b => .pointer (some ⟨b, 0, none⟩)) (.cells ⟨[.int .i64 0, .int .i64 0, .string ByteArray.empty, .int .i64 0]⟩ 25 (0, 0)) M0 rfl (by kernel_rfl) (by kernel_rfl) ?_
  intro b1245 w1246 M1247
  refine W_run 1 [(0, .string x1243), (2, .pointer (some ⟨b1245, 0, none⟩))] w1246 (by kernel_rfl) ?_
  refine W_nil ?_
  refine N_then ?_
  refine G_seq ?_
  refine G_region ?_
  refine W_run 1 [(0, .string x1243), (2, .pointer (some ⟨b1245, 0, none⟩)), (12, .string x1243)] w1246 (by kernel_rfl) ?_
  obtain ⟨r1252, hr1252, hm⟩ := gx_bind hm
  refine W_call 31 #[.string x1243, .string (ByteArray.mk #[32, 109, 97, 99, 104, 105, 110, 101, 32]), .string (ByteArray.mk #[32, 103, 117, 101, 115, 116, 32, 48, 32]), .int .i64 1] (by kernel_rfl) (by kernel_rfl) ?_
  refine (c_strings_Replace w1246 x1243 (ByteArray.mk #[32, 109, 97, 99, 104, 105, 110, 101, 32]) (ByteArray.mk #[32, 103, 117, 101, 115, 116, 32, 48, 32]) 1 (TabYM ht_ M1247) hr1252).mono ?_
  rintro e_ w1253 ⟨rfl, K1254⟩
  have M1255 := M1247.call0 K1254
  refine ⟨_, rfl, ?_⟩
  obtain ⟨r1262, hr1262, hm⟩ := gx_bind hm
  refine W_call 30 #[.string r1252, .string (ByteArray.mk #[32])] (by kernel_rfl) (by kernel_rfl) ?_
  refine (c_strings_Split w1253 r1252 (ByteArray.mk #[32]) (TabYM ht_ M1255) hr1262).mono ?_
  rintro e_ w1268 ⟨p1264, c1265, sg1266, rfl, ho1267, K1269⟩
  have M1270 := M1255.call K1269
  refine ⟨_, rfl, ?_⟩
  refine W_run 1 [(0, .string x1243), (2, .pointer (some ⟨b1245, 0, none⟩)), (4, .slice p1264 r1262.length c1265)] w1268 (by kernel_rfl) ?_
  refine W_nil ?_
  refine N_then ?_
  refine G_seq ?_
  refine G_seq ?_
  refine G_region ?_
  refine W_run 3 [(0, .string x1243), (2, .pointer (some ⟨b1245, 0, none⟩)), (4, .slice p1264 r1262.length c1265), (17, .bool ((r1262.length : Int) == 4))] w1268 (by kernel_rfl) ?_
  refine W_nil ?_
  refine N_then ?_
  obtain ⟨o1287, ho1288, hm1289⟩ := gx_bind hm
  refine G_meet (fun a w' => ∃ (p1290 : Option Addr), ∃ (c1291 : Nat), ∃ (sg1292 : Seg), ownS Gx.encS o1287 p1290 c1291 sg1292 ∧ Mem [] w w' [[(b1245, .cells ⟨[.int .i64 0, .int .i64 0, .string ByteArray.empty, .int .i64 0]⟩ 25 (0, 0))], sg1292] ∧ Sat Tryz.f9.ntmps [(0, .string x1243), (2, .pointer (some ⟨b1245, 0, none⟩)), (4, .slice p1290 o1287.length c1291)] a) ?_ ?_
  · have hm := ho1288
    rcases gx_bif hm with ⟨hc1295, hm⟩ | ⟨hc1295, hm⟩
    · refine G_cond_t (b := ((r1262.length : Int) == 4)) hc1295 (by kernel_rfl) ?_
      refine G_region ?_
      refine W_run 1 [(0, .string x1243), (2, .pointer (some ⟨b1245, 0, none⟩)), (4, .slice p1264 r1262.length c1265), (18, .slice p1264 r1262.length c1265)] w1268 (by kernel_rfl) ?_
      refine W_lit (E := Gx.encS) [(ByteArray.mk #[48])] 1 [.string (ByteArray.mk #[48])] 9 M1270 (by kernel_rfl) (by kernel_rfl) (by kernel_rfl) (by kernel_rfl) (by kernel_rfl) ?_
      intro p1296 c1297 sg1298 w1299 ho1300 M1301
      obtain ⟨ap1303, hap1303, hm⟩ := gx_bind hm
      refine W_append (E := Gx.encS) _ _ _ 16 [.string ByteArray.empty] 1 c1297 M1301 ho1267 (by kernel_rfl) (by kernel_rfl) (by kernel_rfl) rfl (by kernel_rfl) (by kernel_rfl) (by kernel_rfl) (by kernel_rfl) (by kernel_rfl) (by kernel_rfl) (ho1300.rd M1301 2 (by kernel_rfl)) hap1303 ?_
      intro p1304 c1305 sg1306 w1307 ho1308 M1309
      refine W_run 1 [(0, .string x1243), (2, .pointer (some ⟨b1245, 0, none⟩)), (4, .slice p1304 ap1303.length c1305)] w1307 (by kernel_rfl) ?_
      refine W_nil ?_
      obtain rfl := Option.some.inj hm
      exact N_meet fun a ha => ⟨p1304, c1305, sg1306, ho1308, M1309.pick [0, 1] (by kernel_rfl), ha.sub (by kernel_rfl)⟩
    refine G_cond_f (b := ((r1262.length : Int) == 4)) hc1295 (by kernel_rfl) ?_
    refine G_skip ?_
    obtain rfl := Option.some.inj hm
    exact N_meet fun a ha => ⟨p1264, c1265, sg1266, ho1267, M1270.pick [0, 1] (by kernel_rfl), ha.sub (by kernel_rfl)⟩
  intro a1313 w1311 ⟨p1290, c1291, sg1292, ho1293, M1312, hS1314⟩
  refine N_use hS1314 ?_
  have hm := hm1289
  refine N_then ?_
  refine G_seq ?_
  refine G_seq ?_
  refine G_region ?_
  refine W_run 3 [(0, .string x1243), (2, .pointer (some ⟨b1245, 0, none⟩)), (4, .slice p1290 o1287.length c1291), (23, .bool ((o1287.length : Int) != 5))] w1311 (by kernel_rfl) ?_
  refine W_nil ?_
  refine N_then ?_
  rcases gx_bif hm with ⟨hc1315, hm⟩ | ⟨hc1315, hm⟩
  · refine G_cond_t (b := ((o1287.length : Int) != 5)) hc1315 (by kernel_rfl) ?_
    refine G_seq ?_
    refine G_region ?_
    refine W_run 1 [(2, .pointer (some ⟨b1245, 0, none⟩)), (24, .agg #[.int .i64 0, .int .i64 0, .string ByteArray.empty, .int .i64 0])] w1311 (by kernel_rfl) ?_
    refine W_store _ _ _ true 4 b1245 0 [.int .i64 0, .int .i64 0, .string ByteArray.empty, .int .i64 0] 25 (.agg #[.int .i64 0, .int .i64 0, .string ByteArray.empty, .int .i64 0]) 0 [.int .i64 0, .int .i64 0, .string ByteArray.empty, .int .i64 0] M1312 (by kernel_rfl) rfl (by kernel_rfl) (by kernel_rfl) (by kernel_rfl) (by kernel_rfl) (by kernel_rfl) (by kernel_rfl) (by kernel_rfl) (by kernel_rfl) ?_
    intro w1316 M1317
    refine W_run 1 [(2, .pointer (some ⟨b1245, 0, none⟩)), (3, .bool false)] w1316 (by kernel_rfl) ?_
    refine W_nil ?_
    refine N_then ?_
    refine G_ret ?_
    refine N_then_ret ?_
    obtain rfl := Option.some.inj hm
    refine N_ret [.agg #[.int .i64 0, .int .i64 0, .string ByteArray.empty, .int .i64 0], .bool false] (RVs_cons (RV_cell (g := true) (k := 4) (b := b1245) (off := 0) (cs := [.int .i64 0, .int .i64 0, .string ByteArray.empty, .int .i64 0]) (e := 25) (fr := (0, 0)) (v := .agg #[.int .i64 0, .int .i64 0, .string ByteArray.empty, .int .i64 0]) (M1317.blk 0 (b := b1245) (o := .cells ⟨[.int .i64 0, .int .i64 0, .string ByteArray.empty, .int .i64 0]⟩ 25 (0, 0)) (by kernel_rfl)) (by kernel_rfl) (by kernel_rfl) (by kernel_rfl)) (RVs_cons (RV_tmp (by kernel_rfl)) RVs_nil)) ?_
    exact ⟨rfl, M1317.pick [] (by kernel_rfl)⟩
  refine G_cond_f (b := ((o1287.length : Int) != 5)) hc1315 (by kernel_rfl) ?_
  refine G_skip ?_
  refine N_then ?_
  refine G_seq ?_
  refine G_region ?_
  refine W_run 1 [(0, .string x1243), (2, .pointer (some ⟨b1245, 0, none⟩)), (4, .slice p1290 o1287.length c1291), (26, .slice p1290 o1287.length c1291)] w1311 (by kernel_rfl) ?_
  obtain ⟨y1318, hy1318, hm⟩ := gx_bind hm
  refine W_val (elemP p1290 ((0 : Int).toNat * 1)) w1311 (by kernel_rfl) (E_index (E := Gx.encS) _ _ _ o1287.length c1291 .i64 0 1 (y := y1318) rfl (by kernel_rfl) (by kernel_rfl) (by kernel_rfl) (ho1293.rd M1312 1 (by kernel_rfl)) rfl hy1318) ?_
  refine W_val (.string y1318) w1311 (by kernel_rfl) (E_loadE (E := Gx.encS) _ _ false 1 0 0 ((0 : Int).toNat * 1) y1318 (.string y1318) rfl (by kernel_rfl) (by kernel_rfl) (by kernel_rfl) (ho1293.rd M1312 1 (by kernel_rfl)) hy1318 rfl) ?_
  obtain ⟨r1320, hr1320, hm⟩ := gx_bind hm
  refine W_call 32 #[.string y1318] (by kernel_rfl) (by kernel_rfl) ?_
  refine (c_i_ParseInt w1311 y1318 (TabYM ht_ M1312) hr1320).mono ?_
  rintro e_ w1321 ⟨rfl, K1322⟩
  have M1323 := M1312.call0 K1322
  refine ⟨_, rfl, ?_⟩
  refine W_run 5 [(0, .string x1243), (2, .pointer (some ⟨b1245, 0, none⟩)), (4, .slice p1290 o1287.length c1291), (5, .int .i64 r1320.1), (6, .bool r1320.2)] w1321 (by kernel_rfl) ?_
  refine W_nil ?_
  refine N_then ?_
  refine G_seq ?_
  refine G_region ?_
  refine W_run 1 [(0, .string x1243), (2, .pointer (some ⟨b1245, 0, none⟩)), (4, .slice p1290 o1287.length c1291), (5, .int .i64 r1320.1), (6, .bool r1320.2), (33, .slice p1290 o1287.length c1291)] w1321 (by kernel_rfl) ?_
  obtain ⟨y1324, hy1324, hm⟩ := gx_bind hm
  refine W_val (elemP p1290 ((2 : Int).toNat * 1)) w1321 (by kernel_rfl) (E_index (E := Gx.encS) _ _ _ o1287.length c1291 .i64 2 1 (y := y1324) rfl (by kernel_rfl) (by kernel_rfl) (by kernel_rfl) (ho1293.rd M1323 1 (by kernel_rfl)) rfl hy1324) ?_
  refine W_val (.string y1324) w1321 (by kernel_rfl) (E_loadE (E := Gx.encS) _ _ false 1 2 0 ((2 : Int).toNat * 1) y1324 (.string y1324) rfl (by kernel_rfl) (by kernel_rfl) (by kernel_rfl) (ho1293.rd M1323 1 (by kernel_rfl)) hy1324 rfl) ?_
  obtain ⟨r1325, hr1325, hm⟩ := gx_bind hm
  refine W_call 32 #[.string y1324] (by kernel_rfl) (by kernel_rfl) ?_
  refine (c_i_ParseInt w1321 y1324 (TabYM ht_ M1323) hr1325).mono ?_
  rintro e_ w1326 ⟨rfl, K1327⟩
  have M1328 := M1323.call0 K1327
  refine ⟨_, rfl, ?_⟩
  refine W_run 5 [(0, .string x1243), (2, .pointer (some ⟨b1245, 0, none⟩)), (4, .slice p1290 o1287.length c1291), (5, .int .i64 r1320.1), (6, .bool r1320.2), (7, .int .i64 r1325.1), (8, .bool r1325.2)] w1326 (by kernel_rfl) ?_
  refine W_nil ?_
  refine N_then ?_
  refine G_seq ?_
  refine G_region ?_
  refine W_run 1 [(0, .string x1243), (2, .pointer (some ⟨b1245, 0, none⟩)), (4, .slice p1290 o1287.length c1291), (5, .int .i64 r1320.1), (6, .bool r1320.2), (7, .int .i64 r1325.1), (8, .bool r1325.2), (40, .slice p1290 o1287.length c1291)] w1326 (by kernel_rfl) ?_
  obtain ⟨y1329, hy1329, hm⟩ := gx_bind hm
  refine W_val (elemP p1290 ((4 : Int).toNat * 1)) w1326 (by kernel_rfl) (E_index (E := Gx.encS) _ _ _ o1287.length c1291 .i64 4 1 (y := y1329) rfl (by kernel_rfl) (by kernel_rfl) (by kernel_rfl) (ho1293.rd M1328 1 (by kernel_rfl)) rfl hy1329) ?_
  refine W_val (.string y1329) w1326 (by kernel_rfl) (E_loadE (E := Gx.encS) _ _ false 1 4 0 ((4 : Int).toNat * 1) y1329 (.string y1329) rfl (by kernel_rfl) (by kernel_rfl) (by kernel_rfl) (ho1293.rd M1328 1 (by kernel_rfl)) hy1329 rfl) ?_
  obtain ⟨r1330, hr1330, hm⟩ := gx_bind hm
  refine W_call 32 #[.string y1329] (by kernel_rfl) (by kernel_rfl) ?_
  refine (c_i_ParseInt w1326 y1329 (TabYM ht_ M1328) hr1330).mono ?_
  rintro e_ w1331 ⟨rfl, K1332⟩
  have M1333 := M1328.call0 K1332
  refine ⟨_, rfl, ?_⟩
  refine W_run 5 [(0, .string x1243), (2, .pointer (some ⟨b1245, 0, none⟩)), (4, .slice p1290 o1287.length c1291), (5, .int .i64 r1320.1), (6, .bool r1320.2), (7, .int .i64 r1325.1), (8, .bool r1325.2), (9, .int .i64 r1330.1), (10, .bool r1330.2)] w1331 (by kernel_rfl) ?_
  refine W_nil ?_
  refine N_then ?_
  refine G_seq ?_
  refine G_region ?_
  refine W_run 3 [(0, .string x1243), (2, .pointer (some ⟨b1245, 0, none⟩)), (6, .bool r1320.2), (8, .bool r1325.2), (9, .int .i64 r1330.1), (10, .bool r1330.2), (46, .int .i64 r1320.1), (47, .int .i64 r1325.1), (48, .slice p1290 o1287.length c1291)] w1331 (by kernel_rfl) ?_
  obtain ⟨y1334, hy1334, hm⟩ := gx_bind hm
  refine W_val (elemP p1290 ((3 : Int).toNat * 1)) w1331 (by kernel_rfl) (E_index (E := Gx.encS) _ _ _ o1287.length c1291 .i64 3 1 (y := y1334) rfl (by kernel_rfl) (by kernel_rfl) (by kernel_rfl) (ho1293.rd M1333 1 (by kernel_rfl)) rfl hy1334) ?_
  refine W_val (.string y1334) w1331 (by kernel_rfl) (E_loadE (E := Gx.encS) _ _ false 1 3 0 ((3 : Int).toNat * 1) y1334 (.string y1334) rfl (by kernel_rfl) (by kernel_rfl) (by kernel_rfl) (ho1293.rd M1333 1 (by kernel_rfl)) hy1334 rfl) ?_
  refine W_run 2 [(0, .string x1243), (2, .pointer (some ⟨b1245, 0, none⟩)), (6, .bool r1320.2), (8, .bool r1325.2), (10, .bool r1330.2), (52, .agg #[.int .i64 r1320.1, .int .i64 r1325.1, .string y1334, .int .i64 r1330.1])] w1331 (by kernel_rfl) ?_
  refine W_new (fun b => .pointer (some ⟨b, 0, none⟩)) (.cells ⟨[.int .i64 0, .int .i64 0, .string ByteArray.empty, .int .i64 0]⟩ 25 (0, 0)) M1333 rfl (by kernel_rfl) (by kernel_rfl) ?_
  intro b1336 w1337 M1338
  refine W_store _ _ _ true 4 b1336 0 [.int .i64 0, .int .i64 0, .string ByteArray.empty, .int .i64 0] 25 (.agg #[.int .i64 r1320.1, .int .i64 r1325.1, .string y1334, .int .i64 r1330.1]) 2 [.int .i64 r1320.1, .int .i64 r1325.1, .string y1334, .int .i64 r1330.1] M1338 (by kernel_rfl) rfl (by kernel_rfl) (by kernel_rfl) (by kernel_rfl) (by kernel_rfl) (by kernel_rfl) (by kernel_rfl) (by kernel_rfl) (by kernel_rfl) ?_
  intro w1339 M1340
  refine W_nil ?_
  refine N_then ?_
  refine G_seq ?_
  refine G_seq ?_
  obtain ⟨o1353, ho1354, hm1355⟩ := gx_bind hm
  refine G_meet (fun a w' => Mem [] w w' [[(b1245, .cells ⟨[.int .i64 0, .int .i64 0, .string ByteArray.empty, .int .i64 0]⟩ 25 (0, 0))], [(b1336, .cells ⟨[.int .i64 r1320.1, .int .i64 r1325.1, .string y1334, .int .i64 r1330.1]⟩ 25 (0, 0))]] ∧ Sat Tryz.f9.ntmps [(2, .pointer (some ⟨b1245, 0, none⟩)), (11, .pointer (some ⟨b1336, 0, none⟩)), (73, .bool o1353)] a) ?_ ?_
  · have hm := ho1354
    refine G_region ?_
    refine W_run 3 [(0, .string x1243), (2, .pointer (some ⟨b1245, 0, none⟩)), (8, .bool r1325.2), (10, .bool r1330.2), (11, .pointer (some ⟨b1336, 0, none⟩)), (55, .bool (!r1320.2))] w1339 (by kernel_rfl) ?_
    rcases gx_bif hm with ⟨hc1356, hm⟩ | ⟨hc1356, hm⟩
    · refine W_known 55 true (by kernel_rfl) hc1356 ?_
      refine W_run 18 [(2, .pointer (some ⟨b1245, 0, none⟩)), (11, .pointer (some ⟨b1336, 0, none⟩)), (73, .bool true)] w1339 (by kernel_rfl) ?_
      refine W_nil ?_
      obtain rfl := Option.some.inj hm
      exact N_meet fun a ha => ⟨M1340.pick [0, 2] (by kernel_rfl), ha.sub (by kernel_rfl)⟩
    refine W_known 55 false (by kernel_rfl) hc1356 ?_
    refine W_run 4 [(0, .string x1243), (2, .pointer (some ⟨b1245, 0, none⟩)), (10, .bool r1330.2), (11, .pointer (some ⟨b1336, 0, none⟩)), (59, .bool (!r1325.2))] w1339 (by kernel_rfl) ?_
    rcases gx_bif hm with ⟨hc1357, hm⟩ | ⟨hc1357, hm⟩
    · refine W_known 59 true (by kernel_rfl) hc1357 ?_
      refine W_run 14 [(2, .pointer (some ⟨b1245, 0, none⟩)), (11, .pointer (some ⟨b1336, 0, none⟩)), (73, .bool true)] w1339 (by kernel_rfl) ?_
      refine W_nil ?_
      obtain rfl := Option.some.inj hm
      exact N_meet fun a ha => ⟨M1340.pick [0, 2] (by kernel_rfl), ha.sub (by kernel_rfl)⟩
    refine W_known 59 false (by kernel_rfl) hc1357 ?_
    refine W_run 4 [(0, .string x1243), (2, .pointer (some ⟨b1245, 0, none⟩)), (11, .pointer (some ⟨b1336, 0, none⟩)), (63, .bool (!r1330.2))] w1339 (by kernel_rfl) ?_
    rcases gx_bif hm with ⟨hc1358, hm⟩ | ⟨hc1358, hm⟩
    · refine W_known 63 true (by kernel_rfl) hc1358 ?_
      refine W_run 10 [(2, .pointer (some ⟨b1245, 0, none⟩)), (11, .pointer (some ⟨b1336, 0, none⟩)), (73, .bool true)] w1339 (by kernel_rfl) ?_
      refine W_nil ?_
      obtain rfl := Option.some.inj hm
      exact N_meet fun a ha => ⟨M1340.pick [0, 2] (by kernel_rfl), ha.sub (by kernel_rfl)⟩
    refine W_known 63 false (by kernel_rfl) hc1358 ?_
    refine W_val (.agg #[.int .i64 r1320.1, .int .i64 r1325.1, .string y1334, .int .i64 r1330.1]) w1339 (by kernel_rfl) (E_load (e := 25) (fr := (0, 0)) _ _ true 4 b1336 0 [.int .i64 r1320.1, .int .i64 r1325.1, .string y1334, .int .i64 r1330.1] (.agg #[.int .i64 r1320.1, .int .i64 r1325.1, .string y1334, .int .i64 r1330.1]) rfl (by kernel_rfl) (by kernel_rfl) (by kernel_rfl) (M1340.blk 2 (b := b1336) (o := .cells ⟨[.int .i64 r1320.1, .int .i64 r1325.1, .string y1334, .int .i64 r1330.1]⟩ 25 (0, 0)) (by kernel_rfl))) ?_
    obtain ⟨r1359, hr1359, hm⟩ := gx_bind hm
    refine W_call 8 #[.agg #[.int .i64 r1320.1, .int .i64 r1325.1, .string y1334, .int .i64 r1330.1]] (by kernel_rfl) (by kernel_rfl) ?_
    refine (c_i_IsEvent w1339 (⟨r1320.1, r1325.1, y1334, r1330.1⟩ : Event) hr1359).mono ?_
    rintro e_ w1360 ⟨rfl, K1361⟩
    have M1362 := M1340.call0 K1361
    refine ⟨_, rfl, ?_⟩
    refine W_run 3 [(0, .string x1243), (2, .pointer (some ⟨b1245, 0, none⟩)), (11, .pointer (some ⟨b1336, 0, none⟩)), (68, .bool (!r1359))] w1360 (by kernel_rfl) ?_
    rcases gx_bif hm with ⟨hc1363, hm⟩ | ⟨hc1363, hm⟩
    · refine W_known 68 true (by kernel_rfl) hc1363 ?_
      refine W_run 5 [(2, .pointer (some ⟨b1245, 0, none⟩)), (11, .pointer (some ⟨b1336, 0, none⟩)), (73, .bool true)] w1360 (by kernel_rfl) ?_
      refine W_nil ?_
      obtain rfl := Option.some.inj hm
      exact N_meet fun a ha => ⟨M1362.pick [0, 2] (by kernel_rfl), ha.sub (by kernel_rfl)⟩
    refine W_known 68 false (by kernel_rfl) hc1363 ?_
    refine W_val (.agg #[.int .i64 r1320.1, .int .i64 r1325.1, .string y1334, .int .i64 r1330.1]) w1360 (by kernel_rfl) (E_load (e := 25) (fr := (0, 0)) _ _ true 4 b1336 0 [.int .i64 r1320.1, .int .i64 r1325.1, .string y1334, .int .i64 r1330.1] (.agg #[.int .i64 r1320.1, .int .i64 r1325.1, .string y1334, .int .i64 r1330.1]) rfl (by kernel_rfl) (by kernel_rfl) (by kernel_rfl) (M1362.blk 2 (b := b1336) (o := .cells ⟨[.int .i64 r1320.1, .int .i64 r1325.1, .string y1334, .int .i64 r1330.1]⟩ 25 (0, 0)) (by kernel_rfl))) ?_
    obtain ⟨r1364, hr1364, hm⟩ := gx_bind hm
    refine W_call 23 #[.agg #[.int .i64 r1320.1, .int .i64 r1325.1, .string y1334, .int .i64 r1330.1]] (by kernel_rfl) (by kernel_rfl) ?_
    refine (c_i_eventText w1360 (⟨r1320.1, r1325.1, y1334, r1330.1⟩ : Event) (TabYM ht_ M1362) hr1364).mono ?_
    rintro e_ w1365 ⟨rfl, K1366⟩
    have M1367 := M1362.call0 K1366
    refine ⟨_, rfl, ?_⟩
    refine W_run 3 [(2, .pointer (some ⟨b1245, 0, none⟩)), (11, .pointer (some ⟨b1336, 0, none⟩)), (73, .bool (!(r1364.toList == x1243.toList)))] w1365 (by kernel_rfl) ?_
    refine W_nil ?_
    obtain rfl := Option.some.inj hm
    exact N_meet fun a ha => ⟨M1367.pick [0, 2] (by kernel_rfl), ha.sub (by kernel_rfl)⟩
  intro a1370 w1368 ⟨M1369, hS1371⟩
  refine N_use hS1371 ?_
  have hm := hm1355
  refine N_then ?_
  rcases gx_bif hm with ⟨hc1372, hm⟩ | ⟨hc1372, hm⟩
  · refine G_cond_t (b := o1353) hc1372 (by kernel_rfl) ?_
    refine G_seq ?_
    refine G_region ?_
    refine W_run 1 [(2, .pointer (some ⟨b1245, 0, none⟩)), (74, .agg #[.int .i64 0, .int .i64 0, .string ByteArray.empty, .int .i64 0])] w1368 (by kernel_rfl) ?_
    refine W_store _ _ _ true 4 b1245 0 [.int .i64 0, .int .i64 0, .string ByteArray.empty, .int .i64 0] 25 (.agg #[.int .i64 0, .int .i64 0, .string ByteArray.empty, .int .i64 0]) 0 [.int .i64 0, .int .i64 0, .string ByteArray.empty, .int .i64 0] M1369 (by kernel_rfl) rfl (by kernel_rfl) (by kernel_rfl) (by kernel_rfl) (by kernel_rfl) (by kernel_rfl) (by kernel_rfl) (by kernel_rfl) (by kernel_rfl) ?_
    intro w1373 M1374
    refine W_run 1 [(2, .pointer (some ⟨b1245, 0, none⟩)), (3, .bool false)] w1373 (by kernel_rfl) ?_
    refine W_nil ?_
    refine N_then ?_
    refine G_ret ?_
    refine N_then_ret ?_
    obtain rfl := Option.some.inj hm
    refine N_ret [.agg #[.int .i64 0, .int .i64 0, .string ByteArray.empty, .int .i64 0], .bool false] (RVs_cons (RV_cell (g := true) (k := 4) (b := b1245) (off := 0) (cs := [.int .i64 0, .int .i64 0, .string ByteArray.empty, .int .i64 0]) (e := 25) (fr := (0, 0)) (v := .agg #[.int .i64 0, .int .i64 0, .string ByteArray.empty, .int .i64 0]) (M1374.blk 0 (b := b1245) (o := .cells ⟨[.int .i64 0, .int .i64 0, .string ByteArray.empty, .int .i64 0]⟩ 25 (0, 0)) (by kernel_rfl)) (by kernel_rfl) (by kernel_rfl) (by kernel_rfl)) (RVs_cons (RV_tmp (by kernel_rfl)) RVs_nil)) ?_
    exact ⟨rfl, M1374.pick [] (by kernel_rfl)⟩
  refine G_cond_f (b := o1353) hc1372 (by kernel_rfl) ?_
  refine G_skip ?_
  refine N_then ?_
  refine G_seq ?_
  refine G_region ?_
  refine W_val (.agg #[.int .i64 r1320.1, .int .i64 r1325.1, .string y1334, .int .i64 r1330.1]) w1368 (by kernel_rfl) (E_load (e := 25) (fr := (0, 0)) _ _ true 4 b1336 0 [.int .i64 r1320.1, .int .i64 r1325.1, .string y1334, .int .i64 r1330.1] (.agg #[.int .i64 r1320.1, .int .i64 r1325.1, .string y1334, .int .i64 r1330.1]) rfl (by kernel_rfl) (by kernel_rfl) (by kernel_rfl) (M1369.blk 1 (b := b1336) (o := .cells ⟨[.int .i64 r1320.1, .int .i64 r1325.1, .string y1334, .int .i64 r1330.1]⟩ 25 (0, 0)) (by kernel_rfl))) ?_
  refine W_store _ _ _ true 4 b1245 0 [.int .i64 0, .int .i64 0, .string ByteArray.empty, .int .i64 0] 25 (.agg #[.int .i64 r1320.1, .int .i64 r1325.1, .string y1334, .int .i64 r1330.1]) 0 [.int .i64 r1320.1, .int .i64 r1325.1, .string y1334, .int .i64 r1330.1] M1369 (by kernel_rfl) rfl (by kernel_rfl) (by kernel_rfl) (by kernel_rfl) (by kernel_rfl) (by kernel_rfl) (by kernel_rfl) (by kernel_rfl) (by kernel_rfl) ?_
  intro w1375 M1376
  refine W_run 1 [(2, .pointer (some ⟨b1245, 0, none⟩)), (3, .bool true)] w1375 (by kernel_rfl) ?_
  refine W_nil ?_
  refine N_then ?_
  refine G_ret ?_
  obtain rfl := Option.some.inj hm
  refine N_ret [.agg #[.int .i64 r1320.1, .int .i64 r1325.1, .string y1334, .int .i64 r1330.1], .bool true] (RVs_cons (RV_cell (g := true) (k := 4) (b := b1245) (off := 0) (cs := [.int .i64 r1320.1, .int .i64 r1325.1, .string y1334, .int .i64 r1330.1]) (e := 25) (fr := (0, 0)) (v := .agg #[.int .i64 r1320.1, .int .i64 r1325.1, .string y1334, .int .i64 r1330.1]) (M1376.blk 0 (b := b1245) (o := .cells ⟨[.int .i64 r1320.1, .int .i64 r1325.1, .string y1334, .int .i64 r1330.1]⟩ 25 (0, 0)) (by kernel_rfl)) (by kernel_rfl) (by kernel_rfl) (by kernel_rfl)) (RVs_cons (RV_tmp (by kernel_rfl)) RVs_nil)) ?_
  exact ⟨rfl, M1376.pick [] (by kernel_rfl)⟩
theorem c_s_l1Cur_one (w : World) (x1428 : l1Cur) (p1432 : Option Addr) (c1433 : Nat) (h1434 : rdS Gx.encU8 w x1428.code p1432 c1433) (b1430 : Nat) (x1436 : Int) (hA : ∀ q ∈ List.flatten [[(b1430, .cells ⟨[.slice p1432 x1428.code.length c1433, .int .i64 x1428.at_, .int .u64 x1428.seed]⟩ 57 (0, 0))]], w.heap[q.1]? = some q.2) (hN : (idsOf [[(b1430, .cells ⟨[.slice p1432 x1428.code.length c1433, .int .i64 x1428.at_, .int .u64 x1428.seed]⟩ 57 (0, 0))]]).Nodup) (hap1435 : apartX (idsOf [[(b1430, .cells ⟨[.slice p1432 x1428.code.length c1433, .int .i64 x1428.at_, .int .u64 x1428.seed]⟩ 57 (0, 0))]]) x1428.code p1432) {r : Bool × Int × Int} (hm : M.s_l1Cur_one x1428 x1436 = some r) :
    Calls Tryz.prog 35 #[.pointer (some ⟨b1430, 0, none⟩), .int .i64 x1436] w fun e w' => e = .returned (.bool r.1) ∧ Mem (idsOf [[(b1430, .cells ⟨[.slice p1432 x1428.code.length c1433, .int .i64 x1428.at_, .int .u64 x1428.seed]⟩ 57 (0, 0))]]) w w' [[(b1430, .cells ⟨[.slice p1432 x1428.code.length c1433, .int .i64 r.2.1, .int .u64 r.2.2]⟩ 57 (0, 0))]] := by
  unfold M.s_l1Cur_one at hm
  refine C_enter Tryz.func35 rfl (by kernel_rfl) ?_
  have M0 := Mem.start' w [[(b1430, .cells ⟨[.slice p1432 x1428.code.length c1433, .int .i64 x1428.at_, .int .u64 x1428.seed]⟩ 57 (0, 0))]] hA hN
  refine G_seq ?_
  refine G_region ?_
  refine W_run 1 [(0, .pointer (some ⟨b1430, 0, none⟩)), (1, .int .i64 x1436)] w (by kernel_rfl) ?_
  refine W_nil ?_
  refine N_then ?_
  refine G_seq ?_
  refine G_region ?_
  refine W_run 2 [(5, .pointer (some ⟨b1430, 0, none⟩)), (6, .int .i64 x1436)] w (by kernel_rfl) ?_
  obtain ⟨r1437, hr1437, hm⟩ := gx_bind hm
  refine W_call 65 #[.pointer (some ⟨b1430, 0, none⟩), .int .i64 x1436] (by kernel_rfl) (by kernel_rfl) ?_
  refine (c_s_l1Cur_pick w x1428 p1432 c1433 (h1434.memX hap1435 M0) b1430 x1436 (M0.hasPick [0]) (M0.nodupPick [0] (by kernel_rfl)) (apartX.old h1434 hap1435 M0 [0]) hr1437).mono ?_
  rintro e_ w1438 ⟨rfl, K1439⟩
  have M1440 := M0.callF' [0] [] (by kernel_rfl) K1439
  refine ⟨_, rfl, ?_⟩
  refine W_run 2 [(4, .bool (r1437.1 == 0))] w1438 (by kernel_rfl) ?_
  refine W_nil ?_
  refine N_then ?_
  refine G_ret ?_
  obtain rfl := Option.some.inj hm
  refine N_ret [.bool (r1437.1 == 0)] (RVs_cons (RV_tmp (by kernel_rfl)) RVs_nil) ?_
  exact ⟨rfl, M1440.pick [0] (by kernel_rfl)⟩
theorem c_s_l1Cur_spoilt (w : World) (x1446 : l1Cur) (p1450 : Option Addr) (c1451 : Nat) (h1452 : rdS Gx.encU8 w x1446.code p1450 c1451) (b1448 : Nat) (x1454 : ByteArray) (x1455 : ByteArray) (hA : ∀ q ∈ List.flatten [[(b1448, .cells ⟨[.slice p1450 x1446.code.length c1451, .int .i64 x1446.at_, .int .u64 x1446.seed]⟩ 57 (0, 0))]], w.heap[q.1]? = some q.2) (hN : (idsOf [[(b1448, .cells ⟨[.slice p1450 x1446.code.length c1451, .int .i64 x1446.at_, .int .u64 x1446.seed]⟩ 57 (0, 0))]]).Nodup) (hap1453 : apartX (idsOf [[(b1448, .cells ⟨[.slice p1450 x1446.code.length c1451, .int .i64 x1446.at_, .int .u64 x1446.seed]⟩ 57 (0, 0))]]) x1446.code p1450) {r : ByteArray × Int × Int} (hm : M.s_l1Cur_spoilt x1446 x1454 x1455 = some r) :
    Calls Tryz.prog 36 #[.pointer (some ⟨b1448, 0, none⟩), .string x1454, .string x1455] w fun e w' => e = .returned (.string r.1) ∧ Mem (idsOf [[(b1448, .cells ⟨[.slice p1450 x1446.code.length c1451, .int .i64 x1446.at_, .int .u64 x1446.seed]⟩ 57 (0, 0))]]) w w' [[(b1448, .cells ⟨[.slice p1450 x1446.code.length c1451, .int .i64 r.2.1, .int .u64 r.2.2]⟩ 57 (0, 0))]] := by
  unfold M.s_l1Cur_spoilt at hm
  refine C_enter Tryz.func36 rfl (by kernel_rfl) ?_
  have M0 := Mem.start' w [[(b1448, .cells ⟨[.slice p1450 x1446.code.length c1451, .int .i64 x1446.at_, .int .u64 x1446.seed]⟩ 57 (0, 0))]] hA hN
  refine G_seq ?_
  refine G_region ?_
  refine W_run 1 [(0, .pointer (some ⟨b1448, 0, none⟩)), (1, .string x1454), (2, .string x1455)] w (by kernel_rfl) ?_
  refine W_nil ?_
  refine N_then ?_
  refine G_seq ?_
  refine G_seq ?_
  refine G_region ?_
  refine W_run 2 [(0, .pointer (some ⟨b1448, 0, none⟩)), (1, .string x1454), (2, .string x1455), (10, .bool (x1454.toList == (ByteArray.mk #[]).toList))] w (by kernel_rfl) ?_
  refine W_nil ?_
  refine N_then ?_
  rcases gx_bif hm with ⟨hc1456, hm⟩ | ⟨hc1456, hm⟩
  · refine G_cond_t (b := (x1454.toList == (ByteArray.mk #[]).toList)) hc1456 (by kernel_rfl) ?_
    refine G_seq ?_
    refine G_region ?_
    refine W_run 1 [(11, .string x1455)] w (by kernel_rfl) ?_
    obtain ⟨q1457, hq1457, hm⟩ := gx_bind hm
    refine W_val (.string q1457) w (by kernel_rfl) (E_strSub _ _ _ _ x1455 0 1 q1457 rfl (by kernel_rfl) (Or.inl ⟨rfl, rfl⟩) (Or.inr ⟨_, rfl, by kernel_rfl⟩) (by kernel_rfl) hq1457) ?_
    refine W_run 1 [(6, .string q1457)] w (by kernel_rfl) ?_
    refine W_nil ?_
    refine N_then ?_
    refine G_ret ?_
    refine N_then_ret ?_
    obtain rfl := Option.some.inj hm
    refine N_ret [.string q1457] (RVs_cons (RV_tmp (by kernel_rfl)) RVs_nil) ?_
    exact ⟨rfl, M0.pick [0] (by kernel_rfl)⟩
  refine G_cond_f (b := (x1454.toList == (ByteArray.mk #[]).toList)) hc1456 (by kernel_rfl) ?_
  refine G_skip ?_
  refine N_then ?_
  refine G_seq ?_
  refine G_region ?_
  refine W_run 3 [(0, .pointer (some ⟨b1448, 0, none⟩)), (1, .string x1454), (2, .string x1455), (13, .pointer (some ⟨b1448, 0, none⟩)), (15, .int .i64 (x1454.size : Int))] w (by kernel_rfl) ?_
  obtain ⟨r1458, hr1458, hm⟩ := gx_bind hm
  refine W_call 65 #[.pointer (some ⟨b1448, 0, none⟩), .int .i64 (x1454.size : Int)] (by kernel_rfl) (by kernel_rfl) ?_
  refine (c_s_l1Cur_pick w x1446 p1450 c1451 (h1452.memX hap1453 M0) b1448 (x1454.size : Int) (M0.hasPick [0]) (M0.nodupPick [0] (by kernel_rfl)) (apartX.old h1452 hap1453 M0 [0]) hr1458).mono ?_
  rintro e_ w1459 ⟨rfl, K1460⟩
  have M1461 := M0.callF' [0] [] (by kernel_rfl) K1460
  refine ⟨_, rfl, ?_⟩
  refine W_run 1 [(0, .pointer (some ⟨b1448, 0, none⟩)), (1, .string x1454), (2, .string x1455), (7, .int .i64 r1458.1)] w1459 (by kernel_rfl) ?_
  refine W_nil ?_
  refine N_then ?_
  refine G_seq ?_
  refine G_region ?_
  refine W_run 4 [(0, .pointer (some ⟨b1448, 0, none⟩)), (1, .string x1454), (7, .int .i64 r1458.1), (17, .string x1455), (18, .pointer (some ⟨b1448, 0, none⟩)), (20, .int .i64 (x1455.size : Int))] w1459 (by kernel_rfl) ?_
  obtain ⟨r1462, hr1462, hm⟩ := gx_bind hm
  refine W_call 65 #[.pointer (some ⟨b1448, 0, none⟩), .int .i64 (x1455.size : Int)] (by kernel_rfl) (by kernel_rfl) ?_
  refine (c_s_l1Cur_pick w1459 (⟨x1446.code, r1458.2.1, r1458.2.2⟩ : l1Cur) p1450 c1451 (h1452.memX hap1453 M1461) b1448 (x1455.size : Int) (M1461.hasPick [0]) (M1461.nodupPick [0] (by kernel_rfl)) (apartX.old h1452 hap1453 M1461 [0]) hr1462).mono ?_
  rintro e_ w1463 ⟨rfl, K1464⟩
  have M1465 := M1461.callF' [0] [] (by kernel_rfl) K1464
  refine ⟨_, rfl, ?_⟩
  obtain ⟨q1466, hq1466, hm⟩ := gx_bind hm
  refine W_val (.string q1466) w1463 (by kernel_rfl) (E_strSub _ _ _ _ x1455 r1462.1 (x1455.size : Int) q1466 rfl (by kernel_rfl) (Or.inr ⟨_, rfl, by kernel_rfl⟩) (Or.inl ⟨rfl, rfl⟩) (by kernel_rfl) hq1466) ?_
  obtain ⟨q1467, hq1467, hm⟩ := gx_bind hm
  refine W_val (.string q1467) w1463 (by kernel_rfl) (E_strSub _ _ _ _ q1466 0 1 q1467 rfl (by kernel_rfl) (Or.inl ⟨rfl, rfl⟩) (Or.inr ⟨_, rfl, by kernel_rfl⟩) (by kernel_rfl) hq1467) ?_
  refine W_run 1 [(0, .pointer (some ⟨b1448, 0, none⟩)), (1, .string x1454), (7, .int .i64 r1458.1), (8, .string q1467)] w1463 (by kernel_rfl) ?_
  refine W_nil ?_
  refine N_then ?_
  refine G_seq ?_
  refine G_seq ?_
  refine G_region ?_
  refine W_run 1 [(1, .string x1454), (7, .int .i64 r1458.1), (8, .string q1467), (24, .pointer (some ⟨b1448, 0, none⟩))] w1463 (by kernel_rfl) ?_
  obtain ⟨r1468, hr1468, hm⟩ := gx_bind hm
  refine W_call 65 #[.pointer (some ⟨b1448, 0, none⟩), .int .i64 3] (by kernel_rfl) (by kernel_rfl) ?_
  refine (c_s_l1Cur_pick w1463 (⟨x1446.code, r1462.2.1, r1462.2.2⟩ : l1Cur) p1450 c1451 (h1452.memX hap1453 M1465) b1448 3 (M1465.hasPick [0]) (M1465.nodupPick [0] (by kernel_rfl)) (apartX.old h1452 hap1453 M1465 [0]) hr1468).mono ?_
  rintro e_ w1469 ⟨rfl, K1470⟩
  have M1471 := M1465.callF' [0] [] (by kernel_rfl) K1470
  refine ⟨_, rfl, ?_⟩
  refine W_nil ?_
  refine N_then ?_
  refine G_block ?_
  refine G_seq ?_
  refine G_region ?_
  refine W_run 2 [(1, .string x1454), (7, .int .i64 r1458.1), (8, .string q1467), (25, .int .i64 r1468.1), (26, .bool (r1468.1 == 0))] w1469 (by kernel_rfl) ?_
  refine W_nil ?_
  refine N_then ?_
  rcases gx_bif hm with ⟨hc1472, hm⟩ | ⟨hc1472, hm⟩
  · refine G_cond_t (b := (r1468.1 == 0)) hc1472 (by kernel_rfl) ?_
    refine G_seq ?_
    refine G_quiet (by kernel_rfl) (by kernel_rfl) M1471 ?_
    refine Z_runs [.string x1454, .int .i64 r1458.1] [(1, .string x1454), (7, .int .i64 r1458.1), (8, .string q1467), (28, .string x1454), (29, .int .i64 r1458.1)] (fun w_ => by kernel_rfl) (by kernel_rfl) ?_
    obtain ⟨q1473, hq1473, hm⟩ := gx_bind hm
    refine Z_val (.string q1473) (by kernel_rfl) (fun w_ M_ => (E_strSub _ _ _ _ x1454 0 r1458.1 q1473 rfl (by kernel_rfl) (Or.inl ⟨rfl, rfl⟩) (Or.inr ⟨_, rfl, by kernel_rfl⟩) (by kernel_rfl) hq1473)) ?_
    refine Z_runs [.string q1467] [(1, .string x1454), (7, .int .i64 r1458.1), (30, .string q1473), (31, .string q1467)] (fun w_ => by kernel_rfl) (by kernel_rfl) ?_
    obtain ⟨q1474, hq1474, hm⟩ := gx_bind hm
    refine Z_val (.string q1474) (by kernel_rfl) (fun w_ M_ => (E_strCat _ _ _ _ q1473 q1467 q1474 rfl (by kernel_rfl) (by kernel_rfl) hq1474)) ?_
    refine Z_runs [.string x1454, .int .i64 r1458.1] [(32, .string q1474), (33, .string x1454), (34, .int .i64 r1458.1)] (fun w_ => by kernel_rfl) (by kernel_rfl) ?_
    obtain ⟨q1475, hq1475, hm⟩ := gx_bind hm
    refine Z_val (.string q1475) (by kernel_rfl) (fun w_ M_ => (E_strSub _ _ _ _ x1454 r1458.1 (x1454.size : Int) q1475 rfl (by kernel_rfl) (Or.inr ⟨_, rfl, by kernel_rfl⟩) (Or.inl ⟨rfl, rfl⟩) (by kernel_rfl) hq1475)) ?_
    obtain ⟨q1476, hq1476, hm⟩ := gx_bind hm
    refine Z_val (.string q1476) (by kernel_rfl) (fun w_ M_ => (E_strCat _ _ _ _ q1474 q1475 q1476 rfl (by kernel_rfl) (by kernel_rfl) hq1476)) ?_
    refine Z_runs [.string q1476] [(6, .string q1476)] (fun w_ => by kernel_rfl) (by kernel_rfl) ?_
    refine Z_end fun w1477 M1478 => ?_
    refine N_then ?_
    refine G_ret ?_
    refine N_block_ret ?_
    refine N_then_ret ?_
    obtain rfl := Option.some.inj hm
    refine N_ret [.string q1476] (RVs_cons (RV_tmp (by kernel_rfl)) RVs_nil) ?_
    exact ⟨rfl, M1478.pick [0] (by kernel_rfl)⟩
  refine G_cond_f (b := (r1468.1 == 0)) hc1472 (by kernel_rfl) ?_
  refine G_seq ?_
  refine G_region ?_
  refine W_run 2 [(1, .string x1454), (7, .int .i64 r1458.1), (8, .string q1467), (37, .bool (r1468.1 == 1))] w1469 (by kernel_rfl) ?_
  refine W_nil ?_
  refine N_then ?_
  rcases gx_bif hm with ⟨hc1479, hm⟩ | ⟨hc1479, hm⟩
  · refine G_cond_t (b := (r1468.1 == 1)) hc1479 (by kernel_rfl) ?_
    refine G_seq ?_
    refine G_quiet (by kernel_rfl) (by kernel_rfl) M1471 ?_
    refine Z_runs [.string x1454, .int .i64 r1458.1] [(1, .string x1454), (7, .int .i64 r1458.1), (8, .string q1467), (39, .string x1454), (40, .int .i64 r1458.1)] (fun w_ => by kernel_rfl) (by kernel_rfl) ?_
    obtain ⟨q1480, hq1480, hm⟩ := gx_bind hm
    refine Z_val (.string q1480) (by kernel_rfl) (fun w_ M_ => (E_strSub _ _ _ _ x1454 0 r1458.1 q1480 rfl (by kernel_rfl) (Or.inl ⟨rfl, rfl⟩) (Or.inr ⟨_, rfl, by kernel_rfl⟩) (by kernel_rfl) hq1480)) ?_
    refine Z_runs [.string q1467] [(1, .string x1454), (7, .int .i64 r1458.1), (41, .string q1480), (42, .string q1467)] (fun w_ => by kernel_rfl) (by kernel_rfl) ?_
    obtain ⟨q1481, hq1481, hm⟩ := gx_bind hm
    refine Z_val (.string q1481) (by kernel_rfl) (fun w_ M_ => (E_strCat _ _ _ _ q1480 q1467 q1481 rfl (by kernel_rfl) (by kernel_rfl) hq1481)) ?_
    refine Z_runs [.string x1454, .int .i64 r1458.1, .int .i64 (w64 (r1458.1 + 1))] [(43, .string q1481), (44, .string x1454), (46, .int .i64 (w64 (r1458.1 + 1)))] (fun w_ => by kernel_rfl) (by kernel_rfl) ?_
    obtain ⟨q1482, hq1482, hm⟩ := gx_bind hm
    refine Z_val (.string q1482) (by kernel_rfl) (fun w_ M_ => (E_strSub _ _ _ _ x1454 (w64 (r1458.1 + 1)) (x1454.size : Int) q1482 rfl (by kernel_rfl) (Or.inr ⟨_, rfl, by kernel_rfl⟩) (Or.inl ⟨rfl, rfl⟩) (by kernel_rfl) hq1482)) ?_
    obtain ⟨q1483, hq1483, hm⟩ := gx_bind hm
    refine Z_val (.string q1483) (by kernel_rfl) (fun w_ M_ => (E_strCat _ _ _ _ q1481 q1482 q1483 rfl (by kernel_rfl) (by kernel_rfl) hq1483)) ?_
    refine Z_runs [.string q1483] [(6, .string q1483)] (fun w_ => by kernel_rfl) (by kernel_rfl) ?_
    refine Z_end fun w1484 M1485 => ?_
    refine N_then ?_
    refine G_ret ?_
    refine N_block_ret ?_
    refine N_then_ret ?_
    obtain rfl := Option.some.inj hm
    refine N_ret [.string q1483] (RVs_cons (RV_tmp (by kernel_rfl)) RVs_nil) ?_
    exact ⟨rfl, M1485.pick [0] (by kernel_rfl)⟩
  refine G_cond_f (b := (r1468.1 == 1)) hc1479 (by kernel_rfl) ?_
  refine G_skip ?_
  refine N_block ?_
  refine N_then ?_
  refine G_seq ?_
  refine G_quiet (by kernel_rfl) (by kernel_rfl) M1471 ?_
  refine Z_runs [.string x1454, .int .i64 r1458.1] [(1, .string x1454), (7, .int .i64 r1458.1), (49, .string x1454), (50, .int .i64 r1458.1)] (fun w_ => by kernel_rfl) (by kernel_rfl) ?_
  obtain ⟨q1486, hq1486, hm⟩ := gx_bind hm
  refine Z_val (.string q1486) (by kernel_rfl) (fun w_ M_ => (E_strSub _ _ _ _ x1454 0 r1458.1 q1486 rfl (by kernel_rfl) (Or.inl ⟨rfl, rfl⟩) (Or.inr ⟨_, rfl, by kernel_rfl⟩) (by kernel_rfl) hq1486)) ?_
  refine Z_runs [.string x1454, .int .i64 r1458.1, .int .i64 (w64 (r1458.1 + 1))] [(51, .string q1486), (52, .string x1454), (54, .int .i64 (w64 (r1458.1 + 1)))] (fun w_ => by kernel_rfl) (by kernel_rfl) ?_
  obtain ⟨q1487, hq1487, hm⟩ := gx_bind hm
  refine Z_val (.string q1487) (by kernel_rfl) (fun w_ M_ => (E_strSub _ _ _ _ x1454 (w64 (r1458.1 + 1)) (x1454.size : Int) q1487 rfl (by kernel_rfl) (Or.inr ⟨_, rfl, by kernel_rfl⟩) (Or.inl ⟨rfl, rfl⟩) (by kernel_rfl) hq1487)) ?_
  obtain ⟨q1488, hq1488, hm⟩ := gx_bind hm
  refine Z_val (.string q1488) (by kernel_rfl) (fun w_ M_ => (E_strCat _ _ _ _ q1486 q1487 q1488 rfl (by kernel_rfl) (by kernel_rfl) hq1488)) ?_
  refine Z_runs [.string q1488] [(6, .string q1488)] (fun w_ => by kernel_rfl) (by kernel_rfl) ?_
  refine Z_end fun w1489 M1490 => ?_
  refine N_then ?_
  refine G_ret ?_
  obtain rfl := Option.some.inj hm
  refine N_ret [.string q1488] (RVs_cons (RV_tmp (by kernel_rfl)) RVs_nil) ?_
  exact ⟨rfl, M1490.pick [0] (by kernel_rfl)⟩
theorem c_s_DrawParseEvent (w : World) (x1399 : List Int) (p1401 : Option Addr) (c1402 : Nat) (h1403 : rdS Gx.encU8 w x1399 p1401 c1402) {r : ByteArray} (hm : M.s_DrawParseEvent x1399 = some r) :
    Calls Tryz.prog 10 #[.slice p1401 x1399.length c1402] w fun e w' => e = .returned (.string r) ∧ Mem [] w w' [] := by
  unfold M.s_DrawParseEvent at hm
  refine C_enter Tryz.func10 rfl (by kernel_rfl) ?_
  have M0 := Mem.refl [] w
  refine G_seq ?_
  refine G_region ?_
  refine W_run 1 [(0, .slice p1401 x1399.length c1402)] w (by kernel_rfl) ?_
  refine W_nil ?_
  refine N_then ?_
  refine G_seq ?_
  refine G_region ?_
  refine W_run 2 [(7, .agg #[.slice p1401 x1399.length c1402, .int .i64 0, .int .u64 0])] w (by kernel_rfl) ?_
  refine W_new (fun b => .pointer (some ⟨b, 0, none⟩)) (.cells ⟨[.slice p1401 x1399.length c1402, .int .i64 0, .int .u64 0]⟩ 57 (0, 0)) M0 rfl (by kernel_rfl) (by kernel_rfl) ?_
  intro b1406 w1407 M1408
  refine W_run 1 [(3, .pointer (some ⟨b1406, 0, none⟩))] w1407 (by kernel_rfl) ?_
  refine W_nil ?_
  refine N_then ?_
  refine G_seq ?_
  refine G_region ?_
  refine W_run 2 [(3, .pointer (some ⟨b1406, 0, none⟩)), (10, .pointer (some ⟨b1406, 0, none⟩)), (11, .pointer (some ⟨b1406, 0, none⟩))] w1407 (by kernel_rfl) ?_
  refine W_lit (E := Gx.encI) [0, 12, 100000] 3 [.int .i64 0, .int .i64 12, .int .i64 100000] 3 M1408 (by kernel_rfl) (by kernel_rfl) (by kernel_rfl) (by kernel_rfl) (by kernel_rfl) ?_
  intro p1409 c1410 sg1411 w1412 ho1413 M1414
  obtain ⟨r1416, hr1416, hm⟩ := gx_bind hm
  refine W_call 34 #[.pointer (some ⟨b1406, 0, none⟩), .slice p1409 [0, 12, 100000].length c1410] (by kernel_rfl) (by kernel_rfl) ?_
  refine (c_s_l1Cur_among w1412 (⟨x1399, 0, 0⟩ : l1Cur) p1401 c1402 (h1403.mem0 M1414) b1406 [0, 12, 100000] p1409 c1410 (ho1413.rd M1414 1 (by kernel_rfl)) (M1414.hasPick [0]) (M1414.nodupPick [0] (by kernel_rfl)) (apartX.old0 h1403 M1414 [0]) (apartX.own ho1413 M1414 1 (by kernel_rfl) [0] (by kernel_rfl)) hr1416).mono ?_
  rintro e_ w1417 ⟨rfl, K1418⟩
  have M1419 := M1414.callF' [0] [1] (by kernel_rfl) K1418
  refine ⟨_, rfl, ?_⟩
  obtain ⟨r1420, hr1420, hm⟩ := gx_bind hm
  refine W_call 33 #[.pointer (some ⟨b1406, 0, none⟩), .int .i64 r1416.1] (by kernel_rfl) (by kernel_rfl) ?_
  refine (c_s_l1Cur_event w1417 (⟨x1399, r1416.2.1, r1416.2.2⟩ : l1Cur) p1401 c1402 (h1403.mem0 M1419) b1406 r1416.1 (M1419.hasPick [1]) (M1419.nodupPick [1] (by kernel_rfl)) (apartX.old0 h1403 M1419 [1]) hr1420).mono ?_
  rintro e_ w1421 ⟨rfl, K1422⟩
  have M1423 := M1419.callF' [1] [0] (by kernel_rfl) K1422
  refine ⟨_, rfl, ?_⟩
  obtain ⟨r1424, hr1424, hm⟩ := gx_bind hm
  refine W_call 7 #[.agg #[.int .i64 r1420.1.Tick, .int .i64 r1420.1.Guest, .string r1420.1.Kind, .int .i64 r1420.1.Value]] (by kernel_rfl) (by kernel_rfl) ?_
  refine (c_s_EventText w1421 r1420.1 hr1424).mono ?_
  rintro e_ w1425 ⟨rfl, K1426⟩
  have M1427 := M1423.call0 K1426
  refine ⟨_, rfl, ?_⟩
  refine W_run 5 [(3, .pointer (some ⟨b1406, 0, none⟩)), (4, .string r1424.1)] w1425 (by kernel_rfl) ?_
  refine W_nil ?_
  refine N_then ?_
  refine G_seq ?_
  refine G_seq ?_
  refine G_region ?_
  refine W_run 1 [(3, .pointer (some ⟨b1406, 0, none⟩)), (4, .string r1424.1), (18, .pointer (some ⟨b1406, 0, none⟩))] w1425 (by kernel_rfl) ?_
  obtain ⟨r1441, hr1441, hm⟩ := gx_bind hm
  refine W_call 35 #[.pointer (some ⟨b1406, 0, none⟩), .int .i64 4] (by kernel_rfl) (by kernel_rfl) ?_
  refine (c_s_l1Cur_one w1425 (⟨x1399, r1420.2.1, r1420.2.2⟩ : l1Cur) p1401 c1402 (h1403.mem0 M1427) b1406 4 (M1427.hasPick [1]) (M1427.nodupPick [1] (by kernel_rfl)) (apartX.old0 h1403 M1427 [1]) hr1441).mono ?_
  rintro e_ w1442 ⟨rfl, K1443⟩
  have M1444 := M1427.callF' [1] [0] (by kernel_rfl) K1443
  refine ⟨_, rfl, ?_⟩
  refine W_nil ?_
  refine N_then ?_
  obtain ⟨o1495, ho1496, hm1497⟩ := gx_bind hm
  refine G_meet (fun a w' => Mem [] w w' [] ∧ Sat Tryz.f10.ntmps [(4, .string o1495.1)] a) ?_ ?_
  · have hm := ho1496
    rcases gx_bif hm with ⟨hc1498, hm⟩ | ⟨hc1498, hm⟩
    · refine G_cond_t (b := r1441.1) hc1498 (by kernel_rfl) ?_
      refine G_region ?_
      refine W_run 2 [(4, .string r1424.1), (20, .pointer (some ⟨b1406, 0, none⟩)), (21, .string r1424.1)] w1442 (by kernel_rfl) ?_
      obtain ⟨r1499, hr1499, hm⟩ := gx_bind hm
      refine W_call 36 #[.pointer (some ⟨b1406, 0, none⟩), .string r1424.1, .string (ByteArray.mk #[48, 32, 103, 109, 49, 116])] (by kernel_rfl) (by kernel_rfl) ?_
      refine (c_s_l1Cur_spoilt w1442 (⟨x1399, r1441.2.1, r1441.2.2⟩ : l1Cur) p1401 c1402 (h1403.mem0 M1444) b1406 r1424.1 (ByteArray.mk #[48, 32, 103, 109, 49, 116]) (M1444.hasPick [1]) (M1444.nodupPick [1] (by kernel_rfl)) (apartX.old0 h1403 M1444 [1]) hr1499).mono ?_
      rintro e_ w1500 ⟨rfl, K1501⟩
      have M1502 := M1444.callF' [1] [0] (by kernel_rfl) K1501
      refine ⟨_, rfl, ?_⟩
      refine W_run 1 [(4, .string r1499.1)] w1500 (by kernel_rfl) ?_
      refine W_nil ?_
      obtain rfl := Option.some.inj hm
      exact N_meet fun a ha => ⟨M1502.pick [] (by kernel_rfl), ha.sub (by kernel_rfl)⟩
    refine G_cond_f (b := r1441.1) hc1498 (by kernel_rfl) ?_
    refine G_skip ?_
    obtain rfl := Option.some.inj hm
    exact N_meet fun a ha => ⟨M1444.pick [] (by kernel_rfl), ha.sub (by kernel_rfl)⟩
  intro a1505 w1503 ⟨M1504, hS1506⟩
  refine N_use hS1506 ?_
  have hm := hm1497
  refine N_then ?_
  refine G_seq ?_
  refine G_region ?_
  refine W_run 2 [(2, .string o1495.1)] w1503 (by kernel_rfl) ?_
  refine W_nil ?_
  refine N_then ?_
  refine G_ret ?_
  obtain rfl := Option.some.inj hm
  refine N_ret [.string o1495.1] (RVs_cons (RV_tmp (by kernel_rfl)) RVs_nil) ?_
  exact ⟨rfl, M1504.pick [] (by kernel_rfl)⟩
theorem c_s_l1Split (w : World) (x1526 : ByteArray) (x1527 : Int) {r : (List ByteArray)} (hm : M.s_l1Split x1526 x1527 = some r) :
    Calls Tryz.prog 37 #[.string x1526, .int .u8 x1527] w fun e w' => ∃ (p1529 : Option Addr) (c1530 : Nat) (sg1531 : Seg), e = .returned (.slice p1529 r.length c1530) ∧ ownS Gx.encS r p1529 c1530 sg1531 ∧ Mem [] w w' [sg1531] := by
  unfold M.s_l1Split at hm
  refine C_enter Tryz.func37 rfl (by kernel_rfl) ?_
  have M0 := Mem.refl [] w
  refine G_seq ?_
  refine G_region ?_
  refine W_run 1 [(0, .string x1526), (1, .int .u8 x1527)] w (by kernel_rfl) ?_
  refine W_nil ?_
  refine N_then ?_
  refine G_seq ?_
  refine G_region ?_
  refine W_lit (E := Gx.encS) ([] : List ByteArray) 0 [] 9 M0 (by kernel_rfl) (by kernel_rfl) (by kernel_rfl) (by kernel_rfl) (by kernel_rfl) ?_
  intro p1533 c1534 sg1535 w1536 ho1537 M1538
  refine W_run 1 [(0, .string x1526), (1, .int .u8 x1527), (5, .slice p1533 ([] : List ByteArray).length c1534)] w1536 (by kernel_rfl) ?_
  refine W_nil ?_
  refine N_then ?_
  refine G_seq ?_
  refine G_region ?_
  refine W_run 1 [(0, .string x1526), (1, .int .u8 x1527), (5, .slice p1533 ([] : List ByteArray).length c1534), (6, .int .i64 0)] w1536 (by kernel_rfl) ?_
  refine W_nil ?_
  refine N_then ?_
  refine G_seq ?_
  refine G_seq ?_
  refine G_region ?_
  refine W_run 1 [(0, .string x1526), (1, .int .u8 x1527), (5, .slice p1533 ([] : List ByteArray).length c1534), (6, .int .i64 0), (7, .int .i64 0)] w1536 (by kernel_rfl) ?_
  refine W_nil ?_
  refine N_then ?_
  obtain ⟨out1648, hw1649, hmo1650⟩ := gx_bind hm
  refine G_meet (fun a w' => ∃ (p1657 : Option Addr), ∃ (c1658 : Nat), ∃ (sg1659 : Seg), ownS Gx.encS out1648.1 p1657 c1658 sg1659 ∧ Mem [] w w' [sg1659] ∧ Sat Tryz.f37.ntmps [(0, .string x1526), (5, .slice p1657 out1648.1.length c1658), (6, .int .i64 out1648.2)] a) ?_ ?_
  · refine G_block ?_
    refine G_while (σ := List ByteArray × Int × Int) (ρ := List ByteArray × Int) (fun s1641 a w' => ∃ (p1651 : Option Addr), ∃ (c1652 : Nat), ∃ (sg1653 : Seg), ownS Gx.encS s1641.1 p1651 c1652 sg1653 ∧ Mem [] w w' [sg1653] ∧ Sat Tryz.f37.ntmps [(0, .string x1526), (1, .int .u8 x1527), (5, .slice p1651 s1641.1.length c1652), (6, .int .i64 s1641.2.1), (7, .int .i64 s1641.2.2)] a) hw1649 (fun a ha => ⟨p1533, c1534, sg1535, ho1537, M1538.pick [0] (by kernel_rfl), ha.sub (by kernel_rfl)⟩) ?_
    clear hm
    intro s1641 x1642 hm hout1643 a1644 w1645 ⟨p1651, c1652, sg1653, ho1654, M1646, hS1647⟩
    refine G_use hS1647 ?_
    refine G_seq ?_
    refine G_seq ?_
    refine G_region ?_
    refine W_run 4 [(0, .string x1526), (1, .int .u8 x1527), (5, .slice p1651 s1641.1.length c1652), (6, .int .i64 s1641.2.1), (7, .int .i64 s1641.2.2), (12, .bool (decide (s1641.2.2 < (x1526.size : Int))))] w1645 (by kernel_rfl) ?_
    refine W_nil ?_
    refine N_then ?_
    rcases gx_bif hm with ⟨hc1662, hm⟩ | ⟨hc1662, hm⟩
    · refine G_cond_t (b := (decide (s1641.2.2 < (x1526.size : Int)))) hc1662 (by kernel_rfl) ?_
      refine G_skip ?_
      refine N_then ?_
      refine G_seq ?_
      refine G_block ?_
      refine G_seq ?_
      refine G_region ?_
      refine W_run 2 [(0, .string x1526), (1, .int .u8 x1527), (5, .slice p1651 s1641.1.length c1652), (6, .int .i64 s1641.2.1), (7, .int .i64 s1641.2.2), (15, .string x1526), (16, .int .i64 s1641.2.2)] w1645 (by kernel_rfl) ?_
      obtain ⟨q1663, hq1663, hm⟩ := gx_bind hm
      refine W_val (.int .u8 q1663) w1645 (by kernel_rfl) (E_strIdx _ _ _ x1526 .i64 s1641.2.2 q1663 rfl (by kernel_rfl) (by kernel_rfl) (by kernel_rfl) hq1663) ?_
      refine W_run 2 [(0, .string x1526), (1, .int .u8 x1527), (5, .slice p1651 s1641.1.length c1652), (6, .int .i64 s1641.2.1), (7, .int .i64 s1641.2.2), (19, .bool (q1663 == x1527))] w1645 (by kernel_rfl) ?_
      refine W_nil ?_
      refine N_then ?_
      obtain ⟨o1681, ho1682, hm1683⟩ := gx_bind hm
      refine G_meet (fun a w' => ∃ (p1684 : Option Addr), ∃ (c1685 : Nat), ∃ (sg1686 : Seg), ownS Gx.encS o1681.1 p1684 c1685 sg1686 ∧ Mem [] w w' [sg1686] ∧ Sat Tryz.f37.ntmps [(0, .string x1526), (1, .int .u8 x1527), (5, .slice p1684 o1681.1.length c1685), (6, .int .i64 o1681.2), (7, .int .i64 s1641.2.2)] a) ?_ ?_
      · have hm := ho1682
        rcases gx_bif hm with ⟨hc1689, hm⟩ | ⟨hc1689, hm⟩
        · refine G_cond_t (b := (q1663 == x1527)) hc1689 (by kernel_rfl) ?_
          refine G_seq ?_
          refine G_region ?_
          refine W_run 4 [(0, .string x1526), (1, .int .u8 x1527), (5, .slice p1651 s1641.1.length c1652), (7, .int .i64 s1641.2.2), (20, .slice p1651 s1641.1.length c1652), (21, .string x1526), (22, .int .i64 s1641.2.1), (23, .int .i64 s1641.2.2)] w1645 (by kernel_rfl) ?_
          obtain ⟨q1690, hq1690, hm⟩ := gx_bind hm
          refine W_val (.string q1690) w1645 (by kernel_rfl) (E_strSub _ _ _ _ x1526 s1641.2.1 s1641.2.2 q1690 rfl (by kernel_rfl) (Or.inr ⟨_, rfl, by kernel_rfl⟩) (Or.inr ⟨_, rfl, by kernel_rfl⟩) (by kernel_rfl) hq1690) ?_
          refine W_lit (E := Gx.encS) [q1690] 1 [.string q1690] 9 M1646 (by kernel_rfl) (by kernel_rfl) (by kernel_rfl) (by kernel_rfl) (by kernel_rfl) ?_
          intro p1691 c1692 sg1693 w1694 ho1695 M1696
          obtain ⟨ap1698, hap1698, hm⟩ := gx_bind hm
          refine W_append (E := Gx.encS) _ _ _ 16 [.string ByteArray.empty] 0 c1692 M1696 ho1654 (by kernel_rfl) (by kernel_rfl) (by kernel_rfl) rfl (by kernel_rfl) (by kernel_rfl) (by kernel_rfl) (by kernel_rfl) (by kernel_rfl) (by kernel_rfl) (ho1695.rd M1696 1 (by kernel_rfl)) hap1698 ?_
          intro p1699 c1700 sg1701 w1702 ho1703 M1704
          refine W_run 1 [(0, .string x1526), (1, .int .u8 x1527), (5, .slice p1699 ap1698.length c1700), (7, .int .i64 s1641.2.2)] w1702 (by kernel_rfl) ?_
          refine W_nil ?_
          refine N_then ?_
          refine G_region ?_
          refine W_run 3 [(0, .string x1526), (1, .int .u8 x1527), (5, .slice p1699 ap1698.length c1700), (6, .int .i64 (w64 (s1641.2.2 + 1))), (7, .int .i64 s1641.2.2)] w1702 (by kernel_rfl) ?_
          refine W_nil ?_
          obtain rfl := Option.some.inj hm
          exact N_meet fun a ha => ⟨p1699, c1700, sg1701, ho1703, M1704.pick [0] (by kernel_rfl), ha.sub (by kernel_rfl)⟩
        refine G_cond_f (b := (q1663 == x1527)) hc1689 (by kernel_rfl) ?_
        refine G_skip ?_
        obtain rfl := Option.some.inj hm
        exact N_meet fun a ha => ⟨p1651, c1652, sg1653, ho1654, M1646.pick [0] (by kernel_rfl), ha.sub (by kernel_rfl)⟩
      intro a1708 w1706 ⟨p1684, c1685, sg1686, ho1687, M1707, hS1709⟩
      refine N_use hS1709 ?_
      have hm := hm1683
      refine N_block ?_
      refine N_then ?_
      refine G_region ?_
      refine W_run 3 [(0, .string x1526), (1, .int .u8 x1527), (5, .slice p1684 o1681.1.length c1685), (6, .int .i64 o1681.2), (7, .int .i64 (w64 (s1641.2.2 + 1)))] w1706 (by kernel_rfl) ?_
      refine W_nil ?_
      obtain rfl := Option.some.inj hm
      exact N_loop fun a ha => ⟨_, rfl, p1684, c1685, sg1686, ho1687, M1707.pick [0] (by kernel_rfl), ha.sub (by kernel_rfl)⟩
    refine G_cond_f (b := (decide (s1641.2.2 < (x1526.size : Int)))) hc1662 (by kernel_rfl) ?_
    refine G_exit ?_
    refine N_then_exit ?_
    refine N_then_exit ?_
    refine N_block_eq ?_
    obtain rfl := Option.some.inj hm
    obtain rfl := hout1643 _ rfl
    exact N_meet fun a ha => ⟨p1651, c1652, sg1653, ho1654, M1646.pick [0] (by kernel_rfl), ha.sub (by kernel_rfl)⟩
  intro a1710 w1711 ⟨p1657, c1658, sg1659, ho1660, M1712, hS1713⟩
  refine N_use hS1713 ?_
  have hm := hmo1650
  refine N_then ?_
  refine G_seq ?_
  refine G_region ?_
  refine W_run 3 [(29, .slice p1657 out1648.1.length c1658), (30, .string x1526), (31, .int .i64 out1648.2)] w1711 (by kernel_rfl) ?_
  obtain ⟨q1714, hq1714, hm⟩ := gx_bind hm
  refine W_val (.string q1714) w1711 (by kernel_rfl) (E_strSub _ _ _ _ x1526 out1648.2 (x1526.size : Int) q1714 rfl (by kernel_rfl) (Or.inr ⟨_, rfl, by kernel_rfl⟩) (Or.inl ⟨rfl, rfl⟩) (by kernel_rfl) hq1714) ?_
  refine W_lit (E := Gx.encS) [q1714] 1 [.string q1714] 9 M1712 (by kernel_rfl) (by kernel_rfl) (by kernel_rfl) (by kernel_rfl) (by kernel_rfl) ?_
  intro p1715 c1716 sg1717 w1718 ho1719 M1720
  obtain ⟨ap1722, hap1722, hm⟩ := gx_bind hm
  refine W_append (E := Gx.encS) _ _ _ 16 [.string ByteArray.empty] 0 c1716 M1720 ho1660 (by kernel_rfl) (by kernel_rfl) (by kernel_rfl) rfl (by kernel_rfl) (by kernel_rfl) (by kernel_rfl) (by kernel_rfl) (by kernel_rfl) (by kernel_rfl) (ho1719.rd M1720 1 (by kernel_rfl)) hap1722 ?_
  intro p1723 c1724 sg1725 w1726 ho1727 M1728
  refine W_run 1 [(4, .slice p1723 ap1722.length c1724)] w1726 (by kernel_rfl) ?_
  refine W_nil ?_
  refine N_then ?_
  refine G_ret ?_
  obtain rfl := Option.some.inj hm
  refine N_ret [.slice p1723 ap1722.length c1724] (RVs_cons (RV_tmp (by kernel_rfl)) RVs_nil) ?_
  exact ⟨p1723, c1724, sg1725, rfl, ho1727, M1728.pick [0] (by kernel_rfl)⟩
theorem c_s_l1Read (w : World) (x1760 : ByteArray) {r : Int × Bool} (hm : M.s_l1Read x1760 = some r) :
    Calls Tryz.prog 38 #[.string x1760] w fun e w' => e = .returned (.tuple #[.int .i64 r.1, .bool r.2]) ∧ Mem [] w w' [] := by
  unfold M.s_l1Read at hm
  refine C_enter Tryz.func38 rfl (by kernel_rfl) ?_
  have M0 := Mem.refl [] w
  refine G_seq ?_
  refine G_region ?_
  refine W_run 2 [(0, .string x1760)] w (by kernel_rfl) ?_
  refine W_nil ?_
  refine N_then ?_
  refine G_seq ?_
  refine G_region ?_
  refine W_run 2 [(0, .string x1760), (4, .string x1760)] w (by kernel_rfl) ?_
  refine W_nil ?_
  refine N_then ?_
  refine G_seq ?_
  refine G_seq ?_
  obtain ⟨o1763, ho1764, hm1765⟩ := gx_bind hm
  refine G_meet (fun a w' => Mem [] w w' [] ∧ Sat Tryz.f38.ntmps [(0, .string x1760), (4, .string x1760), (15, .bool o1763)] a) ?_ ?_
  · have hm := ho1764
    refine G_region ?_
    refine W_run 4 [(0, .string x1760), (4, .string x1760), (11, .bool (decide ((x1760.size : Int) > 1)))] w (by kernel_rfl) ?_
    rcases gx_bif hm with ⟨hc1766, hm⟩ | ⟨hc1766, hm⟩
    · refine W_known 11 true (by kernel_rfl) hc1766 ?_
      refine W_run 1 [(0, .string x1760), (4, .string x1760), (11, .bool true), (12, .string x1760)] w (by kernel_rfl) ?_
      obtain ⟨q1767, hq1767, hm⟩ := gx_bind hm
      refine W_val (.int .u8 q1767) w (by kernel_rfl) (E_strIdx _ _ _ x1760 .i64 0 q1767 rfl (by kernel_rfl) (by kernel_rfl) (by kernel_rfl) hq1767) ?_
      refine W_run 2 [(0, .string x1760), (4, .string x1760), (15, .bool (q1767 == 45))] w (by kernel_rfl) ?_
      refine W_nil ?_
      obtain rfl := Option.some.inj hm
      exact N_meet fun a ha => ⟨M0.pick [] (by kernel_rfl), ha.sub (by kernel_rfl)⟩
    refine W_known 11 false (by kernel_rfl) hc1766 ?_
    refine W_run 4 [(0, .string x1760), (4, .string x1760), (15, .bool false)] w (by kernel_rfl) ?_
    refine W_nil ?_
    obtain rfl := Option.some.inj hm
    exact N_meet fun a ha => ⟨M0.pick [] (by kernel_rfl), ha.sub (by kernel_rfl)⟩
  intro a1770 w1768 ⟨M1769, hS1771⟩
  refine N_use hS1771 ?_
  have hm := hm1765
  refine N_then ?_
  obtain ⟨o1774, ho1775, hm1776⟩ := gx_bind hm
  refine G_meet (fun a w' => Mem [] w w' [] ∧ Sat Tryz.f38.ntmps [(0, .string x1760), (4, .string o1774)] a) ?_ ?_
  · have hm := ho1775
    rcases gx_bif hm with ⟨hc1777, hm⟩ | ⟨hc1777, hm⟩
    · refine G_cond_t (b := o1763) hc1777 (by kernel_rfl) ?_
      refine G_region ?_
      refine W_run 1 [(0, .string x1760), (4, .string x1760), (16, .string x1760)] w1768 (by kernel_rfl) ?_
      obtain ⟨q1778, hq1778, hm⟩ := gx_bind hm
      refine W_val (.string q1778) w1768 (by kernel_rfl) (E_strSub _ _ _ _ x1760 1 (x1760.size : Int) q1778 rfl (by kernel_rfl) (Or.inr ⟨_, rfl, by kernel_rfl⟩) (Or.inl ⟨rfl, rfl⟩) (by kernel_rfl) hq1778) ?_
      refine W_run 1 [(0, .string x1760), (4, .string q1778)] w1768 (by kernel_rfl) ?_
      refine W_nil ?_
      obtain rfl := Option.some.inj hm
      exact N_meet fun a ha => ⟨M1769.pick [] (by kernel_rfl), ha.sub (by kernel_rfl)⟩
    refine G_cond_f (b := o1763) hc1777 (by kernel_rfl) ?_
    refine G_skip ?_
    obtain rfl := Option.some.inj hm
    exact N_meet fun a ha => ⟨M1769.pick [] (by kernel_rfl), ha.sub (by kernel_rfl)⟩
  intro a1781 w1779 ⟨M1780, hS1782⟩
  refine N_use hS1782 ?_
  have hm := hm1776
  refine N_then ?_
  refine G_seq ?_
  refine G_seq ?_
  refine G_region ?_
  refine W_run 2 [(0, .string x1760), (4, .string o1774), (19, .int .i64 (o1774.size : Int))] w1779 (by kernel_rfl) ?_
  obtain ⟨r1783, hr1783, hm⟩ := gx_bind hm
  refine W_call 53 #[.int .i64 (o1774.size : Int), .int .i64 1, .int .i64 6] (by kernel_rfl) (by kernel_rfl) ?_
  refine (c_s_l1In w1779 (o1774.size : Int) 1 6 hr1783).mono ?_
  rintro e_ w1784 ⟨rfl, K1785⟩
  have M1786 := M1780.call0 K1785
  refine ⟨_, rfl, ?_⟩
  refine W_run 1 [(0, .string x1760), (4, .string o1774), (21, .bool (!r1783))] w1784 (by kernel_rfl) ?_
  refine W_nil ?_
  refine N_then ?_
  rcases gx_bif hm with ⟨hc1787, hm⟩ | ⟨hc1787, hm⟩
  · refine G_cond_t (b := (!r1783)) hc1787 (by kernel_rfl) ?_
    refine G_seq ?_
    refine G_region ?_
    refine W_run 2 [(2, .int .i64 0), (3, .bool false)] w1784 (by kernel_rfl) ?_
    refine W_nil ?_
    refine N_then ?_
    refine G_ret ?_
    refine N_then_ret ?_
    obtain rfl := Option.some.inj hm
    refine N_ret [.int .i64 0, .bool false] (RVs_cons (RV_tmp (by kernel_rfl)) (RVs_cons (RV_tmp (by kernel_rfl)) RVs_nil)) ?_
    exact ⟨rfl, M1786.pick [] (by kernel_rfl)⟩
  refine G_cond_f (b := (!r1783)) hc1787 (by kernel_rfl) ?_
  refine G_skip ?_
  refine N_then ?_
  refine G_seq ?_
  refine G_region ?_
  refine W_run 1 [(0, .string x1760), (4, .string o1774), (5, .int .i64 0)] w1784 (by kernel_rfl) ?_
  refine W_nil ?_
  refine N_then ?_
  refine G_seq ?_
  refine G_seq ?_
  refine G_region ?_
  refine W_run 1 [(0, .string x1760), (4, .string o1774), (5, .int .i64 0), (6, .int .i64 0)] w1784 (by kernel_rfl) ?_
  refine W_nil ?_
  refine N_then ?_
  obtain ⟨out1827, hw1828, hmo1829⟩ := gx_bind hm
  refine G_meet (fun a w' => ∃ (o1830 : Int), out1827 = .inl o1830 ∧ Mem [] w w' [] ∧ Sat Tryz.f38.ntmps [(0, .string x1760), (4, .string o1774), (5, .int .i64 o1830)] a) ?_ ?_
  · refine G_block ?_
    refine G_while (σ := Int × Int) (ρ := (Int) ⊕ (Int × Bool)) (fun s1820 a w' => Mem [] w w' [] ∧ Sat Tryz.f38.ntmps [(0, .string x1760), (4, .string o1774), (5, .int .i64 s1820.1), (6, .int .i64 s1820.2)] a) hw1828 (fun a ha => ⟨M1786.pick [] (by kernel_rfl), ha.sub (by kernel_rfl)⟩) ?_
    clear hm
    intro s1820 x1821 hm hout1822 a1823 w1824 ⟨M1825, hS1826⟩
    refine G_use hS1826 ?_
    refine G_seq ?_
    refine G_seq ?_
    refine G_region ?_
    refine W_run 4 [(0, .string x1760), (4, .string o1774), (5, .int .i64 s1820.1), (6, .int .i64 s1820.2), (25, .bool (decide (s1820.2 < (o1774.size : Int))))] w1824 (by kernel_rfl) ?_
    refine W_nil ?_
    refine N_then ?_
    rcases gx_bif hm with ⟨hc1831, hm⟩ | ⟨hc1831, hm⟩
    · refine G_cond_t (b := (decide (s1820.2 < (o1774.size : Int)))) hc1831 (by kernel_rfl) ?_
      refine G_skip ?_
      refine N_then ?_
      refine G_seq ?_
      refine G_block ?_
      refine G_seq ?_
      refine G_seq ?_
      obtain ⟨o1835, ho1836, hm1837⟩ := gx_bind hm
      refine G_meet (fun a w' => Mem [] w w' [] ∧ Sat Tryz.f38.ntmps [(0, .string x1760), (4, .string o1774), (5, .int .i64 s1820.1), (6, .int .i64 s1820.2), (37, .bool o1835)] a) ?_ ?_
      · have hm := ho1836
        refine G_region ?_
        refine W_run 2 [(0, .string x1760), (4, .string o1774), (5, .int .i64 s1820.1), (6, .int .i64 s1820.2), (28, .string o1774), (29, .int .i64 s1820.2)] w1824 (by kernel_rfl) ?_
        obtain ⟨q1838, hq1838, hm⟩ := gx_bind hm
        refine W_val (.int .u8 q1838) w1824 (by kernel_rfl) (E_strIdx _ _ _ o1774 .i64 s1820.2 q1838 rfl (by kernel_rfl) (by kernel_rfl) (by kernel_rfl) hq1838) ?_
        refine W_run 2 [(0, .string x1760), (4, .string o1774), (5, .int .i64 s1820.1), (6, .int .i64 s1820.2), (32, .bool (decide (q1838 < 48)))] w1824 (by kernel_rfl) ?_
        rcases gx_bif hm with ⟨hc1839, hm⟩ | ⟨hc1839, hm⟩
        · refine W_known 32 true (by kernel_rfl) hc1839 ?_
          refine W_run 5 [(0, .string x1760), (4, .string o1774), (5, .int .i64 s1820.1), (6, .int .i64 s1820.2), (37, .bool true)] w1824 (by kernel_rfl) ?_
          refine W_nil ?_
          obtain rfl := Option.some.inj hm
          exact N_meet fun a ha => ⟨M1825.pick [] (by kernel_rfl), ha.sub (by kernel_rfl)⟩
        refine W_known 32 false (by kernel_rfl) hc1839 ?_
        refine W_run 2 [(0, .string x1760), (4, .string o1774), (5, .int .i64 s1820.1), (6, .int .i64 s1820.2), (32, .bool false), (33, .string o1774), (34, .int .i64 s1820.2)] w1824 (by kernel_rfl) ?_
        obtain ⟨q1840, hq1840, hm⟩ := gx_bind hm
        refine W_val (.int .u8 q1840) w1824 (by kernel_rfl) (E_strIdx _ _ _ o1774 .i64 s1820.2 q1840 rfl (by kernel_rfl) (by kernel_rfl) (by kernel_rfl) hq1840) ?_
        refine W_run 2 [(0, .string x1760), (4, .string o1774), (5, .int .i64 s1820.1), (6, .int .i64 s1820.2), (37, .bool (decide (q1840 > 57)))] w1824 (by kernel_rfl) ?_
        refine W_nil ?_
        obtain rfl := Option.some.inj hm
        exact N_meet fun a ha => ⟨M1825.pick [] (by kernel_rfl), ha.sub (by kernel_rfl)⟩
      intro a1843 w1841 ⟨M1842, hS1844⟩
      refine N_use hS1844 ?_
      have hm := hm1837
      refine N_then ?_
      rcases gx_bif hm with ⟨hc1845, hm⟩ | ⟨hc1845, hm⟩
      · refine G_cond_t (b := o1835) hc1845 (by kernel_rfl) ?_
        refine G_seq ?_
        refine G_region ?_
        refine W_run 2 [(2, .int .i64 0), (3, .bool false)] w1841 (by kernel_rfl) ?_
        refine W_nil ?_
        refine N_then ?_
        refine G_ret ?_
        refine N_then_ret ?_
        refine N_block_ret ?_
        refine N_then_ret ?_
        refine N_then_ret ?_
        obtain rfl := Option.some.inj hm
        obtain rfl := hout1822 _ rfl
        have hm := hmo1829; simp only [Sum.elim_inr] at hm
        refine N_block_ret ?_
        refine N_meet_ret ?_
        refine N_then_ret ?_
        obtain rfl := Option.some.inj hm
        refine N_ret [.int .i64 0, .bool false] (RVs_cons (RV_tmp (by kernel_rfl)) (RVs_cons (RV_tmp (by kernel_rfl)) RVs_nil)) ?_
        exact ⟨rfl, M1842.pick [] (by kernel_rfl)⟩
      refine G_cond_f (b := o1835) hc1845 (by kernel_rfl) ?_
      refine G_skip ?_
      refine N_then ?_
      refine G_region ?_
      refine W_run 4 [(0, .string x1760), (4, .string o1774), (5, .int .i64 s1820.1), (6, .int .i64 s1820.2), (39, .int .i64 (w64 (10 * s1820.1))), (40, .string o1774), (41, .int .i64 s1820.2)] w1841 (by kernel_rfl) ?_
      obtain ⟨q1846, hq1846, hm⟩ := gx_bind hm
      refine W_val (.int .u8 q1846) w1841 (by kernel_rfl) (E_strIdx _ _ _ o1774 .i64 s1820.2 q1846 rfl (by kernel_rfl) (by kernel_rfl) (by kernel_rfl) hq1846) ?_
      refine W_run 4 [(0, .string x1760), (4, .string o1774), (5, .int .i64 (w64 ((w64 (10 * s1820.1)) + (w64 (IntKind.u8.wrap (q1846 - 48)))))), (6, .int .i64 s1820.2)] w1841 (by kernel_rfl) ?_
      refine W_nil ?_
      refine N_block ?_
      refine N_then ?_
      refine G_region ?_
      refine W_run 3 [(0, .string x1760), (4, .string o1774), (5, .int .i64 (w64 ((w64 (10 * s1820.1)) + (w64 (IntKind.u8.wrap (q1846 - 48)))))), (6, .int .i64 (w64 (s1820.2 + 1)))] w1841 (by kernel_rfl) ?_
      refine W_nil ?_
      obtain rfl := Option.some.inj hm
      exact N_loop fun a ha => ⟨_, rfl, M1842.pick [] (by kernel_rfl), ha.sub (by kernel_rfl)⟩
    refine G_cond_f (b := (decide (s1820.2 < (o1774.size : Int)))) hc1831 (by kernel_rfl) ?_
    refine G_exit ?_
    refine N_then_exit ?_
    refine N_then_exit ?_
    refine N_block_eq ?_
    obtain rfl := Option.some.inj hm
    obtain rfl := hout1822 _ rfl
    exact N_meet fun a ha => ⟨_, rfl, M1825.pick [] (by kernel_rfl), ha.sub (by kernel_rfl)⟩
  intro a1847 w1848 ⟨o1830, hout_, M1849, hS1850⟩
  refine N_use hS1850 ?_
  subst hout_
  have hm := hmo1829; simp only [Sum.elim_inl] at hm
  refine N_then ?_
  refine G_seq ?_
  refine G_seq ?_
  refine G_region ?_
  refine W_run 5 [(0, .string x1760), (5, .int .i64 o1830), (50, .bool (decide ((o1774.size : Int) < (x1760.size : Int))))] w1848 (by kernel_rfl) ?_
  refine W_nil ?_
  refine N_then ?_
  obtain ⟨o1852, ho1853, hm1854⟩ := gx_bind hm
  refine G_meet (fun a w' => Mem [] w w' [] ∧ Sat Tryz.f38.ntmps [(0, .string x1760), (5, .int .i64 o1852)] a) ?_ ?_
  · have hm := ho1853
    rcases gx_bif hm with ⟨hc1855, hm⟩ | ⟨hc1855, hm⟩
    · refine G_cond_t (b := (decide ((o1774.size : Int) < (x1760.size : Int)))) hc1855 (by kernel_rfl) ?_
      refine G_region ?_
      refine W_run 3 [(0, .string x1760), (5, .int .i64 (w64 (0 - o1830)))] w1848 (by kernel_rfl) ?_
      refine W_nil ?_
      obtain rfl := Option.some.inj hm
      exact N_meet fun a ha => ⟨M1849.pick [] (by kernel_rfl), ha.sub (by kernel_rfl)⟩
    refine G_cond_f (b := (decide ((o1774.size : Int) < (x1760.size : Int)))) hc1855 (by kernel_rfl) ?_
    refine G_skip ?_
    obtain rfl := Option.some.inj hm
    exact N_meet fun a ha => ⟨M1849.pick [] (by kernel_rfl), ha.sub (by kernel_rfl)⟩
  intro a1858 w1856 ⟨M1857, hS1859⟩
  refine N_use hS1859 ?_
  have hm := hm1854
  refine N_then ?_
  refine G_seq ?_
  refine G_seq ?_
  refine G_region ?_
  refine W_run 1 [(0, .string x1760), (5, .int .i64 o1852), (53, .int .i64 o1852)] w1856 (by kernel_rfl) ?_
  obtain ⟨r1860, hr1860, hm⟩ := gx_bind hm
  refine W_call 54 #[.int .i64 o1852] (by kernel_rfl) (by kernel_rfl) ?_
  refine (c_s_l1Num gxFuel w1856 o1852 hr1860).mono ?_
  rintro e_ w1861 ⟨rfl, K1862⟩
  have M1863 := M1857.call0 K1862
  refine ⟨_, rfl, ?_⟩
  refine W_run 2 [(5, .int .i64 o1852), (56, .bool (!(r1860.toList == x1760.toList)))] w1861 (by kernel_rfl) ?_
  refine W_nil ?_
  refine N_then ?_
  rcases gx_bif hm with ⟨hc1864, hm⟩ | ⟨hc1864, hm⟩
  · refine G_cond_t (b := (!(r1860.toList == x1760.toList))) hc1864 (by kernel_rfl) ?_
    refine G_seq ?_
    refine G_region ?_
    refine W_run 2 [(2, .int .i64 0), (3, .bool false)] w1861 (by kernel_rfl) ?_
    refine W_nil ?_
    refine N_then ?_
    refine G_ret ?_
    refine N_then_ret ?_
    obtain rfl := Option.some.inj hm
    refine N_ret [.int .i64 0, .bool false] (RVs_cons (RV_tmp (by kernel_rfl)) (RVs_cons (RV_tmp (by kernel_rfl)) RVs_nil)) ?_
    exact ⟨rfl, M1863.pick [] (by kernel_rfl)⟩
  refine G_cond_f (b := (!(r1860.toList == x1760.toList))) hc1864 (by kernel_rfl) ?_
  refine G_skip ?_
  refine N_then ?_
  refine G_seq ?_
  refine G_region ?_
  refine W_run 3 [(2, .int .i64 o1852), (3, .bool true)] w1861 (by kernel_rfl) ?_
  refine W_nil ?_
  refine N_then ?_
  refine G_ret ?_
  obtain rfl := Option.some.inj hm
  refine N_ret [.int .i64 o1852, .bool true] (RVs_cons (RV_tmp (by kernel_rfl)) (RVs_cons (RV_tmp (by kernel_rfl)) RVs_nil)) ?_
  exact ⟨rfl, M1863.pick [] (by kernel_rfl)⟩
theorem c_s_ParseEvent (w : World) (x1521 : ByteArray) {r : Event × Bool} (hm : M.s_ParseEvent x1521 = some r) :
    Calls Tryz.prog 11 #[.string x1521] w fun e w' => e = .returned (.tuple #[.agg #[.int .i64 r.1.Tick, .int .i64 r.1.Guest, .string r.1.Kind, .int .i64 r.1.Value], .bool r.2]) ∧ Mem [] w w' [] := by
  unfold M.s_ParseEvent at hm
  refine C_enter Tryz.func11 rfl (by kernel_rfl) ?_
  have M0 := Mem.refl [] w
  refine G_seq ?_
  refine G_region ?_
  refine W_new (fun b => .pointer (some ⟨b, 0, none⟩)) (.cells ⟨[.int .i64 0, .int .i64 0, .string ByteArray.empty, .int .i64 0]⟩ 25 (0, 0)) M0 rfl (by kernel_rfl) (by kernel_rfl) ?_
  intro b1523 w1524 M1525
  refine W_run 1 [(0, .string x1521), (2, .pointer (some ⟨b1523, 0, none⟩))] w1524 (by kernel_rfl) ?_
  refine W_nil ?_
  refine N_then ?_
  refine G_seq ?_
  refine G_region ?_
  refine W_run 1 [(0, .string x1521), (2, .pointer (some ⟨b1523, 0, none⟩)), (7, .string x1521)] w1524 (by kernel_rfl) ?_
  obtain ⟨r1730, hr1730, hm⟩ := gx_bind hm
  refine W_call 37 #[.string x1521, .int .u8 32] (by kernel_rfl) (by kernel_rfl) ?_
  refine (c_s_l1Split w1524 x1521 32 hr1730).mono ?_
  rintro e_ w1736 ⟨p1732, c1733, sg1734, rfl, ho1735, K1737⟩
  have M1738 := M1525.call K1737
  refine ⟨_, rfl, ?_⟩
  refine W_run 1 [(0, .string x1521), (2, .pointer (some ⟨b1523, 0, none⟩)), (4, .slice p1732 r1730.length c1733)] w1736 (by kernel_rfl) ?_
  refine W_nil ?_
  refine N_then ?_
  refine G_seq ?_
  refine G_seq ?_
  obtain ⟨o1741, ho1742, hm1743⟩ := gx_bind hm
  refine G_meet (fun a w' => Mem [] w w' [[(b1523, .cells ⟨[.int .i64 0, .int .i64 0, .string ByteArray.empty, .int .i64 0]⟩ 25 (0, 0))], sg1734] ∧ Sat Tryz.f11.ntmps [(0, .string x1521), (2, .pointer (some ⟨b1523, 0, none⟩)), (4, .slice p1732 r1730.length c1733), (21, .bool o1741)] a) ?_ ?_
  · have hm := ho1742
    refine G_region ?_
    refine W_run 4 [(0, .string x1521), (2, .pointer (some ⟨b1523, 0, none⟩)), (4, .slice p1732 r1730.length c1733), (12, .bool (decide ((x1521.size : Int) > 40)))] w1736 (by kernel_rfl) ?_
    rcases gx_bif hm with ⟨hc1744, hm⟩ | ⟨hc1744, hm⟩
    · refine W_known 12 true (by kernel_rfl) hc1744 ?_
      refine W_run 9 [(0, .string x1521), (2, .pointer (some ⟨b1523, 0, none⟩)), (4, .slice p1732 r1730.length c1733), (21, .bool true)] w1736 (by kernel_rfl) ?_
      refine W_nil ?_
      obtain rfl := Option.some.inj hm
      exact N_meet fun a ha => ⟨M1738.pick [0, 1] (by kernel_rfl), ha.sub (by kernel_rfl)⟩
    refine W_known 12 false (by kernel_rfl) hc1744 ?_
    refine W_run 5 [(0, .string x1521), (2, .pointer (some ⟨b1523, 0, none⟩)), (4, .slice p1732 r1730.length c1733), (17, .bool (decide ((r1730.length : Int) < 3)))] w1736 (by kernel_rfl) ?_
    rcases gx_bif hm with ⟨hc1745, hm⟩ | ⟨hc1745, hm⟩
    · refine W_known 17 true (by kernel_rfl) hc1745 ?_
      refine W_run 4 [(0, .string x1521), (2, .pointer (some ⟨b1523, 0, none⟩)), (4, .slice p1732 r1730.length c1733), (21, .bool true)] w1736 (by kernel_rfl) ?_
      refine W_nil ?_
      obtain rfl := Option.some.inj hm
      exact N_meet fun a ha => ⟨M1738.pick [0, 1] (by kernel_rfl), ha.sub (by kernel_rfl)⟩
    refine W_known 17 false (by kernel_rfl) hc1745 ?_
    refine W_run 4 [(0, .string x1521), (2, .pointer (some ⟨b1523, 0, none⟩)), (4, .slice p1732 r1730.length c1733), (21, .bool (decide ((r1730.length : Int) > 5)))] w1736 (by kernel_rfl) ?_
    refine W_nil ?_
    obtain rfl := Option.some.inj hm
    exact N_meet fun a ha => ⟨M1738.pick [0, 1] (by kernel_rfl), ha.sub (by kernel_rfl)⟩
  intro a1748 w1746 ⟨M1747, hS1749⟩
  refine N_use hS1749 ?_
  have hm := hm1743
  refine N_then ?_
  rcases gx_bif hm with ⟨hc1750, hm⟩ | ⟨hc1750, hm⟩
  · refine G_cond_t (b := o1741) hc1750 (by kernel_rfl) ?_
    refine G_seq ?_
    refine G_region ?_
    refine W_run 1 [(2, .pointer (some ⟨b1523, 0, none⟩)), (22, .agg #[.int .i64 0, .int .i64 0, .string ByteArray.empty, .int .i64 0])] w1746 (by kernel_rfl) ?_
    refine W_store _ _ _ true 4 b1523 0 [.int .i64 0, .int .i64 0, .string ByteArray.empty, .int .i64 0] 25 (.agg #[.int .i64 0, .int .i64 0, .string ByteArray.empty, .int .i64 0]) 0 [.int .i64 0, .int .i64 0, .string ByteArray.empty, .int .i64 0] M1747 (by kernel_rfl) rfl (by kernel_rfl) (by kernel_rfl) (by kernel_rfl) (by kernel_rfl) (by kernel_rfl) (by kernel_rfl) (by kernel_rfl) (by kernel_rfl) ?_
    intro w1751 M1752
    refine W_run 1 [(2, .pointer (some ⟨b1523, 0, none⟩)), (3, .bool false)] w1751 (by kernel_rfl) ?_
    refine W_nil ?_
    refine N_then ?_
    refine G_ret ?_
    refine N_then_ret ?_
    obtain rfl := Option.some.inj hm
    refine N_ret [.agg #[.int .i64 0, .int .i64 0, .string ByteArray.empty, .int .i64 0], .bool false] (RVs_cons (RV_cell (g := true) (k := 4) (b := b1523) (off := 0) (cs := [.int .i64 0, .int .i64 0, .string ByteArray.empty, .int .i64 0]) (e := 25) (fr := (0, 0)) (v := .agg #[.int .i64 0, .int .i64 0, .string ByteArray.empty, .int .i64 0]) (M1752.blk 0 (b := b1523) (o := .cells ⟨[.int .i64 0, .int .i64 0, .string ByteArray.empty, .int .i64 0]⟩ 25 (0, 0)) (by kernel_rfl)) (by kernel_rfl) (by kernel_rfl) (by kernel_rfl)) (RVs_cons (RV_tmp (by kernel_rfl)) RVs_nil)) ?_
    exact ⟨rfl, M1752.pick [] (by kernel_rfl)⟩
  refine G_cond_f (b := o1741) hc1750 (by kernel_rfl) ?_
  refine G_skip ?_
  refine N_then ?_
  refine G_seq ?_
  refine G_region ?_
  refine W_run 1 [(0, .string x1521), (2, .pointer (some ⟨b1523, 0, none⟩)), (4, .slice p1732 r1730.length c1733), (23, .agg #[.int .i64 0, .int .i64 0, .string ByteArray.empty, .int .i64 0])] w1746 (by kernel_rfl) ?_
  refine W_new (fun b => .pointer (some ⟨b, 0, none⟩)) (.cells ⟨[.int .i64 0, .int .i64 0, .string ByteArray.empty, .int .i64 0]⟩ 25 (0, 0)) M1747 rfl (by kernel_rfl) (by kernel_rfl) ?_
  intro b1754 w1755 M1756
  refine W_store _ _ _ true 4 b1754 0 [.int .i64 0, .int .i64 0, .string ByteArray.empty, .int .i64 0] 25 (.agg #[.int .i64 0, .int .i64 0, .string ByteArray.empty, .int .i64 0]) 2 [.int .i64 0, .int .i64 0, .string ByteArray.empty, .int .i64 0] M1756 (by kernel_rfl) rfl (by kernel_rfl) (by kernel_rfl) (by kernel_rfl) (by kernel_rfl) (by kernel_rfl) (by kernel_rfl) (by kernel_rfl) (by kernel_rfl) ?_
  intro w1757 M1758
  refine W_nil ?_
  refine N_then ?_
  refine G_seq ?_
  refine G_region ?_
  refine W_run 1 [(0, .string x1521), (2, .pointer (some ⟨b1523, 0, none⟩)), (4, .slice p1732 r1730.length c1733), (5, .pointer (some ⟨b1754, 0, none⟩)), (25, .slice p1732 r1730.length c1733)] w1757 (by kernel_rfl) ?_
  obtain ⟨y1759, hy1759, hm⟩ := gx_bind hm
  refine W_val (elemP p1732 ((0 : Int).toNat * 1)) w1757 (by kernel_rfl) (E_index (E := Gx.encS) _ _ _ r1730.length c1733 .i64 0 1 (y := y1759) rfl (by kernel_rfl) (by kernel_rfl) (by kernel_rfl) (ho1735.rd M1758 1 (by kernel_rfl)) rfl hy1759) ?_
  refine W_val (.string y1759) w1757 (by kernel_rfl) (E_loadE (E := Gx.encS) _ _ false 1 0 0 ((0 : Int).toNat * 1) y1759 (.string y1759) rfl (by kernel_rfl) (by kernel_rfl) (by kernel_rfl) (ho1735.rd M1758 1 (by kernel_rfl)) hy1759 rfl) ?_
  obtain ⟨r1865, hr1865, hm⟩ := gx_bind hm
  refine W_call 38 #[.string y1759] (by kernel_rfl) (by kernel_rfl) ?_
  refine (c_s_l1Read w1757 y1759 hr1865).mono ?_
  rintro e_ w1866 ⟨rfl, K1867⟩
  have M1868 := M1758.call0 K1867
  refine ⟨_, rfl, ?_⟩
  refine W_run 4 [(0, .string x1521), (2, .pointer (some ⟨b1523, 0, none⟩)), (4, .slice p1732 r1730.length c1733), (5, .pointer (some ⟨b1754, 0, none⟩)), (29, .int .i64 r1865.1), (31, .pointer (some ⟨b1754, 0, none⟩))] w1866 (by kernel_rfl) ?_
  refine W_store _ _ _ false 1 b1754 0 [.int .i64 0, .int .i64 0, .string ByteArray.empty, .int .i64 0] 25 (.int .i64 r1865.1) 2 [.int .i64 r1865.1, .int .i64 0, .string ByteArray.empty, .int .i64 0] M1868 (by kernel_rfl) rfl (by kernel_rfl) (by kernel_rfl) (by kernel_rfl) (by kernel_rfl) (by kernel_rfl) (by kernel_rfl) (by kernel_rfl) (by kernel_rfl) ?_
  intro w1869 M1870
  refine W_nil ?_
  refine N_then ?_
  refine G_seq ?_
  refine G_region ?_
  refine W_run 1 [(0, .string x1521), (2, .pointer (some ⟨b1523, 0, none⟩)), (4, .slice p1732 r1730.length c1733), (5, .pointer (some ⟨b1754, 0, none⟩)), (32, .slice p1732 r1730.length c1733)] w1869 (by kernel_rfl) ?_
  obtain ⟨ys1871, hys1871, hm⟩ := gx_bind hm
  refine W_val (.slice (subP p1732 (2 : Int).toNat c1733 1) ys1871.length (c1733 - (2 : Int).toNat)) w1869 (by kernel_rfl) (E_slice (E := Gx.encS) _ _ _ _ r1730.length 2 (r1730.length : Int) rfl (by kernel_rfl) (Or.inr ⟨_, rfl, by kernel_rfl⟩) (Or.inl ⟨rfl, rfl⟩) (by kernel_rfl) (ho1735.rd M1870 1 (by kernel_rfl)) rfl hys1871) ?_
  refine W_run 1 [(0, .string x1521), (2, .pointer (some ⟨b1523, 0, none⟩)), (4, .slice p1732 r1730.length c1733), (5, .pointer (some ⟨b1754, 0, none⟩)), (6, .slice (subP p1732 (2 : Int).toNat c1733 1) ys1871.length (c1733 - (2 : Int).toNat))] w1869 (by kernel_rfl) ?_
  refine W_nil ?_
  refine N_then ?_
  refine G_seq ?_
  refine G_seq ?_
  refine G_region ?_
  refine W_run 1 [(0, .string x1521), (2, .pointer (some ⟨b1523, 0, none⟩)), (4, .slice p1732 r1730.length c1733), (5, .pointer (some ⟨b1754, 0, none⟩)), (6, .slice (subP p1732 (2 : Int).toNat c1733 1) ys1871.length (c1733 - (2 : Int).toNat)), (34, .slice p1732 r1730.length c1733)] w1869 (by kernel_rfl) ?_
  obtain ⟨y1873, hy1873, hm⟩ := gx_bind hm
  refine W_val (elemP p1732 ((1 : Int).toNat * 1)) w1869 (by kernel_rfl) (E_index (E := Gx.encS) _ _ _ r1730.length c1733 .i64 1 1 (y := y1873) rfl (by kernel_rfl) (by kernel_rfl) (by kernel_rfl) (ho1735.rd M1870 1 (by kernel_rfl)) rfl hy1873) ?_
  refine W_val (.string y1873) w1869 (by kernel_rfl) (E_loadE (E := Gx.encS) _ _ false 1 1 0 ((1 : Int).toNat * 1) y1873 (.string y1873) rfl (by kernel_rfl) (by kernel_rfl) (by kernel_rfl) (ho1735.rd M1870 1 (by kernel_rfl)) hy1873 rfl) ?_
  refine W_run 1 [(0, .string x1521), (2, .pointer (some ⟨b1523, 0, none⟩)), (4, .slice p1732 r1730.length c1733), (5, .pointer (some ⟨b1754, 0, none⟩)), (6, .slice (subP p1732 (2 : Int).toNat c1733 1) ys1871.length (c1733 - (2 : Int).toNat)), (37, .bool (y1873.toList == (ByteArray.mk #[103, 117, 101, 115, 116]).toList))] w1869 (by kernel_rfl) ?_
  refine W_nil ?_
  refine N_then ?_
  obtain ⟨o1884, ho1885, hm1886⟩ := gx_bind hm
  refine G_meet (fun a w' => ∃ (p1887 : Option Addr), ∃ (c1888 : Nat), ∃ (sg1889 : Seg), ownS Gx.encS o1884.1 p1887 c1888 sg1889 ∧ Mem [] w w' [[(b1523, .cells ⟨[.int .i64 0, .int .i64 0, .string ByteArray.empty, .int .i64 0]⟩ 25 (0, 0))], [(b1754, .cells ⟨[.int .i64 r1865.1, .int .i64 o1884.2, .string ByteArray.empty, .int .i64 0]⟩ 25 (0, 0))], sg1889] ∧ Sat Tryz.f11.ntmps [(0, .string x1521), (2, .pointer (some ⟨b1523, 0, none⟩)), (5, .pointer (some ⟨b1754, 0, none⟩)), (6, .slice p1887 o1884.1.length c1888)] a) ?_ ?_
  · have hm := ho1885
    rcases gx_bif hm with ⟨hc1892, hm⟩ | ⟨hc1892, hm⟩
    · refine G_cond_t (b := (y1873.toList == (ByteArray.mk #[103, 117, 101, 115, 116]).toList)) hc1892 (by kernel_rfl) ?_
      refine G_seq ?_
      refine G_region ?_
      refine W_run 1 [(0, .string x1521), (2, .pointer (some ⟨b1523, 0, none⟩)), (4, .slice p1732 r1730.length c1733), (5, .pointer (some ⟨b1754, 0, none⟩)), (39, .slice p1732 r1730.length c1733)] w1869 (by kernel_rfl) ?_
      obtain ⟨y1893, hy1893, hm⟩ := gx_bind hm
      refine W_val (elemP p1732 ((2 : Int).toNat * 1)) w1869 (by kernel_rfl) (E_index (E := Gx.encS) _ _ _ r1730.length c1733 .i64 2 1 (y := y1893) rfl (by kernel_rfl) (by kernel_rfl) (by kernel_rfl) (ho1735.rd M1870 1 (by kernel_rfl)) rfl hy1893) ?_
      refine W_val (.string y1893) w1869 (by kernel_rfl) (E_loadE (E := Gx.encS) _ _ false 1 2 0 ((2 : Int).toNat * 1) y1893 (.string y1893) rfl (by kernel_rfl) (by kernel_rfl) (by kernel_rfl) (ho1735.rd M1870 1 (by kernel_rfl)) hy1893 rfl) ?_
      obtain ⟨r1894, hr1894, hm⟩ := gx_bind hm
      refine W_call 38 #[.string y1893] (by kernel_rfl) (by kernel_rfl) ?_
      refine (c_s_l1Read w1869 y1893 hr1894).mono ?_
      rintro e_ w1895 ⟨rfl, K1896⟩
      have M1897 := M1870.call0 K1896
      refine ⟨_, rfl, ?_⟩
      refine W_run 4 [(0, .string x1521), (2, .pointer (some ⟨b1523, 0, none⟩)), (4, .slice p1732 r1730.length c1733), (5, .pointer (some ⟨b1754, 0, none⟩)), (43, .int .i64 r1894.1), (45, .pointer (some ⟨b1754, 1, none⟩))] w1895 (by kernel_rfl) ?_
      refine W_store _ _ _ false 1 b1754 1 [.int .i64 r1865.1, .int .i64 0, .string ByteArray.empty, .int .i64 0] 25 (.int .i64 r1894.1) 2 [.int .i64 r1865.1, .int .i64 r1894.1, .string ByteArray.empty, .int .i64 0] M1897 (by kernel_rfl) rfl (by kernel_rfl) (by kernel_rfl) (by kernel_rfl) (by kernel_rfl) (by kernel_rfl) (by kernel_rfl) (by kernel_rfl) (by kernel_rfl) ?_
      intro w1898 M1899
      refine W_nil ?_
      refine N_then ?_
      refine G_region ?_
      refine W_run 1 [(0, .string x1521), (2, .pointer (some ⟨b1523, 0, none⟩)), (5, .pointer (some ⟨b1754, 0, none⟩)), (46, .slice p1732 r1730.length c1733)] w1898 (by kernel_rfl) ?_
      obtain ⟨ys1900, hys1900, hm⟩ := gx_bind hm
      refine W_val (.slice (subP p1732 (3 : Int).toNat c1733 1) ys1900.length (c1733 - (3 : Int).toNat)) w1898 (by kernel_rfl) (E_slice (E := Gx.encS) _ _ _ _ r1730.length 3 (r1730.length : Int) rfl (by kernel_rfl) (Or.inr ⟨_, rfl, by kernel_rfl⟩) (Or.inl ⟨rfl, rfl⟩) (by kernel_rfl) (ho1735.rd M1899 1 (by kernel_rfl)) rfl hys1900) ?_
      refine W_run 1 [(0, .string x1521), (2, .pointer (some ⟨b1523, 0, none⟩)), (5, .pointer (some ⟨b1754, 0, none⟩)), (6, .slice (subP p1732 (3 : Int).toNat c1733 1) ys1900.length (c1733 - (3 : Int).toNat))] w1898 (by kernel_rfl) ?_
      refine W_nil ?_
      obtain rfl := Option.some.inj hm
      exact N_meet fun a ha => ⟨(subP p1732 (3 : Int).toNat c1733 1), (c1733 - (3 : Int).toNat), sg1734, (ho1735.partM hys1900), M1899.pick [0, 2, 1] (by kernel_rfl), ha.sub (by kernel_rfl)⟩
    refine G_cond_f (b := (y1873.toList == (ByteArray.mk #[103, 117, 101, 115, 116]).toList)) hc1892 (by kernel_rfl) ?_
    refine G_skip ?_
    obtain rfl := Option.some.inj hm
    exact N_meet fun a ha => ⟨(subP p1732 (2 : Int).toNat c1733 1), (c1733 - (2 : Int).toNat), sg1734, (ho1735.partM hys1871), M1870.pick [0, 2, 1] (by kernel_rfl), ha.sub (by kernel_rfl)⟩
  intro a1904 w1902 ⟨p1887, c1888, sg1889, ho1890, M1903, hS1905⟩
  refine N_use hS1905 ?_
  have hm := hm1886
  refine N_then ?_
  refine G_seq ?_
  refine G_seq ?_
  obtain ⟨o1907, ho1908, hm1909⟩ := gx_bind hm
  refine G_meet (fun a w' => Mem [] w w' [[(b1523, .cells ⟨[.int .i64 0, .int .i64 0, .string ByteArray.empty, .int .i64 0]⟩ 25 (0, 0))], [(b1754, .cells ⟨[.int .i64 r1865.1, .int .i64 o1884.2, .string ByteArray.empty, .int .i64 0]⟩ 25 (0, 0))], sg1889] ∧ Sat Tryz.f11.ntmps [(0, .string x1521), (2, .pointer (some ⟨b1523, 0, none⟩)), (5, .pointer (some ⟨b1754, 0, none⟩)), (6, .slice p1887 o1884.1.length c1888), (55, .bool o1907)] a) ?_ ?_
  · have hm := ho1908
    refine G_region ?_
    refine W_run 4 [(0, .string x1521), (2, .pointer (some ⟨b1523, 0, none⟩)), (5, .pointer (some ⟨b1754, 0, none⟩)), (6, .slice p1887 o1884.1.length c1888), (51, .bool ((o1884.1.length : Int) == 0))] w1902 (by kernel_rfl) ?_
    rcases gx_bif hm with ⟨hc1910, hm⟩ | ⟨hc1910, hm⟩
    · refine W_known 51 true (by kernel_rfl) hc1910 ?_
      refine W_run 4 [(0, .string x1521), (2, .pointer (some ⟨b1523, 0, none⟩)), (5, .pointer (some ⟨b1754, 0, none⟩)), (6, .slice p1887 o1884.1.length c1888), (55, .bool true)] w1902 (by kernel_rfl) ?_
      refine W_nil ?_
      obtain rfl := Option.some.inj hm
      exact N_meet fun a ha => ⟨M1903.pick [0, 1, 2] (by kernel_rfl), ha.sub (by kernel_rfl)⟩
    refine W_known 51 false (by kernel_rfl) hc1910 ?_
    refine W_run 4 [(0, .string x1521), (2, .pointer (some ⟨b1523, 0, none⟩)), (5, .pointer (some ⟨b1754, 0, none⟩)), (6, .slice p1887 o1884.1.length c1888), (55, .bool (decide ((o1884.1.length : Int) > 2)))] w1902 (by kernel_rfl) ?_
    refine W_nil ?_
    obtain rfl := Option.some.inj hm
    exact N_meet fun a ha => ⟨M1903.pick [0, 1, 2] (by kernel_rfl), ha.sub (by kernel_rfl)⟩
  intro a1913 w1911 ⟨M1912, hS1914⟩
  refine N_use hS1914 ?_
  have hm := hm1909
  refine N_then ?_
  rcases gx_bif hm with ⟨hc1915, hm⟩ | ⟨hc1915, hm⟩
  · refine G_cond_t (b := o1907) hc1915 (by kernel_rfl) ?_
    refine G_seq ?_
    refine G_region ?_
    refine W_run 1 [(2, .pointer (some ⟨b1523, 0, none⟩)), (56, .agg #[.int .i64 0, .int .i64 0, .string ByteArray.empty, .int .i64 0])] w1911 (by kernel_rfl) ?_
    refine W_store _ _ _ true 4 b1523 0 [.int .i64 0, .int .i64 0, .string ByteArray.empty, .int .i64 0] 25 (.agg #[.int .i64 0, .int .i64 0, .string ByteArray.empty, .int .i64 0]) 0 [.int .i64 0, .int .i64 0, .string ByteArray.empty, .int .i64 0] M1912 (by kernel_rfl) rfl (by kernel_rfl) (by kernel_rfl) (by kernel_rfl) (by kernel_rfl) (by kernel_rfl) (by kernel_rfl) (by kernel_rfl) (by kernel_rfl) ?_
    intro w1916 M1917
    refine W_run 1 [(2, .pointer (some ⟨b1523, 0, none⟩)), (3, .bool false)] w1916 (by kernel_rfl) ?_
    refine W_nil ?_
    refine N_then ?_
    refine G_ret ?_
    refine N_then_ret ?_
    obtain rfl := Option.some.inj hm
    refine N_ret [.agg #[.int .i64 0, .int .i64 0, .string ByteArray.empty, .int .i64 0], .bool false] (RVs_cons (RV_cell (g := true) (k := 4) (b := b1523) (off := 0) (cs := [.int .i64 0, .int .i64 0, .string ByteArray.empty, .int .i64 0]) (e := 25) (fr := (0, 0)) (v := .agg #[.int .i64 0, .int .i64 0, .string ByteArray.empty, .int .i64 0]) (M1917.blk 0 (b := b1523) (o := .cells ⟨[.int .i64 0, .int .i64 0, .string ByteArray.empty, .int .i64 0]⟩ 25 (0, 0)) (by kernel_rfl)) (by kernel_rfl) (by kernel_rfl) (by kernel_rfl)) (RVs_cons (RV_tmp (by kernel_rfl)) RVs_nil)) ?_
    exact ⟨rfl, M1917.pick [] (by kernel_rfl)⟩
  refine G_cond_f (b := o1907) hc1915 (by kernel_rfl) ?_
  refine G_skip ?_
  refine N_then ?_
  refine G_seq ?_
  refine G_region ?_
  refine W_run 1 [(0, .string x1521), (2, .pointer (some ⟨b1523, 0, none⟩)), (5, .pointer (some ⟨b1754, 0, none⟩)), (6, .slice p1887 o1884.1.length c1888), (57, .slice p1887 o1884.1.length c1888)] w1911 (by kernel_rfl) ?_
  obtain ⟨y1918, hy1918, hm⟩ := gx_bind hm
  refine W_val (elemP p1887 ((0 : Int).toNat * 1)) w1911 (by kernel_rfl) (E_index (E := Gx.encS) _ _ _ o1884.1.length c1888 .i64 0 1 (y := y1918) rfl (by kernel_rfl) (by kernel_rfl) (by kernel_rfl) (ho1890.rd M1912 2 (by kernel_rfl)) rfl hy1918) ?_
  refine W_val (.string y1918) w1911 (by kernel_rfl) (E_loadE (E := Gx.encS) _ _ false 1 0 0 ((0 : Int).toNat * 1) y1918 (.string y1918) rfl (by kernel_rfl) (by kernel_rfl) (by kernel_rfl) (ho1890.rd M1912 2 (by kernel_rfl)) hy1918 rfl) ?_
  refine W_run 1 [(0, .string x1521), (2, .pointer (some ⟨b1523, 0, none⟩)), (5, .pointer (some ⟨b1754, 0, none⟩)), (6, .slice p1887 o1884.1.length c1888), (59, .string y1918), (60, .pointer (some ⟨b1754, 2, none⟩))] w1911 (by kernel_rfl) ?_
  refine W_store _ _ _ false 1 b1754 2 [.int .i64 r1865.1, .int .i64 o1884.2, .string ByteArray.empty, .int .i64 0] 25 (.string y1918) 1 [.int .i64 r1865.1, .int .i64 o1884.2, .string y1918, .int .i64 0] M1912 (by kernel_rfl) rfl (by kernel_rfl) (by kernel_rfl) (by kernel_rfl) (by kernel_rfl) (by kernel_rfl) (by kernel_rfl) (by kernel_rfl) (by kernel_rfl) ?_
  intro w1919 M1920
  refine W_nil ?_
  refine N_then ?_
  refine G_seq ?_
  refine G_seq ?_
  refine G_region ?_
  refine W_run 3 [(0, .string x1521), (2, .pointer (some ⟨b1523, 0, none⟩)), (5, .pointer (some ⟨b1754, 0, none⟩)), (6, .slice p1887 o1884.1.length c1888), (63, .bool ((o1884.1.length : Int) == 2))] w1919 (by kernel_rfl) ?_
  refine W_nil ?_
  refine N_then ?_
  obtain ⟨o1929, ho1930, hm1931⟩ := gx_bind hm
  refine G_meet (fun a w' => Mem [] w w' [[(b1523, .cells ⟨[.int .i64 0, .int .i64 0, .string ByteArray.empty, .int .i64 0]⟩ 25 (0, 0))], [(b1754, .cells ⟨[.int .i64 r1865.1, .int .i64 o1884.2, .string y1918, .int .i64 o1929]⟩ 25 (0, 0))]] ∧ Sat Tryz.f11.ntmps [(0, .string x1521), (2, .pointer (some ⟨b1523, 0, none⟩)), (5, .pointer (some ⟨b1754, 0, none⟩))] a) ?_ ?_
  · have hm := ho1930
    rcases gx_bif hm with ⟨hc1932, hm⟩ | ⟨hc1932, hm⟩
    · refine G_cond_t (b := ((o1884.1.length : Int) == 2)) hc1932 (by kernel_rfl) ?_
      refine G_region ?_
      refine W_run 1 [(0, .string x1521), (2, .pointer (some ⟨b1523, 0, none⟩)), (5, .pointer (some ⟨b1754, 0, none⟩)), (65, .slice p1887 o1884.1.length c1888)] w1919 (by kernel_rfl) ?_
      obtain ⟨y1933, hy1933, hm⟩ := gx_bind hm
      refine W_val (elemP p1887 ((1 : Int).toNat * 1)) w1919 (by kernel_rfl) (E_index (E := Gx.encS) _ _ _ o1884.1.length c1888 .i64 1 1 (y := y1933) rfl (by kernel_rfl) (by kernel_rfl) (by kernel_rfl) (ho1890.rd M1920 2 (by kernel_rfl)) rfl hy1933) ?_
      refine W_val (.string y1933) w1919 (by kernel_rfl) (E_loadE (E := Gx.encS) _ _ false 1 1 0 ((1 : Int).toNat * 1) y1933 (.string y1933) rfl (by kernel_rfl) (by kernel_rfl) (by kernel_rfl) (ho1890.rd M1920 2 (by kernel_rfl)) hy1933 rfl) ?_
      obtain ⟨r1934, hr1934, hm⟩ := gx_bind hm
      refine W_call 38 #[.string y1933] (by kernel_rfl) (by kernel_rfl) ?_
      refine (c_s_l1Read w1919 y1933 hr1934).mono ?_
      rintro e_ w1935 ⟨rfl, K1936⟩
      have M1937 := M1920.call0 K1936
      refine ⟨_, rfl, ?_⟩
      refine W_run 4 [(0, .string x1521), (2, .pointer (some ⟨b1523, 0, none⟩)), (5, .pointer (some ⟨b1754, 0, none⟩)), (69, .int .i64 r1934.1), (71, .pointer (some ⟨b1754, 3, none⟩))] w1935 (by kernel_rfl) ?_
      refine W_store _ _ _ false 1 b1754 3 [.int .i64 r1865.1, .int .i64 o1884.2, .string y1918, .int .i64 0] 25 (.int .i64 r1934.1) 1 [.int .i64 r1865.1, .int .i64 o1884.2, .string y1918, .int .i64 r1934.1] M1937 (by kernel_rfl) rfl (by kernel_rfl) (by kernel_rfl) (by kernel_rfl) (by kernel_rfl) (by kernel_rfl) (by kernel_rfl) (by kernel_rfl) (by kernel_rfl) ?_
      intro w1938 M1939
      refine W_nil ?_
      obtain rfl := Option.some.inj hm
      exact N_meet fun a ha => ⟨M1939.pick [0, 1] (by kernel_rfl), ha.sub (by kernel_rfl)⟩
    refine G_cond_f (b := ((o1884.1.length : Int) == 2)) hc1932 (by kernel_rfl) ?_
    refine G_skip ?_
    obtain rfl := Option.some.inj hm
    exact N_meet fun a ha => ⟨M1920.pick [0, 1] (by kernel_rfl), ha.sub (by kernel_rfl)⟩
  intro a1942 w1940 ⟨M1941, hS1943⟩
  refine N_use hS1943 ?_
  have hm := hm1931
  refine N_then ?_
  refine G_seq ?_
  refine G_seq ?_
  obtain ⟨o1953, ho1954, hm1955⟩ := gx_bind hm
  refine G_meet (fun a w' => Mem [] w w' [[(b1523, .cells ⟨[.int .i64 0, .int .i64 0, .string ByteArray.empty, .int .i64 0]⟩ 25 (0, 0))], [(b1754, .cells ⟨[.int .i64 r1865.1, .int .i64 o1884.2, .string y1918, .int .i64 o1929]⟩ 25 (0, 0))]] ∧ Sat Tryz.f11.ntmps [(2, .pointer (some ⟨b1523, 0, none⟩)), (5, .pointer (some ⟨b1754, 0, none⟩)), (80, .bool o1953)] a) ?_ ?_
  · have hm := ho1954
    refine G_region ?_
    refine W_val (.agg #[.int .i64 r1865.1, .int .i64 o1884.2, .string y1918, .int .i64 o1929]) w1940 (by kernel_rfl) (E_load (e := 25) (fr := (0, 0)) _ _ true 4 b1754 0 [.int .i64 r1865.1, .int .i64 o1884.2, .string y1918, .int .i64 o1929] (.agg #[.int .i64 r1865.1, .int .i64 o1884.2, .string y1918, .int .i64 o1929]) rfl (by kernel_rfl) (by kernel_rfl) (by kernel_rfl) (M1941.blk 1 (b := b1754) (o := .cells ⟨[.int .i64 r1865.1, .int .i64 o1884.2, .string y1918, .int .i64 o1929]⟩ 25 (0, 0)) (by kernel_rfl))) ?_
    obtain ⟨r1956, hr1956, hm⟩ := gx_bind hm
    refine W_call 24 #[.agg #[.int .i64 r1865.1, .int .i64 o1884.2, .string y1918, .int .i64 o1929]] (by kernel_rfl) (by kernel_rfl) ?_
    refine (c_s_l22One w1940 (⟨r1865.1, o1884.2, y1918, o1929⟩ : Event) hr1956).mono ?_
    rintro e_ w1957 ⟨rfl, K1958⟩
    have M1959 := M1941.call0 K1958
    refine ⟨_, rfl, ?_⟩
    refine W_run 2 [(0, .string x1521), (2, .pointer (some ⟨b1523, 0, none⟩)), (5, .pointer (some ⟨b1754, 0, none⟩)), (75, .bool (!r1956))] w1957 (by kernel_rfl) ?_
    rcases gx_bif hm with ⟨hc1960, hm⟩ | ⟨hc1960, hm⟩
    · refine W_known 75 true (by kernel_rfl) hc1960 ?_
      refine W_run 5 [(2, .pointer (some ⟨b1523, 0, none⟩)), (5, .pointer (some ⟨b1754, 0, none⟩)), (80, .bool true)] w1957 (by kernel_rfl) ?_
      refine W_nil ?_
      obtain rfl := Option.some.inj hm
      exact N_meet fun a ha => ⟨M1959.pick [0, 1] (by kernel_rfl), ha.sub (by kernel_rfl)⟩
    refine W_known 75 false (by kernel_rfl) hc1960 ?_
    refine W_val (.agg #[.int .i64 r1865.1, .int .i64 o1884.2, .string y1918, .int .i64 o1929]) w1957 (by kernel_rfl) (E_load (e := 25) (fr := (0, 0)) _ _ true 4 b1754 0 [.int .i64 r1865.1, .int .i64 o1884.2, .string y1918, .int .i64 o1929] (.agg #[.int .i64 r1865.1, .int .i64 o1884.2, .string y1918, .int .i64 o1929]) rfl (by kernel_rfl) (by kernel_rfl) (by kernel_rfl) (M1959.blk 1 (b := b1754) (o := .cells ⟨[.int .i64 r1865.1, .int .i64 o1884.2, .string y1918, .int .i64 o1929]⟩ 25 (0, 0)) (by kernel_rfl))) ?_
    obtain ⟨r1961, hr1961, hm⟩ := gx_bind hm
    refine W_call 25 #[.agg #[.int .i64 r1865.1, .int .i64 o1884.2, .string y1918, .int .i64 o1929]] (by kernel_rfl) (by kernel_rfl) ?_
    refine (c_s_l22Text w1957 (⟨r1865.1, o1884.2, y1918, o1929⟩ : Event) hr1961).mono ?_
    rintro e_ w1962 ⟨rfl, K1963⟩
    have M1964 := M1959.call0 K1963
    refine ⟨_, rfl, ?_⟩
    refine W_run 3 [(2, .pointer (some ⟨b1523, 0, none⟩)), (5, .pointer (some ⟨b1754, 0, none⟩)), (80, .bool (!(r1961.toList == x1521.toList)))] w1962 (by kernel_rfl) ?_
    refine W_nil ?_
    obtain rfl := Option.some.inj hm
    exact N_meet fun a ha => ⟨M1964.pick [0, 1] (by kernel_rfl), ha.sub (by kernel_rfl)⟩
  intro a1967 w1965 ⟨M1966, hS1968⟩
  refine N_use hS1968 ?_
  have hm := hm1955
  refine N_then ?_
  rcases gx_bif hm with ⟨hc1969, hm⟩ | ⟨hc1969, hm⟩
  · refine G_cond_t (b := o1953) hc1969 (by kernel_rfl) ?_
    refine G_seq ?_
    refine G_region ?_
    refine W_run 1 [(2, .pointer (some ⟨b1523, 0, none⟩)), (81, .agg #[.int .i64 0, .int .i64 0, .string ByteArray.empty, .int .i64 0])] w1965 (by kernel_rfl) ?_
    refine W_store _ _ _ true 4 b1523 0 [.int .i64 0, .int .i64 0, .string ByteArray.empty, .int .i64 0] 25 (.agg #[.int .i64 0, .int .i64 0, .string ByteArray.empty, .int .i64 0]) 0 [.int .i64 0, .int .i64 0, .string ByteArray.empty, .int .i64 0] M1966 (by kernel_rfl) rfl (by kernel_rfl) (by kernel_rfl) (by kernel_rfl) (by kernel_rfl) (by kernel_rfl) (by kernel_rfl) (by kernel_rfl) (by kernel_rfl) ?_
    intro w1970 M1971
    refine W_run 1 [(2, .pointer (some ⟨b1523, 0, none⟩)), (3, .bool false)] w1970 (by kernel_rfl) ?_
    refine W_nil ?_
    refine N_then ?_
    refine G_ret ?_
    refine N_then_ret ?_
    obtain rfl := Option.some.inj hm
    refine N_ret [.agg #[.int .i64 0, .int .i64 0, .string ByteArray.empty, .int .i64 0], .bool false] (RVs_cons (RV_cell (g := true) (k := 4) (b := b1523) (off := 0) (cs := [.int .i64 0, .int .i64 0, .string ByteArray.empty, .int .i64 0]) (e := 25) (fr := (0, 0)) (v := .agg #[.int .i64 0, .int .i64 0, .string ByteArray.empty, .int .i64 0]) (M1971.blk 0 (b := b1523) (o := .cells ⟨[.int .i64 0, .int .i64 0, .string ByteArray.empty, .int .i64 0]⟩ 25 (0, 0)) (by kernel_rfl)) (by kernel_rfl) (by kernel_rfl) (by kernel_rfl)) (RVs_cons (RV_tmp (by kernel_rfl)) RVs_nil)) ?_
    exact ⟨rfl, M1971.pick [] (by kernel_rfl)⟩
  refine G_cond_f (b := o1953) hc1969 (by kernel_rfl) ?_
  refine G_skip ?_
  refine N_then ?_
  refine G_seq ?_
  refine G_region ?_
  refine W_val (.agg #[.int .i64 r1865.1, .int .i64 o1884.2, .string y1918, .int .i64 o1929]) w1965 (by kernel_rfl) (E_load (e := 25) (fr := (0, 0)) _ _ true 4 b1754 0 [.int .i64 r1865.1, .int .i64 o1884.2, .string y1918, .int .i64 o1929] (.agg #[.int .i64 r1865.1, .int .i64 o1884.2, .string y1918, .int .i64 o1929]) rfl (by kernel_rfl) (by kernel_rfl) (by kernel_rfl) (M1966.blk 1 (b := b1754) (o := .cells ⟨[.int .i64 r1865.1, .int .i64 o1884.2, .string y1918, .int .i64 o1929]⟩ 25 (0, 0)) (by kernel_rfl))) ?_
  refine W_store _ _ _ true 4 b1523 0 [.int .i64 0, .int .i64 0, .string ByteArray.empty, .int .i64 0] 25 (.agg #[.int .i64 r1865.1, .int .i64 o1884.2, .string y1918, .int .i64 o1929]) 0 [.int .i64 r1865.1, .int .i64 o1884.2, .string y1918, .int .i64 o1929] M1966 (by kernel_rfl) rfl (by kernel_rfl) (by kernel_rfl) (by kernel_rfl) (by kernel_rfl) (by kernel_rfl) (by kernel_rfl) (by kernel_rfl) (by kernel_rfl) ?_
  intro w1972 M1973
  refine W_run 1 [(2, .pointer (some ⟨b1523, 0, none⟩)), (3, .bool true)] w1972 (by kernel_rfl) ?_
  refine W_nil ?_
  refine N_then ?_
  refine G_ret ?_
  obtain rfl := Option.some.inj hm
  refine N_ret [.agg #[.int .i64 r1865.1, .int .i64 o1884.2, .string y1918, .int .i64 o1929], .bool true] (RVs_cons (RV_cell (g := true) (k := 4) (b := b1523) (off := 0) (cs := [.int .i64 r1865.1, .int .i64 o1884.2, .string y1918, .int .i64 o1929]) (e := 25) (fr := (0, 0)) (v := .agg #[.int .i64 r1865.1, .int .i64 o1884.2, .string y1918, .int .i64 o1929]) (M1973.blk 0 (b := b1523) (o := .cells ⟨[.int .i64 r1865.1, .int .i64 o1884.2, .string y1918, .int .i64 o1929]⟩ 25 (0, 0)) (by kernel_rfl)) (by kernel_rfl) (by kernel_rfl) (by kernel_rfl)) (RVs_cons (RV_tmp (by kernel_rfl)) RVs_nil)) ?_
  exact ⟨rfl, M1973.pick [] (by kernel_rfl)⟩
theorem c_s_l1Least (w : World) (x2075 : Int) (x2076 : Int) {r : Int} (hm : M.s_l1Least x2075 x2076 = some r) :
    Calls Tryz.prog 67 #[.int .i64 x2075, .int .i64 x2076] w fun e w' => e = .returned (.int .i64 r) ∧ Mem [] w w' [] := by
  unfold M.s_l1Least at hm
  refine C_enter Tryz.func67 rfl (by kernel_rfl) ?_
  have M0 := Mem.refl [] w
  refine G_seq ?_
  refine G_region ?_
  refine W_run 1 [(0, .int .i64 x2075), (1, .int .i64 x2076)] w (by kernel_rfl) ?_
  refine W_nil ?_
  refine N_then ?_
  refine G_seq ?_
  refine G_seq ?_
  refine G_region ?_
  refine W_run 3 [(0, .int .i64 x2075), (1, .int .i64 x2076), (7, .bool (decide (x2075 < x2076)))] w (by kernel_rfl) ?_
  refine W_nil ?_
  refine N_then ?_
  rcases gx_bif hm with ⟨hc2077, hm⟩ | ⟨hc2077, hm⟩
  · refine G_cond_t (b := (decide (x2075 < x2076))) hc2077 (by kernel_rfl) ?_
    refine G_seq ?_
    refine G_region ?_
    refine W_run 2 [(4, .int .i64 x2075)] w (by kernel_rfl) ?_
    refine W_nil ?_
    refine N_then ?_
    refine G_ret ?_
    refine N_then_ret ?_
    obtain rfl := Option.some.inj hm
    refine N_ret [.int .i64 x2075] (RVs_cons (RV_tmp (by kernel_rfl)) RVs_nil) ?_
    exact ⟨rfl, M0.pick [] (by kernel_rfl)⟩
  refine G_cond_f (b := (decide (x2075 < x2076))) hc2077 (by kernel_rfl) ?_
  refine G_skip ?_
  refine N_then ?_
  refine G_seq ?_
  refine G_region ?_
  refine W_run 2 [(4, .int .i64 x2076)] w (by kernel_rfl) ?_
  refine W_nil ?_
  refine N_then ?_
  refine G_ret ?_
  obtain rfl := Option.some.inj hm
  refine N_ret [.int .i64 x2076] (RVs_cons (RV_tmp (by kernel_rfl)) RVs_nil) ?_
  exact ⟨rfl, M0.pick [] (by kernel_rfl)⟩
end Go.Proofs.YtimffallbjpcjaaGreatDoor
