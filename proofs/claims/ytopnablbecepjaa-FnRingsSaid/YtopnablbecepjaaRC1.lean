/- The walks, printed by program: whenever the model gives r, the call returns r. Part 1. -/
import Derived.Test.YtopnablbecepjaaRM
import Derived.Test.YtopnablbecepjaaProg
set_option linter.unusedVariables false
set_option maxRecDepth 100000
set_option maxHeartbeats 4000000
namespace Go.Proofs.Ytopnablbecepjaa
open Go.Gx
theorem c_l_vBig (w : World) (x6 : List Int) (p8 : Option Addr) (c9 : Nat) (h10 : rdS encU8 w x6 p8 c9) {r : Bool} (hm : M.l_vBig x6 = some r) :
    Calls Try.prog 41 #[.slice p8 x6.length c9] w fun e w' => e = .returned (.bool r) ∧ Mem [] w w' [] := by
  unfold M.l_vBig at hm
  refine C_enter Try.func41 rfl (by kernel_rfl) ?_
  have M0 := Mem.refl [] w
  refine G_seq ?_
  refine G_region ?_
  refine W_run 1 [(0, .slice p8 x6.length c9)] w (by kernel_rfl) ?_
  refine W_nil ?_
  refine N_then ?_
  refine G_seq ?_
  refine G_region ?_
  refine W_run 4 [(2, .bool (decide ((x6.length : Int) > 65536)))] w (by kernel_rfl) ?_
  refine W_nil ?_
  refine N_then ?_
  refine G_ret ?_
  obtain rfl := Option.some.inj hm
  refine N_ret [.bool (decide ((x6.length : Int) > 65536))] (RVs_cons (RV_tmp (by kernel_rfl)) RVs_nil) ?_
  exact ⟨rfl, M0.pick [] (by kernel_rfl)⟩
theorem c_s_l1Cur_next (w : World) (x53 : l1Cur) (p57 : Option Addr) (c58 : Nat) (h59 : rdS encU8 w x53.code p57 c58) (b55 : Nat) (hA : ∀ q ∈ List.flatten [[(b55, .cells ⟨[.slice p57 x53.code.length c58, .int .i64 x53.at_, .int .u64 x53.seed]⟩ 73 (0, 0))]], w.heap[q.1]? = some q.2) (hN : (idsOf [[(b55, .cells ⟨[.slice p57 x53.code.length c58, .int .i64 x53.at_, .int .u64 x53.seed]⟩ 73 (0, 0))]]).Nodup) (hap60 : apartX (idsOf [[(b55, .cells ⟨[.slice p57 x53.code.length c58, .int .i64 x53.at_, .int .u64 x53.seed]⟩ 73 (0, 0))]]) x53.code p57) {r : Int × Int × Int} (hm : M.s_l1Cur_next x53 = some r) :
    Calls Try.prog 80 #[.pointer (some ⟨b55, 0, none⟩)] w fun e w' => e = .returned (.int .i64 r.1) ∧ Mem (idsOf [[(b55, .cells ⟨[.slice p57 x53.code.length c58, .int .i64 x53.at_, .int .u64 x53.seed]⟩ 73 (0, 0))]]) w w' [[(b55, .cells ⟨[.slice p57 x53.code.length c58, .int .i64 r.2.1, .int .u64 r.2.2]⟩ 73 (0, 0))]] := by
  unfold M.s_l1Cur_next at hm
  refine C_enter Try.func80 rfl (by kernel_rfl) ?_
  have M0 := Mem.start' w [[(b55, .cells ⟨[.slice p57 x53.code.length c58, .int .i64 x53.at_, .int .u64 x53.seed]⟩ 73 (0, 0))]] hA hN
  refine G_seq ?_
  refine G_region ?_
  refine W_run 1 [(0, .pointer (some ⟨b55, 0, none⟩))] w (by kernel_rfl) ?_
  refine W_nil ?_
  refine N_then ?_
  refine G_seq ?_
  refine G_region ?_
  refine W_run 1 [(0, .pointer (some ⟨b55, 0, none⟩)), (3, .int .i64 0)] w (by kernel_rfl) ?_
  refine W_nil ?_
  refine N_then ?_
  refine G_seq ?_
  refine G_seq ?_
  refine G_quiet (by kernel_rfl) (by kernel_rfl) M0 ?_
  refine Z_runs [.pointer (some ⟨b55, 0, none⟩), .pointer (some ⟨b55, 0, none⟩), .pointer (some ⟨b55, 1, none⟩)] [(0, .pointer (some ⟨b55, 0, none⟩)), (3, .int .i64 0), (6, .pointer (some ⟨b55, 1, none⟩))] (fun w_ => by kernel_rfl) (by kernel_rfl) ?_
  refine Z_val (.int .i64 x53.at_) (by kernel_rfl) (fun w_ M_ => (E_load (e := 73) (fr := (0, 0)) _ _ false 1 b55 1 [.slice p57 x53.code.length c58, .int .i64 x53.at_, .int .u64 x53.seed] (.int .i64 x53.at_) rfl (by kernel_rfl) (by kernel_rfl) (by kernel_rfl) (M_.blk 0 (b := b55) (o := .cells ⟨[.slice p57 x53.code.length c58, .int .i64 x53.at_, .int .u64 x53.seed]⟩ 73 (0, 0)) (by kernel_rfl)))) ?_
  refine Z_runs [.pointer (some ⟨b55, 0, none⟩), .pointer (some ⟨b55, 0, none⟩), .pointer (some ⟨b55, 0, none⟩)] [(0, .pointer (some ⟨b55, 0, none⟩)), (3, .int .i64 0), (7, .int .i64 x53.at_), (10, .pointer (some ⟨b55, 0, none⟩))] (fun w_ => by kernel_rfl) (by kernel_rfl) ?_
  refine Z_val (.slice p57 x53.code.length c58) (by kernel_rfl) (fun w_ M_ => (E_load (e := 73) (fr := (0, 0)) _ _ false 1 b55 0 [.slice p57 x53.code.length c58, .int .i64 x53.at_, .int .u64 x53.seed] (.slice p57 x53.code.length c58) rfl (by kernel_rfl) (by kernel_rfl) (by kernel_rfl) (M_.blk 0 (b := b55) (o := .cells ⟨[.slice p57 x53.code.length c58, .int .i64 x53.at_, .int .u64 x53.seed]⟩ 73 (0, 0)) (by kernel_rfl)))) ?_
  refine Z_runs [.int .i64 (x53.code.length : Int), .bool (decide (x53.at_ < (x53.code.length : Int)))] [(0, .pointer (some ⟨b55, 0, none⟩)), (3, .int .i64 0), (13, .bool (decide (x53.at_ < (x53.code.length : Int))))] (fun w_ => by kernel_rfl) (by kernel_rfl) ?_
  refine Z_end fun w61 M62 => ?_
  refine N_then ?_
  obtain ⟨o67, ho68, hm69⟩ := gx_bind hm
  refine G_meet (fun a w' => Mem (idsOf [[(b55, .cells ⟨[.slice p57 x53.code.length c58, .int .i64 x53.at_, .int .u64 x53.seed]⟩ 73 (0, 0))]]) w w' [[(b55, .cells ⟨[.slice p57 x53.code.length c58, .int .i64 x53.at_, .int .u64 x53.seed]⟩ 73 (0, 0))]] ∧ Sat Try.f80.ntmps [(0, .pointer (some ⟨b55, 0, none⟩)), (3, .int .i64 o67)] a) ?_ ?_
  · have hm := ho68
    rcases gx_bif hm with ⟨hc70, hm⟩ | ⟨hc70, hm⟩
    · refine G_cond_t (b := (decide (x53.at_ < (x53.code.length : Int)))) hc70 (by kernel_rfl) ?_
      refine G_quiet (by kernel_rfl) (by kernel_rfl) M62 ?_
      refine Z_runs [.pointer (some ⟨b55, 0, none⟩), .pointer (some ⟨b55, 0, none⟩), .pointer (some ⟨b55, 0, none⟩)] [(0, .pointer (some ⟨b55, 0, none⟩)), (3, .int .i64 0), (16, .pointer (some ⟨b55, 0, none⟩))] (fun w_ => by kernel_rfl) (by kernel_rfl) ?_
      refine Z_val (.slice p57 x53.code.length c58) (by kernel_rfl) (fun w_ M_ => (E_load (e := 73) (fr := (0, 0)) _ _ false 1 b55 0 [.slice p57 x53.code.length c58, .int .i64 x53.at_, .int .u64 x53.seed] (.slice p57 x53.code.length c58) rfl (by kernel_rfl) (by kernel_rfl) (by kernel_rfl) (M_.blk 0 (b := b55) (o := .cells ⟨[.slice p57 x53.code.length c58, .int .i64 x53.at_, .int .u64 x53.seed]⟩ 73 (0, 0)) (by kernel_rfl)))) ?_
      refine Z_runs [.pointer (some ⟨b55, 0, none⟩), .pointer (some ⟨b55, 0, none⟩), .pointer (some ⟨b55, 1, none⟩)] [(0, .pointer (some ⟨b55, 0, none⟩)), (3, .int .i64 0), (17, .slice p57 x53.code.length c58), (20, .pointer (some ⟨b55, 1, none⟩))] (fun w_ => by kernel_rfl) (by kernel_rfl) ?_
      refine Z_val (.int .i64 x53.at_) (by kernel_rfl) (fun w_ M_ => (E_load (e := 73) (fr := (0, 0)) _ _ false 1 b55 1 [.slice p57 x53.code.length c58, .int .i64 x53.at_, .int .u64 x53.seed] (.int .i64 x53.at_) rfl (by kernel_rfl) (by kernel_rfl) (by kernel_rfl) (M_.blk 0 (b := b55) (o := .cells ⟨[.slice p57 x53.code.length c58, .int .i64 x53.at_, .int .u64 x53.seed]⟩ 73 (0, 0)) (by kernel_rfl)))) ?_
      obtain ⟨y71, hy71, hm⟩ := gx_bind hm
      refine Z_val (elemP p57 (x53.at_.toNat * 1)) (by kernel_rfl) (fun w_ M_ => (E_index (E := encU8) _ _ _ x53.code.length c58 .i64 x53.at_ 1 (y := y71) rfl (by kernel_rfl) (by kernel_rfl) (by kernel_rfl) (h59.memX hap60 M_) rfl hy71)) ?_
      refine Z_val (.int .u8 y71) (by kernel_rfl) (fun w_ M_ => (E_loadE (E := encU8) _ _ false 1 x53.at_ 0 (x53.at_.toNat * 1) y71 (.int .u8 y71) rfl (by kernel_rfl) (by kernel_rfl) (by kernel_rfl) (h59.memX hap60 M_) hy71 rfl)) ?_
      refine Z_runs [.int .i64 (w64 y71), .int .i64 (w64 y71)] [(0, .pointer (some ⟨b55, 0, none⟩)), (3, .int .i64 (w64 y71))] (fun w_ => by kernel_rfl) (by kernel_rfl) ?_
      refine Z_end fun w72 M73 => ?_
      obtain rfl := Option.some.inj hm
      exact N_meet fun a ha => ⟨M73.pick [0] (by kernel_rfl), ha.sub (by kernel_rfl)⟩
    · refine G_cond_f (b := (decide (x53.at_ < (x53.code.length : Int)))) hc70 (by kernel_rfl) ?_
      refine G_skip ?_
      obtain rfl := Option.some.inj hm
      exact N_meet fun a ha => ⟨M62.pick [0] (by kernel_rfl), ha.sub (by kernel_rfl)⟩
  · intro a76 w74 ⟨M75, hS77⟩
    refine N_use hS77 ?_
    have hm := hm69
    refine N_then ?_
    refine G_seq ?_
    refine G_region ?_
    refine W_run 3 [(0, .pointer (some ⟨b55, 0, none⟩)), (3, .int .i64 o67), (25, .pointer (some ⟨b55, 0, none⟩)), (27, .pointer (some ⟨b55, 1, none⟩))] w74 (by kernel_rfl) ?_
    refine W_val (.int .i64 x53.at_) w74 (by kernel_rfl) (E_load (e := 73) (fr := (0, 0)) _ _ false 1 b55 1 [.slice p57 x53.code.length c58, .int .i64 x53.at_, .int .u64 x53.seed] (.int .i64 x53.at_) rfl (by kernel_rfl) (by kernel_rfl) (by kernel_rfl) (M75.blk 0 (b := b55) (o := .cells ⟨[.slice p57 x53.code.length c58, .int .i64 x53.at_, .int .u64 x53.seed]⟩ 73 (0, 0)) (by kernel_rfl))) ?_
    refine W_run 3 [(0, .pointer (some ⟨b55, 0, none⟩)), (3, .int .i64 o67), (29, .int .i64 (w64 (x53.at_ + 1))), (31, .pointer (some ⟨b55, 1, none⟩))] w74 (by kernel_rfl) ?_
    refine W_store _ _ _ false 1 b55 1 [.slice p57 x53.code.length c58, .int .i64 x53.at_, .int .u64 x53.seed] 73 (.int .i64 (w64 (x53.at_ + 1))) 0 [.slice p57 x53.code.length c58, .int .i64 (w64 (x53.at_ + 1)), .int .u64 x53.seed] M75 (by kernel_rfl) rfl (by kernel_rfl) (by kernel_rfl) (by kernel_rfl) (by kernel_rfl) (by kernel_rfl) (by kernel_rfl) (by kernel_rfl) (by kernel_rfl) ?_
    intro w78 M79
    refine W_nil ?_
    refine N_then ?_
    refine G_seq ?_
    refine G_region ?_
    refine W_run 4 [(0, .pointer (some ⟨b55, 0, none⟩)), (3, .int .i64 o67), (32, .pointer (some ⟨b55, 0, none⟩)), (35, .pointer (some ⟨b55, 2, none⟩))] w78 (by kernel_rfl) ?_
    refine W_val (.int .u64 x53.seed) w78 (by kernel_rfl) (E_load (e := 73) (fr := (0, 0)) _ _ false 1 b55 2 [.slice p57 x53.code.length c58, .int .i64 (w64 (x53.at_ + 1)), .int .u64 x53.seed] (.int .u64 x53.seed) rfl (by kernel_rfl) (by kernel_rfl) (by kernel_rfl) (M79.blk 0 (b := b55) (o := .cells ⟨[.slice p57 x53.code.length c58, .int .i64 (w64 (x53.at_ + 1)), .int .u64 x53.seed]⟩ 73 (0, 0)) (by kernel_rfl))) ?_
    refine W_run 7 [(0, .pointer (some ⟨b55, 0, none⟩)), (3, .int .i64 o67), (41, .int .u64 (IntKind.u64.wrap ((IntKind.u64.wrap ((IntKind.u64.wrap (x53.seed * 6364136223846793005)) + (IntKind.u64.wrap o67))) + 843843))), (43, .pointer (some ⟨b55, 2, none⟩))] w78 (by kernel_rfl) ?_
    refine W_store _ _ _ false 1 b55 2 [.slice p57 x53.code.length c58, .int .i64 (w64 (x53.at_ + 1)), .int .u64 x53.seed] 73 (.int .u64 (IntKind.u64.wrap ((IntKind.u64.wrap ((IntKind.u64.wrap (x53.seed * 6364136223846793005)) + (IntKind.u64.wrap o67))) + 843843))) 0 [.slice p57 x53.code.length c58, .int .i64 (w64 (x53.at_ + 1)), .int .u64 (IntKind.u64.wrap ((IntKind.u64.wrap ((IntKind.u64.wrap (x53.seed * 6364136223846793005)) + (IntKind.u64.wrap o67))) + 843843))] M79 (by kernel_rfl) rfl (by kernel_rfl) (by kernel_rfl) (by kernel_rfl) (by kernel_rfl) (by kernel_rfl) (by kernel_rfl) (by kernel_rfl) (by kernel_rfl) ?_
    intro w80 M81
    refine W_nil ?_
    refine N_then ?_
    refine G_seq ?_
    refine G_seq ?_
    refine G_quiet (by kernel_rfl) (by kernel_rfl) M81 ?_
    refine Z_runs [.pointer (some ⟨b55, 0, none⟩), .pointer (some ⟨b55, 0, none⟩), .pointer (some ⟨b55, 1, none⟩)] [(0, .pointer (some ⟨b55, 0, none⟩)), (3, .int .i64 o67), (46, .pointer (some ⟨b55, 1, none⟩))] (fun w_ => by kernel_rfl) (by kernel_rfl) ?_
    refine Z_val (.int .i64 (w64 (x53.at_ + 1))) (by kernel_rfl) (fun w_ M_ => (E_load (e := 73) (fr := (0, 0)) _ _ false 1 b55 1 [.slice p57 x53.code.length c58, .int .i64 (w64 (x53.at_ + 1)), .int .u64 (IntKind.u64.wrap ((IntKind.u64.wrap ((IntKind.u64.wrap (x53.seed * 6364136223846793005)) + (IntKind.u64.wrap o67))) + 843843))] (.int .i64 (w64 (x53.at_ + 1))) rfl (by kernel_rfl) (by kernel_rfl) (by kernel_rfl) (M_.blk 0 (b := b55) (o := .cells ⟨[.slice p57 x53.code.length c58, .int .i64 (w64 (x53.at_ + 1)), .int .u64 (IntKind.u64.wrap ((IntKind.u64.wrap ((IntKind.u64.wrap (x53.seed * 6364136223846793005)) + (IntKind.u64.wrap o67))) + 843843))]⟩ 73 (0, 0)) (by kernel_rfl)))) ?_
    refine Z_runs [.pointer (some ⟨b55, 0, none⟩), .pointer (some ⟨b55, 0, none⟩), .pointer (some ⟨b55, 0, none⟩)] [(0, .pointer (some ⟨b55, 0, none⟩)), (3, .int .i64 o67), (47, .int .i64 (w64 (x53.at_ + 1))), (50, .pointer (some ⟨b55, 0, none⟩))] (fun w_ => by kernel_rfl) (by kernel_rfl) ?_
    refine Z_val (.slice p57 x53.code.length c58) (by kernel_rfl) (fun w_ M_ => (E_load (e := 73) (fr := (0, 0)) _ _ false 1 b55 0 [.slice p57 x53.code.length c58, .int .i64 (w64 (x53.at_ + 1)), .int .u64 (IntKind.u64.wrap ((IntKind.u64.wrap ((IntKind.u64.wrap (x53.seed * 6364136223846793005)) + (IntKind.u64.wrap o67))) + 843843))] (.slice p57 x53.code.length c58) rfl (by kernel_rfl) (by kernel_rfl) (by kernel_rfl) (M_.blk 0 (b := b55) (o := .cells ⟨[.slice p57 x53.code.length c58, .int .i64 (w64 (x53.at_ + 1)), .int .u64 (IntKind.u64.wrap ((IntKind.u64.wrap ((IntKind.u64.wrap (x53.seed * 6364136223846793005)) + (IntKind.u64.wrap o67))) + 843843))]⟩ 73 (0, 0)) (by kernel_rfl)))) ?_
    refine Z_runs [.int .i64 (x53.code.length : Int), .bool (decide ((w64 (x53.at_ + 1)) ≤ (x53.code.length : Int)))] [(0, .pointer (some ⟨b55, 0, none⟩)), (3, .int .i64 o67), (53, .bool (decide ((w64 (x53.at_ + 1)) ≤ (x53.code.length : Int))))] (fun w_ => by kernel_rfl) (by kernel_rfl) ?_
    refine Z_end fun w82 M83 => ?_
    refine N_then ?_
    rcases gx_bif hm with ⟨hc84, hm⟩ | ⟨hc84, hm⟩
    · refine G_cond_t (b := (decide ((w64 (x53.at_ + 1)) ≤ (x53.code.length : Int)))) hc84 (by kernel_rfl) ?_
      refine G_seq ?_
      refine G_region ?_
      refine W_run 2 [(2, .int .i64 o67)] w82 (by kernel_rfl) ?_
      refine W_nil ?_
      refine N_then ?_
      refine G_ret ?_
      refine N_then_ret ?_
      obtain rfl := Option.some.inj hm
      refine N_ret [.int .i64 o67] (RVs_cons (RV_tmp (by kernel_rfl)) RVs_nil) ?_
      exact ⟨rfl, M83.pick [0] (by kernel_rfl)⟩
    · refine G_cond_f (b := (decide ((w64 (x53.at_ + 1)) ≤ (x53.code.length : Int)))) hc84 (by kernel_rfl) ?_
      refine G_skip ?_
      refine N_then ?_
      refine G_seq ?_
      refine G_region ?_
      refine W_run 3 [(57, .pointer (some ⟨b55, 2, none⟩))] w82 (by kernel_rfl) ?_
      refine W_val (.int .u64 (IntKind.u64.wrap ((IntKind.u64.wrap ((IntKind.u64.wrap (x53.seed * 6364136223846793005)) + (IntKind.u64.wrap o67))) + 843843))) w82 (by kernel_rfl) (E_load (e := 73) (fr := (0, 0)) _ _ false 1 b55 2 [.slice p57 x53.code.length c58, .int .i64 (w64 (x53.at_ + 1)), .int .u64 (IntKind.u64.wrap ((IntKind.u64.wrap ((IntKind.u64.wrap (x53.seed * 6364136223846793005)) + (IntKind.u64.wrap o67))) + 843843))] (.int .u64 (IntKind.u64.wrap ((IntKind.u64.wrap ((IntKind.u64.wrap (x53.seed * 6364136223846793005)) + (IntKind.u64.wrap o67))) + 843843))) rfl (by kernel_rfl) (by kernel_rfl) (by kernel_rfl) (M83.blk 0 (b := b55) (o := .cells ⟨[.slice p57 x53.code.length c58, .int .i64 (w64 (x53.at_ + 1)), .int .u64 (IntKind.u64.wrap ((IntKind.u64.wrap ((IntKind.u64.wrap (x53.seed * 6364136223846793005)) + (IntKind.u64.wrap o67))) + 843843))]⟩ 73 (0, 0)) (by kernel_rfl))) ?_
      refine W_run 4 [(2, .int .i64 (w64 (gxAnd .u64 ((IntKind.u64.wrap ((IntKind.u64.wrap ((IntKind.u64.wrap (x53.seed * 6364136223846793005)) + (IntKind.u64.wrap o67))) + 843843)).fdiv (2 ^ 40)) 255)))] w82 (by kernel_rfl) ?_
      refine W_nil ?_
      refine N_then ?_
      refine G_ret ?_
      obtain rfl := Option.some.inj hm
      refine N_ret [.int .i64 (w64 (gxAnd .u64 ((IntKind.u64.wrap ((IntKind.u64.wrap ((IntKind.u64.wrap (x53.seed * 6364136223846793005)) + (IntKind.u64.wrap o67))) + 843843)).fdiv (2 ^ 40)) 255))] (RVs_cons (RV_tmp (by kernel_rfl)) RVs_nil) ?_
      exact ⟨rfl, M83.pick [0] (by kernel_rfl)⟩
theorem c_s_l1Cur_pick (w : World) (x43 : l1Cur) (p47 : Option Addr) (c48 : Nat) (h49 : rdS encU8 w x43.code p47 c48) (b45 : Nat) (x51 : Int) (hA : ∀ q ∈ List.flatten [[(b45, .cells ⟨[.slice p47 x43.code.length c48, .int .i64 x43.at_, .int .u64 x43.seed]⟩ 73 (0, 0))]], w.heap[q.1]? = some q.2) (hN : (idsOf [[(b45, .cells ⟨[.slice p47 x43.code.length c48, .int .i64 x43.at_, .int .u64 x43.seed]⟩ 73 (0, 0))]]).Nodup) (hap50 : apartX (idsOf [[(b45, .cells ⟨[.slice p47 x43.code.length c48, .int .i64 x43.at_, .int .u64 x43.seed]⟩ 73 (0, 0))]]) x43.code p47) {r : Int × Int × Int} (hm : M.s_l1Cur_pick x43 x51 = some r) :
    Calls Try.prog 73 #[.pointer (some ⟨b45, 0, none⟩), .int .i64 x51] w fun e w' => e = .returned (.int .i64 r.1) ∧ Mem (idsOf [[(b45, .cells ⟨[.slice p47 x43.code.length c48, .int .i64 x43.at_, .int .u64 x43.seed]⟩ 73 (0, 0))]]) w w' [[(b45, .cells ⟨[.slice p47 x43.code.length c48, .int .i64 r.2.1, .int .u64 r.2.2]⟩ 73 (0, 0))]] := by
  unfold M.s_l1Cur_pick at hm
  refine C_enter Try.func73 rfl (by kernel_rfl) ?_
  have M0 := Mem.start' w [[(b45, .cells ⟨[.slice p47 x43.code.length c48, .int .i64 x43.at_, .int .u64 x43.seed]⟩ 73 (0, 0))]] hA hN
  refine G_seq ?_
  refine G_region ?_
  refine W_run 1 [(0, .pointer (some ⟨b45, 0, none⟩)), (1, .int .i64 x51)] w (by kernel_rfl) ?_
  refine W_nil ?_
  refine N_then ?_
  refine G_seq ?_
  refine G_seq ?_
  refine G_region ?_
  refine W_run 2 [(0, .pointer (some ⟨b45, 0, none⟩)), (1, .int .i64 x51), (7, .bool (decide (x51 ≤ 1)))] w (by kernel_rfl) ?_
  refine W_nil ?_
  refine N_then ?_
  rcases gx_bif hm with ⟨hc52, hm⟩ | ⟨hc52, hm⟩
  · refine G_cond_t (b := (decide (x51 ≤ 1))) hc52 (by kernel_rfl) ?_
    refine G_seq ?_
    refine G_region ?_
    refine W_run 1 [(4, .int .i64 0)] w (by kernel_rfl) ?_
    refine W_nil ?_
    refine N_then ?_
    refine G_ret ?_
    refine N_then_ret ?_
    obtain rfl := Option.some.inj hm
    refine N_ret [.int .i64 0] (RVs_cons (RV_tmp (by kernel_rfl)) RVs_nil) ?_
    exact ⟨rfl, M0.pick [0] (by kernel_rfl)⟩
  · refine G_cond_f (b := (decide (x51 ≤ 1))) hc52 (by kernel_rfl) ?_
    refine G_skip ?_
    refine N_then ?_
    refine G_seq ?_
    refine G_region ?_
    refine W_run 1 [(0, .pointer (some ⟨b45, 0, none⟩)), (1, .int .i64 x51), (8, .pointer (some ⟨b45, 0, none⟩))] w (by kernel_rfl) ?_
    obtain ⟨r85, hr85, hm⟩ := gx_bind hm
    refine W_call 80 #[.pointer (some ⟨b45, 0, none⟩)] (by kernel_rfl) (by kernel_rfl) ?_
    refine (c_s_l1Cur_next w x43 p47 c48 (h49.memX hap50 M0) b45 (M0.hasPick [0]) (M0.nodupPick [0] (by kernel_rfl)) (apartX.old h49 hap50 M0 [0]) hr85).mono ?_
    rintro e_ w86 ⟨rfl, K87⟩
    have M88 := M0.callF' [0] [] (by kernel_rfl) K87
    refine ⟨_, rfl, ?_⟩
    refine W_run 1 [(0, .pointer (some ⟨b45, 0, none⟩)), (1, .int .i64 x51), (5, .int .i64 r85.1)] w86 (by kernel_rfl) ?_
    refine W_nil ?_
    refine N_then ?_
    refine G_seq ?_
    refine G_seq ?_
    refine G_region ?_
    refine W_run 2 [(0, .pointer (some ⟨b45, 0, none⟩)), (1, .int .i64 x51), (5, .int .i64 r85.1), (11, .bool (decide (x51 > 200)))] w86 (by kernel_rfl) ?_
    refine W_nil ?_
    refine N_then ?_
    obtain ⟨o94, ho95, hm96⟩ := gx_bind hm
    refine G_meet (fun a w' => Mem (idsOf [[(b45, .cells ⟨[.slice p47 x43.code.length c48, .int .i64 x43.at_, .int .u64 x43.seed]⟩ 73 (0, 0))]]) w w' [[(b45, .cells ⟨[.slice p47 x43.code.length c48, .int .i64 o94.2.1, .int .u64 o94.2.2]⟩ 73 (0, 0))]] ∧ Sat Try.f73.ntmps [(1, .int .i64 x51), (5, .int .i64 o94.1)] a) ?_ ?_
    · have hm := ho95
      rcases gx_bif hm with ⟨hc97, hm⟩ | ⟨hc97, hm⟩
      · refine G_cond_t (b := (decide (x51 > 200))) hc97 (by kernel_rfl) ?_
        refine G_region ?_
        refine W_run 3 [(1, .int .i64 x51), (5, .int .i64 r85.1), (13, .int .i64 (w64 (r85.1 * 256))), (14, .pointer (some ⟨b45, 0, none⟩))] w86 (by kernel_rfl) ?_
        obtain ⟨r98, hr98, hm⟩ := gx_bind hm
        refine W_call 80 #[.pointer (some ⟨b45, 0, none⟩)] (by kernel_rfl) (by kernel_rfl) ?_
        refine (c_s_l1Cur_next w86 (⟨x43.code, r85.2.1, r85.2.2⟩ : l1Cur) p47 c48 (h49.memX hap50 M88) b45 (M88.hasPick [0]) (M88.nodupPick [0] (by kernel_rfl)) (apartX.old h49 hap50 M88 [0]) hr98).mono ?_
        rintro e_ w99 ⟨rfl, K100⟩
        have M101 := M88.callF' [0] [] (by kernel_rfl) K100
        refine ⟨_, rfl, ?_⟩
        refine W_run 2 [(1, .int .i64 x51), (5, .int .i64 (w64 ((w64 (r85.1 * 256)) + r98.1)))] w99 (by kernel_rfl) ?_
        refine W_nil ?_
        obtain rfl := Option.some.inj hm
        exact N_meet fun a ha => ⟨M101.pick [0] (by kernel_rfl), ha.sub (by kernel_rfl)⟩
      · refine G_cond_f (b := (decide (x51 > 200))) hc97 (by kernel_rfl) ?_
        refine G_skip ?_
        obtain rfl := Option.some.inj hm
        exact N_meet fun a ha => ⟨M88.pick [0] (by kernel_rfl), ha.sub (by kernel_rfl)⟩
    · intro a104 w102 ⟨M103, hS105⟩
      refine N_use hS105 ?_
      have hm := hm96
      refine N_then ?_
      refine G_seq ?_
      refine G_region ?_
      refine W_run 2 [(17, .int .i64 o94.1), (18, .int .i64 x51)] w102 (by kernel_rfl) ?_
      obtain ⟨q106, hq106, hm⟩ := gx_bind hm
      refine W_val (.int .i64 q106) w102 (by kernel_rfl) (E_rem _ _ _ _ o94.1 x51 q106 rfl (by kernel_rfl) (by kernel_rfl) hq106) ?_
      refine W_run 1 [(4, .int .i64 q106)] w102 (by kernel_rfl) ?_
      refine W_nil ?_
      refine N_then ?_
      refine G_ret ?_
      obtain rfl := Option.some.inj hm
      refine N_ret [.int .i64 q106] (RVs_cons (RV_tmp (by kernel_rfl)) RVs_nil) ?_
      exact ⟨rfl, M103.pick [0] (by kernel_rfl)⟩
theorem c_s_l1Cur_one (w : World) (x34 : l1Cur) (p38 : Option Addr) (c39 : Nat) (h40 : rdS encU8 w x34.code p38 c39) (b36 : Nat) (x42 : Int) (hA : ∀ q ∈ List.flatten [[(b36, .cells ⟨[.slice p38 x34.code.length c39, .int .i64 x34.at_, .int .u64 x34.seed]⟩ 73 (0, 0))]], w.heap[q.1]? = some q.2) (hN : (idsOf [[(b36, .cells ⟨[.slice p38 x34.code.length c39, .int .i64 x34.at_, .int .u64 x34.seed]⟩ 73 (0, 0))]]).Nodup) (hap41 : apartX (idsOf [[(b36, .cells ⟨[.slice p38 x34.code.length c39, .int .i64 x34.at_, .int .u64 x34.seed]⟩ 73 (0, 0))]]) x34.code p38) {r : Bool × Int × Int} (hm : M.s_l1Cur_one x34 x42 = some r) :
    Calls Try.prog 71 #[.pointer (some ⟨b36, 0, none⟩), .int .i64 x42] w fun e w' => e = .returned (.bool r.1) ∧ Mem (idsOf [[(b36, .cells ⟨[.slice p38 x34.code.length c39, .int .i64 x34.at_, .int .u64 x34.seed]⟩ 73 (0, 0))]]) w w' [[(b36, .cells ⟨[.slice p38 x34.code.length c39, .int .i64 r.2.1, .int .u64 r.2.2]⟩ 73 (0, 0))]] := by
  unfold M.s_l1Cur_one at hm
  refine C_enter Try.func71 rfl (by kernel_rfl) ?_
  have M0 := Mem.start' w [[(b36, .cells ⟨[.slice p38 x34.code.length c39, .int .i64 x34.at_, .int .u64 x34.seed]⟩ 73 (0, 0))]] hA hN
  refine G_seq ?_
  refine G_region ?_
  refine W_run 1 [(0, .pointer (some ⟨b36, 0, none⟩)), (1, .int .i64 x42)] w (by kernel_rfl) ?_
  refine W_nil ?_
  refine N_then ?_
  refine G_seq ?_
  refine G_region ?_
  refine W_run 2 [(5, .pointer (some ⟨b36, 0, none⟩)), (6, .int .i64 x42)] w (by kernel_rfl) ?_
  obtain ⟨r107, hr107, hm⟩ := gx_bind hm
  refine W_call 73 #[.pointer (some ⟨b36, 0, none⟩), .int .i64 x42] (by kernel_rfl) (by kernel_rfl) ?_
  refine (c_s_l1Cur_pick w x34 p38 c39 (h40.memX hap41 M0) b36 x42 (M0.hasPick [0]) (M0.nodupPick [0] (by kernel_rfl)) (apartX.old h40 hap41 M0 [0]) hr107).mono ?_
  rintro e_ w108 ⟨rfl, K109⟩
  have M110 := M0.callF' [0] [] (by kernel_rfl) K109
  refine ⟨_, rfl, ?_⟩
  refine W_run 2 [(4, .bool (r107.1 == 0))] w108 (by kernel_rfl) ?_
  refine W_nil ?_
  refine N_then ?_
  refine G_ret ?_
  obtain rfl := Option.some.inj hm
  refine N_ret [.bool (r107.1 == 0)] (RVs_cons (RV_tmp (by kernel_rfl)) RVs_nil) ?_
  exact ⟨rfl, M110.pick [0] (by kernel_rfl)⟩
theorem c_s_l1Cur_among (w : World) (x123 : l1Cur) (p127 : Option Addr) (c128 : Nat) (h129 : rdS encU8 w x123.code p127 c128) (b125 : Nat) (x131 : List Int) (p133 : Option Addr) (c134 : Nat) (h135 : rdS encI w x131 p133 c134) (hA : ∀ q ∈ List.flatten [[(b125, .cells ⟨[.slice p127 x123.code.length c128, .int .i64 x123.at_, .int .u64 x123.seed]⟩ 73 (0, 0))]], w.heap[q.1]? = some q.2) (hN : (idsOf [[(b125, .cells ⟨[.slice p127 x123.code.length c128, .int .i64 x123.at_, .int .u64 x123.seed]⟩ 73 (0, 0))]]).Nodup) (hap130 : apartX (idsOf [[(b125, .cells ⟨[.slice p127 x123.code.length c128, .int .i64 x123.at_, .int .u64 x123.seed]⟩ 73 (0, 0))]]) x123.code p127) (hap136 : apartX (idsOf [[(b125, .cells ⟨[.slice p127 x123.code.length c128, .int .i64 x123.at_, .int .u64 x123.seed]⟩ 73 (0, 0))]]) x131 p133) {r : Int × Int × Int} (hm : M.s_l1Cur_among x123 x131 = some r) :
    Calls Try.prog 75 #[.pointer (some ⟨b125, 0, none⟩), .slice p133 x131.length c134] w fun e w' => e = .returned (.int .i64 r.1) ∧ Mem (idsOf [[(b125, .cells ⟨[.slice p127 x123.code.length c128, .int .i64 x123.at_, .int .u64 x123.seed]⟩ 73 (0, 0))]]) w w' [[(b125, .cells ⟨[.slice p127 x123.code.length c128, .int .i64 r.2.1, .int .u64 r.2.2]⟩ 73 (0, 0))]] := by
  unfold M.s_l1Cur_among at hm
  refine C_enter Try.func75 rfl (by kernel_rfl) ?_
  have M0 := Mem.start' w [[(b125, .cells ⟨[.slice p127 x123.code.length c128, .int .i64 x123.at_, .int .u64 x123.seed]⟩ 73 (0, 0))]] hA hN
  refine G_seq ?_
  refine G_region ?_
  refine W_run 1 [(0, .pointer (some ⟨b125, 0, none⟩)), (1, .slice p133 x131.length c134)] w (by kernel_rfl) ?_
  refine W_nil ?_
  refine N_then ?_
  refine G_seq ?_
  refine G_region ?_
  refine W_run 4 [(5, .slice p133 x131.length c134), (6, .pointer (some ⟨b125, 0, none⟩)), (8, .int .i64 (x131.length : Int))] w (by kernel_rfl) ?_
  obtain ⟨r137, hr137, hm⟩ := gx_bind hm
  refine W_call 73 #[.pointer (some ⟨b125, 0, none⟩), .int .i64 (x131.length : Int)] (by kernel_rfl) (by kernel_rfl) ?_
  refine (c_s_l1Cur_pick w x123 p127 c128 (h129.memX hap130 M0) b125 (x131.length : Int) (M0.hasPick [0]) (M0.nodupPick [0] (by kernel_rfl)) (apartX.old h129 hap130 M0 [0]) hr137).mono ?_
  rintro e_ w138 ⟨rfl, K139⟩
  have M140 := M0.callF' [0] [] (by kernel_rfl) K139
  refine ⟨_, rfl, ?_⟩
  obtain ⟨y141, hy141, hm⟩ := gx_bind hm
  refine W_val (elemP p133 (r137.1.toNat * 1)) w138 (by kernel_rfl) (E_index (E := encI) _ _ _ x131.length c134 .i64 r137.1 1 (y := y141) rfl (by kernel_rfl) (by kernel_rfl) (by kernel_rfl) (h135.memX hap136 M140) rfl hy141) ?_
  refine W_val (.int .i64 y141) w138 (by kernel_rfl) (E_loadE (E := encI) _ _ false 1 r137.1 0 (r137.1.toNat * 1) y141 (.int .i64 y141) rfl (by kernel_rfl) (by kernel_rfl) (by kernel_rfl) (h135.memX hap136 M140) hy141 rfl) ?_
  refine W_run 1 [(4, .int .i64 y141)] w138 (by kernel_rfl) ?_
  refine W_nil ?_
  refine N_then ?_
  refine G_ret ?_
  obtain rfl := Option.some.inj hm
  refine N_ret [.int .i64 y141] (RVs_cons (RV_tmp (by kernel_rfl)) RVs_nil) ?_
  exact ⟨rfl, M140.pick [0] (by kernel_rfl)⟩
theorem c_s_l1Cur_word16 (w : World) (x26 : l1Cur) (p30 : Option Addr) (c31 : Nat) (h32 : rdS encU8 w x26.code p30 c31) (b28 : Nat) (hA : ∀ q ∈ List.flatten [[(b28, .cells ⟨[.slice p30 x26.code.length c31, .int .i64 x26.at_, .int .u64 x26.seed]⟩ 73 (0, 0))]], w.heap[q.1]? = some q.2) (hN : (idsOf [[(b28, .cells ⟨[.slice p30 x26.code.length c31, .int .i64 x26.at_, .int .u64 x26.seed]⟩ 73 (0, 0))]]).Nodup) (hap33 : apartX (idsOf [[(b28, .cells ⟨[.slice p30 x26.code.length c31, .int .i64 x26.at_, .int .u64 x26.seed]⟩ 73 (0, 0))]]) x26.code p30) {r : Int × Int × Int} (hm : M.s_l1Cur_word16 x26 = some r) :
    Calls Try.prog 70 #[.pointer (some ⟨b28, 0, none⟩)] w fun e w' => e = .returned (.int .i64 r.1) ∧ Mem (idsOf [[(b28, .cells ⟨[.slice p30 x26.code.length c31, .int .i64 x26.at_, .int .u64 x26.seed]⟩ 73 (0, 0))]]) w w' [[(b28, .cells ⟨[.slice p30 x26.code.length c31, .int .i64 r.2.1, .int .u64 r.2.2]⟩ 73 (0, 0))]] := by
  unfold M.s_l1Cur_word16 at hm
  refine C_enter Try.func70 rfl (by kernel_rfl) ?_
  have M0 := Mem.start' w [[(b28, .cells ⟨[.slice p30 x26.code.length c31, .int .i64 x26.at_, .int .u64 x26.seed]⟩ 73 (0, 0))]] hA hN
  refine G_seq ?_
  refine G_region ?_
  refine W_run 1 [(0, .pointer (some ⟨b28, 0, none⟩))] w (by kernel_rfl) ?_
  refine W_nil ?_
  refine N_then ?_
  refine G_seq ?_
  refine G_seq ?_
  refine G_region ?_
  refine W_run 1 [(0, .pointer (some ⟨b28, 0, none⟩)), (3, .pointer (some ⟨b28, 0, none⟩))] w (by kernel_rfl) ?_
  obtain ⟨r111, hr111, hm⟩ := gx_bind hm
  refine W_call 71 #[.pointer (some ⟨b28, 0, none⟩), .int .i64 32] (by kernel_rfl) (by kernel_rfl) ?_
  refine (c_s_l1Cur_one w x26 p30 c31 (h32.memX hap33 M0) b28 32 (M0.hasPick [0]) (M0.nodupPick [0] (by kernel_rfl)) (apartX.old h32 hap33 M0 [0]) hr111).mono ?_
  rintro e_ w112 ⟨rfl, K113⟩
  have M114 := M0.callF' [0] [] (by kernel_rfl) K113
  refine ⟨_, rfl, ?_⟩
  refine W_nil ?_
  refine N_then ?_
  rcases gx_bif hm with ⟨hc115, hm⟩ | ⟨hc115, hm⟩
  · refine G_cond_t (b := r111.1) hc115 (by kernel_rfl) ?_
    refine G_seq ?_
    refine G_region ?_
    refine W_run 1 [(5, .pointer (some ⟨b28, 0, none⟩))] w112 (by kernel_rfl) ?_
    refine W_lit (E := encI) [(-1), 65536] 2 [.int .i64 (-1), .int .i64 65536] 3 M114 (by kernel_rfl) (by kernel_rfl) (by kernel_rfl) (by kernel_rfl) (by kernel_rfl) ?_
    intro p116 c117 sg118 w119 ho120 M121
    obtain ⟨r142, hr142, hm⟩ := gx_bind hm
    refine W_call 75 #[.pointer (some ⟨b28, 0, none⟩), .slice p116 [(-1), 65536].length c117] (by kernel_rfl) (by kernel_rfl) ?_
    refine (c_s_l1Cur_among w119 (⟨x26.code, r111.2.1, r111.2.2⟩ : l1Cur) p30 c31 (h32.memX hap33 M121) b28 [(-1), 65536] p116 c117 (ho120.rd M121 1 (by kernel_rfl)) (M121.hasPick [0]) (M121.nodupPick [0] (by kernel_rfl)) (apartX.old h32 hap33 M121 [0]) (apartX.own ho120 M121 1 (by kernel_rfl) [0] (by kernel_rfl)) hr142).mono ?_
    rintro e_ w143 ⟨rfl, K144⟩
    have M145 := M121.callF' [0] [1] (by kernel_rfl) K144
    refine ⟨_, rfl, ?_⟩
    refine W_run 1 [(2, .int .i64 r142.1)] w143 (by kernel_rfl) ?_
    refine W_nil ?_
    refine N_then ?_
    refine G_ret ?_
    refine N_then_ret ?_
    obtain rfl := Option.some.inj hm
    refine N_ret [.int .i64 r142.1] (RVs_cons (RV_tmp (by kernel_rfl)) RVs_nil) ?_
    exact ⟨rfl, M145.pick [1] (by kernel_rfl)⟩
  · refine G_cond_f (b := r111.1) hc115 (by kernel_rfl) ?_
    refine G_skip ?_
    refine N_then ?_
    refine G_seq ?_
    refine G_region ?_
    refine W_run 1 [(8, .pointer (some ⟨b28, 0, none⟩))] w112 (by kernel_rfl) ?_
    refine W_lit (E := encI) [0, 1, 2, 7, 100, 32768, 65534, 65535] 8 [.int .i64 0, .int .i64 1, .int .i64 2, .int .i64 7, .int .i64 100, .int .i64 32768, .int .i64 65534, .int .i64 65535] 3 M114 (by kernel_rfl) (by kernel_rfl) (by kernel_rfl) (by kernel_rfl) (by kernel_rfl) ?_
    intro p146 c147 sg148 w149 ho150 M151
    obtain ⟨r153, hr153, hm⟩ := gx_bind hm
    refine W_call 75 #[.pointer (some ⟨b28, 0, none⟩), .slice p146 [0, 1, 2, 7, 100, 32768, 65534, 65535].length c147] (by kernel_rfl) (by kernel_rfl) ?_
    refine (c_s_l1Cur_among w149 (⟨x26.code, r111.2.1, r111.2.2⟩ : l1Cur) p30 c31 (h32.memX hap33 M151) b28 [0, 1, 2, 7, 100, 32768, 65534, 65535] p146 c147 (ho150.rd M151 1 (by kernel_rfl)) (M151.hasPick [0]) (M151.nodupPick [0] (by kernel_rfl)) (apartX.old h32 hap33 M151 [0]) (apartX.own ho150 M151 1 (by kernel_rfl) [0] (by kernel_rfl)) hr153).mono ?_
    rintro e_ w154 ⟨rfl, K155⟩
    have M156 := M151.callF' [0] [1] (by kernel_rfl) K155
    refine ⟨_, rfl, ?_⟩
    refine W_run 1 [(2, .int .i64 r153.1)] w154 (by kernel_rfl) ?_
    refine W_nil ?_
    refine N_then ?_
    refine G_ret ?_
    obtain rfl := Option.some.inj hm
    refine N_ret [.int .i64 r153.1] (RVs_cons (RV_tmp (by kernel_rfl)) RVs_nil) ?_
    exact ⟨rfl, M156.pick [1] (by kernel_rfl)⟩
theorem c_s_l1Most (w : World) (x174 : Int) (x175 : Int) {r : Int} (hm : M.s_l1Most x174 x175 = some r) :
    Calls Try.prog 72 #[.int .i64 x174, .int .i64 x175] w fun e w' => e = .returned (.int .i64 r) ∧ Mem [] w w' [] := by
  unfold M.s_l1Most at hm
  refine C_enter Try.func72 rfl (by kernel_rfl) ?_
  have M0 := Mem.refl [] w
  refine G_seq ?_
  refine G_region ?_
  refine W_run 1 [(0, .int .i64 x174), (1, .int .i64 x175)] w (by kernel_rfl) ?_
  refine W_nil ?_
  refine N_then ?_
  refine G_seq ?_
  refine G_seq ?_
  refine G_region ?_
  refine W_run 3 [(0, .int .i64 x174), (1, .int .i64 x175), (7, .bool (decide (x174 > x175)))] w (by kernel_rfl) ?_
  refine W_nil ?_
  refine N_then ?_
  rcases gx_bif hm with ⟨hc176, hm⟩ | ⟨hc176, hm⟩
  · refine G_cond_t (b := (decide (x174 > x175))) hc176 (by kernel_rfl) ?_
    refine G_seq ?_
    refine G_region ?_
    refine W_run 2 [(4, .int .i64 x174)] w (by kernel_rfl) ?_
    refine W_nil ?_
    refine N_then ?_
    refine G_ret ?_
    refine N_then_ret ?_
    obtain rfl := Option.some.inj hm
    refine N_ret [.int .i64 x174] (RVs_cons (RV_tmp (by kernel_rfl)) RVs_nil) ?_
    exact ⟨rfl, M0.pick [] (by kernel_rfl)⟩
  · refine G_cond_f (b := (decide (x174 > x175))) hc176 (by kernel_rfl) ?_
    refine G_skip ?_
    refine N_then ?_
    refine G_seq ?_
    refine G_region ?_
    refine W_run 2 [(4, .int .i64 x175)] w (by kernel_rfl) ?_
    refine W_nil ?_
    refine N_then ?_
    refine G_ret ?_
    obtain rfl := Option.some.inj hm
    refine N_ret [.int .i64 x175] (RVs_cons (RV_tmp (by kernel_rfl)) RVs_nil) ?_
    exact ⟨rfl, M0.pick [] (by kernel_rfl)⟩
theorem c_s_DrawNeedsSignal (w : World) (x16 : List Int) (p18 : Option Addr) (c19 : Nat) (h20 : rdS encU8 w x16 p18 c19) {r : Int × Int × Int} (hm : M.s_DrawNeedsSignal x16 = some r) :
    Calls Try.prog 42 #[.slice p18 x16.length c19] w fun e w' => e = .returned (.tuple #[.int .i64 r.1, .int .i64 r.2.1, .int .i64 r.2.2]) ∧ Mem [] w w' [] := by
  unfold M.s_DrawNeedsSignal at hm
  refine C_enter Try.func42 rfl (by kernel_rfl) ?_
  have M0 := Mem.refl [] w
  refine G_seq ?_
  refine G_region ?_
  refine W_run 3 [(0, .slice p18 x16.length c19)] w (by kernel_rfl) ?_
  refine W_nil ?_
  refine N_then ?_
  refine G_seq ?_
  refine G_region ?_
  refine W_run 2 [(9, .agg #[.slice p18 x16.length c19, .int .i64 0, .int .u64 0])] w (by kernel_rfl) ?_
  refine W_new (fun b => .pointer (some ⟨b, 0, none⟩)) (.cells ⟨[.slice p18 x16.length c19, .int .i64 0, .int .u64 0]⟩ 73 (0, 0)) M0 rfl (by kernel_rfl) (by kernel_rfl) ?_
  intro b23 w24 M25
  refine W_run 1 [(5, .pointer (some ⟨b23, 0, none⟩))] w24 (by kernel_rfl) ?_
  refine W_nil ?_
  refine N_then ?_
  refine G_seq ?_
  refine G_region ?_
  refine W_run 1 [(5, .pointer (some ⟨b23, 0, none⟩)), (11, .pointer (some ⟨b23, 0, none⟩))] w24 (by kernel_rfl) ?_
  obtain ⟨r157, hr157, hm⟩ := gx_bind hm
  refine W_call 70 #[.pointer (some ⟨b23, 0, none⟩)] (by kernel_rfl) (by kernel_rfl) ?_
  refine (c_s_l1Cur_word16 w24 (⟨x16, 0, 0⟩ : l1Cur) p18 c19 (h20.mem0 M25) b23 (M25.hasPick [0]) (M25.nodupPick [0] (by kernel_rfl)) (apartX.old0 h20 M25 [0]) hr157).mono ?_
  rintro e_ w158 ⟨rfl, K159⟩
  have M160 := M25.callF' [0] [] (by kernel_rfl) K159
  refine ⟨_, rfl, ?_⟩
  refine W_run 1 [(5, .pointer (some ⟨b23, 0, none⟩)), (6, .int .i64 r157.1)] w158 (by kernel_rfl) ?_
  refine W_nil ?_
  refine N_then ?_
  refine G_seq ?_
  refine G_seq ?_
  refine G_region ?_
  refine W_run 1 [(5, .pointer (some ⟨b23, 0, none⟩)), (6, .int .i64 r157.1), (13, .pointer (some ⟨b23, 0, none⟩))] w158 (by kernel_rfl) ?_
  obtain ⟨r161, hr161, hm⟩ := gx_bind hm
  refine W_call 71 #[.pointer (some ⟨b23, 0, none⟩), .int .i64 3] (by kernel_rfl) (by kernel_rfl) ?_
  refine (c_s_l1Cur_one w158 (⟨x16, r157.2.1, r157.2.2⟩ : l1Cur) p18 c19 (h20.mem0 M160) b23 3 (M160.hasPick [0]) (M160.nodupPick [0] (by kernel_rfl)) (apartX.old0 h20 M160 [0]) hr161).mono ?_
  rintro e_ w162 ⟨rfl, K163⟩
  have M164 := M160.callF' [0] [] (by kernel_rfl) K163
  refine ⟨_, rfl, ?_⟩
  refine W_nil ?_
  refine N_then ?_
  rcases gx_bif hm with ⟨hc165, hm⟩ | ⟨hc165, hm⟩
  · refine G_cond_t (b := r161.1) hc165 (by kernel_rfl) ?_
    refine G_seq ?_
    refine G_region ?_
    refine W_run 2 [(5, .pointer (some ⟨b23, 0, none⟩)), (15, .int .i64 r157.1), (16, .pointer (some ⟨b23, 0, none⟩))] w162 (by kernel_rfl) ?_
    obtain ⟨r166, hr166, hm⟩ := gx_bind hm
    refine W_call 70 #[.pointer (some ⟨b23, 0, none⟩)] (by kernel_rfl) (by kernel_rfl) ?_
    refine (c_s_l1Cur_word16 w162 (⟨x16, r161.2.1, r161.2.2⟩ : l1Cur) p18 c19 (h20.mem0 M164) b23 (M164.hasPick [0]) (M164.nodupPick [0] (by kernel_rfl)) (apartX.old0 h20 M164 [0]) hr166).mono ?_
    rintro e_ w167 ⟨rfl, K168⟩
    have M169 := M164.callF' [0] [] (by kernel_rfl) K168
    refine ⟨_, rfl, ?_⟩
    refine W_run 1 [(15, .int .i64 r157.1), (17, .int .i64 r166.1), (18, .pointer (some ⟨b23, 0, none⟩))] w167 (by kernel_rfl) ?_
    obtain ⟨r170, hr170, hm⟩ := gx_bind hm
    refine W_call 70 #[.pointer (some ⟨b23, 0, none⟩)] (by kernel_rfl) (by kernel_rfl) ?_
    refine (c_s_l1Cur_word16 w167 (⟨x16, r166.2.1, r166.2.2⟩ : l1Cur) p18 c19 (h20.mem0 M169) b23 (M169.hasPick [0]) (M169.nodupPick [0] (by kernel_rfl)) (apartX.old0 h20 M169 [0]) hr170).mono ?_
    rintro e_ w171 ⟨rfl, K172⟩
    have M173 := M169.callF' [0] [] (by kernel_rfl) K172
    refine ⟨_, rfl, ?_⟩
    refine W_run 3 [(2, .int .i64 r157.1), (3, .int .i64 r166.1), (4, .int .i64 r170.1)] w171 (by kernel_rfl) ?_
    refine W_nil ?_
    refine N_then ?_
    refine G_ret ?_
    refine N_then_ret ?_
    obtain rfl := Option.some.inj hm
    refine N_ret [.int .i64 r157.1, .int .i64 r166.1, .int .i64 r170.1] (RVs_cons (RV_tmp (by kernel_rfl)) (RVs_cons (RV_tmp (by kernel_rfl)) (RVs_cons (RV_tmp (by kernel_rfl)) RVs_nil))) ?_
    exact ⟨rfl, M173.pick [] (by kernel_rfl)⟩
  · refine G_cond_f (b := r161.1) hc165 (by kernel_rfl) ?_
    refine G_skip ?_
    refine N_then ?_
    refine G_seq ?_
    refine G_region ?_
    refine W_run 1 [(5, .pointer (some ⟨b23, 0, none⟩)), (6, .int .i64 r157.1), (20, .int .i64 r157.1)] w162 (by kernel_rfl) ?_
    obtain ⟨r177, hr177, hm⟩ := gx_bind hm
    refine W_call 72 #[.int .i64 0, .int .i64 r157.1] (by kernel_rfl) (by kernel_rfl) ?_
    refine (c_s_l1Most w162 0 r157.1 hr177).mono ?_
    rintro e_ w178 ⟨rfl, K179⟩
    have M180 := M164.call0 K179
    refine ⟨_, rfl, ?_⟩
    refine W_run 1 [(5, .pointer (some ⟨b23, 0, none⟩)), (6, .int .i64 r157.1), (7, .int .i64 r177)] w178 (by kernel_rfl) ?_
    refine W_nil ?_
    refine N_then ?_
    refine G_seq ?_
    refine G_region ?_
    refine W_run 3 [(5, .pointer (some ⟨b23, 0, none⟩)), (7, .int .i64 r177), (22, .int .i64 r157.1), (23, .int .i64 r177), (24, .pointer (some ⟨b23, 0, none⟩))] w178 (by kernel_rfl) ?_
    obtain ⟨r181, hr181, hm⟩ := gx_bind hm
    refine W_call 73 #[.pointer (some ⟨b23, 0, none⟩), .int .i64 6] (by kernel_rfl) (by kernel_rfl) ?_
    refine (c_s_l1Cur_pick w178 (⟨x16, r161.2.1, r161.2.2⟩ : l1Cur) p18 c19 (h20.mem0 M180) b23 6 (M180.hasPick [0]) (M180.nodupPick [0] (by kernel_rfl)) (apartX.old0 h20 M180 [0]) hr181).mono ?_
    rintro e_ w182 ⟨rfl, K183⟩
    have M184 := M180.callF' [0] [] (by kernel_rfl) K183
    refine ⟨_, rfl, ?_⟩
    refine W_run 4 [(22, .int .i64 r157.1), (27, .int .i64 ((w64 (r177 + r181.1)).tmod 65536)), (28, .int .i64 r177), (29, .pointer (some ⟨b23, 0, none⟩))] w182 (by kernel_rfl) ?_
    obtain ⟨r185, hr185, hm⟩ := gx_bind hm
    refine W_call 73 #[.pointer (some ⟨b23, 0, none⟩), .int .i64 7] (by kernel_rfl) (by kernel_rfl) ?_
    refine (c_s_l1Cur_pick w182 (⟨x16, r181.2.1, r181.2.2⟩ : l1Cur) p18 c19 (h20.mem0 M184) b23 7 (M184.hasPick [0]) (M184.nodupPick [0] (by kernel_rfl)) (apartX.old0 h20 M184 [0]) hr185).mono ?_
    rintro e_ w186 ⟨rfl, K187⟩
    have M188 := M184.callF' [0] [] (by kernel_rfl) K187
    refine ⟨_, rfl, ?_⟩
    refine W_run 5 [(2, .int .i64 r157.1), (3, .int .i64 ((w64 (r177 + r181.1)).tmod 65536)), (4, .int .i64 ((w64 (r177 + r185.1)).tmod 65536))] w186 (by kernel_rfl) ?_
    refine W_nil ?_
    refine N_then ?_
    refine G_ret ?_
    obtain rfl := Option.some.inj hm
    refine N_ret [.int .i64 r157.1, .int .i64 ((w64 (r177 + r181.1)).tmod 65536), .int .i64 ((w64 (r177 + r185.1)).tmod 65536)] (RVs_cons (RV_tmp (by kernel_rfl)) (RVs_cons (RV_tmp (by kernel_rfl)) (RVs_cons (RV_tmp (by kernel_rfl)) RVs_nil))) ?_
    exact ⟨rfl, M188.pick [] (by kernel_rfl)⟩
theorem c_i_inside (w : World) (x197 : Int) (x198 : Int) (x199 : Int) {r : Bool} (hm : M.i_inside x197 x198 x199 = some r) :
    Calls Try.prog 78 #[.int .i64 x197, .int .i64 x198, .int .i64 x199] w fun e w' => e = .returned (.bool r) ∧ Mem [] w w' [] := by
  unfold M.i_inside at hm
  refine C_enter Try.func78 rfl (by kernel_rfl) ?_
  have M0 := Mem.refl [] w
  refine G_seq ?_
  refine G_region ?_
  refine W_run 1 [(0, .int .i64 x197), (1, .int .i64 x198), (2, .int .i64 x199)] w (by kernel_rfl) ?_
  refine W_nil ?_
  refine N_then ?_
  refine G_seq ?_
  obtain ⟨o201, ho202, hm203⟩ := gx_bind hm
  refine G_meet (fun a w' => Mem [] w w' [] ∧ Sat Try.f78.ntmps [(6, .bool o201)] a) ?_ ?_
  · have hm := ho202
    refine G_region ?_
    refine W_run 4 [(0, .int .i64 x197), (2, .int .i64 x199), (10, .bool (decide (x197 ≥ x198)))] w (by kernel_rfl) ?_
    rcases gx_bif hm with ⟨hc204, hm⟩ | ⟨hc204, hm⟩
    · refine W_known 10 true (by kernel_rfl) hc204 ?_
      refine W_run 5 [(6, .bool (decide (x197 ≤ x199)))] w (by kernel_rfl) ?_
      refine W_nil ?_
      obtain rfl := Option.some.inj hm
      exact N_meet fun a ha => ⟨M0.pick [] (by kernel_rfl), ha.sub (by kernel_rfl)⟩
    · refine W_known 10 false (by kernel_rfl) hc204 ?_
      refine W_run 5 [(6, .bool false)] w (by kernel_rfl) ?_
      refine W_nil ?_
      obtain rfl := Option.some.inj hm
      exact N_meet fun a ha => ⟨M0.pick [] (by kernel_rfl), ha.sub (by kernel_rfl)⟩
  · intro a207 w205 ⟨M206, hS208⟩
    refine N_use hS208 ?_
    have hm := hm203
    refine N_then ?_
    refine G_ret ?_
    obtain rfl := Option.some.inj hm
    refine N_ret [.bool o201] (RVs_cons (RV_tmp (by kernel_rfl)) RVs_nil) ?_
    exact ⟨rfl, M206.pick [] (by kernel_rfl)⟩
theorem c_i_isWord16 (w : World) (x196 : Int) {r : Bool} (hm : M.i_isWord16 x196 = some r) :
    Calls Try.prog 53 #[.int .i64 x196] w fun e w' => e = .returned (.bool r) ∧ Mem [] w w' [] := by
  unfold M.i_isWord16 at hm
  refine C_enter Try.func53 rfl (by kernel_rfl) ?_
  have M0 := Mem.refl [] w
  refine G_seq ?_
  refine G_region ?_
  refine W_run 1 [(0, .int .i64 x196)] w (by kernel_rfl) ?_
  refine W_nil ?_
  refine N_then ?_
  refine G_seq ?_
  refine G_region ?_
  refine W_run 1 [(3, .int .i64 x196)] w (by kernel_rfl) ?_
  obtain ⟨r209, hr209, hm⟩ := gx_bind hm
  refine W_call 78 #[.int .i64 x196, .int .i64 0, .int .i64 65535] (by kernel_rfl) (by kernel_rfl) ?_
  refine (c_i_inside w x196 0 65535 hr209).mono ?_
  rintro e_ w210 ⟨rfl, K211⟩
  have M212 := M0.call0 K211
  refine ⟨_, rfl, ?_⟩
  refine W_run 1 [(2, .bool r209)] w210 (by kernel_rfl) ?_
  refine W_nil ?_
  refine N_then ?_
  refine G_ret ?_
  obtain rfl := Option.some.inj hm
  refine N_ret [.bool r209] (RVs_cons (RV_tmp (by kernel_rfl)) RVs_nil) ?_
  exact ⟨rfl, M212.pick [] (by kernel_rfl)⟩
theorem c_i_stepsTo (w : World) (x249 : Int) (x250 : Int) {r : Int} (hm : M.i_stepsTo x249 x250 = some r) :
    Calls Try.prog 54 #[.int .i64 x249, .int .i64 x250] w fun e w' => e = .returned (.int .i64 r) ∧ Mem [] w w' [] := by
  unfold M.i_stepsTo at hm
  refine C_enter Try.func54 rfl (by kernel_rfl) ?_
  have M0 := Mem.refl [] w
  refine G_seq ?_
  refine G_region ?_
  refine W_run 1 [(0, .int .i64 x249), (1, .int .i64 x250)] w (by kernel_rfl) ?_
  refine W_nil ?_
  refine N_then ?_
  refine G_seq ?_
  refine G_region ?_
  refine W_run 5 [(4, .int .i64 (gxAnd .i64 (w64 (x250 - x249)) 65535))] w (by kernel_rfl) ?_
  refine W_nil ?_
  refine N_then ?_
  refine G_ret ?_
  obtain rfl := Option.some.inj hm
  refine N_ret [.int .i64 (gxAnd .i64 (w64 (x250 - x249)) 65535)] (RVs_cons (RV_tmp (by kernel_rfl)) RVs_nil) ?_
  exact ⟨rfl, M0.pick [] (by kernel_rfl)⟩
theorem c_i_NeedsSignal (w : World) (x193 : Int) (x194 : Int) (x195 : Int) {r : Bool × Bool} (hm : M.i_NeedsSignal x193 x194 x195 = some r) :
    Calls Try.prog 15 #[.int .i64 x193, .int .i64 x194, .int .i64 x195] w fun e w' => e = .returned (.tuple #[.bool r.1, .bool r.2]) ∧ Mem [] w w' [] := by
  unfold M.i_NeedsSignal at hm
  refine C_enter Try.func15 rfl (by kernel_rfl) ?_
  have M0 := Mem.refl [] w
  refine G_seq ?_
  refine G_region ?_
  refine W_run 2 [(0, .int .i64 x193), (1, .int .i64 x194), (2, .int .i64 x195)] w (by kernel_rfl) ?_
  refine W_nil ?_
  refine N_then ?_
  refine G_seq ?_
  refine G_seq ?_
  obtain ⟨o227, ho228, hm229⟩ := gx_bind hm
  refine G_meet (fun a w' => Mem [] w w' [] ∧ Sat Try.f15.ntmps [(0, .int .i64 x193), (1, .int .i64 x194), (2, .int .i64 x195), (20, .bool o227)] a) ?_ ?_
  · have hm := ho228
    refine G_region ?_
    refine W_run 1 [(0, .int .i64 x193), (1, .int .i64 x194), (2, .int .i64 x195), (8, .int .i64 x193)] w (by kernel_rfl) ?_
    obtain ⟨r230, hr230, hm⟩ := gx_bind hm
    refine W_call 53 #[.int .i64 x193] (by kernel_rfl) (by kernel_rfl) ?_
    refine (c_i_isWord16 w x193 hr230).mono ?_
    rintro e_ w231 ⟨rfl, K232⟩
    have M233 := M0.call0 K232
    refine ⟨_, rfl, ?_⟩
    refine W_run 2 [(0, .int .i64 x193), (1, .int .i64 x194), (2, .int .i64 x195), (11, .bool (!r230))] w231 (by kernel_rfl) ?_
    rcases gx_bif hm with ⟨hc234, hm⟩ | ⟨hc234, hm⟩
    · refine W_known 11 true (by kernel_rfl) hc234 ?_
      refine W_run 9 [(0, .int .i64 x193), (1, .int .i64 x194), (2, .int .i64 x195), (20, .bool true)] w231 (by kernel_rfl) ?_
      refine W_nil ?_
      obtain rfl := Option.some.inj hm
      exact N_meet fun a ha => ⟨M233.pick [] (by kernel_rfl), ha.sub (by kernel_rfl)⟩
    · refine W_known 11 false (by kernel_rfl) hc234 ?_
      refine W_run 1 [(0, .int .i64 x193), (1, .int .i64 x194), (2, .int .i64 x195), (11, .bool false), (12, .int .i64 x194)] w231 (by kernel_rfl) ?_
      obtain ⟨r235, hr235, hm⟩ := gx_bind hm
      refine W_call 53 #[.int .i64 x194] (by kernel_rfl) (by kernel_rfl) ?_
      refine (c_i_isWord16 w231 x194 hr235).mono ?_
      rintro e_ w236 ⟨rfl, K237⟩
      have M238 := M233.call0 K237
      refine ⟨_, rfl, ?_⟩
      refine W_run 3 [(0, .int .i64 x193), (1, .int .i64 x194), (2, .int .i64 x195), (16, .bool (!r235))] w236 (by kernel_rfl) ?_
      rcases gx_bif hm with ⟨hc239, hm⟩ | ⟨hc239, hm⟩
      · refine W_known 16 true (by kernel_rfl) hc239 ?_
        refine W_run 4 [(0, .int .i64 x193), (1, .int .i64 x194), (2, .int .i64 x195), (20, .bool true)] w236 (by kernel_rfl) ?_
        refine W_nil ?_
        obtain rfl := Option.some.inj hm
        exact N_meet fun a ha => ⟨M238.pick [] (by kernel_rfl), ha.sub (by kernel_rfl)⟩
      · refine W_known 16 false (by kernel_rfl) hc239 ?_
        refine W_run 1 [(0, .int .i64 x193), (1, .int .i64 x194), (2, .int .i64 x195), (16, .bool false), (17, .int .i64 x195)] w236 (by kernel_rfl) ?_
        obtain ⟨r240, hr240, hm⟩ := gx_bind hm
        refine W_call 53 #[.int .i64 x195] (by kernel_rfl) (by kernel_rfl) ?_
        refine (c_i_isWord16 w236 x195 hr240).mono ?_
        rintro e_ w241 ⟨rfl, K242⟩
        have M243 := M238.call0 K242
        refine ⟨_, rfl, ?_⟩
        refine W_run 2 [(0, .int .i64 x193), (1, .int .i64 x194), (2, .int .i64 x195), (20, .bool (!r240))] w241 (by kernel_rfl) ?_
        refine W_nil ?_
        obtain rfl := Option.some.inj hm
        exact N_meet fun a ha => ⟨M243.pick [] (by kernel_rfl), ha.sub (by kernel_rfl)⟩
  · intro a246 w244 ⟨M245, hS247⟩
    refine N_use hS247 ?_
    have hm := hm229
    refine N_then ?_
    rcases gx_bif hm with ⟨hc248, hm⟩ | ⟨hc248, hm⟩
    · refine G_cond_t (b := o227) hc248 (by kernel_rfl) ?_
      refine G_seq ?_
      refine G_region ?_
      refine W_run 2 [(6, .bool false), (7, .bool false)] w244 (by kernel_rfl) ?_
      refine W_nil ?_
      refine N_then ?_
      refine G_ret ?_
      refine N_then_ret ?_
      obtain rfl := Option.some.inj hm
      refine N_ret [.bool false, .bool false] (RVs_cons (RV_tmp (by kernel_rfl)) (RVs_cons (RV_tmp (by kernel_rfl)) RVs_nil)) ?_
      exact ⟨rfl, M245.pick [] (by kernel_rfl)⟩
    · refine G_cond_f (b := o227) hc248 (by kernel_rfl) ?_
      refine G_skip ?_
      refine N_then ?_
      refine G_seq ?_
      refine G_region ?_
      refine W_run 2 [(0, .int .i64 x193), (1, .int .i64 x194), (21, .int .i64 x193), (22, .int .i64 x195)] w244 (by kernel_rfl) ?_
      obtain ⟨r251, hr251, hm⟩ := gx_bind hm
      refine W_call 54 #[.int .i64 x193, .int .i64 x195] (by kernel_rfl) (by kernel_rfl) ?_
      refine (c_i_stepsTo w244 x193 x195 hr251).mono ?_
      rintro e_ w252 ⟨rfl, K253⟩
      have M254 := M245.call0 K253
      refine ⟨_, rfl, ?_⟩
      refine W_run 2 [(23, .int .i64 r251), (24, .int .i64 x193), (25, .int .i64 x194)] w252 (by kernel_rfl) ?_
      obtain ⟨r255, hr255, hm⟩ := gx_bind hm
      refine W_call 54 #[.int .i64 x193, .int .i64 x194] (by kernel_rfl) (by kernel_rfl) ?_
      refine (c_i_stepsTo w252 x193 x194 hr255).mono ?_
      rintro e_ w256 ⟨rfl, K257⟩
      have M258 := M254.call0 K257
      refine ⟨_, rfl, ?_⟩
      refine W_run 3 [(6, .bool (decide (r251 < r255))), (7, .bool true)] w256 (by kernel_rfl) ?_
      refine W_nil ?_
      refine N_then ?_
      refine G_ret ?_
      obtain rfl := Option.some.inj hm
      refine N_ret [.bool (decide (r251 < r255)), .bool true] (RVs_cons (RV_tmp (by kernel_rfl)) (RVs_cons (RV_tmp (by kernel_rfl)) RVs_nil)) ?_
      exact ⟨rfl, M258.pick [] (by kernel_rfl)⟩
theorem c_s_l1In (w : World) (x267 : Int) (x268 : Int) (x269 : Int) {r : Bool} (hm : M.s_l1In x267 x268 x269 = some r) :
    Calls Try.prog 77 #[.int .i64 x267, .int .i64 x268, .int .i64 x269] w fun e w' => e = .returned (.bool r) ∧ Mem [] w w' [] := by
  unfold M.s_l1In at hm
  refine C_enter Try.func77 rfl (by kernel_rfl) ?_
  have M0 := Mem.refl [] w
  refine G_seq ?_
  refine G_region ?_
  refine W_run 1 [(0, .int .i64 x267), (1, .int .i64 x268), (2, .int .i64 x269)] w (by kernel_rfl) ?_
  refine W_nil ?_
  refine N_then ?_
  refine G_seq ?_
  obtain ⟨o271, ho272, hm273⟩ := gx_bind hm
  refine G_meet (fun a w' => Mem [] w w' [] ∧ Sat Try.f77.ntmps [(6, .bool o271)] a) ?_ ?_
  · have hm := ho272
    refine G_region ?_
    refine W_run 4 [(0, .int .i64 x267), (2, .int .i64 x269), (10, .bool (decide (x267 ≥ x268)))] w (by kernel_rfl) ?_
    rcases gx_bif hm with ⟨hc274, hm⟩ | ⟨hc274, hm⟩
    · refine W_known 10 true (by kernel_rfl) hc274 ?_
      refine W_run 5 [(6, .bool (decide (x267 ≤ x269)))] w (by kernel_rfl) ?_
      refine W_nil ?_
      obtain rfl := Option.some.inj hm
      exact N_meet fun a ha => ⟨M0.pick [] (by kernel_rfl), ha.sub (by kernel_rfl)⟩
    · refine W_known 10 false (by kernel_rfl) hc274 ?_
      refine W_run 5 [(6, .bool false)] w (by kernel_rfl) ?_
      refine W_nil ?_
      obtain rfl := Option.some.inj hm
      exact N_meet fun a ha => ⟨M0.pick [] (by kernel_rfl), ha.sub (by kernel_rfl)⟩
  · intro a277 w275 ⟨M276, hS278⟩
    refine N_use hS278 ?_
    have hm := hm273
    refine N_then ?_
    refine G_ret ?_
    obtain rfl := Option.some.inj hm
    refine N_ret [.bool o271] (RVs_cons (RV_tmp (by kernel_rfl)) RVs_nil) ?_
    exact ⟨rfl, M276.pick [] (by kernel_rfl)⟩
theorem c_s_l2Word16 (w : World) (x266 : Int) {r : Bool} (hm : M.s_l2Word16 x266 = some r) :
    Calls Try.prog 52 #[.int .i64 x266] w fun e w' => e = .returned (.bool r) ∧ Mem [] w w' [] := by
  unfold M.s_l2Word16 at hm
  refine C_enter Try.func52 rfl (by kernel_rfl) ?_
  have M0 := Mem.refl [] w
  refine G_seq ?_
  refine G_region ?_
  refine W_run 1 [(0, .int .i64 x266)] w (by kernel_rfl) ?_
  refine W_nil ?_
  refine N_then ?_
  refine G_seq ?_
  refine G_region ?_
  refine W_run 1 [(3, .int .i64 x266)] w (by kernel_rfl) ?_
  obtain ⟨r279, hr279, hm⟩ := gx_bind hm
  refine W_call 77 #[.int .i64 x266, .int .i64 0, .int .i64 65535] (by kernel_rfl) (by kernel_rfl) ?_
  refine (c_s_l1In w x266 0 65535 hr279).mono ?_
  rintro e_ w280 ⟨rfl, K281⟩
  have M282 := M0.call0 K281
  refine ⟨_, rfl, ?_⟩
  refine W_run 1 [(2, .bool r279)] w280 (by kernel_rfl) ?_
  refine W_nil ?_
  refine N_then ?_
  refine G_ret ?_
  obtain rfl := Option.some.inj hm
  refine N_ret [.bool r279] (RVs_cons (RV_tmp (by kernel_rfl)) RVs_nil) ?_
  exact ⟨rfl, M282.pick [] (by kernel_rfl)⟩
theorem c_s_NeedsSignal (w : World) (x263 : Int) (x264 : Int) (x265 : Int) {r : Bool × Bool} (hm : M.s_NeedsSignal x263 x264 x265 = some r) :
    Calls Try.prog 14 #[.int .i64 x263, .int .i64 x264, .int .i64 x265] w fun e w' => e = .returned (.tuple #[.bool r.1, .bool r.2]) ∧ Mem [] w w' [] := by
  unfold M.s_NeedsSignal at hm
  refine C_enter Try.func14 rfl (by kernel_rfl) ?_
  have M0 := Mem.refl [] w
  refine G_seq ?_
  refine G_region ?_
  refine W_run 2 [(0, .int .i64 x263), (1, .int .i64 x264), (2, .int .i64 x265)] w (by kernel_rfl) ?_
  refine W_nil ?_
  refine N_then ?_
  refine G_seq ?_
  refine G_seq ?_
  obtain ⟨o297, ho298, hm299⟩ := gx_bind hm
  refine G_meet (fun a w' => Mem [] w w' [] ∧ Sat Try.f14.ntmps [(0, .int .i64 x263), (1, .int .i64 x264), (2, .int .i64 x265), (20, .bool o297)] a) ?_ ?_
  · have hm := ho298
    refine G_region ?_
    refine W_run 1 [(0, .int .i64 x263), (1, .int .i64 x264), (2, .int .i64 x265), (8, .int .i64 x263)] w (by kernel_rfl) ?_
    obtain ⟨r300, hr300, hm⟩ := gx_bind hm
    refine W_call 52 #[.int .i64 x263] (by kernel_rfl) (by kernel_rfl) ?_
    refine (c_s_l2Word16 w x263 hr300).mono ?_
    rintro e_ w301 ⟨rfl, K302⟩
    have M303 := M0.call0 K302
    refine ⟨_, rfl, ?_⟩
    refine W_run 2 [(0, .int .i64 x263), (1, .int .i64 x264), (2, .int .i64 x265), (11, .bool (!r300))] w301 (by kernel_rfl) ?_
    rcases gx_bif hm with ⟨hc304, hm⟩ | ⟨hc304, hm⟩
    · refine W_known 11 true (by kernel_rfl) hc304 ?_
      refine W_run 9 [(0, .int .i64 x263), (1, .int .i64 x264), (2, .int .i64 x265), (20, .bool true)] w301 (by kernel_rfl) ?_
      refine W_nil ?_
      obtain rfl := Option.some.inj hm
      exact N_meet fun a ha => ⟨M303.pick [] (by kernel_rfl), ha.sub (by kernel_rfl)⟩
    · refine W_known 11 false (by kernel_rfl) hc304 ?_
      refine W_run 1 [(0, .int .i64 x263), (1, .int .i64 x264), (2, .int .i64 x265), (11, .bool false), (12, .int .i64 x264)] w301 (by kernel_rfl) ?_
      obtain ⟨r305, hr305, hm⟩ := gx_bind hm
      refine W_call 52 #[.int .i64 x264] (by kernel_rfl) (by kernel_rfl) ?_
      refine (c_s_l2Word16 w301 x264 hr305).mono ?_
      rintro e_ w306 ⟨rfl, K307⟩
      have M308 := M303.call0 K307
      refine ⟨_, rfl, ?_⟩
      refine W_run 3 [(0, .int .i64 x263), (1, .int .i64 x264), (2, .int .i64 x265), (16, .bool (!r305))] w306 (by kernel_rfl) ?_
      rcases gx_bif hm with ⟨hc309, hm⟩ | ⟨hc309, hm⟩
      · refine W_known 16 true (by kernel_rfl) hc309 ?_
        refine W_run 4 [(0, .int .i64 x263), (1, .int .i64 x264), (2, .int .i64 x265), (20, .bool true)] w306 (by kernel_rfl) ?_
        refine W_nil ?_
        obtain rfl := Option.some.inj hm
        exact N_meet fun a ha => ⟨M308.pick [] (by kernel_rfl), ha.sub (by kernel_rfl)⟩
      · refine W_known 16 false (by kernel_rfl) hc309 ?_
        refine W_run 1 [(0, .int .i64 x263), (1, .int .i64 x264), (2, .int .i64 x265), (16, .bool false), (17, .int .i64 x265)] w306 (by kernel_rfl) ?_
        obtain ⟨r310, hr310, hm⟩ := gx_bind hm
        refine W_call 52 #[.int .i64 x265] (by kernel_rfl) (by kernel_rfl) ?_
        refine (c_s_l2Word16 w306 x265 hr310).mono ?_
        rintro e_ w311 ⟨rfl, K312⟩
        have M313 := M308.call0 K312
        refine ⟨_, rfl, ?_⟩
        refine W_run 2 [(0, .int .i64 x263), (1, .int .i64 x264), (2, .int .i64 x265), (20, .bool (!r310))] w311 (by kernel_rfl) ?_
        refine W_nil ?_
        obtain rfl := Option.some.inj hm
        exact N_meet fun a ha => ⟨M313.pick [] (by kernel_rfl), ha.sub (by kernel_rfl)⟩
  · intro a316 w314 ⟨M315, hS317⟩
    refine N_use hS317 ?_
    have hm := hm299
    refine N_then ?_
    rcases gx_bif hm with ⟨hc318, hm⟩ | ⟨hc318, hm⟩
    · refine G_cond_t (b := o297) hc318 (by kernel_rfl) ?_
      refine G_seq ?_
      refine G_region ?_
      refine W_run 2 [(6, .bool false), (7, .bool false)] w314 (by kernel_rfl) ?_
      refine W_nil ?_
      refine N_then ?_
      refine G_ret ?_
      refine N_then_ret ?_
      obtain rfl := Option.some.inj hm
      refine N_ret [.bool false, .bool false] (RVs_cons (RV_tmp (by kernel_rfl)) (RVs_cons (RV_tmp (by kernel_rfl)) RVs_nil)) ?_
      exact ⟨rfl, M315.pick [] (by kernel_rfl)⟩
    · refine G_cond_f (b := o297) hc318 (by kernel_rfl) ?_
      refine G_skip ?_
      refine N_then ?_
      refine G_seq ?_
      refine G_region ?_
      refine W_run 13 [(6, .bool (decide (((w64 ((w64 (x265 - x263)) + 65536)).tmod 65536) < ((w64 ((w64 (x264 - x263)) + 65536)).tmod 65536)))), (7, .bool true)] w314 (by kernel_rfl) ?_
      refine W_nil ?_
      refine N_then ?_
      refine G_ret ?_
      obtain rfl := Option.some.inj hm
      refine N_ret [.bool (decide (((w64 ((w64 (x265 - x263)) + 65536)).tmod 65536) < ((w64 ((w64 (x264 - x263)) + 65536)).tmod 65536))), .bool true] (RVs_cons (RV_tmp (by kernel_rfl)) (RVs_cons (RV_tmp (by kernel_rfl)) RVs_nil)) ?_
      exact ⟨rfl, M315.pick [] (by kernel_rfl)⟩
theorem c_s_l20Places (w : World) (x584 : Int) {r : Bool} (hm : M.s_l20Places x584 = some r) :
    Calls Try.prog 55 #[.int .i64 x584] w fun e w' => e = .returned (.bool r) ∧ Mem [] w w' [] := by
  unfold M.s_l20Places at hm
  refine C_enter Try.func55 rfl (by kernel_rfl) ?_
  have M0 := Mem.refl [] w
  refine G_seq ?_
  refine G_region ?_
  refine W_run 1 [(0, .int .i64 x584)] w (by kernel_rfl) ?_
  refine W_nil ?_
  refine N_then ?_
  refine G_seq ?_
  obtain ⟨o588, ho589, hm590⟩ := gx_bind hm
  refine G_meet (fun a w' => Mem [] w w' [] ∧ Sat Try.f55.ntmps [(2, .bool o588)] a) ?_ ?_
  · have hm := ho589
    refine G_region ?_
    refine W_run 3 [(0, .int .i64 x584), (5, .bool (x584 == 1))] w (by kernel_rfl) ?_
    rcases gx_bif hm with ⟨hc591, hm⟩ | ⟨hc591, hm⟩
    · refine W_known 5 true (by kernel_rfl) hc591 ?_
      refine W_run 12 [(2, .bool true)] w (by kernel_rfl) ?_
      refine W_nil ?_
      obtain rfl := Option.some.inj hm
      exact N_meet fun a ha => ⟨M0.pick [] (by kernel_rfl), ha.sub (by kernel_rfl)⟩
    · refine W_known 5 false (by kernel_rfl) hc591 ?_
      refine W_run 4 [(0, .int .i64 x584), (9, .bool (x584 == 2))] w (by kernel_rfl) ?_
      rcases gx_bif hm with ⟨hc592, hm⟩ | ⟨hc592, hm⟩
      · refine W_known 9 true (by kernel_rfl) hc592 ?_
        refine W_run 8 [(2, .bool true)] w (by kernel_rfl) ?_
        refine W_nil ?_
        obtain rfl := Option.some.inj hm
        exact N_meet fun a ha => ⟨M0.pick [] (by kernel_rfl), ha.sub (by kernel_rfl)⟩
      · refine W_known 9 false (by kernel_rfl) hc592 ?_
        refine W_run 4 [(0, .int .i64 x584), (13, .bool (x584 == 4))] w (by kernel_rfl) ?_
        rcases gx_bif hm with ⟨hc593, hm⟩ | ⟨hc593, hm⟩
        · refine W_known 13 true (by kernel_rfl) hc593 ?_
          refine W_run 4 [(2, .bool true)] w (by kernel_rfl) ?_
          refine W_nil ?_
          obtain rfl := Option.some.inj hm
          exact N_meet fun a ha => ⟨M0.pick [] (by kernel_rfl), ha.sub (by kernel_rfl)⟩
        · refine W_known 13 false (by kernel_rfl) hc593 ?_
          refine W_run 4 [(2, .bool (x584 == 8))] w (by kernel_rfl) ?_
          refine W_nil ?_
          obtain rfl := Option.some.inj hm
          exact N_meet fun a ha => ⟨M0.pick [] (by kernel_rfl), ha.sub (by kernel_rfl)⟩
  · intro a596 w594 ⟨M595, hS597⟩
    refine N_use hS597 ?_
    have hm := hm590
    refine N_then ?_
    refine G_ret ?_
    obtain rfl := Option.some.inj hm
    refine N_ret [.bool o588] (RVs_cons (RV_tmp (by kernel_rfl)) RVs_nil) ?_
    exact ⟨rfl, M595.pick [] (by kernel_rfl)⟩
theorem c_s_MakeRing (w : World) (x573 : Int) (x574 : Int) {r : Ring × Bool} (hm : M.s_MakeRing x573 x574 = some r) :
    Calls Try.prog 16 #[.int .i64 x573, .int .i64 x574] w fun e w' => ∃ (p576 : Option Addr) (c577 : Nat) (sg578 : Seg), e = .returned (.tuple #[.agg #[.slice p576 r.1.Items.length c577, .int .i64 r.1.Head, .int .i64 r.1.Tail], .bool r.2]) ∧ ownS encI r.1.Items p576 c577 sg578 ∧ Mem [] w w' [sg578] := by
  unfold M.s_MakeRing at hm
  refine C_enter Try.func16 rfl (by kernel_rfl) ?_
  have M0 := Mem.refl [] w
  refine G_seq ?_
  refine G_region ?_
  refine W_new (fun b => .pointer (some ⟨b, 0, none⟩)) (.cells ⟨[.slice none 0 0, .int .i64 0, .int .i64 0]⟩ 27 (0, 0)) M0 rfl (by kernel_rfl) (by kernel_rfl) ?_
  intro b581 w582 M583
  refine W_run 1 [(0, .int .i64 x573), (1, .int .i64 x574), (4, .pointer (some ⟨b581, 0, none⟩))] w582 (by kernel_rfl) ?_
  refine W_nil ?_
  refine N_then ?_
  refine G_seq ?_
  refine G_seq ?_
  obtain ⟨o607, ho608, hm609⟩ := gx_bind hm
  refine G_meet (fun a w' => Mem [] w w' [[(b581, .cells ⟨[.slice none 0 0, .int .i64 0, .int .i64 0]⟩ 27 (0, 0))]] ∧ Sat Try.f16.ntmps [(0, .int .i64 x573), (1, .int .i64 x574), (4, .pointer (some ⟨b581, 0, none⟩)), (13, .bool o607)] a) ?_ ?_
  · have hm := ho608
    refine G_region ?_
    refine W_run 1 [(0, .int .i64 x573), (1, .int .i64 x574), (4, .pointer (some ⟨b581, 0, none⟩)), (6, .int .i64 x573)] w582 (by kernel_rfl) ?_
    obtain ⟨r610, hr610, hm⟩ := gx_bind hm
    refine W_call 55 #[.int .i64 x573] (by kernel_rfl) (by kernel_rfl) ?_
    refine (c_s_l20Places w582 x573 hr610).mono ?_
    rintro e_ w611 ⟨rfl, K612⟩
    have M613 := M583.call0 K612
    refine ⟨_, rfl, ?_⟩
    refine W_run 2 [(0, .int .i64 x573), (1, .int .i64 x574), (4, .pointer (some ⟨b581, 0, none⟩)), (9, .bool (!r610))] w611 (by kernel_rfl) ?_
    rcases gx_bif hm with ⟨hc614, hm⟩ | ⟨hc614, hm⟩
    · refine W_known 9 true (by kernel_rfl) hc614 ?_
      refine W_run 4 [(0, .int .i64 x573), (1, .int .i64 x574), (4, .pointer (some ⟨b581, 0, none⟩)), (13, .bool true)] w611 (by kernel_rfl) ?_
      refine W_nil ?_
      obtain rfl := Option.some.inj hm
      exact N_meet fun a ha => ⟨M613.pick [0] (by kernel_rfl), ha.sub (by kernel_rfl)⟩
    · refine W_known 9 false (by kernel_rfl) hc614 ?_
      refine W_run 1 [(0, .int .i64 x573), (1, .int .i64 x574), (4, .pointer (some ⟨b581, 0, none⟩)), (9, .bool false), (10, .int .i64 x574)] w611 (by kernel_rfl) ?_
      obtain ⟨r615, hr615, hm⟩ := gx_bind hm
      refine W_call 52 #[.int .i64 x574] (by kernel_rfl) (by kernel_rfl) ?_
      refine (c_s_l2Word16 w611 x574 hr615).mono ?_
      rintro e_ w616 ⟨rfl, K617⟩
      have M618 := M613.call0 K617
      refine ⟨_, rfl, ?_⟩
      refine W_run 2 [(0, .int .i64 x573), (1, .int .i64 x574), (4, .pointer (some ⟨b581, 0, none⟩)), (13, .bool (!r615))] w616 (by kernel_rfl) ?_
      refine W_nil ?_
      obtain rfl := Option.some.inj hm
      exact N_meet fun a ha => ⟨M618.pick [0] (by kernel_rfl), ha.sub (by kernel_rfl)⟩
  · intro a621 w619 ⟨M620, hS622⟩
    refine N_use hS622 ?_
    have hm := hm609
    refine N_then ?_
    rcases gx_bif hm with ⟨hc623, hm⟩ | ⟨hc623, hm⟩
    · refine G_cond_t (b := o607) hc623 (by kernel_rfl) ?_
      refine G_seq ?_
      refine G_region ?_
      refine W_run 1 [(4, .pointer (some ⟨b581, 0, none⟩)), (14, .agg #[.slice none 0 0, .int .i64 0, .int .i64 0])] w619 (by kernel_rfl) ?_
      refine W_store _ _ _ true 3 b581 0 [.slice none 0 0, .int .i64 0, .int .i64 0] 27 (.agg #[.slice none 0 0, .int .i64 0, .int .i64 0]) 0 [.slice none 0 0, .int .i64 0, .int .i64 0] M620 (by kernel_rfl) rfl (by kernel_rfl) (by kernel_rfl) (by kernel_rfl) (by kernel_rfl) (by kernel_rfl) (by kernel_rfl) (by kernel_rfl) (by kernel_rfl) ?_
      intro w625 M626
      refine W_run 1 [(4, .pointer (some ⟨b581, 0, none⟩)), (5, .bool false)] w625 (by kernel_rfl) ?_
      refine W_nil ?_
      refine N_then ?_
      refine G_ret ?_
      refine N_then_ret ?_
      obtain rfl := Option.some.inj hm
      refine N_ret [.agg #[.slice none 0 0, .int .i64 0, .int .i64 0], .bool false] (RVs_cons (RV_cell (g := true) (k := 3) (b := b581) (off := 0) (cs := [.slice none 0 0, .int .i64 0, .int .i64 0]) (e := 27) (fr := (0, 0)) (v := .agg #[.slice none 0 0, .int .i64 0, .int .i64 0]) (M626.blk 0 (b := b581) (o := .cells ⟨[.slice none 0 0, .int .i64 0, .int .i64 0]⟩ 27 (0, 0)) (by kernel_rfl)) (by kernel_rfl) (by kernel_rfl) (by kernel_rfl)) (RVs_cons (RV_tmp (by kernel_rfl)) RVs_nil)) ?_
      exact ⟨none, 0, [], rfl, ownS_nil, M626.pick [100000] (by kernel_rfl)⟩
    · refine G_cond_f (b := o607) hc623 (by kernel_rfl) ?_
      refine G_skip ?_
      refine N_then ?_
      refine G_seq ?_
      refine G_region ?_
      refine W_run 1 [(1, .int .i64 x574), (4, .pointer (some ⟨b581, 0, none⟩)), (15, .int .i64 x573)] w619 (by kernel_rfl) ?_
      obtain ⟨mk627, hmk627, hm⟩ := gx_bind hm
      refine W_make (E := encI) _ _ _ x573 8 [.int .i64 0] (0 : Int) M620 (by kernel_rfl) rfl (by kernel_rfl) (by kernel_rfl) (by kernel_rfl) (by kernel_rfl) (by kernel_rfl) hmk627 ?_
      intro p628 c629 sg630 w631 ho632 M633
      refine W_run 3 [(4, .pointer (some ⟨b581, 0, none⟩)), (19, .agg #[.slice p628 mk627.length c629, .int .i64 x574, .int .i64 x574])] w631 (by kernel_rfl) ?_
      refine W_store _ _ _ true 3 b581 0 [.slice none 0 0, .int .i64 0, .int .i64 0] 27 (.agg #[.slice p628 mk627.length c629, .int .i64 x574, .int .i64 x574]) 0 [.slice p628 mk627.length c629, .int .i64 x574, .int .i64 x574] M633 (by kernel_rfl) rfl (by kernel_rfl) (by kernel_rfl) (by kernel_rfl) (by kernel_rfl) (by kernel_rfl) (by kernel_rfl) (by kernel_rfl) (by kernel_rfl) ?_
      intro w636 M637
      refine W_run 1 [(4, .pointer (some ⟨b581, 0, none⟩)), (5, .bool true)] w636 (by kernel_rfl) ?_
      refine W_nil ?_
      refine N_then ?_
      refine G_ret ?_
      obtain rfl := Option.some.inj hm
      refine N_ret [.agg #[.slice p628 mk627.length c629, .int .i64 x574, .int .i64 x574], .bool true] (RVs_cons (RV_cell (g := true) (k := 3) (b := b581) (off := 0) (cs := [.slice p628 mk627.length c629, .int .i64 x574, .int .i64 x574]) (e := 27) (fr := (0, 0)) (v := .agg #[.slice p628 mk627.length c629, .int .i64 x574, .int .i64 x574]) (M637.blk 0 (b := b581) (o := .cells ⟨[.slice p628 mk627.length c629, .int .i64 x574, .int .i64 x574]⟩ 27 (0, 0)) (by kernel_rfl)) (by kernel_rfl) (by kernel_rfl) (by kernel_rfl)) (RVs_cons (RV_tmp (by kernel_rfl)) RVs_nil)) ?_
      exact ⟨p628, c629, sg630, rfl, ho632, M637.pick [1] (by kernel_rfl)⟩
theorem c_s_l1Own (w : World) (x684 : List Int) (p686 : Option Addr) (c687 : Nat) (h688 : rdS encI w x684 p686 c687) {r : (List Int)} (hm : M.s_l1Own x684 = some r) :
    Calls Try.prog 62 #[.slice p686 x684.length c687] w fun e w' => ∃ (p690 : Option Addr) (c691 : Nat) (sg692 : Seg), e = .returned (.slice p690 r.length c691) ∧ ownS encI r p690 c691 sg692 ∧ Mem [] w w' [sg692] := by
  unfold M.s_l1Own at hm
  refine C_enter Try.func62 rfl (by kernel_rfl) ?_
  have M0 := Mem.refl [] w
  refine G_seq ?_
  refine G_region ?_
  refine W_run 1 [(0, .slice p686 x684.length c687)] w (by kernel_rfl) ?_
  refine W_nil ?_
  refine N_then ?_
  refine G_seq ?_
  refine G_region ?_
  refine W_lit (E := encI) ([] : List Int) 0 [] 3 M0 (by kernel_rfl) (by kernel_rfl) (by kernel_rfl) (by kernel_rfl) (by kernel_rfl) ?_
  intro p694 c695 sg696 w697 ho698 M699
  refine W_run 1 [(3, .slice p694 ([] : List Int).length c695), (4, .slice p686 x684.length c687)] w697 (by kernel_rfl) ?_
  obtain ⟨ap701, hap701, hm⟩ := gx_bind hm
  refine W_append (E := encI) _ _ _ 8 [.int .i64 0] 0 c687 M699 ho698 (by kernel_rfl) (by kernel_rfl) (by kernel_rfl) rfl (by kernel_rfl) (by kernel_rfl) (by kernel_rfl) (by kernel_rfl) (by kernel_rfl) (by kernel_rfl) (h688.mem0 M699) hap701 ?_
  intro p702 c703 sg704 w705 ho706 M707
  refine W_run 1 [(2, .slice p702 ap701.length c703)] w705 (by kernel_rfl) ?_
  refine W_nil ?_
  refine N_then ?_
  refine G_ret ?_
  obtain rfl := Option.some.inj hm
  refine N_ret [.slice p702 ap701.length c703] (RVs_cons (RV_tmp (by kernel_rfl)) RVs_nil) ?_
  exact ⟨p702, c703, sg704, rfl, ho706, M707.pick [0] (by kernel_rfl)⟩
theorem c_s_l20Count (w : World) (x761 : Ring) (p763 : Option Addr) (c764 : Nat) (h765 : rdS encI w x761.Items p763 c764) {r : Int} (hm : M.s_l20Count x761 = some r) :
    Calls Try.prog 63 #[.agg #[.slice p763 x761.Items.length c764, .int .i64 x761.Head, .int .i64 x761.Tail]] w fun e w' => e = .returned (.int .i64 r) ∧ Mem [] w w' [] := by
  unfold M.s_l20Count at hm
  refine C_enter Try.func63 rfl (by kernel_rfl) ?_
  have M0 := Mem.refl [] w
  refine G_seq ?_
  refine G_region ?_
  refine W_new (fun b => .pointer (some ⟨b, 0, none⟩)) (.cells ⟨[.slice p763 x761.Items.length c764, .int .i64 x761.Head, .int .i64 x761.Tail]⟩ 27 (0, 0)) M0 rfl (by kernel_rfl) (by kernel_rfl) ?_
  intro b767 w768 M769
  refine W_run 1 [(1, .pointer (some ⟨b767, 0, none⟩))] w768 (by kernel_rfl) ?_
  refine W_nil ?_
  refine N_then ?_
  refine G_seq ?_
  refine G_region ?_
  refine W_run 1 [(1, .pointer (some ⟨b767, 0, none⟩)), (3, .pointer (some ⟨b767, 2, none⟩))] w768 (by kernel_rfl) ?_
  refine W_val (.int .i64 x761.Tail) w768 (by kernel_rfl) (E_load (e := 27) (fr := (0, 0)) _ _ false 1 b767 2 [.slice p763 x761.Items.length c764, .int .i64 x761.Head, .int .i64 x761.Tail] (.int .i64 x761.Tail) rfl (by kernel_rfl) (by kernel_rfl) (by kernel_rfl) (M769.blk 0 (b := b767) (o := .cells ⟨[.slice p763 x761.Items.length c764, .int .i64 x761.Head, .int .i64 x761.Tail]⟩ 27 (0, 0)) (by kernel_rfl))) ?_
  refine W_run 1 [(4, .int .i64 x761.Tail), (5, .pointer (some ⟨b767, 1, none⟩))] w768 (by kernel_rfl) ?_
  refine W_val (.int .i64 x761.Head) w768 (by kernel_rfl) (E_load (e := 27) (fr := (0, 0)) _ _ false 1 b767 1 [.slice p763 x761.Items.length c764, .int .i64 x761.Head, .int .i64 x761.Tail] (.int .i64 x761.Head) rfl (by kernel_rfl) (by kernel_rfl) (by kernel_rfl) (M769.blk 0 (b := b767) (o := .cells ⟨[.slice p763 x761.Items.length c764, .int .i64 x761.Head, .int .i64 x761.Tail]⟩ 27 (0, 0)) (by kernel_rfl))) ?_
  refine W_run 4 [(2, .int .i64 ((w64 ((w64 (x761.Tail - x761.Head)) + 65536)).tmod 65536))] w768 (by kernel_rfl) ?_
  refine W_nil ?_
  refine N_then ?_
  refine G_ret ?_
  obtain rfl := Option.some.inj hm
  refine N_ret [.int .i64 ((w64 ((w64 (x761.Tail - x761.Head)) + 65536)).tmod 65536)] (RVs_cons (RV_tmp (by kernel_rfl)) RVs_nil) ?_
  exact ⟨rfl, M769.pick [] (by kernel_rfl)⟩
theorem c_s_l20Take (w : World) (x664 : Ring) (p666 : Option Addr) (c667 : Nat) (h668 : rdS encI w x664.Items p666 c667) {r : Ring × Int} (hm : M.s_l20Take x664 = some r) :
    Calls Try.prog 64 #[.agg #[.slice p666 x664.Items.length c667, .int .i64 x664.Head, .int .i64 x664.Tail]] w fun e w' => ∃ (p670 : Option Addr) (c671 : Nat) (sg672 : Seg), e = .returned (.tuple #[.agg #[.slice p670 r.1.Items.length c671, .int .i64 r.1.Head, .int .i64 r.1.Tail], .int .i64 r.2]) ∧ ownS encI r.1.Items p670 c671 sg672 ∧ Mem [] w w' [sg672] := by
  unfold M.s_l20Take at hm
  refine C_enter Try.func64 rfl (by kernel_rfl) ?_
  have M0 := Mem.refl [] w
  refine G_seq ?_
  refine G_region ?_
  refine W_new (fun b => .pointer (some ⟨b, 0, none⟩)) (.cells ⟨[.slice p666 x664.Items.length c667, .int .i64 x664.Head, .int .i64 x664.Tail]⟩ 27 (0, 0)) M0 rfl (by kernel_rfl) (by kernel_rfl) ?_
  intro b674 w675 M676
  refine W_new (fun b => .pointer (some ⟨b, 0, none⟩)) (.cells ⟨[.slice none 0 0, .int .i64 0, .int .i64 0]⟩ 27 (0, 0)) M676 rfl (by kernel_rfl) (by kernel_rfl) ?_
  intro b679 w680 M681
  refine W_run 1 [(1, .pointer (some ⟨b674, 0, none⟩)), (2, .pointer (some ⟨b679, 0, none⟩))] w680 (by kernel_rfl) ?_
  refine W_nil ?_
  refine N_then ?_
  refine G_seq ?_
  obtain ⟨r709, hr709, hm⟩ := gx_bind hm
  refine G_sub [(1, .pointer (some ⟨b674, 0, none⟩)), (2, .pointer (some ⟨b679, 0, none⟩))] (by kernel_rfl) ?_
  refine G_dagL 9 [[], [0], [1], [], [3], [], [5], [4, 6], []] [[], [], [], [], [], [], [], [], []] [[], [], [], [], [], [], [], [], []] [[], [], [], [], [], [], [], [2], []] [[], [], [], [], [], [], [], [2], []] [[], [], [], [], [], [], [], [], []] (fun _ => []) (fun i => ([fun f v s => v = (.pointer (some ⟨b674, 0, none⟩) : Value) ∧ s = [], fun f v s => v = (.slice p666 x664.Items.length c667 : Value) ∧ s = [], fun f v s => ∃ (p711 : Option Addr) (c712 : Nat), v = (.slice p711 r709.length c712 : Value) ∧ ownS encI r709 p711 c712 s, fun f v s => v = (.pointer (some ⟨b674, 1, none⟩) : Value) ∧ s = [], fun f v s => v = (.int .i64 x664.Head : Value) ∧ s = [], fun f v s => v = (.pointer (some ⟨b674, 2, none⟩) : Value) ∧ s = [], fun f v s => v = (.int .i64 x664.Tail : Value) ∧ s = [], fun f v s => v = (.agg #[(atPath (f 2) []), .int .i64 x664.Head, .int .i64 x664.Tail] : Value) ∧ s = [], fun f v s => ∃ (b718 : Nat), v = (.pointer (some ⟨b718, 0, none⟩) : Value) ∧ s = [(b718, .cells ⟨[.slice none 0 0, .int .i64 0, .int .i64 0]⟩ 27 (0, 0))]] : List ((Nat → Value) → Value → Seg → Prop)).getD i (fun _ _ _ => False)) (fun j f v => ∃ s, (fun i => ([fun f v s => v = (.pointer (some ⟨b674, 0, none⟩) : Value) ∧ s = [], fun f v s => v = (.slice p666 x664.Items.length c667 : Value) ∧ s = [], fun f v s => ∃ (p711 : Option Addr) (c712 : Nat), v = (.slice p711 r709.length c712 : Value) ∧ ownS encI r709 p711 c712 s, fun f v s => v = (.pointer (some ⟨b674, 1, none⟩) : Value) ∧ s = [], fun f v s => v = (.int .i64 x664.Head : Value) ∧ s = [], fun f v s => v = (.pointer (some ⟨b674, 2, none⟩) : Value) ∧ s = [], fun f v s => v = (.int .i64 x664.Tail : Value) ∧ s = [], fun f v s => v = (.agg #[(atPath (f 2) []), .int .i64 x664.Head, .int .i64 x664.Tail] : Value) ∧ s = [], fun f v s => ∃ (b718 : Nat), v = (.pointer (some ⟨b718, 0, none⟩) : Value) ∧ s = [(b718, .cells ⟨[.slice none 0 0, .int .i64 0, .int .i64 0]⟩ 27 (0, 0))]] : List ((Nat → Value) → Value → Seg → Prop)).getD i (fun _ _ _ => False)) j f v s) [] [2, 7, 8] [2, 8] (fun _ _ _ s h => ⟨s, h⟩) (by kernel_rfl) (by kernel_rfl) (M681.preNil 9) (by kernel_rfl) (by kernel_rfl) (by kernel_rfl) (by kernel_rfl) (allOb_cons ?_ (allOb_cons ?_ (allOb_cons ?_ (allOb_cons ?_ (allOb_cons ?_ (allOb_cons ?_ (allOb_cons ?_ (allOb_cons ?_ (allOb_cons ?_ allOb_nil))))))))) ?_
  · intro g682 f683
    intro R w719 M720
    refine W_run 1 [(6, .pointer (some ⟨b674, 0, none⟩))] w719 (by kernel_rfl) ?_
    exact W_nil (ob_end (.pointer (some ⟨b674, 0, none⟩)) [] rfl (by kernel_rfl) ⟨by kernel_rfl, rfl⟩ M720)
  · intro g682 f683
    intro v0_ hb0_
    obtain ⟨rfl, _⟩ := hb0_
    intro R w723 M724
    refine W_val (.slice p666 x664.Items.length c667) w723 (by kernel_rfl) (E_load (e := 27) (fr := (0, 0)) _ _ false 1 b674 0 [.slice p666 x664.Items.length c667, .int .i64 x664.Head, .int .i64 x664.Tail] (.slice p666 x664.Items.length c667) rfl (by kernel_rfl) (by kernel_rfl) (by kernel_rfl) (M724.blk 0 (b := b674) (o := .cells ⟨[.slice p666 x664.Items.length c667, .int .i64 x664.Head, .int .i64 x664.Tail]⟩ 27 (0, 0)) (by kernel_rfl))) ?_
    exact W_nil (ob_end (.slice p666 x664.Items.length c667) [] rfl (by kernel_rfl) ⟨by kernel_rfl, rfl⟩ M724)
  · intro g682 f683
    intro v1_ hb1_
    obtain ⟨rfl, _⟩ := hb1_
    intro R w727 M728
    refine W_call 62 #[.slice p666 x664.Items.length c667] (by kernel_rfl) (by kernel_rfl) ?_
    refine (c_s_l1Own w727 x664.Items p666 c667 (h668.mem0 M728) hr709).mono ?_
    rintro e_ w729 ⟨p711, c712, sg713, rfl, ho714, K731⟩
    refine ⟨_, rfl, ?_⟩
    exact W_nil (ob_end (.slice p711 r709.length c712) sg713 rfl (by kernel_rfl) ⟨p711, c712, rfl, ho714⟩ (Mem.callMid M728 K731))
  · intro g682 f683
    intro R w732 M733
    refine W_run 1 [(9, .pointer (some ⟨b674, 1, none⟩))] w732 (by kernel_rfl) ?_
    exact W_nil (ob_end (.pointer (some ⟨b674, 1, none⟩)) [] rfl (by kernel_rfl) ⟨by kernel_rfl, rfl⟩ M733)
  · intro g682 f683
    intro v3_ hb3_
    obtain ⟨rfl, _⟩ := hb3_
    intro R w736 M737
    refine W_val (.int .i64 x664.Head) w736 (by kernel_rfl) (E_load (e := 27) (fr := (0, 0)) _ _ false 1 b674 1 [.slice p666 x664.Items.length c667, .int .i64 x664.Head, .int .i64 x664.Tail] (.int .i64 x664.Head) rfl (by kernel_rfl) (by kernel_rfl) (by kernel_rfl) (M737.blk 0 (b := b674) (o := .cells ⟨[.slice p666 x664.Items.length c667, .int .i64 x664.Head, .int .i64 x664.Tail]⟩ 27 (0, 0)) (by kernel_rfl))) ?_
    exact W_nil (ob_end (.int .i64 x664.Head) [] rfl (by kernel_rfl) ⟨by kernel_rfl, rfl⟩ M737)
  · intro g682 f683
    intro R w740 M741
    refine W_run 1 [(11, .pointer (some ⟨b674, 2, none⟩))] w740 (by kernel_rfl) ?_
    exact W_nil (ob_end (.pointer (some ⟨b674, 2, none⟩)) [] rfl (by kernel_rfl) ⟨by kernel_rfl, rfl⟩ M741)
  · intro g682 f683
    intro v5_ hb5_
    obtain ⟨rfl, _⟩ := hb5_
    intro R w744 M745
    refine W_val (.int .i64 x664.Tail) w744 (by kernel_rfl) (E_load (e := 27) (fr := (0, 0)) _ _ false 1 b674 2 [.slice p666 x664.Items.length c667, .int .i64 x664.Head, .int .i64 x664.Tail] (.int .i64 x664.Tail) rfl (by kernel_rfl) (by kernel_rfl) (by kernel_rfl) (M745.blk 0 (b := b674) (o := .cells ⟨[.slice p666 x664.Items.length c667, .int .i64 x664.Head, .int .i64 x664.Tail]⟩ 27 (0, 0)) (by kernel_rfl))) ?_
    exact W_nil (ob_end (.int .i64 x664.Tail) [] rfl (by kernel_rfl) ⟨by kernel_rfl, rfl⟩ M745)
  · intro g682 f683
    intro v2_ hb2_
    obtain ⟨_, p711, c712, rfl, _⟩ := hb2_
    intro v4_ hb4_
    obtain ⟨rfl, _⟩ := hb4_
    intro v6_ hb6_
    obtain ⟨rfl, _⟩ := hb6_
    intro R w748 M749
    refine W_run 1 [(13, .agg #[.slice p711 r709.length c712, .int .i64 x664.Head, .int .i64 x664.Tail])] w748 (by kernel_rfl) ?_
    exact W_nil (ob_end (.agg #[.slice p711 r709.length c712, .int .i64 x664.Head, .int .i64 x664.Tail]) [] rfl (by kernel_rfl) ⟨by kernel_rfl, rfl⟩ M749)
  · intro g682 f683
    intro R w752 M753
    refine W_new (fun b => .pointer (some ⟨b, 0, none⟩)) (.cells ⟨[.slice none 0 0, .int .i64 0, .int .i64 0]⟩ 27 (0, 0)) M753 rfl (by kernel_rfl) (by kernel_rfl) ?_
    intro b718 w754 M755
    exact W_nil (ob_end (.pointer (some ⟨b718, 0, none⟩)) [(b718, .cells ⟨[.slice none 0 0, .int .i64 0, .int .i64 0]⟩ 27 (0, 0))] rfl (by kernel_rfl) ⟨b718, rfl, rfl⟩ (Mem.mid M755))
  · intro g682 f683
    intro v2_ hb2_
    obtain ⟨p711, c712, rfl, ho714⟩ := hb2_
    intro v7_ hb7_
    obtain ⟨hv7_, _⟩ := hb7_
    obtain rfl : v7_ = (.agg #[.slice p711 r709.length c712, .int .i64 x664.Head, .int .i64 x664.Tail] : Value) := hv7_.trans (by kernel_rfl)
    intro v8_ hb8_
    obtain ⟨b718, rfl, hs8_⟩ := hb8_
    intro w756 M757
    have M758 : Mem [] w w756 [[(b674, .cells ⟨[.slice p666 x664.Items.length c667, .int .i64 x664.Head, .int .i64 x664.Tail]⟩ 27 (0, 0))], [(b679, .cells ⟨[.slice none 0 0, .int .i64 0, .int .i64 0]⟩ 27 (0, 0))], (g682 2), (g682 8)] := M757
    rw [hs8_] at M758
    refine W_store _ _ _ true 3 b718 0 [.slice none 0 0, .int .i64 0, .int .i64 0] 27 (.agg #[.slice p711 r709.length c712, .int .i64 x664.Head, .int .i64 x664.Tail]) 3 [.slice p711 r709.length c712, .int .i64 x664.Head, .int .i64 x664.Tail] M758 (by kernel_rfl) rfl (by kernel_rfl) (by kernel_rfl) (by kernel_rfl) (by kernel_rfl) (by kernel_rfl) (by kernel_rfl) (by kernel_rfl) (by kernel_rfl) ?_
    intro w759 M760
    refine W_nil ?_
    refine N_then ?_
    refine G_seq ?_
    refine G_seq ?_
    refine G_region ?_
    refine W_val (.agg #[.slice p666 x664.Items.length c667, .int .i64 x664.Head, .int .i64 x664.Tail]) w759 (by kernel_rfl) (E_load (e := 27) (fr := (0, 0)) _ _ true 3 b674 0 [.slice p666 x664.Items.length c667, .int .i64 x664.Head, .int .i64 x664.Tail] (.agg #[.slice p666 x664.Items.length c667, .int .i64 x664.Head, .int .i64 x664.Tail]) rfl (by kernel_rfl) (by kernel_rfl) (by kernel_rfl) (M760.blk 0 (b := b674) (o := .cells ⟨[.slice p666 x664.Items.length c667, .int .i64 x664.Head, .int .i64 x664.Tail]⟩ 27 (0, 0)) (by kernel_rfl))) ?_
    obtain ⟨r770, hr770, hm⟩ := gx_bind hm
    refine W_call 63 #[.agg #[.slice p666 x664.Items.length c667, .int .i64 x664.Head, .int .i64 x664.Tail]] (by kernel_rfl) (by kernel_rfl) ?_
    refine (c_s_l20Count w759 x664 p666 c667 (h668.mem0 M760) hr770).mono ?_
    rintro e_ w771 ⟨rfl, K772⟩
    have M773 := M760.call0 K772
    refine ⟨_, rfl, ?_⟩
    refine W_run 1 [(1, .pointer (some ⟨b674, 0, none⟩)), (2, .pointer (some ⟨b679, 0, none⟩)), (4, .pointer (some ⟨b718, 0, none⟩)), (16, .bool (r770 == 0))] w771 (by kernel_rfl) ?_
    refine W_nil ?_
    refine N_then ?_
    rcases gx_bif hm with ⟨hc774, hm⟩ | ⟨hc774, hm⟩
    · refine G_cond_t (b := (r770 == 0)) hc774 (by kernel_rfl) ?_
      refine G_seq ?_
      refine G_region ?_
      refine W_val (.agg #[.slice p711 r709.length c712, .int .i64 x664.Head, .int .i64 x664.Tail]) w771 (by kernel_rfl) (E_load (e := 27) (fr := (0, 0)) _ _ true 3 b718 0 [.slice p711 r709.length c712, .int .i64 x664.Head, .int .i64 x664.Tail] (.agg #[.slice p711 r709.length c712, .int .i64 x664.Head, .int .i64 x664.Tail]) rfl (by kernel_rfl) (by kernel_rfl) (by kernel_rfl) (M773.blk 3 (b := b718) (o := .cells ⟨[.slice p711 r709.length c712, .int .i64 x664.Head, .int .i64 x664.Tail]⟩ 27 (0, 0)) (by kernel_rfl))) ?_
      refine W_store _ _ _ true 3 b679 0 [.slice none 0 0, .int .i64 0, .int .i64 0] 27 (.agg #[.slice p711 r709.length c712, .int .i64 x664.Head, .int .i64 x664.Tail]) 1 [.slice p711 r709.length c712, .int .i64 x664.Head, .int .i64 x664.Tail] M773 (by kernel_rfl) rfl (by kernel_rfl) (by kernel_rfl) (by kernel_rfl) (by kernel_rfl) (by kernel_rfl) (by kernel_rfl) (by kernel_rfl) (by kernel_rfl) ?_
      intro w775 M776
      refine W_run 1 [(2, .pointer (some ⟨b679, 0, none⟩)), (3, .int .i64 (-1))] w775 (by kernel_rfl) ?_
      refine W_nil ?_
      refine N_then ?_
      refine G_ret ?_
      refine N_then_ret ?_
      obtain rfl := Option.some.inj hm
      refine N_ret [.agg #[.slice p711 r709.length c712, .int .i64 x664.Head, .int .i64 x664.Tail], .int .i64 (-1)] (RVs_cons (RV_cell (g := true) (k := 3) (b := b679) (off := 0) (cs := [.slice p711 r709.length c712, .int .i64 x664.Head, .int .i64 x664.Tail]) (e := 27) (fr := (0, 0)) (v := .agg #[.slice p711 r709.length c712, .int .i64 x664.Head, .int .i64 x664.Tail]) (M776.blk 1 (b := b679) (o := .cells ⟨[.slice p711 r709.length c712, .int .i64 x664.Head, .int .i64 x664.Tail]⟩ 27 (0, 0)) (by kernel_rfl)) (by kernel_rfl) (by kernel_rfl) (by kernel_rfl)) (RVs_cons (RV_tmp (by kernel_rfl)) RVs_nil)) ?_
      exact ⟨p711, c712, (g682 2), rfl, ho714, M776.pick [2] (by kernel_rfl)⟩
    · refine G_cond_f (b := (r770 == 0)) hc774 (by kernel_rfl) ?_
      refine G_skip ?_
      refine N_then ?_
      refine G_seq ?_
      refine G_region ?_
      refine W_run 1 [(1, .pointer (some ⟨b674, 0, none⟩)), (2, .pointer (some ⟨b679, 0, none⟩)), (4, .pointer (some ⟨b718, 0, none⟩)), (18, .pointer (some ⟨b674, 1, none⟩))] w771 (by kernel_rfl) ?_
      refine W_val (.int .i64 x664.Head) w771 (by kernel_rfl) (E_load (e := 27) (fr := (0, 0)) _ _ false 1 b674 1 [.slice p666 x664.Items.length c667, .int .i64 x664.Head, .int .i64 x664.Tail] (.int .i64 x664.Head) rfl (by kernel_rfl) (by kernel_rfl) (by kernel_rfl) (M773.blk 0 (b := b674) (o := .cells ⟨[.slice p666 x664.Items.length c667, .int .i64 x664.Head, .int .i64 x664.Tail]⟩ 27 (0, 0)) (by kernel_rfl))) ?_
      refine W_run 1 [(1, .pointer (some ⟨b674, 0, none⟩)), (2, .pointer (some ⟨b679, 0, none⟩)), (4, .pointer (some ⟨b718, 0, none⟩)), (19, .int .i64 x664.Head), (20, .pointer (some ⟨b674, 0, none⟩))] w771 (by kernel_rfl) ?_
      refine W_val (.slice p666 x664.Items.length c667) w771 (by kernel_rfl) (E_load (e := 27) (fr := (0, 0)) _ _ false 1 b674 0 [.slice p666 x664.Items.length c667, .int .i64 x664.Head, .int .i64 x664.Tail] (.slice p666 x664.Items.length c667) rfl (by kernel_rfl) (by kernel_rfl) (by kernel_rfl) (M773.blk 0 (b := b674) (o := .cells ⟨[.slice p666 x664.Items.length c667, .int .i64 x664.Head, .int .i64 x664.Tail]⟩ 27 (0, 0)) (by kernel_rfl))) ?_
      refine W_run 1 [(1, .pointer (some ⟨b674, 0, none⟩)), (2, .pointer (some ⟨b679, 0, none⟩)), (4, .pointer (some ⟨b718, 0, none⟩)), (19, .int .i64 x664.Head), (22, .int .i64 (x664.Items.length : Int))] w771 (by kernel_rfl) ?_
      obtain ⟨q777, hq777, hm⟩ := gx_bind hm
      refine W_val (.int .i64 q777) w771 (by kernel_rfl) (E_rem _ _ _ _ x664.Head (x664.Items.length : Int) q777 rfl (by kernel_rfl) (by kernel_rfl) hq777) ?_
      refine W_run 1 [(1, .pointer (some ⟨b674, 0, none⟩)), (2, .pointer (some ⟨b679, 0, none⟩)), (4, .pointer (some ⟨b718, 0, none⟩)), (5, .int .i64 q777)] w771 (by kernel_rfl) ?_
      refine W_nil ?_
      refine N_then ?_
      refine G_seq ?_
      refine G_region ?_
      refine W_run 1 [(1, .pointer (some ⟨b674, 0, none⟩)), (2, .pointer (some ⟨b679, 0, none⟩)), (4, .pointer (some ⟨b718, 0, none⟩)), (5, .int .i64 q777), (24, .pointer (some ⟨b718, 0, none⟩))] w771 (by kernel_rfl) ?_
      refine W_val (.slice p711 r709.length c712) w771 (by kernel_rfl) (E_load (e := 27) (fr := (0, 0)) _ _ false 1 b718 0 [.slice p711 r709.length c712, .int .i64 x664.Head, .int .i64 x664.Tail] (.slice p711 r709.length c712) rfl (by kernel_rfl) (by kernel_rfl) (by kernel_rfl) (M773.blk 3 (b := b718) (o := .cells ⟨[.slice p711 r709.length c712, .int .i64 x664.Head, .int .i64 x664.Tail]⟩ 27 (0, 0)) (by kernel_rfl))) ?_
      refine W_run 1 [(1, .pointer (some ⟨b674, 0, none⟩)), (2, .pointer (some ⟨b679, 0, none⟩)), (4, .pointer (some ⟨b718, 0, none⟩)), (5, .int .i64 q777), (25, .slice p711 r709.length c712), (26, .int .i64 q777)] w771 (by kernel_rfl) ?_
      obtain ⟨y778, hy778, hm⟩ := gx_bind hm
      refine W_val (elemP p711 (q777.toNat * 1)) w771 (by kernel_rfl) (E_index (E := encI) _ _ _ r709.length c712 .i64 q777 1 (y := y778) rfl (by kernel_rfl) (by kernel_rfl) (by kernel_rfl) (ho714.rd M773 2 (by kernel_rfl)) rfl hy778) ?_
      refine W_storeE (E := encI) _ _ _ false 1 q777.toNat 0 (q777.toNat * 1) y778 0 (.int .i64 0) 2 M773 ho714 (by kernel_rfl) (by kernel_rfl) rfl (by kernel_rfl) (by kernel_rfl) (by kernel_rfl) (by kernel_rfl) (by kernel_rfl) (by kernel_rfl) (by kernel_rfl) (gxIdx_spec hy778).2 rfl ?_
      intro w779 sg781 ho782 M780
      refine W_conv 25 (.slice p711 r709.length c712) (.slice p711 (r709.set q777.toNat 0).length c712) (by kernel_rfl) (by rw [@List.length_set _ r709 q777.toNat 0]) ?_
      have M783 : Mem [] w w779 [[(b674, .cells ⟨[.slice p666 x664.Items.length c667, .int .i64 x664.Head, .int .i64 x664.Tail]⟩ 27 (0, 0))], [(b679, .cells ⟨[.slice none 0 0, .int .i64 0, .int .i64 0]⟩ 27 (0, 0))], sg781, [(b718, .cells ⟨[.slice p711 (r709.set q777.toNat 0).length c712, .int .i64 x664.Head, .int .i64 x664.Tail]⟩ 27 (0, 0))]] := by rw [@List.length_set _ r709 q777.toNat 0]; exact M780
      refine W_nil ?_
      refine N_then ?_
      refine G_seq ?_
      refine G_region ?_
      refine W_run 1 [(1, .pointer (some ⟨b674, 0, none⟩)), (2, .pointer (some ⟨b679, 0, none⟩)), (4, .pointer (some ⟨b718, 0, none⟩)), (5, .int .i64 q777), (28, .pointer (some ⟨b674, 1, none⟩))] w779 (by kernel_rfl) ?_
      refine W_val (.int .i64 x664.Head) w779 (by kernel_rfl) (E_load (e := 27) (fr := (0, 0)) _ _ false 1 b674 1 [.slice p666 x664.Items.length c667, .int .i64 x664.Head, .int .i64 x664.Tail] (.int .i64 x664.Head) rfl (by kernel_rfl) (by kernel_rfl) (by kernel_rfl) (M783.blk 0 (b := b674) (o := .cells ⟨[.slice p666 x664.Items.length c667, .int .i64 x664.Head, .int .i64 x664.Tail]⟩ 27 (0, 0)) (by kernel_rfl))) ?_
      refine W_run 3 [(1, .pointer (some ⟨b674, 0, none⟩)), (2, .pointer (some ⟨b679, 0, none⟩)), (4, .pointer (some ⟨b718, 0, none⟩)), (5, .int .i64 q777), (31, .int .i64 ((w64 (x664.Head + 1)).tmod 65536)), (32, .pointer (some ⟨b718, 1, none⟩))] w779 (by kernel_rfl) ?_
      refine W_store _ _ _ false 1 b718 1 [.slice p711 (r709.set q777.toNat 0).length c712, .int .i64 x664.Head, .int .i64 x664.Tail] 27 (.int .i64 ((w64 (x664.Head + 1)).tmod 65536)) 3 [.slice p711 (r709.set q777.toNat 0).length c712, .int .i64 ((w64 (x664.Head + 1)).tmod 65536), .int .i64 x664.Tail] M783 (by kernel_rfl) rfl (by kernel_rfl) (by kernel_rfl) (by kernel_rfl) (by kernel_rfl) (by kernel_rfl) (by kernel_rfl) (by kernel_rfl) (by kernel_rfl) ?_
      intro w784 M785
      refine W_nil ?_
      refine N_then ?_
      refine G_seq ?_
      obtain ⟨y788, hy788, hm⟩ := gx_bind hm
      have M789 : Mem [] w w784 ([[(b674, .cells ⟨[.slice p666 x664.Items.length c667, .int .i64 x664.Head, .int .i64 x664.Tail]⟩ 27 (0, 0))], sg781, [(b718, .cells ⟨[.slice p711 (r709.set q777.toNat 0).length c712, .int .i64 ((w64 (x664.Head + 1)).tmod 65536), .int .i64 x664.Tail]⟩ 27 (0, 0))]] ++ (List.range 7).map (fun i => ([[], [], [], [], [], [], [(b679, .cells ⟨[.slice none 0 0, .int .i64 0, .int .i64 0]⟩ 27 (0, 0))]] : List Seg).getD i [])) := M785.pick [0, 2, 3, 300000, 300001, 300002, 300003, 300004, 300005, 1] (by kernel_rfl)
      refine G_sub [(1, .pointer (some ⟨b674, 0, none⟩)), (2, .pointer (some ⟨b679, 0, none⟩)), (4, .pointer (some ⟨b718, 0, none⟩)), (5, .int .i64 q777), (31, .int .i64 ((w64 (x664.Head + 1)).tmod 65536)), (32, .pointer (some ⟨b718, 1, none⟩))] (by kernel_rfl) ?_
      refine G_dagL 7 [[], [], [1], [], [2, 3], [4], [0]] [[], [], [], [], [], [], []] [[], [], [], [], [], [], []] [[], [], [], [], [], [], []] [[], [], [], [], [], [], []] [[], [], [], [], [], [], []] (fun i => ([[], [], [], [], [], [], [(b679, .cells ⟨[.slice none 0 0, .int .i64 0, .int .i64 0]⟩ 27 (0, 0))]] : List Seg).getD i []) (fun i => ([fun f v s => v = (.agg #[.slice p711 (r709.set q777.toNat 0).length c712, .int .i64 ((w64 (x664.Head + 1)).tmod 65536), .int .i64 x664.Tail] : Value) ∧ s = [], fun f v s => v = (.pointer (some ⟨b674, 0, none⟩) : Value) ∧ s = [], fun f v s => v = (.slice p666 x664.Items.length c667 : Value) ∧ s = [], fun f v s => v = (.int .i64 q777 : Value) ∧ s = [], fun f v s => v = (elemP p666 (q777.toNat * 1) : Value) ∧ s = [], fun f v s => v = (.int .i64 y788 : Value) ∧ s = [], fun f v s => v = undef ∧ s = [(b679, .cells ⟨[.slice p711 (r709.set q777.toNat 0).length c712, .int .i64 ((w64 (x664.Head + 1)).tmod 65536), .int .i64 x664.Tail]⟩ 27 (0, 0))]] : List ((Nat → Value) → Value → Seg → Prop)).getD i (fun _ _ _ => False)) (fun j f v => ∃ s, (fun i => ([fun f v s => v = (.agg #[.slice p711 (r709.set q777.toNat 0).length c712, .int .i64 ((w64 (x664.Head + 1)).tmod 65536), .int .i64 x664.Tail] : Value) ∧ s = [], fun f v s => v = (.pointer (some ⟨b674, 0, none⟩) : Value) ∧ s = [], fun f v s => v = (.slice p666 x664.Items.length c667 : Value) ∧ s = [], fun f v s => v = (.int .i64 q777 : Value) ∧ s = [], fun f v s => v = (elemP p666 (q777.toNat * 1) : Value) ∧ s = [], fun f v s => v = (.int .i64 y788 : Value) ∧ s = [], fun f v s => v = undef ∧ s = [(b679, .cells ⟨[.slice p711 (r709.set q777.toNat 0).length c712, .int .i64 ((w64 (x664.Head + 1)).tmod 65536), .int .i64 x664.Tail]⟩ 27 (0, 0))]] : List ((Nat → Value) → Value → Seg → Prop)).getD i (fun _ _ _ => False)) j f v s) [] [5, 6] [6] (fun _ _ _ s h => ⟨s, h⟩) (by kernel_rfl) (by kernel_rfl) M789 (by kernel_rfl) (by kernel_rfl) (by kernel_rfl) (by kernel_rfl) (allOb_cons ?_ (allOb_cons ?_ (allOb_cons ?_ (allOb_cons ?_ (allOb_cons ?_ (allOb_cons ?_ (allOb_cons ?_ allOb_nil))))))) ?_
      · intro g786 f787
        intro R w790 M791
        refine W_val (.agg #[.slice p711 (r709.set q777.toNat 0).length c712, .int .i64 ((w64 (x664.Head + 1)).tmod 65536), .int .i64 x664.Tail]) w790 (by kernel_rfl) (E_load (e := 27) (fr := (0, 0)) _ _ true 3 b718 0 [.slice p711 (r709.set q777.toNat 0).length c712, .int .i64 ((w64 (x664.Head + 1)).tmod 65536), .int .i64 x664.Tail] (.agg #[.slice p711 (r709.set q777.toNat 0).length c712, .int .i64 ((w64 (x664.Head + 1)).tmod 65536), .int .i64 x664.Tail]) rfl (by kernel_rfl) (by kernel_rfl) (by kernel_rfl) (M791.blk 2 (b := b718) (o := .cells ⟨[.slice p711 (r709.set q777.toNat 0).length c712, .int .i64 ((w64 (x664.Head + 1)).tmod 65536), .int .i64 x664.Tail]⟩ 27 (0, 0)) (by kernel_rfl))) ?_
        exact W_nil (ob_end (.agg #[.slice p711 (r709.set q777.toNat 0).length c712, .int .i64 ((w64 (x664.Head + 1)).tmod 65536), .int .i64 x664.Tail]) [] rfl (by kernel_rfl) ⟨by kernel_rfl, rfl⟩ M791)
      · intro g786 f787
        intro R w794 M795
        refine W_run 1 [(34, .pointer (some ⟨b674, 0, none⟩))] w794 (by kernel_rfl) ?_
        exact W_nil (ob_end (.pointer (some ⟨b674, 0, none⟩)) [] rfl (by kernel_rfl) ⟨by kernel_rfl, rfl⟩ M795)
      · intro g786 f787
        intro v1_ hb1_
        obtain ⟨rfl, _⟩ := hb1_
        intro R w798 M799
        refine W_val (.slice p666 x664.Items.length c667) w798 (by kernel_rfl) (E_load (e := 27) (fr := (0, 0)) _ _ false 1 b674 0 [.slice p666 x664.Items.length c667, .int .i64 x664.Head, .int .i64 x664.Tail] (.slice p666 x664.Items.length c667) rfl (by kernel_rfl) (by kernel_rfl) (by kernel_rfl) (M799.blk 0 (b := b674) (o := .cells ⟨[.slice p666 x664.Items.length c667, .int .i64 x664.Head, .int .i64 x664.Tail]⟩ 27 (0, 0)) (by kernel_rfl))) ?_
        exact W_nil (ob_end (.slice p666 x664.Items.length c667) [] rfl (by kernel_rfl) ⟨by kernel_rfl, rfl⟩ M799)
      · intro g786 f787
        intro R w802 M803
        refine W_run 1 [(36, .int .i64 q777)] w802 (by kernel_rfl) ?_
        exact W_nil (ob_end (.int .i64 q777) [] rfl (by kernel_rfl) ⟨by kernel_rfl, rfl⟩ M803)
      · intro g786 f787
        intro v2_ hb2_
        obtain ⟨rfl, _⟩ := hb2_
        intro v3_ hb3_
        obtain ⟨rfl, _⟩ := hb3_
        intro R w806 M807
        refine W_val (elemP p666 (q777.toNat * 1)) w806 (by kernel_rfl) (E_index (E := encI) _ _ _ x664.Items.length c667 .i64 q777 1 (y := y788) rfl (by kernel_rfl) (by kernel_rfl) (by kernel_rfl) (h668.mem0 M807) rfl hy788) ?_
        exact W_nil (ob_end (elemP p666 (q777.toNat * 1)) [] rfl (by kernel_rfl) ⟨by kernel_rfl, rfl⟩ M807)
      · intro g786 f787
        intro v4_ hb4_
        obtain ⟨rfl, _⟩ := hb4_
        intro R w810 M811
        refine W_val (.int .i64 y788) w810 (by kernel_rfl) (E_loadE (E := encI) _ _ false 1 q777 0 (q777.toNat * 1) y788 (.int .i64 y788) rfl (by kernel_rfl) (by kernel_rfl) (by kernel_rfl) (h668.mem0 M811) hy788 rfl) ?_
        exact W_nil (ob_end (.int .i64 y788) [] rfl (by kernel_rfl) ⟨by kernel_rfl, rfl⟩ M811)
      · intro g786 f787
        intro v0_ hb0_
        obtain ⟨rfl, _⟩ := hb0_
        intro R w814 M815
        refine W_store _ _ _ true 3 b679 0 [.slice none 0 0, .int .i64 0, .int .i64 0] 27 (.agg #[.slice p711 (r709.set q777.toNat 0).length c712, .int .i64 ((w64 (x664.Head + 1)).tmod 65536), .int .i64 x664.Tail]) 3 [.slice p711 (r709.set q777.toNat 0).length c712, .int .i64 ((w64 (x664.Head + 1)).tmod 65536), .int .i64 x664.Tail] M815 (by kernel_rfl) rfl (by kernel_rfl) (by kernel_rfl) (by kernel_rfl) (by kernel_rfl) (by kernel_rfl) (by kernel_rfl) (by kernel_rfl) (by kernel_rfl) ?_
        intro w816 M817
        exact W_nil (ob_none [(b679, .cells ⟨[.slice p711 (r709.set q777.toNat 0).length c712, .int .i64 ((w64 (x664.Head + 1)).tmod 65536), .int .i64 x664.Tail]⟩ 27 (0, 0))] rfl ⟨rfl, by kernel_rfl⟩ M817)
      · intro g786 f787
        intro v5_ hb5_
        obtain ⟨rfl, _⟩ := hb5_
        intro v6_ hb6_
        obtain ⟨rfl, hs6_⟩ := hb6_
        replace hs6_ := hs6_.trans (show _ = [(b679, .cells ⟨[.slice p711 (r709.set q777.toNat 0).length c712, .int .i64 ((w64 (x664.Head + 1)).tmod 65536), .int .i64 x664.Tail]⟩ 27 (0, 0))] by kernel_rfl)
        intro w818 M819
        have M820 : Mem [] w w818 [[(b674, .cells ⟨[.slice p666 x664.Items.length c667, .int .i64 x664.Head, .int .i64 x664.Tail]⟩ 27 (0, 0))], sg781, [(b718, .cells ⟨[.slice p711 (r709.set q777.toNat 0).length c712, .int .i64 ((w64 (x664.Head + 1)).tmod 65536), .int .i64 x664.Tail]⟩ 27 (0, 0))], (g786 6)] := M819
        rw [hs6_] at M820
        refine W_run 1 [(2, .pointer (some ⟨b679, 0, none⟩)), (3, .int .i64 y788)] w818 (by kernel_rfl) ?_
        refine W_nil ?_
        refine N_then ?_
        refine G_ret ?_
        obtain rfl := Option.some.inj hm
        refine N_ret [.agg #[.slice p711 (r709.set q777.toNat 0).length c712, .int .i64 ((w64 (x664.Head + 1)).tmod 65536), .int .i64 x664.Tail], .int .i64 y788] (RVs_cons (RV_cell (g := true) (k := 3) (b := b679) (off := 0) (cs := [.slice p711 (r709.set q777.toNat 0).length c712, .int .i64 ((w64 (x664.Head + 1)).tmod 65536), .int .i64 x664.Tail]) (e := 27) (fr := (0, 0)) (v := .agg #[.slice p711 (r709.set q777.toNat 0).length c712, .int .i64 ((w64 (x664.Head + 1)).tmod 65536), .int .i64 x664.Tail]) (M820.blk 3 (b := b679) (o := .cells ⟨[.slice p711 (r709.set q777.toNat 0).length c712, .int .i64 ((w64 (x664.Head + 1)).tmod 65536), .int .i64 x664.Tail]⟩ 27 (0, 0)) (by kernel_rfl)) (by kernel_rfl) (by kernel_rfl) (by kernel_rfl)) (RVs_cons (RV_tmp (by kernel_rfl)) RVs_nil)) ?_
        exact ⟨p711, c712, sg781, rfl, ho782, M820.pick [1] (by kernel_rfl)⟩
theorem c_s_l20Put (w : World) (x840 : Ring) (p842 : Option Addr) (c843 : Nat) (h844 : rdS encI w x840.Items p842 c843) (x845 : Int) {r : Ring × Bool} (hm : M.s_l20Put x840 x845 = some r) :
    Calls Try.prog 67 #[.agg #[.slice p842 x840.Items.length c843, .int .i64 x840.Head, .int .i64 x840.Tail], .int .i64 x845] w fun e w' => ∃ (p847 : Option Addr) (c848 : Nat) (sg849 : Seg), e = .returned (.tuple #[.agg #[.slice p847 r.1.Items.length c848, .int .i64 r.1.Head, .int .i64 r.1.Tail], .bool r.2]) ∧ ownS encI r.1.Items p847 c848 sg849 ∧ Mem [] w w' [sg849] := by
  unfold M.s_l20Put at hm
  refine C_enter Try.func67 rfl (by kernel_rfl) ?_
  have M0 := Mem.refl [] w
  refine G_seq ?_
  refine G_region ?_
  refine W_new (fun b => .pointer (some ⟨b, 0, none⟩)) (.cells ⟨[.slice p842 x840.Items.length c843, .int .i64 x840.Head, .int .i64 x840.Tail]⟩ 27 (0, 0)) M0 rfl (by kernel_rfl) (by kernel_rfl) ?_
  intro b851 w852 M853
  refine W_new (fun b => .pointer (some ⟨b, 0, none⟩)) (.cells ⟨[.slice none 0 0, .int .i64 0, .int .i64 0]⟩ 27 (0, 0)) M853 rfl (by kernel_rfl) (by kernel_rfl) ?_
  intro b856 w857 M858
  refine W_run 1 [(1, .int .i64 x845), (2, .pointer (some ⟨b851, 0, none⟩)), (4, .pointer (some ⟨b856, 0, none⟩))] w857 (by kernel_rfl) ?_
  refine W_nil ?_
  refine N_then ?_
  refine G_seq ?_
  obtain ⟨r861, hr861, hm⟩ := gx_bind hm
  refine G_sub [(1, .int .i64 x845), (2, .pointer (some ⟨b851, 0, none⟩)), (4, .pointer (some ⟨b856, 0, none⟩))] (by kernel_rfl) ?_
  refine G_dagL 9 [[], [0], [1], [], [3], [], [5], [4, 6], []] [[], [], [], [], [], [], [], [], []] [[], [], [], [], [], [], [], [], []] [[], [], [], [], [], [], [], [2], []] [[], [], [], [], [], [], [], [2], []] [[], [], [], [], [], [], [], [], []] (fun _ => []) (fun i => ([fun f v s => v = (.pointer (some ⟨b851, 0, none⟩) : Value) ∧ s = [], fun f v s => v = (.slice p842 x840.Items.length c843 : Value) ∧ s = [], fun f v s => ∃ (p863 : Option Addr) (c864 : Nat), v = (.slice p863 r861.length c864 : Value) ∧ ownS encI r861 p863 c864 s, fun f v s => v = (.pointer (some ⟨b851, 1, none⟩) : Value) ∧ s = [], fun f v s => v = (.int .i64 x840.Head : Value) ∧ s = [], fun f v s => v = (.pointer (some ⟨b851, 2, none⟩) : Value) ∧ s = [], fun f v s => v = (.int .i64 x840.Tail : Value) ∧ s = [], fun f v s => v = (.agg #[(atPath (f 2) []), .int .i64 x840.Head, .int .i64 x840.Tail] : Value) ∧ s = [], fun f v s => ∃ (b870 : Nat), v = (.pointer (some ⟨b870, 0, none⟩) : Value) ∧ s = [(b870, .cells ⟨[.slice none 0 0, .int .i64 0, .int .i64 0]⟩ 27 (0, 0))]] : List ((Nat → Value) → Value → Seg → Prop)).getD i (fun _ _ _ => False)) (fun j f v => ∃ s, (fun i => ([fun f v s => v = (.pointer (some ⟨b851, 0, none⟩) : Value) ∧ s = [], fun f v s => v = (.slice p842 x840.Items.length c843 : Value) ∧ s = [], fun f v s => ∃ (p863 : Option Addr) (c864 : Nat), v = (.slice p863 r861.length c864 : Value) ∧ ownS encI r861 p863 c864 s, fun f v s => v = (.pointer (some ⟨b851, 1, none⟩) : Value) ∧ s = [], fun f v s => v = (.int .i64 x840.Head : Value) ∧ s = [], fun f v s => v = (.pointer (some ⟨b851, 2, none⟩) : Value) ∧ s = [], fun f v s => v = (.int .i64 x840.Tail : Value) ∧ s = [], fun f v s => v = (.agg #[(atPath (f 2) []), .int .i64 x840.Head, .int .i64 x840.Tail] : Value) ∧ s = [], fun f v s => ∃ (b870 : Nat), v = (.pointer (some ⟨b870, 0, none⟩) : Value) ∧ s = [(b870, .cells ⟨[.slice none 0 0, .int .i64 0, .int .i64 0]⟩ 27 (0, 0))]] : List ((Nat → Value) → Value → Seg → Prop)).getD i (fun _ _ _ => False)) j f v s) [] [2, 7, 8] [2, 8] (fun _ _ _ s h => ⟨s, h⟩) (by kernel_rfl) (by kernel_rfl) (M858.preNil 9) (by kernel_rfl) (by kernel_rfl) (by kernel_rfl) (by kernel_rfl) (allOb_cons ?_ (allOb_cons ?_ (allOb_cons ?_ (allOb_cons ?_ (allOb_cons ?_ (allOb_cons ?_ (allOb_cons ?_ (allOb_cons ?_ (allOb_cons ?_ allOb_nil))))))))) ?_
  · intro g859 f860
    intro R w871 M872
    refine W_run 1 [(7, .pointer (some ⟨b851, 0, none⟩))] w871 (by kernel_rfl) ?_
    exact W_nil (ob_end (.pointer (some ⟨b851, 0, none⟩)) [] rfl (by kernel_rfl) ⟨by kernel_rfl, rfl⟩ M872)
  · intro g859 f860
    intro v0_ hb0_
    obtain ⟨rfl, _⟩ := hb0_
    intro R w875 M876
    refine W_val (.slice p842 x840.Items.length c843) w875 (by kernel_rfl) (E_load (e := 27) (fr := (0, 0)) _ _ false 1 b851 0 [.slice p842 x840.Items.length c843, .int .i64 x840.Head, .int .i64 x840.Tail] (.slice p842 x840.Items.length c843) rfl (by kernel_rfl) (by kernel_rfl) (by kernel_rfl) (M876.blk 0 (b := b851) (o := .cells ⟨[.slice p842 x840.Items.length c843, .int .i64 x840.Head, .int .i64 x840.Tail]⟩ 27 (0, 0)) (by kernel_rfl))) ?_
    exact W_nil (ob_end (.slice p842 x840.Items.length c843) [] rfl (by kernel_rfl) ⟨by kernel_rfl, rfl⟩ M876)
  · intro g859 f860
    intro v1_ hb1_
    obtain ⟨rfl, _⟩ := hb1_
    intro R w879 M880
    refine W_call 62 #[.slice p842 x840.Items.length c843] (by kernel_rfl) (by kernel_rfl) ?_
    refine (c_s_l1Own w879 x840.Items p842 c843 (h844.mem0 M880) hr861).mono ?_
    rintro e_ w881 ⟨p863, c864, sg865, rfl, ho866, K883⟩
    refine ⟨_, rfl, ?_⟩
    exact W_nil (ob_end (.slice p863 r861.length c864) sg865 rfl (by kernel_rfl) ⟨p863, c864, rfl, ho866⟩ (Mem.callMid M880 K883))
  · intro g859 f860
    intro R w884 M885
    refine W_run 1 [(10, .pointer (some ⟨b851, 1, none⟩))] w884 (by kernel_rfl) ?_
    exact W_nil (ob_end (.pointer (some ⟨b851, 1, none⟩)) [] rfl (by kernel_rfl) ⟨by kernel_rfl, rfl⟩ M885)
  · intro g859 f860
    intro v3_ hb3_
    obtain ⟨rfl, _⟩ := hb3_
    intro R w888 M889
    refine W_val (.int .i64 x840.Head) w888 (by kernel_rfl) (E_load (e := 27) (fr := (0, 0)) _ _ false 1 b851 1 [.slice p842 x840.Items.length c843, .int .i64 x840.Head, .int .i64 x840.Tail] (.int .i64 x840.Head) rfl (by kernel_rfl) (by kernel_rfl) (by kernel_rfl) (M889.blk 0 (b := b851) (o := .cells ⟨[.slice p842 x840.Items.length c843, .int .i64 x840.Head, .int .i64 x840.Tail]⟩ 27 (0, 0)) (by kernel_rfl))) ?_
    exact W_nil (ob_end (.int .i64 x840.Head) [] rfl (by kernel_rfl) ⟨by kernel_rfl, rfl⟩ M889)
  · intro g859 f860
    intro R w892 M893
    refine W_run 1 [(12, .pointer (some ⟨b851, 2, none⟩))] w892 (by kernel_rfl) ?_
    exact W_nil (ob_end (.pointer (some ⟨b851, 2, none⟩)) [] rfl (by kernel_rfl) ⟨by kernel_rfl, rfl⟩ M893)
  · intro g859 f860
    intro v5_ hb5_
    obtain ⟨rfl, _⟩ := hb5_
    intro R w896 M897
    refine W_val (.int .i64 x840.Tail) w896 (by kernel_rfl) (E_load (e := 27) (fr := (0, 0)) _ _ false 1 b851 2 [.slice p842 x840.Items.length c843, .int .i64 x840.Head, .int .i64 x840.Tail] (.int .i64 x840.Tail) rfl (by kernel_rfl) (by kernel_rfl) (by kernel_rfl) (M897.blk 0 (b := b851) (o := .cells ⟨[.slice p842 x840.Items.length c843, .int .i64 x840.Head, .int .i64 x840.Tail]⟩ 27 (0, 0)) (by kernel_rfl))) ?_
    exact W_nil (ob_end (.int .i64 x840.Tail) [] rfl (by kernel_rfl) ⟨by kernel_rfl, rfl⟩ M897)
  · intro g859 f860
    intro v2_ hb2_
    obtain ⟨_, p863, c864, rfl, _⟩ := hb2_
    intro v4_ hb4_
    obtain ⟨rfl, _⟩ := hb4_
    intro v6_ hb6_
    obtain ⟨rfl, _⟩ := hb6_
    intro R w900 M901
    refine W_run 1 [(14, .agg #[.slice p863 r861.length c864, .int .i64 x840.Head, .int .i64 x840.Tail])] w900 (by kernel_rfl) ?_
    exact W_nil (ob_end (.agg #[.slice p863 r861.length c864, .int .i64 x840.Head, .int .i64 x840.Tail]) [] rfl (by kernel_rfl) ⟨by kernel_rfl, rfl⟩ M901)
  · intro g859 f860
    intro R w904 M905
    refine W_new (fun b => .pointer (some ⟨b, 0, none⟩)) (.cells ⟨[.slice none 0 0, .int .i64 0, .int .i64 0]⟩ 27 (0, 0)) M905 rfl (by kernel_rfl) (by kernel_rfl) ?_
    intro b870 w906 M907
    exact W_nil (ob_end (.pointer (some ⟨b870, 0, none⟩)) [(b870, .cells ⟨[.slice none 0 0, .int .i64 0, .int .i64 0]⟩ 27 (0, 0))] rfl (by kernel_rfl) ⟨b870, rfl, rfl⟩ (Mem.mid M907))
  · intro g859 f860
    intro v2_ hb2_
    obtain ⟨p863, c864, rfl, ho866⟩ := hb2_
    intro v7_ hb7_
    obtain ⟨hv7_, _⟩ := hb7_
    obtain rfl : v7_ = (.agg #[.slice p863 r861.length c864, .int .i64 x840.Head, .int .i64 x840.Tail] : Value) := hv7_.trans (by kernel_rfl)
    intro v8_ hb8_
    obtain ⟨b870, rfl, hs8_⟩ := hb8_
    intro w908 M909
    have M910 : Mem [] w w908 [[(b851, .cells ⟨[.slice p842 x840.Items.length c843, .int .i64 x840.Head, .int .i64 x840.Tail]⟩ 27 (0, 0))], [(b856, .cells ⟨[.slice none 0 0, .int .i64 0, .int .i64 0]⟩ 27 (0, 0))], (g859 2), (g859 8)] := M909
    rw [hs8_] at M910
    refine W_store _ _ _ true 3 b870 0 [.slice none 0 0, .int .i64 0, .int .i64 0] 27 (.agg #[.slice p863 r861.length c864, .int .i64 x840.Head, .int .i64 x840.Tail]) 3 [.slice p863 r861.length c864, .int .i64 x840.Head, .int .i64 x840.Tail] M910 (by kernel_rfl) rfl (by kernel_rfl) (by kernel_rfl) (by kernel_rfl) (by kernel_rfl) (by kernel_rfl) (by kernel_rfl) (by kernel_rfl) (by kernel_rfl) ?_
    intro w911 M912
    refine W_nil ?_
    refine N_then ?_
    refine G_seq ?_
    refine G_seq ?_
    refine G_quiet (by kernel_rfl) (by kernel_rfl) M912 ?_
    refine Z_val (.agg #[.slice p842 x840.Items.length c843, .int .i64 x840.Head, .int .i64 x840.Tail]) (by kernel_rfl) (fun w_ M_ => (E_load (e := 27) (fr := (0, 0)) _ _ true 3 b851 0 [.slice p842 x840.Items.length c843, .int .i64 x840.Head, .int .i64 x840.Tail] (.agg #[.slice p842 x840.Items.length c843, .int .i64 x840.Head, .int .i64 x840.Tail]) rfl (by kernel_rfl) (by kernel_rfl) (by kernel_rfl) (M_.blk 0 (b := b851) (o := .cells ⟨[.slice p842 x840.Items.length c843, .int .i64 x840.Head, .int .i64 x840.Tail]⟩ 27 (0, 0)) (by kernel_rfl)))) ?_
    obtain ⟨r913, hr913, hm⟩ := gx_bind hm
    refine Z_call 63 #[.agg #[.slice p842 x840.Items.length c843, .int .i64 x840.Head, .int .i64 x840.Tail]] (.int .i64 r913) (by kernel_rfl) (fun w_ => by kernel_rfl) (fun w_ M_ => (c_s_l20Count w_ x840 p842 c843 (h844.mem0 M_) hr913).mono fun e w2_ h_ => ⟨h_.1, M_.call0 h_.2⟩) ?_
    refine Z_runs [.pointer (some ⟨b851, 0, none⟩)] [(1, .int .i64 x845), (2, .pointer (some ⟨b851, 0, none⟩)), (4, .pointer (some ⟨b856, 0, none⟩)), (6, .pointer (some ⟨b870, 0, none⟩)), (16, .int .i64 r913), (17, .pointer (some ⟨b851, 0, none⟩))] (fun w_ => by kernel_rfl) (by kernel_rfl) ?_
    refine Z_val (.slice p842 x840.Items.length c843) (by kernel_rfl) (fun w_ M_ => (E_load (e := 27) (fr := (0, 0)) _ _ false 1 b851 0 [.slice p842 x840.Items.length c843, .int .i64 x840.Head, .int .i64 x840.Tail] (.slice p842 x840.Items.length c843) rfl (by kernel_rfl) (by kernel_rfl) (by kernel_rfl) (M_.blk 0 (b := b851) (o := .cells ⟨[.slice p842 x840.Items.length c843, .int .i64 x840.Head, .int .i64 x840.Tail]⟩ 27 (0, 0)) (by kernel_rfl)))) ?_
    refine Z_runs [.int .i64 (x840.Items.length : Int), .bool (r913 == (x840.Items.length : Int))] [(1, .int .i64 x845), (2, .pointer (some ⟨b851, 0, none⟩)), (4, .pointer (some ⟨b856, 0, none⟩)), (6, .pointer (some ⟨b870, 0, none⟩)), (20, .bool (r913 == (x840.Items.length : Int)))] (fun w_ => by kernel_rfl) (by kernel_rfl) ?_
    refine Z_end fun w917 M918 => ?_
    refine N_then ?_
    rcases gx_bif hm with ⟨hc919, hm⟩ | ⟨hc919, hm⟩
    · refine G_cond_t (b := (r913 == (x840.Items.length : Int))) hc919 (by kernel_rfl) ?_
      refine G_seq ?_
      refine G_region ?_
      refine W_val (.agg #[.slice p863 r861.length c864, .int .i64 x840.Head, .int .i64 x840.Tail]) w917 (by kernel_rfl) (E_load (e := 27) (fr := (0, 0)) _ _ true 3 b870 0 [.slice p863 r861.length c864, .int .i64 x840.Head, .int .i64 x840.Tail] (.agg #[.slice p863 r861.length c864, .int .i64 x840.Head, .int .i64 x840.Tail]) rfl (by kernel_rfl) (by kernel_rfl) (by kernel_rfl) (M918.blk 3 (b := b870) (o := .cells ⟨[.slice p863 r861.length c864, .int .i64 x840.Head, .int .i64 x840.Tail]⟩ 27 (0, 0)) (by kernel_rfl))) ?_
      refine W_store _ _ _ true 3 b856 0 [.slice none 0 0, .int .i64 0, .int .i64 0] 27 (.agg #[.slice p863 r861.length c864, .int .i64 x840.Head, .int .i64 x840.Tail]) 1 [.slice p863 r861.length c864, .int .i64 x840.Head, .int .i64 x840.Tail] M918 (by kernel_rfl) rfl (by kernel_rfl) (by kernel_rfl) (by kernel_rfl) (by kernel_rfl) (by kernel_rfl) (by kernel_rfl) (by kernel_rfl) (by kernel_rfl) ?_
      intro w920 M921
      refine W_run 1 [(4, .pointer (some ⟨b856, 0, none⟩)), (5, .bool false)] w920 (by kernel_rfl) ?_
      refine W_nil ?_
      refine N_then ?_
      refine G_ret ?_
      refine N_then_ret ?_
      obtain rfl := Option.some.inj hm
      refine N_ret [.agg #[.slice p863 r861.length c864, .int .i64 x840.Head, .int .i64 x840.Tail], .bool false] (RVs_cons (RV_cell (g := true) (k := 3) (b := b856) (off := 0) (cs := [.slice p863 r861.length c864, .int .i64 x840.Head, .int .i64 x840.Tail]) (e := 27) (fr := (0, 0)) (v := .agg #[.slice p863 r861.length c864, .int .i64 x840.Head, .int .i64 x840.Tail]) (M921.blk 1 (b := b856) (o := .cells ⟨[.slice p863 r861.length c864, .int .i64 x840.Head, .int .i64 x840.Tail]⟩ 27 (0, 0)) (by kernel_rfl)) (by kernel_rfl) (by kernel_rfl) (by kernel_rfl)) (RVs_cons (RV_tmp (by kernel_rfl)) RVs_nil)) ?_
      exact ⟨p863, c864, (g859 2), rfl, ho866, M921.pick [2] (by kernel_rfl)⟩
    · refine G_cond_f (b := (r913 == (x840.Items.length : Int))) hc919 (by kernel_rfl) ?_
      refine G_skip ?_
      refine N_then ?_
      refine G_seq ?_
      obtain ⟨q924, hq924, hm⟩ := gx_bind hm
      refine G_sub [(1, .int .i64 x845), (2, .pointer (some ⟨b851, 0, none⟩)), (4, .pointer (some ⟨b856, 0, none⟩)), (6, .pointer (some ⟨b870, 0, none⟩)), (20, .bool (r913 == (x840.Items.length : Int)))] (by kernel_rfl) ?_
      refine G_dagL 9 [[], [0], [], [2], [], [4], [5], [3, 6], []] [[], [], [], [], [], [], [], [], []] [[], [], [], [], [], [], [], [], []] [[], [], [], [], [], [], [], [], []] [[], [], [], [], [], [], [], [], []] [[], [], [], [], [], [], [], [], []] (fun _ => []) (fun i => ([fun f v s => v = (.pointer (some ⟨b870, 0, none⟩) : Value) ∧ s = [], fun f v s => v = (.slice p863 r861.length c864 : Value) ∧ s = [], fun f v s => v = (.pointer (some ⟨b851, 2, none⟩) : Value) ∧ s = [], fun f v s => v = (.int .i64 x840.Tail : Value) ∧ s = [], fun f v s => v = (.pointer (some ⟨b851, 0, none⟩) : Value) ∧ s = [], fun f v s => v = (.slice p842 x840.Items.length c843 : Value) ∧ s = [], fun f v s => v = (.int .i64 (x840.Items.length : Int) : Value) ∧ s = [], fun f v s => v = (.int .i64 q924 : Value) ∧ s = [], fun f v s => v = (.int .i64 x845 : Value) ∧ s = []] : List ((Nat → Value) → Value → Seg → Prop)).getD i (fun _ _ _ => False)) (fun j f v => ∃ s, (fun i => ([fun f v s => v = (.pointer (some ⟨b870, 0, none⟩) : Value) ∧ s = [], fun f v s => v = (.slice p863 r861.length c864 : Value) ∧ s = [], fun f v s => v = (.pointer (some ⟨b851, 2, none⟩) : Value) ∧ s = [], fun f v s => v = (.int .i64 x840.Tail : Value) ∧ s = [], fun f v s => v = (.pointer (some ⟨b851, 0, none⟩) : Value) ∧ s = [], fun f v s => v = (.slice p842 x840.Items.length c843 : Value) ∧ s = [], fun f v s => v = (.int .i64 (x840.Items.length : Int) : Value) ∧ s = [], fun f v s => v = (.int .i64 q924 : Value) ∧ s = [], fun f v s => v = (.int .i64 x845 : Value) ∧ s = []] : List ((Nat → Value) → Value → Seg → Prop)).getD i (fun _ _ _ => False)) j f v s) [] [1, 7, 8] [] (fun _ _ _ s h => ⟨s, h⟩) (by kernel_rfl) (by kernel_rfl) (M918.preNil 9) (by kernel_rfl) (by kernel_rfl) (by kernel_rfl) (by kernel_rfl) (allOb_cons ?_ (allOb_cons ?_ (allOb_cons ?_ (allOb_cons ?_ (allOb_cons ?_ (allOb_cons ?_ (allOb_cons ?_ (allOb_cons ?_ (allOb_cons ?_ allOb_nil))))))))) ?_
      · intro g922 f923
        intro R w925 M926
        refine W_run 1 [(22, .pointer (some ⟨b870, 0, none⟩))] w925 (by kernel_rfl) ?_
        exact W_nil (ob_end (.pointer (some ⟨b870, 0, none⟩)) [] rfl (by kernel_rfl) ⟨by kernel_rfl, rfl⟩ M926)
      · intro g922 f923
        intro v0_ hb0_
        obtain ⟨rfl, _⟩ := hb0_
        intro R w929 M930
        refine W_val (.slice p863 r861.length c864) w929 (by kernel_rfl) (E_load (e := 27) (fr := (0, 0)) _ _ false 1 b870 0 [.slice p863 r861.length c864, .int .i64 x840.Head, .int .i64 x840.Tail] (.slice p863 r861.length c864) rfl (by kernel_rfl) (by kernel_rfl) (by kernel_rfl) (M930.blk 3 (b := b870) (o := .cells ⟨[.slice p863 r861.length c864, .int .i64 x840.Head, .int .i64 x840.Tail]⟩ 27 (0, 0)) (by kernel_rfl))) ?_
        exact W_nil (ob_end (.slice p863 r861.length c864) [] rfl (by kernel_rfl) ⟨by kernel_rfl, rfl⟩ M930)
      · intro g922 f923
        intro R w933 M934
        refine W_run 1 [(24, .pointer (some ⟨b851, 2, none⟩))] w933 (by kernel_rfl) ?_
        exact W_nil (ob_end (.pointer (some ⟨b851, 2, none⟩)) [] rfl (by kernel_rfl) ⟨by kernel_rfl, rfl⟩ M934)
      · intro g922 f923
        intro v2_ hb2_
        obtain ⟨rfl, _⟩ := hb2_
        intro R w937 M938
        refine W_val (.int .i64 x840.Tail) w937 (by kernel_rfl) (E_load (e := 27) (fr := (0, 0)) _ _ false 1 b851 2 [.slice p842 x840.Items.length c843, .int .i64 x840.Head, .int .i64 x840.Tail] (.int .i64 x840.Tail) rfl (by kernel_rfl) (by kernel_rfl) (by kernel_rfl) (M938.blk 0 (b := b851) (o := .cells ⟨[.slice p842 x840.Items.length c843, .int .i64 x840.Head, .int .i64 x840.Tail]⟩ 27 (0, 0)) (by kernel_rfl))) ?_
        exact W_nil (ob_end (.int .i64 x840.Tail) [] rfl (by kernel_rfl) ⟨by kernel_rfl, rfl⟩ M938)
      · intro g922 f923
        intro R w941 M942
        refine W_run 1 [(26, .pointer (some ⟨b851, 0, none⟩))] w941 (by kernel_rfl) ?_
        exact W_nil (ob_end (.pointer (some ⟨b851, 0, none⟩)) [] rfl (by kernel_rfl) ⟨by kernel_rfl, rfl⟩ M942)
      · intro g922 f923
        intro v4_ hb4_
        obtain ⟨rfl, _⟩ := hb4_
        intro R w945 M946
        refine W_val (.slice p842 x840.Items.length c843) w945 (by kernel_rfl) (E_load (e := 27) (fr := (0, 0)) _ _ false 1 b851 0 [.slice p842 x840.Items.length c843, .int .i64 x840.Head, .int .i64 x840.Tail] (.slice p842 x840.Items.length c843) rfl (by kernel_rfl) (by kernel_rfl) (by kernel_rfl) (M946.blk 0 (b := b851) (o := .cells ⟨[.slice p842 x840.Items.length c843, .int .i64 x840.Head, .int .i64 x840.Tail]⟩ 27 (0, 0)) (by kernel_rfl))) ?_
        exact W_nil (ob_end (.slice p842 x840.Items.length c843) [] rfl (by kernel_rfl) ⟨by kernel_rfl, rfl⟩ M946)
      · intro g922 f923
        intro v5_ hb5_
        obtain ⟨rfl, _⟩ := hb5_
        intro R w949 M950
        refine W_run 1 [(28, .int .i64 (x840.Items.length : Int))] w949 (by kernel_rfl) ?_
        exact W_nil (ob_end (.int .i64 (x840.Items.length : Int)) [] rfl (by kernel_rfl) ⟨by kernel_rfl, rfl⟩ M950)
      · intro g922 f923
        intro v3_ hb3_
        obtain ⟨rfl, _⟩ := hb3_
        intro v6_ hb6_
        obtain ⟨rfl, _⟩ := hb6_
        intro R w953 M954
        refine W_val (.int .i64 q924) w953 (by kernel_rfl) (E_rem _ _ _ _ x840.Tail (x840.Items.length : Int) q924 rfl (by kernel_rfl) (by kernel_rfl) hq924) ?_
        exact W_nil (ob_end (.int .i64 q924) [] rfl (by kernel_rfl) ⟨by kernel_rfl, rfl⟩ M954)
      · intro g922 f923
        intro R w957 M958
        refine W_run 1 [(30, .int .i64 x845)] w957 (by kernel_rfl) ?_
        exact W_nil (ob_end (.int .i64 x845) [] rfl (by kernel_rfl) ⟨by kernel_rfl, rfl⟩ M958)
      · intro g922 f923
        intro v1_ hb1_
        obtain ⟨rfl, _⟩ := hb1_
        intro v7_ hb7_
        obtain ⟨rfl, _⟩ := hb7_
        intro v8_ hb8_
        obtain ⟨rfl, _⟩ := hb8_
        intro w961 M962
        have M963 : Mem [] w w961 [[(b851, .cells ⟨[.slice p842 x840.Items.length c843, .int .i64 x840.Head, .int .i64 x840.Tail]⟩ 27 (0, 0))], [(b856, .cells ⟨[.slice none 0 0, .int .i64 0, .int .i64 0]⟩ 27 (0, 0))], (g859 2), [(b870, .cells ⟨[.slice p863 r861.length c864, .int .i64 x840.Head, .int .i64 x840.Tail]⟩ 27 (0, 0))]] := M962
        obtain ⟨y964, hy964, hm⟩ := gx_bind hm
        refine W_val (elemP p863 (q924.toNat * 1)) w961 (by kernel_rfl) (E_index (E := encI) _ _ _ r861.length c864 .i64 q924 1 (y := y964) rfl (by kernel_rfl) (by kernel_rfl) (by kernel_rfl) (ho866.rd M963 2 (by kernel_rfl)) rfl hy964) ?_
        refine W_storeE (E := encI) _ _ _ false 1 q924.toNat 0 (q924.toNat * 1) y964 x845 (.int .i64 x845) 2 M963 ho866 (by kernel_rfl) (by kernel_rfl) rfl (by kernel_rfl) (by kernel_rfl) (by kernel_rfl) (by kernel_rfl) (by kernel_rfl) (by kernel_rfl) (by kernel_rfl) (gxIdx_spec hy964).2 rfl ?_
        intro w965 sg967 ho968 M966
        refine W_conv 23 (.slice p863 r861.length c864) (.slice p863 (r861.set q924.toNat x845).length c864) (by kernel_rfl) (by rw [@List.length_set _ r861 q924.toNat x845]) ?_
        have M969 : Mem [] w w965 [[(b851, .cells ⟨[.slice p842 x840.Items.length c843, .int .i64 x840.Head, .int .i64 x840.Tail]⟩ 27 (0, 0))], [(b856, .cells ⟨[.slice none 0 0, .int .i64 0, .int .i64 0]⟩ 27 (0, 0))], sg967, [(b870, .cells ⟨[.slice p863 (r861.set q924.toNat x845).length c864, .int .i64 x840.Head, .int .i64 x840.Tail]⟩ 27 (0, 0))]] := by rw [@List.length_set _ r861 q924.toNat x845]; exact M966
        refine W_nil ?_
        refine N_then ?_
        refine G_seq ?_
        refine G_region ?_
        refine W_run 1 [(4, .pointer (some ⟨b856, 0, none⟩)), (6, .pointer (some ⟨b870, 0, none⟩)), (32, .pointer (some ⟨b851, 2, none⟩))] w965 (by kernel_rfl) ?_
        refine W_val (.int .i64 x840.Tail) w965 (by kernel_rfl) (E_load (e := 27) (fr := (0, 0)) _ _ false 1 b851 2 [.slice p842 x840.Items.length c843, .int .i64 x840.Head, .int .i64 x840.Tail] (.int .i64 x840.Tail) rfl (by kernel_rfl) (by kernel_rfl) (by kernel_rfl) (M969.blk 0 (b := b851) (o := .cells ⟨[.slice p842 x840.Items.length c843, .int .i64 x840.Head, .int .i64 x840.Tail]⟩ 27 (0, 0)) (by kernel_rfl))) ?_
        refine W_run 3 [(4, .pointer (some ⟨b856, 0, none⟩)), (6, .pointer (some ⟨b870, 0, none⟩)), (35, .int .i64 ((w64 (x840.Tail + 1)).tmod 65536)), (36, .pointer (some ⟨b870, 2, none⟩))] w965 (by kernel_rfl) ?_
        refine W_store _ _ _ false 1 b870 2 [.slice p863 (r861.set q924.toNat x845).length c864, .int .i64 x840.Head, .int .i64 x840.Tail] 27 (.int .i64 ((w64 (x840.Tail + 1)).tmod 65536)) 3 [.slice p863 (r861.set q924.toNat x845).length c864, .int .i64 x840.Head, .int .i64 ((w64 (x840.Tail + 1)).tmod 65536)] M969 (by kernel_rfl) rfl (by kernel_rfl) (by kernel_rfl) (by kernel_rfl) (by kernel_rfl) (by kernel_rfl) (by kernel_rfl) (by kernel_rfl) (by kernel_rfl) ?_
        intro w970 M971
        refine W_nil ?_
        refine N_then ?_
        refine G_seq ?_
        refine G_region ?_
        refine W_val (.agg #[.slice p863 (r861.set q924.toNat x845).length c864, .int .i64 x840.Head, .int .i64 ((w64 (x840.Tail + 1)).tmod 65536)]) w970 (by kernel_rfl) (E_load (e := 27) (fr := (0, 0)) _ _ true 3 b870 0 [.slice p863 (r861.set q924.toNat x845).length c864, .int .i64 x840.Head, .int .i64 ((w64 (x840.Tail + 1)).tmod 65536)] (.agg #[.slice p863 (r861.set q924.toNat x845).length c864, .int .i64 x840.Head, .int .i64 ((w64 (x840.Tail + 1)).tmod 65536)]) rfl (by kernel_rfl) (by kernel_rfl) (by kernel_rfl) (M971.blk 3 (b := b870) (o := .cells ⟨[.slice p863 (r861.set q924.toNat x845).length c864, .int .i64 x840.Head, .int .i64 ((w64 (x840.Tail + 1)).tmod 65536)]⟩ 27 (0, 0)) (by kernel_rfl))) ?_
        refine W_store _ _ _ true 3 b856 0 [.slice none 0 0, .int .i64 0, .int .i64 0] 27 (.agg #[.slice p863 (r861.set q924.toNat x845).length c864, .int .i64 x840.Head, .int .i64 ((w64 (x840.Tail + 1)).tmod 65536)]) 1 [.slice p863 (r861.set q924.toNat x845).length c864, .int .i64 x840.Head, .int .i64 ((w64 (x840.Tail + 1)).tmod 65536)] M971 (by kernel_rfl) rfl (by kernel_rfl) (by kernel_rfl) (by kernel_rfl) (by kernel_rfl) (by kernel_rfl) (by kernel_rfl) (by kernel_rfl) (by kernel_rfl) ?_
        intro w972 M973
        refine W_run 1 [(4, .pointer (some ⟨b856, 0, none⟩)), (5, .bool true)] w972 (by kernel_rfl) ?_
        refine W_nil ?_
        refine N_then ?_
        refine G_ret ?_
        obtain rfl := Option.some.inj hm
        refine N_ret [.agg #[.slice p863 (r861.set q924.toNat x845).length c864, .int .i64 x840.Head, .int .i64 ((w64 (x840.Tail + 1)).tmod 65536)], .bool true] (RVs_cons (RV_cell (g := true) (k := 3) (b := b856) (off := 0) (cs := [.slice p863 (r861.set q924.toNat x845).length c864, .int .i64 x840.Head, .int .i64 ((w64 (x840.Tail + 1)).tmod 65536)]) (e := 27) (fr := (0, 0)) (v := .agg #[.slice p863 (r861.set q924.toNat x845).length c864, .int .i64 x840.Head, .int .i64 ((w64 (x840.Tail + 1)).tmod 65536)]) (M973.blk 1 (b := b856) (o := .cells ⟨[.slice p863 (r861.set q924.toNat x845).length c864, .int .i64 x840.Head, .int .i64 ((w64 (x840.Tail + 1)).tmod 65536)]⟩ 27 (0, 0)) (by kernel_rfl)) (by kernel_rfl) (by kernel_rfl) (by kernel_rfl)) (RVs_cons (RV_tmp (by kernel_rfl)) RVs_nil)) ?_
        exact ⟨p863, c864, sg967, rfl, ho968, M973.pick [2] (by kernel_rfl)⟩
theorem c_s_l1Cur_ring (w : World) (x534 : l1Cur) (p538 : Option Addr) (c539 : Nat) (h540 : rdS encU8 w x534.code p538 c539) (b536 : Nat) (hA : ∀ q ∈ List.flatten [[(b536, .cells ⟨[.slice p538 x534.code.length c539, .int .i64 x534.at_, .int .u64 x534.seed]⟩ 73 (0, 0))]], w.heap[q.1]? = some q.2) (hN : (idsOf [[(b536, .cells ⟨[.slice p538 x534.code.length c539, .int .i64 x534.at_, .int .u64 x534.seed]⟩ 73 (0, 0))]]).Nodup) (hap541 : apartX (idsOf [[(b536, .cells ⟨[.slice p538 x534.code.length c539, .int .i64 x534.at_, .int .u64 x534.seed]⟩ 73 (0, 0))]]) x534.code p538) {r : Ring × Int × Int} (hm : M.s_l1Cur_ring x534 = some r) :
    Calls Try.prog 74 #[.pointer (some ⟨b536, 0, none⟩)] w fun e w' => ∃ (p543 : Option Addr) (c544 : Nat) (sg545 : Seg), e = .returned (.agg #[.slice p543 r.1.Items.length c544, .int .i64 r.1.Head, .int .i64 r.1.Tail]) ∧ ownS encI r.1.Items p543 c544 sg545 ∧ Mem (idsOf [[(b536, .cells ⟨[.slice p538 x534.code.length c539, .int .i64 x534.at_, .int .u64 x534.seed]⟩ 73 (0, 0))]]) w w' [[(b536, .cells ⟨[.slice p538 x534.code.length c539, .int .i64 r.2.1, .int .u64 r.2.2]⟩ 73 (0, 0))], sg545] := by
  unfold M.s_l1Cur_ring at hm
  refine C_enter Try.func74 rfl (by kernel_rfl) ?_
  have M0 := Mem.start' w [[(b536, .cells ⟨[.slice p538 x534.code.length c539, .int .i64 x534.at_, .int .u64 x534.seed]⟩ 73 (0, 0))]] hA hN
  refine G_seq ?_
  refine G_region ?_
  refine W_new (fun b => .pointer (some ⟨b, 0, none⟩)) (.cells ⟨[.slice none 0 0, .int .i64 0, .int .i64 0]⟩ 27 (0, 0)) M0 rfl (by kernel_rfl) (by kernel_rfl) ?_
  intro b548 w549 M550
  refine W_nil ?_
  refine N_then ?_
  refine G_seq ?_
  refine G_region ?_
  refine W_run 1 [(0, .pointer (some ⟨b536, 0, none⟩)), (2, .pointer (some ⟨b548, 0, none⟩)), (7, .pointer (some ⟨b536, 0, none⟩))] w549 (by kernel_rfl) ?_
  refine W_lit (E := encI) [1, 2, 4, 4, 8] 5 [.int .i64 1, .int .i64 2, .int .i64 4, .int .i64 4, .int .i64 8] 3 M550 (by kernel_rfl) (by kernel_rfl) (by kernel_rfl) (by kernel_rfl) (by kernel_rfl) ?_
  intro p551 c552 sg553 w554 ho555 M556
  obtain ⟨r558, hr558, hm⟩ := gx_bind hm
  refine W_call 75 #[.pointer (some ⟨b536, 0, none⟩), .slice p551 [1, 2, 4, 4, 8].length c552] (by kernel_rfl) (by kernel_rfl) ?_
  refine (c_s_l1Cur_among w554 x534 p538 c539 (h540.memX hap541 M556) b536 [1, 2, 4, 4, 8] p551 c552 (ho555.rd M556 2 (by kernel_rfl)) (M556.hasPick [0]) (M556.nodupPick [0] (by kernel_rfl)) (apartX.old h540 hap541 M556 [0]) (apartX.own ho555 M556 2 (by kernel_rfl) [0] (by kernel_rfl)) hr558).mono ?_
  rintro e_ w559 ⟨rfl, K560⟩
  have M561 := M556.callF' [0] [1, 2] (by kernel_rfl) K560
  refine ⟨_, rfl, ?_⟩
  refine W_run 1 [(0, .pointer (some ⟨b536, 0, none⟩)), (2, .pointer (some ⟨b548, 0, none⟩)), (9, .int .i64 r558.1), (10, .pointer (some ⟨b536, 0, none⟩))] w559 (by kernel_rfl) ?_
  refine W_lit (E := encI) [0, 1, 5, 65533, 65534, 65535, 1000] 7 [.int .i64 0, .int .i64 1, .int .i64 5, .int .i64 65533, .int .i64 65534, .int .i64 65535, .int .i64 1000] 3 M561 (by kernel_rfl) (by kernel_rfl) (by kernel_rfl) (by kernel_rfl) (by kernel_rfl) ?_
  intro p562 c563 sg564 w565 ho566 M567
  obtain ⟨r569, hr569, hm⟩ := gx_bind hm
  refine W_call 75 #[.pointer (some ⟨b536, 0, none⟩), .slice p562 [0, 1, 5, 65533, 65534, 65535, 1000].length c563] (by kernel_rfl) (by kernel_rfl) ?_
  refine (c_s_l1Cur_among w565 (⟨x534.code, r558.2.1, r558.2.2⟩ : l1Cur) p538 c539 (h540.memX hap541 M567) b536 [0, 1, 5, 65533, 65534, 65535, 1000] p562 c563 (ho566.rd M567 3 (by kernel_rfl)) (M567.hasPick [2]) (M567.nodupPick [2] (by kernel_rfl)) (apartX.old h540 hap541 M567 [2]) (apartX.own ho566 M567 3 (by kernel_rfl) [2] (by kernel_rfl)) hr569).mono ?_
  rintro e_ w570 ⟨rfl, K571⟩
  have M572 := M567.callF' [2] [0, 1, 3] (by kernel_rfl) K571
  refine ⟨_, rfl, ?_⟩
  obtain ⟨r638, hr638, hm⟩ := gx_bind hm
  refine W_call 16 #[.int .i64 r558.1, .int .i64 r569.1] (by kernel_rfl) (by kernel_rfl) ?_
  refine (c_s_MakeRing w570 r558.1 r569.1 hr638).mono ?_
  rintro e_ w644 ⟨p640, c641, sg642, rfl, ho643, K645⟩
  have M646 := M572.call K645
  refine ⟨_, rfl, ?_⟩
  refine W_run 3 [(0, .pointer (some ⟨b536, 0, none⟩)), (2, .pointer (some ⟨b548, 0, none⟩)), (14, .agg #[.slice p640 r638.1.Items.length c641, .int .i64 r638.1.Head, .int .i64 r638.1.Tail]), (15, .bool r638.2)] w644 (by kernel_rfl) ?_
  refine W_new (fun b => .pointer (some ⟨b, 0, none⟩)) (.cells ⟨[.slice none 0 0, .int .i64 0, .int .i64 0]⟩ 27 (0, 0)) M646 rfl (by kernel_rfl) (by kernel_rfl) ?_
  intro b649 w650 M651
  refine W_store _ _ _ true 3 b649 0 [.slice none 0 0, .int .i64 0, .int .i64 0] 27 (.agg #[.slice p640 r638.1.Items.length c641, .int .i64 r638.1.Head, .int .i64 r638.1.Tail]) 5 [.slice p640 r638.1.Items.length c641, .int .i64 r638.1.Head, .int .i64 r638.1.Tail] M651 (by kernel_rfl) rfl (by kernel_rfl) (by kernel_rfl) (by kernel_rfl) (by kernel_rfl) (by kernel_rfl) (by kernel_rfl) (by kernel_rfl) (by kernel_rfl) ?_
  intro w652 M653
  refine W_run 1 [(0, .pointer (some ⟨b536, 0, none⟩)), (2, .pointer (some ⟨b548, 0, none⟩)), (3, .pointer (some ⟨b649, 0, none⟩))] w652 (by kernel_rfl) ?_
  refine W_nil ?_
  refine N_then ?_
  refine G_seq ?_
  refine G_seq ?_
  refine G_region ?_
  refine W_run 1 [(0, .pointer (some ⟨b536, 0, none⟩)), (2, .pointer (some ⟨b548, 0, none⟩)), (3, .pointer (some ⟨b649, 0, none⟩)), (16, .pointer (some ⟨b536, 0, none⟩))] w652 (by kernel_rfl) ?_
  obtain ⟨r654, hr654, hm⟩ := gx_bind hm
  refine W_call 73 #[.pointer (some ⟨b536, 0, none⟩), .int .i64 14] (by kernel_rfl) (by kernel_rfl) ?_
  refine (c_s_l1Cur_pick w652 (⟨x534.code, r569.2.1, r569.2.2⟩ : l1Cur) p538 c539 (h540.memX hap541 M653) b536 14 (M653.hasPick [3]) (M653.nodupPick [3] (by kernel_rfl)) (apartX.old h540 hap541 M653 [3]) hr654).mono ?_
  rintro e_ w655 ⟨rfl, K656⟩
  have M657 := M653.callF' [3] [0, 1, 2, 4, 5] (by kernel_rfl) K656
  refine ⟨_, rfl, ?_⟩
  refine W_run 1 [(0, .pointer (some ⟨b536, 0, none⟩)), (2, .pointer (some ⟨b548, 0, none⟩)), (3, .pointer (some ⟨b649, 0, none⟩)), (5, .int .i64 r654.1)] w655 (by kernel_rfl) ?_
  refine W_nil ?_
  refine N_then ?_
  obtain ⟨out1267, hw1268, hmo1269⟩ := gx_bind hm
  refine G_meet (fun a w' => ∃ (p1276 : Option Addr), ∃ (c1277 : Nat), ∃ (sg1278 : Seg), ownS encI out1267.2.2.1 p1276 c1277 sg1278 ∧ Mem (idsOf [[(b536, .cells ⟨[.slice p538 x534.code.length c539, .int .i64 x534.at_, .int .u64 x534.seed]⟩ 73 (0, 0))]]) w w' [[(b548, .cells ⟨[.slice none 0 0, .int .i64 0, .int .i64 0]⟩ 27 (0, 0))], [(b649, .cells ⟨[.slice p1276 out1267.2.2.1.length c1277, .int .i64 out1267.2.2.2.1, .int .i64 out1267.2.2.2.2]⟩ 27 (0, 0))], [(b536, .cells ⟨[.slice p538 x534.code.length c539, .int .i64 out1267.1, .int .u64 out1267.2.1]⟩ 73 (0, 0))], sg1278] ∧ Sat Try.f74.ntmps [(0, .pointer (some ⟨b536, 0, none⟩)), (2, .pointer (some ⟨b548, 0, none⟩)), (3, .pointer (some ⟨b649, 0, none⟩))] a) ?_ ?_
  · refine G_block ?_
    refine G_while (σ := Int × Int × Int × List Int × Int × Int) (ρ := Int × Int × List Int × Int × Int) (fun s1260 a w' => ∃ (p1270 : Option Addr), ∃ (c1271 : Nat), ∃ (sg1272 : Seg), ownS encI s1260.2.2.2.1 p1270 c1271 sg1272 ∧ Mem (idsOf [[(b536, .cells ⟨[.slice p538 x534.code.length c539, .int .i64 x534.at_, .int .u64 x534.seed]⟩ 73 (0, 0))]]) w w' [[(b548, .cells ⟨[.slice none 0 0, .int .i64 0, .int .i64 0]⟩ 27 (0, 0))], [(b649, .cells ⟨[.slice p1270 s1260.2.2.2.1.length c1271, .int .i64 s1260.2.2.2.2.1, .int .i64 s1260.2.2.2.2.2]⟩ 27 (0, 0))], [(b536, .cells ⟨[.slice p538 x534.code.length c539, .int .i64 s1260.2.1, .int .u64 s1260.2.2.1]⟩ 73 (0, 0))], sg1272] ∧ Sat Try.f74.ntmps [(0, .pointer (some ⟨b536, 0, none⟩)), (2, .pointer (some ⟨b548, 0, none⟩)), (3, .pointer (some ⟨b649, 0, none⟩)), (5, .int .i64 s1260.1)] a) hw1268 (fun a ha => ⟨p640, c641, sg642, ho643, M657.pick [0, 4, 5, 3] (by kernel_rfl), ha.sub (by kernel_rfl)⟩) ?_
    clear hm
    intro s1260 x1261 hm hout1262 a1263 w1264 ⟨p1270, c1271, sg1272, ho1273, M1265, hS1266⟩
    refine G_use hS1266 ?_
    refine G_seq ?_
    refine G_seq ?_
    refine G_region ?_
    refine W_run 2 [(0, .pointer (some ⟨b536, 0, none⟩)), (2, .pointer (some ⟨b548, 0, none⟩)), (3, .pointer (some ⟨b649, 0, none⟩)), (5, .int .i64 s1260.1), (19, .bool (decide (s1260.1 > 0)))] w1264 (by kernel_rfl) ?_
    refine W_nil ?_
    refine N_then ?_
    rcases gx_bif hm with ⟨hc1281, hm⟩ | ⟨hc1281, hm⟩
    · refine G_cond_t (b := (decide (s1260.1 > 0))) hc1281 (by kernel_rfl) ?_
      refine G_skip ?_
      refine N_then ?_
      refine G_seq ?_
      refine G_block ?_
      refine G_seq ?_
      refine G_region ?_
      refine W_run 1 [(0, .pointer (some ⟨b536, 0, none⟩)), (2, .pointer (some ⟨b548, 0, none⟩)), (3, .pointer (some ⟨b649, 0, none⟩)), (5, .int .i64 s1260.1), (22, .pointer (some ⟨b536, 0, none⟩))] w1264 (by kernel_rfl) ?_
      obtain ⟨r1282, hr1282, hm⟩ := gx_bind hm
      refine W_call 71 #[.pointer (some ⟨b536, 0, none⟩), .int .i64 3] (by kernel_rfl) (by kernel_rfl) ?_
      refine (c_s_l1Cur_one w1264 (⟨x534.code, s1260.2.1, s1260.2.2.1⟩ : l1Cur) p538 c539 (h540.memX hap541 M1265) b536 3 (M1265.hasPick [2]) (M1265.nodupPick [2] (by kernel_rfl)) (apartX.old h540 hap541 M1265 [2]) hr1282).mono ?_
      rintro e_ w1283 ⟨rfl, K1284⟩
      have M1285 := M1265.callF' [2] [0, 1, 3] (by kernel_rfl) K1284
      refine ⟨_, rfl, ?_⟩
      refine W_nil ?_
      refine N_then ?_
      obtain ⟨o1354, ho1355, hm1356⟩ := gx_bind hm
      refine G_meet (fun a w' => ∃ (p1357 : Option Addr), ∃ (c1358 : Nat), ∃ (sg1359 : Seg), ownS encI o1354.2.2.1 p1357 c1358 sg1359 ∧ Mem (idsOf [[(b536, .cells ⟨[.slice p538 x534.code.length c539, .int .i64 x534.at_, .int .u64 x534.seed]⟩ 73 (0, 0))]]) w w' [[(b548, .cells ⟨[.slice none 0 0, .int .i64 0, .int .i64 0]⟩ 27 (0, 0))], [(b649, .cells ⟨[.slice p1357 o1354.2.2.1.length c1358, .int .i64 o1354.2.2.2.1, .int .i64 o1354.2.2.2.2]⟩ 27 (0, 0))], [(b536, .cells ⟨[.slice p538 x534.code.length c539, .int .i64 o1354.1, .int .u64 o1354.2.1]⟩ 73 (0, 0))], sg1359] ∧ Sat Try.f74.ntmps [(0, .pointer (some ⟨b536, 0, none⟩)), (2, .pointer (some ⟨b548, 0, none⟩)), (3, .pointer (some ⟨b649, 0, none⟩)), (5, .int .i64 s1260.1)] a) ?_ ?_
      · have hm := ho1355
        rcases gx_bif hm with ⟨hc1362, hm⟩ | ⟨hc1362, hm⟩
        · refine G_cond_t (b := r1282.1) hc1362 (by kernel_rfl) ?_
          refine G_region ?_
          refine W_val (.agg #[.slice p1270 s1260.2.2.2.1.length c1271, .int .i64 s1260.2.2.2.2.1, .int .i64 s1260.2.2.2.2.2]) w1283 (by kernel_rfl) (E_load (e := 27) (fr := (0, 0)) _ _ true 3 b649 0 [.slice p1270 s1260.2.2.2.1.length c1271, .int .i64 s1260.2.2.2.2.1, .int .i64 s1260.2.2.2.2.2] (.agg #[.slice p1270 s1260.2.2.2.1.length c1271, .int .i64 s1260.2.2.2.2.1, .int .i64 s1260.2.2.2.2.2]) rfl (by kernel_rfl) (by kernel_rfl) (by kernel_rfl) (M1285.blk 1 (b := b649) (o := .cells ⟨[.slice p1270 s1260.2.2.2.1.length c1271, .int .i64 s1260.2.2.2.2.1, .int .i64 s1260.2.2.2.2.2]⟩ 27 (0, 0)) (by kernel_rfl))) ?_
          obtain ⟨r1363, hr1363, hm⟩ := gx_bind hm
          refine W_call 64 #[.agg #[.slice p1270 s1260.2.2.2.1.length c1271, .int .i64 s1260.2.2.2.2.1, .int .i64 s1260.2.2.2.2.2]] (by kernel_rfl) (by kernel_rfl) ?_
          refine (c_s_l20Take w1283 (⟨s1260.2.2.2.1, s1260.2.2.2.2.1, s1260.2.2.2.2.2⟩ : Ring) p1270 c1271 (ho1273.rd M1285 2 (by kernel_rfl)) hr1363).mono ?_
          rintro e_ w1369 ⟨p1365, c1366, sg1367, rfl, ho1368, K1370⟩
          have M1371 := M1285.call K1370
          refine ⟨_, rfl, ?_⟩
          refine W_run 3 [(0, .pointer (some ⟨b536, 0, none⟩)), (2, .pointer (some ⟨b548, 0, none⟩)), (3, .pointer (some ⟨b649, 0, none⟩)), (5, .int .i64 s1260.1), (27, .agg #[.slice p1365 r1363.1.Items.length c1366, .int .i64 r1363.1.Head, .int .i64 r1363.1.Tail])] w1369 (by kernel_rfl) ?_
          refine W_store _ _ _ true 3 b649 0 [.slice p1270 s1260.2.2.2.1.length c1271, .int .i64 s1260.2.2.2.2.1, .int .i64 s1260.2.2.2.2.2] 27 (.agg #[.slice p1365 r1363.1.Items.length c1366, .int .i64 r1363.1.Head, .int .i64 r1363.1.Tail]) 1 [.slice p1365 r1363.1.Items.length c1366, .int .i64 r1363.1.Head, .int .i64 r1363.1.Tail] M1371 (by kernel_rfl) rfl (by kernel_rfl) (by kernel_rfl) (by kernel_rfl) (by kernel_rfl) (by kernel_rfl) (by kernel_rfl) (by kernel_rfl) (by kernel_rfl) ?_
          intro w1372 M1373
          refine W_nil ?_
          obtain rfl := Option.some.inj hm
          exact N_meet fun a ha => ⟨p1365, c1366, sg1367, ho1368, M1373.pick [0, 1, 3, 4] (by kernel_rfl), ha.sub (by kernel_rfl)⟩
        · refine G_cond_f (b := r1282.1) hc1362 (by kernel_rfl) ?_
          obtain ⟨r1381, hr1381, hm⟩ := gx_bind hm
          obtain ⟨r1382, hr1382, hm⟩ := gx_bind hm
          have M1388 : Mem (idsOf [[(b536, .cells ⟨[.slice p538 x534.code.length c539, .int .i64 x534.at_, .int .u64 x534.seed]⟩ 73 (0, 0))]]) w w1283 ([[(b548, .cells ⟨[.slice none 0 0, .int .i64 0, .int .i64 0]⟩ 27 (0, 0))], sg1272] ++ (List.range 9).map (fun i => ([[], [], [], [(b536, .cells ⟨[.slice p538 x534.code.length c539, .int .i64 r1282.2.1, .int .u64 r1282.2.2]⟩ 73 (0, 0))], [], [], [], [], [(b649, .cells ⟨[.slice p1270 s1260.2.2.2.1.length c1271, .int .i64 s1260.2.2.2.2.1, .int .i64 s1260.2.2.2.2.2]⟩ 27 (0, 0))]] : List Seg).getD i [])) := M1285.pick [0, 2, 300000, 300001, 300002, 3, 300004, 300005, 300006, 300007, 1] (by kernel_rfl)
          refine G_sub [(0, .pointer (some ⟨b536, 0, none⟩)), (2, .pointer (some ⟨b548, 0, none⟩)), (3, .pointer (some ⟨b649, 0, none⟩)), (5, .int .i64 s1260.1), (22, .pointer (some ⟨b536, 0, none⟩)), (23, .bool r1282.1)] (by kernel_rfl) ?_
          refine G_dagL 9 [[], [], [], [1, 2], [0], [], [5], [5], [6]] [[], [], [], [], [], [], [], [], []] [[], [], [], [2], [], [], [], [], []] [[], [], [], [], [3], [4], [4], [4], [4]] [[], [], [], [], [], [4], [4], [], [4]] [[8], [], [], [], [], [], [], [], []] (fun i => ([[], [], [], [(b536, .cells ⟨[.slice p538 x534.code.length c539, .int .i64 r1282.2.1, .int .u64 r1282.2.2]⟩ 73 (0, 0))], [], [], [], [], [(b649, .cells ⟨[.slice p1270 s1260.2.2.2.1.length c1271, .int .i64 s1260.2.2.2.2.1, .int .i64 s1260.2.2.2.2.2]⟩ 27 (0, 0))]] : List Seg).getD i []) (fun i => ([fun f v s => v = (.agg #[.slice p1270 s1260.2.2.2.1.length c1271, .int .i64 s1260.2.2.2.2.1, .int .i64 s1260.2.2.2.2.2] : Value) ∧ s = [], fun f v s => v = (.pointer (some ⟨b536, 0, none⟩) : Value) ∧ s = [], fun f v s => ∃ (p1377 : Option Addr) (c1378 : Nat), v = (.slice p1377 [1, 2, 3, 0, 500, 65535].length c1378 : Value) ∧ ownS encI [1, 2, 3, 0, 500, 65535] p1377 c1378 s, fun f v s => v = (.int .i64 r1381.1 : Value) ∧ s = [(b536, .cells ⟨[.slice p538 x534.code.length c539, .int .i64 r1381.2.1, .int .u64 r1381.2.2]⟩ 73 (0, 0))], fun f v s => ∃ (p1384 : Option Addr) (c1385 : Nat), v = (.tuple #[.agg #[.slice p1384 r1382.1.Items.length c1385, .int .i64 r1382.1.Head, .int .i64 r1382.1.Tail], .bool r1382.2] : Value) ∧ ownS encI r1382.1.Items p1384 c1385 s, fun f v s => v = (.tuple #[.agg #[(atPath (f 4) [0, 0]), .int .i64 r1382.1.Head, .int .i64 r1382.1.Tail], .bool r1382.2] : Value) ∧ s = [], fun f v s => v = (.agg #[(atPath (f 4) [0, 0]), .int .i64 r1382.1.Head, .int .i64 r1382.1.Tail] : Value) ∧ s = [], fun f v s => v = (.bool r1382.2 : Value) ∧ s = [], fun f v s => v = undef ∧ s = [(b649, .cells ⟨[(atPath (f 4) [0, 0]), .int .i64 r1382.1.Head, .int .i64 r1382.1.Tail]⟩ 27 (0, 0))]] : List ((Nat → Value) → Value → Seg → Prop)).getD i (fun _ _ _ => False)) (fun j f v => ∃ s, (fun i => ([fun f v s => v = (.agg #[.slice p1270 s1260.2.2.2.1.length c1271, .int .i64 s1260.2.2.2.2.1, .int .i64 s1260.2.2.2.2.2] : Value) ∧ s = [], fun f v s => v = (.pointer (some ⟨b536, 0, none⟩) : Value) ∧ s = [], fun f v s => ∃ (p1377 : Option Addr) (c1378 : Nat), v = (.slice p1377 [1, 2, 3, 0, 500, 65535].length c1378 : Value) ∧ ownS encI [1, 2, 3, 0, 500, 65535] p1377 c1378 s, fun f v s => v = (.int .i64 r1381.1 : Value) ∧ s = [(b536, .cells ⟨[.slice p538 x534.code.length c539, .int .i64 r1381.2.1, .int .u64 r1381.2.2]⟩ 73 (0, 0))], fun f v s => ∃ (p1384 : Option Addr) (c1385 : Nat), v = (.tuple #[.agg #[.slice p1384 r1382.1.Items.length c1385, .int .i64 r1382.1.Head, .int .i64 r1382.1.Tail], .bool r1382.2] : Value) ∧ ownS encI r1382.1.Items p1384 c1385 s, fun f v s => v = (.tuple #[.agg #[(atPath (f 4) [0, 0]), .int .i64 r1382.1.Head, .int .i64 r1382.1.Tail], .bool r1382.2] : Value) ∧ s = [], fun f v s => v = (.agg #[(atPath (f 4) [0, 0]), .int .i64 r1382.1.Head, .int .i64 r1382.1.Tail] : Value) ∧ s = [], fun f v s => v = (.bool r1382.2 : Value) ∧ s = [], fun f v s => v = undef ∧ s = [(b649, .cells ⟨[(atPath (f 4) [0, 0]), .int .i64 r1382.1.Head, .int .i64 r1382.1.Tail]⟩ 27 (0, 0))]] : List ((Nat → Value) → Value → Seg → Prop)).getD i (fun _ _ _ => False)) j f v s) [] [2, 3, 4, 8] [2, 3, 4, 8] (fun _ _ _ s h => ⟨s, h⟩) (by kernel_rfl) (by kernel_rfl) M1388 (by kernel_rfl) (by kernel_rfl) (by kernel_rfl) (by kernel_rfl) (allOb_cons ?_ (allOb_cons ?_ (allOb_cons ?_ (allOb_cons ?_ (allOb_cons ?_ (allOb_cons ?_ (allOb_cons ?_ (allOb_cons ?_ (allOb_cons ?_ allOb_nil))))))))) ?_
          · intro g1374 f1375
            intro R w1389 M1390
            refine W_val (.agg #[.slice p1270 s1260.2.2.2.1.length c1271, .int .i64 s1260.2.2.2.2.1, .int .i64 s1260.2.2.2.2.2]) w1389 (by kernel_rfl) (E_load (e := 27) (fr := (0, 0)) _ _ true 3 b649 0 [.slice p1270 s1260.2.2.2.1.length c1271, .int .i64 s1260.2.2.2.2.1, .int .i64 s1260.2.2.2.2.2] (.agg #[.slice p1270 s1260.2.2.2.1.length c1271, .int .i64 s1260.2.2.2.2.1, .int .i64 s1260.2.2.2.2.2]) rfl (by kernel_rfl) (by kernel_rfl) (by kernel_rfl) (M1390.blk 3 (b := b649) (o := .cells ⟨[.slice p1270 s1260.2.2.2.1.length c1271, .int .i64 s1260.2.2.2.2.1, .int .i64 s1260.2.2.2.2.2]⟩ 27 (0, 0)) (by kernel_rfl))) ?_
            exact W_nil (ob_end (.agg #[.slice p1270 s1260.2.2.2.1.length c1271, .int .i64 s1260.2.2.2.2.1, .int .i64 s1260.2.2.2.2.2]) [] rfl (by kernel_rfl) ⟨by kernel_rfl, rfl⟩ M1390)
          · intro g1374 f1375
            intro R w1393 M1394
            refine W_run 1 [(31, .pointer (some ⟨b536, 0, none⟩))] w1393 (by kernel_rfl) ?_
            exact W_nil (ob_end (.pointer (some ⟨b536, 0, none⟩)) [] rfl (by kernel_rfl) ⟨by kernel_rfl, rfl⟩ M1394)
          · intro g1374 f1375
            intro R w1397 M1398
            refine W_lit (E := encI) [1, 2, 3, 0, 500, 65535] 6 [.int .i64 1, .int .i64 2, .int .i64 3, .int .i64 0, .int .i64 500, .int .i64 65535] 3 M1398 (by kernel_rfl) (by kernel_rfl) (by kernel_rfl) (by kernel_rfl) (by kernel_rfl) ?_
            intro p1377 c1378 sg1379 w1399 ho1380 M1400
            exact W_nil (ob_end (.slice p1377 [1, 2, 3, 0, 500, 65535].length c1378) sg1379 rfl (by kernel_rfl) ⟨p1377, c1378, rfl, ho1380⟩ (Mem.mid M1400))
          · intro g1374 f1375
            intro v1_ hb1_
            obtain ⟨rfl, _⟩ := hb1_
            intro v2_ hb2_
            obtain ⟨p1377, c1378, rfl, ho1380⟩ := hb2_
            intro R w1401 M1402
            refine W_call 75 #[.pointer (some ⟨b536, 0, none⟩), .slice p1377 [1, 2, 3, 0, 500, 65535].length c1378] (by kernel_rfl) (by kernel_rfl) ?_
            refine (c_s_l1Cur_among w1401 (⟨x534.code, r1282.2.1, r1282.2.2⟩ : l1Cur) p538 c539 (h540.memX hap541 M1402) b536 [1, 2, 3, 0, 500, 65535] p1377 c1378 (ho1380.rd M1402 3 (by kernel_rfl)) (M1402.hasPick [2]) (M1402.nodupPick [2] (by kernel_rfl)) (apartX.old h540 hap541 M1402 [2]) (apartX.own ho1380 M1402 3 (by kernel_rfl) [2] (by kernel_rfl)) hr1381).mono ?_
            rintro e_ w1403 ⟨rfl, K1405⟩
            refine ⟨_, rfl, ?_⟩
            exact W_nil (ob_end (.int .i64 r1381.1) [(b536, .cells ⟨[.slice p538 x534.code.length c539, .int .i64 r1381.2.1, .int .u64 r1381.2.2]⟩ 73 (0, 0))] rfl (by kernel_rfl) ⟨rfl, rfl⟩ (Mem.callMidF M1402 K1405))
          · intro g1374 f1375
            intro v3_ hb3_
            obtain ⟨_, rfl, _⟩ := hb3_
            intro v0_ hb0_
            obtain ⟨rfl, _⟩ := hb0_
            intro R w1406 M1407
            refine W_call 67 #[.agg #[.slice p1270 s1260.2.2.2.1.length c1271, .int .i64 s1260.2.2.2.2.1, .int .i64 s1260.2.2.2.2.2], .int .i64 r1381.1] (by kernel_rfl) (by kernel_rfl) ?_
            refine (c_s_l20Put w1406 (⟨s1260.2.2.2.1, s1260.2.2.2.2.1, s1260.2.2.2.2.2⟩ : Ring) p1270 c1271 (ho1273.rd M1407 1 (by kernel_rfl)) r1381.1 hr1382).mono ?_
            rintro e_ w1408 ⟨p1384, c1385, sg1386, rfl, ho1387, K1410⟩
            refine ⟨_, rfl, ?_⟩
            exact W_nil (ob_end (.tuple #[.agg #[.slice p1384 r1382.1.Items.length c1385, .int .i64 r1382.1.Head, .int .i64 r1382.1.Tail], .bool r1382.2]) sg1386 rfl (by kernel_rfl) ⟨p1384, c1385, rfl, ho1387⟩ (Mem.callMid M1407 K1410))
          · intro g1374 f1375
            intro v4_ hb4_
            obtain ⟨_, p1384, c1385, rfl, _⟩ := hb4_
            intro R w1411 M1412
            refine W_run 1 [(29, .tuple #[.agg #[.slice p1384 r1382.1.Items.length c1385, .int .i64 r1382.1.Head, .int .i64 r1382.1.Tail], .bool r1382.2])] w1411 (by kernel_rfl) ?_
            exact W_nil (ob_end (.tuple #[.agg #[.slice p1384 r1382.1.Items.length c1385, .int .i64 r1382.1.Head, .int .i64 r1382.1.Tail], .bool r1382.2]) [] rfl (by kernel_rfl) ⟨by kernel_rfl, rfl⟩ M1412)
          · intro g1374 f1375
            intro v4_ hb4_
            obtain ⟨_, p1384, c1385, rfl, _⟩ := hb4_
            intro v5_ hb5_
            obtain ⟨hv5_, _⟩ := hb5_
            obtain rfl : v5_ = (.tuple #[.agg #[.slice p1384 r1382.1.Items.length c1385, .int .i64 r1382.1.Head, .int .i64 r1382.1.Tail], .bool r1382.2] : Value) := hv5_.trans (by kernel_rfl)
            intro R w1415 M1416
            refine W_run 1 [(35, .agg #[.slice p1384 r1382.1.Items.length c1385, .int .i64 r1382.1.Head, .int .i64 r1382.1.Tail])] w1415 (by kernel_rfl) ?_
            exact W_nil (ob_end (.agg #[.slice p1384 r1382.1.Items.length c1385, .int .i64 r1382.1.Head, .int .i64 r1382.1.Tail]) [] rfl (by kernel_rfl) ⟨by kernel_rfl, rfl⟩ M1416)
          · intro g1374 f1375
            intro v4_ hb4_
            obtain ⟨_, p1384, c1385, rfl, _⟩ := hb4_
            intro v5_ hb5_
            obtain ⟨hv5_, _⟩ := hb5_
            obtain rfl : v5_ = (.tuple #[.agg #[.slice p1384 r1382.1.Items.length c1385, .int .i64 r1382.1.Head, .int .i64 r1382.1.Tail], .bool r1382.2] : Value) := hv5_.trans (by kernel_rfl)
            intro R w1419 M1420
            refine W_run 1 [(36, .bool r1382.2)] w1419 (by kernel_rfl) ?_
            exact W_nil (ob_end (.bool r1382.2) [] rfl (by kernel_rfl) ⟨by kernel_rfl, rfl⟩ M1420)
          · intro g1374 f1375
            intro v4_ hb4_
            obtain ⟨_, p1384, c1385, rfl, _⟩ := hb4_
            intro v6_ hb6_
            obtain ⟨hv6_, _⟩ := hb6_
            obtain rfl : v6_ = (.agg #[.slice p1384 r1382.1.Items.length c1385, .int .i64 r1382.1.Head, .int .i64 r1382.1.Tail] : Value) := hv6_.trans (by kernel_rfl)
            intro R w1423 M1424
            refine W_store _ _ _ true 3 b649 0 [.slice p1270 s1260.2.2.2.1.length c1271, .int .i64 s1260.2.2.2.2.1, .int .i64 s1260.2.2.2.2.2] 27 (.agg #[.slice p1384 r1382.1.Items.length c1385, .int .i64 r1382.1.Head, .int .i64 r1382.1.Tail]) 2 [.slice p1384 r1382.1.Items.length c1385, .int .i64 r1382.1.Head, .int .i64 r1382.1.Tail] M1424 (by kernel_rfl) rfl (by kernel_rfl) (by kernel_rfl) (by kernel_rfl) (by kernel_rfl) (by kernel_rfl) (by kernel_rfl) (by kernel_rfl) (by kernel_rfl) ?_
            intro w1425 M1426
            exact W_nil (ob_none [(b649, .cells ⟨[.slice p1384 r1382.1.Items.length c1385, .int .i64 r1382.1.Head, .int .i64 r1382.1.Tail]⟩ 27 (0, 0))] rfl ⟨rfl, by kernel_rfl⟩ M1426)
          · intro g1374 f1375
            intro v2_ hb2_
            obtain ⟨p1377, c1378, rfl, ho1380⟩ := hb2_
            intro v3_ hb3_
            obtain ⟨rfl, hs3_⟩ := hb3_
            intro v4_ hb4_
            obtain ⟨p1384, c1385, rfl, ho1387⟩ := hb4_
            intro v8_ hb8_
            obtain ⟨rfl, hs8_⟩ := hb8_
            replace hs8_ := hs8_.trans (show _ = [(b649, .cells ⟨[.slice p1384 r1382.1.Items.length c1385, .int .i64 r1382.1.Head, .int .i64 r1382.1.Tail]⟩ 27 (0, 0))] by kernel_rfl)
            intro w1427 M1428
            have M1429 : Mem (idsOf [[(b536, .cells ⟨[.slice p538 x534.code.length c539, .int .i64 x534.at_, .int .u64 x534.seed]⟩ 73 (0, 0))]]) w w1427 [[(b548, .cells ⟨[.slice none 0 0, .int .i64 0, .int .i64 0]⟩ 27 (0, 0))], sg1272, (g1374 2), (g1374 3), (g1374 4), (g1374 8)] := M1428
            rw [hs3_] at M1429
            rw [hs8_] at M1429
            refine W_nil ?_
            obtain rfl := Option.some.inj hm
            exact N_meet fun a ha => ⟨p1384, c1385, (g1374 4), ho1387, M1429.pick [0, 5, 3, 4] (by kernel_rfl), ha.sub (by kernel_rfl)⟩
      · intro a1432 w1430 ⟨p1357, c1358, sg1359, ho1360, M1431, hS1433⟩
        refine N_use hS1433 ?_
        have hm := hm1356
        refine N_block ?_
        refine N_then ?_
        refine G_region ?_
        refine W_run 3 [(0, .pointer (some ⟨b536, 0, none⟩)), (2, .pointer (some ⟨b548, 0, none⟩)), (3, .pointer (some ⟨b649, 0, none⟩)), (5, .int .i64 (w64 (s1260.1 - 1)))] w1430 (by kernel_rfl) ?_
        refine W_nil ?_
        obtain rfl := Option.some.inj hm
        exact N_loop fun a ha => ⟨_, rfl, p1357, c1358, sg1359, ho1360, M1431.pick [0, 1, 2, 3] (by kernel_rfl), ha.sub (by kernel_rfl)⟩
    · refine G_cond_f (b := (decide (s1260.1 > 0))) hc1281 (by kernel_rfl) ?_
      refine G_exit ?_
      refine N_then_exit ?_
      refine N_then_exit ?_
      refine N_block_eq ?_
      obtain rfl := Option.some.inj hm
      obtain rfl := hout1262 _ rfl
      exact N_meet fun a ha => ⟨p1270, c1271, sg1272, ho1273, M1265.pick [0, 1, 2, 3] (by kernel_rfl), ha.sub (by kernel_rfl)⟩
  · intro a1434 w1435 ⟨p1276, c1277, sg1278, ho1279, M1436, hS1437⟩
    refine N_use hS1437 ?_
    have hm := hmo1269
    refine N_then ?_
    refine G_seq ?_
    refine G_seq ?_
    refine G_region ?_
    refine W_run 1 [(0, .pointer (some ⟨b536, 0, none⟩)), (2, .pointer (some ⟨b548, 0, none⟩)), (3, .pointer (some ⟨b649, 0, none⟩)), (37, .pointer (some ⟨b536, 0, none⟩))] w1435 (by kernel_rfl) ?_
    obtain ⟨r1438, hr1438, hm⟩ := gx_bind hm
    refine W_call 73 #[.pointer (some ⟨b536, 0, none⟩), .int .i64 24] (by kernel_rfl) (by kernel_rfl) ?_
    refine (c_s_l1Cur_pick w1435 (⟨x534.code, out1267.1, out1267.2.1⟩ : l1Cur) p538 c539 (h540.memX hap541 M1436) b536 24 (M1436.hasPick [2]) (M1436.nodupPick [2] (by kernel_rfl)) (apartX.old h540 hap541 M1436 [2]) hr1438).mono ?_
    rintro e_ w1439 ⟨rfl, K1440⟩
    have M1441 := M1436.callF' [2] [0, 1, 3] (by kernel_rfl) K1440
    refine ⟨_, rfl, ?_⟩
    refine W_nil ?_
    refine N_then ?_
    refine G_block ?_
    refine G_seq ?_
    refine G_region ?_
    refine W_run 2 [(0, .pointer (some ⟨b536, 0, none⟩)), (2, .pointer (some ⟨b548, 0, none⟩)), (3, .pointer (some ⟨b649, 0, none⟩)), (38, .int .i64 r1438.1), (39, .bool (r1438.1 == 0))] w1439 (by kernel_rfl) ?_
    refine W_nil ?_
    refine N_then ?_
    obtain ⟨o1771, ho1772, hm1773⟩ := gx_bind hm
    refine G_meet (fun a w' => ∃ (p1774 : Option Addr), ∃ (c1775 : Nat), ∃ (sg1776 : Seg), ownS encI o1771.2.2.1 p1774 c1775 sg1776 ∧ Mem (idsOf [[(b536, .cells ⟨[.slice p538 x534.code.length c539, .int .i64 x534.at_, .int .u64 x534.seed]⟩ 73 (0, 0))]]) w w' [[(b548, .cells ⟨[.slice none 0 0, .int .i64 0, .int .i64 0]⟩ 27 (0, 0))], [(b649, .cells ⟨[.slice p1774 o1771.2.2.1.length c1775, .int .i64 out1267.2.2.2.1, .int .i64 o1771.2.2.2]⟩ 27 (0, 0))], [(b536, .cells ⟨[.slice p538 x534.code.length c539, .int .i64 o1771.1, .int .u64 o1771.2.1]⟩ 73 (0, 0))], sg1776] ∧ Sat Try.f74.ntmps [(2, .pointer (some ⟨b548, 0, none⟩)), (3, .pointer (some ⟨b649, 0, none⟩))] a) ?_ ?_
    · have hm := ho1772
      rcases gx_bif hm with ⟨hc1779, hm⟩ | ⟨hc1779, hm⟩
      · refine G_cond_t (b := (r1438.1 == 0)) hc1779 (by kernel_rfl) ?_
        refine G_region ?_
        refine W_run 1 [(2, .pointer (some ⟨b548, 0, none⟩)), (3, .pointer (some ⟨b649, 0, none⟩)), (41, .pointer (some ⟨b536, 0, none⟩))] w1439 (by kernel_rfl) ?_
        obtain ⟨r1780, hr1780, hm⟩ := gx_bind hm
        refine W_call 70 #[.pointer (some ⟨b536, 0, none⟩)] (by kernel_rfl) (by kernel_rfl) ?_
        refine (c_s_l1Cur_word16 w1439 (⟨x534.code, r1438.2.1, r1438.2.2⟩ : l1Cur) p538 c539 (h540.memX hap541 M1441) b536 (M1441.hasPick [3]) (M1441.nodupPick [3] (by kernel_rfl)) (apartX.old h540 hap541 M1441 [3]) hr1780).mono ?_
        rintro e_ w1781 ⟨rfl, K1782⟩
        have M1783 := M1441.callF' [3] [0, 1, 2] (by kernel_rfl) K1782
        refine ⟨_, rfl, ?_⟩
        refine W_run 1 [(2, .pointer (some ⟨b548, 0, none⟩)), (3, .pointer (some ⟨b649, 0, none⟩)), (42, .int .i64 r1780.1), (43, .pointer (some ⟨b649, 2, none⟩))] w1781 (by kernel_rfl) ?_
        refine W_store _ _ _ false 1 b649 2 [.slice p1276 out1267.2.2.1.length c1277, .int .i64 out1267.2.2.2.1, .int .i64 out1267.2.2.2.2] 27 (.int .i64 r1780.1) 1 [.slice p1276 out1267.2.2.1.length c1277, .int .i64 out1267.2.2.2.1, .int .i64 r1780.1] M1783 (by kernel_rfl) rfl (by kernel_rfl) (by kernel_rfl) (by kernel_rfl) (by kernel_rfl) (by kernel_rfl) (by kernel_rfl) (by kernel_rfl) (by kernel_rfl) ?_
        intro w1784 M1785
        refine W_nil ?_
        obtain rfl := Option.some.inj hm
        exact N_meet fun a ha => ⟨p1276, c1277, sg1278, ho1279, M1785.pick [0, 1, 3, 2] (by kernel_rfl), ha.sub (by kernel_rfl)⟩
      · refine G_cond_f (b := (r1438.1 == 0)) hc1779 (by kernel_rfl) ?_
        refine G_seq ?_
        refine G_region ?_
        refine W_run 2 [(0, .pointer (some ⟨b536, 0, none⟩)), (2, .pointer (some ⟨b548, 0, none⟩)), (3, .pointer (some ⟨b649, 0, none⟩)), (38, .int .i64 r1438.1), (44, .bool (r1438.1 == 1))] w1439 (by kernel_rfl) ?_
        refine W_nil ?_
        refine N_then ?_
        obtain ⟨o1941, ho1942, hm1943⟩ := gx_bind hm
        refine G_meet (fun a w' => ∃ (p1944 : Option Addr), ∃ (c1945 : Nat), ∃ (sg1946 : Seg), ownS encI o1941.2.2 p1944 c1945 sg1946 ∧ Mem (idsOf [[(b536, .cells ⟨[.slice p538 x534.code.length c539, .int .i64 x534.at_, .int .u64 x534.seed]⟩ 73 (0, 0))]]) w w' [[(b548, .cells ⟨[.slice none 0 0, .int .i64 0, .int .i64 0]⟩ 27 (0, 0))], [(b649, .cells ⟨[.slice p1944 o1941.2.2.length c1945, .int .i64 out1267.2.2.2.1, .int .i64 out1267.2.2.2.2]⟩ 27 (0, 0))], [(b536, .cells ⟨[.slice p538 x534.code.length c539, .int .i64 o1941.1, .int .u64 o1941.2.1]⟩ 73 (0, 0))], sg1946] ∧ Sat Try.f74.ntmps [(2, .pointer (some ⟨b548, 0, none⟩)), (3, .pointer (some ⟨b649, 0, none⟩))] a) ?_ ?_
        · have hm := ho1942
          rcases gx_bif hm with ⟨hc1949, hm⟩ | ⟨hc1949, hm⟩
          · refine G_cond_t (b := (r1438.1 == 1)) hc1949 (by kernel_rfl) ?_
            refine G_region ?_
            refine W_run 1 [(2, .pointer (some ⟨b548, 0, none⟩)), (3, .pointer (some ⟨b649, 0, none⟩)), (46, .pointer (some ⟨b649, 0, none⟩))] w1439 (by kernel_rfl) ?_
            refine W_val (.slice p1276 out1267.2.2.1.length c1277) w1439 (by kernel_rfl) (E_load (e := 27) (fr := (0, 0)) _ _ false 1 b649 0 [.slice p1276 out1267.2.2.1.length c1277, .int .i64 out1267.2.2.2.1, .int .i64 out1267.2.2.2.2] (.slice p1276 out1267.2.2.1.length c1277) rfl (by kernel_rfl) (by kernel_rfl) (by kernel_rfl) (M1441.blk 1 (b := b649) (o := .cells ⟨[.slice p1276 out1267.2.2.1.length c1277, .int .i64 out1267.2.2.2.1, .int .i64 out1267.2.2.2.2]⟩ 27 (0, 0)) (by kernel_rfl))) ?_
            refine W_lit (E := encI) [0] 1 [.int .i64 0] 3 M1441 (by kernel_rfl) (by kernel_rfl) (by kernel_rfl) (by kernel_rfl) (by kernel_rfl) ?_
            intro p1950 c1951 sg1952 w1953 ho1954 M1955
            obtain ⟨ap1957, hap1957, hm⟩ := gx_bind hm
            refine W_append (E := encI) _ _ _ 8 [.int .i64 0] 2 c1951 M1955 ho1279 (by kernel_rfl) (by kernel_rfl) (by kernel_rfl) rfl (by kernel_rfl) (by kernel_rfl) (by kernel_rfl) (by kernel_rfl) (by kernel_rfl) (by kernel_rfl) (ho1954.rd M1955 4 (by kernel_rfl)) hap1957 ?_
            intro p1958 c1959 sg1960 w1961 ho1962 M1963
            refine W_run 1 [(2, .pointer (some ⟨b548, 0, none⟩)), (3, .pointer (some ⟨b649, 0, none⟩)), (49, .slice p1958 ap1957.length c1959), (50, .pointer (some ⟨b649, 0, none⟩))] w1961 (by kernel_rfl) ?_
            refine W_store _ _ _ false 1 b649 0 [.slice p1276 out1267.2.2.1.length c1277, .int .i64 out1267.2.2.2.1, .int .i64 out1267.2.2.2.2] 27 (.slice p1958 ap1957.length c1959) 1 [.slice p1958 ap1957.length c1959, .int .i64 out1267.2.2.2.1, .int .i64 out1267.2.2.2.2] M1963 (by kernel_rfl) rfl (by kernel_rfl) (by kernel_rfl) (by kernel_rfl) (by kernel_rfl) (by kernel_rfl) (by kernel_rfl) (by kernel_rfl) (by kernel_rfl) ?_
            intro w1965 M1966
            refine W_nil ?_
            obtain rfl := Option.some.inj hm
            exact N_meet fun a ha => ⟨p1958, c1959, sg1960, ho1962, M1966.pick [0, 1, 3, 2] (by kernel_rfl), ha.sub (by kernel_rfl)⟩
          · refine G_cond_f (b := (r1438.1 == 1)) hc1949 (by kernel_rfl) ?_
            refine G_seq ?_
            refine G_region ?_
            refine W_run 2 [(0, .pointer (some ⟨b536, 0, none⟩)), (2, .pointer (some ⟨b548, 0, none⟩)), (3, .pointer (some ⟨b649, 0, none⟩)), (51, .bool (r1438.1 == 2))] w1439 (by kernel_rfl) ?_
            refine W_nil ?_
            refine N_then ?_
            obtain ⟨o2031, ho2032, hm2033⟩ := gx_bind hm
            refine G_meet (fun a w' => ∃ (sg2034 : Seg), ownS encI o2031.2.2 p1276 c1277 sg2034 ∧ Mem (idsOf [[(b536, .cells ⟨[.slice p538 x534.code.length c539, .int .i64 x534.at_, .int .u64 x534.seed]⟩ 73 (0, 0))]]) w w' [[(b548, .cells ⟨[.slice none 0 0, .int .i64 0, .int .i64 0]⟩ 27 (0, 0))], [(b649, .cells ⟨[.slice p1276 o2031.2.2.length c1277, .int .i64 out1267.2.2.2.1, .int .i64 out1267.2.2.2.2]⟩ 27 (0, 0))], [(b536, .cells ⟨[.slice p538 x534.code.length c539, .int .i64 o2031.1, .int .u64 o2031.2.1]⟩ 73 (0, 0))], sg2034] ∧ Sat Try.f74.ntmps [(2, .pointer (some ⟨b548, 0, none⟩)), (3, .pointer (some ⟨b649, 0, none⟩))] a) ?_ ?_
            · have hm := ho2032
              rcases gx_bif hm with ⟨hc2036, hm⟩ | ⟨hc2036, hm⟩
              · refine G_cond_t (b := (r1438.1 == 2)) hc2036 (by kernel_rfl) ?_
                obtain ⟨r2039, hr2039, hm⟩ := gx_bind hm
                obtain ⟨r2045, hr2045, hm⟩ := gx_bind hm
                have M2046 : Mem (idsOf [[(b536, .cells ⟨[.slice p538 x534.code.length c539, .int .i64 x534.at_, .int .u64 x534.seed]⟩ 73 (0, 0))]]) w w1439 ([[(b548, .cells ⟨[.slice none 0 0, .int .i64 0, .int .i64 0]⟩ 27 (0, 0))], [(b649, .cells ⟨[.slice p1276 out1267.2.2.1.length c1277, .int .i64 out1267.2.2.2.1, .int .i64 out1267.2.2.2.2]⟩ 27 (0, 0))], sg1278] ++ (List.range 10).map (fun i => ([[], [], [], [], [], [], [(b536, .cells ⟨[.slice p538 x534.code.length c539, .int .i64 r1438.2.1, .int .u64 r1438.2.2]⟩ 73 (0, 0))], [], [], []] : List Seg).getD i [])) := M1441.pick [0, 1, 2, 300000, 300001, 300002, 300003, 300004, 300005, 3, 300007, 300008, 300009] (by kernel_rfl)
                refine G_sub [(0, .pointer (some ⟨b536, 0, none⟩)), (2, .pointer (some ⟨b548, 0, none⟩)), (3, .pointer (some ⟨b649, 0, none⟩)), (51, .bool (r1438.1 == 2))] (by kernel_rfl) ?_
                refine G_dagL 10 [[], [0], [], [], [3], [4], [2, 5], [], [], [6, 7, 8]] [[], [], [], [], [], [], [], [], [], [6]] [[], [], [], [], [], [], [], [], [], [8]] [[], [], [], [], [], [], [], [], [], []] [[], [], [], [], [], [], [], [], [], []] [[], [], [], [], [], [], [], [], [], []] (fun i => ([[], [], [], [], [], [], [(b536, .cells ⟨[.slice p538 x534.code.length c539, .int .i64 r1438.2.1, .int .u64 r1438.2.2]⟩ 73 (0, 0))], [], [], []] : List Seg).getD i []) (fun i => ([fun f v s => v = (.pointer (some ⟨b649, 0, none⟩) : Value) ∧ s = [], fun f v s => v = (.slice p1276 out1267.2.2.1.length c1277 : Value) ∧ s = [], fun f v s => v = (.pointer (some ⟨b536, 0, none⟩) : Value) ∧ s = [], fun f v s => v = (.pointer (some ⟨b649, 0, none⟩) : Value) ∧ s = [], fun f v s => v = (.slice p1276 out1267.2.2.1.length c1277 : Value) ∧ s = [], fun f v s => v = (.int .i64 (out1267.2.2.1.length : Int) : Value) ∧ s = [], fun f v s => v = (.int .i64 r2039.1 : Value) ∧ s = [(b536, .cells ⟨[.slice p538 x534.code.length c539, .int .i64 r2039.2.1, .int .u64 r2039.2.2]⟩ 73 (0, 0))], fun f v s => v = (.pointer (some ⟨b536, 0, none⟩) : Value) ∧ s = [], fun f v s => ∃ (p2041 : Option Addr) (c2042 : Nat), v = (.slice p2041 [(-1), 3, 65536].length c2042 : Value) ∧ ownS encI [(-1), 3, 65536] p2041 c2042 s, fun f v s => v = (.int .i64 r2045.1 : Value) ∧ s = [(b536, .cells ⟨[.slice p538 x534.code.length c539, .int .i64 r2045.2.1, .int .u64 r2045.2.2]⟩ 73 (0, 0))]] : List ((Nat → Value) → Value → Seg → Prop)).getD i (fun _ _ _ => False)) (fun j f v => ∃ s, (fun i => ([fun f v s => v = (.pointer (some ⟨b649, 0, none⟩) : Value) ∧ s = [], fun f v s => v = (.slice p1276 out1267.2.2.1.length c1277 : Value) ∧ s = [], fun f v s => v = (.pointer (some ⟨b536, 0, none⟩) : Value) ∧ s = [], fun f v s => v = (.pointer (some ⟨b649, 0, none⟩) : Value) ∧ s = [], fun f v s => v = (.slice p1276 out1267.2.2.1.length c1277 : Value) ∧ s = [], fun f v s => v = (.int .i64 (out1267.2.2.1.length : Int) : Value) ∧ s = [], fun f v s => v = (.int .i64 r2039.1 : Value) ∧ s = [(b536, .cells ⟨[.slice p538 x534.code.length c539, .int .i64 r2039.2.1, .int .u64 r2039.2.2]⟩ 73 (0, 0))], fun f v s => v = (.pointer (some ⟨b536, 0, none⟩) : Value) ∧ s = [], fun f v s => ∃ (p2041 : Option Addr) (c2042 : Nat), v = (.slice p2041 [(-1), 3, 65536].length c2042 : Value) ∧ ownS encI [(-1), 3, 65536] p2041 c2042 s, fun f v s => v = (.int .i64 r2045.1 : Value) ∧ s = [(b536, .cells ⟨[.slice p538 x534.code.length c539, .int .i64 r2045.2.1, .int .u64 r2045.2.2]⟩ 73 (0, 0))]] : List ((Nat → Value) → Value → Seg → Prop)).getD i (fun _ _ _ => False)) j f v s) [6] [1, 8, 9] [8, 9] (fun _ _ _ s h => ⟨s, h⟩) (by kernel_rfl) (by kernel_rfl) M2046 (by kernel_rfl) (by kernel_rfl) (by kernel_rfl) (by kernel_rfl) (allOb_cons ?_ (allOb_cons ?_ (allOb_cons ?_ (allOb_cons ?_ (allOb_cons ?_ (allOb_cons ?_ (allOb_cons ?_ (allOb_cons ?_ (allOb_cons ?_ (allOb_cons ?_ allOb_nil)))))))))) ?_
                · intro g2037 f2038
                  intro R w2047 M2048
                  refine W_run 1 [(53, .pointer (some ⟨b649, 0, none⟩))] w2047 (by kernel_rfl) ?_
                  exact W_nil (ob_end (.pointer (some ⟨b649, 0, none⟩)) [] rfl (by kernel_rfl) ⟨by kernel_rfl, rfl⟩ M2048)
                · intro g2037 f2038
                  intro v0_ hb0_
                  obtain ⟨rfl, _⟩ := hb0_
                  intro R w2051 M2052
                  refine W_val (.slice p1276 out1267.2.2.1.length c1277) w2051 (by kernel_rfl) (E_load (e := 27) (fr := (0, 0)) _ _ false 1 b649 0 [.slice p1276 out1267.2.2.1.length c1277, .int .i64 out1267.2.2.2.1, .int .i64 out1267.2.2.2.2] (.slice p1276 out1267.2.2.1.length c1277) rfl (by kernel_rfl) (by kernel_rfl) (by kernel_rfl) (M2052.blk 1 (b := b649) (o := .cells ⟨[.slice p1276 out1267.2.2.1.length c1277, .int .i64 out1267.2.2.2.1, .int .i64 out1267.2.2.2.2]⟩ 27 (0, 0)) (by kernel_rfl))) ?_
                  exact W_nil (ob_end (.slice p1276 out1267.2.2.1.length c1277) [] rfl (by kernel_rfl) ⟨by kernel_rfl, rfl⟩ M2052)
                · intro g2037 f2038
                  intro R w2055 M2056
                  refine W_run 1 [(55, .pointer (some ⟨b536, 0, none⟩))] w2055 (by kernel_rfl) ?_
                  exact W_nil (ob_end (.pointer (some ⟨b536, 0, none⟩)) [] rfl (by kernel_rfl) ⟨by kernel_rfl, rfl⟩ M2056)
                · intro g2037 f2038
                  intro R w2059 M2060
                  refine W_run 1 [(56, .pointer (some ⟨b649, 0, none⟩))] w2059 (by kernel_rfl) ?_
                  exact W_nil (ob_end (.pointer (some ⟨b649, 0, none⟩)) [] rfl (by kernel_rfl) ⟨by kernel_rfl, rfl⟩ M2060)
                · intro g2037 f2038
                  intro v3_ hb3_
                  obtain ⟨rfl, _⟩ := hb3_
                  intro R w2063 M2064
                  refine W_val (.slice p1276 out1267.2.2.1.length c1277) w2063 (by kernel_rfl) (E_load (e := 27) (fr := (0, 0)) _ _ false 1 b649 0 [.slice p1276 out1267.2.2.1.length c1277, .int .i64 out1267.2.2.2.1, .int .i64 out1267.2.2.2.2] (.slice p1276 out1267.2.2.1.length c1277) rfl (by kernel_rfl) (by kernel_rfl) (by kernel_rfl) (M2064.blk 1 (b := b649) (o := .cells ⟨[.slice p1276 out1267.2.2.1.length c1277, .int .i64 out1267.2.2.2.1, .int .i64 out1267.2.2.2.2]⟩ 27 (0, 0)) (by kernel_rfl))) ?_
                  exact W_nil (ob_end (.slice p1276 out1267.2.2.1.length c1277) [] rfl (by kernel_rfl) ⟨by kernel_rfl, rfl⟩ M2064)
                · intro g2037 f2038
                  intro v4_ hb4_
                  obtain ⟨rfl, _⟩ := hb4_
                  intro R w2067 M2068
                  refine W_run 1 [(58, .int .i64 (out1267.2.2.1.length : Int))] w2067 (by kernel_rfl) ?_
                  exact W_nil (ob_end (.int .i64 (out1267.2.2.1.length : Int)) [] rfl (by kernel_rfl) ⟨by kernel_rfl, rfl⟩ M2068)
                · intro g2037 f2038
                  intro v2_ hb2_
                  obtain ⟨rfl, _⟩ := hb2_
                  intro v5_ hb5_
                  obtain ⟨rfl, _⟩ := hb5_
                  intro R w2071 M2072
                  refine W_call 73 #[.pointer (some ⟨b536, 0, none⟩), .int .i64 (out1267.2.2.1.length : Int)] (by kernel_rfl) (by kernel_rfl) ?_
                  refine (c_s_l1Cur_pick w2071 (⟨x534.code, r1438.2.1, r1438.2.2⟩ : l1Cur) p538 c539 (h540.memX hap541 M2072) b536 (out1267.2.2.1.length : Int) (M2072.hasPick [3]) (M2072.nodupPick [3] (by kernel_rfl)) (apartX.old h540 hap541 M2072 [3]) hr2039).mono ?_
                  rintro e_ w2073 ⟨rfl, K2075⟩
                  refine ⟨_, rfl, ?_⟩
                  exact W_nil (ob_end (.int .i64 r2039.1) [(b536, .cells ⟨[.slice p538 x534.code.length c539, .int .i64 r2039.2.1, .int .u64 r2039.2.2]⟩ 73 (0, 0))] rfl (by kernel_rfl) ⟨rfl, rfl⟩ (Mem.callMidF M2072 K2075))
                · intro g2037 f2038
                  intro R w2076 M2077
                  refine W_run 1 [(60, .pointer (some ⟨b536, 0, none⟩))] w2076 (by kernel_rfl) ?_
                  exact W_nil (ob_end (.pointer (some ⟨b536, 0, none⟩)) [] rfl (by kernel_rfl) ⟨by kernel_rfl, rfl⟩ M2077)
                · intro g2037 f2038
                  intro R w2080 M2081
                  refine W_lit (E := encI) [(-1), 3, 65536] 3 [.int .i64 (-1), .int .i64 3, .int .i64 65536] 3 M2081 (by kernel_rfl) (by kernel_rfl) (by kernel_rfl) (by kernel_rfl) (by kernel_rfl) ?_
                  intro p2041 c2042 sg2043 w2082 ho2044 M2083
                  exact W_nil (ob_end (.slice p2041 [(-1), 3, 65536].length c2042) sg2043 rfl (by kernel_rfl) ⟨p2041, c2042, rfl, ho2044⟩ (Mem.mid M2083))
                · intro g2037 f2038
                  intro v6_ hb6_
                  obtain ⟨rfl, hs6_⟩ := hb6_
                  intro v7_ hb7_
                  obtain ⟨rfl, _⟩ := hb7_
                  intro v8_ hb8_
                  obtain ⟨p2041, c2042, rfl, ho2044⟩ := hb8_
                  intro R w2084 M2085
                  have M2086 : Mem (idsOf [[(b536, .cells ⟨[.slice p538 x534.code.length c539, .int .i64 x534.at_, .int .u64 x534.seed]⟩ 73 (0, 0))]]) w w2084 ([[(b548, .cells ⟨[.slice none 0 0, .int .i64 0, .int .i64 0]⟩ 27 (0, 0))], [(b649, .cells ⟨[.slice p1276 out1267.2.2.1.length c1277, .int .i64 out1267.2.2.2.1, .int .i64 out1267.2.2.2.2]⟩ 27 (0, 0))], sg1278] ++ ([[]] ++ ([(g2037 6), (g2037 8)] ++ ([] ++ R)))) := M2085
                  rw [hs6_] at M2086
                  replace M2086 : Mem (idsOf [[(b536, .cells ⟨[.slice p538 x534.code.length c539, .int .i64 x534.at_, .int .u64 x534.seed]⟩ 73 (0, 0))]]) w w2084 ([[(b548, .cells ⟨[.slice none 0 0, .int .i64 0, .int .i64 0]⟩ 27 (0, 0))], [(b649, .cells ⟨[.slice p1276 out1267.2.2.1.length c1277, .int .i64 out1267.2.2.2.1, .int .i64 out1267.2.2.2.2]⟩ 27 (0, 0))], sg1278] ++ ([[]] ++ ([[(b536, .cells ⟨[.slice p538 x534.code.length c539, .int .i64 r2039.2.1, .int .u64 r2039.2.2]⟩ 73 (0, 0))], (g2037 8)] ++ ([] ++ R)))) := M2086.permF (by simp)
                  have M2089 := Mem.takeOver M2086
                  refine W_call 75 #[.pointer (some ⟨b536, 0, none⟩), .slice p2041 [(-1), 3, 65536].length c2042] (by kernel_rfl) (by kernel_rfl) ?_
                  refine (c_s_l1Cur_among w2084 (⟨x534.code, r2039.2.1, r2039.2.2⟩ : l1Cur) p538 c539 (h540.memX hap541 M2089) b536 [(-1), 3, 65536] p2041 c2042 (ho2044.rd M2089 4 (by kernel_rfl)) (M2089.hasPick [3]) (M2089.nodupPick [3] (by kernel_rfl)) (apartX.old h540 hap541 M2089 [3]) (apartX.own ho2044 M2089 4 (by kernel_rfl) [3] (by kernel_rfl)) hr2045).mono ?_
                  rintro e_ w2087 ⟨rfl, K2090⟩
                  refine ⟨_, rfl, ?_⟩
                  exact W_nil (ob_end (.int .i64 r2045.1) [(b536, .cells ⟨[.slice p538 x534.code.length c539, .int .i64 r2045.2.1, .int .u64 r2045.2.2]⟩ 73 (0, 0))] rfl (by kernel_rfl) ⟨rfl, rfl⟩ (Mem.callMidF M2089 K2090))
                · intro g2037 f2038
                  intro v6_ hb6_
                  obtain ⟨_, rfl, _⟩ := hb6_
                  intro v1_ hb1_
                  obtain ⟨rfl, _⟩ := hb1_
                  intro v8_ hb8_
                  obtain ⟨p2041, c2042, rfl, ho2044⟩ := hb8_
                  intro v9_ hb9_
                  obtain ⟨rfl, hs9_⟩ := hb9_
                  intro w2091 M2092
                  have M2093 : Mem (idsOf [[(b536, .cells ⟨[.slice p538 x534.code.length c539, .int .i64 x534.at_, .int .u64 x534.seed]⟩ 73 (0, 0))]]) w w2091 [[(b548, .cells ⟨[.slice none 0 0, .int .i64 0, .int .i64 0]⟩ 27 (0, 0))], [(b649, .cells ⟨[.slice p1276 out1267.2.2.1.length c1277, .int .i64 out1267.2.2.2.1, .int .i64 out1267.2.2.2.2]⟩ 27 (0, 0))], sg1278, (g2037 8), (g2037 9)] := M2092
                  rw [hs9_] at M2093
                  obtain ⟨y2094, hy2094, hm⟩ := gx_bind hm
                  refine W_val (elemP p1276 (r2039.1.toNat * 1)) w2091 (by kernel_rfl) (E_index (E := encI) _ _ _ out1267.2.2.1.length c1277 .i64 r2039.1 1 (y := y2094) rfl (by kernel_rfl) (by kernel_rfl) (by kernel_rfl) (ho1279.rd M2093 2 (by kernel_rfl)) rfl hy2094) ?_
                  refine W_storeE (E := encI) _ _ _ false 1 r2039.1.toNat 0 (r2039.1.toNat * 1) y2094 r2045.1 (.int .i64 r2045.1) 2 M2093 ho1279 (by kernel_rfl) (by kernel_rfl) rfl (by kernel_rfl) (by kernel_rfl) (by kernel_rfl) (by kernel_rfl) (by kernel_rfl) (by kernel_rfl) (by kernel_rfl) (gxIdx_spec hy2094).2 rfl ?_
                  intro w2095 sg2097 ho2098 M2096
                  refine W_conv 54 (.slice p1276 out1267.2.2.1.length c1277) (.slice p1276 (out1267.2.2.1.set r2039.1.toNat r2045.1).length c1277) (by kernel_rfl) (by rw [@List.length_set _ out1267.2.2.1 r2039.1.toNat r2045.1]) ?_
                  have M2099 : Mem (idsOf [[(b536, .cells ⟨[.slice p538 x534.code.length c539, .int .i64 x534.at_, .int .u64 x534.seed]⟩ 73 (0, 0))]]) w w2095 [[(b548, .cells ⟨[.slice none 0 0, .int .i64 0, .int .i64 0]⟩ 27 (0, 0))], [(b649, .cells ⟨[.slice p1276 (out1267.2.2.1.set r2039.1.toNat r2045.1).length c1277, .int .i64 out1267.2.2.2.1, .int .i64 out1267.2.2.2.2]⟩ 27 (0, 0))], sg2097, (g2037 8), [(b536, .cells ⟨[.slice p538 x534.code.length c539, .int .i64 r2045.2.1, .int .u64 r2045.2.2]⟩ 73 (0, 0))]] := by rw [@List.length_set _ out1267.2.2.1 r2039.1.toNat r2045.1]; exact M2096
                  refine W_nil ?_
                  obtain rfl := Option.some.inj hm
                  exact N_meet fun a ha => ⟨sg2097, ho2098, M2099.pick [0, 1, 4, 2] (by kernel_rfl), ha.sub (by kernel_rfl)⟩
              · refine G_cond_f (b := (r1438.1 == 2)) hc2036 (by kernel_rfl) ?_
                refine G_skip ?_
                obtain rfl := Option.some.inj hm
                exact N_meet fun a ha => ⟨sg1278, ho1279, M1441.pick [0, 1, 3, 2] (by kernel_rfl), ha.sub (by kernel_rfl)⟩
            · intro a2102 w2100 ⟨sg2034, ho2035, M2101, hS2103⟩
              refine N_use hS2103 ?_
              have hm := hm2033
              obtain rfl := Option.some.inj hm
              exact N_meet fun a ha => ⟨p1276, c1277, sg2034, ho2035, M2101.pick [0, 1, 2, 3] (by kernel_rfl), ha.sub (by kernel_rfl)⟩
        · intro a2106 w2104 ⟨p1944, c1945, sg1946, ho1947, M2105, hS2107⟩
          refine N_use hS2107 ?_
          have hm := hm1943
          obtain rfl := Option.some.inj hm
          exact N_meet fun a ha => ⟨p1944, c1945, sg1946, ho1947, M2105.pick [0, 1, 2, 3] (by kernel_rfl), ha.sub (by kernel_rfl)⟩
    · intro a2110 w2108 ⟨p1774, c1775, sg1776, ho1777, M2109, hS2111⟩
      refine N_use hS2111 ?_
      have hm := hm1773
      refine N_block ?_
      refine N_then ?_
      refine G_seq ?_
      refine G_region ?_
      refine W_val (.agg #[.slice p1774 o1771.2.2.1.length c1775, .int .i64 out1267.2.2.2.1, .int .i64 o1771.2.2.2]) w2108 (by kernel_rfl) (E_load (e := 27) (fr := (0, 0)) _ _ true 3 b649 0 [.slice p1774 o1771.2.2.1.length c1775, .int .i64 out1267.2.2.2.1, .int .i64 o1771.2.2.2] (.agg #[.slice p1774 o1771.2.2.1.length c1775, .int .i64 out1267.2.2.2.1, .int .i64 o1771.2.2.2]) rfl (by kernel_rfl) (by kernel_rfl) (by kernel_rfl) (M2109.blk 1 (b := b649) (o := .cells ⟨[.slice p1774 o1771.2.2.1.length c1775, .int .i64 out1267.2.2.2.1, .int .i64 o1771.2.2.2]⟩ 27 (0, 0)) (by kernel_rfl))) ?_
      refine W_store _ _ _ true 3 b548 0 [.slice none 0 0, .int .i64 0, .int .i64 0] 27 (.agg #[.slice p1774 o1771.2.2.1.length c1775, .int .i64 out1267.2.2.2.1, .int .i64 o1771.2.2.2]) 0 [.slice p1774 o1771.2.2.1.length c1775, .int .i64 out1267.2.2.2.1, .int .i64 o1771.2.2.2] M2109 (by kernel_rfl) rfl (by kernel_rfl) (by kernel_rfl) (by kernel_rfl) (by kernel_rfl) (by kernel_rfl) (by kernel_rfl) (by kernel_rfl) (by kernel_rfl) ?_
      intro w2112 M2113
      refine W_nil ?_
      refine N_then ?_
      refine G_ret ?_
      obtain rfl := Option.some.inj hm
      refine N_ret [.agg #[.slice p1774 o1771.2.2.1.length c1775, .int .i64 out1267.2.2.2.1, .int .i64 o1771.2.2.2]] (RVs_cons (RV_cell (g := true) (k := 3) (b := b548) (off := 0) (cs := [.slice p1774 o1771.2.2.1.length c1775, .int .i64 out1267.2.2.2.1, .int .i64 o1771.2.2.2]) (e := 27) (fr := (0, 0)) (v := .agg #[.slice p1774 o1771.2.2.1.length c1775, .int .i64 out1267.2.2.2.1, .int .i64 o1771.2.2.2]) (M2113.blk 0 (b := b548) (o := .cells ⟨[.slice p1774 o1771.2.2.1.length c1775, .int .i64 out1267.2.2.2.1, .int .i64 o1771.2.2.2]⟩ 27 (0, 0)) (by kernel_rfl)) (by kernel_rfl) (by kernel_rfl) (by kernel_rfl)) RVs_nil) ?_
      exact ⟨p1774, c1775, sg1776, rfl, ho1777, M2113.pick [2, 3] (by kernel_rfl)⟩
theorem c_s_DrawResizeRing (w : World) (x515 : List Int) (p517 : Option Addr) (c518 : Nat) (h519 : rdS encU8 w x515 p517 c518) {r : Ring × Int} (hm : M.s_DrawResizeRing x515 = some r) :
    Calls Try.prog 43 #[.slice p517 x515.length c518] w fun e w' => ∃ (p521 : Option Addr) (c522 : Nat) (sg523 : Seg), e = .returned (.tuple #[.agg #[.slice p521 r.1.Items.length c522, .int .i64 r.1.Head, .int .i64 r.1.Tail], .int .i64 r.2]) ∧ ownS encI r.1.Items p521 c522 sg523 ∧ Mem [] w w' [sg523] := by
  unfold M.s_DrawResizeRing at hm
  refine C_enter Try.func43 rfl (by kernel_rfl) ?_
  have M0 := Mem.refl [] w
  refine G_seq ?_
  refine G_region ?_
  refine W_new (fun b => .pointer (some ⟨b, 0, none⟩)) (.cells ⟨[.slice none 0 0, .int .i64 0, .int .i64 0]⟩ 27 (0, 0)) M0 rfl (by kernel_rfl) (by kernel_rfl) ?_
  intro b526 w527 M528
  refine W_run 1 [(0, .slice p517 x515.length c518), (2, .pointer (some ⟨b526, 0, none⟩))] w527 (by kernel_rfl) ?_
  refine W_nil ?_
  refine N_then ?_
  refine G_seq ?_
  refine G_region ?_
  refine W_run 2 [(2, .pointer (some ⟨b526, 0, none⟩)), (6, .agg #[.slice p517 x515.length c518, .int .i64 0, .int .u64 0])] w527 (by kernel_rfl) ?_
  refine W_new (fun b => .pointer (some ⟨b, 0, none⟩)) (.cells ⟨[.slice p517 x515.length c518, .int .i64 0, .int .u64 0]⟩ 73 (0, 0)) M528 rfl (by kernel_rfl) (by kernel_rfl) ?_
  intro b531 w532 M533
  refine W_run 1 [(2, .pointer (some ⟨b526, 0, none⟩)), (4, .pointer (some ⟨b531, 0, none⟩))] w532 (by kernel_rfl) ?_
  refine W_nil ?_
  refine N_then ?_
  refine G_seq ?_
  refine G_region ?_
  refine W_run 1 [(2, .pointer (some ⟨b526, 0, none⟩)), (4, .pointer (some ⟨b531, 0, none⟩)), (8, .pointer (some ⟨b531, 0, none⟩))] w532 (by kernel_rfl) ?_
  obtain ⟨r2114, hr2114, hm⟩ := gx_bind hm
  refine W_call 74 #[.pointer (some ⟨b531, 0, none⟩)] (by kernel_rfl) (by kernel_rfl) ?_
  refine (c_s_l1Cur_ring w532 (⟨x515, 0, 0⟩ : l1Cur) p517 c518 (h519.mem0 M533) b531 (M533.hasPick [1]) (M533.nodupPick [1] (by kernel_rfl)) (apartX.old0 h519 M533 [1]) hr2114).mono ?_
  rintro e_ w2120 ⟨p2116, c2117, sg2118, rfl, ho2119, K2121⟩
  have M2122 := M533.callF' [1] [0] (by kernel_rfl) K2121
  refine ⟨_, rfl, ?_⟩
  refine W_run 1 [(2, .pointer (some ⟨b526, 0, none⟩)), (9, .agg #[.slice p2116 r2114.1.Items.length c2117, .int .i64 r2114.1.Head, .int .i64 r2114.1.Tail]), (10, .pointer (some ⟨b531, 0, none⟩))] w2120 (by kernel_rfl) ?_
  refine W_lit (E := encI) [1, 2, 4, 8, 8, 0, 3] 7 [.int .i64 1, .int .i64 2, .int .i64 4, .int .i64 8, .int .i64 8, .int .i64 0, .int .i64 3] 3 M2122 (by kernel_rfl) (by kernel_rfl) (by kernel_rfl) (by kernel_rfl) (by kernel_rfl) ?_
  intro p2123 c2124 sg2125 w2126 ho2127 M2128
  obtain ⟨r2130, hr2130, hm⟩ := gx_bind hm
  refine W_call 75 #[.pointer (some ⟨b531, 0, none⟩), .slice p2123 [1, 2, 4, 8, 8, 0, 3].length c2124] (by kernel_rfl) (by kernel_rfl) ?_
  refine (c_s_l1Cur_among w2126 (⟨x515, r2114.2.1, r2114.2.2⟩ : l1Cur) p517 c518 (h519.mem0 M2128) b531 [1, 2, 4, 8, 8, 0, 3] p2123 c2124 (ho2127.rd M2128 3 (by kernel_rfl)) (M2128.hasPick [1]) (M2128.nodupPick [1] (by kernel_rfl)) (apartX.old0 h519 M2128 [1]) (apartX.own ho2127 M2128 3 (by kernel_rfl) [1] (by kernel_rfl)) hr2130).mono ?_
  rintro e_ w2131 ⟨rfl, K2132⟩
  have M2133 := M2128.callF' [1] [0, 2, 3] (by kernel_rfl) K2132
  refine ⟨_, rfl, ?_⟩
  refine W_store _ _ _ true 3 b526 0 [.slice none 0 0, .int .i64 0, .int .i64 0] 27 (.agg #[.slice p2116 r2114.1.Items.length c2117, .int .i64 r2114.1.Head, .int .i64 r2114.1.Tail]) 0 [.slice p2116 r2114.1.Items.length c2117, .int .i64 r2114.1.Head, .int .i64 r2114.1.Tail] M2133 (by kernel_rfl) rfl (by kernel_rfl) (by kernel_rfl) (by kernel_rfl) (by kernel_rfl) (by kernel_rfl) (by kernel_rfl) (by kernel_rfl) (by kernel_rfl) ?_
  intro w2134 M2135
  refine W_run 1 [(2, .pointer (some ⟨b526, 0, none⟩)), (3, .int .i64 r2130.1)] w2134 (by kernel_rfl) ?_
  refine W_nil ?_
  refine N_then ?_
  refine G_ret ?_
  obtain rfl := Option.some.inj hm
  refine N_ret [.agg #[.slice p2116 r2114.1.Items.length c2117, .int .i64 r2114.1.Head, .int .i64 r2114.1.Tail], .int .i64 r2130.1] (RVs_cons (RV_cell (g := true) (k := 3) (b := b526) (off := 0) (cs := [.slice p2116 r2114.1.Items.length c2117, .int .i64 r2114.1.Head, .int .i64 r2114.1.Tail]) (e := 27) (fr := (0, 0)) (v := .agg #[.slice p2116 r2114.1.Items.length c2117, .int .i64 r2114.1.Head, .int .i64 r2114.1.Tail]) (M2135.blk 0 (b := b526) (o := .cells ⟨[.slice p2116 r2114.1.Items.length c2117, .int .i64 r2114.1.Head, .int .i64 r2114.1.Tail]⟩ 27 (0, 0)) (by kernel_rfl)) (by kernel_rfl) (by kernel_rfl) (by kernel_rfl)) (RVs_cons (RV_tmp (by kernel_rfl)) RVs_nil)) ?_
  exact ⟨p2116, c2117, sg2118, rfl, ho2119, M2135.pick [1] (by kernel_rfl)⟩
theorem c_i_arePlaces (w : World) (x2180 : Int) {r : Bool} (hm : M.i_arePlaces x2180 = some r) :
    Calls Try.prog 56 #[.int .i64 x2180] w fun e w' => e = .returned (.bool r) ∧ Mem [] w w' [] := by
  unfold M.i_arePlaces at hm
  refine C_enter Try.func56 rfl (by kernel_rfl) ?_
  have M0 := Mem.refl [] w
  refine G_seq ?_
  refine G_region ?_
  refine W_run 1 [(0, .int .i64 x2180)] w (by kernel_rfl) ?_
  refine W_nil ?_
  refine N_then ?_
  refine G_seq ?_
  obtain ⟨o2186, ho2187, hm2188⟩ := gx_bind hm
  refine G_meet (fun a w' => Mem [] w w' [] ∧ Sat Try.f56.ntmps [(2, .bool o2186)] a) ?_ ?_
  · have hm := ho2187
    refine G_region ?_
    refine W_run 1 [(0, .int .i64 x2180), (3, .int .i64 x2180)] w (by kernel_rfl) ?_
    obtain ⟨r2189, hr2189, hm⟩ := gx_bind hm
    refine W_call 78 #[.int .i64 x2180, .int .i64 1, .int .i64 8] (by kernel_rfl) (by kernel_rfl) ?_
    refine (c_i_inside w x2180 1 8 hr2189).mono ?_
    rintro e_ w2190 ⟨rfl, K2191⟩
    have M2192 := M0.call0 K2191
    refine ⟨_, rfl, ?_⟩
    refine W_run 1 [(0, .int .i64 x2180), (5, .bool r2189)] w2190 (by kernel_rfl) ?_
    rcases gx_bif hm with ⟨hc2193, hm⟩ | ⟨hc2193, hm⟩
    · refine W_known 5 true (by kernel_rfl) hc2193 ?_
      refine W_run 7 [(2, .bool ((gxAnd .i64 x2180 (w64 (x2180 - 1))) == 0))] w2190 (by kernel_rfl) ?_
      refine W_nil ?_
      obtain rfl := Option.some.inj hm
      exact N_meet fun a ha => ⟨M2192.pick [] (by kernel_rfl), ha.sub (by kernel_rfl)⟩
    · refine W_known 5 false (by kernel_rfl) hc2193 ?_
      refine W_run 7 [(2, .bool false)] w2190 (by kernel_rfl) ?_
      refine W_nil ?_
      obtain rfl := Option.some.inj hm
      exact N_meet fun a ha => ⟨M2192.pick [] (by kernel_rfl), ha.sub (by kernel_rfl)⟩
  · intro a2196 w2194 ⟨M2195, hS2197⟩
    refine N_use hS2197 ?_
    have hm := hm2188
    refine N_then ?_
    refine G_ret ?_
    obtain rfl := Option.some.inj hm
    refine N_ret [.bool o2186] (RVs_cons (RV_tmp (by kernel_rfl)) RVs_nil) ?_
    exact ⟨rfl, M2195.pick [] (by kernel_rfl)⟩
theorem c_i_Ring_count (w : World) (x2219 : Ring) (p2221 : Option Addr) (c2222 : Nat) (h2223 : rdS encI w x2219.Items p2221 c2222) {r : Int} (hm : M.i_Ring_count x2219 = some r) :
    Calls Try.prog 59 #[.agg #[.slice p2221 x2219.Items.length c2222, .int .i64 x2219.Head, .int .i64 x2219.Tail]] w fun e w' => e = .returned (.int .i64 r) ∧ Mem [] w w' [] := by
  unfold M.i_Ring_count at hm
  refine C_enter Try.func59 rfl (by kernel_rfl) ?_
  have M0 := Mem.refl [] w
  refine G_seq ?_
  refine G_region ?_
  refine W_new (fun b => .pointer (some ⟨b, 0, none⟩)) (.cells ⟨[.slice p2221 x2219.Items.length c2222, .int .i64 x2219.Head, .int .i64 x2219.Tail]⟩ 27 (0, 0)) M0 rfl (by kernel_rfl) (by kernel_rfl) ?_
  intro b2225 w2226 M2227
  refine W_run 1 [(1, .pointer (some ⟨b2225, 0, none⟩))] w2226 (by kernel_rfl) ?_
  refine W_nil ?_
  refine N_then ?_
  refine G_seq ?_
  refine G_region ?_
  refine W_run 1 [(1, .pointer (some ⟨b2225, 0, none⟩)), (3, .pointer (some ⟨b2225, 1, none⟩))] w2226 (by kernel_rfl) ?_
  refine W_val (.int .i64 x2219.Head) w2226 (by kernel_rfl) (E_load (e := 27) (fr := (0, 0)) _ _ false 1 b2225 1 [.slice p2221 x2219.Items.length c2222, .int .i64 x2219.Head, .int .i64 x2219.Tail] (.int .i64 x2219.Head) rfl (by kernel_rfl) (by kernel_rfl) (by kernel_rfl) (M2227.blk 0 (b := b2225) (o := .cells ⟨[.slice p2221 x2219.Items.length c2222, .int .i64 x2219.Head, .int .i64 x2219.Tail]⟩ 27 (0, 0)) (by kernel_rfl))) ?_
  refine W_run 1 [(4, .int .i64 x2219.Head), (5, .pointer (some ⟨b2225, 2, none⟩))] w2226 (by kernel_rfl) ?_
  refine W_val (.int .i64 x2219.Tail) w2226 (by kernel_rfl) (E_load (e := 27) (fr := (0, 0)) _ _ false 1 b2225 2 [.slice p2221 x2219.Items.length c2222, .int .i64 x2219.Head, .int .i64 x2219.Tail] (.int .i64 x2219.Tail) rfl (by kernel_rfl) (by kernel_rfl) (by kernel_rfl) (M2227.blk 0 (b := b2225) (o := .cells ⟨[.slice p2221 x2219.Items.length c2222, .int .i64 x2219.Head, .int .i64 x2219.Tail]⟩ 27 (0, 0)) (by kernel_rfl))) ?_
  obtain ⟨r2228, hr2228, hm⟩ := gx_bind hm
  refine W_call 54 #[.int .i64 x2219.Head, .int .i64 x2219.Tail] (by kernel_rfl) (by kernel_rfl) ?_
  refine (c_i_stepsTo w2226 x2219.Head x2219.Tail hr2228).mono ?_
  rintro e_ w2229 ⟨rfl, K2230⟩
  have M2231 := M2227.call0 K2230
  refine ⟨_, rfl, ?_⟩
  refine W_run 1 [(2, .int .i64 r2228)] w2229 (by kernel_rfl) ?_
  refine W_nil ?_
  refine N_then ?_
  refine G_ret ?_
  obtain rfl := Option.some.inj hm
  refine N_ret [.int .i64 r2228] (RVs_cons (RV_tmp (by kernel_rfl)) RVs_nil) ?_
  exact ⟨rfl, M2231.pick [] (by kernel_rfl)⟩
theorem c_i_IsRing (w : World) (x2171 : Ring) (p2173 : Option Addr) (c2174 : Nat) (h2175 : rdS encI w x2171.Items p2173 c2174) {r : Bool} (hm : M.i_IsRing x2171 = some r) :
    Calls Try.prog 24 #[.agg #[.slice p2173 x2171.Items.length c2174, .int .i64 x2171.Head, .int .i64 x2171.Tail]] w fun e w' => e = .returned (.bool r) ∧ Mem [] w w' [] := by
  unfold M.i_IsRing at hm
  refine C_enter Try.func24 rfl (by kernel_rfl) ?_
  have M0 := Mem.refl [] w
  refine G_seq ?_
  refine G_region ?_
  refine W_new (fun b => .pointer (some ⟨b, 0, none⟩)) (.cells ⟨[.slice p2173 x2171.Items.length c2174, .int .i64 x2171.Head, .int .i64 x2171.Tail]⟩ 27 (0, 0)) M0 rfl (by kernel_rfl) (by kernel_rfl) ?_
  intro b2177 w2178 M2179
  refine W_run 1 [(1, .pointer (some ⟨b2177, 0, none⟩))] w2178 (by kernel_rfl) ?_
  refine W_nil ?_
  refine N_then ?_
  refine G_seq ?_
  refine G_seq ?_
  obtain ⟨o2238, ho2239, hm2240⟩ := gx_bind hm
  refine G_meet (fun a w' => Mem [] w w' [[(b2177, .cells ⟨[.slice p2173 x2171.Items.length c2174, .int .i64 x2171.Head, .int .i64 x2171.Tail]⟩ 27 (0, 0))]] ∧ Sat Try.f24.ntmps [(1, .pointer (some ⟨b2177, 0, none⟩)), (29, .bool o2238)] a) ?_ ?_
  · have hm := ho2239
    refine G_quiet (by kernel_rfl) (by kernel_rfl) M2179 ?_
    refine Z_runs [.pointer (some ⟨b2177, 0, none⟩)] [(1, .pointer (some ⟨b2177, 0, none⟩)), (5, .pointer (some ⟨b2177, 0, none⟩))] (fun w_ => by kernel_rfl) (by kernel_rfl) ?_
    refine Z_val (.slice p2173 x2171.Items.length c2174) (by kernel_rfl) (fun w_ M_ => (E_load (e := 27) (fr := (0, 0)) _ _ false 1 b2177 0 [.slice p2173 x2171.Items.length c2174, .int .i64 x2171.Head, .int .i64 x2171.Tail] (.slice p2173 x2171.Items.length c2174) rfl (by kernel_rfl) (by kernel_rfl) (by kernel_rfl) (M_.blk 0 (b := b2177) (o := .cells ⟨[.slice p2173 x2171.Items.length c2174, .int .i64 x2171.Head, .int .i64 x2171.Tail]⟩ 27 (0, 0)) (by kernel_rfl)))) ?_
    refine Z_runs [.int .i64 (x2171.Items.length : Int)] [(1, .pointer (some ⟨b2177, 0, none⟩)), (7, .int .i64 (x2171.Items.length : Int))] (fun w_ => by kernel_rfl) (by kernel_rfl) ?_
    obtain ⟨r2241, hr2241, hm⟩ := gx_bind hm
    refine Z_call 56 #[.int .i64 (x2171.Items.length : Int)] (.bool r2241) (by kernel_rfl) (fun w_ => by kernel_rfl) (fun w_ M_ => (c_i_arePlaces w_ (x2171.Items.length : Int) hr2241).mono fun e w2_ h_ => ⟨h_.1, M_.call0 h_.2⟩) ?_
    refine Z_runs [.bool (!r2241), .bool (!r2241)] [(1, .pointer (some ⟨b2177, 0, none⟩)), (10, .bool (!r2241))] (fun w_ => by kernel_rfl) (by kernel_rfl) ?_
    rcases gx_bif hm with ⟨hc2245, hm⟩ | ⟨hc2245, hm⟩
    · refine Z_known 10 true (by kernel_rfl) hc2245 ?_
      refine Z_runs [undef, undef, undef, undef, .bool true, .bool true, undef, undef, undef, undef, .bool true, .bool true, undef, undef, undef, undef, undef, undef, .bool true] [(1, .pointer (some ⟨b2177, 0, none⟩)), (29, .bool true)] (fun w_ => by kernel_rfl) (by kernel_rfl) ?_
      refine Z_end fun w2246 M2247 => ?_
      obtain rfl := Option.some.inj hm
      exact N_meet fun a ha => ⟨M2247.pick [0] (by kernel_rfl), ha.sub (by kernel_rfl)⟩
    · refine Z_known 10 false (by kernel_rfl) hc2245 ?_
      refine Z_runs [.pointer (some ⟨b2177, 1, none⟩)] [(1, .pointer (some ⟨b2177, 0, none⟩)), (10, .bool false), (11, .pointer (some ⟨b2177, 1, none⟩))] (fun w_ => by kernel_rfl) (by kernel_rfl) ?_
      refine Z_val (.int .i64 x2171.Head) (by kernel_rfl) (fun w_ M_ => (E_load (e := 27) (fr := (0, 0)) _ _ false 1 b2177 1 [.slice p2173 x2171.Items.length c2174, .int .i64 x2171.Head, .int .i64 x2171.Tail] (.int .i64 x2171.Head) rfl (by kernel_rfl) (by kernel_rfl) (by kernel_rfl) (M_.blk 0 (b := b2177) (o := .cells ⟨[.slice p2173 x2171.Items.length c2174, .int .i64 x2171.Head, .int .i64 x2171.Tail]⟩ 27 (0, 0)) (by kernel_rfl)))) ?_
      obtain ⟨r2248, hr2248, hm⟩ := gx_bind hm
      refine Z_call 53 #[.int .i64 x2171.Head] (.bool r2248) (by kernel_rfl) (fun w_ => by kernel_rfl) (fun w_ M_ => (c_i_isWord16 w_ x2171.Head hr2248).mono fun e w2_ h_ => ⟨h_.1, M_.call0 h_.2⟩) ?_
      refine Z_runs [.bool (!r2248), .bool (!r2248), .bool (!r2248)] [(1, .pointer (some ⟨b2177, 0, none⟩)), (16, .bool (!r2248))] (fun w_ => by kernel_rfl) (by kernel_rfl) ?_
      rcases gx_bif hm with ⟨hc2252, hm⟩ | ⟨hc2252, hm⟩
      · refine Z_known 16 true (by kernel_rfl) hc2252 ?_
        refine Z_runs [undef, undef, undef, undef, .bool true, .bool true, undef, undef, undef, undef, undef, undef, .bool true] [(1, .pointer (some ⟨b2177, 0, none⟩)), (29, .bool true)] (fun w_ => by kernel_rfl) (by kernel_rfl) ?_
        refine Z_end fun w2253 M2254 => ?_
        obtain rfl := Option.some.inj hm
        exact N_meet fun a ha => ⟨M2254.pick [0] (by kernel_rfl), ha.sub (by kernel_rfl)⟩
      · refine Z_known 16 false (by kernel_rfl) hc2252 ?_
        refine Z_runs [.pointer (some ⟨b2177, 2, none⟩)] [(1, .pointer (some ⟨b2177, 0, none⟩)), (16, .bool false), (17, .pointer (some ⟨b2177, 2, none⟩))] (fun w_ => by kernel_rfl) (by kernel_rfl) ?_
        refine Z_val (.int .i64 x2171.Tail) (by kernel_rfl) (fun w_ M_ => (E_load (e := 27) (fr := (0, 0)) _ _ false 1 b2177 2 [.slice p2173 x2171.Items.length c2174, .int .i64 x2171.Head, .int .i64 x2171.Tail] (.int .i64 x2171.Tail) rfl (by kernel_rfl) (by kernel_rfl) (by kernel_rfl) (M_.blk 0 (b := b2177) (o := .cells ⟨[.slice p2173 x2171.Items.length c2174, .int .i64 x2171.Head, .int .i64 x2171.Tail]⟩ 27 (0, 0)) (by kernel_rfl)))) ?_
        obtain ⟨r2255, hr2255, hm⟩ := gx_bind hm
        refine Z_call 53 #[.int .i64 x2171.Tail] (.bool r2255) (by kernel_rfl) (fun w_ => by kernel_rfl) (fun w_ M_ => (c_i_isWord16 w_ x2171.Tail hr2255).mono fun e w2_ h_ => ⟨h_.1, M_.call0 h_.2⟩) ?_
        refine Z_runs [.bool (!r2255), .bool (!r2255), .bool (!r2255)] [(1, .pointer (some ⟨b2177, 0, none⟩)), (22, .bool (!r2255))] (fun w_ => by kernel_rfl) (by kernel_rfl) ?_
        rcases gx_bif hm with ⟨hc2259, hm⟩ | ⟨hc2259, hm⟩
        · refine Z_known 22 true (by kernel_rfl) hc2259 ?_
          refine Z_runs [undef, undef, undef, undef, undef, undef, .bool true] [(1, .pointer (some ⟨b2177, 0, none⟩)), (29, .bool true)] (fun w_ => by kernel_rfl) (by kernel_rfl) ?_
          refine Z_end fun w2260 M2261 => ?_
          obtain rfl := Option.some.inj hm
          exact N_meet fun a ha => ⟨M2261.pick [0] (by kernel_rfl), ha.sub (by kernel_rfl)⟩
        · refine Z_known 22 false (by kernel_rfl) hc2259 ?_
          refine Z_val (.agg #[.slice p2173 x2171.Items.length c2174, .int .i64 x2171.Head, .int .i64 x2171.Tail]) (by kernel_rfl) (fun w_ M_ => (E_load (e := 27) (fr := (0, 0)) _ _ true 3 b2177 0 [.slice p2173 x2171.Items.length c2174, .int .i64 x2171.Head, .int .i64 x2171.Tail] (.agg #[.slice p2173 x2171.Items.length c2174, .int .i64 x2171.Head, .int .i64 x2171.Tail]) rfl (by kernel_rfl) (by kernel_rfl) (by kernel_rfl) (M_.blk 0 (b := b2177) (o := .cells ⟨[.slice p2173 x2171.Items.length c2174, .int .i64 x2171.Head, .int .i64 x2171.Tail]⟩ 27 (0, 0)) (by kernel_rfl)))) ?_
          obtain ⟨r2262, hr2262, hm⟩ := gx_bind hm
          refine Z_call 59 #[.agg #[.slice p2173 x2171.Items.length c2174, .int .i64 x2171.Head, .int .i64 x2171.Tail]] (.int .i64 r2262) (by kernel_rfl) (fun w_ => by kernel_rfl) (fun w_ M_ => (c_i_Ring_count w_ x2171 p2173 c2174 (h2175.mem0 M_) hr2262).mono fun e w2_ h_ => ⟨h_.1, M_.call0 h_.2⟩) ?_
          refine Z_runs [.pointer (some ⟨b2177, 0, none⟩)] [(1, .pointer (some ⟨b2177, 0, none⟩)), (22, .bool false), (24, .int .i64 r2262), (25, .pointer (some ⟨b2177, 0, none⟩))] (fun w_ => by kernel_rfl) (by kernel_rfl) ?_
          refine Z_val (.slice p2173 x2171.Items.length c2174) (by kernel_rfl) (fun w_ M_ => (E_load (e := 27) (fr := (0, 0)) _ _ false 1 b2177 0 [.slice p2173 x2171.Items.length c2174, .int .i64 x2171.Head, .int .i64 x2171.Tail] (.slice p2173 x2171.Items.length c2174) rfl (by kernel_rfl) (by kernel_rfl) (by kernel_rfl) (M_.blk 0 (b := b2177) (o := .cells ⟨[.slice p2173 x2171.Items.length c2174, .int .i64 x2171.Head, .int .i64 x2171.Tail]⟩ 27 (0, 0)) (by kernel_rfl)))) ?_
          refine Z_runs [.int .i64 (x2171.Items.length : Int), .bool (decide (r2262 > (x2171.Items.length : Int))), .bool (decide (r2262 > (x2171.Items.length : Int)))] [(1, .pointer (some ⟨b2177, 0, none⟩)), (29, .bool (decide (r2262 > (x2171.Items.length : Int))))] (fun w_ => by kernel_rfl) (by kernel_rfl) ?_
          refine Z_end fun w2266 M2267 => ?_
          obtain rfl := Option.some.inj hm
          exact N_meet fun a ha => ⟨M2267.pick [0] (by kernel_rfl), ha.sub (by kernel_rfl)⟩
  · intro a2270 w2268 ⟨M2269, hS2271⟩
    refine N_use hS2271 ?_
    have hm := hm2240
    refine N_then ?_
    rcases gx_bif hm with ⟨hc2272, hm⟩ | ⟨hc2272, hm⟩
    · refine G_cond_t (b := o2238) hc2272 (by kernel_rfl) ?_
      refine G_seq ?_
      refine G_region ?_
      refine W_run 1 [(2, .bool false)] w2268 (by kernel_rfl) ?_
      refine W_nil ?_
      refine N_then ?_
      refine G_ret ?_
      refine N_then_ret ?_
      obtain rfl := Option.some.inj hm
      refine N_ret [.bool false] (RVs_cons (RV_tmp (by kernel_rfl)) RVs_nil) ?_
      exact ⟨rfl, M2269.pick [] (by kernel_rfl)⟩
    · refine G_cond_f (b := o2238) hc2272 (by kernel_rfl) ?_
      refine G_skip ?_
      refine N_then ?_
      refine G_seq ?_
      refine G_seq ?_
      refine G_region ?_
      refine W_run 1 [(1, .pointer (some ⟨b2177, 0, none⟩)), (30, .pointer (some ⟨b2177, 0, none⟩))] w2268 (by kernel_rfl) ?_
      refine W_val (.slice p2173 x2171.Items.length c2174) w2268 (by kernel_rfl) (E_load (e := 27) (fr := (0, 0)) _ _ false 1 b2177 0 [.slice p2173 x2171.Items.length c2174, .int .i64 x2171.Head, .int .i64 x2171.Tail] (.slice p2173 x2171.Items.length c2174) rfl (by kernel_rfl) (by kernel_rfl) (by kernel_rfl) (M2269.blk 0 (b := b2177) (o := .cells ⟨[.slice p2173 x2171.Items.length c2174, .int .i64 x2171.Head, .int .i64 x2171.Tail]⟩ 27 (0, 0)) (by kernel_rfl))) ?_
      refine W_run 2 [(1, .pointer (some ⟨b2177, 0, none⟩)), (31, .slice p2173 x2171.Items.length c2174), (32, .int .i64 (x2171.Items.length : Int)), (33, .int .i64 0)] w2268 (by kernel_rfl) ?_
      refine W_nil ?_
      refine N_then ?_
      obtain ⟨out2384, hw2385, hmo2386⟩ := gx_bind hm
      refine G_meet (fun a w' => ∃ (o2387 : Unit), out2384 = .inl o2387 ∧ Mem [] w w' [] ∧ Sat Try.f24.ntmps [] a) ?_ ?_
      · refine G_block ?_
        refine G_while (σ := Int) (ρ := (Unit) ⊕ (Bool)) (fun s2377 a w' => Mem [] w w' [[(b2177, .cells ⟨[.slice p2173 x2171.Items.length c2174, .int .i64 x2171.Head, .int .i64 x2171.Tail]⟩ 27 (0, 0))]] ∧ Sat Try.f24.ntmps [(1, .pointer (some ⟨b2177, 0, none⟩)), (31, .slice p2173 x2171.Items.length c2174), (32, .int .i64 (x2171.Items.length : Int)), (33, .int .i64 s2377)] a) hw2385 (fun a ha => ⟨M2269.pick [0] (by kernel_rfl), ha.sub (by kernel_rfl)⟩) ?_
        clear hm
        intro s2377 x2378 hm hout2379 a2380 w2381 ⟨M2382, hS2383⟩
        refine G_use hS2383 ?_
        refine G_seq ?_
        refine G_region ?_
        refine W_run 1 [(1, .pointer (some ⟨b2177, 0, none⟩)), (31, .slice p2173 x2171.Items.length c2174), (32, .int .i64 (x2171.Items.length : Int)), (33, .int .i64 s2377), (34, .bool (decide (s2377 < (x2171.Items.length : Int))))] w2381 (by kernel_rfl) ?_
        refine W_nil ?_
        refine N_then ?_
        refine G_seq ?_
        rcases gx_bif hm with ⟨hc2388, hm⟩ | ⟨hc2388, hm⟩
        · refine G_cond_t (b := (decide (s2377 < (x2171.Items.length : Int)))) hc2388 (by kernel_rfl) ?_
          refine G_skip ?_
          refine N_then ?_
          refine G_seq ?_
          refine G_block ?_
          refine G_seq ?_
          refine G_region ?_
          refine W_run 1 [(1, .pointer (some ⟨b2177, 0, none⟩)), (31, .slice p2173 x2171.Items.length c2174), (32, .int .i64 (x2171.Items.length : Int)), (33, .int .i64 s2377), (35, .int .i64 s2377)] w2381 (by kernel_rfl) ?_
          obtain ⟨y2389, hy2389, hm⟩ := gx_bind hm
          refine W_val (elemP p2173 (s2377.toNat * 1)) w2381 (by kernel_rfl) (E_index (E := encI) _ _ _ x2171.Items.length c2174 .i64 s2377 1 (y := y2389) rfl (by kernel_rfl) (by kernel_rfl) (by kernel_rfl) (h2175.mem0 M2382) rfl hy2389) ?_
          refine W_val (.int .i64 y2389) w2381 (by kernel_rfl) (E_loadE (E := encI) _ _ false 1 s2377 0 (s2377.toNat * 1) y2389 (.int .i64 y2389) rfl (by kernel_rfl) (by kernel_rfl) (by kernel_rfl) (h2175.mem0 M2382) hy2389 rfl) ?_
          refine W_run 2 [(1, .pointer (some ⟨b2177, 0, none⟩)), (3, .int .i64 s2377), (4, .int .i64 y2389), (31, .slice p2173 x2171.Items.length c2174), (32, .int .i64 (x2171.Items.length : Int)), (33, .int .i64 s2377)] w2381 (by kernel_rfl) ?_
          refine W_nil ?_
          refine N_then ?_
          refine G_seq ?_
          obtain ⟨o2411, ho2412, hm2413⟩ := gx_bind hm
          refine G_meet (fun a w' => Mem [] w w' [[(b2177, .cells ⟨[.slice p2173 x2171.Items.length c2174, .int .i64 x2171.Head, .int .i64 x2171.Tail]⟩ 27 (0, 0))]] ∧ Sat Try.f24.ntmps [(1, .pointer (some ⟨b2177, 0, none⟩)), (31, .slice p2173 x2171.Items.length c2174), (32, .int .i64 (x2171.Items.length : Int)), (33, .int .i64 s2377), (57, .bool o2411)] a) ?_ ?_
          · have hm := ho2412
            refine G_quiet (by kernel_rfl) (by kernel_rfl) M2382 ?_
            refine Z_runs [.int .i64 y2389] [(1, .pointer (some ⟨b2177, 0, none⟩)), (3, .int .i64 s2377), (4, .int .i64 y2389), (31, .slice p2173 x2171.Items.length c2174), (32, .int .i64 (x2171.Items.length : Int)), (33, .int .i64 s2377), (38, .int .i64 y2389)] (fun w_ => by kernel_rfl) (by kernel_rfl) ?_
            obtain ⟨r2414, hr2414, hm⟩ := gx_bind hm
            refine Z_call 53 #[.int .i64 y2389] (.bool r2414) (by kernel_rfl) (fun w_ => by kernel_rfl) (fun w_ M_ => (c_i_isWord16 w_ y2389 hr2414).mono fun e w2_ h_ => ⟨h_.1, M_.call0 h_.2⟩) ?_
            refine Z_runs [.bool (!r2414), .bool (!r2414)] [(1, .pointer (some ⟨b2177, 0, none⟩)), (3, .int .i64 s2377), (4, .int .i64 y2389), (31, .slice p2173 x2171.Items.length c2174), (32, .int .i64 (x2171.Items.length : Int)), (33, .int .i64 s2377), (41, .bool (!r2414))] (fun w_ => by kernel_rfl) (by kernel_rfl) ?_
            rcases gx_bif hm with ⟨hc2418, hm⟩ | ⟨hc2418, hm⟩
            · refine Z_known 41 true (by kernel_rfl) hc2418 ?_
              refine Z_runs [undef, undef, undef, undef, undef, undef, undef, undef, undef, undef, undef, undef, undef, undef, undef, .bool true] [(1, .pointer (some ⟨b2177, 0, none⟩)), (31, .slice p2173 x2171.Items.length c2174), (32, .int .i64 (x2171.Items.length : Int)), (33, .int .i64 s2377), (57, .bool true)] (fun w_ => by kernel_rfl) (by kernel_rfl) ?_
              refine Z_end fun w2419 M2420 => ?_
              obtain rfl := Option.some.inj hm
              exact N_meet fun a ha => ⟨M2420.pick [0] (by kernel_rfl), ha.sub (by kernel_rfl)⟩
            · refine Z_known 41 false (by kernel_rfl) hc2418 ?_
              refine Z_runs [.int .i64 y2389, .bool (y2389 != 0), .bool (y2389 != 0)] [(1, .pointer (some ⟨b2177, 0, none⟩)), (3, .int .i64 s2377), (31, .slice p2173 x2171.Items.length c2174), (32, .int .i64 (x2171.Items.length : Int)), (33, .int .i64 s2377), (41, .bool false), (44, .bool (y2389 != 0))] (fun w_ => by kernel_rfl) (by kernel_rfl) ?_
              rcases gx_bif hm with ⟨hc2421, hm⟩ | ⟨hc2421, hm⟩
              · refine Z_known 44 true (by kernel_rfl) hc2421 ?_
                refine Z_runs [.pointer (some ⟨b2177, 1, none⟩)] [(1, .pointer (some ⟨b2177, 0, none⟩)), (3, .int .i64 s2377), (31, .slice p2173 x2171.Items.length c2174), (32, .int .i64 (x2171.Items.length : Int)), (33, .int .i64 s2377), (41, .bool false), (44, .bool true), (45, .pointer (some ⟨b2177, 1, none⟩))] (fun w_ => by kernel_rfl) (by kernel_rfl) ?_
                refine Z_val (.int .i64 x2171.Head) (by kernel_rfl) (fun w_ M_ => (E_load (e := 27) (fr := (0, 0)) _ _ false 1 b2177 1 [.slice p2173 x2171.Items.length c2174, .int .i64 x2171.Head, .int .i64 x2171.Tail] (.int .i64 x2171.Head) rfl (by kernel_rfl) (by kernel_rfl) (by kernel_rfl) (M_.blk 0 (b := b2177) (o := .cells ⟨[.slice p2173 x2171.Items.length c2174, .int .i64 x2171.Head, .int .i64 x2171.Tail]⟩ 27 (0, 0)) (by kernel_rfl)))) ?_
                refine Z_runs [.int .i64 s2377] [(1, .pointer (some ⟨b2177, 0, none⟩)), (31, .slice p2173 x2171.Items.length c2174), (32, .int .i64 (x2171.Items.length : Int)), (33, .int .i64 s2377), (41, .bool false), (44, .bool true), (46, .int .i64 x2171.Head), (47, .int .i64 s2377)] (fun w_ => by kernel_rfl) (by kernel_rfl) ?_
                obtain ⟨r2422, hr2422, hm⟩ := gx_bind hm
                refine Z_call 54 #[.int .i64 x2171.Head, .int .i64 s2377] (.int .i64 r2422) (by kernel_rfl) (fun w_ => by kernel_rfl) (fun w_ M_ => (c_i_stepsTo w_ x2171.Head s2377 hr2422).mono fun e w2_ h_ => ⟨h_.1, M_.call0 h_.2⟩) ?_
                refine Z_runs [.pointer (some ⟨b2177, 0, none⟩)] [(1, .pointer (some ⟨b2177, 0, none⟩)), (31, .slice p2173 x2171.Items.length c2174), (32, .int .i64 (x2171.Items.length : Int)), (33, .int .i64 s2377), (41, .bool false), (44, .bool true), (48, .int .i64 r2422), (49, .pointer (some ⟨b2177, 0, none⟩))] (fun w_ => by kernel_rfl) (by kernel_rfl) ?_
                refine Z_val (.slice p2173 x2171.Items.length c2174) (by kernel_rfl) (fun w_ M_ => (E_load (e := 27) (fr := (0, 0)) _ _ false 1 b2177 0 [.slice p2173 x2171.Items.length c2174, .int .i64 x2171.Head, .int .i64 x2171.Tail] (.slice p2173 x2171.Items.length c2174) rfl (by kernel_rfl) (by kernel_rfl) (by kernel_rfl) (M_.blk 0 (b := b2177) (o := .cells ⟨[.slice p2173 x2171.Items.length c2174, .int .i64 x2171.Head, .int .i64 x2171.Tail]⟩ 27 (0, 0)) (by kernel_rfl)))) ?_
                refine Z_runs [.int .i64 (x2171.Items.length : Int)] [(1, .pointer (some ⟨b2177, 0, none⟩)), (31, .slice p2173 x2171.Items.length c2174), (32, .int .i64 (x2171.Items.length : Int)), (33, .int .i64 s2377), (41, .bool false), (44, .bool true), (48, .int .i64 r2422), (51, .int .i64 (x2171.Items.length : Int))] (fun w_ => by kernel_rfl) (by kernel_rfl) ?_
                obtain ⟨q2426, hq2426, hm⟩ := gx_bind hm
                refine Z_val (.int .i64 q2426) (by kernel_rfl) (fun w_ M_ => (E_rem _ _ _ _ r2422 (x2171.Items.length : Int) q2426 rfl (by kernel_rfl) (by kernel_rfl) hq2426)) ?_
                refine Z_val (.agg #[.slice p2173 x2171.Items.length c2174, .int .i64 x2171.Head, .int .i64 x2171.Tail]) (by kernel_rfl) (fun w_ M_ => (E_load (e := 27) (fr := (0, 0)) _ _ true 3 b2177 0 [.slice p2173 x2171.Items.length c2174, .int .i64 x2171.Head, .int .i64 x2171.Tail] (.agg #[.slice p2173 x2171.Items.length c2174, .int .i64 x2171.Head, .int .i64 x2171.Tail]) rfl (by kernel_rfl) (by kernel_rfl) (by kernel_rfl) (M_.blk 0 (b := b2177) (o := .cells ⟨[.slice p2173 x2171.Items.length c2174, .int .i64 x2171.Head, .int .i64 x2171.Tail]⟩ 27 (0, 0)) (by kernel_rfl)))) ?_
                obtain ⟨r2427, hr2427, hm⟩ := gx_bind hm
                refine Z_call 59 #[.agg #[.slice p2173 x2171.Items.length c2174, .int .i64 x2171.Head, .int .i64 x2171.Tail]] (.int .i64 r2427) (by kernel_rfl) (fun w_ => by kernel_rfl) (fun w_ M_ => (c_i_Ring_count w_ x2171 p2173 c2174 (h2175.mem0 M_) hr2427).mono fun e w2_ h_ => ⟨h_.1, M_.call0 h_.2⟩) ?_
                refine Z_runs [.bool (decide (q2426 ≥ r2427)), .bool (decide (q2426 ≥ r2427)), .bool (decide (q2426 ≥ r2427))] [(1, .pointer (some ⟨b2177, 0, none⟩)), (31, .slice p2173 x2171.Items.length c2174), (32, .int .i64 (x2171.Items.length : Int)), (33, .int .i64 s2377), (57, .bool (decide (q2426 ≥ r2427)))] (fun w_ => by kernel_rfl) (by kernel_rfl) ?_
                refine Z_end fun w2431 M2432 => ?_
                obtain rfl := Option.some.inj hm
                exact N_meet fun a ha => ⟨M2432.pick [0] (by kernel_rfl), ha.sub (by kernel_rfl)⟩
              · refine Z_known 44 false (by kernel_rfl) hc2421 ?_
                refine Z_runs [undef, undef, undef, undef, undef, undef, undef, undef, undef, undef, undef, .bool false, .bool false] [(1, .pointer (some ⟨b2177, 0, none⟩)), (31, .slice p2173 x2171.Items.length c2174), (32, .int .i64 (x2171.Items.length : Int)), (33, .int .i64 s2377), (57, .bool false)] (fun w_ => by kernel_rfl) (by kernel_rfl) ?_
                refine Z_end fun w2433 M2434 => ?_
                obtain rfl := Option.some.inj hm
                exact N_meet fun a ha => ⟨M2434.pick [0] (by kernel_rfl), ha.sub (by kernel_rfl)⟩
          · intro a2437 w2435 ⟨M2436, hS2438⟩
            refine N_use hS2438 ?_
            have hm := hm2413
            refine N_then ?_
            rcases gx_bif hm with ⟨hc2439, hm⟩ | ⟨hc2439, hm⟩
            · refine G_cond_t (b := o2411) hc2439 (by kernel_rfl) ?_
              refine G_seq ?_
              refine G_region ?_
              refine W_run 1 [(2, .bool false)] w2435 (by kernel_rfl) ?_
              refine W_nil ?_
              refine N_then ?_
              refine G_ret ?_
              refine N_block_ret ?_
              refine N_then_ret ?_
              refine N_then_ret ?_
              obtain rfl := Option.some.inj hm
              obtain rfl := hout2379 _ rfl
              have hm := hmo2386; simp only [Sum.elim_inr] at hm
              refine N_block_ret ?_
              refine N_meet_ret ?_
              refine N_then_ret ?_
              obtain rfl := Option.some.inj hm
              refine N_ret [.bool false] (RVs_cons (RV_tmp (by kernel_rfl)) RVs_nil) ?_
              exact ⟨rfl, M2436.pick [] (by kernel_rfl)⟩
            · refine G_cond_f (b := o2411) hc2439 (by kernel_rfl) ?_
              refine G_skip ?_
              refine N_block ?_
              refine N_then ?_
              refine G_region ?_
              refine W_run 2 [(1, .pointer (some ⟨b2177, 0, none⟩)), (31, .slice p2173 x2171.Items.length c2174), (32, .int .i64 (x2171.Items.length : Int)), (33, .int .i64 (w64 (s2377 + 1)))] w2435 (by kernel_rfl) ?_
              refine W_nil ?_
              obtain rfl := Option.some.inj hm
              exact N_loop fun a ha => ⟨_, rfl, M2436.pick [0] (by kernel_rfl), ha.sub (by kernel_rfl)⟩
        · refine G_cond_f (b := (decide (s2377 < (x2171.Items.length : Int)))) hc2388 (by kernel_rfl) ?_
          refine G_exit ?_
          refine N_then_exit ?_
          refine N_then_exit ?_
          refine N_block_eq ?_
          obtain rfl := Option.some.inj hm
          obtain rfl := hout2379 _ rfl
          exact N_meet fun a ha => ⟨_, rfl, M2382.pick [] (by kernel_rfl), ha.sub (by kernel_rfl)⟩
      · intro a2440 w2441 ⟨o2387, hout_, M2442, hS2443⟩
        refine N_use hS2443 ?_
        subst hout_
        have hm := hmo2386; simp only [Sum.elim_inl] at hm
        refine N_then ?_
        refine G_seq ?_
        refine G_region ?_
        refine W_run 1 [(2, .bool true)] w2441 (by kernel_rfl) ?_
        refine W_nil ?_
        refine N_then ?_
        refine G_ret ?_
        obtain rfl := Option.some.inj hm
        refine N_ret [.bool true] (RVs_cons (RV_tmp (by kernel_rfl)) RVs_nil) ?_
        exact ⟨rfl, M2442.pick [] (by kernel_rfl)⟩
theorem c_i_ringWords (w : World) (x2485 : Ring) (p2487 : Option Addr) (c2488 : Nat) (h2489 : rdS encI w x2485.Items p2487 c2488) {r : (List Int)} (hm : M.i_ringWords x2485 = some r) :
    Calls Try.prog 61 #[.agg #[.slice p2487 x2485.Items.length c2488, .int .i64 x2485.Head, .int .i64 x2485.Tail]] w fun e w' => ∃ (p2491 : Option Addr) (c2492 : Nat) (sg2493 : Seg), e = .returned (.slice p2491 r.length c2492) ∧ ownS encI r p2491 c2492 sg2493 ∧ Mem [] w w' [sg2493] := by
  unfold M.i_ringWords at hm
  refine C_enter Try.func61 rfl (by kernel_rfl) ?_
  have M0 := Mem.refl [] w
  refine G_seq ?_
  refine G_region ?_
  refine W_new (fun b => .pointer (some ⟨b, 0, none⟩)) (.cells ⟨[.slice p2487 x2485.Items.length c2488, .int .i64 x2485.Head, .int .i64 x2485.Tail]⟩ 27 (0, 0)) M0 rfl (by kernel_rfl) (by kernel_rfl) ?_
  intro b2495 w2496 M2497
  refine W_run 1 [(1, .pointer (some ⟨b2495, 0, none⟩))] w2496 (by kernel_rfl) ?_
  refine W_nil ?_
  refine N_then ?_
  refine G_seq ?_
  refine G_region ?_
  refine W_lit (E := encI) ([] : List Int) 0 [] 3 M2497 (by kernel_rfl) (by kernel_rfl) (by kernel_rfl) (by kernel_rfl) (by kernel_rfl) ?_
  intro p2499 c2500 sg2501 w2502 ho2503 M2504
  refine W_run 1 [(1, .pointer (some ⟨b2495, 0, none⟩)), (3, .slice p2499 ([] : List Int).length c2500)] w2502 (by kernel_rfl) ?_
  refine W_nil ?_
  refine N_then ?_
  refine G_seq ?_
  refine G_seq ?_
  refine G_region ?_
  refine W_val (.agg #[.slice p2487 x2485.Items.length c2488, .int .i64 x2485.Head, .int .i64 x2485.Tail]) w2502 (by kernel_rfl) (E_load (e := 27) (fr := (0, 0)) _ _ true 3 b2495 0 [.slice p2487 x2485.Items.length c2488, .int .i64 x2485.Head, .int .i64 x2485.Tail] (.agg #[.slice p2487 x2485.Items.length c2488, .int .i64 x2485.Head, .int .i64 x2485.Tail]) rfl (by kernel_rfl) (by kernel_rfl) (by kernel_rfl) (M2504.blk 0 (b := b2495) (o := .cells ⟨[.slice p2487 x2485.Items.length c2488, .int .i64 x2485.Head, .int .i64 x2485.Tail]⟩ 27 (0, 0)) (by kernel_rfl))) ?_
  obtain ⟨r2506, hr2506, hm⟩ := gx_bind hm
  refine W_call 59 #[.agg #[.slice p2487 x2485.Items.length c2488, .int .i64 x2485.Head, .int .i64 x2485.Tail]] (by kernel_rfl) (by kernel_rfl) ?_
  refine (c_i_Ring_count w2502 x2485 p2487 c2488 (h2489.mem0 M2504) hr2506).mono ?_
  rintro e_ w2507 ⟨rfl, K2508⟩
  have M2509 := M2504.call0 K2508
  refine ⟨_, rfl, ?_⟩
  refine W_run 1 [(1, .pointer (some ⟨b2495, 0, none⟩)), (3, .slice p2499 ([] : List Int).length c2500), (7, .int .i64 r2506), (8, .int .i64 0)] w2507 (by kernel_rfl) ?_
  refine W_nil ?_
  refine N_then ?_
  obtain ⟨out2676, hw2677, hmo2678⟩ := gx_bind hm
  refine G_meet (fun a w' => ∃ (p2685 : Option Addr), ∃ (c2686 : Nat), ∃ (sg2687 : Seg), ownS encI out2676 p2685 c2686 sg2687 ∧ Mem [] w w' [sg2687] ∧ Sat Try.f61.ntmps [(3, .slice p2685 out2676.length c2686)] a) ?_ ?_
  · refine G_block ?_
    refine G_while (σ := List Int × Int) (ρ := List Int) (fun s2669 a w' => ∃ (p2679 : Option Addr), ∃ (c2680 : Nat), ∃ (sg2681 : Seg), ownS encI s2669.1 p2679 c2680 sg2681 ∧ Mem [] w w' [[(b2495, .cells ⟨[.slice p2487 x2485.Items.length c2488, .int .i64 x2485.Head, .int .i64 x2485.Tail]⟩ 27 (0, 0))], sg2681] ∧ Sat Try.f61.ntmps [(1, .pointer (some ⟨b2495, 0, none⟩)), (3, .slice p2679 s2669.1.length c2680), (7, .int .i64 r2506), (8, .int .i64 s2669.2)] a) hw2677 (fun a ha => ⟨p2499, c2500, sg2501, ho2503, M2509.pick [0, 1] (by kernel_rfl), ha.sub (by kernel_rfl)⟩) ?_
    clear hm
    intro s2669 x2670 hm hout2671 a2672 w2673 ⟨p2679, c2680, sg2681, ho2682, M2674, hS2675⟩
    refine G_use hS2675 ?_
    refine G_seq ?_
    refine G_region ?_
    refine W_run 1 [(1, .pointer (some ⟨b2495, 0, none⟩)), (3, .slice p2679 s2669.1.length c2680), (7, .int .i64 r2506), (8, .int .i64 s2669.2), (9, .bool (decide (s2669.2 < r2506)))] w2673 (by kernel_rfl) ?_
    refine W_nil ?_
    refine N_then ?_
    refine G_seq ?_
    rcases gx_bif hm with ⟨hc2690, hm⟩ | ⟨hc2690, hm⟩
    · refine G_cond_t (b := (decide (s2669.2 < r2506))) hc2690 (by kernel_rfl) ?_
      refine G_skip ?_
      refine N_then ?_
      refine G_seq ?_
      refine G_block ?_
      refine G_seq ?_
      refine G_region ?_
      refine W_run 2 [(1, .pointer (some ⟨b2495, 0, none⟩)), (3, .slice p2679 s2669.1.length c2680), (4, .int .i64 s2669.2), (7, .int .i64 r2506), (8, .int .i64 s2669.2)] w2673 (by kernel_rfl) ?_
      refine W_nil ?_
      refine N_then ?_
      obtain ⟨q2693, hq2693, hm⟩ := gx_bind hm
      obtain ⟨y2694, hy2694, hm⟩ := gx_bind hm
      refine G_sub [(1, .pointer (some ⟨b2495, 0, none⟩)), (3, .slice p2679 s2669.1.length c2680), (4, .int .i64 s2669.2), (7, .int .i64 r2506), (8, .int .i64 s2669.2)] (by kernel_rfl) ?_
      refine G_dagL 14 [[], [], [1], [], [3], [], [4, 5], [], [7], [8], [6, 9], [2, 10], [11], [12]] [[], [], [], [], [], [], [], [], [], [], [], [], [], []] [[], [], [], [], [], [], [], [], [], [], [], [], [], []] [[], [], [], [], [], [], [], [], [], [], [], [], [], []] [[], [], [], [], [], [], [], [], [], [], [], [], [], []] [[], [], [], [], [], [], [], [], [], [], [], [], [], []] (fun _ => []) (fun i => ([fun f v s => v = (.slice p2679 s2669.1.length c2680 : Value) ∧ s = [], fun f v s => v = (.pointer (some ⟨b2495, 0, none⟩) : Value) ∧ s = [], fun f v s => v = (.slice p2487 x2485.Items.length c2488 : Value) ∧ s = [], fun f v s => v = (.pointer (some ⟨b2495, 1, none⟩) : Value) ∧ s = [], fun f v s => v = (.int .i64 x2485.Head : Value) ∧ s = [], fun f v s => v = (.int .i64 s2669.2 : Value) ∧ s = [], fun f v s => v = (.int .i64 (w64 (x2485.Head + s2669.2)) : Value) ∧ s = [], fun f v s => v = (.pointer (some ⟨b2495, 0, none⟩) : Value) ∧ s = [], fun f v s => v = (.slice p2487 x2485.Items.length c2488 : Value) ∧ s = [], fun f v s => v = (.int .i64 (x2485.Items.length : Int) : Value) ∧ s = [], fun f v s => v = (.int .i64 q2693 : Value) ∧ s = [], fun f v s => v = (elemP p2487 (q2693.toNat * 1) : Value) ∧ s = [], fun f v s => v = (.int .i64 y2694 : Value) ∧ s = [], fun f v s => ∃ (p2696 : Option Addr) (c2697 : Nat), v = (.slice p2696 [y2694].length c2697 : Value) ∧ ownS encI [y2694] p2696 c2697 s] : List ((Nat → Value) → Value → Seg → Prop)).getD i (fun _ _ _ => False)) (fun j f v => ∃ s, (fun i => ([fun f v s => v = (.slice p2679 s2669.1.length c2680 : Value) ∧ s = [], fun f v s => v = (.pointer (some ⟨b2495, 0, none⟩) : Value) ∧ s = [], fun f v s => v = (.slice p2487 x2485.Items.length c2488 : Value) ∧ s = [], fun f v s => v = (.pointer (some ⟨b2495, 1, none⟩) : Value) ∧ s = [], fun f v s => v = (.int .i64 x2485.Head : Value) ∧ s = [], fun f v s => v = (.int .i64 s2669.2 : Value) ∧ s = [], fun f v s => v = (.int .i64 (w64 (x2485.Head + s2669.2)) : Value) ∧ s = [], fun f v s => v = (.pointer (some ⟨b2495, 0, none⟩) : Value) ∧ s = [], fun f v s => v = (.slice p2487 x2485.Items.length c2488 : Value) ∧ s = [], fun f v s => v = (.int .i64 (x2485.Items.length : Int) : Value) ∧ s = [], fun f v s => v = (.int .i64 q2693 : Value) ∧ s = [], fun f v s => v = (elemP p2487 (q2693.toNat * 1) : Value) ∧ s = [], fun f v s => v = (.int .i64 y2694 : Value) ∧ s = [], fun f v s => ∃ (p2696 : Option Addr) (c2697 : Nat), v = (.slice p2696 [y2694].length c2697 : Value) ∧ ownS encI [y2694] p2696 c2697 s] : List ((Nat → Value) → Value → Seg → Prop)).getD i (fun _ _ _ => False)) j f v s) [] [0, 13] [13] (fun _ _ _ s h => ⟨s, h⟩) (by kernel_rfl) (by kernel_rfl) (M2674.preNil 14) (by kernel_rfl) (by kernel_rfl) (by kernel_rfl) (by kernel_rfl) (allOb_cons ?_ (allOb_cons ?_ (allOb_cons ?_ (allOb_cons ?_ (allOb_cons ?_ (allOb_cons ?_ (allOb_cons ?_ (allOb_cons ?_ (allOb_cons ?_ (allOb_cons ?_ (allOb_cons ?_ (allOb_cons ?_ (allOb_cons ?_ (allOb_cons ?_ allOb_nil)))))))))))))) ?_
      · intro g2691 f2692
        intro R w2700 M2701
        refine W_run 1 [(11, .slice p2679 s2669.1.length c2680)] w2700 (by kernel_rfl) ?_
        exact W_nil (ob_end (.slice p2679 s2669.1.length c2680) [] rfl (by kernel_rfl) ⟨by kernel_rfl, rfl⟩ M2701)
      · intro g2691 f2692
        intro R w2704 M2705
        refine W_run 1 [(12, .pointer (some ⟨b2495, 0, none⟩))] w2704 (by kernel_rfl) ?_
        exact W_nil (ob_end (.pointer (some ⟨b2495, 0, none⟩)) [] rfl (by kernel_rfl) ⟨by kernel_rfl, rfl⟩ M2705)
      · intro g2691 f2692
        intro v1_ hb1_
        obtain ⟨rfl, _⟩ := hb1_
        intro R w2708 M2709
        refine W_val (.slice p2487 x2485.Items.length c2488) w2708 (by kernel_rfl) (E_load (e := 27) (fr := (0, 0)) _ _ false 1 b2495 0 [.slice p2487 x2485.Items.length c2488, .int .i64 x2485.Head, .int .i64 x2485.Tail] (.slice p2487 x2485.Items.length c2488) rfl (by kernel_rfl) (by kernel_rfl) (by kernel_rfl) (M2709.blk 0 (b := b2495) (o := .cells ⟨[.slice p2487 x2485.Items.length c2488, .int .i64 x2485.Head, .int .i64 x2485.Tail]⟩ 27 (0, 0)) (by kernel_rfl))) ?_
        exact W_nil (ob_end (.slice p2487 x2485.Items.length c2488) [] rfl (by kernel_rfl) ⟨by kernel_rfl, rfl⟩ M2709)
      · intro g2691 f2692
        intro R w2712 M2713
        refine W_run 1 [(14, .pointer (some ⟨b2495, 1, none⟩))] w2712 (by kernel_rfl) ?_
        exact W_nil (ob_end (.pointer (some ⟨b2495, 1, none⟩)) [] rfl (by kernel_rfl) ⟨by kernel_rfl, rfl⟩ M2713)
      · intro g2691 f2692
        intro v3_ hb3_
        obtain ⟨rfl, _⟩ := hb3_
        intro R w2716 M2717
        refine W_val (.int .i64 x2485.Head) w2716 (by kernel_rfl) (E_load (e := 27) (fr := (0, 0)) _ _ false 1 b2495 1 [.slice p2487 x2485.Items.length c2488, .int .i64 x2485.Head, .int .i64 x2485.Tail] (.int .i64 x2485.Head) rfl (by kernel_rfl) (by kernel_rfl) (by kernel_rfl) (M2717.blk 0 (b := b2495) (o := .cells ⟨[.slice p2487 x2485.Items.length c2488, .int .i64 x2485.Head, .int .i64 x2485.Tail]⟩ 27 (0, 0)) (by kernel_rfl))) ?_
        exact W_nil (ob_end (.int .i64 x2485.Head) [] rfl (by kernel_rfl) ⟨by kernel_rfl, rfl⟩ M2717)
      · intro g2691 f2692
        intro R w2720 M2721
        refine W_run 1 [(16, .int .i64 s2669.2)] w2720 (by kernel_rfl) ?_
        exact W_nil (ob_end (.int .i64 s2669.2) [] rfl (by kernel_rfl) ⟨by kernel_rfl, rfl⟩ M2721)
      · intro g2691 f2692
        intro v4_ hb4_
        obtain ⟨rfl, _⟩ := hb4_
        intro v5_ hb5_
        obtain ⟨rfl, _⟩ := hb5_
        intro R w2724 M2725
        refine W_run 1 [(17, .int .i64 (w64 (x2485.Head + s2669.2)))] w2724 (by kernel_rfl) ?_
        exact W_nil (ob_end (.int .i64 (w64 (x2485.Head + s2669.2))) [] rfl (by kernel_rfl) ⟨by kernel_rfl, rfl⟩ M2725)
      · intro g2691 f2692
        intro R w2728 M2729
        refine W_run 1 [(18, .pointer (some ⟨b2495, 0, none⟩))] w2728 (by kernel_rfl) ?_
        exact W_nil (ob_end (.pointer (some ⟨b2495, 0, none⟩)) [] rfl (by kernel_rfl) ⟨by kernel_rfl, rfl⟩ M2729)
      · intro g2691 f2692
        intro v7_ hb7_
        obtain ⟨rfl, _⟩ := hb7_
        intro R w2732 M2733
        refine W_val (.slice p2487 x2485.Items.length c2488) w2732 (by kernel_rfl) (E_load (e := 27) (fr := (0, 0)) _ _ false 1 b2495 0 [.slice p2487 x2485.Items.length c2488, .int .i64 x2485.Head, .int .i64 x2485.Tail] (.slice p2487 x2485.Items.length c2488) rfl (by kernel_rfl) (by kernel_rfl) (by kernel_rfl) (M2733.blk 0 (b := b2495) (o := .cells ⟨[.slice p2487 x2485.Items.length c2488, .int .i64 x2485.Head, .int .i64 x2485.Tail]⟩ 27 (0, 0)) (by kernel_rfl))) ?_
        exact W_nil (ob_end (.slice p2487 x2485.Items.length c2488) [] rfl (by kernel_rfl) ⟨by kernel_rfl, rfl⟩ M2733)
      · intro g2691 f2692
        intro v8_ hb8_
        obtain ⟨rfl, _⟩ := hb8_
        intro R w2736 M2737
        refine W_run 1 [(20, .int .i64 (x2485.Items.length : Int))] w2736 (by kernel_rfl) ?_
        exact W_nil (ob_end (.int .i64 (x2485.Items.length : Int)) [] rfl (by kernel_rfl) ⟨by kernel_rfl, rfl⟩ M2737)
      · intro g2691 f2692
        intro v6_ hb6_
        obtain ⟨rfl, _⟩ := hb6_
        intro v9_ hb9_
        obtain ⟨rfl, _⟩ := hb9_
        intro R w2740 M2741
        refine W_val (.int .i64 q2693) w2740 (by kernel_rfl) (E_rem _ _ _ _ (w64 (x2485.Head + s2669.2)) (x2485.Items.length : Int) q2693 rfl (by kernel_rfl) (by kernel_rfl) hq2693) ?_
        exact W_nil (ob_end (.int .i64 q2693) [] rfl (by kernel_rfl) ⟨by kernel_rfl, rfl⟩ M2741)
      · intro g2691 f2692
        intro v2_ hb2_
        obtain ⟨rfl, _⟩ := hb2_
        intro v10_ hb10_
        obtain ⟨rfl, _⟩ := hb10_
        intro R w2744 M2745
        refine W_val (elemP p2487 (q2693.toNat * 1)) w2744 (by kernel_rfl) (E_index (E := encI) _ _ _ x2485.Items.length c2488 .i64 q2693 1 (y := y2694) rfl (by kernel_rfl) (by kernel_rfl) (by kernel_rfl) (h2489.mem0 M2745) rfl hy2694) ?_
        exact W_nil (ob_end (elemP p2487 (q2693.toNat * 1)) [] rfl (by kernel_rfl) ⟨by kernel_rfl, rfl⟩ M2745)
      · intro g2691 f2692
        intro v11_ hb11_
        obtain ⟨rfl, _⟩ := hb11_
        intro R w2748 M2749
        refine W_val (.int .i64 y2694) w2748 (by kernel_rfl) (E_loadE (E := encI) _ _ false 1 q2693 0 (q2693.toNat * 1) y2694 (.int .i64 y2694) rfl (by kernel_rfl) (by kernel_rfl) (by kernel_rfl) (h2489.mem0 M2749) hy2694 rfl) ?_
        exact W_nil (ob_end (.int .i64 y2694) [] rfl (by kernel_rfl) ⟨by kernel_rfl, rfl⟩ M2749)
      · intro g2691 f2692
        intro v12_ hb12_
        obtain ⟨rfl, _⟩ := hb12_
        intro R w2752 M2753
        refine W_lit (E := encI) [y2694] 1 [.int .i64 y2694] 3 M2753 (by kernel_rfl) (by kernel_rfl) (by kernel_rfl) (by kernel_rfl) (by kernel_rfl) ?_
        intro p2696 c2697 sg2698 w2754 ho2699 M2755
        exact W_nil (ob_end (.slice p2696 [y2694].length c2697) sg2698 rfl (by kernel_rfl) ⟨p2696, c2697, rfl, ho2699⟩ (Mem.mid M2755))
      · intro g2691 f2692
        intro v0_ hb0_
        obtain ⟨rfl, _⟩ := hb0_
        intro v13_ hb13_
        obtain ⟨p2696, c2697, rfl, ho2699⟩ := hb13_
        intro w2756 M2757
        have M2758 : Mem [] w w2756 [[(b2495, .cells ⟨[.slice p2487 x2485.Items.length c2488, .int .i64 x2485.Head, .int .i64 x2485.Tail]⟩ 27 (0, 0))], sg2681, (g2691 13)] := M2757
        obtain ⟨ap2759, hap2759, hm⟩ := gx_bind hm
        refine W_append (E := encI) _ _ _ 8 [.int .i64 0] 1 c2697 M2758 ho2682 (by kernel_rfl) (by kernel_rfl) (by kernel_rfl) rfl (by kernel_rfl) (by kernel_rfl) (by kernel_rfl) (by kernel_rfl) (by kernel_rfl) (by kernel_rfl) (ho2699.rd M2758 2 (by kernel_rfl)) hap2759 ?_
        intro p2760 c2761 sg2762 w2763 ho2764 M2765
        refine W_run 1 [(1, .pointer (some ⟨b2495, 0, none⟩)), (3, .slice p2760 ap2759.length c2761), (7, .int .i64 r2506), (8, .int .i64 s2669.2)] w2763 (by kernel_rfl) ?_
        refine W_nil ?_
        refine N_block ?_
        refine N_then ?_
        refine G_region ?_
        refine W_run 2 [(1, .pointer (some ⟨b2495, 0, none⟩)), (3, .slice p2760 ap2759.length c2761), (7, .int .i64 r2506), (8, .int .i64 (w64 (s2669.2 + 1)))] w2763 (by kernel_rfl) ?_
        refine W_nil ?_
        obtain rfl := Option.some.inj hm
        exact N_loop fun a ha => ⟨_, rfl, p2760, c2761, sg2762, ho2764, M2765.pick [0, 1] (by kernel_rfl), ha.sub (by kernel_rfl)⟩
    · refine G_cond_f (b := (decide (s2669.2 < r2506))) hc2690 (by kernel_rfl) ?_
      refine G_exit ?_
      refine N_then_exit ?_
      refine N_then_exit ?_
      refine N_block_eq ?_
      obtain rfl := Option.some.inj hm
      obtain rfl := hout2671 _ rfl
      exact N_meet fun a ha => ⟨p2679, c2680, sg2681, ho2682, M2674.pick [1] (by kernel_rfl), ha.sub (by kernel_rfl)⟩
  · intro a2767 w2768 ⟨p2685, c2686, sg2687, ho2688, M2769, hS2770⟩
    refine N_use hS2770 ?_
    have hm := hmo2678
    refine N_then ?_
    refine G_seq ?_
    refine G_region ?_
    refine W_run 2 [(2, .slice p2685 out2676.length c2686)] w2768 (by kernel_rfl) ?_
    refine W_nil ?_
    refine N_then ?_
    refine G_ret ?_
    obtain rfl := Option.some.inj hm
    refine N_ret [.slice p2685 out2676.length c2686] (RVs_cons (RV_tmp (by kernel_rfl)) RVs_nil) ?_
    exact ⟨p2685, c2686, sg2687, rfl, ho2688, M2769.pick [0] (by kernel_rfl)⟩
end Go.Proofs.Ytopnablbecepjaa
