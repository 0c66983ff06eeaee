/- The walks, printed by program: whenever the model gives r, the call returns r. Part 1. -/
import Derived.Test.YtphinfkojhecdaaRM
import Derived.Test.YtphinfkojhecdaaProg
set_option linter.unusedVariables false
set_option maxRecDepth 100000
set_option maxHeartbeats 4000000
namespace Go.Proofs.Ytphinfkojhecdaa
open Go.Gx
theorem c_l_rBig (w : World) (x6 : List Int) (p8 : Option Addr) (c9 : Nat) (h10 : rdS encU8 w x6 p8 c9) {r : Bool} (hm : M.l_rBig x6 = some r) :
    Calls Try.prog 40 #[.slice p8 x6.length c9] w fun e w' => e = .returned (.bool r) ∧ Mem [] w w' [] := by
  unfold M.l_rBig at hm
  refine C_enter Try.func40 rfl (by kernel_rfl) ?_
  have M0 := Mem.refl [] w
  refine G_seq ?_
  refine G_region ?_
  refine W_run 1 [(0, .slice p8 x6.length c9)] w (by kernel_rfl) ?_
  refine W_nil ?_
  refine N_then ?_
  refine G_seq ?_
  refine G_region ?_
  refine W_run 4 [(2, .bool (decide ((x6.length : Int) > 65536)))] w (by kernel_rfl) ?_
  refine W_nil ?_
  refine N_then ?_
  refine G_ret ?_
  obtain rfl := Option.some.inj hm
  refine N_ret [.bool (decide ((x6.length : Int) > 65536))] (RVs_cons (RV_tmp (by kernel_rfl)) RVs_nil) ?_
  exact ⟨rfl, M0.pick [] (by kernel_rfl)⟩
theorem c_s_l1Cur_next (w : World) (x61 : l1Cur) (p65 : Option Addr) (c66 : Nat) (h67 : rdS encU8 w x61.code p65 c66) (b63 : Nat) (hA : ∀ q ∈ List.flatten [[(b63, .cells ⟨[.slice p65 x61.code.length c66, .int .i64 x61.at_, .int .u64 x61.seed]⟩ 89 (0, 0))]], w.heap[q.1]? = some q.2) (hN : (idsOf [[(b63, .cells ⟨[.slice p65 x61.code.length c66, .int .i64 x61.at_, .int .u64 x61.seed]⟩ 89 (0, 0))]]).Nodup) (hap68 : apartX (idsOf [[(b63, .cells ⟨[.slice p65 x61.code.length c66, .int .i64 x61.at_, .int .u64 x61.seed]⟩ 89 (0, 0))]]) x61.code p65) {r : Int × Int × Int} (hm : M.s_l1Cur_next x61 = some r) :
    Calls Try.prog 93 #[.pointer (some ⟨b63, 0, none⟩)] w fun e w' => e = .returned (.int .i64 r.1) ∧ Mem (idsOf [[(b63, .cells ⟨[.slice p65 x61.code.length c66, .int .i64 x61.at_, .int .u64 x61.seed]⟩ 89 (0, 0))]]) w w' [[(b63, .cells ⟨[.slice p65 x61.code.length c66, .int .i64 r.2.1, .int .u64 r.2.2]⟩ 89 (0, 0))]] := by
  unfold M.s_l1Cur_next at hm
  refine C_enter Try.func93 rfl (by kernel_rfl) ?_
  have M0 := Mem.start' w [[(b63, .cells ⟨[.slice p65 x61.code.length c66, .int .i64 x61.at_, .int .u64 x61.seed]⟩ 89 (0, 0))]] hA hN
  refine G_seq ?_
  refine G_region ?_
  refine W_run 1 [(0, .pointer (some ⟨b63, 0, none⟩))] w (by kernel_rfl) ?_
  refine W_nil ?_
  refine N_then ?_
  refine G_seq ?_
  refine G_region ?_
  refine W_run 1 [(0, .pointer (some ⟨b63, 0, none⟩)), (3, .int .i64 0)] w (by kernel_rfl) ?_
  refine W_nil ?_
  refine N_then ?_
  refine G_seq ?_
  refine G_seq ?_
  refine G_quiet (by kernel_rfl) (by kernel_rfl) M0 ?_
  refine Z_runs [.pointer (some ⟨b63, 0, none⟩), .pointer (some ⟨b63, 0, none⟩), .pointer (some ⟨b63, 1, none⟩)] [(0, .pointer (some ⟨b63, 0, none⟩)), (3, .int .i64 0), (6, .pointer (some ⟨b63, 1, none⟩))] (fun w_ => by kernel_rfl) (by kernel_rfl) ?_
  refine Z_val (.int .i64 x61.at_) (by kernel_rfl) (fun w_ M_ => (E_load (e := 89) (fr := (0, 0)) _ _ false 1 b63 1 [.slice p65 x61.code.length c66, .int .i64 x61.at_, .int .u64 x61.seed] (.int .i64 x61.at_) rfl (by kernel_rfl) (by kernel_rfl) (by kernel_rfl) (M_.blk 0 (b := b63) (o := .cells ⟨[.slice p65 x61.code.length c66, .int .i64 x61.at_, .int .u64 x61.seed]⟩ 89 (0, 0)) (by kernel_rfl)))) ?_
  refine Z_runs [.pointer (some ⟨b63, 0, none⟩), .pointer (some ⟨b63, 0, none⟩), .pointer (some ⟨b63, 0, none⟩)] [(0, .pointer (some ⟨b63, 0, none⟩)), (3, .int .i64 0), (7, .int .i64 x61.at_), (10, .pointer (some ⟨b63, 0, none⟩))] (fun w_ => by kernel_rfl) (by kernel_rfl) ?_
  refine Z_val (.slice p65 x61.code.length c66) (by kernel_rfl) (fun w_ M_ => (E_load (e := 89) (fr := (0, 0)) _ _ false 1 b63 0 [.slice p65 x61.code.length c66, .int .i64 x61.at_, .int .u64 x61.seed] (.slice p65 x61.code.length c66) rfl (by kernel_rfl) (by kernel_rfl) (by kernel_rfl) (M_.blk 0 (b := b63) (o := .cells ⟨[.slice p65 x61.code.length c66, .int .i64 x61.at_, .int .u64 x61.seed]⟩ 89 (0, 0)) (by kernel_rfl)))) ?_
  refine Z_runs [.int .i64 (x61.code.length : Int), .bool (decide (x61.at_ < (x61.code.length : Int)))] [(0, .pointer (some ⟨b63, 0, none⟩)), (3, .int .i64 0), (13, .bool (decide (x61.at_ < (x61.code.length : Int))))] (fun w_ => by kernel_rfl) (by kernel_rfl) ?_
  refine Z_end fun w69 M70 => ?_
  refine N_then ?_
  obtain ⟨o75, ho76, hm77⟩ := gx_bind hm
  refine G_meet (fun a w' => Mem (idsOf [[(b63, .cells ⟨[.slice p65 x61.code.length c66, .int .i64 x61.at_, .int .u64 x61.seed]⟩ 89 (0, 0))]]) w w' [[(b63, .cells ⟨[.slice p65 x61.code.length c66, .int .i64 x61.at_, .int .u64 x61.seed]⟩ 89 (0, 0))]] ∧ Sat Try.f93.ntmps [(0, .pointer (some ⟨b63, 0, none⟩)), (3, .int .i64 o75)] a) ?_ ?_
  · have hm := ho76
    rcases gx_bif hm with ⟨hc78, hm⟩ | ⟨hc78, hm⟩
    · refine G_cond_t (b := (decide (x61.at_ < (x61.code.length : Int)))) hc78 (by kernel_rfl) ?_
      refine G_quiet (by kernel_rfl) (by kernel_rfl) M70 ?_
      refine Z_runs [.pointer (some ⟨b63, 0, none⟩), .pointer (some ⟨b63, 0, none⟩), .pointer (some ⟨b63, 0, none⟩)] [(0, .pointer (some ⟨b63, 0, none⟩)), (3, .int .i64 0), (16, .pointer (some ⟨b63, 0, none⟩))] (fun w_ => by kernel_rfl) (by kernel_rfl) ?_
      refine Z_val (.slice p65 x61.code.length c66) (by kernel_rfl) (fun w_ M_ => (E_load (e := 89) (fr := (0, 0)) _ _ false 1 b63 0 [.slice p65 x61.code.length c66, .int .i64 x61.at_, .int .u64 x61.seed] (.slice p65 x61.code.length c66) rfl (by kernel_rfl) (by kernel_rfl) (by kernel_rfl) (M_.blk 0 (b := b63) (o := .cells ⟨[.slice p65 x61.code.length c66, .int .i64 x61.at_, .int .u64 x61.seed]⟩ 89 (0, 0)) (by kernel_rfl)))) ?_
      refine Z_runs [.pointer (some ⟨b63, 0, none⟩), .pointer (some ⟨b63, 0, none⟩), .pointer (some ⟨b63, 1, none⟩)] [(0, .pointer (some ⟨b63, 0, none⟩)), (3, .int .i64 0), (17, .slice p65 x61.code.length c66), (20, .pointer (some ⟨b63, 1, none⟩))] (fun w_ => by kernel_rfl) (by kernel_rfl) ?_
      refine Z_val (.int .i64 x61.at_) (by kernel_rfl) (fun w_ M_ => (E_load (e := 89) (fr := (0, 0)) _ _ false 1 b63 1 [.slice p65 x61.code.length c66, .int .i64 x61.at_, .int .u64 x61.seed] (.int .i64 x61.at_) rfl (by kernel_rfl) (by kernel_rfl) (by kernel_rfl) (M_.blk 0 (b := b63) (o := .cells ⟨[.slice p65 x61.code.length c66, .int .i64 x61.at_, .int .u64 x61.seed]⟩ 89 (0, 0)) (by kernel_rfl)))) ?_
      obtain ⟨y79, hy79, hm⟩ := gx_bind hm
      refine Z_val (elemP p65 (x61.at_.toNat * 1)) (by kernel_rfl) (fun w_ M_ => (E_index (E := encU8) _ _ _ x61.code.length c66 .i64 x61.at_ 1 (y := y79) rfl (by kernel_rfl) (by kernel_rfl) (by kernel_rfl) (h67.memX hap68 M_) rfl hy79)) ?_
      refine Z_val (.int .u8 y79) (by kernel_rfl) (fun w_ M_ => (E_loadE (E := encU8) _ _ false 1 x61.at_ 0 (x61.at_.toNat * 1) y79 (.int .u8 y79) rfl (by kernel_rfl) (by kernel_rfl) (by kernel_rfl) (h67.memX hap68 M_) hy79 rfl)) ?_
      refine Z_runs [.int .i64 (w64 y79), .int .i64 (w64 y79)] [(0, .pointer (some ⟨b63, 0, none⟩)), (3, .int .i64 (w64 y79))] (fun w_ => by kernel_rfl) (by kernel_rfl) ?_
      refine Z_end fun w80 M81 => ?_
      obtain rfl := Option.some.inj hm
      exact N_meet fun a ha => ⟨M81.pick [0] (by kernel_rfl), ha.sub (by kernel_rfl)⟩
    · refine G_cond_f (b := (decide (x61.at_ < (x61.code.length : Int)))) hc78 (by kernel_rfl) ?_
      refine G_skip ?_
      obtain rfl := Option.some.inj hm
      exact N_meet fun a ha => ⟨M70.pick [0] (by kernel_rfl), ha.sub (by kernel_rfl)⟩
  · intro a84 w82 ⟨M83, hS85⟩
    refine N_use hS85 ?_
    have hm := hm77
    refine N_then ?_
    refine G_seq ?_
    refine G_region ?_
    refine W_run 3 [(0, .pointer (some ⟨b63, 0, none⟩)), (3, .int .i64 o75), (25, .pointer (some ⟨b63, 0, none⟩)), (27, .pointer (some ⟨b63, 1, none⟩))] w82 (by kernel_rfl) ?_
    refine W_val (.int .i64 x61.at_) w82 (by kernel_rfl) (E_load (e := 89) (fr := (0, 0)) _ _ false 1 b63 1 [.slice p65 x61.code.length c66, .int .i64 x61.at_, .int .u64 x61.seed] (.int .i64 x61.at_) rfl (by kernel_rfl) (by kernel_rfl) (by kernel_rfl) (M83.blk 0 (b := b63) (o := .cells ⟨[.slice p65 x61.code.length c66, .int .i64 x61.at_, .int .u64 x61.seed]⟩ 89 (0, 0)) (by kernel_rfl))) ?_
    refine W_run 3 [(0, .pointer (some ⟨b63, 0, none⟩)), (3, .int .i64 o75), (29, .int .i64 (w64 (x61.at_ + 1))), (31, .pointer (some ⟨b63, 1, none⟩))] w82 (by kernel_rfl) ?_
    refine W_store _ _ _ false 1 b63 1 [.slice p65 x61.code.length c66, .int .i64 x61.at_, .int .u64 x61.seed] 89 (.int .i64 (w64 (x61.at_ + 1))) 0 [.slice p65 x61.code.length c66, .int .i64 (w64 (x61.at_ + 1)), .int .u64 x61.seed] M83 (by kernel_rfl) rfl (by kernel_rfl) (by kernel_rfl) (by kernel_rfl) (by kernel_rfl) (by kernel_rfl) (by kernel_rfl) (by kernel_rfl) (by kernel_rfl) ?_
    intro w86 M87
    refine W_nil ?_
    refine N_then ?_
    refine G_seq ?_
    refine G_region ?_
    refine W_run 4 [(0, .pointer (some ⟨b63, 0, none⟩)), (3, .int .i64 o75), (32, .pointer (some ⟨b63, 0, none⟩)), (35, .pointer (some ⟨b63, 2, none⟩))] w86 (by kernel_rfl) ?_
    refine W_val (.int .u64 x61.seed) w86 (by kernel_rfl) (E_load (e := 89) (fr := (0, 0)) _ _ false 1 b63 2 [.slice p65 x61.code.length c66, .int .i64 (w64 (x61.at_ + 1)), .int .u64 x61.seed] (.int .u64 x61.seed) rfl (by kernel_rfl) (by kernel_rfl) (by kernel_rfl) (M87.blk 0 (b := b63) (o := .cells ⟨[.slice p65 x61.code.length c66, .int .i64 (w64 (x61.at_ + 1)), .int .u64 x61.seed]⟩ 89 (0, 0)) (by kernel_rfl))) ?_
    refine W_run 7 [(0, .pointer (some ⟨b63, 0, none⟩)), (3, .int .i64 o75), (41, .int .u64 (IntKind.u64.wrap ((IntKind.u64.wrap ((IntKind.u64.wrap (x61.seed * 6364136223846793005)) + (IntKind.u64.wrap o75))) + 843843))), (43, .pointer (some ⟨b63, 2, none⟩))] w86 (by kernel_rfl) ?_
    refine W_store _ _ _ false 1 b63 2 [.slice p65 x61.code.length c66, .int .i64 (w64 (x61.at_ + 1)), .int .u64 x61.seed] 89 (.int .u64 (IntKind.u64.wrap ((IntKind.u64.wrap ((IntKind.u64.wrap (x61.seed * 6364136223846793005)) + (IntKind.u64.wrap o75))) + 843843))) 0 [.slice p65 x61.code.length c66, .int .i64 (w64 (x61.at_ + 1)), .int .u64 (IntKind.u64.wrap ((IntKind.u64.wrap ((IntKind.u64.wrap (x61.seed * 6364136223846793005)) + (IntKind.u64.wrap o75))) + 843843))] M87 (by kernel_rfl) rfl (by kernel_rfl) (by kernel_rfl) (by kernel_rfl) (by kernel_rfl) (by kernel_rfl) (by kernel_rfl) (by kernel_rfl) (by kernel_rfl) ?_
    intro w88 M89
    refine W_nil ?_
    refine N_then ?_
    refine G_seq ?_
    refine G_seq ?_
    refine G_quiet (by kernel_rfl) (by kernel_rfl) M89 ?_
    refine Z_runs [.pointer (some ⟨b63, 0, none⟩), .pointer (some ⟨b63, 0, none⟩), .pointer (some ⟨b63, 1, none⟩)] [(0, .pointer (some ⟨b63, 0, none⟩)), (3, .int .i64 o75), (46, .pointer (some ⟨b63, 1, none⟩))] (fun w_ => by kernel_rfl) (by kernel_rfl) ?_
    refine Z_val (.int .i64 (w64 (x61.at_ + 1))) (by kernel_rfl) (fun w_ M_ => (E_load (e := 89) (fr := (0, 0)) _ _ false 1 b63 1 [.slice p65 x61.code.length c66, .int .i64 (w64 (x61.at_ + 1)), .int .u64 (IntKind.u64.wrap ((IntKind.u64.wrap ((IntKind.u64.wrap (x61.seed * 6364136223846793005)) + (IntKind.u64.wrap o75))) + 843843))] (.int .i64 (w64 (x61.at_ + 1))) rfl (by kernel_rfl) (by kernel_rfl) (by kernel_rfl) (M_.blk 0 (b := b63) (o := .cells ⟨[.slice p65 x61.code.length c66, .int .i64 (w64 (x61.at_ + 1)), .int .u64 (IntKind.u64.wrap ((IntKind.u64.wrap ((IntKind.u64.wrap (x61.seed * 6364136223846793005)) + (IntKind.u64.wrap o75))) + 843843))]⟩ 89 (0, 0)) (by kernel_rfl)))) ?_
    refine Z_runs [.pointer (some ⟨b63, 0, none⟩), .pointer (some ⟨b63, 0, none⟩), .pointer (some ⟨b63, 0, none⟩)] [(0, .pointer (some ⟨b63, 0, none⟩)), (3, .int .i64 o75), (47, .int .i64 (w64 (x61.at_ + 1))), (50, .pointer (some ⟨b63, 0, none⟩))] (fun w_ => by kernel_rfl) (by kernel_rfl) ?_
    refine Z_val (.slice p65 x61.code.length c66) (by kernel_rfl) (fun w_ M_ => (E_load (e := 89) (fr := (0, 0)) _ _ false 1 b63 0 [.slice p65 x61.code.length c66, .int .i64 (w64 (x61.at_ + 1)), .int .u64 (IntKind.u64.wrap ((IntKind.u64.wrap ((IntKind.u64.wrap (x61.seed * 6364136223846793005)) + (IntKind.u64.wrap o75))) + 843843))] (.slice p65 x61.code.length c66) rfl (by kernel_rfl) (by kernel_rfl) (by kernel_rfl) (M_.blk 0 (b := b63) (o := .cells ⟨[.slice p65 x61.code.length c66, .int .i64 (w64 (x61.at_ + 1)), .int .u64 (IntKind.u64.wrap ((IntKind.u64.wrap ((IntKind.u64.wrap (x61.seed * 6364136223846793005)) + (IntKind.u64.wrap o75))) + 843843))]⟩ 89 (0, 0)) (by kernel_rfl)))) ?_
    refine Z_runs [.int .i64 (x61.code.length : Int), .bool (decide ((w64 (x61.at_ + 1)) ≤ (x61.code.length : Int)))] [(0, .pointer (some ⟨b63, 0, none⟩)), (3, .int .i64 o75), (53, .bool (decide ((w64 (x61.at_ + 1)) ≤ (x61.code.length : Int))))] (fun w_ => by kernel_rfl) (by kernel_rfl) ?_
    refine Z_end fun w90 M91 => ?_
    refine N_then ?_
    rcases gx_bif hm with ⟨hc92, hm⟩ | ⟨hc92, hm⟩
    · refine G_cond_t (b := (decide ((w64 (x61.at_ + 1)) ≤ (x61.code.length : Int)))) hc92 (by kernel_rfl) ?_
      refine G_seq ?_
      refine G_region ?_
      refine W_run 2 [(2, .int .i64 o75)] w90 (by kernel_rfl) ?_
      refine W_nil ?_
      refine N_then ?_
      refine G_ret ?_
      refine N_then_ret ?_
      obtain rfl := Option.some.inj hm
      refine N_ret [.int .i64 o75] (RVs_cons (RV_tmp (by kernel_rfl)) RVs_nil) ?_
      exact ⟨rfl, M91.pick [0] (by kernel_rfl)⟩
    · refine G_cond_f (b := (decide ((w64 (x61.at_ + 1)) ≤ (x61.code.length : Int)))) hc92 (by kernel_rfl) ?_
      refine G_skip ?_
      refine N_then ?_
      refine G_seq ?_
      refine G_region ?_
      refine W_run 3 [(57, .pointer (some ⟨b63, 2, none⟩))] w90 (by kernel_rfl) ?_
      refine W_val (.int .u64 (IntKind.u64.wrap ((IntKind.u64.wrap ((IntKind.u64.wrap (x61.seed * 6364136223846793005)) + (IntKind.u64.wrap o75))) + 843843))) w90 (by kernel_rfl) (E_load (e := 89) (fr := (0, 0)) _ _ false 1 b63 2 [.slice p65 x61.code.length c66, .int .i64 (w64 (x61.at_ + 1)), .int .u64 (IntKind.u64.wrap ((IntKind.u64.wrap ((IntKind.u64.wrap (x61.seed * 6364136223846793005)) + (IntKind.u64.wrap o75))) + 843843))] (.int .u64 (IntKind.u64.wrap ((IntKind.u64.wrap ((IntKind.u64.wrap (x61.seed * 6364136223846793005)) + (IntKind.u64.wrap o75))) + 843843))) rfl (by kernel_rfl) (by kernel_rfl) (by kernel_rfl) (M91.blk 0 (b := b63) (o := .cells ⟨[.slice p65 x61.code.length c66, .int .i64 (w64 (x61.at_ + 1)), .int .u64 (IntKind.u64.wrap ((IntKind.u64.wrap ((IntKind.u64.wrap (x61.seed * 6364136223846793005)) + (IntKind.u64.wrap o75))) + 843843))]⟩ 89 (0, 0)) (by kernel_rfl))) ?_
      refine W_run 4 [(2, .int .i64 (w64 (gxAnd .u64 ((IntKind.u64.wrap ((IntKind.u64.wrap ((IntKind.u64.wrap (x61.seed * 6364136223846793005)) + (IntKind.u64.wrap o75))) + 843843)).fdiv (2 ^ 40)) 255)))] w90 (by kernel_rfl) ?_
      refine W_nil ?_
      refine N_then ?_
      refine G_ret ?_
      obtain rfl := Option.some.inj hm
      refine N_ret [.int .i64 (w64 (gxAnd .u64 ((IntKind.u64.wrap ((IntKind.u64.wrap ((IntKind.u64.wrap (x61.seed * 6364136223846793005)) + (IntKind.u64.wrap o75))) + 843843)).fdiv (2 ^ 40)) 255))] (RVs_cons (RV_tmp (by kernel_rfl)) RVs_nil) ?_
      exact ⟨rfl, M91.pick [0] (by kernel_rfl)⟩
theorem c_s_l1Cur_pick (w : World) (x51 : l1Cur) (p55 : Option Addr) (c56 : Nat) (h57 : rdS encU8 w x51.code p55 c56) (b53 : Nat) (x59 : Int) (hA : ∀ q ∈ List.flatten [[(b53, .cells ⟨[.slice p55 x51.code.length c56, .int .i64 x51.at_, .int .u64 x51.seed]⟩ 89 (0, 0))]], w.heap[q.1]? = some q.2) (hN : (idsOf [[(b53, .cells ⟨[.slice p55 x51.code.length c56, .int .i64 x51.at_, .int .u64 x51.seed]⟩ 89 (0, 0))]]).Nodup) (hap58 : apartX (idsOf [[(b53, .cells ⟨[.slice p55 x51.code.length c56, .int .i64 x51.at_, .int .u64 x51.seed]⟩ 89 (0, 0))]]) x51.code p55) {r : Int × Int × Int} (hm : M.s_l1Cur_pick x51 x59 = some r) :
    Calls Try.prog 81 #[.pointer (some ⟨b53, 0, none⟩), .int .i64 x59] w fun e w' => e = .returned (.int .i64 r.1) ∧ Mem (idsOf [[(b53, .cells ⟨[.slice p55 x51.code.length c56, .int .i64 x51.at_, .int .u64 x51.seed]⟩ 89 (0, 0))]]) w w' [[(b53, .cells ⟨[.slice p55 x51.code.length c56, .int .i64 r.2.1, .int .u64 r.2.2]⟩ 89 (0, 0))]] := by
  unfold M.s_l1Cur_pick at hm
  refine C_enter Try.func81 rfl (by kernel_rfl) ?_
  have M0 := Mem.start' w [[(b53, .cells ⟨[.slice p55 x51.code.length c56, .int .i64 x51.at_, .int .u64 x51.seed]⟩ 89 (0, 0))]] hA hN
  refine G_seq ?_
  refine G_region ?_
  refine W_run 1 [(0, .pointer (some ⟨b53, 0, none⟩)), (1, .int .i64 x59)] w (by kernel_rfl) ?_
  refine W_nil ?_
  refine N_then ?_
  refine G_seq ?_
  refine G_seq ?_
  refine G_region ?_
  refine W_run 2 [(0, .pointer (some ⟨b53, 0, none⟩)), (1, .int .i64 x59), (7, .bool (decide (x59 ≤ 1)))] w (by kernel_rfl) ?_
  refine W_nil ?_
  refine N_then ?_
  rcases gx_bif hm with ⟨hc60, hm⟩ | ⟨hc60, hm⟩
  · refine G_cond_t (b := (decide (x59 ≤ 1))) hc60 (by kernel_rfl) ?_
    refine G_seq ?_
    refine G_region ?_
    refine W_run 1 [(4, .int .i64 0)] w (by kernel_rfl) ?_
    refine W_nil ?_
    refine N_then ?_
    refine G_ret ?_
    refine N_then_ret ?_
    obtain rfl := Option.some.inj hm
    refine N_ret [.int .i64 0] (RVs_cons (RV_tmp (by kernel_rfl)) RVs_nil) ?_
    exact ⟨rfl, M0.pick [0] (by kernel_rfl)⟩
  · refine G_cond_f (b := (decide (x59 ≤ 1))) hc60 (by kernel_rfl) ?_
    refine G_skip ?_
    refine N_then ?_
    refine G_seq ?_
    refine G_region ?_
    refine W_run 1 [(0, .pointer (some ⟨b53, 0, none⟩)), (1, .int .i64 x59), (8, .pointer (some ⟨b53, 0, none⟩))] w (by kernel_rfl) ?_
    obtain ⟨r93, hr93, hm⟩ := gx_bind hm
    refine W_call 93 #[.pointer (some ⟨b53, 0, none⟩)] (by kernel_rfl) (by kernel_rfl) ?_
    refine (c_s_l1Cur_next w x51 p55 c56 (h57.memX hap58 M0) b53 (M0.hasPick [0]) (M0.nodupPick [0] (by kernel_rfl)) (apartX.old h57 hap58 M0 [0]) hr93).mono ?_
    rintro e_ w94 ⟨rfl, K95⟩
    have M96 := M0.callF' [0] [] (by kernel_rfl) K95
    refine ⟨_, rfl, ?_⟩
    refine W_run 1 [(0, .pointer (some ⟨b53, 0, none⟩)), (1, .int .i64 x59), (5, .int .i64 r93.1)] w94 (by kernel_rfl) ?_
    refine W_nil ?_
    refine N_then ?_
    refine G_seq ?_
    refine G_seq ?_
    refine G_region ?_
    refine W_run 2 [(0, .pointer (some ⟨b53, 0, none⟩)), (1, .int .i64 x59), (5, .int .i64 r93.1), (11, .bool (decide (x59 > 200)))] w94 (by kernel_rfl) ?_
    refine W_nil ?_
    refine N_then ?_
    obtain ⟨o102, ho103, hm104⟩ := gx_bind hm
    refine G_meet (fun a w' => Mem (idsOf [[(b53, .cells ⟨[.slice p55 x51.code.length c56, .int .i64 x51.at_, .int .u64 x51.seed]⟩ 89 (0, 0))]]) w w' [[(b53, .cells ⟨[.slice p55 x51.code.length c56, .int .i64 o102.2.1, .int .u64 o102.2.2]⟩ 89 (0, 0))]] ∧ Sat Try.f81.ntmps [(1, .int .i64 x59), (5, .int .i64 o102.1)] a) ?_ ?_
    · have hm := ho103
      rcases gx_bif hm with ⟨hc105, hm⟩ | ⟨hc105, hm⟩
      · refine G_cond_t (b := (decide (x59 > 200))) hc105 (by kernel_rfl) ?_
        refine G_region ?_
        refine W_run 3 [(1, .int .i64 x59), (5, .int .i64 r93.1), (13, .int .i64 (w64 (r93.1 * 256))), (14, .pointer (some ⟨b53, 0, none⟩))] w94 (by kernel_rfl) ?_
        obtain ⟨r106, hr106, hm⟩ := gx_bind hm
        refine W_call 93 #[.pointer (some ⟨b53, 0, none⟩)] (by kernel_rfl) (by kernel_rfl) ?_
        refine (c_s_l1Cur_next w94 (⟨x51.code, r93.2.1, r93.2.2⟩ : l1Cur) p55 c56 (h57.memX hap58 M96) b53 (M96.hasPick [0]) (M96.nodupPick [0] (by kernel_rfl)) (apartX.old h57 hap58 M96 [0]) hr106).mono ?_
        rintro e_ w107 ⟨rfl, K108⟩
        have M109 := M96.callF' [0] [] (by kernel_rfl) K108
        refine ⟨_, rfl, ?_⟩
        refine W_run 2 [(1, .int .i64 x59), (5, .int .i64 (w64 ((w64 (r93.1 * 256)) + r106.1)))] w107 (by kernel_rfl) ?_
        refine W_nil ?_
        obtain rfl := Option.some.inj hm
        exact N_meet fun a ha => ⟨M109.pick [0] (by kernel_rfl), ha.sub (by kernel_rfl)⟩
      · refine G_cond_f (b := (decide (x59 > 200))) hc105 (by kernel_rfl) ?_
        refine G_skip ?_
        obtain rfl := Option.some.inj hm
        exact N_meet fun a ha => ⟨M96.pick [0] (by kernel_rfl), ha.sub (by kernel_rfl)⟩
    · intro a112 w110 ⟨M111, hS113⟩
      refine N_use hS113 ?_
      have hm := hm104
      refine N_then ?_
      refine G_seq ?_
      refine G_region ?_
      refine W_run 2 [(17, .int .i64 o102.1), (18, .int .i64 x59)] w110 (by kernel_rfl) ?_
      obtain ⟨q114, hq114, hm⟩ := gx_bind hm
      refine W_val (.int .i64 q114) w110 (by kernel_rfl) (E_rem _ _ _ _ o102.1 x59 q114 rfl (by kernel_rfl) (by kernel_rfl) hq114) ?_
      refine W_run 1 [(4, .int .i64 q114)] w110 (by kernel_rfl) ?_
      refine W_nil ?_
      refine N_then ?_
      refine G_ret ?_
      obtain rfl := Option.some.inj hm
      refine N_ret [.int .i64 q114] (RVs_cons (RV_tmp (by kernel_rfl)) RVs_nil) ?_
      exact ⟨rfl, M111.pick [0] (by kernel_rfl)⟩
theorem c_s_l1Cur_among (w : World) (x139 : l1Cur) (p143 : Option Addr) (c144 : Nat) (h145 : rdS encU8 w x139.code p143 c144) (b141 : Nat) (x147 : List Int) (p149 : Option Addr) (c150 : Nat) (h151 : rdS encI w x147 p149 c150) (hA : ∀ q ∈ List.flatten [[(b141, .cells ⟨[.slice p143 x139.code.length c144, .int .i64 x139.at_, .int .u64 x139.seed]⟩ 89 (0, 0))]], w.heap[q.1]? = some q.2) (hN : (idsOf [[(b141, .cells ⟨[.slice p143 x139.code.length c144, .int .i64 x139.at_, .int .u64 x139.seed]⟩ 89 (0, 0))]]).Nodup) (hap146 : apartX (idsOf [[(b141, .cells ⟨[.slice p143 x139.code.length c144, .int .i64 x139.at_, .int .u64 x139.seed]⟩ 89 (0, 0))]]) x139.code p143) (hap152 : apartX (idsOf [[(b141, .cells ⟨[.slice p143 x139.code.length c144, .int .i64 x139.at_, .int .u64 x139.seed]⟩ 89 (0, 0))]]) x147 p149) {r : Int × Int × Int} (hm : M.s_l1Cur_among x139 x147 = some r) :
    Calls Try.prog 80 #[.pointer (some ⟨b141, 0, none⟩), .slice p149 x147.length c150] w fun e w' => e = .returned (.int .i64 r.1) ∧ Mem (idsOf [[(b141, .cells ⟨[.slice p143 x139.code.length c144, .int .i64 x139.at_, .int .u64 x139.seed]⟩ 89 (0, 0))]]) w w' [[(b141, .cells ⟨[.slice p143 x139.code.length c144, .int .i64 r.2.1, .int .u64 r.2.2]⟩ 89 (0, 0))]] := by
  unfold M.s_l1Cur_among at hm
  refine C_enter Try.func80 rfl (by kernel_rfl) ?_
  have M0 := Mem.start' w [[(b141, .cells ⟨[.slice p143 x139.code.length c144, .int .i64 x139.at_, .int .u64 x139.seed]⟩ 89 (0, 0))]] hA hN
  refine G_seq ?_
  refine G_region ?_
  refine W_run 1 [(0, .pointer (some ⟨b141, 0, none⟩)), (1, .slice p149 x147.length c150)] w (by kernel_rfl) ?_
  refine W_nil ?_
  refine N_then ?_
  refine G_seq ?_
  refine G_region ?_
  refine W_run 4 [(5, .slice p149 x147.length c150), (6, .pointer (some ⟨b141, 0, none⟩)), (8, .int .i64 (x147.length : Int))] w (by kernel_rfl) ?_
  obtain ⟨r153, hr153, hm⟩ := gx_bind hm
  refine W_call 81 #[.pointer (some ⟨b141, 0, none⟩), .int .i64 (x147.length : Int)] (by kernel_rfl) (by kernel_rfl) ?_
  refine (c_s_l1Cur_pick w x139 p143 c144 (h145.memX hap146 M0) b141 (x147.length : Int) (M0.hasPick [0]) (M0.nodupPick [0] (by kernel_rfl)) (apartX.old h145 hap146 M0 [0]) hr153).mono ?_
  rintro e_ w154 ⟨rfl, K155⟩
  have M156 := M0.callF' [0] [] (by kernel_rfl) K155
  refine ⟨_, rfl, ?_⟩
  obtain ⟨y157, hy157, hm⟩ := gx_bind hm
  refine W_val (elemP p149 (r153.1.toNat * 1)) w154 (by kernel_rfl) (E_index (E := encI) _ _ _ x147.length c150 .i64 r153.1 1 (y := y157) rfl (by kernel_rfl) (by kernel_rfl) (by kernel_rfl) (h151.memX hap152 M156) rfl hy157) ?_
  refine W_val (.int .i64 y157) w154 (by kernel_rfl) (E_loadE (E := encI) _ _ false 1 r153.1 0 (r153.1.toNat * 1) y157 (.int .i64 y157) rfl (by kernel_rfl) (by kernel_rfl) (by kernel_rfl) (h151.memX hap152 M156) hy157 rfl) ?_
  refine W_run 1 [(4, .int .i64 y157)] w154 (by kernel_rfl) ?_
  refine W_nil ?_
  refine N_then ?_
  refine G_ret ?_
  obtain rfl := Option.some.inj hm
  refine N_ret [.int .i64 y157] (RVs_cons (RV_tmp (by kernel_rfl)) RVs_nil) ?_
  exact ⟨rfl, M156.pick [0] (by kernel_rfl)⟩
theorem c_s_l1Cur_region (w : World) (x120 : l1Cur) (p124 : Option Addr) (c125 : Nat) (h126 : rdS encU8 w x120.code p124 c125) (b122 : Nat) (hA : ∀ q ∈ List.flatten [[(b122, .cells ⟨[.slice p124 x120.code.length c125, .int .i64 x120.at_, .int .u64 x120.seed]⟩ 89 (0, 0))]], w.heap[q.1]? = some q.2) (hN : (idsOf [[(b122, .cells ⟨[.slice p124 x120.code.length c125, .int .i64 x120.at_, .int .u64 x120.seed]⟩ 89 (0, 0))]]).Nodup) (hap127 : apartX (idsOf [[(b122, .cells ⟨[.slice p124 x120.code.length c125, .int .i64 x120.at_, .int .u64 x120.seed]⟩ 89 (0, 0))]]) x120.code p124) {r : Region × Int × Int} (hm : M.s_l1Cur_region x120 = some r) :
    Calls Try.prog 82 #[.pointer (some ⟨b122, 0, none⟩)] w fun e w' => e = .returned (.agg #[.int .i64 r.1.Base, .int .i64 r.1.Size, .int .i64 r.1.Kind, .int .i64 r.1.Unit]) ∧ Mem (idsOf [[(b122, .cells ⟨[.slice p124 x120.code.length c125, .int .i64 x120.at_, .int .u64 x120.seed]⟩ 89 (0, 0))]]) w w' [[(b122, .cells ⟨[.slice p124 x120.code.length c125, .int .i64 r.2.1, .int .u64 r.2.2]⟩ 89 (0, 0))]] := by
  unfold M.s_l1Cur_region at hm
  refine C_enter Try.func82 rfl (by kernel_rfl) ?_
  have M0 := Mem.start' w [[(b122, .cells ⟨[.slice p124 x120.code.length c125, .int .i64 x120.at_, .int .u64 x120.seed]⟩ 89 (0, 0))]] hA hN
  refine G_seq ?_
  refine G_region ?_
  refine W_new (fun b => .pointer (some ⟨b, 0, none⟩)) (.cells ⟨[.int .i64 0, .int .i64 0, .int .i64 0, .int .i64 0]⟩ 59 (0, 0)) M0 rfl (by kernel_rfl) (by kernel_rfl) ?_
  intro b129 w130 M131
  refine W_nil ?_
  refine N_then ?_
  refine G_seq ?_
  refine G_region ?_
  refine W_run 1 [(0, .pointer (some ⟨b122, 0, none⟩)), (2, .pointer (some ⟨b129, 0, none⟩)), (4, .pointer (some ⟨b122, 0, none⟩))] w130 (by kernel_rfl) ?_
  refine W_lit (E := encI) [4, 8, 16, 256, 4096] 5 [.int .i64 4, .int .i64 8, .int .i64 16, .int .i64 256, .int .i64 4096] 3 M131 (by kernel_rfl) (by kernel_rfl) (by kernel_rfl) (by kernel_rfl) (by kernel_rfl) ?_
  intro p132 c133 sg134 w135 ho136 M137
  obtain ⟨r158, hr158, hm⟩ := gx_bind hm
  refine W_call 80 #[.pointer (some ⟨b122, 0, none⟩), .slice p132 [4, 8, 16, 256, 4096].length c133] (by kernel_rfl) (by kernel_rfl) ?_
  refine (c_s_l1Cur_among w135 x120 p124 c125 (h126.memX hap127 M137) b122 [4, 8, 16, 256, 4096] p132 c133 (ho136.rd M137 2 (by kernel_rfl)) (M137.hasPick [0]) (M137.nodupPick [0] (by kernel_rfl)) (apartX.old h126 hap127 M137 [0]) (apartX.own ho136 M137 2 (by kernel_rfl) [0] (by kernel_rfl)) hr158).mono ?_
  rintro e_ w159 ⟨rfl, K160⟩
  have M161 := M137.callF' [0] [1, 2] (by kernel_rfl) K160
  refine ⟨_, rfl, ?_⟩
  refine W_run 1 [(0, .pointer (some ⟨b122, 0, none⟩)), (2, .pointer (some ⟨b129, 0, none⟩)), (6, .int .i64 r158.1), (7, .pointer (some ⟨b122, 0, none⟩))] w159 (by kernel_rfl) ?_
  obtain ⟨r162, hr162, hm⟩ := gx_bind hm
  refine W_call 81 #[.pointer (some ⟨b122, 0, none⟩), .int .i64 4] (by kernel_rfl) (by kernel_rfl) ?_
  refine (c_s_l1Cur_pick w159 (⟨x120.code, r158.2.1, r158.2.2⟩ : l1Cur) p124 c125 (h126.memX hap127 M161) b122 4 (M161.hasPick [2]) (M161.nodupPick [2] (by kernel_rfl)) (apartX.old h126 hap127 M161 [2]) hr162).mono ?_
  rintro e_ w163 ⟨rfl, K164⟩
  have M165 := M161.callF' [2] [0, 1] (by kernel_rfl) K164
  refine ⟨_, rfl, ?_⟩
  refine W_run 1 [(0, .pointer (some ⟨b122, 0, none⟩)), (2, .pointer (some ⟨b129, 0, none⟩)), (6, .int .i64 r158.1), (8, .int .i64 r162.1), (9, .pointer (some ⟨b122, 0, none⟩))] w163 (by kernel_rfl) ?_
  obtain ⟨r166, hr166, hm⟩ := gx_bind hm
  refine W_call 81 #[.pointer (some ⟨b122, 0, none⟩), .int .i64 16] (by kernel_rfl) (by kernel_rfl) ?_
  refine (c_s_l1Cur_pick w163 (⟨x120.code, r162.2.1, r162.2.2⟩ : l1Cur) p124 c125 (h126.memX hap127 M165) b122 16 (M165.hasPick [2]) (M165.nodupPick [2] (by kernel_rfl)) (apartX.old h126 hap127 M165 [2]) hr166).mono ?_
  rintro e_ w167 ⟨rfl, K168⟩
  have M169 := M165.callF' [2] [0, 1] (by kernel_rfl) K168
  refine ⟨_, rfl, ?_⟩
  refine W_run 1 [(0, .pointer (some ⟨b122, 0, none⟩)), (2, .pointer (some ⟨b129, 0, none⟩)), (11, .agg #[.int .i64 0, .int .i64 r158.1, .int .i64 r162.1, .int .i64 r166.1])] w167 (by kernel_rfl) ?_
  refine W_new (fun b => .pointer (some ⟨b, 0, none⟩)) (.cells ⟨[.int .i64 0, .int .i64 0, .int .i64 0, .int .i64 0]⟩ 59 (0, 0)) M169 rfl (by kernel_rfl) (by kernel_rfl) ?_
  intro b171 w172 M173
  refine W_store _ _ _ true 4 b171 0 [.int .i64 0, .int .i64 0, .int .i64 0, .int .i64 0] 59 (.agg #[.int .i64 0, .int .i64 r158.1, .int .i64 r162.1, .int .i64 r166.1]) 3 [.int .i64 0, .int .i64 r158.1, .int .i64 r162.1, .int .i64 r166.1] M173 (by kernel_rfl) rfl (by kernel_rfl) (by kernel_rfl) (by kernel_rfl) (by kernel_rfl) (by kernel_rfl) (by kernel_rfl) (by kernel_rfl) (by kernel_rfl) ?_
  intro w174 M175
  refine W_nil ?_
  refine N_then ?_
  refine G_seq ?_
  obtain ⟨q178, hq178, hm⟩ := gx_bind hm
  obtain ⟨r184, hr184, hm⟩ := gx_bind hm
  have M185 : Mem (idsOf [[(b122, .cells ⟨[.slice p124 x120.code.length c125, .int .i64 x120.at_, .int .u64 x120.seed]⟩ 89 (0, 0))]]) w w174 ([[(b129, .cells ⟨[.int .i64 0, .int .i64 0, .int .i64 0, .int .i64 0]⟩ 59 (0, 0))], sg134, [(b171, .cells ⟨[.int .i64 0, .int .i64 r158.1, .int .i64 r162.1, .int .i64 r166.1]⟩ 59 (0, 0))]] ++ (List.range 9).map (fun i => ([[], [], [], [], [], [], [], [], [(b122, .cells ⟨[.slice p124 x120.code.length c125, .int .i64 r166.2.1, .int .u64 r166.2.2]⟩ 89 (0, 0))]] : List Seg).getD i [])) := M175.pick [0, 1, 3, 300000, 300001, 300002, 300003, 300004, 300005, 300006, 300007, 2] (by kernel_rfl)
  refine G_sub [(0, .pointer (some ⟨b122, 0, none⟩)), (2, .pointer (some ⟨b129, 0, none⟩)), (3, .pointer (some ⟨b171, 0, none⟩)), (11, .agg #[.int .i64 0, .int .i64 r158.1, .int .i64 r162.1, .int .i64 r166.1])] (by kernel_rfl) ?_
  refine G_dagL 9 [[], [0], [], [], [3], [4], [5], [6], [2, 7]] [[], [], [], [], [], [], [], [], []] [[], [], [], [], [], [], [], [], [7]] [[], [], [], [], [], [], [], [], []] [[], [], [], [], [], [], [], [], []] [[], [], [], [], [], [], [], [], []] (fun i => ([[], [], [], [], [], [], [], [], [(b122, .cells ⟨[.slice p124 x120.code.length c125, .int .i64 r166.2.1, .int .u64 r166.2.2]⟩ 89 (0, 0))]] : List Seg).getD i []) (fun i => ([fun f v s => v = (.pointer (some ⟨b171, 1, none⟩) : Value) ∧ s = [], fun f v s => v = (.int .i64 r158.1 : Value) ∧ s = [], fun f v s => v = (.pointer (some ⟨b122, 0, none⟩) : Value) ∧ s = [], fun f v s => v = (.pointer (some ⟨b171, 1, none⟩) : Value) ∧ s = [], fun f v s => v = (.int .i64 r158.1 : Value) ∧ s = [], fun f v s => v = (.int .i64 q178 : Value) ∧ s = [], fun f v s => v = (.int .i64 (w64 (q178 - 1)) : Value) ∧ s = [], fun f v s => ∃ (p180 : Option Addr) (c181 : Nat), v = (.slice p180 [0, 1, 2, 3, 15, w64 (q178 - 1)].length c181 : Value) ∧ ownS encI [0, 1, 2, 3, 15, w64 (q178 - 1)] p180 c181 s, fun f v s => v = (.int .i64 r184.1 : Value) ∧ s = [(b122, .cells ⟨[.slice p124 x120.code.length c125, .int .i64 r184.2.1, .int .u64 r184.2.2]⟩ 89 (0, 0))]] : List ((Nat → Value) → Value → Seg → Prop)).getD i (fun _ _ _ => False)) (fun j f v => ∃ s, (fun i => ([fun f v s => v = (.pointer (some ⟨b171, 1, none⟩) : Value) ∧ s = [], fun f v s => v = (.int .i64 r158.1 : Value) ∧ s = [], fun f v s => v = (.pointer (some ⟨b122, 0, none⟩) : Value) ∧ s = [], fun f v s => v = (.pointer (some ⟨b171, 1, none⟩) : Value) ∧ s = [], fun f v s => v = (.int .i64 r158.1 : Value) ∧ s = [], fun f v s => v = (.int .i64 q178 : Value) ∧ s = [], fun f v s => v = (.int .i64 (w64 (q178 - 1)) : Value) ∧ s = [], fun f v s => ∃ (p180 : Option Addr) (c181 : Nat), v = (.slice p180 [0, 1, 2, 3, 15, w64 (q178 - 1)].length c181 : Value) ∧ ownS encI [0, 1, 2, 3, 15, w64 (q178 - 1)] p180 c181 s, fun f v s => v = (.int .i64 r184.1 : Value) ∧ s = [(b122, .cells ⟨[.slice p124 x120.code.length c125, .int .i64 r184.2.1, .int .u64 r184.2.2]⟩ 89 (0, 0))]] : List ((Nat → Value) → Value → Seg → Prop)).getD i (fun _ _ _ => False)) j f v s) [] [1, 7, 8] [7, 8] (fun _ _ _ s h => ⟨s, h⟩) (by kernel_rfl) (by kernel_rfl) M185 (by kernel_rfl) (by kernel_rfl) (by kernel_rfl) (by kernel_rfl) (allOb_cons ?_ (allOb_cons ?_ (allOb_cons ?_ (allOb_cons ?_ (allOb_cons ?_ (allOb_cons ?_ (allOb_cons ?_ (allOb_cons ?_ (allOb_cons ?_ allOb_nil))))))))) ?_
  · intro g176 f177
    intro R w186 M187
    refine W_run 1 [(12, .pointer (some ⟨b171, 1, none⟩))] w186 (by kernel_rfl) ?_
    exact W_nil (ob_end (.pointer (some ⟨b171, 1, none⟩)) [] rfl (by kernel_rfl) ⟨by kernel_rfl, rfl⟩ M187)
  · intro g176 f177
    intro v0_ hb0_
    obtain ⟨rfl, _⟩ := hb0_
    intro R w190 M191
    refine W_val (.int .i64 r158.1) w190 (by kernel_rfl) (E_load (e := 59) (fr := (0, 0)) _ _ false 1 b171 1 [.int .i64 0, .int .i64 r158.1, .int .i64 r162.1, .int .i64 r166.1] (.int .i64 r158.1) rfl (by kernel_rfl) (by kernel_rfl) (by kernel_rfl) (M191.blk 2 (b := b171) (o := .cells ⟨[.int .i64 0, .int .i64 r158.1, .int .i64 r162.1, .int .i64 r166.1]⟩ 59 (0, 0)) (by kernel_rfl))) ?_
    exact W_nil (ob_end (.int .i64 r158.1) [] rfl (by kernel_rfl) ⟨by kernel_rfl, rfl⟩ M191)
  · intro g176 f177
    intro R w194 M195
    refine W_run 1 [(14, .pointer (some ⟨b122, 0, none⟩))] w194 (by kernel_rfl) ?_
    exact W_nil (ob_end (.pointer (some ⟨b122, 0, none⟩)) [] rfl (by kernel_rfl) ⟨by kernel_rfl, rfl⟩ M195)
  · intro g176 f177
    intro R w198 M199
    refine W_run 1 [(15, .pointer (some ⟨b171, 1, none⟩))] w198 (by kernel_rfl) ?_
    exact W_nil (ob_end (.pointer (some ⟨b171, 1, none⟩)) [] rfl (by kernel_rfl) ⟨by kernel_rfl, rfl⟩ M199)
  · intro g176 f177
    intro v3_ hb3_
    obtain ⟨rfl, _⟩ := hb3_
    intro R w202 M203
    refine W_val (.int .i64 r158.1) w202 (by kernel_rfl) (E_load (e := 59) (fr := (0, 0)) _ _ false 1 b171 1 [.int .i64 0, .int .i64 r158.1, .int .i64 r162.1, .int .i64 r166.1] (.int .i64 r158.1) rfl (by kernel_rfl) (by kernel_rfl) (by kernel_rfl) (M203.blk 2 (b := b171) (o := .cells ⟨[.int .i64 0, .int .i64 r158.1, .int .i64 r162.1, .int .i64 r166.1]⟩ 59 (0, 0)) (by kernel_rfl))) ?_
    exact W_nil (ob_end (.int .i64 r158.1) [] rfl (by kernel_rfl) ⟨by kernel_rfl, rfl⟩ M203)
  · intro g176 f177
    intro v4_ hb4_
    obtain ⟨rfl, _⟩ := hb4_
    intro R w206 M207
    refine W_val (.int .i64 q178) w206 (by kernel_rfl) (E_div _ _ _ _ 65536 r158.1 q178 rfl (by kernel_rfl) (by kernel_rfl) hq178) ?_
    exact W_nil (ob_end (.int .i64 q178) [] rfl (by kernel_rfl) ⟨by kernel_rfl, rfl⟩ M207)
  · intro g176 f177
    intro v5_ hb5_
    obtain ⟨rfl, _⟩ := hb5_
    intro R w210 M211
    refine W_run 1 [(18, .int .i64 (w64 (q178 - 1)))] w210 (by kernel_rfl) ?_
    exact W_nil (ob_end (.int .i64 (w64 (q178 - 1))) [] rfl (by kernel_rfl) ⟨by kernel_rfl, rfl⟩ M211)
  · intro g176 f177
    intro v6_ hb6_
    obtain ⟨rfl, _⟩ := hb6_
    intro R w214 M215
    refine W_lit (E := encI) [0, 1, 2, 3, 15, w64 (q178 - 1)] 6 [.int .i64 0, .int .i64 1, .int .i64 2, .int .i64 3, .int .i64 15, .int .i64 (w64 (q178 - 1))] 3 M215 (by kernel_rfl) (by kernel_rfl) (by kernel_rfl) (by kernel_rfl) (by kernel_rfl) ?_
    intro p180 c181 sg182 w216 ho183 M217
    exact W_nil (ob_end (.slice p180 [0, 1, 2, 3, 15, w64 (q178 - 1)].length c181) sg182 rfl (by kernel_rfl) ⟨p180, c181, rfl, ho183⟩ (Mem.mid M217))
  · intro g176 f177
    intro v2_ hb2_
    obtain ⟨rfl, _⟩ := hb2_
    intro v7_ hb7_
    obtain ⟨p180, c181, rfl, ho183⟩ := hb7_
    intro R w218 M219
    refine W_call 80 #[.pointer (some ⟨b122, 0, none⟩), .slice p180 [0, 1, 2, 3, 15, w64 (q178 - 1)].length c181] (by kernel_rfl) (by kernel_rfl) ?_
    refine (c_s_l1Cur_among w218 (⟨x120.code, r166.2.1, r166.2.2⟩ : l1Cur) p124 c125 (h126.memX hap127 M219) b122 [0, 1, 2, 3, 15, w64 (q178 - 1)] p180 c181 (ho183.rd M219 4 (by kernel_rfl)) (M219.hasPick [3]) (M219.nodupPick [3] (by kernel_rfl)) (apartX.old h126 hap127 M219 [3]) (apartX.own ho183 M219 4 (by kernel_rfl) [3] (by kernel_rfl)) hr184).mono ?_
    rintro e_ w220 ⟨rfl, K222⟩
    refine ⟨_, rfl, ?_⟩
    exact W_nil (ob_end (.int .i64 r184.1) [(b122, .cells ⟨[.slice p124 x120.code.length c125, .int .i64 r184.2.1, .int .u64 r184.2.2]⟩ 89 (0, 0))] rfl (by kernel_rfl) ⟨rfl, rfl⟩ (Mem.callMidF M219 K222))
  · intro g176 f177
    intro v1_ hb1_
    obtain ⟨rfl, _⟩ := hb1_
    intro v7_ hb7_
    obtain ⟨p180, c181, rfl, ho183⟩ := hb7_
    intro v8_ hb8_
    obtain ⟨rfl, hs8_⟩ := hb8_
    intro w223 M224
    have M225 : Mem (idsOf [[(b122, .cells ⟨[.slice p124 x120.code.length c125, .int .i64 x120.at_, .int .u64 x120.seed]⟩ 89 (0, 0))]]) w w223 [[(b129, .cells ⟨[.int .i64 0, .int .i64 0, .int .i64 0, .int .i64 0]⟩ 59 (0, 0))], sg134, [(b171, .cells ⟨[.int .i64 0, .int .i64 r158.1, .int .i64 r162.1, .int .i64 r166.1]⟩ 59 (0, 0))], (g176 7), (g176 8)] := M224
    rw [hs8_] at M225
    refine W_run 2 [(0, .pointer (some ⟨b122, 0, none⟩)), (2, .pointer (some ⟨b129, 0, none⟩)), (3, .pointer (some ⟨b171, 0, none⟩)), (21, .int .i64 (w64 (r158.1 * r184.1))), (22, .pointer (some ⟨b171, 0, none⟩))] w223 (by kernel_rfl) ?_
    refine W_store _ _ _ false 1 b171 0 [.int .i64 0, .int .i64 r158.1, .int .i64 r162.1, .int .i64 r166.1] 59 (.int .i64 (w64 (r158.1 * r184.1))) 2 [.int .i64 (w64 (r158.1 * r184.1)), .int .i64 r158.1, .int .i64 r162.1, .int .i64 r166.1] M225 (by kernel_rfl) rfl (by kernel_rfl) (by kernel_rfl) (by kernel_rfl) (by kernel_rfl) (by kernel_rfl) (by kernel_rfl) (by kernel_rfl) (by kernel_rfl) ?_
    intro w226 M227
    refine W_nil ?_
    refine N_then ?_
    refine G_seq ?_
    refine G_seq ?_
    refine G_region ?_
    refine W_run 1 [(0, .pointer (some ⟨b122, 0, none⟩)), (2, .pointer (some ⟨b129, 0, none⟩)), (3, .pointer (some ⟨b171, 0, none⟩)), (23, .pointer (some ⟨b122, 0, none⟩))] w226 (by kernel_rfl) ?_
    obtain ⟨r228, hr228, hm⟩ := gx_bind hm
    refine W_call 81 #[.pointer (some ⟨b122, 0, none⟩), .int .i64 60] (by kernel_rfl) (by kernel_rfl) ?_
    refine (c_s_l1Cur_pick w226 (⟨x120.code, r184.2.1, r184.2.2⟩ : l1Cur) p124 c125 (h126.memX hap127 M227) b122 60 (M227.hasPick [4]) (M227.nodupPick [4] (by kernel_rfl)) (apartX.old h126 hap127 M227 [4]) hr228).mono ?_
    rintro e_ w229 ⟨rfl, K230⟩
    have M231 := M227.callF' [4] [0, 1, 2, 3] (by kernel_rfl) K230
    refine ⟨_, rfl, ?_⟩
    refine W_nil ?_
    refine N_then ?_
    refine G_block ?_
    refine G_seq ?_
    refine G_region ?_
    refine W_run 2 [(0, .pointer (some ⟨b122, 0, none⟩)), (2, .pointer (some ⟨b129, 0, none⟩)), (3, .pointer (some ⟨b171, 0, none⟩)), (24, .int .i64 r228.1), (25, .bool (r228.1 == 0))] w229 (by kernel_rfl) ?_
    refine W_nil ?_
    refine N_then ?_
    obtain ⟨o491, ho492, hm493⟩ := gx_bind hm
    refine G_meet (fun a w' => Mem (idsOf [[(b122, .cells ⟨[.slice p124 x120.code.length c125, .int .i64 x120.at_, .int .u64 x120.seed]⟩ 89 (0, 0))]]) w w' [[(b129, .cells ⟨[.int .i64 0, .int .i64 0, .int .i64 0, .int .i64 0]⟩ 59 (0, 0))], [(b171, .cells ⟨[.int .i64 o491.2.2.1, .int .i64 o491.2.2.2.1, .int .i64 o491.2.2.2.2.1, .int .i64 o491.2.2.2.2.2]⟩ 59 (0, 0))], [(b122, .cells ⟨[.slice p124 x120.code.length c125, .int .i64 o491.1, .int .u64 o491.2.1]⟩ 89 (0, 0))]] ∧ Sat Try.f82.ntmps [(2, .pointer (some ⟨b129, 0, none⟩)), (3, .pointer (some ⟨b171, 0, none⟩))] a) ?_ ?_
    · have hm := ho492
      rcases gx_bif hm with ⟨hc494, hm⟩ | ⟨hc494, hm⟩
      · refine G_cond_t (b := (r228.1 == 0)) hc494 (by kernel_rfl) ?_
        refine G_region ?_
        refine W_run 1 [(2, .pointer (some ⟨b129, 0, none⟩)), (3, .pointer (some ⟨b171, 0, none⟩)), (27, .pointer (some ⟨b122, 0, none⟩))] w229 (by kernel_rfl) ?_
        refine W_lit (E := encI) [(-4), 2, 65536] 3 [.int .i64 (-4), .int .i64 2, .int .i64 65536] 3 M231 (by kernel_rfl) (by kernel_rfl) (by kernel_rfl) (by kernel_rfl) (by kernel_rfl) ?_
        intro p495 c496 sg497 w498 ho499 M500
        obtain ⟨r502, hr502, hm⟩ := gx_bind hm
        refine W_call 80 #[.pointer (some ⟨b122, 0, none⟩), .slice p495 [(-4), 2, 65536].length c496] (by kernel_rfl) (by kernel_rfl) ?_
        refine (c_s_l1Cur_among w498 (⟨x120.code, r228.2.1, r228.2.2⟩ : l1Cur) p124 c125 (h126.memX hap127 M500) b122 [(-4), 2, 65536] p495 c496 (ho499.rd M500 5 (by kernel_rfl)) (M500.hasPick [4]) (M500.nodupPick [4] (by kernel_rfl)) (apartX.old h126 hap127 M500 [4]) (apartX.own ho499 M500 5 (by kernel_rfl) [4] (by kernel_rfl)) hr502).mono ?_
        rintro e_ w503 ⟨rfl, K504⟩
        have M505 := M500.callF' [4] [0, 1, 2, 3, 5] (by kernel_rfl) K504
        refine ⟨_, rfl, ?_⟩
        refine W_run 1 [(2, .pointer (some ⟨b129, 0, none⟩)), (3, .pointer (some ⟨b171, 0, none⟩)), (29, .int .i64 r502.1), (30, .pointer (some ⟨b171, 0, none⟩))] w503 (by kernel_rfl) ?_
        refine W_store _ _ _ false 1 b171 0 [.int .i64 (w64 (r158.1 * r184.1)), .int .i64 r158.1, .int .i64 r162.1, .int .i64 r166.1] 59 (.int .i64 r502.1) 2 [.int .i64 r502.1, .int .i64 r158.1, .int .i64 r162.1, .int .i64 r166.1] M505 (by kernel_rfl) rfl (by kernel_rfl) (by kernel_rfl) (by kernel_rfl) (by kernel_rfl) (by kernel_rfl) (by kernel_rfl) (by kernel_rfl) (by kernel_rfl) ?_
        intro w506 M507
        refine W_nil ?_
        obtain rfl := Option.some.inj hm
        exact N_meet fun a ha => ⟨M507.pick [0, 2, 5] (by kernel_rfl), ha.sub (by kernel_rfl)⟩
      · refine G_cond_f (b := (r228.1 == 0)) hc494 (by kernel_rfl) ?_
        refine G_seq ?_
        refine G_region ?_
        refine W_run 2 [(0, .pointer (some ⟨b122, 0, none⟩)), (2, .pointer (some ⟨b129, 0, none⟩)), (3, .pointer (some ⟨b171, 0, none⟩)), (24, .int .i64 r228.1), (31, .bool (r228.1 == 1))] w229 (by kernel_rfl) ?_
        refine W_nil ?_
        refine N_then ?_
        obtain ⟨o627, ho628, hm629⟩ := gx_bind hm
        refine G_meet (fun a w' => Mem (idsOf [[(b122, .cells ⟨[.slice p124 x120.code.length c125, .int .i64 x120.at_, .int .u64 x120.seed]⟩ 89 (0, 0))]]) w w' [[(b129, .cells ⟨[.int .i64 0, .int .i64 0, .int .i64 0, .int .i64 0]⟩ 59 (0, 0))], [(b171, .cells ⟨[.int .i64 (w64 (r158.1 * r184.1)), .int .i64 o627.2.2.1, .int .i64 o627.2.2.2.1, .int .i64 o627.2.2.2.2]⟩ 59 (0, 0))], [(b122, .cells ⟨[.slice p124 x120.code.length c125, .int .i64 o627.1, .int .u64 o627.2.1]⟩ 89 (0, 0))]] ∧ Sat Try.f82.ntmps [(2, .pointer (some ⟨b129, 0, none⟩)), (3, .pointer (some ⟨b171, 0, none⟩))] a) ?_ ?_
        · have hm := ho628
          rcases gx_bif hm with ⟨hc630, hm⟩ | ⟨hc630, hm⟩
          · refine G_cond_t (b := (r228.1 == 1)) hc630 (by kernel_rfl) ?_
            refine G_region ?_
            refine W_run 1 [(2, .pointer (some ⟨b129, 0, none⟩)), (3, .pointer (some ⟨b171, 0, none⟩)), (33, .pointer (some ⟨b122, 0, none⟩))] w229 (by kernel_rfl) ?_
            refine W_lit (E := encI) [0, 2, 6, 8192] 4 [.int .i64 0, .int .i64 2, .int .i64 6, .int .i64 8192] 3 M231 (by kernel_rfl) (by kernel_rfl) (by kernel_rfl) (by kernel_rfl) (by kernel_rfl) ?_
            intro p631 c632 sg633 w634 ho635 M636
            obtain ⟨r638, hr638, hm⟩ := gx_bind hm
            refine W_call 80 #[.pointer (some ⟨b122, 0, none⟩), .slice p631 [0, 2, 6, 8192].length c632] (by kernel_rfl) (by kernel_rfl) ?_
            refine (c_s_l1Cur_among w634 (⟨x120.code, r228.2.1, r228.2.2⟩ : l1Cur) p124 c125 (h126.memX hap127 M636) b122 [0, 2, 6, 8192] p631 c632 (ho635.rd M636 5 (by kernel_rfl)) (M636.hasPick [4]) (M636.nodupPick [4] (by kernel_rfl)) (apartX.old h126 hap127 M636 [4]) (apartX.own ho635 M636 5 (by kernel_rfl) [4] (by kernel_rfl)) hr638).mono ?_
            rintro e_ w639 ⟨rfl, K640⟩
            have M641 := M636.callF' [4] [0, 1, 2, 3, 5] (by kernel_rfl) K640
            refine ⟨_, rfl, ?_⟩
            refine W_run 1 [(2, .pointer (some ⟨b129, 0, none⟩)), (3, .pointer (some ⟨b171, 0, none⟩)), (35, .int .i64 r638.1), (36, .pointer (some ⟨b171, 1, none⟩))] w639 (by kernel_rfl) ?_
            refine W_store _ _ _ false 1 b171 1 [.int .i64 (w64 (r158.1 * r184.1)), .int .i64 r158.1, .int .i64 r162.1, .int .i64 r166.1] 59 (.int .i64 r638.1) 2 [.int .i64 (w64 (r158.1 * r184.1)), .int .i64 r638.1, .int .i64 r162.1, .int .i64 r166.1] M641 (by kernel_rfl) rfl (by kernel_rfl) (by kernel_rfl) (by kernel_rfl) (by kernel_rfl) (by kernel_rfl) (by kernel_rfl) (by kernel_rfl) (by kernel_rfl) ?_
            intro w642 M643
            refine W_nil ?_
            obtain rfl := Option.some.inj hm
            exact N_meet fun a ha => ⟨M643.pick [0, 2, 5] (by kernel_rfl), ha.sub (by kernel_rfl)⟩
          · refine G_cond_f (b := (r228.1 == 1)) hc630 (by kernel_rfl) ?_
            refine G_seq ?_
            refine G_region ?_
            refine W_run 2 [(0, .pointer (some ⟨b122, 0, none⟩)), (2, .pointer (some ⟨b129, 0, none⟩)), (3, .pointer (some ⟨b171, 0, none⟩)), (24, .int .i64 r228.1), (37, .bool (r228.1 == 2))] w229 (by kernel_rfl) ?_
            refine W_nil ?_
            refine N_then ?_
            obtain ⟨o693, ho694, hm695⟩ := gx_bind hm
            refine G_meet (fun a w' => Mem (idsOf [[(b122, .cells ⟨[.slice p124 x120.code.length c125, .int .i64 x120.at_, .int .u64 x120.seed]⟩ 89 (0, 0))]]) w w' [[(b129, .cells ⟨[.int .i64 0, .int .i64 0, .int .i64 0, .int .i64 0]⟩ 59 (0, 0))], [(b171, .cells ⟨[.int .i64 (w64 (r158.1 * r184.1)), .int .i64 r158.1, .int .i64 o693.2.2.1, .int .i64 o693.2.2.2]⟩ 59 (0, 0))], [(b122, .cells ⟨[.slice p124 x120.code.length c125, .int .i64 o693.1, .int .u64 o693.2.1]⟩ 89 (0, 0))]] ∧ Sat Try.f82.ntmps [(2, .pointer (some ⟨b129, 0, none⟩)), (3, .pointer (some ⟨b171, 0, none⟩))] a) ?_ ?_
            · have hm := ho694
              rcases gx_bif hm with ⟨hc696, hm⟩ | ⟨hc696, hm⟩
              · refine G_cond_t (b := (r228.1 == 2)) hc696 (by kernel_rfl) ?_
                refine G_region ?_
                refine W_run 1 [(2, .pointer (some ⟨b129, 0, none⟩)), (3, .pointer (some ⟨b171, 0, none⟩)), (39, .pointer (some ⟨b122, 0, none⟩))] w229 (by kernel_rfl) ?_
                refine W_lit (E := encI) [(-1), 4] 2 [.int .i64 (-1), .int .i64 4] 3 M231 (by kernel_rfl) (by kernel_rfl) (by kernel_rfl) (by kernel_rfl) (by kernel_rfl) ?_
                intro p697 c698 sg699 w700 ho701 M702
                obtain ⟨r704, hr704, hm⟩ := gx_bind hm
                refine W_call 80 #[.pointer (some ⟨b122, 0, none⟩), .slice p697 [(-1), 4].length c698] (by kernel_rfl) (by kernel_rfl) ?_
                refine (c_s_l1Cur_among w700 (⟨x120.code, r228.2.1, r228.2.2⟩ : l1Cur) p124 c125 (h126.memX hap127 M702) b122 [(-1), 4] p697 c698 (ho701.rd M702 5 (by kernel_rfl)) (M702.hasPick [4]) (M702.nodupPick [4] (by kernel_rfl)) (apartX.old h126 hap127 M702 [4]) (apartX.own ho701 M702 5 (by kernel_rfl) [4] (by kernel_rfl)) hr704).mono ?_
                rintro e_ w705 ⟨rfl, K706⟩
                have M707 := M702.callF' [4] [0, 1, 2, 3, 5] (by kernel_rfl) K706
                refine ⟨_, rfl, ?_⟩
                refine W_run 1 [(2, .pointer (some ⟨b129, 0, none⟩)), (3, .pointer (some ⟨b171, 0, none⟩)), (41, .int .i64 r704.1), (42, .pointer (some ⟨b171, 2, none⟩))] w705 (by kernel_rfl) ?_
                refine W_store _ _ _ false 1 b171 2 [.int .i64 (w64 (r158.1 * r184.1)), .int .i64 r158.1, .int .i64 r162.1, .int .i64 r166.1] 59 (.int .i64 r704.1) 2 [.int .i64 (w64 (r158.1 * r184.1)), .int .i64 r158.1, .int .i64 r704.1, .int .i64 r166.1] M707 (by kernel_rfl) rfl (by kernel_rfl) (by kernel_rfl) (by kernel_rfl) (by kernel_rfl) (by kernel_rfl) (by kernel_rfl) (by kernel_rfl) (by kernel_rfl) ?_
                intro w708 M709
                refine W_nil ?_
                obtain rfl := Option.some.inj hm
                exact N_meet fun a ha => ⟨M709.pick [0, 2, 5] (by kernel_rfl), ha.sub (by kernel_rfl)⟩
              · refine G_cond_f (b := (r228.1 == 2)) hc696 (by kernel_rfl) ?_
                refine G_seq ?_
                refine G_region ?_
                refine W_run 2 [(0, .pointer (some ⟨b122, 0, none⟩)), (2, .pointer (some ⟨b129, 0, none⟩)), (3, .pointer (some ⟨b171, 0, none⟩)), (43, .bool (r228.1 == 3))] w229 (by kernel_rfl) ?_
                refine W_nil ?_
                refine N_then ?_
                obtain ⟨o724, ho725, hm726⟩ := gx_bind hm
                refine G_meet (fun a w' => Mem (idsOf [[(b122, .cells ⟨[.slice p124 x120.code.length c125, .int .i64 x120.at_, .int .u64 x120.seed]⟩ 89 (0, 0))]]) w w' [[(b129, .cells ⟨[.int .i64 0, .int .i64 0, .int .i64 0, .int .i64 0]⟩ 59 (0, 0))], [(b171, .cells ⟨[.int .i64 (w64 (r158.1 * r184.1)), .int .i64 r158.1, .int .i64 r162.1, .int .i64 o724.2.2]⟩ 59 (0, 0))], [(b122, .cells ⟨[.slice p124 x120.code.length c125, .int .i64 o724.1, .int .u64 o724.2.1]⟩ 89 (0, 0))]] ∧ Sat Try.f82.ntmps [(2, .pointer (some ⟨b129, 0, none⟩)), (3, .pointer (some ⟨b171, 0, none⟩))] a) ?_ ?_
                · have hm := ho725
                  rcases gx_bif hm with ⟨hc727, hm⟩ | ⟨hc727, hm⟩
                  · refine G_cond_t (b := (r228.1 == 3)) hc727 (by kernel_rfl) ?_
                    refine G_region ?_
                    refine W_run 1 [(2, .pointer (some ⟨b129, 0, none⟩)), (3, .pointer (some ⟨b171, 0, none⟩)), (45, .pointer (some ⟨b122, 0, none⟩))] w229 (by kernel_rfl) ?_
                    refine W_lit (E := encI) [(-1), 16] 2 [.int .i64 (-1), .int .i64 16] 3 M231 (by kernel_rfl) (by kernel_rfl) (by kernel_rfl) (by kernel_rfl) (by kernel_rfl) ?_
                    intro p728 c729 sg730 w731 ho732 M733
                    obtain ⟨r735, hr735, hm⟩ := gx_bind hm
                    refine W_call 80 #[.pointer (some ⟨b122, 0, none⟩), .slice p728 [(-1), 16].length c729] (by kernel_rfl) (by kernel_rfl) ?_
                    refine (c_s_l1Cur_among w731 (⟨x120.code, r228.2.1, r228.2.2⟩ : l1Cur) p124 c125 (h126.memX hap127 M733) b122 [(-1), 16] p728 c729 (ho732.rd M733 5 (by kernel_rfl)) (M733.hasPick [4]) (M733.nodupPick [4] (by kernel_rfl)) (apartX.old h126 hap127 M733 [4]) (apartX.own ho732 M733 5 (by kernel_rfl) [4] (by kernel_rfl)) hr735).mono ?_
                    rintro e_ w736 ⟨rfl, K737⟩
                    have M738 := M733.callF' [4] [0, 1, 2, 3, 5] (by kernel_rfl) K737
                    refine ⟨_, rfl, ?_⟩
                    refine W_run 1 [(2, .pointer (some ⟨b129, 0, none⟩)), (3, .pointer (some ⟨b171, 0, none⟩)), (47, .int .i64 r735.1), (48, .pointer (some ⟨b171, 3, none⟩))] w736 (by kernel_rfl) ?_
                    refine W_store _ _ _ false 1 b171 3 [.int .i64 (w64 (r158.1 * r184.1)), .int .i64 r158.1, .int .i64 r162.1, .int .i64 r166.1] 59 (.int .i64 r735.1) 2 [.int .i64 (w64 (r158.1 * r184.1)), .int .i64 r158.1, .int .i64 r162.1, .int .i64 r735.1] M738 (by kernel_rfl) rfl (by kernel_rfl) (by kernel_rfl) (by kernel_rfl) (by kernel_rfl) (by kernel_rfl) (by kernel_rfl) (by kernel_rfl) (by kernel_rfl) ?_
                    intro w739 M740
                    refine W_nil ?_
                    obtain rfl := Option.some.inj hm
                    exact N_meet fun a ha => ⟨M740.pick [0, 2, 5] (by kernel_rfl), ha.sub (by kernel_rfl)⟩
                  · refine G_cond_f (b := (r228.1 == 3)) hc727 (by kernel_rfl) ?_
                    refine G_skip ?_
                    obtain rfl := Option.some.inj hm
                    exact N_meet fun a ha => ⟨M231.pick [0, 2, 4] (by kernel_rfl), ha.sub (by kernel_rfl)⟩
                · intro a743 w741 ⟨M742, hS744⟩
                  refine N_use hS744 ?_
                  have hm := hm726
                  obtain rfl := Option.some.inj hm
                  exact N_meet fun a ha => ⟨M742.pick [0, 1, 2] (by kernel_rfl), ha.sub (by kernel_rfl)⟩
            · intro a747 w745 ⟨M746, hS748⟩
              refine N_use hS748 ?_
              have hm := hm695
              obtain rfl := Option.some.inj hm
              exact N_meet fun a ha => ⟨M746.pick [0, 1, 2] (by kernel_rfl), ha.sub (by kernel_rfl)⟩
        · intro a751 w749 ⟨M750, hS752⟩
          refine N_use hS752 ?_
          have hm := hm629
          obtain rfl := Option.some.inj hm
          exact N_meet fun a ha => ⟨M750.pick [0, 1, 2] (by kernel_rfl), ha.sub (by kernel_rfl)⟩
    · intro a755 w753 ⟨M754, hS756⟩
      refine N_use hS756 ?_
      have hm := hm493
      refine N_block ?_
      refine N_then ?_
      refine G_seq ?_
      refine G_region ?_
      refine W_val (.agg #[.int .i64 o491.2.2.1, .int .i64 o491.2.2.2.1, .int .i64 o491.2.2.2.2.1, .int .i64 o491.2.2.2.2.2]) w753 (by kernel_rfl) (E_load (e := 59) (fr := (0, 0)) _ _ true 4 b171 0 [.int .i64 o491.2.2.1, .int .i64 o491.2.2.2.1, .int .i64 o491.2.2.2.2.1, .int .i64 o491.2.2.2.2.2] (.agg #[.int .i64 o491.2.2.1, .int .i64 o491.2.2.2.1, .int .i64 o491.2.2.2.2.1, .int .i64 o491.2.2.2.2.2]) rfl (by kernel_rfl) (by kernel_rfl) (by kernel_rfl) (M754.blk 1 (b := b171) (o := .cells ⟨[.int .i64 o491.2.2.1, .int .i64 o491.2.2.2.1, .int .i64 o491.2.2.2.2.1, .int .i64 o491.2.2.2.2.2]⟩ 59 (0, 0)) (by kernel_rfl))) ?_
      refine W_store _ _ _ true 4 b129 0 [.int .i64 0, .int .i64 0, .int .i64 0, .int .i64 0] 59 (.agg #[.int .i64 o491.2.2.1, .int .i64 o491.2.2.2.1, .int .i64 o491.2.2.2.2.1, .int .i64 o491.2.2.2.2.2]) 0 [.int .i64 o491.2.2.1, .int .i64 o491.2.2.2.1, .int .i64 o491.2.2.2.2.1, .int .i64 o491.2.2.2.2.2] M754 (by kernel_rfl) rfl (by kernel_rfl) (by kernel_rfl) (by kernel_rfl) (by kernel_rfl) (by kernel_rfl) (by kernel_rfl) (by kernel_rfl) (by kernel_rfl) ?_
      intro w757 M758
      refine W_nil ?_
      refine N_then ?_
      refine G_ret ?_
      obtain rfl := Option.some.inj hm
      refine N_ret [.agg #[.int .i64 o491.2.2.1, .int .i64 o491.2.2.2.1, .int .i64 o491.2.2.2.2.1, .int .i64 o491.2.2.2.2.2]] (RVs_cons (RV_cell (g := true) (k := 4) (b := b129) (off := 0) (cs := [.int .i64 o491.2.2.1, .int .i64 o491.2.2.2.1, .int .i64 o491.2.2.2.2.1, .int .i64 o491.2.2.2.2.2]) (e := 59) (fr := (0, 0)) (v := .agg #[.int .i64 o491.2.2.1, .int .i64 o491.2.2.2.1, .int .i64 o491.2.2.2.2.1, .int .i64 o491.2.2.2.2.2]) (M758.blk 0 (b := b129) (o := .cells ⟨[.int .i64 o491.2.2.1, .int .i64 o491.2.2.2.1, .int .i64 o491.2.2.2.2.1, .int .i64 o491.2.2.2.2.2]⟩ 59 (0, 0)) (by kernel_rfl)) (by kernel_rfl) (by kernel_rfl) (by kernel_rfl)) RVs_nil) ?_
      exact ⟨rfl, M758.pick [2] (by kernel_rfl)⟩
theorem c_s_l1In (w : World) (x791 : Int) (x792 : Int) (x793 : Int) {r : Bool} (hm : M.s_l1In x791 x792 x793 = some r) :
    Calls Try.prog 76 #[.int .i64 x791, .int .i64 x792, .int .i64 x793] w fun e w' => e = .returned (.bool r) ∧ Mem [] w w' [] := by
  unfold M.s_l1In at hm
  refine C_enter Try.func76 rfl (by kernel_rfl) ?_
  have M0 := Mem.refl [] w
  refine G_seq ?_
  refine G_region ?_
  refine W_run 1 [(0, .int .i64 x791), (1, .int .i64 x792), (2, .int .i64 x793)] w (by kernel_rfl) ?_
  refine W_nil ?_
  refine N_then ?_
  refine G_seq ?_
  obtain ⟨o795, ho796, hm797⟩ := gx_bind hm
  refine G_meet (fun a w' => Mem [] w w' [] ∧ Sat Try.f76.ntmps [(6, .bool o795)] a) ?_ ?_
  · have hm := ho796
    refine G_region ?_
    refine W_run 4 [(0, .int .i64 x791), (2, .int .i64 x793), (10, .bool (decide (x791 ≥ x792)))] w (by kernel_rfl) ?_
    rcases gx_bif hm with ⟨hc798, hm⟩ | ⟨hc798, hm⟩
    · refine W_known 10 true (by kernel_rfl) hc798 ?_
      refine W_run 5 [(6, .bool (decide (x791 ≤ x793)))] w (by kernel_rfl) ?_
      refine W_nil ?_
      obtain rfl := Option.some.inj hm
      exact N_meet fun a ha => ⟨M0.pick [] (by kernel_rfl), ha.sub (by kernel_rfl)⟩
    · refine W_known 10 false (by kernel_rfl) hc798 ?_
      refine W_run 5 [(6, .bool false)] w (by kernel_rfl) ?_
      refine W_nil ?_
      obtain rfl := Option.some.inj hm
      exact N_meet fun a ha => ⟨M0.pick [] (by kernel_rfl), ha.sub (by kernel_rfl)⟩
  · intro a801 w799 ⟨M800, hS802⟩
    refine N_use hS802 ?_
    have hm := hm797
    refine N_then ?_
    refine G_ret ?_
    obtain rfl := Option.some.inj hm
    refine N_ret [.bool o795] (RVs_cons (RV_tmp (by kernel_rfl)) RVs_nil) ?_
    exact ⟨rfl, M800.pick [] (by kernel_rfl)⟩
theorem c_s_l17Size (w : World) (x790 : Int) {r : Bool} (hm : M.s_l17Size x790 = some r) :
    Calls Try.prog 71 #[.int .i64 x790] w fun e w' => e = .returned (.bool r) ∧ Mem [] w w' [] := by
  unfold M.s_l17Size at hm
  refine C_enter Try.func71 rfl (by kernel_rfl) ?_
  have M0 := Mem.refl [] w
  refine G_seq ?_
  refine G_region ?_
  refine W_run 1 [(0, .int .i64 x790)] w (by kernel_rfl) ?_
  refine W_nil ?_
  refine N_then ?_
  refine G_seq ?_
  obtain ⟨o808, ho809, hm810⟩ := gx_bind hm
  refine G_meet (fun a w' => Mem [] w w' [] ∧ Sat Try.f71.ntmps [(2, .bool o808)] a) ?_ ?_
  · have hm := ho809
    refine G_region ?_
    refine W_run 1 [(0, .int .i64 x790), (3, .int .i64 x790)] w (by kernel_rfl) ?_
    obtain ⟨r811, hr811, hm⟩ := gx_bind hm
    refine W_call 76 #[.int .i64 x790, .int .i64 4, .int .i64 4096] (by kernel_rfl) (by kernel_rfl) ?_
    refine (c_s_l1In w x790 4 4096 hr811).mono ?_
    rintro e_ w812 ⟨rfl, K813⟩
    have M814 := M0.call0 K813
    refine ⟨_, rfl, ?_⟩
    refine W_run 1 [(0, .int .i64 x790), (5, .bool r811)] w812 (by kernel_rfl) ?_
    rcases gx_bif hm with ⟨hc815, hm⟩ | ⟨hc815, hm⟩
    · refine W_known 5 true (by kernel_rfl) hc815 ?_
      refine W_run 7 [(2, .bool ((gxAnd .i64 x790 (w64 (x790 - 1))) == 0))] w812 (by kernel_rfl) ?_
      refine W_nil ?_
      obtain rfl := Option.some.inj hm
      exact N_meet fun a ha => ⟨M814.pick [] (by kernel_rfl), ha.sub (by kernel_rfl)⟩
    · refine W_known 5 false (by kernel_rfl) hc815 ?_
      refine W_run 7 [(2, .bool false)] w812 (by kernel_rfl) ?_
      refine W_nil ?_
      obtain rfl := Option.some.inj hm
      exact N_meet fun a ha => ⟨M814.pick [] (by kernel_rfl), ha.sub (by kernel_rfl)⟩
  · intro a818 w816 ⟨M817, hS819⟩
    refine N_use hS819 ?_
    have hm := hm810
    refine N_then ?_
    refine G_ret ?_
    obtain rfl := Option.some.inj hm
    refine N_ret [.bool o808] (RVs_cons (RV_tmp (by kernel_rfl)) RVs_nil) ?_
    exact ⟨rfl, M817.pick [] (by kernel_rfl)⟩
theorem c_s_l17Address (w : World) (x825 : Int) {r : Bool} (hm : M.s_l17Address x825 = some r) :
    Calls Try.prog 68 #[.int .i64 x825] w fun e w' => e = .returned (.bool r) ∧ Mem [] w w' [] := by
  unfold M.s_l17Address at hm
  refine C_enter Try.func68 rfl (by kernel_rfl) ?_
  have M0 := Mem.refl [] w
  refine G_seq ?_
  refine G_region ?_
  refine W_run 1 [(0, .int .i64 x825)] w (by kernel_rfl) ?_
  refine W_nil ?_
  refine N_then ?_
  refine G_seq ?_
  refine G_region ?_
  refine W_run 1 [(3, .int .i64 x825)] w (by kernel_rfl) ?_
  obtain ⟨r826, hr826, hm⟩ := gx_bind hm
  refine W_call 76 #[.int .i64 x825, .int .i64 0, .int .i64 65535] (by kernel_rfl) (by kernel_rfl) ?_
  refine (c_s_l1In w x825 0 65535 hr826).mono ?_
  rintro e_ w827 ⟨rfl, K828⟩
  have M829 := M0.call0 K828
  refine ⟨_, rfl, ?_⟩
  refine W_run 1 [(2, .bool r826)] w827 (by kernel_rfl) ?_
  refine W_nil ?_
  refine N_then ?_
  refine G_ret ?_
  obtain rfl := Option.some.inj hm
  refine N_ret [.bool r826] (RVs_cons (RV_tmp (by kernel_rfl)) RVs_nil) ?_
  exact ⟨rfl, M829.pick [] (by kernel_rfl)⟩
theorem c_s_l17One (w : World) (x785 : Region) {r : Bool} (hm : M.s_l17One x785 = some r) :
    Calls Try.prog 85 #[.agg #[.int .i64 x785.Base, .int .i64 x785.Size, .int .i64 x785.Kind, .int .i64 x785.Unit]] w fun e w' => e = .returned (.bool r) ∧ Mem [] w w' [] := by
  unfold M.s_l17One at hm
  refine C_enter Try.func85 rfl (by kernel_rfl) ?_
  have M0 := Mem.refl [] w
  refine G_seq ?_
  refine G_region ?_
  refine W_new (fun b => .pointer (some ⟨b, 0, none⟩)) (.cells ⟨[.int .i64 x785.Base, .int .i64 x785.Size, .int .i64 x785.Kind, .int .i64 x785.Unit]⟩ 59 (0, 0)) M0 rfl (by kernel_rfl) (by kernel_rfl) ?_
  intro b787 w788 M789
  refine W_run 1 [(1, .pointer (some ⟨b787, 0, none⟩))] w788 (by kernel_rfl) ?_
  refine W_nil ?_
  refine N_then ?_
  refine G_seq ?_
  obtain ⟨o846, ho847, hm848⟩ := gx_bind hm
  refine G_meet (fun a w' => Mem [] w w' [] ∧ Sat Try.f85.ntmps [(2, .bool o846)] a) ?_ ?_
  · have hm := ho847
    refine G_region ?_
    refine W_run 1 [(1, .pointer (some ⟨b787, 0, none⟩)), (3, .pointer (some ⟨b787, 1, none⟩))] w788 (by kernel_rfl) ?_
    refine W_val (.int .i64 x785.Size) w788 (by kernel_rfl) (E_load (e := 59) (fr := (0, 0)) _ _ false 1 b787 1 [.int .i64 x785.Base, .int .i64 x785.Size, .int .i64 x785.Kind, .int .i64 x785.Unit] (.int .i64 x785.Size) rfl (by kernel_rfl) (by kernel_rfl) (by kernel_rfl) (M789.blk 0 (b := b787) (o := .cells ⟨[.int .i64 x785.Base, .int .i64 x785.Size, .int .i64 x785.Kind, .int .i64 x785.Unit]⟩ 59 (0, 0)) (by kernel_rfl))) ?_
    obtain ⟨r849, hr849, hm⟩ := gx_bind hm
    refine W_call 71 #[.int .i64 x785.Size] (by kernel_rfl) (by kernel_rfl) ?_
    refine (c_s_l17Size w788 x785.Size hr849).mono ?_
    rintro e_ w850 ⟨rfl, K851⟩
    have M852 := M789.call0 K851
    refine ⟨_, rfl, ?_⟩
    refine W_run 1 [(1, .pointer (some ⟨b787, 0, none⟩)), (6, .bool r849)] w850 (by kernel_rfl) ?_
    rcases gx_bif hm with ⟨hc853, hm⟩ | ⟨hc853, hm⟩
    · refine W_known 6 true (by kernel_rfl) hc853 ?_
      refine W_run 1 [(1, .pointer (some ⟨b787, 0, none⟩)), (6, .bool true), (7, .pointer (some ⟨b787, 0, none⟩))] w850 (by kernel_rfl) ?_
      refine W_val (.int .i64 x785.Base) w850 (by kernel_rfl) (E_load (e := 59) (fr := (0, 0)) _ _ false 1 b787 0 [.int .i64 x785.Base, .int .i64 x785.Size, .int .i64 x785.Kind, .int .i64 x785.Unit] (.int .i64 x785.Base) rfl (by kernel_rfl) (by kernel_rfl) (by kernel_rfl) (M852.blk 0 (b := b787) (o := .cells ⟨[.int .i64 x785.Base, .int .i64 x785.Size, .int .i64 x785.Kind, .int .i64 x785.Unit]⟩ 59 (0, 0)) (by kernel_rfl))) ?_
      obtain ⟨r854, hr854, hm⟩ := gx_bind hm
      refine W_call 68 #[.int .i64 x785.Base] (by kernel_rfl) (by kernel_rfl) ?_
      refine (c_s_l17Address w850 x785.Base hr854).mono ?_
      rintro e_ w855 ⟨rfl, K856⟩
      have M857 := M852.call0 K856
      refine ⟨_, rfl, ?_⟩
      refine W_run 2 [(1, .pointer (some ⟨b787, 0, none⟩)), (11, .bool r854)] w855 (by kernel_rfl) ?_
      rcases gx_bif hm with ⟨hc858, hm⟩ | ⟨hc858, hm⟩
      · refine W_known 11 true (by kernel_rfl) hc858 ?_
        refine W_run 1 [(1, .pointer (some ⟨b787, 0, none⟩)), (11, .bool true), (12, .pointer (some ⟨b787, 0, none⟩))] w855 (by kernel_rfl) ?_
        refine W_val (.int .i64 x785.Base) w855 (by kernel_rfl) (E_load (e := 59) (fr := (0, 0)) _ _ false 1 b787 0 [.int .i64 x785.Base, .int .i64 x785.Size, .int .i64 x785.Kind, .int .i64 x785.Unit] (.int .i64 x785.Base) rfl (by kernel_rfl) (by kernel_rfl) (by kernel_rfl) (M857.blk 0 (b := b787) (o := .cells ⟨[.int .i64 x785.Base, .int .i64 x785.Size, .int .i64 x785.Kind, .int .i64 x785.Unit]⟩ 59 (0, 0)) (by kernel_rfl))) ?_
        refine W_run 1 [(1, .pointer (some ⟨b787, 0, none⟩)), (11, .bool true), (13, .int .i64 x785.Base), (14, .pointer (some ⟨b787, 1, none⟩))] w855 (by kernel_rfl) ?_
        refine W_val (.int .i64 x785.Size) w855 (by kernel_rfl) (E_load (e := 59) (fr := (0, 0)) _ _ false 1 b787 1 [.int .i64 x785.Base, .int .i64 x785.Size, .int .i64 x785.Kind, .int .i64 x785.Unit] (.int .i64 x785.Size) rfl (by kernel_rfl) (by kernel_rfl) (by kernel_rfl) (M857.blk 0 (b := b787) (o := .cells ⟨[.int .i64 x785.Base, .int .i64 x785.Size, .int .i64 x785.Kind, .int .i64 x785.Unit]⟩ 59 (0, 0)) (by kernel_rfl))) ?_
        obtain ⟨q859, hq859, hm⟩ := gx_bind hm
        refine W_val (.int .i64 q859) w855 (by kernel_rfl) (E_rem _ _ _ _ x785.Base x785.Size q859 rfl (by kernel_rfl) (by kernel_rfl) hq859) ?_
        refine W_run 3 [(1, .pointer (some ⟨b787, 0, none⟩)), (19, .bool (q859 == 0))] w855 (by kernel_rfl) ?_
        rcases gx_bif hm with ⟨hc860, hm⟩ | ⟨hc860, hm⟩
        · refine W_known 19 true (by kernel_rfl) hc860 ?_
          refine W_run 1 [(1, .pointer (some ⟨b787, 0, none⟩)), (19, .bool true), (20, .pointer (some ⟨b787, 2, none⟩))] w855 (by kernel_rfl) ?_
          refine W_val (.int .i64 x785.Kind) w855 (by kernel_rfl) (E_load (e := 59) (fr := (0, 0)) _ _ false 1 b787 2 [.int .i64 x785.Base, .int .i64 x785.Size, .int .i64 x785.Kind, .int .i64 x785.Unit] (.int .i64 x785.Kind) rfl (by kernel_rfl) (by kernel_rfl) (by kernel_rfl) (M857.blk 0 (b := b787) (o := .cells ⟨[.int .i64 x785.Base, .int .i64 x785.Size, .int .i64 x785.Kind, .int .i64 x785.Unit]⟩ 59 (0, 0)) (by kernel_rfl))) ?_
          obtain ⟨r861, hr861, hm⟩ := gx_bind hm
          refine W_call 76 #[.int .i64 x785.Kind, .int .i64 0, .int .i64 3] (by kernel_rfl) (by kernel_rfl) ?_
          refine (c_s_l1In w855 x785.Kind 0 3 hr861).mono ?_
          rintro e_ w862 ⟨rfl, K863⟩
          have M864 := M857.call0 K863
          refine ⟨_, rfl, ?_⟩
          refine W_run 2 [(1, .pointer (some ⟨b787, 0, none⟩)), (24, .bool r861)] w862 (by kernel_rfl) ?_
          rcases gx_bif hm with ⟨hc865, hm⟩ | ⟨hc865, hm⟩
          · refine W_known 24 true (by kernel_rfl) hc865 ?_
            refine W_run 1 [(24, .bool true), (25, .pointer (some ⟨b787, 3, none⟩))] w862 (by kernel_rfl) ?_
            refine W_val (.int .i64 x785.Unit) w862 (by kernel_rfl) (E_load (e := 59) (fr := (0, 0)) _ _ false 1 b787 3 [.int .i64 x785.Base, .int .i64 x785.Size, .int .i64 x785.Kind, .int .i64 x785.Unit] (.int .i64 x785.Unit) rfl (by kernel_rfl) (by kernel_rfl) (by kernel_rfl) (M864.blk 0 (b := b787) (o := .cells ⟨[.int .i64 x785.Base, .int .i64 x785.Size, .int .i64 x785.Kind, .int .i64 x785.Unit]⟩ 59 (0, 0)) (by kernel_rfl))) ?_
            obtain ⟨r866, hr866, hm⟩ := gx_bind hm
            refine W_call 76 #[.int .i64 x785.Unit, .int .i64 0, .int .i64 15] (by kernel_rfl) (by kernel_rfl) ?_
            refine (c_s_l1In w862 x785.Unit 0 15 hr866).mono ?_
            rintro e_ w867 ⟨rfl, K868⟩
            have M869 := M864.call0 K868
            refine ⟨_, rfl, ?_⟩
            refine W_run 2 [(2, .bool r866)] w867 (by kernel_rfl) ?_
            refine W_nil ?_
            obtain rfl := Option.some.inj hm
            exact N_meet fun a ha => ⟨M869.pick [] (by kernel_rfl), ha.sub (by kernel_rfl)⟩
          · refine W_known 24 false (by kernel_rfl) hc865 ?_
            refine W_run 5 [(2, .bool false)] w862 (by kernel_rfl) ?_
            refine W_nil ?_
            obtain rfl := Option.some.inj hm
            exact N_meet fun a ha => ⟨M864.pick [] (by kernel_rfl), ha.sub (by kernel_rfl)⟩
        · refine W_known 19 false (by kernel_rfl) hc860 ?_
          refine W_run 10 [(2, .bool false)] w855 (by kernel_rfl) ?_
          refine W_nil ?_
          obtain rfl := Option.some.inj hm
          exact N_meet fun a ha => ⟨M857.pick [] (by kernel_rfl), ha.sub (by kernel_rfl)⟩
      · refine W_known 11 false (by kernel_rfl) hc858 ?_
        refine W_run 18 [(2, .bool false)] w855 (by kernel_rfl) ?_
        refine W_nil ?_
        obtain rfl := Option.some.inj hm
        exact N_meet fun a ha => ⟨M857.pick [] (by kernel_rfl), ha.sub (by kernel_rfl)⟩
    · refine W_known 6 false (by kernel_rfl) hc853 ?_
      refine W_run 23 [(2, .bool false)] w850 (by kernel_rfl) ?_
      refine W_nil ?_
      obtain rfl := Option.some.inj hm
      exact N_meet fun a ha => ⟨M852.pick [] (by kernel_rfl), ha.sub (by kernel_rfl)⟩
  · intro a872 w870 ⟨M871, hS873⟩
    refine N_use hS873 ?_
    have hm := hm848
    refine N_then ?_
    refine G_ret ?_
    obtain rfl := Option.some.inj hm
    refine N_ret [.bool o846] (RVs_cons (RV_tmp (by kernel_rfl)) RVs_nil) ?_
    exact ⟨rfl, M871.pick [] (by kernel_rfl)⟩
theorem c_s_l17Good (w : World) (x778 : List Region) (p780 : Option Addr) (c781 : Nat) (h782 : rdS encRegion w x778 p780 c781) {r : Bool} (hm : M.s_l17Good x778 = some r) :
    Calls Try.prog 60 #[.slice p780 x778.length c781] w fun e w' => e = .returned (.bool r) ∧ Mem [] w w' [] := by
  unfold M.s_l17Good at hm
  refine C_enter Try.func60 rfl (by kernel_rfl) ?_
  have M0 := Mem.refl [] w
  refine G_seq ?_
  refine G_region ?_
  refine W_run 1 [(0, .slice p780 x778.length c781)] w (by kernel_rfl) ?_
  refine W_nil ?_
  refine N_then ?_
  refine G_seq ?_
  refine G_seq ?_
  refine G_region ?_
  refine W_run 1 [(0, .slice p780 x778.length c781), (3, .int .i64 0)] w (by kernel_rfl) ?_
  refine W_nil ?_
  refine N_then ?_
  obtain ⟨out961, hw962, hmo963⟩ := gx_bind hm
  refine G_meet (fun a w' => ∃ (o964 : Unit), out961 = .inl o964 ∧ Mem [] w w' [] ∧ Sat Try.f60.ntmps [(0, .slice p780 x778.length c781)] a) ?_ ?_
  · refine G_block ?_
    refine G_while (σ := Int) (ρ := (Unit) ⊕ (Bool)) (fun s954 a w' => Mem [] w w' [] ∧ Sat Try.f60.ntmps [(0, .slice p780 x778.length c781), (3, .int .i64 s954)] a) hw962 (fun a ha => ⟨M0.pick [] (by kernel_rfl), ha.sub (by kernel_rfl)⟩) ?_
    clear hm
    intro s954 x955 hm hout956 a957 w958 ⟨M959, hS960⟩
    refine G_use hS960 ?_
    refine G_seq ?_
    refine G_seq ?_
    refine G_region ?_
    refine W_run 4 [(0, .slice p780 x778.length c781), (3, .int .i64 s954), (7, .bool (decide (s954 < (x778.length : Int))))] w958 (by kernel_rfl) ?_
    refine W_nil ?_
    refine N_then ?_
    rcases gx_bif hm with ⟨hc965, hm⟩ | ⟨hc965, hm⟩
    · refine G_cond_t (b := (decide (s954 < (x778.length : Int)))) hc965 (by kernel_rfl) ?_
      refine G_skip ?_
      refine N_then ?_
      refine G_seq ?_
      refine G_block ?_
      refine G_seq ?_
      obtain ⟨o982, ho983, hm984⟩ := gx_bind hm
      refine G_meet (fun a w' => Mem [] w w' [] ∧ Sat Try.f60.ntmps [(0, .slice p780 x778.length c781), (3, .int .i64 s954), (40, .bool o982)] a) ?_ ?_
      · have hm := ho983
        refine G_quiet (by kernel_rfl) (by kernel_rfl) M959 ?_
        refine Z_runs [.slice p780 x778.length c781, .int .i64 s954] [(0, .slice p780 x778.length c781), (3, .int .i64 s954), (10, .slice p780 x778.length c781), (11, .int .i64 s954)] (fun w_ => by kernel_rfl) (by kernel_rfl) ?_
        obtain ⟨y985, hy985, hm⟩ := gx_bind hm
        refine Z_val (elemP p780 (s954.toNat * 4)) (by kernel_rfl) (fun w_ M_ => (E_index (E := encRegion) _ _ _ x778.length c781 .i64 s954 4 (y := y985) rfl (by kernel_rfl) (by kernel_rfl) (by kernel_rfl) (h782.mem0 M_) rfl hy985)) ?_
        refine Z_val (.agg #[.int .i64 y985.Base, .int .i64 y985.Size, .int .i64 y985.Kind, .int .i64 y985.Unit]) (by kernel_rfl) (fun w_ M_ => (E_loadE (E := encRegion) _ _ true 4 s954 0 (s954.toNat * 4) y985 (.agg #[.int .i64 y985.Base, .int .i64 y985.Size, .int .i64 y985.Kind, .int .i64 y985.Unit]) rfl (by kernel_rfl) (by kernel_rfl) (by kernel_rfl) (h782.mem0 M_) hy985 rfl)) ?_
        obtain ⟨r986, hr986, hm⟩ := gx_bind hm
        refine Z_call 85 #[.agg #[.int .i64 y985.Base, .int .i64 y985.Size, .int .i64 y985.Kind, .int .i64 y985.Unit]] (.bool r986) (by kernel_rfl) (fun w_ => by kernel_rfl) (fun w_ M_ => (c_s_l17One w_ y985 hr986).mono fun e w2_ h_ => ⟨h_.1, M_.call0 h_.2⟩) ?_
        refine Z_runs [.bool (!r986), .bool (!r986)] [(0, .slice p780 x778.length c781), (3, .int .i64 s954), (16, .bool (!r986))] (fun w_ => by kernel_rfl) (by kernel_rfl) ?_
        rcases gx_bif hm with ⟨hc990, hm⟩ | ⟨hc990, hm⟩
        · refine Z_known 16 true (by kernel_rfl) hc990 ?_
          refine Z_runs [undef, undef, undef, undef, undef, undef, undef, undef, undef, undef, undef, undef, undef, undef, undef, undef, undef, undef, undef, undef, undef, undef, undef, .bool true] [(0, .slice p780 x778.length c781), (3, .int .i64 s954), (40, .bool true)] (fun w_ => by kernel_rfl) (by kernel_rfl) ?_
          refine Z_end fun w991 M992 => ?_
          obtain rfl := Option.some.inj hm
          exact N_meet fun a ha => ⟨M992.pick [] (by kernel_rfl), ha.sub (by kernel_rfl)⟩
        · refine Z_known 16 false (by kernel_rfl) hc990 ?_
          refine Z_runs [.int .i64 s954, .bool (decide (s954 > 0)), .bool (decide (s954 > 0))] [(0, .slice p780 x778.length c781), (3, .int .i64 s954), (16, .bool false), (19, .bool (decide (s954 > 0)))] (fun w_ => by kernel_rfl) (by kernel_rfl) ?_
          rcases gx_bif hm with ⟨hc993, hm⟩ | ⟨hc993, hm⟩
          · refine Z_known 19 true (by kernel_rfl) hc993 ?_
            refine Z_runs [.slice p780 x778.length c781, .int .i64 s954, .int .i64 (w64 (s954 - 1))] [(0, .slice p780 x778.length c781), (3, .int .i64 s954), (16, .bool false), (19, .bool true), (20, .slice p780 x778.length c781), (22, .int .i64 (w64 (s954 - 1)))] (fun w_ => by kernel_rfl) (by kernel_rfl) ?_
            obtain ⟨y994, hy994, hm⟩ := gx_bind hm
            refine Z_val (elemP p780 ((w64 (s954 - 1)).toNat * 4)) (by kernel_rfl) (fun w_ M_ => (E_index (E := encRegion) _ _ _ x778.length c781 .i64 (w64 (s954 - 1)) 4 (y := y994) rfl (by kernel_rfl) (by kernel_rfl) (by kernel_rfl) (h782.mem0 M_) rfl hy994)) ?_
            refine Z_val (elemP p780 ((w64 (s954 - 1)).toNat * 4 + 0)) (by kernel_rfl) (fun w_ M_ => (E_fieldE (E := encRegion) _ _ 0 ((w64 (s954 - 1)).toNat * 4) 0 rfl (by kernel_rfl) (by kernel_rfl) (h782.mem0 M_) hy994)) ?_
            refine Z_val (.int .i64 y994.Base) (by kernel_rfl) (fun w_ M_ => (E_loadE (E := encRegion) _ _ false 1 (w64 (s954 - 1)) 0 ((w64 (s954 - 1)).toNat * 4 + 0) y994 (.int .i64 y994.Base) rfl (by kernel_rfl) (by kernel_rfl) (by kernel_rfl) (h782.mem0 M_) hy994 rfl)) ?_
            refine Z_runs [.slice p780 x778.length c781, .int .i64 s954, .int .i64 (w64 (s954 - 1))] [(0, .slice p780 x778.length c781), (3, .int .i64 s954), (16, .bool false), (19, .bool true), (25, .int .i64 y994.Base), (26, .slice p780 x778.length c781), (28, .int .i64 (w64 (s954 - 1)))] (fun w_ => by kernel_rfl) (by kernel_rfl) ?_
            obtain ⟨y995, hy995, hm⟩ := gx_bind hm
            refine Z_val (elemP p780 ((w64 (s954 - 1)).toNat * 4)) (by kernel_rfl) (fun w_ M_ => (E_index (E := encRegion) _ _ _ x778.length c781 .i64 (w64 (s954 - 1)) 4 (y := y995) rfl (by kernel_rfl) (by kernel_rfl) (by kernel_rfl) (h782.mem0 M_) rfl hy995)) ?_
            refine Z_val (elemP p780 ((w64 (s954 - 1)).toNat * 4 + 1)) (by kernel_rfl) (fun w_ M_ => (E_fieldE (E := encRegion) _ _ 1 ((w64 (s954 - 1)).toNat * 4) 1 rfl (by kernel_rfl) (by kernel_rfl) (h782.mem0 M_) hy995)) ?_
            refine Z_val (.int .i64 y995.Size) (by kernel_rfl) (fun w_ M_ => (E_loadE (E := encRegion) _ _ false 1 (w64 (s954 - 1)) 1 ((w64 (s954 - 1)).toNat * 4 + 1) y995 (.int .i64 y995.Size) rfl (by kernel_rfl) (by kernel_rfl) (by kernel_rfl) (h782.mem0 M_) hy995 rfl)) ?_
            refine Z_runs [.int .i64 (w64 (y994.Base + y995.Size)), .slice p780 x778.length c781, .int .i64 s954] [(0, .slice p780 x778.length c781), (3, .int .i64 s954), (16, .bool false), (19, .bool true), (32, .int .i64 (w64 (y994.Base + y995.Size))), (33, .slice p780 x778.length c781), (34, .int .i64 s954)] (fun w_ => by kernel_rfl) (by kernel_rfl) ?_
            obtain ⟨y996, hy996, hm⟩ := gx_bind hm
            refine Z_val (elemP p780 (s954.toNat * 4)) (by kernel_rfl) (fun w_ M_ => (E_index (E := encRegion) _ _ _ x778.length c781 .i64 s954 4 (y := y996) rfl (by kernel_rfl) (by kernel_rfl) (by kernel_rfl) (h782.mem0 M_) rfl hy996)) ?_
            refine Z_val (elemP p780 (s954.toNat * 4 + 0)) (by kernel_rfl) (fun w_ M_ => (E_fieldE (E := encRegion) _ _ 0 (s954.toNat * 4) 0 rfl (by kernel_rfl) (by kernel_rfl) (h782.mem0 M_) hy996)) ?_
            refine Z_val (.int .i64 y996.Base) (by kernel_rfl) (fun w_ M_ => (E_loadE (E := encRegion) _ _ false 1 s954 0 (s954.toNat * 4 + 0) y996 (.int .i64 y996.Base) rfl (by kernel_rfl) (by kernel_rfl) (by kernel_rfl) (h782.mem0 M_) hy996 rfl)) ?_
            refine Z_runs [.bool (decide ((w64 (y994.Base + y995.Size)) > y996.Base)), .bool (decide ((w64 (y994.Base + y995.Size)) > y996.Base)), .bool (decide ((w64 (y994.Base + y995.Size)) > y996.Base))] [(0, .slice p780 x778.length c781), (3, .int .i64 s954), (40, .bool (decide ((w64 (y994.Base + y995.Size)) > y996.Base)))] (fun w_ => by kernel_rfl) (by kernel_rfl) ?_
            refine Z_end fun w997 M998 => ?_
            obtain rfl := Option.some.inj hm
            exact N_meet fun a ha => ⟨M998.pick [] (by kernel_rfl), ha.sub (by kernel_rfl)⟩
          · refine Z_known 19 false (by kernel_rfl) hc993 ?_
            refine Z_runs [undef, undef, undef, undef, undef, undef, undef, undef, undef, undef, undef, undef, undef, undef, undef, undef, undef, undef, undef, .bool false, .bool false] [(0, .slice p780 x778.length c781), (3, .int .i64 s954), (40, .bool false)] (fun w_ => by kernel_rfl) (by kernel_rfl) ?_
            refine Z_end fun w999 M1000 => ?_
            obtain rfl := Option.some.inj hm
            exact N_meet fun a ha => ⟨M1000.pick [] (by kernel_rfl), ha.sub (by kernel_rfl)⟩
      · intro a1003 w1001 ⟨M1002, hS1004⟩
        refine N_use hS1004 ?_
        have hm := hm984
        refine N_then ?_
        rcases gx_bif hm with ⟨hc1005, hm⟩ | ⟨hc1005, hm⟩
        · refine G_cond_t (b := o982) hc1005 (by kernel_rfl) ?_
          refine G_seq ?_
          refine G_region ?_
          refine W_run 1 [(2, .bool false)] w1001 (by kernel_rfl) ?_
          refine W_nil ?_
          refine N_then ?_
          refine G_ret ?_
          refine N_block_ret ?_
          refine N_then_ret ?_
          refine N_then_ret ?_
          obtain rfl := Option.some.inj hm
          obtain rfl := hout956 _ rfl
          have hm := hmo963; simp only [Sum.elim_inr] at hm
          refine N_block_ret ?_
          refine N_meet_ret ?_
          refine N_then_ret ?_
          obtain rfl := Option.some.inj hm
          refine N_ret [.bool false] (RVs_cons (RV_tmp (by kernel_rfl)) RVs_nil) ?_
          exact ⟨rfl, M1002.pick [] (by kernel_rfl)⟩
        · refine G_cond_f (b := o982) hc1005 (by kernel_rfl) ?_
          refine G_skip ?_
          refine N_block ?_
          refine N_then ?_
          refine G_region ?_
          refine W_run 3 [(0, .slice p780 x778.length c781), (3, .int .i64 (w64 (s954 + 1)))] w1001 (by kernel_rfl) ?_
          refine W_nil ?_
          obtain rfl := Option.some.inj hm
          exact N_loop fun a ha => ⟨_, rfl, M1002.pick [] (by kernel_rfl), ha.sub (by kernel_rfl)⟩
    · refine G_cond_f (b := (decide (s954 < (x778.length : Int)))) hc965 (by kernel_rfl) ?_
      refine G_exit ?_
      refine N_then_exit ?_
      refine N_then_exit ?_
      refine N_block_eq ?_
      obtain rfl := Option.some.inj hm
      obtain rfl := hout956 _ rfl
      exact N_meet fun a ha => ⟨_, rfl, M959.pick [] (by kernel_rfl), ha.sub (by kernel_rfl)⟩
  · intro a1006 w1007 ⟨o964, hout_, M1008, hS1009⟩
    refine N_use hS1009 ?_
    subst hout_
    have hm := hmo963; simp only [Sum.elim_inl] at hm
    refine N_then ?_
    refine G_seq ?_
    refine G_region ?_
    refine W_run 4 [(2, .bool (decide ((x778.length : Int) ≤ 6)))] w1007 (by kernel_rfl) ?_
    refine W_nil ?_
    refine N_then ?_
    refine G_ret ?_
    obtain rfl := Option.some.inj hm
    refine N_ret [.bool (decide ((x778.length : Int) ≤ 6))] (RVs_cons (RV_tmp (by kernel_rfl)) RVs_nil) ?_
    exact ⟨rfl, M1008.pick [] (by kernel_rfl)⟩
theorem c_s_l17Add (w : World) (x1015 : List Region) (p1017 : Option Addr) (c1018 : Nat) (h1019 : rdS encRegion w x1015 p1017 c1018) (x1020 : Region) {r : (List Region)} (hm : M.s_l17Add x1015 x1020 = some r) :
    Calls Try.prog 72 #[.slice p1017 x1015.length c1018, .agg #[.int .i64 x1020.Base, .int .i64 x1020.Size, .int .i64 x1020.Kind, .int .i64 x1020.Unit]] w fun e w' => ∃ (p1022 : Option Addr) (c1023 : Nat) (sg1024 : Seg), e = .returned (.slice p1022 r.length c1023) ∧ ownS encRegion r p1022 c1023 sg1024 ∧ Mem [] w w' [sg1024] := by
  unfold M.s_l17Add at hm
  refine C_enter Try.func72 rfl (by kernel_rfl) ?_
  have M0 := Mem.refl [] w
  refine G_seq ?_
  refine G_region ?_
  refine W_new (fun b => .pointer (some ⟨b, 0, none⟩)) (.cells ⟨[.int .i64 x1020.Base, .int .i64 x1020.Size, .int .i64 x1020.Kind, .int .i64 x1020.Unit]⟩ 59 (0, 0)) M0 rfl (by kernel_rfl) (by kernel_rfl) ?_
  intro b1026 w1027 M1028
  refine W_run 1 [(0, .slice p1017 x1015.length c1018), (3, .pointer (some ⟨b1026, 0, none⟩))] w1027 (by kernel_rfl) ?_
  refine W_nil ?_
  refine N_then ?_
  refine G_seq ?_
  refine G_region ?_
  refine W_run 1 [(0, .slice p1017 x1015.length c1018), (3, .pointer (some ⟨b1026, 0, none⟩)), (5, .int .i64 0)] w1027 (by kernel_rfl) ?_
  refine W_nil ?_
  refine N_then ?_
  refine G_seq ?_
  obtain ⟨out1077, hw1078, hmo1079⟩ := gx_bind hm
  refine G_meet (fun a w' => Mem [] w w' [[(b1026, .cells ⟨[.int .i64 x1020.Base, .int .i64 x1020.Size, .int .i64 x1020.Kind, .int .i64 x1020.Unit]⟩ 59 (0, 0))]] ∧ Sat Try.f72.ntmps [(0, .slice p1017 x1015.length c1018), (3, .pointer (some ⟨b1026, 0, none⟩)), (5, .int .i64 out1077)] a) ?_ ?_
  · refine G_block ?_
    refine G_while (σ := Int) (ρ := Int) (fun s1070 a w' => Mem [] w w' [[(b1026, .cells ⟨[.int .i64 x1020.Base, .int .i64 x1020.Size, .int .i64 x1020.Kind, .int .i64 x1020.Unit]⟩ 59 (0, 0))]] ∧ Sat Try.f72.ntmps [(0, .slice p1017 x1015.length c1018), (3, .pointer (some ⟨b1026, 0, none⟩)), (5, .int .i64 s1070)] a) hw1078 (fun a ha => ⟨M1028.pick [0] (by kernel_rfl), ha.sub (by kernel_rfl)⟩) ?_
    clear hm
    intro s1070 x1071 hm hout1072 a1073 w1074 ⟨M1075, hS1076⟩
    refine G_use hS1076 ?_
    refine G_seq ?_
    refine G_seq ?_
    obtain ⟨o1087, ho1088, hm1089⟩ := gx_bind hm
    refine G_meet (fun a w' => Mem [] w w' [[(b1026, .cells ⟨[.int .i64 x1020.Base, .int .i64 x1020.Size, .int .i64 x1020.Kind, .int .i64 x1020.Unit]⟩ 59 (0, 0))]] ∧ Sat Try.f72.ntmps [(0, .slice p1017 x1015.length c1018), (3, .pointer (some ⟨b1026, 0, none⟩)), (5, .int .i64 s1070), (19, .bool o1087)] a) ?_ ?_
    · have hm := ho1088
      refine G_quiet (by kernel_rfl) (by kernel_rfl) M1075 ?_
      refine Z_runs [.int .i64 s1070, .slice p1017 x1015.length c1018, .int .i64 (x1015.length : Int), .bool (decide (s1070 < (x1015.length : Int))), .bool (decide (s1070 < (x1015.length : Int)))] [(0, .slice p1017 x1015.length c1018), (3, .pointer (some ⟨b1026, 0, none⟩)), (5, .int .i64 s1070), (10, .bool (decide (s1070 < (x1015.length : Int))))] (fun w_ => by kernel_rfl) (by kernel_rfl) ?_
      rcases gx_bif hm with ⟨hc1090, hm⟩ | ⟨hc1090, hm⟩
      · refine Z_known 10 true (by kernel_rfl) hc1090 ?_
        refine Z_runs [.slice p1017 x1015.length c1018, .int .i64 s1070] [(0, .slice p1017 x1015.length c1018), (3, .pointer (some ⟨b1026, 0, none⟩)), (5, .int .i64 s1070), (10, .bool true), (11, .slice p1017 x1015.length c1018), (12, .int .i64 s1070)] (fun w_ => by kernel_rfl) (by kernel_rfl) ?_
        obtain ⟨y1091, hy1091, hm⟩ := gx_bind hm
        refine Z_val (elemP p1017 (s1070.toNat * 4)) (by kernel_rfl) (fun w_ M_ => (E_index (E := encRegion) _ _ _ x1015.length c1018 .i64 s1070 4 (y := y1091) rfl (by kernel_rfl) (by kernel_rfl) (by kernel_rfl) (h1019.mem0 M_) rfl hy1091)) ?_
        refine Z_val (elemP p1017 (s1070.toNat * 4 + 0)) (by kernel_rfl) (fun w_ M_ => (E_fieldE (E := encRegion) _ _ 0 (s1070.toNat * 4) 0 rfl (by kernel_rfl) (by kernel_rfl) (h1019.mem0 M_) hy1091)) ?_
        refine Z_val (.int .i64 y1091.Base) (by kernel_rfl) (fun w_ M_ => (E_loadE (E := encRegion) _ _ false 1 s1070 0 (s1070.toNat * 4 + 0) y1091 (.int .i64 y1091.Base) rfl (by kernel_rfl) (by kernel_rfl) (by kernel_rfl) (h1019.mem0 M_) hy1091 rfl)) ?_
        refine Z_runs [.pointer (some ⟨b1026, 0, none⟩)] [(0, .slice p1017 x1015.length c1018), (3, .pointer (some ⟨b1026, 0, none⟩)), (5, .int .i64 s1070), (10, .bool true), (15, .int .i64 y1091.Base), (16, .pointer (some ⟨b1026, 0, none⟩))] (fun w_ => by kernel_rfl) (by kernel_rfl) ?_
        refine Z_val (.int .i64 x1020.Base) (by kernel_rfl) (fun w_ M_ => (E_load (e := 59) (fr := (0, 0)) _ _ false 1 b1026 0 [.int .i64 x1020.Base, .int .i64 x1020.Size, .int .i64 x1020.Kind, .int .i64 x1020.Unit] (.int .i64 x1020.Base) rfl (by kernel_rfl) (by kernel_rfl) (by kernel_rfl) (M_.blk 0 (b := b1026) (o := .cells ⟨[.int .i64 x1020.Base, .int .i64 x1020.Size, .int .i64 x1020.Kind, .int .i64 x1020.Unit]⟩ 59 (0, 0)) (by kernel_rfl)))) ?_
        refine Z_runs [.bool (decide (y1091.Base < x1020.Base)), .bool (decide (y1091.Base < x1020.Base))] [(0, .slice p1017 x1015.length c1018), (3, .pointer (some ⟨b1026, 0, none⟩)), (5, .int .i64 s1070), (19, .bool (decide (y1091.Base < x1020.Base)))] (fun w_ => by kernel_rfl) (by kernel_rfl) ?_
        refine Z_end fun w1092 M1093 => ?_
        obtain rfl := Option.some.inj hm
        exact N_meet fun a ha => ⟨M1093.pick [0] (by kernel_rfl), ha.sub (by kernel_rfl)⟩
      · refine Z_known 10 false (by kernel_rfl) hc1090 ?_
        refine Z_runs [undef, undef, undef, undef, undef, undef, undef, undef, .bool false] [(0, .slice p1017 x1015.length c1018), (3, .pointer (some ⟨b1026, 0, none⟩)), (5, .int .i64 s1070), (19, .bool false)] (fun w_ => by kernel_rfl) (by kernel_rfl) ?_
        refine Z_end fun w1094 M1095 => ?_
        obtain rfl := Option.some.inj hm
        exact N_meet fun a ha => ⟨M1095.pick [0] (by kernel_rfl), ha.sub (by kernel_rfl)⟩
    · intro a1098 w1096 ⟨M1097, hS1099⟩
      refine N_use hS1099 ?_
      have hm := hm1089
      refine N_then ?_
      rcases gx_bif hm with ⟨hc1100, hm⟩ | ⟨hc1100, hm⟩
      · refine G_cond_t (b := o1087) hc1100 (by kernel_rfl) ?_
        refine G_skip ?_
        refine N_then ?_
        refine G_block ?_
        refine G_region ?_
        refine W_run 3 [(0, .slice p1017 x1015.length c1018), (3, .pointer (some ⟨b1026, 0, none⟩)), (5, .int .i64 (w64 (s1070 + 1)))] w1096 (by kernel_rfl) ?_
        refine W_nil ?_
        refine N_block ?_
        obtain rfl := Option.some.inj hm
        exact N_loop fun a ha => ⟨_, rfl, M1097.pick [0] (by kernel_rfl), ha.sub (by kernel_rfl)⟩
      · refine G_cond_f (b := o1087) hc1100 (by kernel_rfl) ?_
        refine G_exit ?_
        refine N_then_exit ?_
        refine N_then_exit ?_
        refine N_block_eq ?_
        obtain rfl := Option.some.inj hm
        obtain rfl := hout1072 _ rfl
        exact N_meet fun a ha => ⟨M1097.pick [0] (by kernel_rfl), ha.sub (by kernel_rfl)⟩
  · intro a1101 w1102 ⟨M1103, hS1104⟩
    refine N_use hS1104 ?_
    have hm := hmo1079
    refine N_then ?_
    refine G_seq ?_
    obtain ⟨ys1112, hys1112, hm⟩ := gx_bind hm
    obtain ⟨ap1114, hap1114, hm⟩ := gx_bind hm
    obtain ⟨ap1125, hap1125, hm⟩ := gx_bind hm
    obtain ⟨ys1131, hys1131, hm⟩ := gx_bind hm
    refine G_sub [(0, .slice p1017 x1015.length c1018), (3, .pointer (some ⟨b1026, 0, none⟩)), (5, .int .i64 out1077)] (by kernel_rfl) ?_
    refine G_dagL 11 [[], [], [], [1, 2], [0, 3], [], [5], [4, 6], [], [], [8, 9]] [[], [], [], [], [0], [], [], [4], [], [], []] [[], [], [], [], [], [], [], [6], [], [], []] [[], [], [], [], [], [], [], [], [], [], []] [[], [], [], [], [], [], [], [], [], [], []] [[], [], [], [], [], [], [], [], [], [], []] (fun _ => []) (fun i => ([fun f v s => ∃ (p1108 : Option Addr) (c1109 : Nat), v = (.slice p1108 ([] : List Region).length c1109 : Value) ∧ ownS encRegion ([] : List Region) p1108 c1109 s, fun f v s => v = (.slice p1017 x1015.length c1018 : Value) ∧ s = [], fun f v s => v = (.int .i64 out1077 : Value) ∧ s = [], fun f v s => v = (.slice (subP p1017 (0 : Int).toNat c1018 4) ys1112.length (c1018 - (0 : Int).toNat) : Value) ∧ s = [], fun f v s => ∃ (p1116 : Option Addr) (c1117 : Nat), v = (.slice p1116 ap1114.length c1117 : Value) ∧ ownS encRegion ap1114 p1116 c1117 s, fun f v s => v = (.agg #[.int .i64 x1020.Base, .int .i64 x1020.Size, .int .i64 x1020.Kind, .int .i64 x1020.Unit] : Value) ∧ s = [], fun f v s => ∃ (p1121 : Option Addr) (c1122 : Nat), v = (.slice p1121 [x1020].length c1122 : Value) ∧ ownS encRegion [x1020] p1121 c1122 s, fun f v s => ∃ (p1127 : Option Addr) (c1128 : Nat), v = (.slice p1127 ap1125.length c1128 : Value) ∧ ownS encRegion ap1125 p1127 c1128 s, fun f v s => v = (.slice p1017 x1015.length c1018 : Value) ∧ s = [], fun f v s => v = (.int .i64 out1077 : Value) ∧ s = [], fun f v s => v = (.slice (subP p1017 out1077.toNat c1018 4) ys1131.length (c1018 - out1077.toNat) : Value) ∧ s = []] : List ((Nat → Value) → Value → Seg → Prop)).getD i (fun _ _ _ => False)) (fun j f v => ∃ s, (fun i => ([fun f v s => ∃ (p1108 : Option Addr) (c1109 : Nat), v = (.slice p1108 ([] : List Region).length c1109 : Value) ∧ ownS encRegion ([] : List Region) p1108 c1109 s, fun f v s => v = (.slice p1017 x1015.length c1018 : Value) ∧ s = [], fun f v s => v = (.int .i64 out1077 : Value) ∧ s = [], fun f v s => v = (.slice (subP p1017 (0 : Int).toNat c1018 4) ys1112.length (c1018 - (0 : Int).toNat) : Value) ∧ s = [], fun f v s => ∃ (p1116 : Option Addr) (c1117 : Nat), v = (.slice p1116 ap1114.length c1117 : Value) ∧ ownS encRegion ap1114 p1116 c1117 s, fun f v s => v = (.agg #[.int .i64 x1020.Base, .int .i64 x1020.Size, .int .i64 x1020.Kind, .int .i64 x1020.Unit] : Value) ∧ s = [], fun f v s => ∃ (p1121 : Option Addr) (c1122 : Nat), v = (.slice p1121 [x1020].length c1122 : Value) ∧ ownS encRegion [x1020] p1121 c1122 s, fun f v s => ∃ (p1127 : Option Addr) (c1128 : Nat), v = (.slice p1127 ap1125.length c1128 : Value) ∧ ownS encRegion ap1125 p1127 c1128 s, fun f v s => v = (.slice p1017 x1015.length c1018 : Value) ∧ s = [], fun f v s => v = (.int .i64 out1077 : Value) ∧ s = [], fun f v s => v = (.slice (subP p1017 out1077.toNat c1018 4) ys1131.length (c1018 - out1077.toNat) : Value) ∧ s = []] : List ((Nat → Value) → Value → Seg → Prop)).getD i (fun _ _ _ => False)) j f v s) [] [6, 7, 10] [6, 7] (fun _ _ _ s h => ⟨s, h⟩) (by kernel_rfl) (by kernel_rfl) (M1103.preNil 11) (by kernel_rfl) (by kernel_rfl) (by kernel_rfl) (by kernel_rfl) (allOb_cons ?_ (allOb_cons ?_ (allOb_cons ?_ (allOb_cons ?_ (allOb_cons ?_ (allOb_cons ?_ (allOb_cons ?_ (allOb_cons ?_ (allOb_cons ?_ (allOb_cons ?_ (allOb_cons ?_ allOb_nil))))))))))) ?_
    · intro g1105 f1106
      intro R w1133 M1134
      refine W_lit (E := encRegion) ([] : List Region) 0 [] 59 M1134 (by kernel_rfl) (by kernel_rfl) (by kernel_rfl) (by kernel_rfl) (by kernel_rfl) ?_
      intro p1108 c1109 sg1110 w1135 ho1111 M1136
      exact W_nil (ob_end (.slice p1108 ([] : List Region).length c1109) sg1110 rfl (by kernel_rfl) ⟨p1108, c1109, rfl, ho1111⟩ (Mem.mid M1136))
    · intro g1105 f1106
      intro R w1137 M1138
      refine W_run 1 [(23, .slice p1017 x1015.length c1018)] w1137 (by kernel_rfl) ?_
      exact W_nil (ob_end (.slice p1017 x1015.length c1018) [] rfl (by kernel_rfl) ⟨by kernel_rfl, rfl⟩ M1138)
    · intro g1105 f1106
      intro R w1141 M1142
      refine W_run 1 [(24, .int .i64 out1077)] w1141 (by kernel_rfl) ?_
      exact W_nil (ob_end (.int .i64 out1077) [] rfl (by kernel_rfl) ⟨by kernel_rfl, rfl⟩ M1142)
    · intro g1105 f1106
      intro v1_ hb1_
      obtain ⟨rfl, _⟩ := hb1_
      intro v2_ hb2_
      obtain ⟨rfl, _⟩ := hb2_
      intro R w1145 M1146
      refine W_val (.slice (subP p1017 (0 : Int).toNat c1018 4) ys1112.length (c1018 - (0 : Int).toNat)) w1145 (by kernel_rfl) (E_slice (E := encRegion) _ _ _ _ x1015.length 0 out1077 rfl (by kernel_rfl) (Or.inl ⟨rfl, rfl⟩) (Or.inr ⟨_, rfl, by kernel_rfl⟩) (by kernel_rfl) (h1019.mem0 M1146) rfl hys1112) ?_
      exact W_nil (ob_end (.slice (subP p1017 (0 : Int).toNat c1018 4) ys1112.length (c1018 - (0 : Int).toNat)) [] rfl (by kernel_rfl) ⟨by kernel_rfl, rfl⟩ M1146)
    · intro g1105 f1106
      intro v0_ hb0_
      obtain ⟨p1108, c1109, rfl, ho1111⟩ := hb0_
      intro v3_ hb3_
      obtain ⟨rfl, _⟩ := hb3_
      intro R w1149 M1150
      refine W_append (E := encRegion) _ _ _ 32 [.int .i64 0, .int .i64 0, .int .i64 0, .int .i64 0] 2 (c1018 - (0 : Int).toNat) M1150 ho1111 (by kernel_rfl) (by kernel_rfl) (by kernel_rfl) rfl (by kernel_rfl) (by kernel_rfl) (by kernel_rfl) (by kernel_rfl) (by kernel_rfl) (by kernel_rfl) ((h1019.mem0 M1150).sliceM hys1112) hap1114 ?_
      intro p1116 c1117 sg1118 w1151 ho1119 M1152
      exact W_nil (ob_end (.slice p1116 ap1114.length c1117) sg1118 rfl (by kernel_rfl) ⟨p1116, c1117, rfl, ho1119⟩ (Mem.takeOver M1152))
    · intro g1105 f1106
      intro R w1153 M1154
      refine W_val (.agg #[.int .i64 x1020.Base, .int .i64 x1020.Size, .int .i64 x1020.Kind, .int .i64 x1020.Unit]) w1153 (by kernel_rfl) (E_load (e := 59) (fr := (0, 0)) _ _ true 4 b1026 0 [.int .i64 x1020.Base, .int .i64 x1020.Size, .int .i64 x1020.Kind, .int .i64 x1020.Unit] (.agg #[.int .i64 x1020.Base, .int .i64 x1020.Size, .int .i64 x1020.Kind, .int .i64 x1020.Unit]) rfl (by kernel_rfl) (by kernel_rfl) (by kernel_rfl) (M1154.blk 0 (b := b1026) (o := .cells ⟨[.int .i64 x1020.Base, .int .i64 x1020.Size, .int .i64 x1020.Kind, .int .i64 x1020.Unit]⟩ 59 (0, 0)) (by kernel_rfl))) ?_
      exact W_nil (ob_end (.agg #[.int .i64 x1020.Base, .int .i64 x1020.Size, .int .i64 x1020.Kind, .int .i64 x1020.Unit]) [] rfl (by kernel_rfl) ⟨by kernel_rfl, rfl⟩ M1154)
    · intro g1105 f1106
      intro v5_ hb5_
      obtain ⟨rfl, _⟩ := hb5_
      intro R w1157 M1158
      refine W_lit (E := encRegion) [x1020] 1 [.int .i64 x1020.Base, .int .i64 x1020.Size, .int .i64 x1020.Kind, .int .i64 x1020.Unit] 59 M1158 (by kernel_rfl) (by kernel_rfl) (by kernel_rfl) (by kernel_rfl) (by kernel_rfl) ?_
      intro p1121 c1122 sg1123 w1159 ho1124 M1160
      exact W_nil (ob_end (.slice p1121 [x1020].length c1122) sg1123 rfl (by kernel_rfl) ⟨p1121, c1122, rfl, ho1124⟩ (Mem.mid M1160))
    · intro g1105 f1106
      intro v4_ hb4_
      obtain ⟨p1116, c1117, rfl, ho1119⟩ := hb4_
      intro v6_ hb6_
      obtain ⟨p1121, c1122, rfl, ho1124⟩ := hb6_
      intro R w1161 M1162
      refine W_append (E := encRegion) _ _ _ 32 [.int .i64 0, .int .i64 0, .int .i64 0, .int .i64 0] 2 c1122 M1162 ho1119 (by kernel_rfl) (by kernel_rfl) (by kernel_rfl) rfl (by kernel_rfl) (by kernel_rfl) (by kernel_rfl) (by kernel_rfl) (by kernel_rfl) (by kernel_rfl) (ho1124.rd M1162 3 (by kernel_rfl)) hap1125 ?_
      intro p1127 c1128 sg1129 w1163 ho1130 M1164
      exact W_nil (ob_end (.slice p1127 ap1125.length c1128) sg1129 rfl (by kernel_rfl) ⟨p1127, c1128, rfl, ho1130⟩ (Mem.takeOver M1164))
    · intro g1105 f1106
      intro R w1165 M1166
      refine W_run 1 [(30, .slice p1017 x1015.length c1018)] w1165 (by kernel_rfl) ?_
      exact W_nil (ob_end (.slice p1017 x1015.length c1018) [] rfl (by kernel_rfl) ⟨by kernel_rfl, rfl⟩ M1166)
    · intro g1105 f1106
      intro R w1169 M1170
      refine W_run 1 [(31, .int .i64 out1077)] w1169 (by kernel_rfl) ?_
      exact W_nil (ob_end (.int .i64 out1077) [] rfl (by kernel_rfl) ⟨by kernel_rfl, rfl⟩ M1170)
    · intro g1105 f1106
      intro v8_ hb8_
      obtain ⟨rfl, _⟩ := hb8_
      intro v9_ hb9_
      obtain ⟨rfl, _⟩ := hb9_
      intro R w1173 M1174
      refine W_val (.slice (subP p1017 out1077.toNat c1018 4) ys1131.length (c1018 - out1077.toNat)) w1173 (by kernel_rfl) (E_slice (E := encRegion) _ _ _ _ x1015.length out1077 (x1015.length : Int) rfl (by kernel_rfl) (Or.inr ⟨_, rfl, by kernel_rfl⟩) (Or.inl ⟨rfl, rfl⟩) (by kernel_rfl) (h1019.mem0 M1174) rfl hys1131) ?_
      exact W_nil (ob_end (.slice (subP p1017 out1077.toNat c1018 4) ys1131.length (c1018 - out1077.toNat)) [] rfl (by kernel_rfl) ⟨by kernel_rfl, rfl⟩ M1174)
    · intro g1105 f1106
      intro v6_ hb6_
      obtain ⟨p1121, c1122, rfl, ho1124⟩ := hb6_
      intro v7_ hb7_
      obtain ⟨p1127, c1128, rfl, ho1130⟩ := hb7_
      intro v10_ hb10_
      obtain ⟨rfl, _⟩ := hb10_
      intro w1177 M1178
      have M1179 : Mem [] w w1177 [[(b1026, .cells ⟨[.int .i64 x1020.Base, .int .i64 x1020.Size, .int .i64 x1020.Kind, .int .i64 x1020.Unit]⟩ 59 (0, 0))], (g1105 6), (g1105 7)] := M1178
      obtain ⟨ap1180, hap1180, hm⟩ := gx_bind hm
      refine W_append (E := encRegion) _ _ _ 32 [.int .i64 0, .int .i64 0, .int .i64 0, .int .i64 0] 2 (c1018 - out1077.toNat) M1179 ho1130 (by kernel_rfl) (by kernel_rfl) (by kernel_rfl) rfl (by kernel_rfl) (by kernel_rfl) (by kernel_rfl) (by kernel_rfl) (by kernel_rfl) (by kernel_rfl) ((h1019.mem0 M1179).sliceM hys1131) hap1180 ?_
      intro p1181 c1182 sg1183 w1184 ho1185 M1186
      refine W_run 1 [(4, .slice p1181 ap1180.length c1182)] w1184 (by kernel_rfl) ?_
      refine W_nil ?_
      refine N_then ?_
      refine G_ret ?_
      obtain rfl := Option.some.inj hm
      refine N_ret [.slice p1181 ap1180.length c1182] (RVs_cons (RV_tmp (by kernel_rfl)) RVs_nil) ?_
      exact ⟨p1181, c1182, sg1183, rfl, ho1185, M1186.pick [2] (by kernel_rfl)⟩
theorem c_s_AddRegion (w : World) (x763 : List Region) (p765 : Option Addr) (c766 : Nat) (h767 : rdS encRegion w x763 p765 c766) (x768 : Region) {r : (List Region) × Bool} (hm : M.s_AddRegion x763 x768 = some r) :
    Calls Try.prog 34 #[.slice p765 x763.length c766, .agg #[.int .i64 x768.Base, .int .i64 x768.Size, .int .i64 x768.Kind, .int .i64 x768.Unit]] w fun e w' => ∃ (p770 : Option Addr) (c771 : Nat) (sg772 : Seg), e = .returned (.tuple #[.slice p770 r.1.length c771, .bool r.2]) ∧ ownS encRegion r.1 p770 c771 sg772 ∧ Mem [] w w' [sg772] := by
  unfold M.s_AddRegion at hm
  refine C_enter Try.func34 rfl (by kernel_rfl) ?_
  have M0 := Mem.refl [] w
  refine G_seq ?_
  refine G_region ?_
  refine W_new (fun b => .pointer (some ⟨b, 0, none⟩)) (.cells ⟨[.int .i64 x768.Base, .int .i64 x768.Size, .int .i64 x768.Kind, .int .i64 x768.Unit]⟩ 59 (0, 0)) M0 rfl (by kernel_rfl) (by kernel_rfl) ?_
  intro b774 w775 M776
  refine W_run 2 [(0, .slice p765 x763.length c766), (3, .pointer (some ⟨b774, 0, none⟩))] w775 (by kernel_rfl) ?_
  refine W_nil ?_
  refine N_then ?_
  refine G_seq ?_
  refine G_seq ?_
  obtain ⟨o1201, ho1202, hm1203⟩ := gx_bind hm
  refine G_meet (fun a w' => Mem [] w w' [[(b774, .cells ⟨[.int .i64 x768.Base, .int .i64 x768.Size, .int .i64 x768.Kind, .int .i64 x768.Unit]⟩ 59 (0, 0))]] ∧ Sat Try.f34.ntmps [(0, .slice p765 x763.length c766), (3, .pointer (some ⟨b774, 0, none⟩)), (15, .bool o1201)] a) ?_ ?_
  · have hm := ho1202
    refine G_region ?_
    refine W_run 1 [(0, .slice p765 x763.length c766), (3, .pointer (some ⟨b774, 0, none⟩)), (6, .slice p765 x763.length c766)] w775 (by kernel_rfl) ?_
    obtain ⟨r1204, hr1204, hm⟩ := gx_bind hm
    refine W_call 60 #[.slice p765 x763.length c766] (by kernel_rfl) (by kernel_rfl) ?_
    refine (c_s_l17Good w775 x763 p765 c766 (h767.mem0 M776) hr1204).mono ?_
    rintro e_ w1205 ⟨rfl, K1206⟩
    have M1207 := M776.call0 K1206
    refine ⟨_, rfl, ?_⟩
    refine W_run 2 [(0, .slice p765 x763.length c766), (3, .pointer (some ⟨b774, 0, none⟩)), (9, .bool (!r1204))] w1205 (by kernel_rfl) ?_
    rcases gx_bif hm with ⟨hc1208, hm⟩ | ⟨hc1208, hm⟩
    · refine W_known 9 true (by kernel_rfl) hc1208 ?_
      refine W_run 6 [(0, .slice p765 x763.length c766), (3, .pointer (some ⟨b774, 0, none⟩)), (15, .bool true)] w1205 (by kernel_rfl) ?_
      refine W_nil ?_
      obtain rfl := Option.some.inj hm
      exact N_meet fun a ha => ⟨M1207.pick [0] (by kernel_rfl), ha.sub (by kernel_rfl)⟩
    · refine W_known 9 false (by kernel_rfl) hc1208 ?_
      refine W_run 1 [(0, .slice p765 x763.length c766), (3, .pointer (some ⟨b774, 0, none⟩)), (9, .bool false), (10, .slice p765 x763.length c766)] w1205 (by kernel_rfl) ?_
      refine W_val (.agg #[.int .i64 x768.Base, .int .i64 x768.Size, .int .i64 x768.Kind, .int .i64 x768.Unit]) w1205 (by kernel_rfl) (E_load (e := 59) (fr := (0, 0)) _ _ true 4 b774 0 [.int .i64 x768.Base, .int .i64 x768.Size, .int .i64 x768.Kind, .int .i64 x768.Unit] (.agg #[.int .i64 x768.Base, .int .i64 x768.Size, .int .i64 x768.Kind, .int .i64 x768.Unit]) rfl (by kernel_rfl) (by kernel_rfl) (by kernel_rfl) (M1207.blk 0 (b := b774) (o := .cells ⟨[.int .i64 x768.Base, .int .i64 x768.Size, .int .i64 x768.Kind, .int .i64 x768.Unit]⟩ 59 (0, 0)) (by kernel_rfl))) ?_
      obtain ⟨r1209, hr1209, hm⟩ := gx_bind hm
      refine W_call 72 #[.slice p765 x763.length c766, .agg #[.int .i64 x768.Base, .int .i64 x768.Size, .int .i64 x768.Kind, .int .i64 x768.Unit]] (by kernel_rfl) (by kernel_rfl) ?_
      refine (c_s_l17Add w1205 x763 p765 c766 (h767.mem0 M1207) x768 hr1209).mono ?_
      rintro e_ w1215 ⟨p1211, c1212, sg1213, rfl, ho1214, K1216⟩
      have M1217 := M1207.call K1216
      refine ⟨_, rfl, ?_⟩
      obtain ⟨r1218, hr1218, hm⟩ := gx_bind hm
      refine W_call 60 #[.slice p1211 r1209.length c1212] (by kernel_rfl) (by kernel_rfl) ?_
      refine (c_s_l17Good w1215 r1209 p1211 c1212 (ho1214.rd M1217 1 (by kernel_rfl)) hr1218).mono ?_
      rintro e_ w1219 ⟨rfl, K1220⟩
      have M1221 := M1217.call0 K1220
      refine ⟨_, rfl, ?_⟩
      refine W_run 2 [(0, .slice p765 x763.length c766), (3, .pointer (some ⟨b774, 0, none⟩)), (15, .bool (!r1218))] w1219 (by kernel_rfl) ?_
      refine W_nil ?_
      obtain rfl := Option.some.inj hm
      exact N_meet fun a ha => ⟨M1221.pick [0] (by kernel_rfl), ha.sub (by kernel_rfl)⟩
  · intro a1224 w1222 ⟨M1223, hS1225⟩
    refine N_use hS1225 ?_
    have hm := hm1203
    refine N_then ?_
    rcases gx_bif hm with ⟨hc1226, hm⟩ | ⟨hc1226, hm⟩
    · refine G_cond_t (b := o1201) hc1226 (by kernel_rfl) ?_
      refine G_seq ?_
      refine G_region ?_
      refine W_lit (E := encRegion) ([] : List Region) 0 [] 59 M1223 (by kernel_rfl) (by kernel_rfl) (by kernel_rfl) (by kernel_rfl) (by kernel_rfl) ?_
      intro p1227 c1228 sg1229 w1230 ho1231 M1232
      refine W_run 2 [(4, .slice p1227 ([] : List Region).length c1228), (5, .bool false)] w1230 (by kernel_rfl) ?_
      refine W_nil ?_
      refine N_then ?_
      refine G_ret ?_
      refine N_then_ret ?_
      obtain rfl := Option.some.inj hm
      refine N_ret [.slice p1227 ([] : List Region).length c1228, .bool false] (RVs_cons (RV_tmp (by kernel_rfl)) (RVs_cons (RV_tmp (by kernel_rfl)) RVs_nil)) ?_
      exact ⟨p1227, c1228, sg1229, rfl, ho1231, M1232.pick [1] (by kernel_rfl)⟩
    · refine G_cond_f (b := o1201) hc1226 (by kernel_rfl) ?_
      refine G_skip ?_
      refine N_then ?_
      refine G_seq ?_
      refine G_region ?_
      refine W_run 1 [(3, .pointer (some ⟨b774, 0, none⟩)), (17, .slice p765 x763.length c766)] w1222 (by kernel_rfl) ?_
      refine W_val (.agg #[.int .i64 x768.Base, .int .i64 x768.Size, .int .i64 x768.Kind, .int .i64 x768.Unit]) w1222 (by kernel_rfl) (E_load (e := 59) (fr := (0, 0)) _ _ true 4 b774 0 [.int .i64 x768.Base, .int .i64 x768.Size, .int .i64 x768.Kind, .int .i64 x768.Unit] (.agg #[.int .i64 x768.Base, .int .i64 x768.Size, .int .i64 x768.Kind, .int .i64 x768.Unit]) rfl (by kernel_rfl) (by kernel_rfl) (by kernel_rfl) (M1223.blk 0 (b := b774) (o := .cells ⟨[.int .i64 x768.Base, .int .i64 x768.Size, .int .i64 x768.Kind, .int .i64 x768.Unit]⟩ 59 (0, 0)) (by kernel_rfl))) ?_
      obtain ⟨r1234, hr1234, hm⟩ := gx_bind hm
      refine W_call 72 #[.slice p765 x763.length c766, .agg #[.int .i64 x768.Base, .int .i64 x768.Size, .int .i64 x768.Kind, .int .i64 x768.Unit]] (by kernel_rfl) (by kernel_rfl) ?_
      refine (c_s_l17Add w1222 x763 p765 c766 (h767.mem0 M1223) x768 hr1234).mono ?_
      rintro e_ w1240 ⟨p1236, c1237, sg1238, rfl, ho1239, K1241⟩
      have M1242 := M1223.call K1241
      refine ⟨_, rfl, ?_⟩
      refine W_run 2 [(4, .slice p1236 r1234.length c1237), (5, .bool true)] w1240 (by kernel_rfl) ?_
      refine W_nil ?_
      refine N_then ?_
      refine G_ret ?_
      obtain rfl := Option.some.inj hm
      refine N_ret [.slice p1236 r1234.length c1237, .bool true] (RVs_cons (RV_tmp (by kernel_rfl)) (RVs_cons (RV_tmp (by kernel_rfl)) RVs_nil)) ?_
      exact ⟨p1236, c1237, sg1238, rfl, ho1239, M1242.pick [1] (by kernel_rfl)⟩
theorem c_s_l1Cur_regions (w : World) (x31 : l1Cur) (p35 : Option Addr) (c36 : Nat) (h37 : rdS encU8 w x31.code p35 c36) (b33 : Nat) (hA : ∀ q ∈ List.flatten [[(b33, .cells ⟨[.slice p35 x31.code.length c36, .int .i64 x31.at_, .int .u64 x31.seed]⟩ 89 (0, 0))]], w.heap[q.1]? = some q.2) (hN : (idsOf [[(b33, .cells ⟨[.slice p35 x31.code.length c36, .int .i64 x31.at_, .int .u64 x31.seed]⟩ 89 (0, 0))]]).Nodup) (hap38 : apartX (idsOf [[(b33, .cells ⟨[.slice p35 x31.code.length c36, .int .i64 x31.at_, .int .u64 x31.seed]⟩ 89 (0, 0))]]) x31.code p35) {r : (List Region) × Int × Int} (hm : M.s_l1Cur_regions x31 = some r) :
    Calls Try.prog 77 #[.pointer (some ⟨b33, 0, none⟩)] w fun e w' => ∃ (p40 : Option Addr) (c41 : Nat) (sg42 : Seg), e = .returned (.slice p40 r.1.length c41) ∧ ownS encRegion r.1 p40 c41 sg42 ∧ Mem (idsOf [[(b33, .cells ⟨[.slice p35 x31.code.length c36, .int .i64 x31.at_, .int .u64 x31.seed]⟩ 89 (0, 0))]]) w w' [[(b33, .cells ⟨[.slice p35 x31.code.length c36, .int .i64 r.2.1, .int .u64 r.2.2]⟩ 89 (0, 0))], sg42] := by
  unfold M.s_l1Cur_regions at hm
  refine C_enter Try.func77 rfl (by kernel_rfl) ?_
  have M0 := Mem.start' w [[(b33, .cells ⟨[.slice p35 x31.code.length c36, .int .i64 x31.at_, .int .u64 x31.seed]⟩ 89 (0, 0))]] hA hN
  refine G_seq ?_
  refine G_region ?_
  refine W_run 1 [(0, .pointer (some ⟨b33, 0, none⟩))] w (by kernel_rfl) ?_
  refine W_nil ?_
  refine N_then ?_
  refine G_seq ?_
  refine G_region ?_
  refine W_lit (E := encRegion) ([] : List Region) 0 [] 59 M0 (by kernel_rfl) (by kernel_rfl) (by kernel_rfl) (by kernel_rfl) (by kernel_rfl) ?_
  intro p44 c45 sg46 w47 ho48 M49
  refine W_run 1 [(0, .pointer (some ⟨b33, 0, none⟩)), (3, .slice p44 ([] : List Region).length c45)] w47 (by kernel_rfl) ?_
  refine W_nil ?_
  refine N_then ?_
  refine G_seq ?_
  refine G_seq ?_
  refine G_region ?_
  refine W_run 1 [(0, .pointer (some ⟨b33, 0, none⟩)), (3, .slice p44 ([] : List Region).length c45), (9, .pointer (some ⟨b33, 0, none⟩))] w47 (by kernel_rfl) ?_
  obtain ⟨r115, hr115, hm⟩ := gx_bind hm
  refine W_call 81 #[.pointer (some ⟨b33, 0, none⟩), .int .i64 7] (by kernel_rfl) (by kernel_rfl) ?_
  refine (c_s_l1Cur_pick w47 x31 p35 c36 (h37.memX hap38 M49) b33 7 (M49.hasPick [0]) (M49.nodupPick [0] (by kernel_rfl)) (apartX.old h37 hap38 M49 [0]) hr115).mono ?_
  rintro e_ w116 ⟨rfl, K117⟩
  have M118 := M49.callF' [0] [1] (by kernel_rfl) K117
  refine ⟨_, rfl, ?_⟩
  refine W_run 1 [(0, .pointer (some ⟨b33, 0, none⟩)), (3, .slice p44 ([] : List Region).length c45), (4, .int .i64 r115.1)] w116 (by kernel_rfl) ?_
  refine W_nil ?_
  refine N_then ?_
  obtain ⟨out1306, hw1307, hmo1308⟩ := gx_bind hm
  refine G_meet (fun a w' => ∃ (p1315 : Option Addr), ∃ (c1316 : Nat), ∃ (sg1317 : Seg), ownS encRegion out1306.1 p1315 c1316 sg1317 ∧ Mem (idsOf [[(b33, .cells ⟨[.slice p35 x31.code.length c36, .int .i64 x31.at_, .int .u64 x31.seed]⟩ 89 (0, 0))]]) w w' [[(b33, .cells ⟨[.slice p35 x31.code.length c36, .int .i64 out1306.2.1, .int .u64 out1306.2.2]⟩ 89 (0, 0))], sg1317] ∧ Sat Try.f77.ntmps [(0, .pointer (some ⟨b33, 0, none⟩)), (3, .slice p1315 out1306.1.length c1316)] a) ?_ ?_
  · refine G_block ?_
    refine G_while (σ := List Region × Int × Int × Int) (ρ := List Region × Int × Int) (fun s1299 a w' => ∃ (p1309 : Option Addr), ∃ (c1310 : Nat), ∃ (sg1311 : Seg), ownS encRegion s1299.1 p1309 c1310 sg1311 ∧ Mem (idsOf [[(b33, .cells ⟨[.slice p35 x31.code.length c36, .int .i64 x31.at_, .int .u64 x31.seed]⟩ 89 (0, 0))]]) w w' [[(b33, .cells ⟨[.slice p35 x31.code.length c36, .int .i64 s1299.2.2.1, .int .u64 s1299.2.2.2]⟩ 89 (0, 0))], sg1311] ∧ Sat Try.f77.ntmps [(0, .pointer (some ⟨b33, 0, none⟩)), (3, .slice p1309 s1299.1.length c1310), (4, .int .i64 s1299.2.1)] a) hw1307 (fun a ha => ⟨p44, c45, sg46, ho48, M118.pick [1, 0] (by kernel_rfl), ha.sub (by kernel_rfl)⟩) ?_
    clear hm
    intro s1299 x1300 hm hout1301 a1302 w1303 ⟨p1309, c1310, sg1311, ho1312, M1304, hS1305⟩
    refine G_use hS1305 ?_
    refine G_seq ?_
    refine G_seq ?_
    refine G_region ?_
    refine W_run 2 [(0, .pointer (some ⟨b33, 0, none⟩)), (3, .slice p1309 s1299.1.length c1310), (4, .int .i64 s1299.2.1), (12, .bool (decide (s1299.2.1 > 0)))] w1303 (by kernel_rfl) ?_
    refine W_nil ?_
    refine N_then ?_
    rcases gx_bif hm with ⟨hc1320, hm⟩ | ⟨hc1320, hm⟩
    · refine G_cond_t (b := (decide (s1299.2.1 > 0))) hc1320 (by kernel_rfl) ?_
      refine G_skip ?_
      refine N_then ?_
      refine G_seq ?_
      refine G_block ?_
      refine G_seq ?_
      refine G_region ?_
      refine W_run 2 [(0, .pointer (some ⟨b33, 0, none⟩)), (3, .slice p1309 s1299.1.length c1310), (4, .int .i64 s1299.2.1), (16, .slice p1309 s1299.1.length c1310), (17, .pointer (some ⟨b33, 0, none⟩))] w1303 (by kernel_rfl) ?_
      obtain ⟨r1321, hr1321, hm⟩ := gx_bind hm
      refine W_call 82 #[.pointer (some ⟨b33, 0, none⟩)] (by kernel_rfl) (by kernel_rfl) ?_
      refine (c_s_l1Cur_region w1303 (⟨x31.code, s1299.2.2.1, s1299.2.2.2⟩ : l1Cur) p35 c36 (h37.memX hap38 M1304) b33 (M1304.hasPick [0]) (M1304.nodupPick [0] (by kernel_rfl)) (apartX.old h37 hap38 M1304 [0]) hr1321).mono ?_
      rintro e_ w1322 ⟨rfl, K1323⟩
      have M1324 := M1304.callF' [0] [1] (by kernel_rfl) K1323
      refine ⟨_, rfl, ?_⟩
      obtain ⟨r1325, hr1325, hm⟩ := gx_bind hm
      refine W_call 34 #[.slice p1309 s1299.1.length c1310, .agg #[.int .i64 r1321.1.Base, .int .i64 r1321.1.Size, .int .i64 r1321.1.Kind, .int .i64 r1321.1.Unit]] (by kernel_rfl) (by kernel_rfl) ?_
      refine (c_s_AddRegion w1322 s1299.1 p1309 c1310 (ho1312.rd M1324 0 (by kernel_rfl)) r1321.1 hr1325).mono ?_
      rintro e_ w1331 ⟨p1327, c1328, sg1329, rfl, ho1330, K1332⟩
      have M1333 := M1324.call K1332
      refine ⟨_, rfl, ?_⟩
      refine W_run 5 [(0, .pointer (some ⟨b33, 0, none⟩)), (3, .slice p1309 s1299.1.length c1310), (4, .int .i64 s1299.2.1), (5, .slice p1327 r1325.1.length c1328), (6, .bool r1325.2)] w1331 (by kernel_rfl) ?_
      refine W_nil ?_
      refine N_then ?_
      refine G_seq ?_
      refine G_region ?_
      refine W_run 1 [(0, .pointer (some ⟨b33, 0, none⟩)), (3, .slice p1309 s1299.1.length c1310), (4, .int .i64 s1299.2.1), (5, .slice p1327 r1325.1.length c1328), (22, .bool r1325.2)] w1331 (by kernel_rfl) ?_
      refine W_nil ?_
      refine N_then ?_
      obtain ⟨o1335, ho1336, hm1337⟩ := gx_bind hm
      refine G_meet (fun a w' => ∃ (p1338 : Option Addr), ∃ (c1339 : Nat), ∃ (sg1340 : Seg), ownS encRegion o1335 p1338 c1339 sg1340 ∧ Mem (idsOf [[(b33, .cells ⟨[.slice p35 x31.code.length c36, .int .i64 x31.at_, .int .u64 x31.seed]⟩ 89 (0, 0))]]) w w' [[(b33, .cells ⟨[.slice p35 x31.code.length c36, .int .i64 r1321.2.1, .int .u64 r1321.2.2]⟩ 89 (0, 0))], sg1340] ∧ Sat Try.f77.ntmps [(0, .pointer (some ⟨b33, 0, none⟩)), (3, .slice p1338 o1335.length c1339), (4, .int .i64 s1299.2.1)] a) ?_ ?_
      · have hm := ho1336
        rcases gx_bif hm with ⟨hc1343, hm⟩ | ⟨hc1343, hm⟩
        · refine G_cond_t (b := r1325.2) hc1343 (by kernel_rfl) ?_
          refine G_region ?_
          refine W_run 2 [(0, .pointer (some ⟨b33, 0, none⟩)), (3, .slice p1327 r1325.1.length c1328), (4, .int .i64 s1299.2.1)] w1331 (by kernel_rfl) ?_
          refine W_nil ?_
          obtain rfl := Option.some.inj hm
          exact N_meet fun a ha => ⟨p1327, c1328, sg1329, ho1330, M1333.pick [1, 2] (by kernel_rfl), ha.sub (by kernel_rfl)⟩
        · refine G_cond_f (b := r1325.2) hc1343 (by kernel_rfl) ?_
          refine G_skip ?_
          obtain rfl := Option.some.inj hm
          exact N_meet fun a ha => ⟨p1309, c1310, sg1311, ho1312, M1333.pick [1, 0] (by kernel_rfl), ha.sub (by kernel_rfl)⟩
      · intro a1346 w1344 ⟨p1338, c1339, sg1340, ho1341, M1345, hS1347⟩
        refine N_use hS1347 ?_
        have hm := hm1337
        refine N_block ?_
        refine N_then ?_
        refine G_region ?_
        refine W_run 3 [(0, .pointer (some ⟨b33, 0, none⟩)), (3, .slice p1338 o1335.length c1339), (4, .int .i64 (w64 (s1299.2.1 - 1)))] w1344 (by kernel_rfl) ?_
        refine W_nil ?_
        obtain rfl := Option.some.inj hm
        exact N_loop fun a ha => ⟨_, rfl, p1338, c1339, sg1340, ho1341, M1345.pick [0, 1] (by kernel_rfl), ha.sub (by kernel_rfl)⟩
    · refine G_cond_f (b := (decide (s1299.2.1 > 0))) hc1320 (by kernel_rfl) ?_
      refine G_exit ?_
      refine N_then_exit ?_
      refine N_then_exit ?_
      refine N_block_eq ?_
      obtain rfl := Option.some.inj hm
      obtain rfl := hout1301 _ rfl
      exact N_meet fun a ha => ⟨p1309, c1310, sg1311, ho1312, M1304.pick [0, 1] (by kernel_rfl), ha.sub (by kernel_rfl)⟩
  · intro a1348 w1349 ⟨p1315, c1316, sg1317, ho1318, M1350, hS1351⟩
    refine N_use hS1351 ?_
    have hm := hmo1308
    refine N_then ?_
    refine G_seq ?_
    refine G_seq ?_
    refine G_region ?_
    refine W_run 1 [(0, .pointer (some ⟨b33, 0, none⟩)), (3, .slice p1315 out1306.1.length c1316), (24, .pointer (some ⟨b33, 0, none⟩))] w1349 (by kernel_rfl) ?_
    obtain ⟨r1352, hr1352, hm⟩ := gx_bind hm
    refine W_call 81 #[.pointer (some ⟨b33, 0, none⟩), .int .i64 30] (by kernel_rfl) (by kernel_rfl) ?_
    refine (c_s_l1Cur_pick w1349 (⟨x31.code, out1306.2.1, out1306.2.2⟩ : l1Cur) p35 c36 (h37.memX hap38 M1350) b33 30 (M1350.hasPick [0]) (M1350.nodupPick [0] (by kernel_rfl)) (apartX.old h37 hap38 M1350 [0]) hr1352).mono ?_
    rintro e_ w1353 ⟨rfl, K1354⟩
    have M1355 := M1350.callF' [0] [1] (by kernel_rfl) K1354
    refine ⟨_, rfl, ?_⟩
    refine W_nil ?_
    refine N_then ?_
    refine G_block ?_
    refine G_seq ?_
    refine G_region ?_
    refine W_run 2 [(0, .pointer (some ⟨b33, 0, none⟩)), (3, .slice p1315 out1306.1.length c1316), (25, .int .i64 r1352.1), (26, .bool (r1352.1 == 0))] w1353 (by kernel_rfl) ?_
    refine W_nil ?_
    refine N_then ?_
    obtain ⟨o1584, ho1585, hm1586⟩ := gx_bind hm
    refine G_meet (fun a w' => ∃ (p1587 : Option Addr), ∃ (c1588 : Nat), ∃ (sg1589 : Seg), ownS encRegion o1584.1 p1587 c1588 sg1589 ∧ Mem (idsOf [[(b33, .cells ⟨[.slice p35 x31.code.length c36, .int .i64 x31.at_, .int .u64 x31.seed]⟩ 89 (0, 0))]]) w w' [[(b33, .cells ⟨[.slice p35 x31.code.length c36, .int .i64 o1584.2.1, .int .u64 o1584.2.2]⟩ 89 (0, 0))], sg1589] ∧ Sat Try.f77.ntmps [(3, .slice p1587 o1584.1.length c1588)] a) ?_ ?_
    · have hm := ho1585
      rcases gx_bif hm with ⟨hc1592, hm⟩ | ⟨hc1592, hm⟩
      · refine G_cond_t (b := (r1352.1 == 0)) hc1592 (by kernel_rfl) ?_
        refine G_region ?_
        refine W_run 2 [(3, .slice p1315 out1306.1.length c1316), (28, .slice p1315 out1306.1.length c1316), (29, .pointer (some ⟨b33, 0, none⟩))] w1353 (by kernel_rfl) ?_
        obtain ⟨r1593, hr1593, hm⟩ := gx_bind hm
        refine W_call 82 #[.pointer (some ⟨b33, 0, none⟩)] (by kernel_rfl) (by kernel_rfl) ?_
        refine (c_s_l1Cur_region w1353 (⟨x31.code, r1352.2.1, r1352.2.2⟩ : l1Cur) p35 c36 (h37.memX hap38 M1355) b33 (M1355.hasPick [1]) (M1355.nodupPick [1] (by kernel_rfl)) (apartX.old h37 hap38 M1355 [1]) hr1593).mono ?_
        rintro e_ w1594 ⟨rfl, K1595⟩
        have M1596 := M1355.callF' [1] [0] (by kernel_rfl) K1595
        refine ⟨_, rfl, ?_⟩
        refine W_lit (E := encRegion) [r1593.1] 1 [.int .i64 r1593.1.Base, .int .i64 r1593.1.Size, .int .i64 r1593.1.Kind, .int .i64 r1593.1.Unit] 59 M1596 (by kernel_rfl) (by kernel_rfl) (by kernel_rfl) (by kernel_rfl) (by kernel_rfl) ?_
        intro p1597 c1598 sg1599 w1600 ho1601 M1602
        obtain ⟨ap1604, hap1604, hm⟩ := gx_bind hm
        refine W_append (E := encRegion) _ _ _ 32 [.int .i64 0, .int .i64 0, .int .i64 0, .int .i64 0] 0 c1598 M1602 ho1318 (by kernel_rfl) (by kernel_rfl) (by kernel_rfl) rfl (by kernel_rfl) (by kernel_rfl) (by kernel_rfl) (by kernel_rfl) (by kernel_rfl) (by kernel_rfl) (ho1601.rd M1602 2 (by kernel_rfl)) hap1604 ?_
        intro p1605 c1606 sg1607 w1608 ho1609 M1610
        refine W_run 1 [(3, .slice p1605 ap1604.length c1606)] w1608 (by kernel_rfl) ?_
        refine W_nil ?_
        obtain rfl := Option.some.inj hm
        exact N_meet fun a ha => ⟨p1605, c1606, sg1607, ho1609, M1610.pick [1, 0] (by kernel_rfl), ha.sub (by kernel_rfl)⟩
      · refine G_cond_f (b := (r1352.1 == 0)) hc1592 (by kernel_rfl) ?_
        refine G_seq ?_
        refine G_region ?_
        refine W_run 2 [(0, .pointer (some ⟨b33, 0, none⟩)), (3, .slice p1315 out1306.1.length c1316), (33, .bool (r1352.1 == 1))] w1353 (by kernel_rfl) ?_
        refine W_nil ?_
        refine N_then ?_
        obtain ⟨o1710, ho1711, hm1712⟩ := gx_bind hm
        refine G_meet (fun a w' => ∃ (p1713 : Option Addr), ∃ (c1714 : Nat), ∃ (sg1715 : Seg), ownS encRegion o1710.1 p1713 c1714 sg1715 ∧ Mem (idsOf [[(b33, .cells ⟨[.slice p35 x31.code.length c36, .int .i64 x31.at_, .int .u64 x31.seed]⟩ 89 (0, 0))]]) w w' [[(b33, .cells ⟨[.slice p35 x31.code.length c36, .int .i64 o1710.2.1, .int .u64 o1710.2.2]⟩ 89 (0, 0))], sg1715] ∧ Sat Try.f77.ntmps [(3, .slice p1713 o1710.1.length c1714)] a) ?_ ?_
        · have hm := ho1711
          rcases gx_bif hm with ⟨hc1718, hm⟩ | ⟨hc1718, hm⟩
          · refine G_cond_t (b := (r1352.1 == 1)) hc1718 (by kernel_rfl) ?_
            refine G_seq ?_
            refine G_region ?_
            refine W_lit (E := encRegion) ([] : List Region) 0 [] 59 M1355 (by kernel_rfl) (by kernel_rfl) (by kernel_rfl) (by kernel_rfl) (by kernel_rfl) ?_
            intro p1719 c1720 sg1721 w1722 ho1723 M1724
            refine W_run 1 [(0, .pointer (some ⟨b33, 0, none⟩)), (3, .slice p1719 ([] : List Region).length c1720)] w1722 (by kernel_rfl) ?_
            refine W_nil ?_
            refine N_then ?_
            refine G_seq ?_
            refine G_region ?_
            refine W_run 1 [(0, .pointer (some ⟨b33, 0, none⟩)), (3, .slice p1719 ([] : List Region).length c1720), (7, .int .i64 0)] w1722 (by kernel_rfl) ?_
            refine W_nil ?_
            refine N_then ?_
            obtain ⟨out1778, hw1779, hmo1780⟩ := gx_bind hm
            refine G_meet (fun a w' => ∃ (p1787 : Option Addr), ∃ (c1788 : Nat), ∃ (sg1789 : Seg), ownS encRegion out1778.1 p1787 c1788 sg1789 ∧ Mem (idsOf [[(b33, .cells ⟨[.slice p35 x31.code.length c36, .int .i64 x31.at_, .int .u64 x31.seed]⟩ 89 (0, 0))]]) w w' [[(b33, .cells ⟨[.slice p35 x31.code.length c36, .int .i64 out1778.2.1, .int .u64 out1778.2.2]⟩ 89 (0, 0))], sg1789] ∧ Sat Try.f77.ntmps [(3, .slice p1787 out1778.1.length c1788)] a) ?_ ?_
            · refine G_block ?_
              refine G_while (σ := List Region × Int × Int × Int) (ρ := List Region × Int × Int) (fun s1771 a w' => ∃ (p1781 : Option Addr), ∃ (c1782 : Nat), ∃ (sg1783 : Seg), ownS encRegion s1771.1 p1781 c1782 sg1783 ∧ Mem (idsOf [[(b33, .cells ⟨[.slice p35 x31.code.length c36, .int .i64 x31.at_, .int .u64 x31.seed]⟩ 89 (0, 0))]]) w w' [[(b33, .cells ⟨[.slice p35 x31.code.length c36, .int .i64 s1771.2.2.1, .int .u64 s1771.2.2.2]⟩ 89 (0, 0))], sg1783] ∧ Sat Try.f77.ntmps [(0, .pointer (some ⟨b33, 0, none⟩)), (3, .slice p1781 s1771.1.length c1782), (7, .int .i64 s1771.2.1)] a) hw1779 (fun a ha => ⟨p1719, c1720, sg1721, ho1723, M1724.pick [1, 2] (by kernel_rfl), ha.sub (by kernel_rfl)⟩) ?_
              clear hm
              intro s1771 x1772 hm hout1773 a1774 w1775 ⟨p1781, c1782, sg1783, ho1784, M1776, hS1777⟩
              refine G_use hS1777 ?_
              refine G_seq ?_
              refine G_seq ?_
              refine G_region ?_
              refine W_run 2 [(0, .pointer (some ⟨b33, 0, none⟩)), (3, .slice p1781 s1771.1.length c1782), (7, .int .i64 s1771.2.1), (36, .int .i64 s1771.2.1), (37, .pointer (some ⟨b33, 0, none⟩))] w1775 (by kernel_rfl) ?_
              obtain ⟨r1792, hr1792, hm⟩ := gx_bind hm
              refine W_call 81 #[.pointer (some ⟨b33, 0, none⟩), .int .i64 2] (by kernel_rfl) (by kernel_rfl) ?_
              refine (c_s_l1Cur_pick w1775 (⟨x31.code, s1771.2.2.1, s1771.2.2.2⟩ : l1Cur) p35 c36 (h37.memX hap38 M1776) b33 2 (M1776.hasPick [0]) (M1776.nodupPick [0] (by kernel_rfl)) (apartX.old h37 hap38 M1776 [0]) hr1792).mono ?_
              rintro e_ w1793 ⟨rfl, K1794⟩
              have M1795 := M1776.callF' [0] [1] (by kernel_rfl) K1794
              refine ⟨_, rfl, ?_⟩
              refine W_run 2 [(0, .pointer (some ⟨b33, 0, none⟩)), (3, .slice p1781 s1771.1.length c1782), (7, .int .i64 s1771.2.1), (40, .bool (decide (s1771.2.1 < (w64 (6 + r1792.1)))))] w1793 (by kernel_rfl) ?_
              refine W_nil ?_
              refine N_then ?_
              rcases gx_bif hm with ⟨hc1796, hm⟩ | ⟨hc1796, hm⟩
              · refine G_cond_t (b := (decide (s1771.2.1 < (w64 (6 + r1792.1))))) hc1796 (by kernel_rfl) ?_
                refine G_skip ?_
                refine N_then ?_
                refine G_seq ?_
                refine G_block ?_
                refine G_region ?_
                refine W_run 7 [(0, .pointer (some ⟨b33, 0, none⟩)), (3, .slice p1781 s1771.1.length c1782), (7, .int .i64 s1771.2.1), (43, .slice p1781 s1771.1.length c1782), (49, .agg #[.int .i64 (w64 (8 * s1771.2.1)), .int .i64 4, .int .i64 (s1771.2.1.tmod 4), .int .i64 s1771.2.1])] w1793 (by kernel_rfl) ?_
                refine W_lit (E := encRegion) [(⟨w64 (8 * s1771.2.1), 4, s1771.2.1.tmod 4, s1771.2.1⟩ : Region)] 1 [.int .i64 (w64 (8 * s1771.2.1)), .int .i64 4, .int .i64 (s1771.2.1.tmod 4), .int .i64 s1771.2.1] 59 M1795 (by kernel_rfl) (by kernel_rfl) (by kernel_rfl) (by kernel_rfl) (by kernel_rfl) ?_
                intro p1797 c1798 sg1799 w1800 ho1801 M1802
                obtain ⟨ap1804, hap1804, hm⟩ := gx_bind hm
                refine W_append (E := encRegion) _ _ _ 32 [.int .i64 0, .int .i64 0, .int .i64 0, .int .i64 0] 0 c1798 M1802 ho1784 (by kernel_rfl) (by kernel_rfl) (by kernel_rfl) rfl (by kernel_rfl) (by kernel_rfl) (by kernel_rfl) (by kernel_rfl) (by kernel_rfl) (by kernel_rfl) (ho1801.rd M1802 2 (by kernel_rfl)) hap1804 ?_
                intro p1805 c1806 sg1807 w1808 ho1809 M1810
                refine W_run 1 [(0, .pointer (some ⟨b33, 0, none⟩)), (3, .slice p1805 ap1804.length c1806), (7, .int .i64 s1771.2.1)] w1808 (by kernel_rfl) ?_
                refine W_nil ?_
                refine N_block ?_
                refine N_then ?_
                refine G_region ?_
                refine W_run 3 [(0, .pointer (some ⟨b33, 0, none⟩)), (3, .slice p1805 ap1804.length c1806), (7, .int .i64 (w64 (s1771.2.1 + 1)))] w1808 (by kernel_rfl) ?_
                refine W_nil ?_
                obtain rfl := Option.some.inj hm
                exact N_loop fun a ha => ⟨_, rfl, p1805, c1806, sg1807, ho1809, M1810.pick [1, 0] (by kernel_rfl), ha.sub (by kernel_rfl)⟩
              · refine G_cond_f (b := (decide (s1771.2.1 < (w64 (6 + r1792.1))))) hc1796 (by kernel_rfl) ?_
                refine G_exit ?_
                refine N_then_exit ?_
                refine N_then_exit ?_
                refine N_block_eq ?_
                obtain rfl := Option.some.inj hm
                obtain rfl := hout1773 _ rfl
                exact N_meet fun a ha => ⟨p1781, c1782, sg1783, ho1784, M1795.pick [1, 0] (by kernel_rfl), ha.sub (by kernel_rfl)⟩
            · intro a1812 w1813 ⟨p1787, c1788, sg1789, ho1790, M1814, hS1815⟩
              refine N_use hS1815 ?_
              have hm := hmo1780
              obtain rfl := Option.some.inj hm
              exact N_meet fun a ha => ⟨p1787, c1788, sg1789, ho1790, M1814.pick [0, 1] (by kernel_rfl), ha.sub (by kernel_rfl)⟩
          · refine G_cond_f (b := (r1352.1 == 1)) hc1718 (by kernel_rfl) ?_
            refine G_skip ?_
            obtain rfl := Option.some.inj hm
            exact N_meet fun a ha => ⟨p1315, c1316, sg1317, ho1318, M1355.pick [1, 0] (by kernel_rfl), ha.sub (by kernel_rfl)⟩
        · intro a1818 w1816 ⟨p1713, c1714, sg1715, ho1716, M1817, hS1819⟩
          refine N_use hS1819 ?_
          have hm := hm1712
          obtain rfl := Option.some.inj hm
          exact N_meet fun a ha => ⟨p1713, c1714, sg1715, ho1716, M1817.pick [0, 1] (by kernel_rfl), ha.sub (by kernel_rfl)⟩
    · intro a1822 w1820 ⟨p1587, c1588, sg1589, ho1590, M1821, hS1823⟩
      refine N_use hS1823 ?_
      have hm := hm1586
      refine N_block ?_
      refine N_then ?_
      refine G_seq ?_
      refine G_region ?_
      refine W_run 2 [(2, .slice p1587 o1584.1.length c1588)] w1820 (by kernel_rfl) ?_
      refine W_nil ?_
      refine N_then ?_
      refine G_ret ?_
      obtain rfl := Option.some.inj hm
      refine N_ret [.slice p1587 o1584.1.length c1588] (RVs_cons (RV_tmp (by kernel_rfl)) RVs_nil) ?_
      exact ⟨p1587, c1588, sg1589, rfl, ho1590, M1821.pick [0, 1] (by kernel_rfl)⟩
theorem c_s_DrawPlaceRegion (w : World) (x16 : List Int) (p18 : Option Addr) (c19 : Nat) (h20 : rdS encU8 w x16 p18 c19) {r : (List Region) × Int} (hm : M.s_DrawPlaceRegion x16 = some r) :
    Calls Try.prog 47 #[.slice p18 x16.length c19] w fun e w' => ∃ (p22 : Option Addr) (c23 : Nat) (sg24 : Seg), e = .returned (.tuple #[.slice p22 r.1.length c23, .int .i64 r.2]) ∧ ownS encRegion r.1 p22 c23 sg24 ∧ Mem [] w w' [sg24] := by
  unfold M.s_DrawPlaceRegion at hm
  refine C_enter Try.func47 rfl (by kernel_rfl) ?_
  have M0 := Mem.refl [] w
  refine G_seq ?_
  refine G_region ?_
  refine W_run 2 [(0, .slice p18 x16.length c19)] w (by kernel_rfl) ?_
  refine W_nil ?_
  refine N_then ?_
  refine G_seq ?_
  refine G_region ?_
  refine W_run 2 [(7, .agg #[.slice p18 x16.length c19, .int .i64 0, .int .u64 0])] w (by kernel_rfl) ?_
  refine W_new (fun b => .pointer (some ⟨b, 0, none⟩)) (.cells ⟨[.slice p18 x16.length c19, .int .i64 0, .int .u64 0]⟩ 89 (0, 0)) M0 rfl (by kernel_rfl) (by kernel_rfl) ?_
  intro b28 w29 M30
  refine W_run 1 [(4, .pointer (some ⟨b28, 0, none⟩))] w29 (by kernel_rfl) ?_
  refine W_nil ?_
  refine N_then ?_
  refine G_seq ?_
  refine G_region ?_
  refine W_run 1 [(4, .pointer (some ⟨b28, 0, none⟩)), (9, .pointer (some ⟨b28, 0, none⟩))] w29 (by kernel_rfl) ?_
  obtain ⟨r1824, hr1824, hm⟩ := gx_bind hm
  refine W_call 77 #[.pointer (some ⟨b28, 0, none⟩)] (by kernel_rfl) (by kernel_rfl) ?_
  refine (c_s_l1Cur_regions w29 (⟨x16, 0, 0⟩ : l1Cur) p18 c19 (h20.mem0 M30) b28 (M30.hasPick [0]) (M30.nodupPick [0] (by kernel_rfl)) (apartX.old0 h20 M30 [0]) hr1824).mono ?_
  rintro e_ w1830 ⟨p1826, c1827, sg1828, rfl, ho1829, K1831⟩
  have M1832 := M30.callF' [0] [] (by kernel_rfl) K1831
  refine ⟨_, rfl, ?_⟩
  refine W_run 1 [(4, .pointer (some ⟨b28, 0, none⟩)), (5, .slice p1826 r1824.1.length c1827)] w1830 (by kernel_rfl) ?_
  refine W_nil ?_
  refine N_then ?_
  refine G_seq ?_
  refine G_region ?_
  refine W_run 2 [(4, .pointer (some ⟨b28, 0, none⟩)), (11, .slice p1826 r1824.1.length c1827), (12, .pointer (some ⟨b28, 0, none⟩))] w1830 (by kernel_rfl) ?_
  refine W_lit (E := encI) [4, 8, 256, 4096, 2, 6, 8192] 7 [.int .i64 4, .int .i64 8, .int .i64 256, .int .i64 4096, .int .i64 2, .int .i64 6, .int .i64 8192] 3 M1832 (by kernel_rfl) (by kernel_rfl) (by kernel_rfl) (by kernel_rfl) (by kernel_rfl) ?_
  intro p1833 c1834 sg1835 w1836 ho1837 M1838
  refine W_run 1 [(11, .slice p1826 r1824.1.length c1827), (12, .pointer (some ⟨b28, 0, none⟩)), (13, .slice p1833 [4, 8, 256, 4096, 2, 6, 8192].length c1834), (14, .pointer (some ⟨b28, 0, none⟩))] w1836 (by kernel_rfl) ?_
  obtain ⟨r1840, hr1840, hm⟩ := gx_bind hm
  refine W_call 81 #[.pointer (some ⟨b28, 0, none⟩), .int .i64 24] (by kernel_rfl) (by kernel_rfl) ?_
  refine (c_s_l1Cur_pick w1836 (⟨x16, r1824.2.1, r1824.2.2⟩ : l1Cur) p18 c19 (h20.mem0 M1838) b28 24 (M1838.hasPick [0]) (M1838.nodupPick [0] (by kernel_rfl)) (apartX.old0 h20 M1838 [0]) hr1840).mono ?_
  rintro e_ w1841 ⟨rfl, K1842⟩
  have M1843 := M1838.callF' [0] [1, 2] (by kernel_rfl) K1842
  refine ⟨_, rfl, ?_⟩
  refine W_run 2 [(11, .slice p1826 r1824.1.length c1827), (12, .pointer (some ⟨b28, 0, none⟩)), (13, .slice p1833 [4, 8, 256, 4096, 2, 6, 8192].length c1834), (17, .int .i64 (w64 (4 + (w64 (r1840.1.tdiv 7)))))] w1841 (by kernel_rfl) ?_
  obtain ⟨ys1844, hys1844, hm⟩ := gx_bind hm
  refine W_val (.slice (subP p1833 (0 : Int).toNat c1834 1) ys1844.length (c1834 - (0 : Int).toNat)) w1841 (by kernel_rfl) (E_slice (E := encI) _ _ _ _ [4, 8, 256, 4096, 2, 6, 8192].length 0 (w64 (4 + (w64 (r1840.1.tdiv 7)))) rfl (by kernel_rfl) (Or.inl ⟨rfl, rfl⟩) (Or.inr ⟨_, rfl, by kernel_rfl⟩) (by kernel_rfl) (ho1837.rd M1843 1 (by kernel_rfl)) rfl hys1844) ?_
  obtain ⟨r1846, hr1846, hm⟩ := gx_bind hm
  refine W_call 80 #[.pointer (some ⟨b28, 0, none⟩), .slice (subP p1833 (0 : Int).toNat c1834 1) ys1844.length (c1834 - (0 : Int).toNat)] (by kernel_rfl) (by kernel_rfl) ?_
  refine (c_s_l1Cur_among w1841 (⟨x16, r1840.2.1, r1840.2.2⟩ : l1Cur) p18 c19 (h20.mem0 M1843) b28 ys1844 (subP p1833 (0 : Int).toNat c1834 1) (c1834 - (0 : Int).toNat) ((ho1837.rd M1843 1 (by kernel_rfl)).sliceM hys1844) (M1843.hasPick [2]) (M1843.nodupPick [2] (by kernel_rfl)) (apartX.old0 h20 M1843 [2]) (apartX.slice (apartX.own ho1837 M1843 1 (by kernel_rfl) [2] (by kernel_rfl)) hys1844) hr1846).mono ?_
  rintro e_ w1847 ⟨rfl, K1848⟩
  have M1849 := M1843.callF' [2] [0, 1] (by kernel_rfl) K1848
  refine ⟨_, rfl, ?_⟩
  refine W_run 2 [(2, .slice p1826 r1824.1.length c1827), (3, .int .i64 r1846.1)] w1847 (by kernel_rfl) ?_
  refine W_nil ?_
  refine N_then ?_
  refine G_ret ?_
  obtain rfl := Option.some.inj hm
  refine N_ret [.slice p1826 r1824.1.length c1827, .int .i64 r1846.1] (RVs_cons (RV_tmp (by kernel_rfl)) (RVs_cons (RV_tmp (by kernel_rfl)) RVs_nil)) ?_
  exact ⟨p1826, c1827, sg1828, rfl, ho1829, M1849.pick [0] (by kernel_rfl)⟩
theorem c_i_inside (w : World) (x1884 : Int) (x1885 : Int) (x1886 : Int) {r : Bool} (hm : M.i_inside x1884 x1885 x1886 = some r) :
    Calls Try.prog 58 #[.int .i64 x1884, .int .i64 x1885, .int .i64 x1886] w fun e w' => e = .returned (.bool r) ∧ Mem [] w w' [] := by
  unfold M.i_inside at hm
  refine C_enter Try.func58 rfl (by kernel_rfl) ?_
  have M0 := Mem.refl [] w
  refine G_seq ?_
  refine G_region ?_
  refine W_run 1 [(0, .int .i64 x1884), (1, .int .i64 x1885), (2, .int .i64 x1886)] w (by kernel_rfl) ?_
  refine W_nil ?_
  refine N_then ?_
  refine G_seq ?_
  obtain ⟨o1888, ho1889, hm1890⟩ := gx_bind hm
  refine G_meet (fun a w' => Mem [] w w' [] ∧ Sat Try.f58.ntmps [(6, .bool o1888)] a) ?_ ?_
  · have hm := ho1889
    refine G_region ?_
    refine W_run 4 [(0, .int .i64 x1884), (2, .int .i64 x1886), (10, .bool (decide (x1884 ≥ x1885)))] w (by kernel_rfl) ?_
    rcases gx_bif hm with ⟨hc1891, hm⟩ | ⟨hc1891, hm⟩
    · refine W_known 10 true (by kernel_rfl) hc1891 ?_
      refine W_run 5 [(6, .bool (decide (x1884 ≤ x1886)))] w (by kernel_rfl) ?_
      refine W_nil ?_
      obtain rfl := Option.some.inj hm
      exact N_meet fun a ha => ⟨M0.pick [] (by kernel_rfl), ha.sub (by kernel_rfl)⟩
    · refine W_known 10 false (by kernel_rfl) hc1891 ?_
      refine W_run 5 [(6, .bool false)] w (by kernel_rfl) ?_
      refine W_nil ?_
      obtain rfl := Option.some.inj hm
      exact N_meet fun a ha => ⟨M0.pick [] (by kernel_rfl), ha.sub (by kernel_rfl)⟩
  · intro a1894 w1892 ⟨M1893, hS1895⟩
    refine N_use hS1895 ?_
    have hm := hm1890
    refine N_then ?_
    refine G_ret ?_
    obtain rfl := Option.some.inj hm
    refine N_ret [.bool o1888] (RVs_cons (RV_tmp (by kernel_rfl)) RVs_nil) ?_
    exact ⟨rfl, M1893.pick [] (by kernel_rfl)⟩
theorem c_i_isSize (w : World) (x1883 : Int) {r : Bool} (hm : M.i_isSize x1883 = some r) :
    Calls Try.prog 73 #[.int .i64 x1883] w fun e w' => e = .returned (.bool r) ∧ Mem [] w w' [] := by
  unfold M.i_isSize at hm
  refine C_enter Try.func73 rfl (by kernel_rfl) ?_
  have M0 := Mem.refl [] w
  refine G_seq ?_
  refine G_region ?_
  refine W_run 1 [(0, .int .i64 x1883)] w (by kernel_rfl) ?_
  refine W_nil ?_
  refine N_then ?_
  refine G_seq ?_
  obtain ⟨o1901, ho1902, hm1903⟩ := gx_bind hm
  refine G_meet (fun a w' => Mem [] w w' [] ∧ Sat Try.f73.ntmps [(2, .bool o1901)] a) ?_ ?_
  · have hm := ho1902
    refine G_region ?_
    refine W_run 1 [(0, .int .i64 x1883), (3, .int .i64 x1883)] w (by kernel_rfl) ?_
    obtain ⟨r1904, hr1904, hm⟩ := gx_bind hm
    refine W_call 58 #[.int .i64 x1883, .int .i64 4, .int .i64 4096] (by kernel_rfl) (by kernel_rfl) ?_
    refine (c_i_inside w x1883 4 4096 hr1904).mono ?_
    rintro e_ w1905 ⟨rfl, K1906⟩
    have M1907 := M0.call0 K1906
    refine ⟨_, rfl, ?_⟩
    refine W_run 1 [(0, .int .i64 x1883), (5, .bool r1904)] w1905 (by kernel_rfl) ?_
    rcases gx_bif hm with ⟨hc1908, hm⟩ | ⟨hc1908, hm⟩
    · refine W_known 5 true (by kernel_rfl) hc1908 ?_
      refine W_run 7 [(2, .bool ((gxAnd .i64 x1883 (w64 (x1883 - 1))) == 0))] w1905 (by kernel_rfl) ?_
      refine W_nil ?_
      obtain rfl := Option.some.inj hm
      exact N_meet fun a ha => ⟨M1907.pick [] (by kernel_rfl), ha.sub (by kernel_rfl)⟩
    · refine W_known 5 false (by kernel_rfl) hc1908 ?_
      refine W_run 7 [(2, .bool false)] w1905 (by kernel_rfl) ?_
      refine W_nil ?_
      obtain rfl := Option.some.inj hm
      exact N_meet fun a ha => ⟨M1907.pick [] (by kernel_rfl), ha.sub (by kernel_rfl)⟩
  · intro a1911 w1909 ⟨M1910, hS1912⟩
    refine N_use hS1912 ?_
    have hm := hm1903
    refine N_then ?_
    refine G_ret ?_
    obtain rfl := Option.some.inj hm
    refine N_ret [.bool o1901] (RVs_cons (RV_tmp (by kernel_rfl)) RVs_nil) ?_
    exact ⟨rfl, M1910.pick [] (by kernel_rfl)⟩
theorem c_i_IsRegion (w : World) (x1878 : Region) {r : Bool} (hm : M.i_IsRegion x1878 = some r) :
    Calls Try.prog 52 #[.agg #[.int .i64 x1878.Base, .int .i64 x1878.Size, .int .i64 x1878.Kind, .int .i64 x1878.Unit]] w fun e w' => e = .returned (.bool r) ∧ Mem [] w w' [] := by
  unfold M.i_IsRegion at hm
  refine C_enter Try.func52 rfl (by kernel_rfl) ?_
  have M0 := Mem.refl [] w
  refine G_seq ?_
  refine G_region ?_
  refine W_new (fun b => .pointer (some ⟨b, 0, none⟩)) (.cells ⟨[.int .i64 x1878.Base, .int .i64 x1878.Size, .int .i64 x1878.Kind, .int .i64 x1878.Unit]⟩ 59 (0, 0)) M0 rfl (by kernel_rfl) (by kernel_rfl) ?_
  intro b1880 w1881 M1882
  refine W_run 1 [(1, .pointer (some ⟨b1880, 0, none⟩))] w1881 (by kernel_rfl) ?_
  refine W_nil ?_
  refine N_then ?_
  refine G_seq ?_
  obtain ⟨o1934, ho1935, hm1936⟩ := gx_bind hm
  refine G_meet (fun a w' => Mem [] w w' [] ∧ Sat Try.f52.ntmps [(2, .bool o1934)] a) ?_ ?_
  · have hm := ho1935
    refine G_region ?_
    refine W_run 1 [(1, .pointer (some ⟨b1880, 0, none⟩)), (3, .pointer (some ⟨b1880, 1, none⟩))] w1881 (by kernel_rfl) ?_
    refine W_val (.int .i64 x1878.Size) w1881 (by kernel_rfl) (E_load (e := 59) (fr := (0, 0)) _ _ false 1 b1880 1 [.int .i64 x1878.Base, .int .i64 x1878.Size, .int .i64 x1878.Kind, .int .i64 x1878.Unit] (.int .i64 x1878.Size) rfl (by kernel_rfl) (by kernel_rfl) (by kernel_rfl) (M1882.blk 0 (b := b1880) (o := .cells ⟨[.int .i64 x1878.Base, .int .i64 x1878.Size, .int .i64 x1878.Kind, .int .i64 x1878.Unit]⟩ 59 (0, 0)) (by kernel_rfl))) ?_
    obtain ⟨r1937, hr1937, hm⟩ := gx_bind hm
    refine W_call 73 #[.int .i64 x1878.Size] (by kernel_rfl) (by kernel_rfl) ?_
    refine (c_i_isSize w1881 x1878.Size hr1937).mono ?_
    rintro e_ w1938 ⟨rfl, K1939⟩
    have M1940 := M1882.call0 K1939
    refine ⟨_, rfl, ?_⟩
    refine W_run 1 [(1, .pointer (some ⟨b1880, 0, none⟩)), (6, .bool r1937)] w1938 (by kernel_rfl) ?_
    rcases gx_bif hm with ⟨hc1941, hm⟩ | ⟨hc1941, hm⟩
    · refine W_known 6 true (by kernel_rfl) hc1941 ?_
      refine W_run 1 [(1, .pointer (some ⟨b1880, 0, none⟩)), (6, .bool true), (7, .pointer (some ⟨b1880, 0, none⟩))] w1938 (by kernel_rfl) ?_
      refine W_val (.int .i64 x1878.Base) w1938 (by kernel_rfl) (E_load (e := 59) (fr := (0, 0)) _ _ false 1 b1880 0 [.int .i64 x1878.Base, .int .i64 x1878.Size, .int .i64 x1878.Kind, .int .i64 x1878.Unit] (.int .i64 x1878.Base) rfl (by kernel_rfl) (by kernel_rfl) (by kernel_rfl) (M1940.blk 0 (b := b1880) (o := .cells ⟨[.int .i64 x1878.Base, .int .i64 x1878.Size, .int .i64 x1878.Kind, .int .i64 x1878.Unit]⟩ 59 (0, 0)) (by kernel_rfl))) ?_
      refine W_run 1 [(1, .pointer (some ⟨b1880, 0, none⟩)), (6, .bool true), (8, .int .i64 x1878.Base), (9, .pointer (some ⟨b1880, 1, none⟩))] w1938 (by kernel_rfl) ?_
      refine W_val (.int .i64 x1878.Size) w1938 (by kernel_rfl) (E_load (e := 59) (fr := (0, 0)) _ _ false 1 b1880 1 [.int .i64 x1878.Base, .int .i64 x1878.Size, .int .i64 x1878.Kind, .int .i64 x1878.Unit] (.int .i64 x1878.Size) rfl (by kernel_rfl) (by kernel_rfl) (by kernel_rfl) (M1940.blk 0 (b := b1880) (o := .cells ⟨[.int .i64 x1878.Base, .int .i64 x1878.Size, .int .i64 x1878.Kind, .int .i64 x1878.Unit]⟩ 59 (0, 0)) (by kernel_rfl))) ?_
      refine W_run 1 [(1, .pointer (some ⟨b1880, 0, none⟩)), (6, .bool true), (8, .int .i64 x1878.Base), (11, .int .i64 (w64 (65536 - x1878.Size)))] w1938 (by kernel_rfl) ?_
      obtain ⟨r1942, hr1942, hm⟩ := gx_bind hm
      refine W_call 58 #[.int .i64 x1878.Base, .int .i64 0, .int .i64 (w64 (65536 - x1878.Size))] (by kernel_rfl) (by kernel_rfl) ?_
      refine (c_i_inside w1938 x1878.Base 0 (w64 (65536 - x1878.Size)) hr1942).mono ?_
      rintro e_ w1943 ⟨rfl, K1944⟩
      have M1945 := M1940.call0 K1944
      refine ⟨_, rfl, ?_⟩
      refine W_run 2 [(1, .pointer (some ⟨b1880, 0, none⟩)), (14, .bool r1942)] w1943 (by kernel_rfl) ?_
      rcases gx_bif hm with ⟨hc1946, hm⟩ | ⟨hc1946, hm⟩
      · refine W_known 14 true (by kernel_rfl) hc1946 ?_
        refine W_run 1 [(1, .pointer (some ⟨b1880, 0, none⟩)), (14, .bool true), (15, .pointer (some ⟨b1880, 0, none⟩))] w1943 (by kernel_rfl) ?_
        refine W_val (.int .i64 x1878.Base) w1943 (by kernel_rfl) (E_load (e := 59) (fr := (0, 0)) _ _ false 1 b1880 0 [.int .i64 x1878.Base, .int .i64 x1878.Size, .int .i64 x1878.Kind, .int .i64 x1878.Unit] (.int .i64 x1878.Base) rfl (by kernel_rfl) (by kernel_rfl) (by kernel_rfl) (M1945.blk 0 (b := b1880) (o := .cells ⟨[.int .i64 x1878.Base, .int .i64 x1878.Size, .int .i64 x1878.Kind, .int .i64 x1878.Unit]⟩ 59 (0, 0)) (by kernel_rfl))) ?_
        refine W_run 1 [(1, .pointer (some ⟨b1880, 0, none⟩)), (14, .bool true), (16, .int .i64 x1878.Base), (17, .pointer (some ⟨b1880, 1, none⟩))] w1943 (by kernel_rfl) ?_
        refine W_val (.int .i64 x1878.Size) w1943 (by kernel_rfl) (E_load (e := 59) (fr := (0, 0)) _ _ false 1 b1880 1 [.int .i64 x1878.Base, .int .i64 x1878.Size, .int .i64 x1878.Kind, .int .i64 x1878.Unit] (.int .i64 x1878.Size) rfl (by kernel_rfl) (by kernel_rfl) (by kernel_rfl) (M1945.blk 0 (b := b1880) (o := .cells ⟨[.int .i64 x1878.Base, .int .i64 x1878.Size, .int .i64 x1878.Kind, .int .i64 x1878.Unit]⟩ 59 (0, 0)) (by kernel_rfl))) ?_
        obtain ⟨q1947, hq1947, hm⟩ := gx_bind hm
        refine W_val (.int .i64 q1947) w1943 (by kernel_rfl) (E_rem _ _ _ _ x1878.Base x1878.Size q1947 rfl (by kernel_rfl) (by kernel_rfl) hq1947) ?_
        refine W_run 3 [(1, .pointer (some ⟨b1880, 0, none⟩)), (22, .bool (q1947 == 0))] w1943 (by kernel_rfl) ?_
        rcases gx_bif hm with ⟨hc1948, hm⟩ | ⟨hc1948, hm⟩
        · refine W_known 22 true (by kernel_rfl) hc1948 ?_
          refine W_run 1 [(1, .pointer (some ⟨b1880, 0, none⟩)), (22, .bool true), (23, .pointer (some ⟨b1880, 2, none⟩))] w1943 (by kernel_rfl) ?_
          refine W_val (.int .i64 x1878.Kind) w1943 (by kernel_rfl) (E_load (e := 59) (fr := (0, 0)) _ _ false 1 b1880 2 [.int .i64 x1878.Base, .int .i64 x1878.Size, .int .i64 x1878.Kind, .int .i64 x1878.Unit] (.int .i64 x1878.Kind) rfl (by kernel_rfl) (by kernel_rfl) (by kernel_rfl) (M1945.blk 0 (b := b1880) (o := .cells ⟨[.int .i64 x1878.Base, .int .i64 x1878.Size, .int .i64 x1878.Kind, .int .i64 x1878.Unit]⟩ 59 (0, 0)) (by kernel_rfl))) ?_
          obtain ⟨r1949, hr1949, hm⟩ := gx_bind hm
          refine W_call 58 #[.int .i64 x1878.Kind, .int .i64 0, .int .i64 3] (by kernel_rfl) (by kernel_rfl) ?_
          refine (c_i_inside w1943 x1878.Kind 0 3 hr1949).mono ?_
          rintro e_ w1950 ⟨rfl, K1951⟩
          have M1952 := M1945.call0 K1951
          refine ⟨_, rfl, ?_⟩
          refine W_run 2 [(1, .pointer (some ⟨b1880, 0, none⟩)), (27, .bool r1949)] w1950 (by kernel_rfl) ?_
          rcases gx_bif hm with ⟨hc1953, hm⟩ | ⟨hc1953, hm⟩
          · refine W_known 27 true (by kernel_rfl) hc1953 ?_
            refine W_run 1 [(27, .bool true), (28, .pointer (some ⟨b1880, 3, none⟩))] w1950 (by kernel_rfl) ?_
            refine W_val (.int .i64 x1878.Unit) w1950 (by kernel_rfl) (E_load (e := 59) (fr := (0, 0)) _ _ false 1 b1880 3 [.int .i64 x1878.Base, .int .i64 x1878.Size, .int .i64 x1878.Kind, .int .i64 x1878.Unit] (.int .i64 x1878.Unit) rfl (by kernel_rfl) (by kernel_rfl) (by kernel_rfl) (M1952.blk 0 (b := b1880) (o := .cells ⟨[.int .i64 x1878.Base, .int .i64 x1878.Size, .int .i64 x1878.Kind, .int .i64 x1878.Unit]⟩ 59 (0, 0)) (by kernel_rfl))) ?_
            obtain ⟨r1954, hr1954, hm⟩ := gx_bind hm
            refine W_call 58 #[.int .i64 x1878.Unit, .int .i64 0, .int .i64 15] (by kernel_rfl) (by kernel_rfl) ?_
            refine (c_i_inside w1950 x1878.Unit 0 15 hr1954).mono ?_
            rintro e_ w1955 ⟨rfl, K1956⟩
            have M1957 := M1952.call0 K1956
            refine ⟨_, rfl, ?_⟩
            refine W_run 2 [(2, .bool r1954)] w1955 (by kernel_rfl) ?_
            refine W_nil ?_
            obtain rfl := Option.some.inj hm
            exact N_meet fun a ha => ⟨M1957.pick [] (by kernel_rfl), ha.sub (by kernel_rfl)⟩
          · refine W_known 27 false (by kernel_rfl) hc1953 ?_
            refine W_run 5 [(2, .bool false)] w1950 (by kernel_rfl) ?_
            refine W_nil ?_
            obtain rfl := Option.some.inj hm
            exact N_meet fun a ha => ⟨M1952.pick [] (by kernel_rfl), ha.sub (by kernel_rfl)⟩
        · refine W_known 22 false (by kernel_rfl) hc1948 ?_
          refine W_run 10 [(2, .bool false)] w1943 (by kernel_rfl) ?_
          refine W_nil ?_
          obtain rfl := Option.some.inj hm
          exact N_meet fun a ha => ⟨M1945.pick [] (by kernel_rfl), ha.sub (by kernel_rfl)⟩
      · refine W_known 14 false (by kernel_rfl) hc1946 ?_
        refine W_run 18 [(2, .bool false)] w1943 (by kernel_rfl) ?_
        refine W_nil ?_
        obtain rfl := Option.some.inj hm
        exact N_meet fun a ha => ⟨M1945.pick [] (by kernel_rfl), ha.sub (by kernel_rfl)⟩
    · refine W_known 6 false (by kernel_rfl) hc1941 ?_
      refine W_run 26 [(2, .bool false)] w1938 (by kernel_rfl) ?_
      refine W_nil ?_
      obtain rfl := Option.some.inj hm
      exact N_meet fun a ha => ⟨M1940.pick [] (by kernel_rfl), ha.sub (by kernel_rfl)⟩
  · intro a1960 w1958 ⟨M1959, hS1961⟩
    refine N_use hS1961 ?_
    have hm := hm1936
    refine N_then ?_
    refine G_ret ?_
    obtain rfl := Option.some.inj hm
    refine N_ret [.bool o1934] (RVs_cons (RV_tmp (by kernel_rfl)) RVs_nil) ?_
    exact ⟨rfl, M1959.pick [] (by kernel_rfl)⟩
theorem c_i_IsMap (w : World) (x1865 : List Region) (p1867 : Option Addr) (c1868 : Nat) (h1869 : rdS encRegion w x1865 p1867 c1868) {r : Bool} (hm : M.i_IsMap x1865 = some r) :
    Calls Try.prog 49 #[.slice p1867 x1865.length c1868] w fun e w' => e = .returned (.bool r) ∧ Mem [] w w' [] := by
  unfold M.i_IsMap at hm
  refine C_enter Try.func49 rfl (by kernel_rfl) ?_
  have M0 := Mem.refl [] w
  refine G_seq ?_
  refine G_region ?_
  refine W_run 1 [(0, .slice p1867 x1865.length c1868)] w (by kernel_rfl) ?_
  refine W_nil ?_
  refine N_then ?_
  refine G_seq ?_
  refine G_seq ?_
  refine G_region ?_
  refine W_run 3 [(0, .slice p1867 x1865.length c1868), (5, .slice p1867 x1865.length c1868), (6, .int .i64 (x1865.length : Int)), (7, .int .i64 0)] w (by kernel_rfl) ?_
  refine W_nil ?_
  refine N_then ?_
  obtain ⟨out2049, hw2050, hmo2051⟩ := gx_bind hm
  refine G_meet (fun a w' => ∃ (o2052 : Unit), out2049 = .inl o2052 ∧ Mem [] w w' [] ∧ Sat Try.f49.ntmps [(0, .slice p1867 x1865.length c1868)] a) ?_ ?_
  · refine G_block ?_
    refine G_while (σ := Int) (ρ := (Unit) ⊕ (Bool)) (fun s2042 a w' => Mem [] w w' [] ∧ Sat Try.f49.ntmps [(0, .slice p1867 x1865.length c1868), (5, .slice p1867 x1865.length c1868), (6, .int .i64 (x1865.length : Int)), (7, .int .i64 s2042)] a) hw2050 (fun a ha => ⟨M0.pick [] (by kernel_rfl), ha.sub (by kernel_rfl)⟩) ?_
    clear hm
    intro s2042 x2043 hm hout2044 a2045 w2046 ⟨M2047, hS2048⟩
    refine G_use hS2048 ?_
    refine G_seq ?_
    refine G_region ?_
    refine W_run 1 [(0, .slice p1867 x1865.length c1868), (5, .slice p1867 x1865.length c1868), (6, .int .i64 (x1865.length : Int)), (7, .int .i64 s2042), (8, .bool (decide (s2042 < (x1865.length : Int))))] w2046 (by kernel_rfl) ?_
    refine W_nil ?_
    refine N_then ?_
    refine G_seq ?_
    rcases gx_bif hm with ⟨hc2053, hm⟩ | ⟨hc2053, hm⟩
    · refine G_cond_t (b := (decide (s2042 < (x1865.length : Int)))) hc2053 (by kernel_rfl) ?_
      refine G_skip ?_
      refine N_then ?_
      refine G_seq ?_
      refine G_block ?_
      refine G_seq ?_
      refine G_region ?_
      refine W_run 1 [(0, .slice p1867 x1865.length c1868), (5, .slice p1867 x1865.length c1868), (6, .int .i64 (x1865.length : Int)), (7, .int .i64 s2042), (9, .int .i64 s2042)] w2046 (by kernel_rfl) ?_
      obtain ⟨y2054, hy2054, hm⟩ := gx_bind hm
      refine W_val (elemP p1867 (s2042.toNat * 4)) w2046 (by kernel_rfl) (E_index (E := encRegion) _ _ _ x1865.length c1868 .i64 s2042 4 (y := y2054) rfl (by kernel_rfl) (by kernel_rfl) (by kernel_rfl) (h1869.mem0 M2047) rfl hy2054) ?_
      refine W_val (.agg #[.int .i64 y2054.Base, .int .i64 y2054.Size, .int .i64 y2054.Kind, .int .i64 y2054.Unit]) w2046 (by kernel_rfl) (E_loadE (E := encRegion) _ _ true 4 s2042 0 (s2042.toNat * 4) y2054 (.agg #[.int .i64 y2054.Base, .int .i64 y2054.Size, .int .i64 y2054.Kind, .int .i64 y2054.Unit]) rfl (by kernel_rfl) (by kernel_rfl) (by kernel_rfl) (h1869.mem0 M2047) hy2054 rfl) ?_
      refine W_new (fun b => .pointer (some ⟨b, 0, none⟩)) (.cells ⟨[.int .i64 0, .int .i64 0, .int .i64 0, .int .i64 0]⟩ 59 (0, 0)) M2047 rfl (by kernel_rfl) (by kernel_rfl) ?_
      intro b2056 w2057 M2058
      refine W_run 1 [(0, .slice p1867 x1865.length c1868), (3, .int .i64 s2042), (4, .pointer (some ⟨b2056, 0, none⟩)), (5, .slice p1867 x1865.length c1868), (6, .int .i64 (x1865.length : Int)), (7, .int .i64 s2042), (11, .agg #[.int .i64 y2054.Base, .int .i64 y2054.Size, .int .i64 y2054.Kind, .int .i64 y2054.Unit])] w2057 (by kernel_rfl) ?_
      refine W_store _ _ _ true 4 b2056 0 [.int .i64 0, .int .i64 0, .int .i64 0, .int .i64 0] 59 (.agg #[.int .i64 y2054.Base, .int .i64 y2054.Size, .int .i64 y2054.Kind, .int .i64 y2054.Unit]) 0 [.int .i64 y2054.Base, .int .i64 y2054.Size, .int .i64 y2054.Kind, .int .i64 y2054.Unit] M2058 (by kernel_rfl) rfl (by kernel_rfl) (by kernel_rfl) (by kernel_rfl) (by kernel_rfl) (by kernel_rfl) (by kernel_rfl) (by kernel_rfl) (by kernel_rfl) ?_
      intro w2059 M2060
      refine W_nil ?_
      refine N_then ?_
      refine G_seq ?_
      obtain ⟨o2075, ho2076, hm2077⟩ := gx_bind hm
      refine G_meet (fun a w' => Mem [] w w' [] ∧ Sat Try.f49.ntmps [(0, .slice p1867 x1865.length c1868), (5, .slice p1867 x1865.length c1868), (6, .int .i64 (x1865.length : Int)), (7, .int .i64 s2042), (36, .bool o2075)] a) ?_ ?_
      · have hm := ho2076
        refine G_quiet (by kernel_rfl) (by kernel_rfl) M2060 ?_
        refine Z_val (.agg #[.int .i64 y2054.Base, .int .i64 y2054.Size, .int .i64 y2054.Kind, .int .i64 y2054.Unit]) (by kernel_rfl) (fun w_ M_ => (E_load (e := 59) (fr := (0, 0)) _ _ true 4 b2056 0 [.int .i64 y2054.Base, .int .i64 y2054.Size, .int .i64 y2054.Kind, .int .i64 y2054.Unit] (.agg #[.int .i64 y2054.Base, .int .i64 y2054.Size, .int .i64 y2054.Kind, .int .i64 y2054.Unit]) rfl (by kernel_rfl) (by kernel_rfl) (by kernel_rfl) (M_.blk 0 (b := b2056) (o := .cells ⟨[.int .i64 y2054.Base, .int .i64 y2054.Size, .int .i64 y2054.Kind, .int .i64 y2054.Unit]⟩ 59 (0, 0)) (by kernel_rfl)))) ?_
        obtain ⟨r2078, hr2078, hm⟩ := gx_bind hm
        refine Z_call 52 #[.agg #[.int .i64 y2054.Base, .int .i64 y2054.Size, .int .i64 y2054.Kind, .int .i64 y2054.Unit]] (.bool r2078) (by kernel_rfl) (fun w_ => by kernel_rfl) (fun w_ M_ => (c_i_IsRegion w_ y2054 hr2078).mono fun e w2_ h_ => ⟨h_.1, M_.call0 h_.2⟩) ?_
        refine Z_runs [.bool (!r2078), .bool (!r2078)] [(0, .slice p1867 x1865.length c1868), (3, .int .i64 s2042), (4, .pointer (some ⟨b2056, 0, none⟩)), (5, .slice p1867 x1865.length c1868), (6, .int .i64 (x1865.length : Int)), (7, .int .i64 s2042), (15, .bool (!r2078))] (fun w_ => by kernel_rfl) (by kernel_rfl) ?_
        rcases gx_bif hm with ⟨hc2082, hm⟩ | ⟨hc2082, hm⟩
        · refine Z_known 15 true (by kernel_rfl) hc2082 ?_
          refine Z_runs [undef, undef, undef, undef, undef, undef, undef, undef, undef, undef, undef, undef, undef, undef, undef, undef, undef, undef, undef, undef, .bool true] [(0, .slice p1867 x1865.length c1868), (5, .slice p1867 x1865.length c1868), (6, .int .i64 (x1865.length : Int)), (7, .int .i64 s2042), (36, .bool true)] (fun w_ => by kernel_rfl) (by kernel_rfl) ?_
          refine Z_end fun w2083 M2084 => ?_
          obtain rfl := Option.some.inj hm
          exact N_meet fun a ha => ⟨M2084.pick [] (by kernel_rfl), ha.sub (by kernel_rfl)⟩
        · refine Z_known 15 false (by kernel_rfl) hc2082 ?_
          refine Z_runs [.int .i64 s2042, .bool (decide (s2042 > 0)), .bool (decide (s2042 > 0))] [(0, .slice p1867 x1865.length c1868), (3, .int .i64 s2042), (4, .pointer (some ⟨b2056, 0, none⟩)), (5, .slice p1867 x1865.length c1868), (6, .int .i64 (x1865.length : Int)), (7, .int .i64 s2042), (15, .bool false), (18, .bool (decide (s2042 > 0)))] (fun w_ => by kernel_rfl) (by kernel_rfl) ?_
          rcases gx_bif hm with ⟨hc2085, hm⟩ | ⟨hc2085, hm⟩
          · refine Z_known 18 true (by kernel_rfl) hc2085 ?_
            refine Z_runs [.slice p1867 x1865.length c1868, .int .i64 s2042, .int .i64 (w64 (s2042 - 1))] [(0, .slice p1867 x1865.length c1868), (3, .int .i64 s2042), (4, .pointer (some ⟨b2056, 0, none⟩)), (5, .slice p1867 x1865.length c1868), (6, .int .i64 (x1865.length : Int)), (7, .int .i64 s2042), (15, .bool false), (18, .bool true), (19, .slice p1867 x1865.length c1868), (21, .int .i64 (w64 (s2042 - 1)))] (fun w_ => by kernel_rfl) (by kernel_rfl) ?_
            obtain ⟨y2086, hy2086, hm⟩ := gx_bind hm
            refine Z_val (elemP p1867 ((w64 (s2042 - 1)).toNat * 4)) (by kernel_rfl) (fun w_ M_ => (E_index (E := encRegion) _ _ _ x1865.length c1868 .i64 (w64 (s2042 - 1)) 4 (y := y2086) rfl (by kernel_rfl) (by kernel_rfl) (by kernel_rfl) (h1869.mem0 M_) rfl hy2086)) ?_
            refine Z_val (elemP p1867 ((w64 (s2042 - 1)).toNat * 4 + 0)) (by kernel_rfl) (fun w_ M_ => (E_fieldE (E := encRegion) _ _ 0 ((w64 (s2042 - 1)).toNat * 4) 0 rfl (by kernel_rfl) (by kernel_rfl) (h1869.mem0 M_) hy2086)) ?_
            refine Z_val (.int .i64 y2086.Base) (by kernel_rfl) (fun w_ M_ => (E_loadE (E := encRegion) _ _ false 1 (w64 (s2042 - 1)) 0 ((w64 (s2042 - 1)).toNat * 4 + 0) y2086 (.int .i64 y2086.Base) rfl (by kernel_rfl) (by kernel_rfl) (by kernel_rfl) (h1869.mem0 M_) hy2086 rfl)) ?_
            refine Z_runs [.slice p1867 x1865.length c1868, .int .i64 s2042, .int .i64 (w64 (s2042 - 1))] [(0, .slice p1867 x1865.length c1868), (4, .pointer (some ⟨b2056, 0, none⟩)), (5, .slice p1867 x1865.length c1868), (6, .int .i64 (x1865.length : Int)), (7, .int .i64 s2042), (15, .bool false), (18, .bool true), (24, .int .i64 y2086.Base), (25, .slice p1867 x1865.length c1868), (27, .int .i64 (w64 (s2042 - 1)))] (fun w_ => by kernel_rfl) (by kernel_rfl) ?_
            obtain ⟨y2087, hy2087, hm⟩ := gx_bind hm
            refine Z_val (elemP p1867 ((w64 (s2042 - 1)).toNat * 4)) (by kernel_rfl) (fun w_ M_ => (E_index (E := encRegion) _ _ _ x1865.length c1868 .i64 (w64 (s2042 - 1)) 4 (y := y2087) rfl (by kernel_rfl) (by kernel_rfl) (by kernel_rfl) (h1869.mem0 M_) rfl hy2087)) ?_
            refine Z_val (elemP p1867 ((w64 (s2042 - 1)).toNat * 4 + 1)) (by kernel_rfl) (fun w_ M_ => (E_fieldE (E := encRegion) _ _ 1 ((w64 (s2042 - 1)).toNat * 4) 1 rfl (by kernel_rfl) (by kernel_rfl) (h1869.mem0 M_) hy2087)) ?_
            refine Z_val (.int .i64 y2087.Size) (by kernel_rfl) (fun w_ M_ => (E_loadE (E := encRegion) _ _ false 1 (w64 (s2042 - 1)) 1 ((w64 (s2042 - 1)).toNat * 4 + 1) y2087 (.int .i64 y2087.Size) rfl (by kernel_rfl) (by kernel_rfl) (by kernel_rfl) (h1869.mem0 M_) hy2087 rfl)) ?_
            refine Z_runs [.int .i64 (w64 (y2086.Base + y2087.Size)), .pointer (some ⟨b2056, 0, none⟩)] [(0, .slice p1867 x1865.length c1868), (5, .slice p1867 x1865.length c1868), (6, .int .i64 (x1865.length : Int)), (7, .int .i64 s2042), (15, .bool false), (18, .bool true), (31, .int .i64 (w64 (y2086.Base + y2087.Size))), (32, .pointer (some ⟨b2056, 0, none⟩))] (fun w_ => by kernel_rfl) (by kernel_rfl) ?_
            refine Z_val (.int .i64 y2054.Base) (by kernel_rfl) (fun w_ M_ => (E_load (e := 59) (fr := (0, 0)) _ _ false 1 b2056 0 [.int .i64 y2054.Base, .int .i64 y2054.Size, .int .i64 y2054.Kind, .int .i64 y2054.Unit] (.int .i64 y2054.Base) rfl (by kernel_rfl) (by kernel_rfl) (by kernel_rfl) (M_.blk 0 (b := b2056) (o := .cells ⟨[.int .i64 y2054.Base, .int .i64 y2054.Size, .int .i64 y2054.Kind, .int .i64 y2054.Unit]⟩ 59 (0, 0)) (by kernel_rfl)))) ?_
            refine Z_runs [.bool (decide ((w64 (y2086.Base + y2087.Size)) > y2054.Base)), .bool (decide ((w64 (y2086.Base + y2087.Size)) > y2054.Base)), .bool (decide ((w64 (y2086.Base + y2087.Size)) > y2054.Base))] [(0, .slice p1867 x1865.length c1868), (5, .slice p1867 x1865.length c1868), (6, .int .i64 (x1865.length : Int)), (7, .int .i64 s2042), (36, .bool (decide ((w64 (y2086.Base + y2087.Size)) > y2054.Base)))] (fun w_ => by kernel_rfl) (by kernel_rfl) ?_
            refine Z_end fun w2088 M2089 => ?_
            obtain rfl := Option.some.inj hm
            exact N_meet fun a ha => ⟨M2089.pick [] (by kernel_rfl), ha.sub (by kernel_rfl)⟩
          · refine Z_known 18 false (by kernel_rfl) hc2085 ?_
            refine Z_runs [undef, undef, undef, undef, undef, undef, undef, undef, undef, undef, undef, undef, undef, undef, undef, undef, .bool false, .bool false] [(0, .slice p1867 x1865.length c1868), (5, .slice p1867 x1865.length c1868), (6, .int .i64 (x1865.length : Int)), (7, .int .i64 s2042), (36, .bool false)] (fun w_ => by kernel_rfl) (by kernel_rfl) ?_
            refine Z_end fun w2090 M2091 => ?_
            obtain rfl := Option.some.inj hm
            exact N_meet fun a ha => ⟨M2091.pick [] (by kernel_rfl), ha.sub (by kernel_rfl)⟩
      · intro a2094 w2092 ⟨M2093, hS2095⟩
        refine N_use hS2095 ?_
        have hm := hm2077
        refine N_then ?_
        rcases gx_bif hm with ⟨hc2096, hm⟩ | ⟨hc2096, hm⟩
        · refine G_cond_t (b := o2075) hc2096 (by kernel_rfl) ?_
          refine G_seq ?_
          refine G_region ?_
          refine W_run 1 [(2, .bool false)] w2092 (by kernel_rfl) ?_
          refine W_nil ?_
          refine N_then ?_
          refine G_ret ?_
          refine N_block_ret ?_
          refine N_then_ret ?_
          refine N_then_ret ?_
          obtain rfl := Option.some.inj hm
          obtain rfl := hout2044 _ rfl
          have hm := hmo2051; simp only [Sum.elim_inr] at hm
          refine N_block_ret ?_
          refine N_meet_ret ?_
          refine N_then_ret ?_
          obtain rfl := Option.some.inj hm
          refine N_ret [.bool false] (RVs_cons (RV_tmp (by kernel_rfl)) RVs_nil) ?_
          exact ⟨rfl, M2093.pick [] (by kernel_rfl)⟩
        · refine G_cond_f (b := o2075) hc2096 (by kernel_rfl) ?_
          refine G_skip ?_
          refine N_block ?_
          refine N_then ?_
          refine G_region ?_
          refine W_run 2 [(0, .slice p1867 x1865.length c1868), (5, .slice p1867 x1865.length c1868), (6, .int .i64 (x1865.length : Int)), (7, .int .i64 (w64 (s2042 + 1)))] w2092 (by kernel_rfl) ?_
          refine W_nil ?_
          obtain rfl := Option.some.inj hm
          exact N_loop fun a ha => ⟨_, rfl, M2093.pick [] (by kernel_rfl), ha.sub (by kernel_rfl)⟩
    · refine G_cond_f (b := (decide (s2042 < (x1865.length : Int)))) hc2053 (by kernel_rfl) ?_
      refine G_exit ?_
      refine N_then_exit ?_
      refine N_then_exit ?_
      refine N_block_eq ?_
      obtain rfl := Option.some.inj hm
      obtain rfl := hout2044 _ rfl
      exact N_meet fun a ha => ⟨_, rfl, M2047.pick [] (by kernel_rfl), ha.sub (by kernel_rfl)⟩
  · intro a2097 w2098 ⟨o2052, hout_, M2099, hS2100⟩
    refine N_use hS2100 ?_
    subst hout_
    have hm := hmo2051; simp only [Sum.elim_inl] at hm
    refine N_then ?_
    refine G_seq ?_
    refine G_region ?_
    refine W_run 4 [(2, .bool (decide ((x1865.length : Int) ≤ 6)))] w2098 (by kernel_rfl) ?_
    refine W_nil ?_
    refine N_then ?_
    refine G_ret ?_
    obtain rfl := Option.some.inj hm
    refine N_ret [.bool (decide ((x1865.length : Int) ≤ 6))] (RVs_cons (RV_tmp (by kernel_rfl)) RVs_nil) ?_
    exact ⟨rfl, M2099.pick [] (by kernel_rfl)⟩
theorem c_slices_Clone_75 (w : World) (x2130 : List Region) (p2132 : Option Addr) (c2133 : Nat) (h2134 : rdS encRegion w x2130 p2132 c2133) {r : (List Region)} (hm : M.slices_Clone_75 x2130 = some r) :
    Calls Try.prog 75 #[.slice p2132 x2130.length c2133] w fun e w' => ∃ (p2136 : Option Addr) (c2137 : Nat) (sg2138 : Seg), e = .returned (.slice p2136 r.length c2137) ∧ ownS encRegion r p2136 c2137 sg2138 ∧ Mem [] w w' [sg2138] := by
  unfold M.slices_Clone_75 at hm
  cases p2132 with
  | none =>
    have hx : x2130 = [] := by rcases h2134.2 with hh | ⟨_, _, _, _, _, hp, _⟩; exact hh; cases hp
    subst hx
    have hm : some ([] : List Region) = some r := by simpa [gxApp] using hm
    refine C_enter Try.func75 rfl (by kernel_rfl) ?_
    have M0 := Mem.refl [] w
    refine G_seq ?_
    refine G_region ?_
    refine W_run 1 [(0, .slice none ([] : List Region).length c2133)] w (by kernel_rfl) ?_
    refine W_nil ?_
    refine N_then ?_
    refine G_seq ?_
    refine G_seq ?_
    refine G_region ?_
    refine W_run 2 [(0, .slice none ([] : List Region).length c2133), (4, .bool true)] w (by kernel_rfl) ?_
    refine W_nil ?_
    refine N_then ?_
    refine G_cond_t rfl (by kernel_rfl) ?_
    refine G_seq ?_
    refine G_region ?_
    refine W_run 1 [(2, .slice none 0 0)] w (by kernel_rfl) ?_
    refine W_nil ?_
    refine N_then ?_
    refine G_ret ?_
    refine N_then_ret ?_
    obtain rfl := Option.some.inj hm
    refine N_ret [.slice none 0 0] (RVs_cons (RV_tmp (by kernel_rfl)) RVs_nil) ?_
    exact ⟨none, 0, [], rfl, ownS_nil, M0.pick [100000] (by kernel_rfl)⟩
  | some a_ =>
    refine C_enter Try.func75 rfl (by kernel_rfl) ?_
    have M0 := Mem.refl [] w
    refine G_seq ?_
    refine G_region ?_
    refine W_run 1 [(0, .slice (some a_) x2130.length c2133)] w (by kernel_rfl) ?_
    refine W_nil ?_
    refine N_then ?_
    refine G_seq ?_
    refine G_seq ?_
    refine G_region ?_
    refine W_run 2 [(0, .slice (some a_) x2130.length c2133), (4, .bool false)] w (by kernel_rfl) ?_
    refine W_nil ?_
    refine N_then ?_
    refine G_cond_f rfl (by kernel_rfl) ?_
    refine G_skip ?_
    refine N_then ?_
    refine G_seq ?_
    refine G_region ?_
    refine W_lit (E := encRegion) ([] : List Region) 0 [] 59 M0 (by kernel_rfl) (by kernel_rfl) (by kernel_rfl) (by kernel_rfl) (by kernel_rfl) ?_
    intro p2144 c2145 sg2146 w2147 ho2148 M2149
    refine W_run 1 [(5, .slice p2144 ([] : List Region).length c2145), (6, .slice (some a_) x2130.length c2133)] w2147 (by kernel_rfl) ?_
    obtain ⟨ap2151, hap2151, hm⟩ := gx_bind hm
    refine W_append (E := encRegion) _ _ _ 32 [.int .i64 0, .int .i64 0, .int .i64 0, .int .i64 0] 0 c2133 M2149 ho2148 (by kernel_rfl) (by kernel_rfl) (by kernel_rfl) rfl (by kernel_rfl) (by kernel_rfl) (by kernel_rfl) (by kernel_rfl) (by kernel_rfl) (by kernel_rfl) (h2134.mem0 M2149) hap2151 ?_
    intro p2152 c2153 sg2154 w2155 ho2156 M2157
    refine W_run 1 [(2, .slice p2152 ap2151.length c2153)] w2155 (by kernel_rfl) ?_
    refine W_nil ?_
    refine N_then ?_
    refine G_ret ?_
    obtain rfl := Option.some.inj hm
    refine N_ret [.slice p2152 ap2151.length c2153] (RVs_cons (RV_tmp (by kernel_rfl)) RVs_nil) ?_
    exact ⟨p2152, c2153, sg2154, rfl, ho2156, M2157.pick [0] (by kernel_rfl)⟩
theorem c_cmp_isNaN_95 (w : World) (x2243 : Int) {r : Bool} (hm : M.cmp_isNaN_95 x2243 = some r) :
    Calls Try.prog 95 #[.int .i64 x2243] w fun e w' => e = .returned (.bool r) ∧ Mem [] w w' [] := by
  unfold M.cmp_isNaN_95 at hm
  refine C_enter Try.func95 rfl (by kernel_rfl) ?_
  have M0 := Mem.refl [] w
  refine G_seq ?_
  refine G_region ?_
  refine W_run 1 [(0, .int .i64 x2243)] w (by kernel_rfl) ?_
  refine W_nil ?_
  refine N_then ?_
  refine G_seq ?_
  refine G_region ?_
  refine W_run 4 [(2, .bool (x2243 != x2243))] w (by kernel_rfl) ?_
  refine W_nil ?_
  refine N_then ?_
  refine G_ret ?_
  obtain rfl := Option.some.inj hm
  refine N_ret [.bool (x2243 != x2243)] (RVs_cons (RV_tmp (by kernel_rfl)) RVs_nil) ?_
  exact ⟨rfl, M0.pick [] (by kernel_rfl)⟩
theorem c_cmp_Compare_91 (w : World) (x2241 : Int) (x2242 : Int) {r : Int} (hm : M.cmp_Compare_91 x2241 x2242 = some r) :
    Calls Try.prog 91 #[.int .i64 x2241, .int .i64 x2242] w fun e w' => e = .returned (.int .i64 r) ∧ Mem [] w w' [] := by
  unfold M.cmp_Compare_91 at hm
  refine C_enter Try.func91 rfl (by kernel_rfl) ?_
  have M0 := Mem.refl [] w
  refine G_seq ?_
  refine G_region ?_
  refine W_run 1 [(0, .int .i64 x2241), (1, .int .i64 x2242)] w (by kernel_rfl) ?_
  refine W_nil ?_
  refine N_then ?_
  refine G_seq ?_
  refine G_region ?_
  refine W_run 1 [(0, .int .i64 x2241), (1, .int .i64 x2242), (7, .int .i64 x2241)] w (by kernel_rfl) ?_
  obtain ⟨r2244, hr2244, hm⟩ := gx_bind hm
  refine W_call 95 #[.int .i64 x2241] (by kernel_rfl) (by kernel_rfl) ?_
  refine (c_cmp_isNaN_95 w x2241 hr2244).mono ?_
  rintro e_ w2245 ⟨rfl, K2246⟩
  have M2247 := M0.call0 K2246
  refine ⟨_, rfl, ?_⟩
  refine W_run 1 [(0, .int .i64 x2241), (1, .int .i64 x2242), (5, .bool r2244)] w2245 (by kernel_rfl) ?_
  refine W_nil ?_
  refine N_then ?_
  refine G_seq ?_
  refine G_region ?_
  refine W_run 1 [(0, .int .i64 x2241), (1, .int .i64 x2242), (5, .bool r2244), (9, .int .i64 x2242)] w2245 (by kernel_rfl) ?_
  obtain ⟨r2248, hr2248, hm⟩ := gx_bind hm
  refine W_call 95 #[.int .i64 x2242] (by kernel_rfl) (by kernel_rfl) ?_
  refine (c_cmp_isNaN_95 w2245 x2242 hr2248).mono ?_
  rintro e_ w2249 ⟨rfl, K2250⟩
  have M2251 := M2247.call0 K2250
  refine ⟨_, rfl, ?_⟩
  refine W_run 1 [(0, .int .i64 x2241), (1, .int .i64 x2242), (5, .bool r2244), (6, .bool r2248)] w2249 (by kernel_rfl) ?_
  refine W_nil ?_
  refine N_then ?_
  refine G_seq ?_
  refine G_seq ?_
  refine G_region ?_
  refine W_run 1 [(0, .int .i64 x2241), (1, .int .i64 x2242), (6, .bool r2248), (11, .bool r2244)] w2249 (by kernel_rfl) ?_
  refine W_nil ?_
  refine N_then ?_
  rcases gx_bif hm with ⟨hc2252, hm⟩ | ⟨hc2252, hm⟩
  · refine G_cond_t (b := r2244) hc2252 (by kernel_rfl) ?_
    refine G_seq ?_
    refine G_seq ?_
    refine G_region ?_
    refine W_run 1 [(12, .bool r2248)] w2249 (by kernel_rfl) ?_
    refine W_nil ?_
    refine N_then ?_
    rcases gx_bif hm with ⟨hc2253, hm⟩ | ⟨hc2253, hm⟩
    · refine G_cond_t (b := r2248) hc2253 (by kernel_rfl) ?_
      refine G_seq ?_
      refine G_region ?_
      refine W_run 1 [(4, .int .i64 0)] w2249 (by kernel_rfl) ?_
      refine W_nil ?_
      refine N_then ?_
      refine G_ret ?_
      refine N_then_ret ?_
      refine N_then_ret ?_
      obtain rfl := Option.some.inj hm
      refine N_ret [.int .i64 0] (RVs_cons (RV_tmp (by kernel_rfl)) RVs_nil) ?_
      exact ⟨rfl, M2251.pick [] (by kernel_rfl)⟩
    · refine G_cond_f (b := r2248) hc2253 (by kernel_rfl) ?_
      refine G_skip ?_
      refine N_then ?_
      refine G_seq ?_
      refine G_region ?_
      refine W_run 1 [(4, .int .i64 (-1))] w2249 (by kernel_rfl) ?_
      refine W_nil ?_
      refine N_then ?_
      refine G_ret ?_
      refine N_then_ret ?_
      obtain rfl := Option.some.inj hm
      refine N_ret [.int .i64 (-1)] (RVs_cons (RV_tmp (by kernel_rfl)) RVs_nil) ?_
      exact ⟨rfl, M2251.pick [] (by kernel_rfl)⟩
  · refine G_cond_f (b := r2244) hc2252 (by kernel_rfl) ?_
    refine G_skip ?_
    refine N_then ?_
    refine G_seq ?_
    refine G_seq ?_
    refine G_region ?_
    refine W_run 1 [(0, .int .i64 x2241), (1, .int .i64 x2242), (13, .bool r2248)] w2249 (by kernel_rfl) ?_
    refine W_nil ?_
    refine N_then ?_
    rcases gx_bif hm with ⟨hc2254, hm⟩ | ⟨hc2254, hm⟩
    · refine G_cond_t (b := r2248) hc2254 (by kernel_rfl) ?_
      refine G_seq ?_
      refine G_region ?_
      refine W_run 1 [(4, .int .i64 1)] w2249 (by kernel_rfl) ?_
      refine W_nil ?_
      refine N_then ?_
      refine G_ret ?_
      refine N_then_ret ?_
      obtain rfl := Option.some.inj hm
      refine N_ret [.int .i64 1] (RVs_cons (RV_tmp (by kernel_rfl)) RVs_nil) ?_
      exact ⟨rfl, M2251.pick [] (by kernel_rfl)⟩
    · refine G_cond_f (b := r2248) hc2254 (by kernel_rfl) ?_
      refine G_skip ?_
      refine N_then ?_
      refine G_seq ?_
      refine G_seq ?_
      refine G_region ?_
      refine W_run 3 [(0, .int .i64 x2241), (1, .int .i64 x2242), (16, .bool (decide (x2241 < x2242)))] w2249 (by kernel_rfl) ?_
      refine W_nil ?_
      refine N_then ?_
      rcases gx_bif hm with ⟨hc2255, hm⟩ | ⟨hc2255, hm⟩
      · refine G_cond_t (b := (decide (x2241 < x2242))) hc2255 (by kernel_rfl) ?_
        refine G_seq ?_
        refine G_region ?_
        refine W_run 1 [(4, .int .i64 (-1))] w2249 (by kernel_rfl) ?_
        refine W_nil ?_
        refine N_then ?_
        refine G_ret ?_
        refine N_then_ret ?_
        obtain rfl := Option.some.inj hm
        refine N_ret [.int .i64 (-1)] (RVs_cons (RV_tmp (by kernel_rfl)) RVs_nil) ?_
        exact ⟨rfl, M2251.pick [] (by kernel_rfl)⟩
      · refine G_cond_f (b := (decide (x2241 < x2242))) hc2255 (by kernel_rfl) ?_
        refine G_skip ?_
        refine N_then ?_
        refine G_seq ?_
        refine G_seq ?_
        refine G_region ?_
        refine W_run 3 [(19, .bool (decide (x2241 > x2242)))] w2249 (by kernel_rfl) ?_
        refine W_nil ?_
        refine N_then ?_
        rcases gx_bif hm with ⟨hc2256, hm⟩ | ⟨hc2256, hm⟩
        · refine G_cond_t (b := (decide (x2241 > x2242))) hc2256 (by kernel_rfl) ?_
          refine G_seq ?_
          refine G_region ?_
          refine W_run 1 [(4, .int .i64 1)] w2249 (by kernel_rfl) ?_
          refine W_nil ?_
          refine N_then ?_
          refine G_ret ?_
          refine N_then_ret ?_
          obtain rfl := Option.some.inj hm
          refine N_ret [.int .i64 1] (RVs_cons (RV_tmp (by kernel_rfl)) RVs_nil) ?_
          exact ⟨rfl, M2251.pick [] (by kernel_rfl)⟩
        · refine G_cond_f (b := (decide (x2241 > x2242))) hc2256 (by kernel_rfl) ?_
          refine G_skip ?_
          refine N_then ?_
          refine G_seq ?_
          refine G_region ?_
          refine W_run 1 [(4, .int .i64 0)] w2249 (by kernel_rfl) ?_
          refine W_nil ?_
          refine N_then ?_
          refine G_ret ?_
          obtain rfl := Option.some.inj hm
          refine N_ret [.int .i64 0] (RVs_cons (RV_tmp (by kernel_rfl)) RVs_nil) ?_
          exact ⟨rfl, M2251.pick [] (by kernel_rfl)⟩
theorem c_i_asMap_1 (w : World) (x2231 : Region) (x2232 : Region) {r : Int} (hm : M.i_asMap_1 x2231 x2232 = some r) :
    Calls Try.prog 90 #[.agg #[.int .i64 x2231.Base, .int .i64 x2231.Size, .int .i64 x2231.Kind, .int .i64 x2231.Unit], .agg #[.int .i64 x2232.Base, .int .i64 x2232.Size, .int .i64 x2232.Kind, .int .i64 x2232.Unit]] w fun e w' => e = .returned (.int .i64 r) ∧ Mem [] w w' [] := by
  unfold M.i_asMap_1 at hm
  refine C_enter Try.func90 rfl (by kernel_rfl) ?_
  have M0 := Mem.refl [] w
  refine G_seq ?_
  refine G_region ?_
  refine W_new (fun b => .pointer (some ⟨b, 0, none⟩)) (.cells ⟨[.int .i64 x2231.Base, .int .i64 x2231.Size, .int .i64 x2231.Kind, .int .i64 x2231.Unit]⟩ 59 (0, 0)) M0 rfl (by kernel_rfl) (by kernel_rfl) ?_
  intro b2234 w2235 M2236
  refine W_new (fun b => .pointer (some ⟨b, 0, none⟩)) (.cells ⟨[.int .i64 x2232.Base, .int .i64 x2232.Size, .int .i64 x2232.Kind, .int .i64 x2232.Unit]⟩ 59 (0, 0)) M2236 rfl (by kernel_rfl) (by kernel_rfl) ?_
  intro b2238 w2239 M2240
  refine W_run 1 [(2, .pointer (some ⟨b2234, 0, none⟩)), (3, .pointer (some ⟨b2238, 0, none⟩))] w2239 (by kernel_rfl) ?_
  refine W_nil ?_
  refine N_then ?_
  refine G_seq ?_
  refine G_region ?_
  refine W_run 1 [(3, .pointer (some ⟨b2238, 0, none⟩)), (5, .pointer (some ⟨b2234, 0, none⟩))] w2239 (by kernel_rfl) ?_
  refine W_val (.int .i64 x2231.Base) w2239 (by kernel_rfl) (E_load (e := 59) (fr := (0, 0)) _ _ false 1 b2234 0 [.int .i64 x2231.Base, .int .i64 x2231.Size, .int .i64 x2231.Kind, .int .i64 x2231.Unit] (.int .i64 x2231.Base) rfl (by kernel_rfl) (by kernel_rfl) (by kernel_rfl) (M2240.blk 0 (b := b2234) (o := .cells ⟨[.int .i64 x2231.Base, .int .i64 x2231.Size, .int .i64 x2231.Kind, .int .i64 x2231.Unit]⟩ 59 (0, 0)) (by kernel_rfl))) ?_
  refine W_run 1 [(6, .int .i64 x2231.Base), (7, .pointer (some ⟨b2238, 0, none⟩))] w2239 (by kernel_rfl) ?_
  refine W_val (.int .i64 x2232.Base) w2239 (by kernel_rfl) (E_load (e := 59) (fr := (0, 0)) _ _ false 1 b2238 0 [.int .i64 x2232.Base, .int .i64 x2232.Size, .int .i64 x2232.Kind, .int .i64 x2232.Unit] (.int .i64 x2232.Base) rfl (by kernel_rfl) (by kernel_rfl) (by kernel_rfl) (M2240.blk 1 (b := b2238) (o := .cells ⟨[.int .i64 x2232.Base, .int .i64 x2232.Size, .int .i64 x2232.Kind, .int .i64 x2232.Unit]⟩ 59 (0, 0)) (by kernel_rfl))) ?_
  obtain ⟨r2257, hr2257, hm⟩ := gx_bind hm
  refine W_call 91 #[.int .i64 x2231.Base, .int .i64 x2232.Base] (by kernel_rfl) (by kernel_rfl) ?_
  refine (c_cmp_Compare_91 w2239 x2231.Base x2232.Base hr2257).mono ?_
  rintro e_ w2258 ⟨rfl, K2259⟩
  have M2260 := M2240.call0 K2259
  refine ⟨_, rfl, ?_⟩
  refine W_run 1 [(4, .int .i64 r2257)] w2258 (by kernel_rfl) ?_
  refine W_nil ?_
  refine N_then ?_
  refine G_ret ?_
  obtain rfl := Option.some.inj hm
  refine N_ret [.int .i64 r2257] (RVs_cons (RV_tmp (by kernel_rfl)) RVs_nil) ?_
  exact ⟨rfl, M2260.pick [] (by kernel_rfl)⟩
theorem c_slices_insertionSortCmpFunc_96__i_asMap_1 (w : World) (x2293 : List Region) (p2295 : Option Addr) (c2296 : Nat) (sg2297 : Seg) (ho2298 : ownS encRegion x2293 p2295 c2296 sg2297) (x2299 : Int) (x2300 : Int) (hA : ∀ q ∈ List.flatten [sg2297], w.heap[q.1]? = some q.2) (hN : (idsOf [sg2297]).Nodup) {r : (List Region)} (hm : M.slices_insertionSortCmpFunc_96__i_asMap_1 x2293 x2299 x2300 = some r) :
    Calls Try.prog 96 #[.slice p2295 x2293.length c2296, .int .i64 x2299, .int .i64 x2300, .func (.func 90) #[] #[]] w fun e w' => ∃ (sg2301 : Seg), e = .returned (.tuple #[]) ∧ ownS encRegion r p2295 c2296 sg2301 ∧ r.length = x2293.length ∧ Mem (idsOf [sg2297]) w w' [sg2301] := by
  unfold M.slices_insertionSortCmpFunc_96__i_asMap_1 at hm
  refine C_enter Try.func96 rfl (by kernel_rfl) ?_
  have M0 := Mem.start' w [sg2297] hA hN
  refine G_seq ?_
  refine G_region ?_
  refine W_run 3 [(0, .slice p2295 x2293.length c2296), (1, .int .i64 x2299), (2, .int .i64 x2300), (3, .func (.func 90) #[] #[]), (8, .int .i64 (w64 (x2299 + 1)))] w (by kernel_rfl) ?_
  refine W_nil ?_
  refine N_then ?_
  obtain ⟨out3028, hw3029, hmo3030⟩ := gx_bind hm
  refine G_meet (fun a w' => ∃ (sg3035 : Seg), ownS encRegion out3028 p2295 c2296 sg3035 ∧ out3028.length = x2293.length ∧ Mem (idsOf [sg2297]) w w' [sg3035] ∧ Sat Try.f96.ntmps [] a) ?_ ?_
  · refine G_block ?_
    refine G_while (σ := Int × List Region) (ρ := List Region) (fun s3021 a w' => ∃ (sg3031 : Seg), ownS encRegion s3021.2 p2295 c2296 sg3031 ∧ s3021.2.length = x2293.length ∧ Mem (idsOf [sg2297]) w w' [sg3031] ∧ Sat Try.f96.ntmps [(0, .slice p2295 s3021.2.length c2296), (1, .int .i64 x2299), (2, .int .i64 x2300), (3, .func (.func 90) #[] #[]), (8, .int .i64 s3021.1)] a) hw3029 (fun a ha => ⟨sg2297, ho2298, rfl, M0.pick [0] (by kernel_rfl), ha.sub (by kernel_rfl)⟩) ?_
    clear hm
    intro s3021 x3022 hm hout3023 a3024 w3025 ⟨sg3031, ho3032, hl3033, M3026, hS3027⟩
    refine G_use hS3027 ?_
    refine G_seq ?_
    refine G_seq ?_
    refine G_region ?_
    refine W_run 3 [(0, .slice p2295 s3021.2.length c2296), (1, .int .i64 x2299), (2, .int .i64 x2300), (3, .func (.func 90) #[] #[]), (8, .int .i64 s3021.1), (14, .bool (decide (s3021.1 < x2300)))] w3025 (by kernel_rfl) ?_
    refine W_nil ?_
    refine N_then ?_
    rcases gx_bif hm with ⟨hc3038, hm⟩ | ⟨hc3038, hm⟩
    · refine G_cond_t (b := (decide (s3021.1 < x2300))) hc3038 (by kernel_rfl) ?_
      refine G_skip ?_
      refine N_then ?_
      refine G_seq ?_
      refine G_block ?_
      refine G_seq ?_
      refine G_region ?_
      refine W_run 2 [(0, .slice p2295 s3021.2.length c2296), (1, .int .i64 x2299), (2, .int .i64 x2300), (3, .func (.func 90) #[] #[]), (8, .int .i64 s3021.1), (9, .int .i64 s3021.1)] w3025 (by kernel_rfl) ?_
      refine W_nil ?_
      refine N_then ?_
      obtain ⟨out3271, hw3272, hmo3273⟩ := gx_bind hm
      refine G_meet (fun a w' => ∃ (sg3278 : Seg), ownS encRegion out3271 p2295 c2296 sg3278 ∧ out3271.length = x2293.length ∧ Mem (idsOf [sg2297]) w w' [sg3278] ∧ Sat Try.f96.ntmps [(0, .slice p2295 out3271.length c2296), (1, .int .i64 x2299), (2, .int .i64 x2300), (3, .func (.func 90) #[] #[]), (8, .int .i64 s3021.1)] a) ?_ ?_
      · refine G_block ?_
        refine G_while (σ := Int × List Region) (ρ := List Region) (fun s3264 a w' => ∃ (sg3274 : Seg), ownS encRegion s3264.2 p2295 c2296 sg3274 ∧ s3264.2.length = x2293.length ∧ Mem (idsOf [sg2297]) w w' [sg3274] ∧ Sat Try.f96.ntmps [(0, .slice p2295 s3264.2.length c2296), (1, .int .i64 x2299), (2, .int .i64 x2300), (3, .func (.func 90) #[] #[]), (8, .int .i64 s3021.1), (9, .int .i64 s3264.1)] a) hw3272 (fun a ha => ⟨sg3031, ho3032, hl3033, M3026.pick [0] (by kernel_rfl), ha.sub (by kernel_rfl)⟩) ?_
        clear hm
        intro s3264 x3265 hm hout3266 a3267 w3268 ⟨sg3274, ho3275, hl3276, M3269, hS3270⟩
        refine G_use hS3270 ?_
        refine G_seq ?_
        refine G_seq ?_
        obtain ⟨o3292, ho3293, hm3294⟩ := gx_bind hm
        refine G_meet (fun a w' => Mem (idsOf [sg2297]) w w' [sg3274] ∧ Sat Try.f96.ntmps [(0, .slice p2295 s3264.2.length c2296), (1, .int .i64 x2299), (2, .int .i64 x2300), (3, .func (.func 90) #[] #[]), (8, .int .i64 s3021.1), (9, .int .i64 s3264.1), (34, .bool o3292)] a) ?_ ?_
        · have hm := ho3293
          refine G_quiet (by kernel_rfl) (by kernel_rfl) M3269 ?_
          refine Z_runs [.int .i64 s3264.1, .int .i64 x2299, .bool (decide (s3264.1 > x2299)), .bool (decide (s3264.1 > x2299))] [(0, .slice p2295 s3264.2.length c2296), (1, .int .i64 x2299), (2, .int .i64 x2300), (3, .func (.func 90) #[] #[]), (8, .int .i64 s3021.1), (9, .int .i64 s3264.1), (21, .bool (decide (s3264.1 > x2299)))] (fun w_ => by kernel_rfl) (by kernel_rfl) ?_
          rcases gx_bif hm with ⟨hc3295, hm⟩ | ⟨hc3295, hm⟩
          · refine Z_known 21 true (by kernel_rfl) hc3295 ?_
            refine Z_runs [.func (.func 90) #[] #[], .slice p2295 s3264.2.length c2296, .int .i64 s3264.1] [(0, .slice p2295 s3264.2.length c2296), (1, .int .i64 x2299), (2, .int .i64 x2300), (3, .func (.func 90) #[] #[]), (8, .int .i64 s3021.1), (9, .int .i64 s3264.1), (21, .bool true), (22, .func (.func 90) #[] #[]), (23, .slice p2295 s3264.2.length c2296), (24, .int .i64 s3264.1)] (fun w_ => by kernel_rfl) (by kernel_rfl) ?_
            obtain ⟨y3296, hy3296, hm⟩ := gx_bind hm
            refine Z_val (elemP p2295 (s3264.1.toNat * 4)) (by kernel_rfl) (fun w_ M_ => (E_index (E := encRegion) _ _ _ s3264.2.length c2296 .i64 s3264.1 4 (y := y3296) rfl (by kernel_rfl) (by kernel_rfl) (by kernel_rfl) (ho3275.rd M_ 0 (by kernel_rfl)) rfl hy3296)) ?_
            refine Z_val (.agg #[.int .i64 y3296.Base, .int .i64 y3296.Size, .int .i64 y3296.Kind, .int .i64 y3296.Unit]) (by kernel_rfl) (fun w_ M_ => (E_loadE (E := encRegion) _ _ true 4 s3264.1 0 (s3264.1.toNat * 4) y3296 (.agg #[.int .i64 y3296.Base, .int .i64 y3296.Size, .int .i64 y3296.Kind, .int .i64 y3296.Unit]) rfl (by kernel_rfl) (by kernel_rfl) (by kernel_rfl) (ho3275.rd M_ 0 (by kernel_rfl)) hy3296 rfl)) ?_
            refine Z_runs [.slice p2295 s3264.2.length c2296, .int .i64 s3264.1, .int .i64 (w64 (s3264.1 - 1))] [(0, .slice p2295 s3264.2.length c2296), (1, .int .i64 x2299), (2, .int .i64 x2300), (3, .func (.func 90) #[] #[]), (8, .int .i64 s3021.1), (9, .int .i64 s3264.1), (21, .bool true), (22, .func (.func 90) #[] #[]), (26, .agg #[.int .i64 y3296.Base, .int .i64 y3296.Size, .int .i64 y3296.Kind, .int .i64 y3296.Unit]), (27, .slice p2295 s3264.2.length c2296), (29, .int .i64 (w64 (s3264.1 - 1)))] (fun w_ => by kernel_rfl) (by kernel_rfl) ?_
            obtain ⟨y3297, hy3297, hm⟩ := gx_bind hm
            refine Z_val (elemP p2295 ((w64 (s3264.1 - 1)).toNat * 4)) (by kernel_rfl) (fun w_ M_ => (E_index (E := encRegion) _ _ _ s3264.2.length c2296 .i64 (w64 (s3264.1 - 1)) 4 (y := y3297) rfl (by kernel_rfl) (by kernel_rfl) (by kernel_rfl) (ho3275.rd M_ 0 (by kernel_rfl)) rfl hy3297)) ?_
            refine Z_val (.agg #[.int .i64 y3297.Base, .int .i64 y3297.Size, .int .i64 y3297.Kind, .int .i64 y3297.Unit]) (by kernel_rfl) (fun w_ M_ => (E_loadE (E := encRegion) _ _ true 4 (w64 (s3264.1 - 1)) 0 ((w64 (s3264.1 - 1)).toNat * 4) y3297 (.agg #[.int .i64 y3297.Base, .int .i64 y3297.Size, .int .i64 y3297.Kind, .int .i64 y3297.Unit]) rfl (by kernel_rfl) (by kernel_rfl) (by kernel_rfl) (ho3275.rd M_ 0 (by kernel_rfl)) hy3297 rfl)) ?_
            obtain ⟨r3298, hr3298, hm⟩ := gx_bind hm
            refine Z_call 90 #[.agg #[.int .i64 y3296.Base, .int .i64 y3296.Size, .int .i64 y3296.Kind, .int .i64 y3296.Unit], .agg #[.int .i64 y3297.Base, .int .i64 y3297.Size, .int .i64 y3297.Kind, .int .i64 y3297.Unit]] (.int .i64 r3298) (by kernel_rfl) (fun w_ => by kernel_rfl) (fun w_ M_ => (c_i_asMap_1 w_ y3296 y3297 hr3298).mono fun e w2_ h_ => ⟨h_.1, M_.call0 h_.2⟩) ?_
            refine Z_runs [.bool (decide (r3298 < 0)), .bool (decide (r3298 < 0))] [(0, .slice p2295 s3264.2.length c2296), (1, .int .i64 x2299), (2, .int .i64 x2300), (3, .func (.func 90) #[] #[]), (8, .int .i64 s3021.1), (9, .int .i64 s3264.1), (34, .bool (decide (r3298 < 0)))] (fun w_ => by kernel_rfl) (by kernel_rfl) ?_
            refine Z_end fun w3302 M3303 => ?_
            obtain rfl := Option.some.inj hm
            exact N_meet fun a ha => ⟨M3303.pick [0] (by kernel_rfl), ha.sub (by kernel_rfl)⟩
          · refine Z_known 21 false (by kernel_rfl) hc3295 ?_
            refine Z_runs [undef, undef, undef, undef, undef, undef, undef, undef, undef, undef, undef, undef, .bool false] [(0, .slice p2295 s3264.2.length c2296), (1, .int .i64 x2299), (2, .int .i64 x2300), (3, .func (.func 90) #[] #[]), (8, .int .i64 s3021.1), (9, .int .i64 s3264.1), (34, .bool false)] (fun w_ => by kernel_rfl) (by kernel_rfl) ?_
            refine Z_end fun w3304 M3305 => ?_
            obtain rfl := Option.some.inj hm
            exact N_meet fun a ha => ⟨M3305.pick [0] (by kernel_rfl), ha.sub (by kernel_rfl)⟩
        · intro a3308 w3306 ⟨M3307, hS3309⟩
          refine N_use hS3309 ?_
          have hm := hm3294
          refine N_then ?_
          rcases gx_bif hm with ⟨hc3310, hm⟩ | ⟨hc3310, hm⟩
          · refine G_cond_t (b := o3292) hc3310 (by kernel_rfl) ?_
            refine G_skip ?_
            refine N_then ?_
            refine G_seq ?_
            refine G_block ?_
            obtain ⟨y3313, hy3313, hm⟩ := gx_bind hm
            obtain ⟨y3314, hy3314, hm⟩ := gx_bind hm
            obtain ⟨y3315, hy3315, hm⟩ := gx_bind hm
            have M3317 : Mem (idsOf [sg2297]) w w3306 ([] ++ (List.range 16).map (fun i => ([[], [], [], [], [], [], [], [], [], [], [], [], [], [], [], sg3274] : List Seg).getD i [])) := M3307.pick [300000, 300001, 300002, 300003, 300004, 300005, 300006, 300007, 300008, 300009, 300010, 300011, 300012, 300013, 300014, 0] (by kernel_rfl)
            refine G_sub [(0, .slice p2295 s3264.2.length c2296), (1, .int .i64 x2299), (2, .int .i64 x2300), (3, .func (.func 90) #[] #[]), (8, .int .i64 s3021.1), (9, .int .i64 s3264.1), (34, .bool o3292)] (by kernel_rfl) ?_
            refine G_dagL 16 [[], [], [], [], [3], [], [], [6], [5, 7], [8], [], [], [10, 11], [12], [0, 1], [9, 14]] [[], [], [], [], [], [], [], [], [], [], [], [], [], [], [], []] [[], [], [], [], [], [], [], [], [], [], [], [], [], [], [], []] [[], [], [], [], [], [], [], [], [], [], [], [], [], [], [], []] [[], [], [], [], [], [], [], [], [], [], [], [], [], [], [], []] [[], [], [], [], [], [], [], [], [15], [15], [], [], [15], [15], [15], []] (fun i => ([[], [], [], [], [], [], [], [], [], [], [], [], [], [], [], sg3274] : List Seg).getD i []) (fun i => ([fun f v s => v = (.slice p2295 s3264.2.length c2296 : Value) ∧ s = [], fun f v s => v = (.int .i64 s3264.1 : Value) ∧ s = [], fun f v s => v = (.slice p2295 s3264.2.length c2296 : Value) ∧ s = [], fun f v s => v = (.int .i64 s3264.1 : Value) ∧ s = [], fun f v s => v = (.int .i64 (w64 (s3264.1 - 1)) : Value) ∧ s = [], fun f v s => v = (.slice p2295 s3264.2.length c2296 : Value) ∧ s = [], fun f v s => v = (.int .i64 s3264.1 : Value) ∧ s = [], fun f v s => v = (.int .i64 (w64 (s3264.1 - 1)) : Value) ∧ s = [], fun f v s => v = (elemP p2295 ((w64 (s3264.1 - 1)).toNat * 4) : Value) ∧ s = [], fun f v s => v = (.agg #[.int .i64 y3313.Base, .int .i64 y3313.Size, .int .i64 y3313.Kind, .int .i64 y3313.Unit] : Value) ∧ s = [], fun f v s => v = (.slice p2295 s3264.2.length c2296 : Value) ∧ s = [], fun f v s => v = (.int .i64 s3264.1 : Value) ∧ s = [], fun f v s => v = (elemP p2295 (s3264.1.toNat * 4) : Value) ∧ s = [], fun f v s => v = (.agg #[.int .i64 y3314.Base, .int .i64 y3314.Size, .int .i64 y3314.Kind, .int .i64 y3314.Unit] : Value) ∧ s = [], fun f v s => v = (elemP p2295 (s3264.1.toNat * 4) : Value) ∧ s = [], fun f v s => v = undef ∧ ownS encRegion (s3264.2.set s3264.1.toNat y3313) p2295 c2296 s] : List ((Nat → Value) → Value → Seg → Prop)).getD i (fun _ _ _ => False)) (fun j f v => ∃ s, (fun i => ([fun f v s => v = (.slice p2295 s3264.2.length c2296 : Value) ∧ s = [], fun f v s => v = (.int .i64 s3264.1 : Value) ∧ s = [], fun f v s => v = (.slice p2295 s3264.2.length c2296 : Value) ∧ s = [], fun f v s => v = (.int .i64 s3264.1 : Value) ∧ s = [], fun f v s => v = (.int .i64 (w64 (s3264.1 - 1)) : Value) ∧ s = [], fun f v s => v = (.slice p2295 s3264.2.length c2296 : Value) ∧ s = [], fun f v s => v = (.int .i64 s3264.1 : Value) ∧ s = [], fun f v s => v = (.int .i64 (w64 (s3264.1 - 1)) : Value) ∧ s = [], fun f v s => v = (elemP p2295 ((w64 (s3264.1 - 1)).toNat * 4) : Value) ∧ s = [], fun f v s => v = (.agg #[.int .i64 y3313.Base, .int .i64 y3313.Size, .int .i64 y3313.Kind, .int .i64 y3313.Unit] : Value) ∧ s = [], fun f v s => v = (.slice p2295 s3264.2.length c2296 : Value) ∧ s = [], fun f v s => v = (.int .i64 s3264.1 : Value) ∧ s = [], fun f v s => v = (elemP p2295 (s3264.1.toNat * 4) : Value) ∧ s = [], fun f v s => v = (.agg #[.int .i64 y3314.Base, .int .i64 y3314.Size, .int .i64 y3314.Kind, .int .i64 y3314.Unit] : Value) ∧ s = [], fun f v s => v = (elemP p2295 (s3264.1.toNat * 4) : Value) ∧ s = [], fun f v s => v = undef ∧ ownS encRegion (s3264.2.set s3264.1.toNat y3313) p2295 c2296 s] : List ((Nat → Value) → Value → Seg → Prop)).getD i (fun _ _ _ => False)) j f v s) [] [2, 4, 13, 15] [15] (fun _ _ _ s h => ⟨s, h⟩) (by kernel_rfl) (by kernel_rfl) M3317 (by kernel_rfl) (by kernel_rfl) (by kernel_rfl) (by kernel_rfl) (allOb_cons ?_ (allOb_cons ?_ (allOb_cons ?_ (allOb_cons ?_ (allOb_cons ?_ (allOb_cons ?_ (allOb_cons ?_ (allOb_cons ?_ (allOb_cons ?_ (allOb_cons ?_ (allOb_cons ?_ (allOb_cons ?_ (allOb_cons ?_ (allOb_cons ?_ (allOb_cons ?_ (allOb_cons ?_ allOb_nil)))))))))))))))) ?_
            · intro g3311 f3312
              intro R w3318 M3319
              refine W_run 1 [(37, .slice p2295 s3264.2.length c2296)] w3318 (by kernel_rfl) ?_
              exact W_nil (ob_end (.slice p2295 s3264.2.length c2296) [] rfl (by kernel_rfl) ⟨by kernel_rfl, rfl⟩ M3319)
            · intro g3311 f3312
              intro R w3322 M3323
              refine W_run 1 [(38, .int .i64 s3264.1)] w3322 (by kernel_rfl) ?_
              exact W_nil (ob_end (.int .i64 s3264.1) [] rfl (by kernel_rfl) ⟨by kernel_rfl, rfl⟩ M3323)
            · intro g3311 f3312
              intro R w3326 M3327
              refine W_run 1 [(39, .slice p2295 s3264.2.length c2296)] w3326 (by kernel_rfl) ?_
              exact W_nil (ob_end (.slice p2295 s3264.2.length c2296) [] rfl (by kernel_rfl) ⟨by kernel_rfl, rfl⟩ M3327)
            · intro g3311 f3312
              intro R w3330 M3331
              refine W_run 1 [(40, .int .i64 s3264.1)] w3330 (by kernel_rfl) ?_
              exact W_nil (ob_end (.int .i64 s3264.1) [] rfl (by kernel_rfl) ⟨by kernel_rfl, rfl⟩ M3331)
            · intro g3311 f3312
              intro v3_ hb3_
              obtain ⟨rfl, _⟩ := hb3_
              intro R w3334 M3335
              refine W_run 1 [(41, .int .i64 (w64 (s3264.1 - 1)))] w3334 (by kernel_rfl) ?_
              exact W_nil (ob_end (.int .i64 (w64 (s3264.1 - 1))) [] rfl (by kernel_rfl) ⟨by kernel_rfl, rfl⟩ M3335)
            · intro g3311 f3312
              intro R w3338 M3339
              refine W_run 1 [(42, .slice p2295 s3264.2.length c2296)] w3338 (by kernel_rfl) ?_
              exact W_nil (ob_end (.slice p2295 s3264.2.length c2296) [] rfl (by kernel_rfl) ⟨by kernel_rfl, rfl⟩ M3339)
            · intro g3311 f3312
              intro R w3342 M3343
              refine W_run 1 [(43, .int .i64 s3264.1)] w3342 (by kernel_rfl) ?_
              exact W_nil (ob_end (.int .i64 s3264.1) [] rfl (by kernel_rfl) ⟨by kernel_rfl, rfl⟩ M3343)
            · intro g3311 f3312
              intro v6_ hb6_
              obtain ⟨rfl, _⟩ := hb6_
              intro R w3346 M3347
              refine W_run 1 [(44, .int .i64 (w64 (s3264.1 - 1)))] w3346 (by kernel_rfl) ?_
              exact W_nil (ob_end (.int .i64 (w64 (s3264.1 - 1))) [] rfl (by kernel_rfl) ⟨by kernel_rfl, rfl⟩ M3347)
            · intro g3311 f3312
              intro v5_ hb5_
              obtain ⟨rfl, _⟩ := hb5_
              intro v7_ hb7_
              obtain ⟨rfl, _⟩ := hb7_
              intro R w3350 M3351
              refine W_val (elemP p2295 ((w64 (s3264.1 - 1)).toNat * 4)) w3350 (by kernel_rfl) (E_index (E := encRegion) _ _ _ s3264.2.length c2296 .i64 (w64 (s3264.1 - 1)) 4 (y := y3313) rfl (by kernel_rfl) (by kernel_rfl) (by kernel_rfl) (ho3275.rd M3351 1 (by kernel_rfl)) rfl hy3313) ?_
              exact W_nil (ob_end (elemP p2295 ((w64 (s3264.1 - 1)).toNat * 4)) [] rfl (by kernel_rfl) ⟨by kernel_rfl, rfl⟩ M3351)
            · intro g3311 f3312
              intro v8_ hb8_
              obtain ⟨rfl, _⟩ := hb8_
              intro R w3354 M3355
              refine W_val (.agg #[.int .i64 y3313.Base, .int .i64 y3313.Size, .int .i64 y3313.Kind, .int .i64 y3313.Unit]) w3354 (by kernel_rfl) (E_loadE (E := encRegion) _ _ true 4 (w64 (s3264.1 - 1)) 0 ((w64 (s3264.1 - 1)).toNat * 4) y3313 (.agg #[.int .i64 y3313.Base, .int .i64 y3313.Size, .int .i64 y3313.Kind, .int .i64 y3313.Unit]) rfl (by kernel_rfl) (by kernel_rfl) (by kernel_rfl) (ho3275.rd M3355 1 (by kernel_rfl)) hy3313 rfl) ?_
              exact W_nil (ob_end (.agg #[.int .i64 y3313.Base, .int .i64 y3313.Size, .int .i64 y3313.Kind, .int .i64 y3313.Unit]) [] rfl (by kernel_rfl) ⟨by kernel_rfl, rfl⟩ M3355)
            · intro g3311 f3312
              intro R w3358 M3359
              refine W_run 1 [(47, .slice p2295 s3264.2.length c2296)] w3358 (by kernel_rfl) ?_
              exact W_nil (ob_end (.slice p2295 s3264.2.length c2296) [] rfl (by kernel_rfl) ⟨by kernel_rfl, rfl⟩ M3359)
            · intro g3311 f3312
              intro R w3362 M3363
              refine W_run 1 [(48, .int .i64 s3264.1)] w3362 (by kernel_rfl) ?_
              exact W_nil (ob_end (.int .i64 s3264.1) [] rfl (by kernel_rfl) ⟨by kernel_rfl, rfl⟩ M3363)
            · intro g3311 f3312
              intro v10_ hb10_
              obtain ⟨rfl, _⟩ := hb10_
              intro v11_ hb11_
              obtain ⟨rfl, _⟩ := hb11_
              intro R w3366 M3367
              refine W_val (elemP p2295 (s3264.1.toNat * 4)) w3366 (by kernel_rfl) (E_index (E := encRegion) _ _ _ s3264.2.length c2296 .i64 s3264.1 4 (y := y3314) rfl (by kernel_rfl) (by kernel_rfl) (by kernel_rfl) (ho3275.rd M3367 1 (by kernel_rfl)) rfl hy3314) ?_
              exact W_nil (ob_end (elemP p2295 (s3264.1.toNat * 4)) [] rfl (by kernel_rfl) ⟨by kernel_rfl, rfl⟩ M3367)
            · intro g3311 f3312
              intro v12_ hb12_
              obtain ⟨rfl, _⟩ := hb12_
              intro R w3370 M3371
              refine W_val (.agg #[.int .i64 y3314.Base, .int .i64 y3314.Size, .int .i64 y3314.Kind, .int .i64 y3314.Unit]) w3370 (by kernel_rfl) (E_loadE (E := encRegion) _ _ true 4 s3264.1 0 (s3264.1.toNat * 4) y3314 (.agg #[.int .i64 y3314.Base, .int .i64 y3314.Size, .int .i64 y3314.Kind, .int .i64 y3314.Unit]) rfl (by kernel_rfl) (by kernel_rfl) (by kernel_rfl) (ho3275.rd M3371 1 (by kernel_rfl)) hy3314 rfl) ?_
              exact W_nil (ob_end (.agg #[.int .i64 y3314.Base, .int .i64 y3314.Size, .int .i64 y3314.Kind, .int .i64 y3314.Unit]) [] rfl (by kernel_rfl) ⟨by kernel_rfl, rfl⟩ M3371)
            · intro g3311 f3312
              intro v0_ hb0_
              obtain ⟨rfl, _⟩ := hb0_
              intro v1_ hb1_
              obtain ⟨rfl, _⟩ := hb1_
              intro R w3374 M3375
              refine W_val (elemP p2295 (s3264.1.toNat * 4)) w3374 (by kernel_rfl) (E_index (E := encRegion) _ _ _ s3264.2.length c2296 .i64 s3264.1 4 (y := y3315) rfl (by kernel_rfl) (by kernel_rfl) (by kernel_rfl) (ho3275.rd M3375 1 (by kernel_rfl)) rfl hy3315) ?_
              exact W_nil (ob_end (elemP p2295 (s3264.1.toNat * 4)) [] rfl (by kernel_rfl) ⟨by kernel_rfl, rfl⟩ M3375)
            · intro g3311 f3312
              intro v9_ hb9_
              obtain ⟨rfl, _⟩ := hb9_
              intro v14_ hb14_
              obtain ⟨rfl, _⟩ := hb14_
              intro R w3378 M3379
              refine W_storeE (E := encRegion) _ _ _ true 4 s3264.1.toNat 0 (s3264.1.toNat * 4) y3315 y3313 (.agg #[.int .i64 y3313.Base, .int .i64 y3313.Size, .int .i64 y3313.Kind, .int .i64 y3313.Unit]) 0 M3379 ho3275 (by kernel_rfl) (by kernel_rfl) rfl (by kernel_rfl) (by kernel_rfl) (by kernel_rfl) (by kernel_rfl) (by kernel_rfl) (by kernel_rfl) (by kernel_rfl) (gxIdx_spec hy3315).2 rfl ?_
              intro w3380 sg3382 ho3383 M3381
              exact W_nil (ob_none sg3382 rfl ⟨rfl, ho3383⟩ M3381)
            · intro g3311 f3312
              intro v2_ hb2_
              obtain ⟨rfl, _⟩ := hb2_
              intro v4_ hb4_
              obtain ⟨rfl, _⟩ := hb4_
              intro v13_ hb13_
              obtain ⟨rfl, _⟩ := hb13_
              intro v15_ hb15_
              obtain ⟨rfl, ho3316⟩ := hb15_
              intro w3384 M3385
              have M3386 : Mem (idsOf [sg2297]) w w3384 [(g3311 15)] := M3385
              refine W_conv 0 (.slice p2295 s3264.2.length c2296) (.slice p2295 (s3264.2.set s3264.1.toNat y3313).length c2296) (by kernel_rfl) (by rw [@List.length_set _ s3264.2 s3264.1.toNat y3313]) ?_
              refine W_conv 39 (.slice p2295 s3264.2.length c2296) (.slice p2295 (s3264.2.set s3264.1.toNat y3313).length c2296) (by kernel_rfl) (by rw [@List.length_set _ s3264.2 s3264.1.toNat y3313]) ?_
              obtain ⟨y3387, hy3387, hm⟩ := gx_bind hm
              refine W_val (elemP p2295 ((w64 (s3264.1 - 1)).toNat * 4)) w3384 (by kernel_rfl) (E_index (E := encRegion) _ _ _ (s3264.2.set s3264.1.toNat y3313).length c2296 .i64 (w64 (s3264.1 - 1)) 4 (y := y3387) rfl (by kernel_rfl) (by kernel_rfl) (by kernel_rfl) (ho3316.rd M3386 0 (by kernel_rfl)) rfl hy3387) ?_
              refine W_storeE (E := encRegion) _ _ _ true 4 (w64 (s3264.1 - 1)).toNat 0 ((w64 (s3264.1 - 1)).toNat * 4) y3387 y3314 (.agg #[.int .i64 y3314.Base, .int .i64 y3314.Size, .int .i64 y3314.Kind, .int .i64 y3314.Unit]) 0 M3386 ho3316 (by kernel_rfl) (by kernel_rfl) rfl (by kernel_rfl) (by kernel_rfl) (by kernel_rfl) (by kernel_rfl) (by kernel_rfl) (by kernel_rfl) (by kernel_rfl) (gxIdx_spec hy3387).2 rfl ?_
              intro w3388 sg3390 ho3391 M3389
              refine W_conv 0 (.slice p2295 (s3264.2.set s3264.1.toNat y3313).length c2296) (.slice p2295 ((s3264.2.set s3264.1.toNat y3313).set (w64 (s3264.1 - 1)).toNat y3314).length c2296) (by kernel_rfl) (by rw [@List.length_set _ (s3264.2.set s3264.1.toNat y3313) ((w64 (s3264.1 - 1)).toNat) y3314]) ?_
              refine W_conv 39 (.slice p2295 (s3264.2.set s3264.1.toNat y3313).length c2296) (.slice p2295 ((s3264.2.set s3264.1.toNat y3313).set (w64 (s3264.1 - 1)).toNat y3314).length c2296) (by kernel_rfl) (by rw [@List.length_set _ (s3264.2.set s3264.1.toNat y3313) ((w64 (s3264.1 - 1)).toNat) y3314]) ?_
              refine W_nil ?_
              refine N_block ?_
              refine N_then ?_
              refine G_region ?_
              refine W_run 3 [(0, .slice p2295 ((s3264.2.set s3264.1.toNat y3313).set (w64 (s3264.1 - 1)).toNat y3314).length c2296), (1, .int .i64 x2299), (2, .int .i64 x2300), (3, .func (.func 90) #[] #[]), (8, .int .i64 s3021.1), (9, .int .i64 (w64 (s3264.1 - 1)))] w3388 (by kernel_rfl) ?_
              refine W_nil ?_
              obtain rfl := Option.some.inj hm
              exact N_loop fun a ha => ⟨_, rfl, sg3390, ho3391, (List.length_set.trans (List.length_set.trans hl3276)), M3389.pick [0] (by kernel_rfl), ha.sub (by kernel_rfl)⟩
          · refine G_cond_f (b := o3292) hc3310 (by kernel_rfl) ?_
            refine G_exit ?_
            refine N_then_exit ?_
            refine N_then_exit ?_
            refine N_block_eq ?_
            obtain rfl := Option.some.inj hm
            obtain rfl := hout3266 _ rfl
            exact N_meet fun a ha => ⟨sg3274, ho3275, hl3276, M3307.pick [0] (by kernel_rfl), ha.sub (by kernel_rfl)⟩
      · intro a3392 w3393 ⟨sg3278, ho3279, hl3280, M3394, hS3395⟩
        refine N_use hS3395 ?_
        have hm := hmo3273
        refine N_block ?_
        refine N_then ?_
        refine G_region ?_
        refine W_run 3 [(0, .slice p2295 out3271.length c2296), (1, .int .i64 x2299), (2, .int .i64 x2300), (3, .func (.func 90) #[] #[]), (8, .int .i64 (w64 (s3021.1 + 1)))] w3393 (by kernel_rfl) ?_
        refine W_nil ?_
        obtain rfl := Option.some.inj hm
        exact N_loop fun a ha => ⟨_, rfl, sg3278, ho3279, hl3280, M3394.pick [0] (by kernel_rfl), ha.sub (by kernel_rfl)⟩
    · refine G_cond_f (b := (decide (s3021.1 < x2300))) hc3038 (by kernel_rfl) ?_
      refine G_exit ?_
      refine N_then_exit ?_
      refine N_then_exit ?_
      refine N_block_eq ?_
      obtain rfl := Option.some.inj hm
      obtain rfl := hout3023 _ rfl
      exact N_meet fun a ha => ⟨sg3031, ho3032, hl3033, M3026.pick [0] (by kernel_rfl), ha.sub (by kernel_rfl)⟩
  · intro a3396 w3397 ⟨sg3035, ho3036, hl3037, M3398, hS3399⟩
    refine N_use hS3399 ?_
    have hm := hmo3030
    obtain rfl := Option.some.inj hm
    refine N_end [] (RVs_nil) ?_
    exact ⟨sg3035, rfl, ho3036, hl3037, M3398.pick [0] (by kernel_rfl)⟩
theorem c_slices_swapRangeCmpFunc_99__i_asMap_1 (w : World) (x4352 : List Region) (p4354 : Option Addr) (c4355 : Nat) (sg4356 : Seg) (ho4357 : ownS encRegion x4352 p4354 c4355 sg4356) (x4358 : Int) (x4359 : Int) (x4360 : Int) (hA : ∀ q ∈ List.flatten [sg4356], w.heap[q.1]? = some q.2) (hN : (idsOf [sg4356]).Nodup) {r : (List Region)} (hm : M.slices_swapRangeCmpFunc_99__i_asMap_1 x4352 x4358 x4359 x4360 = some r) :
    Calls Try.prog 99 #[.slice p4354 x4352.length c4355, .int .i64 x4358, .int .i64 x4359, .int .i64 x4360, .func (.func 90) #[] #[]] w fun e w' => ∃ (sg4361 : Seg), e = .returned (.tuple #[]) ∧ ownS encRegion r p4354 c4355 sg4361 ∧ r.length = x4352.length ∧ Mem (idsOf [sg4356]) w w' [sg4361] := by
  unfold M.slices_swapRangeCmpFunc_99__i_asMap_1 at hm
  refine C_enter Try.func99 rfl (by kernel_rfl) ?_
  have M0 := Mem.start' w [sg4356] hA hN
  refine G_seq ?_
  refine G_region ?_
  refine W_run 1 [(0, .slice p4354 x4352.length c4355), (1, .int .i64 x4358), (2, .int .i64 x4359), (3, .int .i64 x4360), (10, .int .i64 0)] w (by kernel_rfl) ?_
  refine W_nil ?_
  refine N_then ?_
  obtain ⟨out4584, hw4585, hmo4586⟩ := gx_bind hm
  refine G_meet (fun a w' => ∃ (sg4591 : Seg), ownS encRegion out4584 p4354 c4355 sg4591 ∧ out4584.length = x4352.length ∧ Mem (idsOf [sg4356]) w w' [sg4591] ∧ Sat Try.f99.ntmps [] a) ?_ ?_
  · refine G_block ?_
    refine G_while (σ := Int × List Region) (ρ := List Region) (fun s4577 a w' => ∃ (sg4587 : Seg), ownS encRegion s4577.2 p4354 c4355 sg4587 ∧ s4577.2.length = x4352.length ∧ Mem (idsOf [sg4356]) w w' [sg4587] ∧ Sat Try.f99.ntmps [(0, .slice p4354 s4577.2.length c4355), (1, .int .i64 x4358), (2, .int .i64 x4359), (3, .int .i64 x4360), (10, .int .i64 s4577.1)] a) hw4585 (fun a ha => ⟨sg4356, ho4357, rfl, M0.pick [0] (by kernel_rfl), ha.sub (by kernel_rfl)⟩) ?_
    clear hm
    intro s4577 x4578 hm hout4579 a4580 w4581 ⟨sg4587, ho4588, hl4589, M4582, hS4583⟩
    refine G_use hS4583 ?_
    refine G_seq ?_
    refine G_seq ?_
    refine G_region ?_
    refine W_run 3 [(0, .slice p4354 s4577.2.length c4355), (1, .int .i64 x4358), (2, .int .i64 x4359), (3, .int .i64 x4360), (10, .int .i64 s4577.1), (13, .bool (decide (s4577.1 < x4360)))] w4581 (by kernel_rfl) ?_
    refine W_nil ?_
    refine N_then ?_
    rcases gx_bif hm with ⟨hc4594, hm⟩ | ⟨hc4594, hm⟩
    · refine G_cond_t (b := (decide (s4577.1 < x4360))) hc4594 (by kernel_rfl) ?_
      refine G_skip ?_
      refine N_then ?_
      refine G_seq ?_
      refine G_block ?_
      obtain ⟨y4597, hy4597, hm⟩ := gx_bind hm
      obtain ⟨y4598, hy4598, hm⟩ := gx_bind hm
      obtain ⟨y4599, hy4599, hm⟩ := gx_bind hm
      have M4601 : Mem (idsOf [sg4356]) w w4581 ([] ++ (List.range 22).map (fun i => ([[], [], [], [], [], [], [], [], [], [], [], [], [], [], [], [], [], [], [], [], [], sg4587] : List Seg).getD i [])) := M4582.pick [300000, 300001, 300002, 300003, 300004, 300005, 300006, 300007, 300008, 300009, 300010, 300011, 300012, 300013, 300014, 300015, 300016, 300017, 300018, 300019, 300020, 0] (by kernel_rfl)
      refine G_sub [(0, .slice p4354 s4577.2.length c4355), (1, .int .i64 x4358), (2, .int .i64 x4359), (3, .int .i64 x4360), (10, .int .i64 s4577.1), (13, .bool (decide (s4577.1 < x4360)))] (by kernel_rfl) ?_
      refine G_dagL 22 [[], [], [], [1, 2], [], [], [], [5, 6], [], [], [], [9, 10], [8, 11], [12], [], [], [], [15, 16], [14, 17], [18], [0, 3], [13, 20]] [[], [], [], [], [], [], [], [], [], [], [], [], [], [], [], [], [], [], [], [], [], []] [[], [], [], [], [], [], [], [], [], [], [], [], [], [], [], [], [], [], [], [], [], []] [[], [], [], [], [], [], [], [], [], [], [], [], [], [], [], [], [], [], [], [], [], []] [[], [], [], [], [], [], [], [], [], [], [], [], [], [], [], [], [], [], [], [], [], []] [[], [], [], [], [], [], [], [], [], [], [], [], [21], [21], [], [], [], [], [21], [21], [21], []] (fun i => ([[], [], [], [], [], [], [], [], [], [], [], [], [], [], [], [], [], [], [], [], [], sg4587] : List Seg).getD i []) (fun i => ([fun f v s => v = (.slice p4354 s4577.2.length c4355 : Value) ∧ s = [], fun f v s => v = (.int .i64 x4358 : Value) ∧ s = [], fun f v s => v = (.int .i64 s4577.1 : Value) ∧ s = [], fun f v s => v = (.int .i64 (w64 (x4358 + s4577.1)) : Value) ∧ s = [], fun f v s => v = (.slice p4354 s4577.2.length c4355 : Value) ∧ s = [], fun f v s => v = (.int .i64 x4359 : Value) ∧ s = [], fun f v s => v = (.int .i64 s4577.1 : Value) ∧ s = [], fun f v s => v = (.int .i64 (w64 (x4359 + s4577.1)) : Value) ∧ s = [], fun f v s => v = (.slice p4354 s4577.2.length c4355 : Value) ∧ s = [], fun f v s => v = (.int .i64 x4359 : Value) ∧ s = [], fun f v s => v = (.int .i64 s4577.1 : Value) ∧ s = [], fun f v s => v = (.int .i64 (w64 (x4359 + s4577.1)) : Value) ∧ s = [], fun f v s => v = (elemP p4354 ((w64 (x4359 + s4577.1)).toNat * 4) : Value) ∧ s = [], fun f v s => v = (.agg #[.int .i64 y4597.Base, .int .i64 y4597.Size, .int .i64 y4597.Kind, .int .i64 y4597.Unit] : Value) ∧ s = [], fun f v s => v = (.slice p4354 s4577.2.length c4355 : Value) ∧ s = [], fun f v s => v = (.int .i64 x4358 : Value) ∧ s = [], fun f v s => v = (.int .i64 s4577.1 : Value) ∧ s = [], fun f v s => v = (.int .i64 (w64 (x4358 + s4577.1)) : Value) ∧ s = [], fun f v s => v = (elemP p4354 ((w64 (x4358 + s4577.1)).toNat * 4) : Value) ∧ s = [], fun f v s => v = (.agg #[.int .i64 y4598.Base, .int .i64 y4598.Size, .int .i64 y4598.Kind, .int .i64 y4598.Unit] : Value) ∧ s = [], fun f v s => v = (elemP p4354 ((w64 (x4358 + s4577.1)).toNat * 4) : Value) ∧ s = [], fun f v s => v = undef ∧ ownS encRegion (s4577.2.set (w64 (x4358 + s4577.1)).toNat y4597) p4354 c4355 s] : List ((Nat → Value) → Value → Seg → Prop)).getD i (fun _ _ _ => False)) (fun j f v => ∃ s, (fun i => ([fun f v s => v = (.slice p4354 s4577.2.length c4355 : Value) ∧ s = [], fun f v s => v = (.int .i64 x4358 : Value) ∧ s = [], fun f v s => v = (.int .i64 s4577.1 : Value) ∧ s = [], fun f v s => v = (.int .i64 (w64 (x4358 + s4577.1)) : Value) ∧ s = [], fun f v s => v = (.slice p4354 s4577.2.length c4355 : Value) ∧ s = [], fun f v s => v = (.int .i64 x4359 : Value) ∧ s = [], fun f v s => v = (.int .i64 s4577.1 : Value) ∧ s = [], fun f v s => v = (.int .i64 (w64 (x4359 + s4577.1)) : Value) ∧ s = [], fun f v s => v = (.slice p4354 s4577.2.length c4355 : Value) ∧ s = [], fun f v s => v = (.int .i64 x4359 : Value) ∧ s = [], fun f v s => v = (.int .i64 s4577.1 : Value) ∧ s = [], fun f v s => v = (.int .i64 (w64 (x4359 + s4577.1)) : Value) ∧ s = [], fun f v s => v = (elemP p4354 ((w64 (x4359 + s4577.1)).toNat * 4) : Value) ∧ s = [], fun f v s => v = (.agg #[.int .i64 y4597.Base, .int .i64 y4597.Size, .int .i64 y4597.Kind, .int .i64 y4597.Unit] : Value) ∧ s = [], fun f v s => v = (.slice p4354 s4577.2.length c4355 : Value) ∧ s = [], fun f v s => v = (.int .i64 x4358 : Value) ∧ s = [], fun f v s => v = (.int .i64 s4577.1 : Value) ∧ s = [], fun f v s => v = (.int .i64 (w64 (x4358 + s4577.1)) : Value) ∧ s = [], fun f v s => v = (elemP p4354 ((w64 (x4358 + s4577.1)).toNat * 4) : Value) ∧ s = [], fun f v s => v = (.agg #[.int .i64 y4598.Base, .int .i64 y4598.Size, .int .i64 y4598.Kind, .int .i64 y4598.Unit] : Value) ∧ s = [], fun f v s => v = (elemP p4354 ((w64 (x4358 + s4577.1)).toNat * 4) : Value) ∧ s = [], fun f v s => v = undef ∧ ownS encRegion (s4577.2.set (w64 (x4358 + s4577.1)).toNat y4597) p4354 c4355 s] : List ((Nat → Value) → Value → Seg → Prop)).getD i (fun _ _ _ => False)) j f v s) [] [4, 7, 19, 21] [21] (fun _ _ _ s h => ⟨s, h⟩) (by kernel_rfl) (by kernel_rfl) M4601 (by kernel_rfl) (by kernel_rfl) (by kernel_rfl) (by kernel_rfl) (allOb_cons ?_ (allOb_cons ?_ (allOb_cons ?_ (allOb_cons ?_ (allOb_cons ?_ (allOb_cons ?_ (allOb_cons ?_ (allOb_cons ?_ (allOb_cons ?_ (allOb_cons ?_ (allOb_cons ?_ (allOb_cons ?_ (allOb_cons ?_ (allOb_cons ?_ (allOb_cons ?_ (allOb_cons ?_ (allOb_cons ?_ (allOb_cons ?_ (allOb_cons ?_ (allOb_cons ?_ (allOb_cons ?_ (allOb_cons ?_ allOb_nil)))))))))))))))))))))) ?_
      · intro g4595 f4596
        intro R w4602 M4603
        refine W_run 1 [(16, .slice p4354 s4577.2.length c4355)] w4602 (by kernel_rfl) ?_
        exact W_nil (ob_end (.slice p4354 s4577.2.length c4355) [] rfl (by kernel_rfl) ⟨by kernel_rfl, rfl⟩ M4603)
      · intro g4595 f4596
        intro R w4606 M4607
        refine W_run 1 [(17, .int .i64 x4358)] w4606 (by kernel_rfl) ?_
        exact W_nil (ob_end (.int .i64 x4358) [] rfl (by kernel_rfl) ⟨by kernel_rfl, rfl⟩ M4607)
      · intro g4595 f4596
        intro R w4610 M4611
        refine W_run 1 [(18, .int .i64 s4577.1)] w4610 (by kernel_rfl) ?_
        exact W_nil (ob_end (.int .i64 s4577.1) [] rfl (by kernel_rfl) ⟨by kernel_rfl, rfl⟩ M4611)
      · intro g4595 f4596
        intro v1_ hb1_
        obtain ⟨rfl, _⟩ := hb1_
        intro v2_ hb2_
        obtain ⟨rfl, _⟩ := hb2_
        intro R w4614 M4615
        refine W_run 1 [(19, .int .i64 (w64 (x4358 + s4577.1)))] w4614 (by kernel_rfl) ?_
        exact W_nil (ob_end (.int .i64 (w64 (x4358 + s4577.1))) [] rfl (by kernel_rfl) ⟨by kernel_rfl, rfl⟩ M4615)
      · intro g4595 f4596
        intro R w4618 M4619
        refine W_run 1 [(20, .slice p4354 s4577.2.length c4355)] w4618 (by kernel_rfl) ?_
        exact W_nil (ob_end (.slice p4354 s4577.2.length c4355) [] rfl (by kernel_rfl) ⟨by kernel_rfl, rfl⟩ M4619)
      · intro g4595 f4596
        intro R w4622 M4623
        refine W_run 1 [(21, .int .i64 x4359)] w4622 (by kernel_rfl) ?_
        exact W_nil (ob_end (.int .i64 x4359) [] rfl (by kernel_rfl) ⟨by kernel_rfl, rfl⟩ M4623)
      · intro g4595 f4596
        intro R w4626 M4627
        refine W_run 1 [(22, .int .i64 s4577.1)] w4626 (by kernel_rfl) ?_
        exact W_nil (ob_end (.int .i64 s4577.1) [] rfl (by kernel_rfl) ⟨by kernel_rfl, rfl⟩ M4627)
      · intro g4595 f4596
        intro v5_ hb5_
        obtain ⟨rfl, _⟩ := hb5_
        intro v6_ hb6_
        obtain ⟨rfl, _⟩ := hb6_
        intro R w4630 M4631
        refine W_run 1 [(23, .int .i64 (w64 (x4359 + s4577.1)))] w4630 (by kernel_rfl) ?_
        exact W_nil (ob_end (.int .i64 (w64 (x4359 + s4577.1))) [] rfl (by kernel_rfl) ⟨by kernel_rfl, rfl⟩ M4631)
      · intro g4595 f4596
        intro R w4634 M4635
        refine W_run 1 [(24, .slice p4354 s4577.2.length c4355)] w4634 (by kernel_rfl) ?_
        exact W_nil (ob_end (.slice p4354 s4577.2.length c4355) [] rfl (by kernel_rfl) ⟨by kernel_rfl, rfl⟩ M4635)
      · intro g4595 f4596
        intro R w4638 M4639
        refine W_run 1 [(25, .int .i64 x4359)] w4638 (by kernel_rfl) ?_
        exact W_nil (ob_end (.int .i64 x4359) [] rfl (by kernel_rfl) ⟨by kernel_rfl, rfl⟩ M4639)
      · intro g4595 f4596
        intro R w4642 M4643
        refine W_run 1 [(26, .int .i64 s4577.1)] w4642 (by kernel_rfl) ?_
        exact W_nil (ob_end (.int .i64 s4577.1) [] rfl (by kernel_rfl) ⟨by kernel_rfl, rfl⟩ M4643)
      · intro g4595 f4596
        intro v9_ hb9_
        obtain ⟨rfl, _⟩ := hb9_
        intro v10_ hb10_
        obtain ⟨rfl, _⟩ := hb10_
        intro R w4646 M4647
        refine W_run 1 [(27, .int .i64 (w64 (x4359 + s4577.1)))] w4646 (by kernel_rfl) ?_
        exact W_nil (ob_end (.int .i64 (w64 (x4359 + s4577.1))) [] rfl (by kernel_rfl) ⟨by kernel_rfl, rfl⟩ M4647)
      · intro g4595 f4596
        intro v8_ hb8_
        obtain ⟨rfl, _⟩ := hb8_
        intro v11_ hb11_
        obtain ⟨rfl, _⟩ := hb11_
        intro R w4650 M4651
        refine W_val (elemP p4354 ((w64 (x4359 + s4577.1)).toNat * 4)) w4650 (by kernel_rfl) (E_index (E := encRegion) _ _ _ s4577.2.length c4355 .i64 (w64 (x4359 + s4577.1)) 4 (y := y4597) rfl (by kernel_rfl) (by kernel_rfl) (by kernel_rfl) (ho4588.rd M4651 1 (by kernel_rfl)) rfl hy4597) ?_
        exact W_nil (ob_end (elemP p4354 ((w64 (x4359 + s4577.1)).toNat * 4)) [] rfl (by kernel_rfl) ⟨by kernel_rfl, rfl⟩ M4651)
      · intro g4595 f4596
        intro v12_ hb12_
        obtain ⟨rfl, _⟩ := hb12_
        intro R w4654 M4655
        refine W_val (.agg #[.int .i64 y4597.Base, .int .i64 y4597.Size, .int .i64 y4597.Kind, .int .i64 y4597.Unit]) w4654 (by kernel_rfl) (E_loadE (E := encRegion) _ _ true 4 (w64 (x4359 + s4577.1)) 0 ((w64 (x4359 + s4577.1)).toNat * 4) y4597 (.agg #[.int .i64 y4597.Base, .int .i64 y4597.Size, .int .i64 y4597.Kind, .int .i64 y4597.Unit]) rfl (by kernel_rfl) (by kernel_rfl) (by kernel_rfl) (ho4588.rd M4655 1 (by kernel_rfl)) hy4597 rfl) ?_
        exact W_nil (ob_end (.agg #[.int .i64 y4597.Base, .int .i64 y4597.Size, .int .i64 y4597.Kind, .int .i64 y4597.Unit]) [] rfl (by kernel_rfl) ⟨by kernel_rfl, rfl⟩ M4655)
      · intro g4595 f4596
        intro R w4658 M4659
        refine W_run 1 [(30, .slice p4354 s4577.2.length c4355)] w4658 (by kernel_rfl) ?_
        exact W_nil (ob_end (.slice p4354 s4577.2.length c4355) [] rfl (by kernel_rfl) ⟨by kernel_rfl, rfl⟩ M4659)
      · intro g4595 f4596
        intro R w4662 M4663
        refine W_run 1 [(31, .int .i64 x4358)] w4662 (by kernel_rfl) ?_
        exact W_nil (ob_end (.int .i64 x4358) [] rfl (by kernel_rfl) ⟨by kernel_rfl, rfl⟩ M4663)
      · intro g4595 f4596
        intro R w4666 M4667
        refine W_run 1 [(32, .int .i64 s4577.1)] w4666 (by kernel_rfl) ?_
        exact W_nil (ob_end (.int .i64 s4577.1) [] rfl (by kernel_rfl) ⟨by kernel_rfl, rfl⟩ M4667)
      · intro g4595 f4596
        intro v15_ hb15_
        obtain ⟨rfl, _⟩ := hb15_
        intro v16_ hb16_
        obtain ⟨rfl, _⟩ := hb16_
        intro R w4670 M4671
        refine W_run 1 [(33, .int .i64 (w64 (x4358 + s4577.1)))] w4670 (by kernel_rfl) ?_
        exact W_nil (ob_end (.int .i64 (w64 (x4358 + s4577.1))) [] rfl (by kernel_rfl) ⟨by kernel_rfl, rfl⟩ M4671)
      · intro g4595 f4596
        intro v14_ hb14_
        obtain ⟨rfl, _⟩ := hb14_
        intro v17_ hb17_
        obtain ⟨rfl, _⟩ := hb17_
        intro R w4674 M4675
        refine W_val (elemP p4354 ((w64 (x4358 + s4577.1)).toNat * 4)) w4674 (by kernel_rfl) (E_index (E := encRegion) _ _ _ s4577.2.length c4355 .i64 (w64 (x4358 + s4577.1)) 4 (y := y4598) rfl (by kernel_rfl) (by kernel_rfl) (by kernel_rfl) (ho4588.rd M4675 1 (by kernel_rfl)) rfl hy4598) ?_
        exact W_nil (ob_end (elemP p4354 ((w64 (x4358 + s4577.1)).toNat * 4)) [] rfl (by kernel_rfl) ⟨by kernel_rfl, rfl⟩ M4675)
      · intro g4595 f4596
        intro v18_ hb18_
        obtain ⟨rfl, _⟩ := hb18_
        intro R w4678 M4679
        refine W_val (.agg #[.int .i64 y4598.Base, .int .i64 y4598.Size, .int .i64 y4598.Kind, .int .i64 y4598.Unit]) w4678 (by kernel_rfl) (E_loadE (E := encRegion) _ _ true 4 (w64 (x4358 + s4577.1)) 0 ((w64 (x4358 + s4577.1)).toNat * 4) y4598 (.agg #[.int .i64 y4598.Base, .int .i64 y4598.Size, .int .i64 y4598.Kind, .int .i64 y4598.Unit]) rfl (by kernel_rfl) (by kernel_rfl) (by kernel_rfl) (ho4588.rd M4679 1 (by kernel_rfl)) hy4598 rfl) ?_
        exact W_nil (ob_end (.agg #[.int .i64 y4598.Base, .int .i64 y4598.Size, .int .i64 y4598.Kind, .int .i64 y4598.Unit]) [] rfl (by kernel_rfl) ⟨by kernel_rfl, rfl⟩ M4679)
      · intro g4595 f4596
        intro v0_ hb0_
        obtain ⟨rfl, _⟩ := hb0_
        intro v3_ hb3_
        obtain ⟨rfl, _⟩ := hb3_
        intro R w4682 M4683
        refine W_val (elemP p4354 ((w64 (x4358 + s4577.1)).toNat * 4)) w4682 (by kernel_rfl) (E_index (E := encRegion) _ _ _ s4577.2.length c4355 .i64 (w64 (x4358 + s4577.1)) 4 (y := y4599) rfl (by kernel_rfl) (by kernel_rfl) (by kernel_rfl) (ho4588.rd M4683 1 (by kernel_rfl)) rfl hy4599) ?_
        exact W_nil (ob_end (elemP p4354 ((w64 (x4358 + s4577.1)).toNat * 4)) [] rfl (by kernel_rfl) ⟨by kernel_rfl, rfl⟩ M4683)
      · intro g4595 f4596
        intro v13_ hb13_
        obtain ⟨rfl, _⟩ := hb13_
        intro v20_ hb20_
        obtain ⟨rfl, _⟩ := hb20_
        intro R w4686 M4687
        refine W_storeE (E := encRegion) _ _ _ true 4 (w64 (x4358 + s4577.1)).toNat 0 ((w64 (x4358 + s4577.1)).toNat * 4) y4599 y4597 (.agg #[.int .i64 y4597.Base, .int .i64 y4597.Size, .int .i64 y4597.Kind, .int .i64 y4597.Unit]) 0 M4687 ho4588 (by kernel_rfl) (by kernel_rfl) rfl (by kernel_rfl) (by kernel_rfl) (by kernel_rfl) (by kernel_rfl) (by kernel_rfl) (by kernel_rfl) (by kernel_rfl) (gxIdx_spec hy4599).2 rfl ?_
        intro w4688 sg4690 ho4691 M4689
        exact W_nil (ob_none sg4690 rfl ⟨rfl, ho4691⟩ M4689)
      · intro g4595 f4596
        intro v4_ hb4_
        obtain ⟨rfl, _⟩ := hb4_
        intro v7_ hb7_
        obtain ⟨rfl, _⟩ := hb7_
        intro v19_ hb19_
        obtain ⟨rfl, _⟩ := hb19_
        intro v21_ hb21_
        obtain ⟨rfl, ho4600⟩ := hb21_
        intro w4692 M4693
        have M4694 : Mem (idsOf [sg4356]) w w4692 [(g4595 21)] := M4693
        refine W_conv 0 (.slice p4354 s4577.2.length c4355) (.slice p4354 (s4577.2.set (w64 (x4358 + s4577.1)).toNat y4597).length c4355) (by kernel_rfl) (by rw [@List.length_set _ s4577.2 ((w64 (x4358 + s4577.1)).toNat) y4597]) ?_
        refine W_conv 20 (.slice p4354 s4577.2.length c4355) (.slice p4354 (s4577.2.set (w64 (x4358 + s4577.1)).toNat y4597).length c4355) (by kernel_rfl) (by rw [@List.length_set _ s4577.2 ((w64 (x4358 + s4577.1)).toNat) y4597]) ?_
        obtain ⟨y4695, hy4695, hm⟩ := gx_bind hm
        refine W_val (elemP p4354 ((w64 (x4359 + s4577.1)).toNat * 4)) w4692 (by kernel_rfl) (E_index (E := encRegion) _ _ _ (s4577.2.set (w64 (x4358 + s4577.1)).toNat y4597).length c4355 .i64 (w64 (x4359 + s4577.1)) 4 (y := y4695) rfl (by kernel_rfl) (by kernel_rfl) (by kernel_rfl) (ho4600.rd M4694 0 (by kernel_rfl)) rfl hy4695) ?_
        refine W_storeE (E := encRegion) _ _ _ true 4 (w64 (x4359 + s4577.1)).toNat 0 ((w64 (x4359 + s4577.1)).toNat * 4) y4695 y4598 (.agg #[.int .i64 y4598.Base, .int .i64 y4598.Size, .int .i64 y4598.Kind, .int .i64 y4598.Unit]) 0 M4694 ho4600 (by kernel_rfl) (by kernel_rfl) rfl (by kernel_rfl) (by kernel_rfl) (by kernel_rfl) (by kernel_rfl) (by kernel_rfl) (by kernel_rfl) (by kernel_rfl) (gxIdx_spec hy4695).2 rfl ?_
        intro w4696 sg4698 ho4699 M4697
        refine W_conv 0 (.slice p4354 (s4577.2.set (w64 (x4358 + s4577.1)).toNat y4597).length c4355) (.slice p4354 ((s4577.2.set (w64 (x4358 + s4577.1)).toNat y4597).set (w64 (x4359 + s4577.1)).toNat y4598).length c4355) (by kernel_rfl) (by rw [@List.length_set _ (s4577.2.set (w64 (x4358 + s4577.1)).toNat y4597) ((w64 (x4359 + s4577.1)).toNat) y4598]) ?_
        refine W_conv 20 (.slice p4354 (s4577.2.set (w64 (x4358 + s4577.1)).toNat y4597).length c4355) (.slice p4354 ((s4577.2.set (w64 (x4358 + s4577.1)).toNat y4597).set (w64 (x4359 + s4577.1)).toNat y4598).length c4355) (by kernel_rfl) (by rw [@List.length_set _ (s4577.2.set (w64 (x4358 + s4577.1)).toNat y4597) ((w64 (x4359 + s4577.1)).toNat) y4598]) ?_
        refine W_nil ?_
        refine N_block ?_
        refine N_then ?_
        refine G_region ?_
        refine W_run 3 [(0, .slice p4354 ((s4577.2.set (w64 (x4358 + s4577.1)).toNat y4597).set (w64 (x4359 + s4577.1)).toNat y4598).length c4355), (1, .int .i64 x4358), (2, .int .i64 x4359), (3, .int .i64 x4360), (10, .int .i64 (w64 (s4577.1 + 1)))] w4696 (by kernel_rfl) ?_
        refine W_nil ?_
        obtain rfl := Option.some.inj hm
        exact N_loop fun a ha => ⟨_, rfl, sg4698, ho4699, (List.length_set.trans (List.length_set.trans hl4589)), M4697.pick [0] (by kernel_rfl), ha.sub (by kernel_rfl)⟩
    · refine G_cond_f (b := (decide (s4577.1 < x4360))) hc4594 (by kernel_rfl) ?_
      refine G_exit ?_
      refine N_then_exit ?_
      refine N_then_exit ?_
      refine N_block_eq ?_
      obtain rfl := Option.some.inj hm
      obtain rfl := hout4579 _ rfl
      exact N_meet fun a ha => ⟨sg4587, ho4588, hl4589, M4582.pick [0] (by kernel_rfl), ha.sub (by kernel_rfl)⟩
  · intro a4700 w4701 ⟨sg4591, ho4592, hl4593, M4702, hS4703⟩
    refine N_use hS4703 ?_
    have hm := hmo4586
    obtain rfl := Option.some.inj hm
    refine N_end [] (RVs_nil) ?_
    exact ⟨sg4591, rfl, ho4592, hl4593, M4702.pick [0] (by kernel_rfl)⟩
theorem c_slices_rotateCmpFunc_98__i_asMap_1 (w : World) (x4705 : List Region) (p4707 : Option Addr) (c4708 : Nat) (sg4709 : Seg) (ho4710 : ownS encRegion x4705 p4707 c4708 sg4709) (x4711 : Int) (x4712 : Int) (x4713 : Int) (hA : ∀ q ∈ List.flatten [sg4709], w.heap[q.1]? = some q.2) (hN : (idsOf [sg4709]).Nodup) {r : (List Region)} (hm : M.slices_rotateCmpFunc_98__i_asMap_1 x4705 x4711 x4712 x4713 = some r) :
    Calls Try.prog 98 #[.slice p4707 x4705.length c4708, .int .i64 x4711, .int .i64 x4712, .int .i64 x4713, .func (.func 90) #[] #[]] w fun e w' => ∃ (sg4714 : Seg), e = .returned (.tuple #[]) ∧ ownS encRegion r p4707 c4708 sg4714 ∧ r.length = x4705.length ∧ Mem (idsOf [sg4709]) w w' [sg4714] := by
  unfold M.slices_rotateCmpFunc_98__i_asMap_1 at hm
  refine C_enter Try.func98 rfl (by kernel_rfl) ?_
  have M0 := Mem.start' w [sg4709] hA hN
  refine G_seq ?_
  refine G_region ?_
  refine W_run 4 [(0, .slice p4707 x4705.length c4708), (2, .int .i64 x4712), (3, .int .i64 x4713), (4, .func (.func 90) #[] #[]), (10, .int .i64 (w64 (x4712 - x4711)))] w (by kernel_rfl) ?_
  refine W_nil ?_
  refine N_then ?_
  refine G_seq ?_
  refine G_region ?_
  refine W_run 4 [(0, .slice p4707 x4705.length c4708), (2, .int .i64 x4712), (4, .func (.func 90) #[] #[]), (10, .int .i64 (w64 (x4712 - x4711))), (11, .int .i64 (w64 (x4713 - x4712)))] w (by kernel_rfl) ?_
  refine W_nil ?_
  refine N_then ?_
  refine G_seq ?_
  obtain ⟨out4807, hw4808, hmo4809⟩ := gx_bind hm
  refine G_meet (fun a w' => ∃ (sg4814 : Seg), ownS encRegion out4807.2 p4707 c4708 sg4814 ∧ out4807.2.length = x4705.length ∧ Mem (idsOf [sg4709]) w w' [sg4814] ∧ Sat Try.f98.ntmps [(0, .slice p4707 out4807.2.length c4708), (2, .int .i64 x4712), (4, .func (.func 90) #[] #[]), (10, .int .i64 out4807.1)] a) ?_ ?_
  · refine G_block ?_
    refine G_while (σ := Int × Int × List Region) (ρ := Int × List Region) (fun s4800 a w' => ∃ (sg4810 : Seg), ownS encRegion s4800.2.2 p4707 c4708 sg4810 ∧ s4800.2.2.length = x4705.length ∧ Mem (idsOf [sg4709]) w w' [sg4810] ∧ Sat Try.f98.ntmps [(0, .slice p4707 s4800.2.2.length c4708), (2, .int .i64 x4712), (4, .func (.func 90) #[] #[]), (10, .int .i64 s4800.1), (11, .int .i64 s4800.2.1)] a) hw4808 (fun a ha => ⟨sg4709, ho4710, rfl, M0.pick [0] (by kernel_rfl), ha.sub (by kernel_rfl)⟩) ?_
    clear hm
    intro s4800 x4801 hm hout4802 a4803 w4804 ⟨sg4810, ho4811, hl4812, M4805, hS4806⟩
    refine G_use hS4806 ?_
    refine G_seq ?_
    refine G_seq ?_
    refine G_region ?_
    refine W_run 3 [(0, .slice p4707 s4800.2.2.length c4708), (2, .int .i64 x4712), (4, .func (.func 90) #[] #[]), (10, .int .i64 s4800.1), (11, .int .i64 s4800.2.1), (20, .bool (s4800.1 != s4800.2.1))] w4804 (by kernel_rfl) ?_
    refine W_nil ?_
    refine N_then ?_
    rcases gx_bif hm with ⟨hc4817, hm⟩ | ⟨hc4817, hm⟩
    · refine G_cond_t (b := (s4800.1 != s4800.2.1)) hc4817 (by kernel_rfl) ?_
      refine G_skip ?_
      refine N_then ?_
      refine G_block ?_
      refine G_seq ?_
      refine G_region ?_
      refine W_run 3 [(0, .slice p4707 s4800.2.2.length c4708), (2, .int .i64 x4712), (4, .func (.func 90) #[] #[]), (10, .int .i64 s4800.1), (11, .int .i64 s4800.2.1), (23, .bool (decide (s4800.1 > s4800.2.1)))] w4804 (by kernel_rfl) ?_
      refine W_nil ?_
      refine N_then ?_
      obtain ⟨o4833, ho4834, hm4835⟩ := gx_bind hm
      refine G_meet (fun a w' => ∃ (sg4836 : Seg), ownS encRegion o4833.2.2 p4707 c4708 sg4836 ∧ o4833.2.2.length = x4705.length ∧ Mem (idsOf [sg4709]) w w' [sg4836] ∧ Sat Try.f98.ntmps [(0, .slice p4707 o4833.2.2.length c4708), (2, .int .i64 x4712), (4, .func (.func 90) #[] #[]), (10, .int .i64 o4833.1), (11, .int .i64 o4833.2.1)] a) ?_ ?_
      · have hm := ho4834
        rcases gx_bif hm with ⟨hc4839, hm⟩ | ⟨hc4839, hm⟩
        · refine G_cond_t (b := (decide (s4800.1 > s4800.2.1))) hc4839 (by kernel_rfl) ?_
          refine G_seq ?_
          refine G_region ?_
          refine W_run 7 [(0, .slice p4707 s4800.2.2.length c4708), (2, .int .i64 x4712), (4, .func (.func 90) #[] #[]), (10, .int .i64 s4800.1), (11, .int .i64 s4800.2.1), (24, .slice p4707 s4800.2.2.length c4708), (27, .int .i64 (w64 (x4712 - s4800.1))), (28, .int .i64 x4712), (29, .int .i64 s4800.2.1), (30, .func (.func 90) #[] #[])] w4804 (by kernel_rfl) ?_
          obtain ⟨r4840, hr4840, hm⟩ := gx_bind hm
          refine W_call 99 #[.slice p4707 s4800.2.2.length c4708, .int .i64 (w64 (x4712 - s4800.1)), .int .i64 x4712, .int .i64 s4800.2.1, .func (.func 90) #[] #[]] (by kernel_rfl) (by kernel_rfl) ?_
          refine (c_slices_swapRangeCmpFunc_99__i_asMap_1 w4804 s4800.2.2 p4707 c4708 sg4810 ho4811 (w64 (x4712 - s4800.1)) x4712 s4800.2.1 (M4805.hasPick [0]) (M4805.nodupPick [0] (by kernel_rfl)) hr4840).mono ?_
          rintro e_ w4844 ⟨sg4841, rfl, ho4842, hl4843, K4845⟩
          have M4846 := M4805.callF' [0] [] (by kernel_rfl) K4845
          refine ⟨_, rfl, ?_⟩
          refine W_conv 0 (.slice p4707 s4800.2.2.length c4708) (.slice p4707 r4840.length c4708) (by kernel_rfl) (by first | rw [hl4843] | rw [hl4843]) ?_
          refine W_conv 24 (.slice p4707 s4800.2.2.length c4708) (.slice p4707 r4840.length c4708) (by kernel_rfl) (by first | rw [hl4843] | rw [hl4843]) ?_
          refine W_nil ?_
          refine N_then ?_
          refine G_region ?_
          refine W_run 4 [(0, .slice p4707 r4840.length c4708), (2, .int .i64 x4712), (4, .func (.func 90) #[] #[]), (10, .int .i64 (w64 (s4800.1 - s4800.2.1))), (11, .int .i64 s4800.2.1)] w4844 (by kernel_rfl) ?_
          refine W_nil ?_
          obtain rfl := Option.some.inj hm
          exact N_meet fun a ha => ⟨sg4841, ho4842, (hl4843.trans hl4812), M4846.pick [0] (by kernel_rfl), ha.sub (by kernel_rfl)⟩
        · refine G_cond_f (b := (decide (s4800.1 > s4800.2.1))) hc4839 (by kernel_rfl) ?_
          refine G_seq ?_
          refine G_region ?_
          refine W_run 11 [(0, .slice p4707 s4800.2.2.length c4708), (2, .int .i64 x4712), (4, .func (.func 90) #[] #[]), (10, .int .i64 s4800.1), (11, .int .i64 s4800.2.1), (35, .slice p4707 s4800.2.2.length c4708), (38, .int .i64 (w64 (x4712 - s4800.1))), (43, .int .i64 (w64 ((w64 (x4712 + s4800.2.1)) - s4800.1))), (44, .int .i64 s4800.1), (45, .func (.func 90) #[] #[])] w4804 (by kernel_rfl) ?_
          obtain ⟨r4847, hr4847, hm⟩ := gx_bind hm
          refine W_call 99 #[.slice p4707 s4800.2.2.length c4708, .int .i64 (w64 (x4712 - s4800.1)), .int .i64 (w64 ((w64 (x4712 + s4800.2.1)) - s4800.1)), .int .i64 s4800.1, .func (.func 90) #[] #[]] (by kernel_rfl) (by kernel_rfl) ?_
          refine (c_slices_swapRangeCmpFunc_99__i_asMap_1 w4804 s4800.2.2 p4707 c4708 sg4810 ho4811 (w64 (x4712 - s4800.1)) (w64 ((w64 (x4712 + s4800.2.1)) - s4800.1)) s4800.1 (M4805.hasPick [0]) (M4805.nodupPick [0] (by kernel_rfl)) hr4847).mono ?_
          rintro e_ w4851 ⟨sg4848, rfl, ho4849, hl4850, K4852⟩
          have M4853 := M4805.callF' [0] [] (by kernel_rfl) K4852
          refine ⟨_, rfl, ?_⟩
          refine W_conv 0 (.slice p4707 s4800.2.2.length c4708) (.slice p4707 r4847.length c4708) (by kernel_rfl) (by first | rw [hl4850] | rw [hl4850]) ?_
          refine W_conv 35 (.slice p4707 s4800.2.2.length c4708) (.slice p4707 r4847.length c4708) (by kernel_rfl) (by first | rw [hl4850] | rw [hl4850]) ?_
          refine W_nil ?_
          refine N_then ?_
          refine G_region ?_
          refine W_run 4 [(0, .slice p4707 r4847.length c4708), (2, .int .i64 x4712), (4, .func (.func 90) #[] #[]), (10, .int .i64 s4800.1), (11, .int .i64 (w64 (s4800.2.1 - s4800.1)))] w4851 (by kernel_rfl) ?_
          refine W_nil ?_
          obtain rfl := Option.some.inj hm
          exact N_meet fun a ha => ⟨sg4848, ho4849, (hl4850.trans hl4812), M4853.pick [0] (by kernel_rfl), ha.sub (by kernel_rfl)⟩
      · intro a4856 w4854 ⟨sg4836, ho4837, hl4838, M4855, hS4857⟩
        refine N_use hS4857 ?_
        have hm := hm4835
        refine N_block ?_
        obtain rfl := Option.some.inj hm
        exact N_loop fun a ha => ⟨_, rfl, sg4836, ho4837, hl4838, M4855.pick [0] (by kernel_rfl), ha.sub (by kernel_rfl)⟩
    · refine G_cond_f (b := (s4800.1 != s4800.2.1)) hc4817 (by kernel_rfl) ?_
      refine G_exit ?_
      refine N_then_exit ?_
      refine N_then_exit ?_
      refine N_block_eq ?_
      obtain rfl := Option.some.inj hm
      obtain rfl := hout4802 _ rfl
      exact N_meet fun a ha => ⟨sg4810, ho4811, hl4812, M4805.pick [0] (by kernel_rfl), ha.sub (by kernel_rfl)⟩
  · intro a4858 w4859 ⟨sg4814, ho4815, hl4816, M4860, hS4861⟩
    refine N_use hS4861 ?_
    have hm := hmo4809
    refine N_then ?_
    refine G_region ?_
    refine W_run 7 [(50, .slice p4707 out4807.2.length c4708), (53, .int .i64 (w64 (x4712 - out4807.1))), (54, .int .i64 x4712), (55, .int .i64 out4807.1), (56, .func (.func 90) #[] #[])] w4859 (by kernel_rfl) ?_
    obtain ⟨r4862, hr4862, hm⟩ := gx_bind hm
    refine W_call 99 #[.slice p4707 out4807.2.length c4708, .int .i64 (w64 (x4712 - out4807.1)), .int .i64 x4712, .int .i64 out4807.1, .func (.func 90) #[] #[]] (by kernel_rfl) (by kernel_rfl) ?_
    refine (c_slices_swapRangeCmpFunc_99__i_asMap_1 w4859 out4807.2 p4707 c4708 sg4814 ho4815 (w64 (x4712 - out4807.1)) x4712 out4807.1 (M4860.hasPick [0]) (M4860.nodupPick [0] (by kernel_rfl)) hr4862).mono ?_
    rintro e_ w4866 ⟨sg4863, rfl, ho4864, hl4865, K4867⟩
    have M4868 := M4860.callF' [0] [] (by kernel_rfl) K4867
    refine ⟨_, rfl, ?_⟩
    refine W_conv 50 (.slice p4707 out4807.2.length c4708) (.slice p4707 r4862.length c4708) (by kernel_rfl) (by first | rw [hl4865] | rw [hl4865]) ?_
    refine W_nil ?_
    obtain rfl := Option.some.inj hm
    refine N_end [] (RVs_nil) ?_
    exact ⟨sg4863, rfl, ho4864, (hl4865.trans hl4816), M4868.pick [0] (by kernel_rfl)⟩
end Go.Proofs.Ytphinfkojhecdaa
