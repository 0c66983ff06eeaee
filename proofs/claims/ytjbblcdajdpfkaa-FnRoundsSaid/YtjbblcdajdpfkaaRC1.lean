/- The walks, printed by program: whenever the model gives r, the call returns r. Part 1. -/
import Derived.Test.YtjbblcdajdpfkaaRM
import Derived.Test.YtjbblcdajdpfkaaProg
set_option linter.unusedVariables false
set_option maxRecDepth 100000
set_option maxHeartbeats 4000000
namespace Go.Proofs.Ytjbblcdajdpfkaa
open Go.Gx
theorem c_l_vBig (w : World) (x6 : List Int) (p8 : Option Addr) (c9 : Nat) (h10 : rdS encU8 w x6 p8 c9) {r : Bool} (hm : M.l_vBig x6 = some r) :
    Calls Try.prog 43 #[.slice p8 x6.length c9] w fun e w' => e = .returned (.bool r) ∧ Mem [] w w' [] := by
  unfold M.l_vBig at hm
  refine C_enter Try.func43 rfl (by kernel_rfl) ?_
  have M0 := Mem.refl [] w
  refine G_seq ?_
  refine G_region ?_
  refine W_run 1 [(0, .slice p8 x6.length c9)] w (by kernel_rfl) ?_
  refine W_nil ?_
  refine N_then ?_
  refine G_seq ?_
  refine G_region ?_
  refine W_run 4 [(2, .bool (decide ((x6.length : Int) > 65536)))] w (by kernel_rfl) ?_
  refine W_nil ?_
  refine N_then ?_
  refine G_ret ?_
  obtain rfl := Option.some.inj hm
  refine N_ret [.bool (decide ((x6.length : Int) > 65536))] (RVs_cons (RV_tmp (by kernel_rfl)) RVs_nil) ?_
  exact ⟨rfl, M0.pick [] (by kernel_rfl)⟩
theorem c_s_l1Cur_next (w : World) (x102 : l1Cur) (p106 : Option Addr) (c107 : Nat) (h108 : rdS encU8 w x102.code p106 c107) (b104 : Nat) (hA : ∀ q ∈ List.flatten [[(b104, .cells ⟨[.slice p106 x102.code.length c107, .int .i64 x102.at_, .int .u64 x102.seed]⟩ 99 (0, 0))]], w.heap[q.1]? = some q.2) (hN : (idsOf [[(b104, .cells ⟨[.slice p106 x102.code.length c107, .int .i64 x102.at_, .int .u64 x102.seed]⟩ 99 (0, 0))]]).Nodup) (hap109 : apartX (idsOf [[(b104, .cells ⟨[.slice p106 x102.code.length c107, .int .i64 x102.at_, .int .u64 x102.seed]⟩ 99 (0, 0))]]) x102.code p106) {r : Int × Int × Int} (hm : M.s_l1Cur_next x102 = some r) :
    Calls Try.prog 103 #[.pointer (some ⟨b104, 0, none⟩)] w fun e w' => e = .returned (.int .i64 r.1) ∧ Mem (idsOf [[(b104, .cells ⟨[.slice p106 x102.code.length c107, .int .i64 x102.at_, .int .u64 x102.seed]⟩ 99 (0, 0))]]) w w' [[(b104, .cells ⟨[.slice p106 x102.code.length c107, .int .i64 r.2.1, .int .u64 r.2.2]⟩ 99 (0, 0))]] := by
  unfold M.s_l1Cur_next at hm
  refine C_enter Try.func103 rfl (by kernel_rfl) ?_
  have M0 := Mem.start' w [[(b104, .cells ⟨[.slice p106 x102.code.length c107, .int .i64 x102.at_, .int .u64 x102.seed]⟩ 99 (0, 0))]] hA hN
  refine G_seq ?_
  refine G_region ?_
  refine W_run 1 [(0, .pointer (some ⟨b104, 0, none⟩))] w (by kernel_rfl) ?_
  refine W_nil ?_
  refine N_then ?_
  refine G_seq ?_
  refine G_region ?_
  refine W_run 1 [(0, .pointer (some ⟨b104, 0, none⟩)), (3, .int .i64 0)] w (by kernel_rfl) ?_
  refine W_nil ?_
  refine N_then ?_
  refine G_seq ?_
  refine G_seq ?_
  refine G_quiet (by kernel_rfl) (by kernel_rfl) M0 ?_
  refine Z_runs [.pointer (some ⟨b104, 0, none⟩), .pointer (some ⟨b104, 0, none⟩), .pointer (some ⟨b104, 1, none⟩)] [(0, .pointer (some ⟨b104, 0, none⟩)), (3, .int .i64 0), (6, .pointer (some ⟨b104, 1, none⟩))] (fun w_ => by kernel_rfl) (by kernel_rfl) ?_
  refine Z_val (.int .i64 x102.at_) (by kernel_rfl) (fun w_ M_ => (E_load (e := 99) (fr := (0, 0)) _ _ false 1 b104 1 [.slice p106 x102.code.length c107, .int .i64 x102.at_, .int .u64 x102.seed] (.int .i64 x102.at_) rfl (by kernel_rfl) (by kernel_rfl) (by kernel_rfl) (M_.blk 0 (b := b104) (o := .cells ⟨[.slice p106 x102.code.length c107, .int .i64 x102.at_, .int .u64 x102.seed]⟩ 99 (0, 0)) (by kernel_rfl)))) ?_
  refine Z_runs [.pointer (some ⟨b104, 0, none⟩), .pointer (some ⟨b104, 0, none⟩), .pointer (some ⟨b104, 0, none⟩)] [(0, .pointer (some ⟨b104, 0, none⟩)), (3, .int .i64 0), (7, .int .i64 x102.at_), (10, .pointer (some ⟨b104, 0, none⟩))] (fun w_ => by kernel_rfl) (by kernel_rfl) ?_
  refine Z_val (.slice p106 x102.code.length c107) (by kernel_rfl) (fun w_ M_ => (E_load (e := 99) (fr := (0, 0)) _ _ false 1 b104 0 [.slice p106 x102.code.length c107, .int .i64 x102.at_, .int .u64 x102.seed] (.slice p106 x102.code.length c107) rfl (by kernel_rfl) (by kernel_rfl) (by kernel_rfl) (M_.blk 0 (b := b104) (o := .cells ⟨[.slice p106 x102.code.length c107, .int .i64 x102.at_, .int .u64 x102.seed]⟩ 99 (0, 0)) (by kernel_rfl)))) ?_
  refine Z_runs [.int .i64 (x102.code.length : Int), .bool (decide (x102.at_ < (x102.code.length : Int)))] [(0, .pointer (some ⟨b104, 0, none⟩)), (3, .int .i64 0), (13, .bool (decide (x102.at_ < (x102.code.length : Int))))] (fun w_ => by kernel_rfl) (by kernel_rfl) ?_
  refine Z_end fun w110 M111 => ?_
  refine N_then ?_
  obtain ⟨o116, ho117, hm118⟩ := gx_bind hm
  refine G_meet (fun a w' => Mem (idsOf [[(b104, .cells ⟨[.slice p106 x102.code.length c107, .int .i64 x102.at_, .int .u64 x102.seed]⟩ 99 (0, 0))]]) w w' [[(b104, .cells ⟨[.slice p106 x102.code.length c107, .int .i64 x102.at_, .int .u64 x102.seed]⟩ 99 (0, 0))]] ∧ Sat Try.f103.ntmps [(0, .pointer (some ⟨b104, 0, none⟩)), (3, .int .i64 o116)] a) ?_ ?_
  · have hm := ho117
    rcases gx_bif hm with ⟨hc119, hm⟩ | ⟨hc119, hm⟩
    · refine G_cond_t (b := (decide (x102.at_ < (x102.code.length : Int)))) hc119 (by kernel_rfl) ?_
      refine G_quiet (by kernel_rfl) (by kernel_rfl) M111 ?_
      refine Z_runs [.pointer (some ⟨b104, 0, none⟩), .pointer (some ⟨b104, 0, none⟩), .pointer (some ⟨b104, 0, none⟩)] [(0, .pointer (some ⟨b104, 0, none⟩)), (3, .int .i64 0), (16, .pointer (some ⟨b104, 0, none⟩))] (fun w_ => by kernel_rfl) (by kernel_rfl) ?_
      refine Z_val (.slice p106 x102.code.length c107) (by kernel_rfl) (fun w_ M_ => (E_load (e := 99) (fr := (0, 0)) _ _ false 1 b104 0 [.slice p106 x102.code.length c107, .int .i64 x102.at_, .int .u64 x102.seed] (.slice p106 x102.code.length c107) rfl (by kernel_rfl) (by kernel_rfl) (by kernel_rfl) (M_.blk 0 (b := b104) (o := .cells ⟨[.slice p106 x102.code.length c107, .int .i64 x102.at_, .int .u64 x102.seed]⟩ 99 (0, 0)) (by kernel_rfl)))) ?_
      refine Z_runs [.pointer (some ⟨b104, 0, none⟩), .pointer (some ⟨b104, 0, none⟩), .pointer (some ⟨b104, 1, none⟩)] [(0, .pointer (some ⟨b104, 0, none⟩)), (3, .int .i64 0), (17, .slice p106 x102.code.length c107), (20, .pointer (some ⟨b104, 1, none⟩))] (fun w_ => by kernel_rfl) (by kernel_rfl) ?_
      refine Z_val (.int .i64 x102.at_) (by kernel_rfl) (fun w_ M_ => (E_load (e := 99) (fr := (0, 0)) _ _ false 1 b104 1 [.slice p106 x102.code.length c107, .int .i64 x102.at_, .int .u64 x102.seed] (.int .i64 x102.at_) rfl (by kernel_rfl) (by kernel_rfl) (by kernel_rfl) (M_.blk 0 (b := b104) (o := .cells ⟨[.slice p106 x102.code.length c107, .int .i64 x102.at_, .int .u64 x102.seed]⟩ 99 (0, 0)) (by kernel_rfl)))) ?_
      obtain ⟨y120, hy120, hm⟩ := gx_bind hm
      refine Z_val (elemP p106 (x102.at_.toNat * 1)) (by kernel_rfl) (fun w_ M_ => (E_index (E := encU8) _ _ _ x102.code.length c107 .i64 x102.at_ 1 (y := y120) rfl (by kernel_rfl) (by kernel_rfl) (by kernel_rfl) (h108.memX hap109 M_) rfl hy120)) ?_
      refine Z_val (.int .u8 y120) (by kernel_rfl) (fun w_ M_ => (E_loadE (E := encU8) _ _ false 1 x102.at_ 0 (x102.at_.toNat * 1) y120 (.int .u8 y120) rfl (by kernel_rfl) (by kernel_rfl) (by kernel_rfl) (h108.memX hap109 M_) hy120 rfl)) ?_
      refine Z_runs [.int .i64 (w64 y120), .int .i64 (w64 y120)] [(0, .pointer (some ⟨b104, 0, none⟩)), (3, .int .i64 (w64 y120))] (fun w_ => by kernel_rfl) (by kernel_rfl) ?_
      refine Z_end fun w121 M122 => ?_
      obtain rfl := Option.some.inj hm
      exact N_meet fun a ha => ⟨M122.pick [0] (by kernel_rfl), ha.sub (by kernel_rfl)⟩
    · refine G_cond_f (b := (decide (x102.at_ < (x102.code.length : Int)))) hc119 (by kernel_rfl) ?_
      refine G_skip ?_
      obtain rfl := Option.some.inj hm
      exact N_meet fun a ha => ⟨M111.pick [0] (by kernel_rfl), ha.sub (by kernel_rfl)⟩
  · intro a125 w123 ⟨M124, hS126⟩
    refine N_use hS126 ?_
    have hm := hm118
    refine N_then ?_
    refine G_seq ?_
    refine G_region ?_
    refine W_run 3 [(0, .pointer (some ⟨b104, 0, none⟩)), (3, .int .i64 o116), (25, .pointer (some ⟨b104, 0, none⟩)), (27, .pointer (some ⟨b104, 1, none⟩))] w123 (by kernel_rfl) ?_
    refine W_val (.int .i64 x102.at_) w123 (by kernel_rfl) (E_load (e := 99) (fr := (0, 0)) _ _ false 1 b104 1 [.slice p106 x102.code.length c107, .int .i64 x102.at_, .int .u64 x102.seed] (.int .i64 x102.at_) rfl (by kernel_rfl) (by kernel_rfl) (by kernel_rfl) (M124.blk 0 (b := b104) (o := .cells ⟨[.slice p106 x102.code.length c107, .int .i64 x102.at_, .int .u64 x102.seed]⟩ 99 (0, 0)) (by kernel_rfl))) ?_
    refine W_run 3 [(0, .pointer (some ⟨b104, 0, none⟩)), (3, .int .i64 o116), (29, .int .i64 (w64 (x102.at_ + 1))), (31, .pointer (some ⟨b104, 1, none⟩))] w123 (by kernel_rfl) ?_
    refine W_store _ _ _ false 1 b104 1 [.slice p106 x102.code.length c107, .int .i64 x102.at_, .int .u64 x102.seed] 99 (.int .i64 (w64 (x102.at_ + 1))) 0 [.slice p106 x102.code.length c107, .int .i64 (w64 (x102.at_ + 1)), .int .u64 x102.seed] M124 (by kernel_rfl) rfl (by kernel_rfl) (by kernel_rfl) (by kernel_rfl) (by kernel_rfl) (by kernel_rfl) (by kernel_rfl) (by kernel_rfl) (by kernel_rfl) ?_
    intro w127 M128
    refine W_nil ?_
    refine N_then ?_
    refine G_seq ?_
    refine G_region ?_
    refine W_run 4 [(0, .pointer (some ⟨b104, 0, none⟩)), (3, .int .i64 o116), (32, .pointer (some ⟨b104, 0, none⟩)), (35, .pointer (some ⟨b104, 2, none⟩))] w127 (by kernel_rfl) ?_
    refine W_val (.int .u64 x102.seed) w127 (by kernel_rfl) (E_load (e := 99) (fr := (0, 0)) _ _ false 1 b104 2 [.slice p106 x102.code.length c107, .int .i64 (w64 (x102.at_ + 1)), .int .u64 x102.seed] (.int .u64 x102.seed) rfl (by kernel_rfl) (by kernel_rfl) (by kernel_rfl) (M128.blk 0 (b := b104) (o := .cells ⟨[.slice p106 x102.code.length c107, .int .i64 (w64 (x102.at_ + 1)), .int .u64 x102.seed]⟩ 99 (0, 0)) (by kernel_rfl))) ?_
    refine W_run 7 [(0, .pointer (some ⟨b104, 0, none⟩)), (3, .int .i64 o116), (41, .int .u64 (IntKind.u64.wrap ((IntKind.u64.wrap ((IntKind.u64.wrap (x102.seed * 6364136223846793005)) + (IntKind.u64.wrap o116))) + 843843))), (43, .pointer (some ⟨b104, 2, none⟩))] w127 (by kernel_rfl) ?_
    refine W_store _ _ _ false 1 b104 2 [.slice p106 x102.code.length c107, .int .i64 (w64 (x102.at_ + 1)), .int .u64 x102.seed] 99 (.int .u64 (IntKind.u64.wrap ((IntKind.u64.wrap ((IntKind.u64.wrap (x102.seed * 6364136223846793005)) + (IntKind.u64.wrap o116))) + 843843))) 0 [.slice p106 x102.code.length c107, .int .i64 (w64 (x102.at_ + 1)), .int .u64 (IntKind.u64.wrap ((IntKind.u64.wrap ((IntKind.u64.wrap (x102.seed * 6364136223846793005)) + (IntKind.u64.wrap o116))) + 843843))] M128 (by kernel_rfl) rfl (by kernel_rfl) (by kernel_rfl) (by kernel_rfl) (by kernel_rfl) (by kernel_rfl) (by kernel_rfl) (by kernel_rfl) (by kernel_rfl) ?_
    intro w129 M130
    refine W_nil ?_
    refine N_then ?_
    refine G_seq ?_
    refine G_seq ?_
    refine G_quiet (by kernel_rfl) (by kernel_rfl) M130 ?_
    refine Z_runs [.pointer (some ⟨b104, 0, none⟩), .pointer (some ⟨b104, 0, none⟩), .pointer (some ⟨b104, 1, none⟩)] [(0, .pointer (some ⟨b104, 0, none⟩)), (3, .int .i64 o116), (46, .pointer (some ⟨b104, 1, none⟩))] (fun w_ => by kernel_rfl) (by kernel_rfl) ?_
    refine Z_val (.int .i64 (w64 (x102.at_ + 1))) (by kernel_rfl) (fun w_ M_ => (E_load (e := 99) (fr := (0, 0)) _ _ false 1 b104 1 [.slice p106 x102.code.length c107, .int .i64 (w64 (x102.at_ + 1)), .int .u64 (IntKind.u64.wrap ((IntKind.u64.wrap ((IntKind.u64.wrap (x102.seed * 6364136223846793005)) + (IntKind.u64.wrap o116))) + 843843))] (.int .i64 (w64 (x102.at_ + 1))) rfl (by kernel_rfl) (by kernel_rfl) (by kernel_rfl) (M_.blk 0 (b := b104) (o := .cells ⟨[.slice p106 x102.code.length c107, .int .i64 (w64 (x102.at_ + 1)), .int .u64 (IntKind.u64.wrap ((IntKind.u64.wrap ((IntKind.u64.wrap (x102.seed * 6364136223846793005)) + (IntKind.u64.wrap o116))) + 843843))]⟩ 99 (0, 0)) (by kernel_rfl)))) ?_
    refine Z_runs [.pointer (some ⟨b104, 0, none⟩), .pointer (some ⟨b104, 0, none⟩), .pointer (some ⟨b104, 0, none⟩)] [(0, .pointer (some ⟨b104, 0, none⟩)), (3, .int .i64 o116), (47, .int .i64 (w64 (x102.at_ + 1))), (50, .pointer (some ⟨b104, 0, none⟩))] (fun w_ => by kernel_rfl) (by kernel_rfl) ?_
    refine Z_val (.slice p106 x102.code.length c107) (by kernel_rfl) (fun w_ M_ => (E_load (e := 99) (fr := (0, 0)) _ _ false 1 b104 0 [.slice p106 x102.code.length c107, .int .i64 (w64 (x102.at_ + 1)), .int .u64 (IntKind.u64.wrap ((IntKind.u64.wrap ((IntKind.u64.wrap (x102.seed * 6364136223846793005)) + (IntKind.u64.wrap o116))) + 843843))] (.slice p106 x102.code.length c107) rfl (by kernel_rfl) (by kernel_rfl) (by kernel_rfl) (M_.blk 0 (b := b104) (o := .cells ⟨[.slice p106 x102.code.length c107, .int .i64 (w64 (x102.at_ + 1)), .int .u64 (IntKind.u64.wrap ((IntKind.u64.wrap ((IntKind.u64.wrap (x102.seed * 6364136223846793005)) + (IntKind.u64.wrap o116))) + 843843))]⟩ 99 (0, 0)) (by kernel_rfl)))) ?_
    refine Z_runs [.int .i64 (x102.code.length : Int), .bool (decide ((w64 (x102.at_ + 1)) ≤ (x102.code.length : Int)))] [(0, .pointer (some ⟨b104, 0, none⟩)), (3, .int .i64 o116), (53, .bool (decide ((w64 (x102.at_ + 1)) ≤ (x102.code.length : Int))))] (fun w_ => by kernel_rfl) (by kernel_rfl) ?_
    refine Z_end fun w131 M132 => ?_
    refine N_then ?_
    rcases gx_bif hm with ⟨hc133, hm⟩ | ⟨hc133, hm⟩
    · refine G_cond_t (b := (decide ((w64 (x102.at_ + 1)) ≤ (x102.code.length : Int)))) hc133 (by kernel_rfl) ?_
      refine G_seq ?_
      refine G_region ?_
      refine W_run 2 [(2, .int .i64 o116)] w131 (by kernel_rfl) ?_
      refine W_nil ?_
      refine N_then ?_
      refine G_ret ?_
      refine N_then_ret ?_
      obtain rfl := Option.some.inj hm
      refine N_ret [.int .i64 o116] (RVs_cons (RV_tmp (by kernel_rfl)) RVs_nil) ?_
      exact ⟨rfl, M132.pick [0] (by kernel_rfl)⟩
    · refine G_cond_f (b := (decide ((w64 (x102.at_ + 1)) ≤ (x102.code.length : Int)))) hc133 (by kernel_rfl) ?_
      refine G_skip ?_
      refine N_then ?_
      refine G_seq ?_
      refine G_region ?_
      refine W_run 3 [(57, .pointer (some ⟨b104, 2, none⟩))] w131 (by kernel_rfl) ?_
      refine W_val (.int .u64 (IntKind.u64.wrap ((IntKind.u64.wrap ((IntKind.u64.wrap (x102.seed * 6364136223846793005)) + (IntKind.u64.wrap o116))) + 843843))) w131 (by kernel_rfl) (E_load (e := 99) (fr := (0, 0)) _ _ false 1 b104 2 [.slice p106 x102.code.length c107, .int .i64 (w64 (x102.at_ + 1)), .int .u64 (IntKind.u64.wrap ((IntKind.u64.wrap ((IntKind.u64.wrap (x102.seed * 6364136223846793005)) + (IntKind.u64.wrap o116))) + 843843))] (.int .u64 (IntKind.u64.wrap ((IntKind.u64.wrap ((IntKind.u64.wrap (x102.seed * 6364136223846793005)) + (IntKind.u64.wrap o116))) + 843843))) rfl (by kernel_rfl) (by kernel_rfl) (by kernel_rfl) (M132.blk 0 (b := b104) (o := .cells ⟨[.slice p106 x102.code.length c107, .int .i64 (w64 (x102.at_ + 1)), .int .u64 (IntKind.u64.wrap ((IntKind.u64.wrap ((IntKind.u64.wrap (x102.seed * 6364136223846793005)) + (IntKind.u64.wrap o116))) + 843843))]⟩ 99 (0, 0)) (by kernel_rfl))) ?_
      refine W_run 4 [(2, .int .i64 (w64 (gxAnd .u64 ((IntKind.u64.wrap ((IntKind.u64.wrap ((IntKind.u64.wrap (x102.seed * 6364136223846793005)) + (IntKind.u64.wrap o116))) + 843843)).fdiv (2 ^ 40)) 255)))] w131 (by kernel_rfl) ?_
      refine W_nil ?_
      refine N_then ?_
      refine G_ret ?_
      obtain rfl := Option.some.inj hm
      refine N_ret [.int .i64 (w64 (gxAnd .u64 ((IntKind.u64.wrap ((IntKind.u64.wrap ((IntKind.u64.wrap (x102.seed * 6364136223846793005)) + (IntKind.u64.wrap o116))) + 843843)).fdiv (2 ^ 40)) 255))] (RVs_cons (RV_tmp (by kernel_rfl)) RVs_nil) ?_
      exact ⟨rfl, M132.pick [0] (by kernel_rfl)⟩
theorem c_s_l1Cur_pick (w : World) (x92 : l1Cur) (p96 : Option Addr) (c97 : Nat) (h98 : rdS encU8 w x92.code p96 c97) (b94 : Nat) (x100 : Int) (hA : ∀ q ∈ List.flatten [[(b94, .cells ⟨[.slice p96 x92.code.length c97, .int .i64 x92.at_, .int .u64 x92.seed]⟩ 99 (0, 0))]], w.heap[q.1]? = some q.2) (hN : (idsOf [[(b94, .cells ⟨[.slice p96 x92.code.length c97, .int .i64 x92.at_, .int .u64 x92.seed]⟩ 99 (0, 0))]]).Nodup) (hap99 : apartX (idsOf [[(b94, .cells ⟨[.slice p96 x92.code.length c97, .int .i64 x92.at_, .int .u64 x92.seed]⟩ 99 (0, 0))]]) x92.code p96) {r : Int × Int × Int} (hm : M.s_l1Cur_pick x92 x100 = some r) :
    Calls Try.prog 88 #[.pointer (some ⟨b94, 0, none⟩), .int .i64 x100] w fun e w' => e = .returned (.int .i64 r.1) ∧ Mem (idsOf [[(b94, .cells ⟨[.slice p96 x92.code.length c97, .int .i64 x92.at_, .int .u64 x92.seed]⟩ 99 (0, 0))]]) w w' [[(b94, .cells ⟨[.slice p96 x92.code.length c97, .int .i64 r.2.1, .int .u64 r.2.2]⟩ 99 (0, 0))]] := by
  unfold M.s_l1Cur_pick at hm
  refine C_enter Try.func88 rfl (by kernel_rfl) ?_
  have M0 := Mem.start' w [[(b94, .cells ⟨[.slice p96 x92.code.length c97, .int .i64 x92.at_, .int .u64 x92.seed]⟩ 99 (0, 0))]] hA hN
  refine G_seq ?_
  refine G_region ?_
  refine W_run 1 [(0, .pointer (some ⟨b94, 0, none⟩)), (1, .int .i64 x100)] w (by kernel_rfl) ?_
  refine W_nil ?_
  refine N_then ?_
  refine G_seq ?_
  refine G_seq ?_
  refine G_region ?_
  refine W_run 2 [(0, .pointer (some ⟨b94, 0, none⟩)), (1, .int .i64 x100), (7, .bool (decide (x100 ≤ 1)))] w (by kernel_rfl) ?_
  refine W_nil ?_
  refine N_then ?_
  rcases gx_bif hm with ⟨hc101, hm⟩ | ⟨hc101, hm⟩
  · refine G_cond_t (b := (decide (x100 ≤ 1))) hc101 (by kernel_rfl) ?_
    refine G_seq ?_
    refine G_region ?_
    refine W_run 1 [(4, .int .i64 0)] w (by kernel_rfl) ?_
    refine W_nil ?_
    refine N_then ?_
    refine G_ret ?_
    refine N_then_ret ?_
    obtain rfl := Option.some.inj hm
    refine N_ret [.int .i64 0] (RVs_cons (RV_tmp (by kernel_rfl)) RVs_nil) ?_
    exact ⟨rfl, M0.pick [0] (by kernel_rfl)⟩
  · refine G_cond_f (b := (decide (x100 ≤ 1))) hc101 (by kernel_rfl) ?_
    refine G_skip ?_
    refine N_then ?_
    refine G_seq ?_
    refine G_region ?_
    refine W_run 1 [(0, .pointer (some ⟨b94, 0, none⟩)), (1, .int .i64 x100), (8, .pointer (some ⟨b94, 0, none⟩))] w (by kernel_rfl) ?_
    obtain ⟨r134, hr134, hm⟩ := gx_bind hm
    refine W_call 103 #[.pointer (some ⟨b94, 0, none⟩)] (by kernel_rfl) (by kernel_rfl) ?_
    refine (c_s_l1Cur_next w x92 p96 c97 (h98.memX hap99 M0) b94 (M0.hasPick [0]) (M0.nodupPick [0] (by kernel_rfl)) (apartX.old h98 hap99 M0 [0]) hr134).mono ?_
    rintro e_ w135 ⟨rfl, K136⟩
    have M137 := M0.callF' [0] [] (by kernel_rfl) K136
    refine ⟨_, rfl, ?_⟩
    refine W_run 1 [(0, .pointer (some ⟨b94, 0, none⟩)), (1, .int .i64 x100), (5, .int .i64 r134.1)] w135 (by kernel_rfl) ?_
    refine W_nil ?_
    refine N_then ?_
    refine G_seq ?_
    refine G_seq ?_
    refine G_region ?_
    refine W_run 2 [(0, .pointer (some ⟨b94, 0, none⟩)), (1, .int .i64 x100), (5, .int .i64 r134.1), (11, .bool (decide (x100 > 200)))] w135 (by kernel_rfl) ?_
    refine W_nil ?_
    refine N_then ?_
    obtain ⟨o143, ho144, hm145⟩ := gx_bind hm
    refine G_meet (fun a w' => Mem (idsOf [[(b94, .cells ⟨[.slice p96 x92.code.length c97, .int .i64 x92.at_, .int .u64 x92.seed]⟩ 99 (0, 0))]]) w w' [[(b94, .cells ⟨[.slice p96 x92.code.length c97, .int .i64 o143.2.1, .int .u64 o143.2.2]⟩ 99 (0, 0))]] ∧ Sat Try.f88.ntmps [(1, .int .i64 x100), (5, .int .i64 o143.1)] a) ?_ ?_
    · have hm := ho144
      rcases gx_bif hm with ⟨hc146, hm⟩ | ⟨hc146, hm⟩
      · refine G_cond_t (b := (decide (x100 > 200))) hc146 (by kernel_rfl) ?_
        refine G_region ?_
        refine W_run 3 [(1, .int .i64 x100), (5, .int .i64 r134.1), (13, .int .i64 (w64 (r134.1 * 256))), (14, .pointer (some ⟨b94, 0, none⟩))] w135 (by kernel_rfl) ?_
        obtain ⟨r147, hr147, hm⟩ := gx_bind hm
        refine W_call 103 #[.pointer (some ⟨b94, 0, none⟩)] (by kernel_rfl) (by kernel_rfl) ?_
        refine (c_s_l1Cur_next w135 (⟨x92.code, r134.2.1, r134.2.2⟩ : l1Cur) p96 c97 (h98.memX hap99 M137) b94 (M137.hasPick [0]) (M137.nodupPick [0] (by kernel_rfl)) (apartX.old h98 hap99 M137 [0]) hr147).mono ?_
        rintro e_ w148 ⟨rfl, K149⟩
        have M150 := M137.callF' [0] [] (by kernel_rfl) K149
        refine ⟨_, rfl, ?_⟩
        refine W_run 2 [(1, .int .i64 x100), (5, .int .i64 (w64 ((w64 (r134.1 * 256)) + r147.1)))] w148 (by kernel_rfl) ?_
        refine W_nil ?_
        obtain rfl := Option.some.inj hm
        exact N_meet fun a ha => ⟨M150.pick [0] (by kernel_rfl), ha.sub (by kernel_rfl)⟩
      · refine G_cond_f (b := (decide (x100 > 200))) hc146 (by kernel_rfl) ?_
        refine G_skip ?_
        obtain rfl := Option.some.inj hm
        exact N_meet fun a ha => ⟨M137.pick [0] (by kernel_rfl), ha.sub (by kernel_rfl)⟩
    · intro a153 w151 ⟨M152, hS154⟩
      refine N_use hS154 ?_
      have hm := hm145
      refine N_then ?_
      refine G_seq ?_
      refine G_region ?_
      refine W_run 2 [(17, .int .i64 o143.1), (18, .int .i64 x100)] w151 (by kernel_rfl) ?_
      obtain ⟨q155, hq155, hm⟩ := gx_bind hm
      refine W_val (.int .i64 q155) w151 (by kernel_rfl) (E_rem _ _ _ _ o143.1 x100 q155 rfl (by kernel_rfl) (by kernel_rfl) hq155) ?_
      refine W_run 1 [(4, .int .i64 q155)] w151 (by kernel_rfl) ?_
      refine W_nil ?_
      refine N_then ?_
      refine G_ret ?_
      obtain rfl := Option.some.inj hm
      refine N_ret [.int .i64 q155] (RVs_cons (RV_tmp (by kernel_rfl)) RVs_nil) ?_
      exact ⟨rfl, M152.pick [0] (by kernel_rfl)⟩
theorem c_s_l1Cur_among (w : World) (x168 : l1Cur) (p172 : Option Addr) (c173 : Nat) (h174 : rdS encU8 w x168.code p172 c173) (b170 : Nat) (x176 : List Int) (p178 : Option Addr) (c179 : Nat) (h180 : rdS encI w x176 p178 c179) (hA : ∀ q ∈ List.flatten [[(b170, .cells ⟨[.slice p172 x168.code.length c173, .int .i64 x168.at_, .int .u64 x168.seed]⟩ 99 (0, 0))]], w.heap[q.1]? = some q.2) (hN : (idsOf [[(b170, .cells ⟨[.slice p172 x168.code.length c173, .int .i64 x168.at_, .int .u64 x168.seed]⟩ 99 (0, 0))]]).Nodup) (hap175 : apartX (idsOf [[(b170, .cells ⟨[.slice p172 x168.code.length c173, .int .i64 x168.at_, .int .u64 x168.seed]⟩ 99 (0, 0))]]) x168.code p172) (hap181 : apartX (idsOf [[(b170, .cells ⟨[.slice p172 x168.code.length c173, .int .i64 x168.at_, .int .u64 x168.seed]⟩ 99 (0, 0))]]) x176 p178) {r : Int × Int × Int} (hm : M.s_l1Cur_among x168 x176 = some r) :
    Calls Try.prog 86 #[.pointer (some ⟨b170, 0, none⟩), .slice p178 x176.length c179] w fun e w' => e = .returned (.int .i64 r.1) ∧ Mem (idsOf [[(b170, .cells ⟨[.slice p172 x168.code.length c173, .int .i64 x168.at_, .int .u64 x168.seed]⟩ 99 (0, 0))]]) w w' [[(b170, .cells ⟨[.slice p172 x168.code.length c173, .int .i64 r.2.1, .int .u64 r.2.2]⟩ 99 (0, 0))]] := by
  unfold M.s_l1Cur_among at hm
  refine C_enter Try.func86 rfl (by kernel_rfl) ?_
  have M0 := Mem.start' w [[(b170, .cells ⟨[.slice p172 x168.code.length c173, .int .i64 x168.at_, .int .u64 x168.seed]⟩ 99 (0, 0))]] hA hN
  refine G_seq ?_
  refine G_region ?_
  refine W_run 1 [(0, .pointer (some ⟨b170, 0, none⟩)), (1, .slice p178 x176.length c179)] w (by kernel_rfl) ?_
  refine W_nil ?_
  refine N_then ?_
  refine G_seq ?_
  refine G_region ?_
  refine W_run 4 [(5, .slice p178 x176.length c179), (6, .pointer (some ⟨b170, 0, none⟩)), (8, .int .i64 (x176.length : Int))] w (by kernel_rfl) ?_
  obtain ⟨r182, hr182, hm⟩ := gx_bind hm
  refine W_call 88 #[.pointer (some ⟨b170, 0, none⟩), .int .i64 (x176.length : Int)] (by kernel_rfl) (by kernel_rfl) ?_
  refine (c_s_l1Cur_pick w x168 p172 c173 (h174.memX hap175 M0) b170 (x176.length : Int) (M0.hasPick [0]) (M0.nodupPick [0] (by kernel_rfl)) (apartX.old h174 hap175 M0 [0]) hr182).mono ?_
  rintro e_ w183 ⟨rfl, K184⟩
  have M185 := M0.callF' [0] [] (by kernel_rfl) K184
  refine ⟨_, rfl, ?_⟩
  obtain ⟨y186, hy186, hm⟩ := gx_bind hm
  refine W_val (elemP p178 (r182.1.toNat * 1)) w183 (by kernel_rfl) (E_index (E := encI) _ _ _ x176.length c179 .i64 r182.1 1 (y := y186) rfl (by kernel_rfl) (by kernel_rfl) (by kernel_rfl) (h180.memX hap181 M185) rfl hy186) ?_
  refine W_val (.int .i64 y186) w183 (by kernel_rfl) (E_loadE (E := encI) _ _ false 1 r182.1 0 (r182.1.toNat * 1) y186 (.int .i64 y186) rfl (by kernel_rfl) (by kernel_rfl) (by kernel_rfl) (h180.memX hap181 M185) hy186 rfl) ?_
  refine W_run 1 [(4, .int .i64 y186)] w183 (by kernel_rfl) ?_
  refine W_nil ?_
  refine N_then ?_
  refine G_ret ?_
  obtain rfl := Option.some.inj hm
  refine N_ret [.int .i64 y186] (RVs_cons (RV_tmp (by kernel_rfl)) RVs_nil) ?_
  exact ⟨rfl, M185.pick [0] (by kernel_rfl)⟩
theorem c_s_l1Cur_memory (w : World) (x72 : l1Cur) (p76 : Option Addr) (c77 : Nat) (h78 : rdS encU8 w x72.code p76 c77) (b74 : Nat) (hA : ∀ q ∈ List.flatten [[(b74, .cells ⟨[.slice p76 x72.code.length c77, .int .i64 x72.at_, .int .u64 x72.seed]⟩ 99 (0, 0))]], w.heap[q.1]? = some q.2) (hN : (idsOf [[(b74, .cells ⟨[.slice p76 x72.code.length c77, .int .i64 x72.at_, .int .u64 x72.seed]⟩ 99 (0, 0))]]).Nodup) (hap79 : apartX (idsOf [[(b74, .cells ⟨[.slice p76 x72.code.length c77, .int .i64 x72.at_, .int .u64 x72.seed]⟩ 99 (0, 0))]]) x72.code p76) {r : (List Int) × Int × Int} (hm : M.s_l1Cur_memory x72 = some r) :
    Calls Try.prog 91 #[.pointer (some ⟨b74, 0, none⟩)] w fun e w' => ∃ (p81 : Option Addr) (c82 : Nat) (sg83 : Seg), e = .returned (.slice p81 r.1.length c82) ∧ ownS encI r.1 p81 c82 sg83 ∧ Mem (idsOf [[(b74, .cells ⟨[.slice p76 x72.code.length c77, .int .i64 x72.at_, .int .u64 x72.seed]⟩ 99 (0, 0))]]) w w' [[(b74, .cells ⟨[.slice p76 x72.code.length c77, .int .i64 r.2.1, .int .u64 r.2.2]⟩ 99 (0, 0))], sg83] := by
  unfold M.s_l1Cur_memory at hm
  refine C_enter Try.func91 rfl (by kernel_rfl) ?_
  have M0 := Mem.start' w [[(b74, .cells ⟨[.slice p76 x72.code.length c77, .int .i64 x72.at_, .int .u64 x72.seed]⟩ 99 (0, 0))]] hA hN
  refine G_seq ?_
  refine G_region ?_
  refine W_run 1 [(0, .pointer (some ⟨b74, 0, none⟩))] w (by kernel_rfl) ?_
  refine W_nil ?_
  refine N_then ?_
  refine G_seq ?_
  refine G_region ?_
  refine W_lit (E := encI) ([] : List Int) 0 [] 3 M0 (by kernel_rfl) (by kernel_rfl) (by kernel_rfl) (by kernel_rfl) (by kernel_rfl) ?_
  intro p85 c86 sg87 w88 ho89 M90
  refine W_run 1 [(0, .pointer (some ⟨b74, 0, none⟩)), (3, .slice p85 ([] : List Int).length c86)] w88 (by kernel_rfl) ?_
  refine W_nil ?_
  refine N_then ?_
  refine G_seq ?_
  refine G_seq ?_
  refine G_region ?_
  refine W_run 1 [(0, .pointer (some ⟨b74, 0, none⟩)), (3, .slice p85 ([] : List Int).length c86), (6, .pointer (some ⟨b74, 0, none⟩))] w88 (by kernel_rfl) ?_
  obtain ⟨r156, hr156, hm⟩ := gx_bind hm
  refine W_call 88 #[.pointer (some ⟨b74, 0, none⟩), .int .i64 8] (by kernel_rfl) (by kernel_rfl) ?_
  refine (c_s_l1Cur_pick w88 x72 p76 c77 (h78.memX hap79 M90) b74 8 (M90.hasPick [0]) (M90.nodupPick [0] (by kernel_rfl)) (apartX.old h78 hap79 M90 [0]) hr156).mono ?_
  rintro e_ w157 ⟨rfl, K158⟩
  have M159 := M90.callF' [0] [1] (by kernel_rfl) K158
  refine ⟨_, rfl, ?_⟩
  refine W_run 2 [(0, .pointer (some ⟨b74, 0, none⟩)), (3, .slice p85 ([] : List Int).length c86), (4, .int .i64 (w64 (1 + r156.1)))] w157 (by kernel_rfl) ?_
  refine W_nil ?_
  refine N_then ?_
  obtain ⟨out245, hw246, hmo247⟩ := gx_bind hm
  refine G_meet (fun a w' => ∃ (p254 : Option Addr), ∃ (c255 : Nat), ∃ (sg256 : Seg), ownS encI out245.1 p254 c255 sg256 ∧ Mem (idsOf [[(b74, .cells ⟨[.slice p76 x72.code.length c77, .int .i64 x72.at_, .int .u64 x72.seed]⟩ 99 (0, 0))]]) w w' [[(b74, .cells ⟨[.slice p76 x72.code.length c77, .int .i64 out245.2.1, .int .u64 out245.2.2]⟩ 99 (0, 0))], sg256] ∧ Sat Try.f91.ntmps [(0, .pointer (some ⟨b74, 0, none⟩)), (3, .slice p254 out245.1.length c255)] a) ?_ ?_
  · refine G_block ?_
    refine G_while (σ := List Int × Int × Int × Int) (ρ := List Int × Int × Int) (fun s238 a w' => ∃ (p248 : Option Addr), ∃ (c249 : Nat), ∃ (sg250 : Seg), ownS encI s238.1 p248 c249 sg250 ∧ Mem (idsOf [[(b74, .cells ⟨[.slice p76 x72.code.length c77, .int .i64 x72.at_, .int .u64 x72.seed]⟩ 99 (0, 0))]]) w w' [[(b74, .cells ⟨[.slice p76 x72.code.length c77, .int .i64 s238.2.2.1, .int .u64 s238.2.2.2]⟩ 99 (0, 0))], sg250] ∧ Sat Try.f91.ntmps [(0, .pointer (some ⟨b74, 0, none⟩)), (3, .slice p248 s238.1.length c249), (4, .int .i64 s238.2.1)] a) hw246 (fun a ha => ⟨p85, c86, sg87, ho89, M159.pick [1, 0] (by kernel_rfl), ha.sub (by kernel_rfl)⟩) ?_
    clear hm
    intro s238 x239 hm hout240 a241 w242 ⟨p248, c249, sg250, ho251, M243, hS244⟩
    refine G_use hS244 ?_
    refine G_seq ?_
    refine G_seq ?_
    refine G_region ?_
    refine W_run 2 [(0, .pointer (some ⟨b74, 0, none⟩)), (3, .slice p248 s238.1.length c249), (4, .int .i64 s238.2.1), (10, .bool (decide (s238.2.1 > 0)))] w242 (by kernel_rfl) ?_
    refine W_nil ?_
    refine N_then ?_
    rcases gx_bif hm with ⟨hc259, hm⟩ | ⟨hc259, hm⟩
    · refine G_cond_t (b := (decide (s238.2.1 > 0))) hc259 (by kernel_rfl) ?_
      refine G_skip ?_
      refine N_then ?_
      refine G_seq ?_
      refine G_block ?_
      refine G_region ?_
      refine W_run 2 [(0, .pointer (some ⟨b74, 0, none⟩)), (3, .slice p248 s238.1.length c249), (4, .int .i64 s238.2.1), (13, .slice p248 s238.1.length c249), (14, .pointer (some ⟨b74, 0, none⟩))] w242 (by kernel_rfl) ?_
      refine W_lit (E := encI) [0, 0, 1, 2, 255, 4096, 65535] 7 [.int .i64 0, .int .i64 0, .int .i64 1, .int .i64 2, .int .i64 255, .int .i64 4096, .int .i64 65535] 3 M243 (by kernel_rfl) (by kernel_rfl) (by kernel_rfl) (by kernel_rfl) (by kernel_rfl) ?_
      intro p260 c261 sg262 w263 ho264 M265
      obtain ⟨r267, hr267, hm⟩ := gx_bind hm
      refine W_call 86 #[.pointer (some ⟨b74, 0, none⟩), .slice p260 [0, 0, 1, 2, 255, 4096, 65535].length c261] (by kernel_rfl) (by kernel_rfl) ?_
      refine (c_s_l1Cur_among w263 (⟨x72.code, s238.2.2.1, s238.2.2.2⟩ : l1Cur) p76 c77 (h78.memX hap79 M265) b74 [0, 0, 1, 2, 255, 4096, 65535] p260 c261 (ho264.rd M265 2 (by kernel_rfl)) (M265.hasPick [0]) (M265.nodupPick [0] (by kernel_rfl)) (apartX.old h78 hap79 M265 [0]) (apartX.own ho264 M265 2 (by kernel_rfl) [0] (by kernel_rfl)) hr267).mono ?_
      rintro e_ w268 ⟨rfl, K269⟩
      have M270 := M265.callF' [0] [1, 2] (by kernel_rfl) K269
      refine ⟨_, rfl, ?_⟩
      refine W_lit (E := encI) [r267.1] 1 [.int .i64 r267.1] 3 M270 (by kernel_rfl) (by kernel_rfl) (by kernel_rfl) (by kernel_rfl) (by kernel_rfl) ?_
      intro p271 c272 sg273 w274 ho275 M276
      obtain ⟨ap278, hap278, hm⟩ := gx_bind hm
      refine W_append (E := encI) _ _ _ 8 [.int .i64 0] 0 c272 M276 ho251 (by kernel_rfl) (by kernel_rfl) (by kernel_rfl) rfl (by kernel_rfl) (by kernel_rfl) (by kernel_rfl) (by kernel_rfl) (by kernel_rfl) (by kernel_rfl) (ho275.rd M276 3 (by kernel_rfl)) hap278 ?_
      intro p279 c280 sg281 w282 ho283 M284
      refine W_run 1 [(0, .pointer (some ⟨b74, 0, none⟩)), (3, .slice p279 ap278.length c280), (4, .int .i64 s238.2.1)] w282 (by kernel_rfl) ?_
      refine W_nil ?_
      refine N_block ?_
      refine N_then ?_
      refine G_region ?_
      refine W_run 3 [(0, .pointer (some ⟨b74, 0, none⟩)), (3, .slice p279 ap278.length c280), (4, .int .i64 (w64 (s238.2.1 - 1)))] w282 (by kernel_rfl) ?_
      refine W_nil ?_
      obtain rfl := Option.some.inj hm
      exact N_loop fun a ha => ⟨_, rfl, p279, c280, sg281, ho283, M284.pick [2, 0] (by kernel_rfl), ha.sub (by kernel_rfl)⟩
    · refine G_cond_f (b := (decide (s238.2.1 > 0))) hc259 (by kernel_rfl) ?_
      refine G_exit ?_
      refine N_then_exit ?_
      refine N_then_exit ?_
      refine N_block_eq ?_
      obtain rfl := Option.some.inj hm
      obtain rfl := hout240 _ rfl
      exact N_meet fun a ha => ⟨p248, c249, sg250, ho251, M243.pick [0, 1] (by kernel_rfl), ha.sub (by kernel_rfl)⟩
  · intro a286 w287 ⟨p254, c255, sg256, ho257, M288, hS289⟩
    refine N_use hS289 ?_
    have hm := hmo247
    refine N_then ?_
    refine G_seq ?_
    refine G_seq ?_
    refine G_region ?_
    refine W_run 1 [(0, .pointer (some ⟨b74, 0, none⟩)), (3, .slice p254 out245.1.length c255), (19, .pointer (some ⟨b74, 0, none⟩))] w287 (by kernel_rfl) ?_
    obtain ⟨r290, hr290, hm⟩ := gx_bind hm
    refine W_call 88 #[.pointer (some ⟨b74, 0, none⟩), .int .i64 32] (by kernel_rfl) (by kernel_rfl) ?_
    refine (c_s_l1Cur_pick w287 (⟨x72.code, out245.2.1, out245.2.2⟩ : l1Cur) p76 c77 (h78.memX hap79 M288) b74 32 (M288.hasPick [0]) (M288.nodupPick [0] (by kernel_rfl)) (apartX.old h78 hap79 M288 [0]) hr290).mono ?_
    rintro e_ w291 ⟨rfl, K292⟩
    have M293 := M288.callF' [0] [1] (by kernel_rfl) K292
    refine ⟨_, rfl, ?_⟩
    refine W_nil ?_
    refine N_then ?_
    refine G_block ?_
    refine G_seq ?_
    refine G_region ?_
    refine W_run 2 [(0, .pointer (some ⟨b74, 0, none⟩)), (3, .slice p254 out245.1.length c255), (20, .int .i64 r290.1), (21, .bool (r290.1 == 0))] w291 (by kernel_rfl) ?_
    refine W_nil ?_
    refine N_then ?_
    obtain ⟨o727, ho728, hm729⟩ := gx_bind hm
    refine G_meet (fun a w' => ∃ (p730 : Option Addr), ∃ (c731 : Nat), ∃ (sg732 : Seg), ∃ (sg735 : Seg), ownS encI o727.1 p730 c731 sg732 ∧ ownS encI o727.2.2.2 p254 c255 sg735 ∧ Mem (idsOf [[(b74, .cells ⟨[.slice p76 x72.code.length c77, .int .i64 x72.at_, .int .u64 x72.seed]⟩ 99 (0, 0))]]) w w' [[(b74, .cells ⟨[.slice p76 x72.code.length c77, .int .i64 o727.2.1, .int .u64 o727.2.2.1]⟩ 99 (0, 0))], sg732] ∧ Sat Try.f91.ntmps [(3, .slice p730 o727.1.length c731)] a) ?_ ?_
    · have hm := ho728
      rcases gx_bif hm with ⟨hc737, hm⟩ | ⟨hc737, hm⟩
      · refine G_cond_t (b := (r290.1 == 0)) hc737 (by kernel_rfl) ?_
        refine G_region ?_
        refine W_run 2 [(3, .slice p254 out245.1.length c255), (23, .slice p254 out245.1.length c255), (24, .pointer (some ⟨b74, 0, none⟩))] w291 (by kernel_rfl) ?_
        refine W_lit (E := encI) [(-1), 65536] 2 [.int .i64 (-1), .int .i64 65536] 3 M293 (by kernel_rfl) (by kernel_rfl) (by kernel_rfl) (by kernel_rfl) (by kernel_rfl) ?_
        intro p738 c739 sg740 w741 ho742 M743
        obtain ⟨r745, hr745, hm⟩ := gx_bind hm
        refine W_call 86 #[.pointer (some ⟨b74, 0, none⟩), .slice p738 [(-1), 65536].length c739] (by kernel_rfl) (by kernel_rfl) ?_
        refine (c_s_l1Cur_among w741 (⟨x72.code, r290.2.1, r290.2.2⟩ : l1Cur) p76 c77 (h78.memX hap79 M743) b74 [(-1), 65536] p738 c739 (ho742.rd M743 2 (by kernel_rfl)) (M743.hasPick [1]) (M743.nodupPick [1] (by kernel_rfl)) (apartX.old h78 hap79 M743 [1]) (apartX.own ho742 M743 2 (by kernel_rfl) [1] (by kernel_rfl)) hr745).mono ?_
        rintro e_ w746 ⟨rfl, K747⟩
        have M748 := M743.callF' [1] [0, 2] (by kernel_rfl) K747
        refine ⟨_, rfl, ?_⟩
        obtain ⟨y749, hy749, hm⟩ := gx_bind hm
        refine W_val (elemP p254 ((0 : Int).toNat * 1)) w746 (by kernel_rfl) (E_index (E := encI) _ _ _ out245.1.length c255 .i64 0 1 (y := y749) rfl (by kernel_rfl) (by kernel_rfl) (by kernel_rfl) (ho257.rd M748 0 (by kernel_rfl)) rfl hy749) ?_
        refine W_storeE (E := encI) _ _ _ false 1 (0 : Int).toNat 0 ((0 : Int).toNat * 1) y749 r745.1 (.int .i64 r745.1) 0 M748 ho257 (by kernel_rfl) (by kernel_rfl) rfl (by kernel_rfl) (by kernel_rfl) (by kernel_rfl) (by kernel_rfl) (by kernel_rfl) (by kernel_rfl) (by kernel_rfl) (gxIdx_spec hy749).2 rfl ?_
        intro w750 sg752 ho753 M751
        refine W_conv 3 (.slice p254 out245.1.length c255) (.slice p254 (out245.1.set (0 : Int).toNat r745.1).length c255) (by kernel_rfl) (by rw [@List.length_set _ out245.1 ((0 : Int).toNat) r745.1]) ?_
        refine W_conv 23 (.slice p254 out245.1.length c255) (.slice p254 (out245.1.set (0 : Int).toNat r745.1).length c255) (by kernel_rfl) (by rw [@List.length_set _ out245.1 ((0 : Int).toNat) r745.1]) ?_
        refine W_nil ?_
        obtain rfl := Option.some.inj hm
        exact N_meet fun a ha => ⟨p254, c255, sg752, sg752, ho753, ho753, M751.pick [2, 0] (by kernel_rfl), ha.sub (by kernel_rfl)⟩
      · refine G_cond_f (b := (r290.1 == 0)) hc737 (by kernel_rfl) ?_
        refine G_seq ?_
        refine G_region ?_
        refine W_run 2 [(0, .pointer (some ⟨b74, 0, none⟩)), (3, .slice p254 out245.1.length c255), (20, .int .i64 r290.1), (28, .bool (r290.1 == 1))] w291 (by kernel_rfl) ?_
        refine W_nil ?_
        refine N_then ?_
        obtain ⟨o956, ho957, hm958⟩ := gx_bind hm
        refine G_meet (fun a w' => ∃ (p959 : Option Addr), ∃ (c960 : Nat), ∃ (sg961 : Seg), ownS encI o956.1 p959 c960 sg961 ∧ Mem (idsOf [[(b74, .cells ⟨[.slice p76 x72.code.length c77, .int .i64 x72.at_, .int .u64 x72.seed]⟩ 99 (0, 0))]]) w w' [[(b74, .cells ⟨[.slice p76 x72.code.length c77, .int .i64 o956.2.1, .int .u64 o956.2.2]⟩ 99 (0, 0))], sg961] ∧ Sat Try.f91.ntmps [(3, .slice p959 o956.1.length c960)] a) ?_ ?_
        · have hm := ho957
          rcases gx_bif hm with ⟨hc964, hm⟩ | ⟨hc964, hm⟩
          · refine G_cond_t (b := (r290.1 == 1)) hc964 (by kernel_rfl) ?_
            refine G_region ?_
            refine W_lit (E := encI) ([] : List Int) 0 [] 3 M293 (by kernel_rfl) (by kernel_rfl) (by kernel_rfl) (by kernel_rfl) (by kernel_rfl) ?_
            intro p965 c966 sg967 w968 ho969 M970
            refine W_run 1 [(3, .slice p965 ([] : List Int).length c966)] w968 (by kernel_rfl) ?_
            refine W_nil ?_
            obtain rfl := Option.some.inj hm
            exact N_meet fun a ha => ⟨p965, c966, sg967, ho969, M970.pick [1, 2] (by kernel_rfl), ha.sub (by kernel_rfl)⟩
          · refine G_cond_f (b := (r290.1 == 1)) hc964 (by kernel_rfl) ?_
            refine G_seq ?_
            refine G_region ?_
            refine W_run 2 [(0, .pointer (some ⟨b74, 0, none⟩)), (3, .slice p254 out245.1.length c255), (31, .bool (r290.1 == 2))] w291 (by kernel_rfl) ?_
            refine W_nil ?_
            refine N_then ?_
            obtain ⟨o1063, ho1064, hm1065⟩ := gx_bind hm
            refine G_meet (fun a w' => ∃ (p1066 : Option Addr), ∃ (c1067 : Nat), ∃ (sg1068 : Seg), ownS encI o1063.1 p1066 c1067 sg1068 ∧ Mem (idsOf [[(b74, .cells ⟨[.slice p76 x72.code.length c77, .int .i64 x72.at_, .int .u64 x72.seed]⟩ 99 (0, 0))]]) w w' [[(b74, .cells ⟨[.slice p76 x72.code.length c77, .int .i64 o1063.2.1, .int .u64 o1063.2.2]⟩ 99 (0, 0))], sg1068] ∧ Sat Try.f91.ntmps [(3, .slice p1066 o1063.1.length c1067)] a) ?_ ?_
            · have hm := ho1064
              rcases gx_bif hm with ⟨hc1071, hm⟩ | ⟨hc1071, hm⟩
              · refine G_cond_t (b := (r290.1 == 2)) hc1071 (by kernel_rfl) ?_
                obtain ⟨out1124, hw1125, hmo1126⟩ := gx_bind hm
                refine G_meet (fun a w' => ∃ (p1133 : Option Addr), ∃ (c1134 : Nat), ∃ (sg1135 : Seg), ownS encI out1124.1 p1133 c1134 sg1135 ∧ Mem (idsOf [[(b74, .cells ⟨[.slice p76 x72.code.length c77, .int .i64 x72.at_, .int .u64 x72.seed]⟩ 99 (0, 0))]]) w w' [[(b74, .cells ⟨[.slice p76 x72.code.length c77, .int .i64 out1124.2.1, .int .u64 out1124.2.2]⟩ 99 (0, 0))], sg1135] ∧ Sat Try.f91.ntmps [(3, .slice p1133 out1124.1.length c1134)] a) ?_ ?_
                · refine G_block ?_
                  refine G_while (σ := List Int × Int × Int) (ρ := List Int × Int × Int) (fun s1117 a w' => ∃ (p1127 : Option Addr), ∃ (c1128 : Nat), ∃ (sg1129 : Seg), ownS encI s1117.1 p1127 c1128 sg1129 ∧ Mem (idsOf [[(b74, .cells ⟨[.slice p76 x72.code.length c77, .int .i64 x72.at_, .int .u64 x72.seed]⟩ 99 (0, 0))]]) w w' [[(b74, .cells ⟨[.slice p76 x72.code.length c77, .int .i64 s1117.2.1, .int .u64 s1117.2.2]⟩ 99 (0, 0))], sg1129] ∧ Sat Try.f91.ntmps [(0, .pointer (some ⟨b74, 0, none⟩)), (3, .slice p1127 s1117.1.length c1128)] a) hw1125 (fun a ha => ⟨p254, c255, sg256, ho257, M293.pick [1, 0] (by kernel_rfl), ha.sub (by kernel_rfl)⟩) ?_
                  clear hm
                  intro s1117 x1118 hm hout1119 a1120 w1121 ⟨p1127, c1128, sg1129, ho1130, M1122, hS1123⟩
                  refine G_use hS1123 ?_
                  refine G_seq ?_
                  refine G_seq ?_
                  refine G_region ?_
                  refine W_run 3 [(0, .pointer (some ⟨b74, 0, none⟩)), (3, .slice p1127 s1117.1.length c1128), (34, .int .i64 (s1117.1.length : Int)), (35, .pointer (some ⟨b74, 0, none⟩))] w1121 (by kernel_rfl) ?_
                  obtain ⟨r1138, hr1138, hm⟩ := gx_bind hm
                  refine W_call 88 #[.pointer (some ⟨b74, 0, none⟩), .int .i64 2] (by kernel_rfl) (by kernel_rfl) ?_
                  refine (c_s_l1Cur_pick w1121 (⟨x72.code, s1117.2.1, s1117.2.2⟩ : l1Cur) p76 c77 (h78.memX hap79 M1122) b74 2 (M1122.hasPick [0]) (M1122.nodupPick [0] (by kernel_rfl)) (apartX.old h78 hap79 M1122 [0]) hr1138).mono ?_
                  rintro e_ w1139 ⟨rfl, K1140⟩
                  have M1141 := M1122.callF' [0] [1] (by kernel_rfl) K1140
                  refine ⟨_, rfl, ?_⟩
                  refine W_run 2 [(0, .pointer (some ⟨b74, 0, none⟩)), (3, .slice p1127 s1117.1.length c1128), (38, .bool (decide ((s1117.1.length : Int) < (w64 (12 + r1138.1)))))] w1139 (by kernel_rfl) ?_
                  refine W_nil ?_
                  refine N_then ?_
                  rcases gx_bif hm with ⟨hc1142, hm⟩ | ⟨hc1142, hm⟩
                  · refine G_cond_t (b := (decide ((s1117.1.length : Int) < (w64 (12 + r1138.1))))) hc1142 (by kernel_rfl) ?_
                    refine G_skip ?_
                    refine N_then ?_
                    refine G_block ?_
                    refine G_region ?_
                    refine W_run 1 [(0, .pointer (some ⟨b74, 0, none⟩)), (3, .slice p1127 s1117.1.length c1128), (39, .slice p1127 s1117.1.length c1128)] w1139 (by kernel_rfl) ?_
                    refine W_lit (E := encI) [7] 1 [.int .i64 7] 3 M1141 (by kernel_rfl) (by kernel_rfl) (by kernel_rfl) (by kernel_rfl) (by kernel_rfl) ?_
                    intro p1143 c1144 sg1145 w1146 ho1147 M1148
                    obtain ⟨ap1150, hap1150, hm⟩ := gx_bind hm
                    refine W_append (E := encI) _ _ _ 8 [.int .i64 0] 0 c1144 M1148 ho1130 (by kernel_rfl) (by kernel_rfl) (by kernel_rfl) rfl (by kernel_rfl) (by kernel_rfl) (by kernel_rfl) (by kernel_rfl) (by kernel_rfl) (by kernel_rfl) (ho1147.rd M1148 2 (by kernel_rfl)) hap1150 ?_
                    intro p1151 c1152 sg1153 w1154 ho1155 M1156
                    refine W_run 1 [(0, .pointer (some ⟨b74, 0, none⟩)), (3, .slice p1151 ap1150.length c1152)] w1154 (by kernel_rfl) ?_
                    refine W_nil ?_
                    refine N_block ?_
                    obtain rfl := Option.some.inj hm
                    exact N_loop fun a ha => ⟨_, rfl, p1151, c1152, sg1153, ho1155, M1156.pick [1, 0] (by kernel_rfl), ha.sub (by kernel_rfl)⟩
                  · refine G_cond_f (b := (decide ((s1117.1.length : Int) < (w64 (12 + r1138.1))))) hc1142 (by kernel_rfl) ?_
                    refine G_exit ?_
                    refine N_then_exit ?_
                    refine N_then_exit ?_
                    refine N_block_eq ?_
                    obtain rfl := Option.some.inj hm
                    obtain rfl := hout1119 _ rfl
                    exact N_meet fun a ha => ⟨p1127, c1128, sg1129, ho1130, M1141.pick [1, 0] (by kernel_rfl), ha.sub (by kernel_rfl)⟩
                · intro a1158 w1159 ⟨p1133, c1134, sg1135, ho1136, M1160, hS1161⟩
                  refine N_use hS1161 ?_
                  have hm := hmo1126
                  obtain rfl := Option.some.inj hm
                  exact N_meet fun a ha => ⟨p1133, c1134, sg1135, ho1136, M1160.pick [0, 1] (by kernel_rfl), ha.sub (by kernel_rfl)⟩
              · refine G_cond_f (b := (r290.1 == 2)) hc1071 (by kernel_rfl) ?_
                refine G_skip ?_
                obtain rfl := Option.some.inj hm
                exact N_meet fun a ha => ⟨p254, c255, sg256, ho257, M293.pick [1, 0] (by kernel_rfl), ha.sub (by kernel_rfl)⟩
            · intro a1164 w1162 ⟨p1066, c1067, sg1068, ho1069, M1163, hS1165⟩
              refine N_use hS1165 ?_
              have hm := hm1065
              obtain rfl := Option.some.inj hm
              exact N_meet fun a ha => ⟨p1066, c1067, sg1068, ho1069, M1163.pick [0, 1] (by kernel_rfl), ha.sub (by kernel_rfl)⟩
        · intro a1168 w1166 ⟨p959, c960, sg961, ho962, M1167, hS1169⟩
          refine N_use hS1169 ?_
          have hm := hm958
          obtain rfl := Option.some.inj hm
          exact N_meet fun a ha => ⟨p959, c960, sg961, sg256, ho962, ho257, M1167.pick [0, 1] (by kernel_rfl), ha.sub (by kernel_rfl)⟩
    · intro a1172 w1170 ⟨p730, c731, sg732, sg735, ho733, ho736, M1171, hS1173⟩
      refine N_use hS1173 ?_
      have hm := hm729
      refine N_block ?_
      refine N_then ?_
      refine G_seq ?_
      refine G_region ?_
      refine W_run 2 [(2, .slice p730 o727.1.length c731)] w1170 (by kernel_rfl) ?_
      refine W_nil ?_
      refine N_then ?_
      refine G_ret ?_
      obtain rfl := Option.some.inj hm
      refine N_ret [.slice p730 o727.1.length c731] (RVs_cons (RV_tmp (by kernel_rfl)) RVs_nil) ?_
      exact ⟨p730, c731, sg732, rfl, ho733, M1171.pick [0, 1] (by kernel_rfl)⟩
theorem c_s_l1In (w : World) (x1215 : Int) (x1216 : Int) (x1217 : Int) {r : Bool} (hm : M.s_l1In x1215 x1216 x1217 = some r) :
    Calls Try.prog 73 #[.int .i64 x1215, .int .i64 x1216, .int .i64 x1217] w fun e w' => e = .returned (.bool r) ∧ Mem [] w w' [] := by
  unfold M.s_l1In at hm
  refine C_enter Try.func73 rfl (by kernel_rfl) ?_
  have M0 := Mem.refl [] w
  refine G_seq ?_
  refine G_region ?_
  refine W_run 1 [(0, .int .i64 x1215), (1, .int .i64 x1216), (2, .int .i64 x1217)] w (by kernel_rfl) ?_
  refine W_nil ?_
  refine N_then ?_
  refine G_seq ?_
  obtain ⟨o1219, ho1220, hm1221⟩ := gx_bind hm
  refine G_meet (fun a w' => Mem [] w w' [] ∧ Sat Try.f73.ntmps [(6, .bool o1219)] a) ?_ ?_
  · have hm := ho1220
    refine G_region ?_
    refine W_run 4 [(0, .int .i64 x1215), (2, .int .i64 x1217), (10, .bool (decide (x1215 ≥ x1216)))] w (by kernel_rfl) ?_
    rcases gx_bif hm with ⟨hc1222, hm⟩ | ⟨hc1222, hm⟩
    · refine W_known 10 true (by kernel_rfl) hc1222 ?_
      refine W_run 5 [(6, .bool (decide (x1215 ≤ x1217)))] w (by kernel_rfl) ?_
      refine W_nil ?_
      obtain rfl := Option.some.inj hm
      exact N_meet fun a ha => ⟨M0.pick [] (by kernel_rfl), ha.sub (by kernel_rfl)⟩
    · refine W_known 10 false (by kernel_rfl) hc1222 ?_
      refine W_run 5 [(6, .bool false)] w (by kernel_rfl) ?_
      refine W_nil ?_
      obtain rfl := Option.some.inj hm
      exact N_meet fun a ha => ⟨M0.pick [] (by kernel_rfl), ha.sub (by kernel_rfl)⟩
  · intro a1225 w1223 ⟨M1224, hS1226⟩
    refine N_use hS1226 ?_
    have hm := hm1221
    refine N_then ?_
    refine G_ret ?_
    obtain rfl := Option.some.inj hm
    refine N_ret [.bool o1219] (RVs_cons (RV_tmp (by kernel_rfl)) RVs_nil) ?_
    exact ⟨rfl, M1224.pick [] (by kernel_rfl)⟩
theorem c_s_l2Word16 (w : World) (x1214 : Int) {r : Bool} (hm : M.s_l2Word16 x1214 = some r) :
    Calls Try.prog 95 #[.int .i64 x1214] w fun e w' => e = .returned (.bool r) ∧ Mem [] w w' [] := by
  unfold M.s_l2Word16 at hm
  refine C_enter Try.func95 rfl (by kernel_rfl) ?_
  have M0 := Mem.refl [] w
  refine G_seq ?_
  refine G_region ?_
  refine W_run 1 [(0, .int .i64 x1214)] w (by kernel_rfl) ?_
  refine W_nil ?_
  refine N_then ?_
  refine G_seq ?_
  refine G_region ?_
  refine W_run 1 [(3, .int .i64 x1214)] w (by kernel_rfl) ?_
  obtain ⟨r1227, hr1227, hm⟩ := gx_bind hm
  refine W_call 73 #[.int .i64 x1214, .int .i64 0, .int .i64 65535] (by kernel_rfl) (by kernel_rfl) ?_
  refine (c_s_l1In w x1214 0 65535 hr1227).mono ?_
  rintro e_ w1228 ⟨rfl, K1229⟩
  have M1230 := M0.call0 K1229
  refine ⟨_, rfl, ?_⟩
  refine W_run 1 [(2, .bool r1227)] w1228 (by kernel_rfl) ?_
  refine W_nil ?_
  refine N_then ?_
  refine G_ret ?_
  obtain rfl := Option.some.inj hm
  refine N_ret [.bool r1227] (RVs_cons (RV_tmp (by kernel_rfl)) RVs_nil) ?_
  exact ⟨rfl, M1230.pick [] (by kernel_rfl)⟩
theorem c_s_l19Memory (w : World) (x1207 : List Int) (p1209 : Option Addr) (c1210 : Nat) (h1211 : rdS encI w x1207 p1209 c1210) {r : Bool} (hm : M.s_l19Memory x1207 = some r) :
    Calls Try.prog 60 #[.slice p1209 x1207.length c1210] w fun e w' => e = .returned (.bool r) ∧ Mem [] w w' [] := by
  unfold M.s_l19Memory at hm
  refine C_enter Try.func60 rfl (by kernel_rfl) ?_
  have M0 := Mem.refl [] w
  refine G_seq ?_
  refine G_region ?_
  refine W_run 1 [(0, .slice p1209 x1207.length c1210)] w (by kernel_rfl) ?_
  refine W_nil ?_
  refine N_then ?_
  refine G_seq ?_
  refine G_seq ?_
  refine G_region ?_
  refine W_run 1 [(0, .slice p1209 x1207.length c1210), (3, .int .i64 0)] w (by kernel_rfl) ?_
  refine W_nil ?_
  refine N_then ?_
  obtain ⟨out1250, hw1251, hmo1252⟩ := gx_bind hm
  refine G_meet (fun a w' => ∃ (o1253 : Unit), out1250 = .inl o1253 ∧ Mem [] w w' [] ∧ Sat Try.f60.ntmps [(0, .slice p1209 x1207.length c1210)] a) ?_ ?_
  · refine G_block ?_
    refine G_while (σ := Int) (ρ := (Unit) ⊕ (Bool)) (fun s1243 a w' => Mem [] w w' [] ∧ Sat Try.f60.ntmps [(0, .slice p1209 x1207.length c1210), (3, .int .i64 s1243)] a) hw1251 (fun a ha => ⟨M0.pick [] (by kernel_rfl), ha.sub (by kernel_rfl)⟩) ?_
    clear hm
    intro s1243 x1244 hm hout1245 a1246 w1247 ⟨M1248, hS1249⟩
    refine G_use hS1249 ?_
    refine G_seq ?_
    refine G_seq ?_
    refine G_region ?_
    refine W_run 4 [(0, .slice p1209 x1207.length c1210), (3, .int .i64 s1243), (7, .bool (decide (s1243 < (x1207.length : Int))))] w1247 (by kernel_rfl) ?_
    refine W_nil ?_
    refine N_then ?_
    rcases gx_bif hm with ⟨hc1254, hm⟩ | ⟨hc1254, hm⟩
    · refine G_cond_t (b := (decide (s1243 < (x1207.length : Int)))) hc1254 (by kernel_rfl) ?_
      refine G_skip ?_
      refine N_then ?_
      refine G_seq ?_
      refine G_block ?_
      refine G_seq ?_
      refine G_region ?_
      refine W_run 2 [(0, .slice p1209 x1207.length c1210), (3, .int .i64 s1243), (10, .slice p1209 x1207.length c1210), (11, .int .i64 s1243)] w1247 (by kernel_rfl) ?_
      obtain ⟨y1255, hy1255, hm⟩ := gx_bind hm
      refine W_val (elemP p1209 (s1243.toNat * 1)) w1247 (by kernel_rfl) (E_index (E := encI) _ _ _ x1207.length c1210 .i64 s1243 1 (y := y1255) rfl (by kernel_rfl) (by kernel_rfl) (by kernel_rfl) (h1211.mem0 M1248) rfl hy1255) ?_
      refine W_val (.int .i64 y1255) w1247 (by kernel_rfl) (E_loadE (E := encI) _ _ false 1 s1243 0 (s1243.toNat * 1) y1255 (.int .i64 y1255) rfl (by kernel_rfl) (by kernel_rfl) (by kernel_rfl) (h1211.mem0 M1248) hy1255 rfl) ?_
      obtain ⟨r1256, hr1256, hm⟩ := gx_bind hm
      refine W_call 95 #[.int .i64 y1255] (by kernel_rfl) (by kernel_rfl) ?_
      refine (c_s_l2Word16 w1247 y1255 hr1256).mono ?_
      rintro e_ w1257 ⟨rfl, K1258⟩
      have M1259 := M1248.call0 K1258
      refine ⟨_, rfl, ?_⟩
      refine W_run 1 [(0, .slice p1209 x1207.length c1210), (3, .int .i64 s1243), (15, .bool (!r1256))] w1257 (by kernel_rfl) ?_
      refine W_nil ?_
      refine N_then ?_
      rcases gx_bif hm with ⟨hc1260, hm⟩ | ⟨hc1260, hm⟩
      · refine G_cond_t (b := (!r1256)) hc1260 (by kernel_rfl) ?_
        refine G_seq ?_
        refine G_region ?_
        refine W_run 1 [(2, .bool false)] w1257 (by kernel_rfl) ?_
        refine W_nil ?_
        refine N_then ?_
        refine G_ret ?_
        refine N_block_ret ?_
        refine N_then_ret ?_
        refine N_then_ret ?_
        obtain rfl := Option.some.inj hm
        obtain rfl := hout1245 _ rfl
        have hm := hmo1252; simp only [Sum.elim_inr] at hm
        refine N_block_ret ?_
        refine N_meet_ret ?_
        refine N_then_ret ?_
        obtain rfl := Option.some.inj hm
        refine N_ret [.bool false] (RVs_cons (RV_tmp (by kernel_rfl)) RVs_nil) ?_
        exact ⟨rfl, M1259.pick [] (by kernel_rfl)⟩
      · refine G_cond_f (b := (!r1256)) hc1260 (by kernel_rfl) ?_
        refine G_skip ?_
        refine N_block ?_
        refine N_then ?_
        refine G_region ?_
        refine W_run 3 [(0, .slice p1209 x1207.length c1210), (3, .int .i64 (w64 (s1243 + 1)))] w1257 (by kernel_rfl) ?_
        refine W_nil ?_
        obtain rfl := Option.some.inj hm
        exact N_loop fun a ha => ⟨_, rfl, M1259.pick [] (by kernel_rfl), ha.sub (by kernel_rfl)⟩
    · refine G_cond_f (b := (decide (s1243 < (x1207.length : Int)))) hc1254 (by kernel_rfl) ?_
      refine G_exit ?_
      refine N_then_exit ?_
      refine N_then_exit ?_
      refine N_block_eq ?_
      obtain rfl := Option.some.inj hm
      obtain rfl := hout1245 _ rfl
      exact N_meet fun a ha => ⟨_, rfl, M1248.pick [] (by kernel_rfl), ha.sub (by kernel_rfl)⟩
  · intro a1261 w1262 ⟨o1253, hout_, M1263, hS1264⟩
    refine N_use hS1264 ?_
    subst hout_
    have hm := hmo1252; simp only [Sum.elim_inl] at hm
    refine N_then ?_
    refine G_seq ?_
    refine G_region ?_
    refine W_run 2 [(17, .int .i64 (x1207.length : Int))] w1262 (by kernel_rfl) ?_
    obtain ⟨r1265, hr1265, hm⟩ := gx_bind hm
    refine W_call 73 #[.int .i64 (x1207.length : Int), .int .i64 1, .int .i64 12] (by kernel_rfl) (by kernel_rfl) ?_
    refine (c_s_l1In w1262 (x1207.length : Int) 1 12 hr1265).mono ?_
    rintro e_ w1266 ⟨rfl, K1267⟩
    have M1268 := M1263.call0 K1267
    refine ⟨_, rfl, ?_⟩
    refine W_run 1 [(2, .bool r1265)] w1266 (by kernel_rfl) ?_
    refine W_nil ?_
    refine N_then ?_
    refine G_ret ?_
    obtain rfl := Option.some.inj hm
    refine N_ret [.bool r1265] (RVs_cons (RV_tmp (by kernel_rfl)) RVs_nil) ?_
    exact ⟨rfl, M1268.pick [] (by kernel_rfl)⟩
theorem c_s_l1Own (w : World) (x1281 : List Int) (p1283 : Option Addr) (c1284 : Nat) (h1285 : rdS encI w x1281 p1283 c1284) {r : (List Int)} (hm : M.s_l1Own x1281 = some r) :
    Calls Try.prog 61 #[.slice p1283 x1281.length c1284] w fun e w' => ∃ (p1287 : Option Addr) (c1288 : Nat) (sg1289 : Seg), e = .returned (.slice p1287 r.length c1288) ∧ ownS encI r p1287 c1288 sg1289 ∧ Mem [] w w' [sg1289] := by
  unfold M.s_l1Own at hm
  refine C_enter Try.func61 rfl (by kernel_rfl) ?_
  have M0 := Mem.refl [] w
  refine G_seq ?_
  refine G_region ?_
  refine W_run 1 [(0, .slice p1283 x1281.length c1284)] w (by kernel_rfl) ?_
  refine W_nil ?_
  refine N_then ?_
  refine G_seq ?_
  refine G_region ?_
  refine W_lit (E := encI) ([] : List Int) 0 [] 3 M0 (by kernel_rfl) (by kernel_rfl) (by kernel_rfl) (by kernel_rfl) (by kernel_rfl) ?_
  intro p1291 c1292 sg1293 w1294 ho1295 M1296
  refine W_run 1 [(3, .slice p1291 ([] : List Int).length c1292), (4, .slice p1283 x1281.length c1284)] w1294 (by kernel_rfl) ?_
  obtain ⟨ap1298, hap1298, hm⟩ := gx_bind hm
  refine W_append (E := encI) _ _ _ 8 [.int .i64 0] 0 c1284 M1296 ho1295 (by kernel_rfl) (by kernel_rfl) (by kernel_rfl) rfl (by kernel_rfl) (by kernel_rfl) (by kernel_rfl) (by kernel_rfl) (by kernel_rfl) (by kernel_rfl) (h1285.mem0 M1296) hap1298 ?_
  intro p1299 c1300 sg1301 w1302 ho1303 M1304
  refine W_run 1 [(2, .slice p1299 ap1298.length c1300)] w1302 (by kernel_rfl) ?_
  refine W_nil ?_
  refine N_then ?_
  refine G_ret ?_
  obtain rfl := Option.some.inj hm
  refine N_ret [.slice p1299 ap1298.length c1300] (RVs_cons (RV_tmp (by kernel_rfl)) RVs_nil) ?_
  exact ⟨p1299, c1300, sg1301, rfl, ho1303, M1304.pick [0] (by kernel_rfl)⟩
theorem c_s_StartCopy (w : World) (x1183 : List Int) (p1185 : Option Addr) (c1186 : Nat) (h1187 : rdS encI w x1183 p1185 c1186) {r : Copying × Bool} (hm : M.s_StartCopy x1183 = some r) :
    Calls Try.prog 18 #[.slice p1185 x1183.length c1186] w fun e w' => ∃ (p1189 : Option Addr) (c1190 : Nat) (sg1191 : Seg), ∃ (p1193 : Option Addr) (c1194 : Nat) (sg1195 : Seg), ∃ (p1197 : Option Addr) (c1198 : Nat) (sg1199 : Seg), e = .returned (.tuple #[.agg #[.slice p1189 r.1.Memory.length c1190, .slice p1193 r.1.Copy.length c1194, .slice p1197 r.1.Dirty.length c1198], .bool r.2]) ∧ ownS encI r.1.Memory p1189 c1190 sg1191 ∧ ownS encI r.1.Copy p1193 c1194 sg1195 ∧ ownS encB r.1.Dirty p1197 c1198 sg1199 ∧ Mem [] w w' [sg1191, sg1195, sg1199] := by
  unfold M.s_StartCopy at hm
  refine C_enter Try.func18 rfl (by kernel_rfl) ?_
  have M0 := Mem.refl [] w
  refine G_seq ?_
  refine G_region ?_
  refine W_new (fun b => .pointer (some ⟨b, 0, none⟩)) (.cells ⟨[.slice none 0 0, .slice none 0 0, .slice none 0 0]⟩ 28 (0, 0)) M0 rfl (by kernel_rfl) (by kernel_rfl) ?_
  intro b1204 w1205 M1206
  refine W_run 1 [(0, .slice p1185 x1183.length c1186), (2, .pointer (some ⟨b1204, 0, none⟩))] w1205 (by kernel_rfl) ?_
  refine W_nil ?_
  refine N_then ?_
  refine G_seq ?_
  refine G_seq ?_
  refine G_region ?_
  refine W_run 1 [(0, .slice p1185 x1183.length c1186), (2, .pointer (some ⟨b1204, 0, none⟩)), (6, .slice p1185 x1183.length c1186)] w1205 (by kernel_rfl) ?_
  obtain ⟨r1269, hr1269, hm⟩ := gx_bind hm
  refine W_call 60 #[.slice p1185 x1183.length c1186] (by kernel_rfl) (by kernel_rfl) ?_
  refine (c_s_l19Memory w1205 x1183 p1185 c1186 (h1187.mem0 M1206) hr1269).mono ?_
  rintro e_ w1270 ⟨rfl, K1271⟩
  have M1272 := M1206.call0 K1271
  refine ⟨_, rfl, ?_⟩
  refine W_run 1 [(0, .slice p1185 x1183.length c1186), (2, .pointer (some ⟨b1204, 0, none⟩)), (8, .bool (!r1269))] w1270 (by kernel_rfl) ?_
  refine W_nil ?_
  refine N_then ?_
  rcases gx_bif hm with ⟨hc1273, hm⟩ | ⟨hc1273, hm⟩
  · refine G_cond_t (b := (!r1269)) hc1273 (by kernel_rfl) ?_
    refine G_seq ?_
    refine G_region ?_
    refine W_run 1 [(2, .pointer (some ⟨b1204, 0, none⟩)), (9, .agg #[.slice none 0 0, .slice none 0 0, .slice none 0 0])] w1270 (by kernel_rfl) ?_
    refine W_store _ _ _ true 3 b1204 0 [.slice none 0 0, .slice none 0 0, .slice none 0 0] 28 (.agg #[.slice none 0 0, .slice none 0 0, .slice none 0 0]) 0 [.slice none 0 0, .slice none 0 0, .slice none 0 0] M1272 (by kernel_rfl) rfl (by kernel_rfl) (by kernel_rfl) (by kernel_rfl) (by kernel_rfl) (by kernel_rfl) (by kernel_rfl) (by kernel_rfl) (by kernel_rfl) ?_
    intro w1277 M1278
    refine W_run 1 [(2, .pointer (some ⟨b1204, 0, none⟩)), (3, .bool false)] w1277 (by kernel_rfl) ?_
    refine W_nil ?_
    refine N_then ?_
    refine G_ret ?_
    refine N_then_ret ?_
    obtain rfl := Option.some.inj hm
    refine N_ret [.agg #[.slice none 0 0, .slice none 0 0, .slice none 0 0], .bool false] (RVs_cons (RV_cell (g := true) (k := 3) (b := b1204) (off := 0) (cs := [.slice none 0 0, .slice none 0 0, .slice none 0 0]) (e := 28) (fr := (0, 0)) (v := .agg #[.slice none 0 0, .slice none 0 0, .slice none 0 0]) (M1278.blk 0 (b := b1204) (o := .cells ⟨[.slice none 0 0, .slice none 0 0, .slice none 0 0]⟩ 28 (0, 0)) (by kernel_rfl)) (by kernel_rfl) (by kernel_rfl) (by kernel_rfl)) (RVs_cons (RV_tmp (by kernel_rfl)) RVs_nil)) ?_
    exact ⟨none, 0, [], none, 0, [], none, 0, [], rfl, ownS_nil, ownS_nil, ownS_nil, M1278.pick [100000, 100001, 100002] (by kernel_rfl)⟩
  · refine G_cond_f (b := (!r1269)) hc1273 (by kernel_rfl) ?_
    refine G_skip ?_
    refine N_then ?_
    refine G_seq ?_
    obtain ⟨r1306, hr1306, hm⟩ := gx_bind hm
    obtain ⟨mk1312, hmk1312, hm⟩ := gx_bind hm
    refine G_sub [(0, .slice p1185 x1183.length c1186), (2, .pointer (some ⟨b1204, 0, none⟩)), (8, .bool (!r1269))] (by kernel_rfl) ?_
    refine G_dagL 8 [[], [0], [], [2], [3], [], [], []] [[], [], [], [], [], [], [], []] [[], [], [], [], [], [], [], []] [[], [], [], [], [], [], [1, 4, 5], []] [[], [], [], [], [], [], [1, 4, 5], []] [[], [], [], [], [], [], [], []] (fun _ => []) (fun i => ([fun f v s => v = (.slice p1185 x1183.length c1186 : Value) ∧ s = [], fun f v s => ∃ (p1308 : Option Addr) (c1309 : Nat), v = (.slice p1308 r1306.length c1309 : Value) ∧ ownS encI r1306 p1308 c1309 s, fun f v s => v = (.slice p1185 x1183.length c1186 : Value) ∧ s = [], fun f v s => v = (.int .i64 (x1183.length : Int) : Value) ∧ s = [], fun f v s => ∃ (p1314 : Option Addr) (c1315 : Nat), v = (.slice p1314 mk1312.length c1315 : Value) ∧ ownS encI mk1312 p1314 c1315 s, fun f v s => ∃ (p1319 : Option Addr) (c1320 : Nat), v = (.slice p1319 ([] : List Bool).length c1320 : Value) ∧ ownS encB ([] : List Bool) p1319 c1320 s, fun f v s => v = (.agg #[(atPath (f 1) []), (atPath (f 4) []), (atPath (f 5) [])] : Value) ∧ s = [], fun f v s => ∃ (b1330 : Nat), v = (.pointer (some ⟨b1330, 0, none⟩) : Value) ∧ s = [(b1330, .cells ⟨[.slice none 0 0, .slice none 0 0, .slice none 0 0]⟩ 28 (0, 0))]] : List ((Nat → Value) → Value → Seg → Prop)).getD i (fun _ _ _ => False)) (fun j f v => ∃ s, (fun i => ([fun f v s => v = (.slice p1185 x1183.length c1186 : Value) ∧ s = [], fun f v s => ∃ (p1308 : Option Addr) (c1309 : Nat), v = (.slice p1308 r1306.length c1309 : Value) ∧ ownS encI r1306 p1308 c1309 s, fun f v s => v = (.slice p1185 x1183.length c1186 : Value) ∧ s = [], fun f v s => v = (.int .i64 (x1183.length : Int) : Value) ∧ s = [], fun f v s => ∃ (p1314 : Option Addr) (c1315 : Nat), v = (.slice p1314 mk1312.length c1315 : Value) ∧ ownS encI mk1312 p1314 c1315 s, fun f v s => ∃ (p1319 : Option Addr) (c1320 : Nat), v = (.slice p1319 ([] : List Bool).length c1320 : Value) ∧ ownS encB ([] : List Bool) p1319 c1320 s, fun f v s => v = (.agg #[(atPath (f 1) []), (atPath (f 4) []), (atPath (f 5) [])] : Value) ∧ s = [], fun f v s => ∃ (b1330 : Nat), v = (.pointer (some ⟨b1330, 0, none⟩) : Value) ∧ s = [(b1330, .cells ⟨[.slice none 0 0, .slice none 0 0, .slice none 0 0]⟩ 28 (0, 0))]] : List ((Nat → Value) → Value → Seg → Prop)).getD i (fun _ _ _ => False)) j f v s) [] [1, 4, 5, 6, 7] [1, 4, 5, 7] (fun _ _ _ s h => ⟨s, h⟩) (by kernel_rfl) (by kernel_rfl) (M1272.preNil 8) (by kernel_rfl) (by kernel_rfl) (by kernel_rfl) (by kernel_rfl) (allOb_cons ?_ (allOb_cons ?_ (allOb_cons ?_ (allOb_cons ?_ (allOb_cons ?_ (allOb_cons ?_ (allOb_cons ?_ (allOb_cons ?_ allOb_nil)))))))) ?_
    · intro g1279 f1280
      intro R w1331 M1332
      refine W_run 1 [(10, .slice p1185 x1183.length c1186)] w1331 (by kernel_rfl) ?_
      exact W_nil (ob_end (.slice p1185 x1183.length c1186) [] rfl (by kernel_rfl) ⟨by kernel_rfl, rfl⟩ M1332)
    · intro g1279 f1280
      intro v0_ hb0_
      obtain ⟨rfl, _⟩ := hb0_
      intro R w1335 M1336
      refine W_call 61 #[.slice p1185 x1183.length c1186] (by kernel_rfl) (by kernel_rfl) ?_
      refine (c_s_l1Own w1335 x1183 p1185 c1186 (h1187.mem0 M1336) hr1306).mono ?_
      rintro e_ w1337 ⟨p1308, c1309, sg1310, rfl, ho1311, K1339⟩
      refine ⟨_, rfl, ?_⟩
      exact W_nil (ob_end (.slice p1308 r1306.length c1309) sg1310 rfl (by kernel_rfl) ⟨p1308, c1309, rfl, ho1311⟩ (Mem.callMid M1336 K1339))
    · intro g1279 f1280
      intro R w1340 M1341
      refine W_run 1 [(12, .slice p1185 x1183.length c1186)] w1340 (by kernel_rfl) ?_
      exact W_nil (ob_end (.slice p1185 x1183.length c1186) [] rfl (by kernel_rfl) ⟨by kernel_rfl, rfl⟩ M1341)
    · intro g1279 f1280
      intro v2_ hb2_
      obtain ⟨rfl, _⟩ := hb2_
      intro R w1344 M1345
      refine W_run 1 [(13, .int .i64 (x1183.length : Int))] w1344 (by kernel_rfl) ?_
      exact W_nil (ob_end (.int .i64 (x1183.length : Int)) [] rfl (by kernel_rfl) ⟨by kernel_rfl, rfl⟩ M1345)
    · intro g1279 f1280
      intro v3_ hb3_
      obtain ⟨rfl, _⟩ := hb3_
      intro R w1348 M1349
      refine W_make (E := encI) _ _ _ (x1183.length : Int) 8 [.int .i64 0] (0 : Int) M1349 (by kernel_rfl) rfl (by kernel_rfl) (by kernel_rfl) (by kernel_rfl) (by kernel_rfl) (by kernel_rfl) hmk1312 ?_
      intro p1314 c1315 sg1316 w1350 ho1317 M1351
      exact W_nil (ob_end (.slice p1314 mk1312.length c1315) sg1316 rfl (by kernel_rfl) ⟨p1314, c1315, rfl, ho1317⟩ (Mem.mid M1351))
    · intro g1279 f1280
      intro R w1352 M1353
      refine W_lit (E := encB) ([] : List Bool) 0 [] 4 M1353 (by kernel_rfl) (by kernel_rfl) (by kernel_rfl) (by kernel_rfl) (by kernel_rfl) ?_
      intro p1319 c1320 sg1321 w1354 ho1322 M1355
      exact W_nil (ob_end (.slice p1319 ([] : List Bool).length c1320) sg1321 rfl (by kernel_rfl) ⟨p1319, c1320, rfl, ho1322⟩ (Mem.mid M1355))
    · intro g1279 f1280
      intro v1_ hb1_
      obtain ⟨_, p1308, c1309, rfl, _⟩ := hb1_
      intro v4_ hb4_
      obtain ⟨_, p1314, c1315, rfl, _⟩ := hb4_
      intro v5_ hb5_
      obtain ⟨_, p1319, c1320, rfl, _⟩ := hb5_
      intro R w1356 M1357
      refine W_run 1 [(16, .agg #[.slice p1308 r1306.length c1309, .slice p1314 mk1312.length c1315, .slice p1319 ([] : List Bool).length c1320])] w1356 (by kernel_rfl) ?_
      exact W_nil (ob_end (.agg #[.slice p1308 r1306.length c1309, .slice p1314 mk1312.length c1315, .slice p1319 ([] : List Bool).length c1320]) [] rfl (by kernel_rfl) ⟨by kernel_rfl, rfl⟩ M1357)
    · intro g1279 f1280
      intro R w1360 M1361
      refine W_new (fun b => .pointer (some ⟨b, 0, none⟩)) (.cells ⟨[.slice none 0 0, .slice none 0 0, .slice none 0 0]⟩ 28 (0, 0)) M1361 rfl (by kernel_rfl) (by kernel_rfl) ?_
      intro b1330 w1362 M1363
      exact W_nil (ob_end (.pointer (some ⟨b1330, 0, none⟩)) [(b1330, .cells ⟨[.slice none 0 0, .slice none 0 0, .slice none 0 0]⟩ 28 (0, 0))] rfl (by kernel_rfl) ⟨b1330, rfl, rfl⟩ (Mem.mid M1363))
    · intro g1279 f1280
      intro v1_ hb1_
      obtain ⟨p1308, c1309, rfl, ho1311⟩ := hb1_
      intro v4_ hb4_
      obtain ⟨p1314, c1315, rfl, ho1317⟩ := hb4_
      intro v5_ hb5_
      obtain ⟨p1319, c1320, rfl, ho1322⟩ := hb5_
      intro v6_ hb6_
      obtain ⟨hv6_, _⟩ := hb6_
      obtain rfl : v6_ = (.agg #[.slice p1308 r1306.length c1309, .slice p1314 mk1312.length c1315, .slice p1319 ([] : List Bool).length c1320] : Value) := hv6_.trans (by kernel_rfl)
      intro v7_ hb7_
      obtain ⟨b1330, rfl, hs7_⟩ := hb7_
      intro w1364 M1365
      have M1366 : Mem [] w w1364 [[(b1204, .cells ⟨[.slice none 0 0, .slice none 0 0, .slice none 0 0]⟩ 28 (0, 0))], (g1279 1), (g1279 4), (g1279 5), (g1279 7)] := M1365
      rw [hs7_] at M1366
      refine W_store _ _ _ true 3 b1330 0 [.slice none 0 0, .slice none 0 0, .slice none 0 0] 28 (.agg #[.slice p1308 r1306.length c1309, .slice p1314 mk1312.length c1315, .slice p1319 ([] : List Bool).length c1320]) 4 [.slice p1308 r1306.length c1309, .slice p1314 mk1312.length c1315, .slice p1319 ([] : List Bool).length c1320] M1366 (by kernel_rfl) rfl (by kernel_rfl) (by kernel_rfl) (by kernel_rfl) (by kernel_rfl) (by kernel_rfl) (by kernel_rfl) (by kernel_rfl) (by kernel_rfl) ?_
      intro w1367 M1368
      refine W_nil ?_
      refine N_then ?_
      refine G_seq ?_
      refine G_seq ?_
      refine G_region ?_
      refine W_run 1 [(0, .slice p1185 x1183.length c1186), (2, .pointer (some ⟨b1204, 0, none⟩)), (4, .pointer (some ⟨b1330, 0, none⟩)), (5, .int .i64 0)] w1367 (by kernel_rfl) ?_
      refine W_nil ?_
      refine N_then ?_
      obtain ⟨out1417, hw1418, hmo1419⟩ := gx_bind hm
      refine G_meet (fun a w' => ∃ (p1426 : Option Addr), ∃ (c1427 : Nat), ∃ (sg1428 : Seg), ownS encB out1417 p1426 c1427 sg1428 ∧ Mem [] w w' [[(b1204, .cells ⟨[.slice none 0 0, .slice none 0 0, .slice none 0 0]⟩ 28 (0, 0))], (g1279 1), (g1279 4), [(b1330, .cells ⟨[.slice p1308 r1306.length c1309, .slice p1314 mk1312.length c1315, .slice p1426 out1417.length c1427]⟩ 28 (0, 0))], sg1428] ∧ Sat Try.f18.ntmps [(2, .pointer (some ⟨b1204, 0, none⟩)), (4, .pointer (some ⟨b1330, 0, none⟩))] a) ?_ ?_
      · refine G_block ?_
        refine G_while (σ := Int × List Bool) (ρ := List Bool) (fun s1410 a w' => ∃ (p1420 : Option Addr), ∃ (c1421 : Nat), ∃ (sg1422 : Seg), ownS encB s1410.2 p1420 c1421 sg1422 ∧ Mem [] w w' [[(b1204, .cells ⟨[.slice none 0 0, .slice none 0 0, .slice none 0 0]⟩ 28 (0, 0))], (g1279 1), (g1279 4), [(b1330, .cells ⟨[.slice p1308 r1306.length c1309, .slice p1314 mk1312.length c1315, .slice p1420 s1410.2.length c1421]⟩ 28 (0, 0))], sg1422] ∧ Sat Try.f18.ntmps [(0, .slice p1185 x1183.length c1186), (2, .pointer (some ⟨b1204, 0, none⟩)), (4, .pointer (some ⟨b1330, 0, none⟩)), (5, .int .i64 s1410.1)] a) hw1418 (fun a ha => ⟨p1319, c1320, (g1279 5), ho1322, M1368.pick [0, 1, 2, 4, 3] (by kernel_rfl), ha.sub (by kernel_rfl)⟩) ?_
        clear hm
        intro s1410 x1411 hm hout1412 a1413 w1414 ⟨p1420, c1421, sg1422, ho1423, M1415, hS1416⟩
        refine G_use hS1416 ?_
        refine G_seq ?_
        refine G_seq ?_
        refine G_region ?_
        refine W_run 4 [(0, .slice p1185 x1183.length c1186), (2, .pointer (some ⟨b1204, 0, none⟩)), (4, .pointer (some ⟨b1330, 0, none⟩)), (5, .int .i64 s1410.1), (20, .bool (decide (s1410.1 < (x1183.length : Int))))] w1414 (by kernel_rfl) ?_
        refine W_nil ?_
        refine N_then ?_
        rcases gx_bif hm with ⟨hc1431, hm⟩ | ⟨hc1431, hm⟩
        · refine G_cond_t (b := (decide (s1410.1 < (x1183.length : Int)))) hc1431 (by kernel_rfl) ?_
          refine G_skip ?_
          refine N_then ?_
          refine G_seq ?_
          refine G_block ?_
          refine G_region ?_
          refine W_run 1 [(0, .slice p1185 x1183.length c1186), (2, .pointer (some ⟨b1204, 0, none⟩)), (4, .pointer (some ⟨b1330, 0, none⟩)), (5, .int .i64 s1410.1), (23, .pointer (some ⟨b1330, 2, none⟩))] w1414 (by kernel_rfl) ?_
          refine W_val (.slice p1420 s1410.2.length c1421) w1414 (by kernel_rfl) (E_load (e := 28) (fr := (0, 0)) _ _ false 1 b1330 2 [.slice p1308 r1306.length c1309, .slice p1314 mk1312.length c1315, .slice p1420 s1410.2.length c1421] (.slice p1420 s1410.2.length c1421) rfl (by kernel_rfl) (by kernel_rfl) (by kernel_rfl) (M1415.blk 3 (b := b1330) (o := .cells ⟨[.slice p1308 r1306.length c1309, .slice p1314 mk1312.length c1315, .slice p1420 s1410.2.length c1421]⟩ 28 (0, 0)) (by kernel_rfl))) ?_
          refine W_lit (E := encB) [true] 1 [.bool true] 4 M1415 (by kernel_rfl) (by kernel_rfl) (by kernel_rfl) (by kernel_rfl) (by kernel_rfl) ?_
          intro p1432 c1433 sg1434 w1435 ho1436 M1437
          obtain ⟨ap1439, hap1439, hm⟩ := gx_bind hm
          refine W_append (E := encB) _ _ _ 1 [.bool false] 4 c1433 M1437 ho1423 (by kernel_rfl) (by kernel_rfl) (by kernel_rfl) rfl (by kernel_rfl) (by kernel_rfl) (by kernel_rfl) (by kernel_rfl) (by kernel_rfl) (by kernel_rfl) (ho1436.rd M1437 5 (by kernel_rfl)) hap1439 ?_
          intro p1440 c1441 sg1442 w1443 ho1444 M1445
          refine W_run 1 [(0, .slice p1185 x1183.length c1186), (2, .pointer (some ⟨b1204, 0, none⟩)), (4, .pointer (some ⟨b1330, 0, none⟩)), (5, .int .i64 s1410.1), (26, .slice p1440 ap1439.length c1441), (27, .pointer (some ⟨b1330, 2, none⟩))] w1443 (by kernel_rfl) ?_
          refine W_store _ _ _ false 1 b1330 2 [.slice p1308 r1306.length c1309, .slice p1314 mk1312.length c1315, .slice p1420 s1410.2.length c1421] 28 (.slice p1440 ap1439.length c1441) 3 [.slice p1308 r1306.length c1309, .slice p1314 mk1312.length c1315, .slice p1440 ap1439.length c1441] M1445 (by kernel_rfl) rfl (by kernel_rfl) (by kernel_rfl) (by kernel_rfl) (by kernel_rfl) (by kernel_rfl) (by kernel_rfl) (by kernel_rfl) (by kernel_rfl) ?_
          intro w1447 M1448
          refine W_nil ?_
          refine N_block ?_
          refine N_then ?_
          refine G_region ?_
          refine W_run 3 [(0, .slice p1185 x1183.length c1186), (2, .pointer (some ⟨b1204, 0, none⟩)), (4, .pointer (some ⟨b1330, 0, none⟩)), (5, .int .i64 (w64 (s1410.1 + 1)))] w1447 (by kernel_rfl) ?_
          refine W_nil ?_
          obtain rfl := Option.some.inj hm
          exact N_loop fun a ha => ⟨_, rfl, p1440, c1441, sg1442, ho1444, M1448.pick [0, 1, 2, 3, 4] (by kernel_rfl), ha.sub (by kernel_rfl)⟩
        · refine G_cond_f (b := (decide (s1410.1 < (x1183.length : Int)))) hc1431 (by kernel_rfl) ?_
          refine G_exit ?_
          refine N_then_exit ?_
          refine N_then_exit ?_
          refine N_block_eq ?_
          obtain rfl := Option.some.inj hm
          obtain rfl := hout1412 _ rfl
          exact N_meet fun a ha => ⟨p1420, c1421, sg1422, ho1423, M1415.pick [0, 1, 2, 3, 4] (by kernel_rfl), ha.sub (by kernel_rfl)⟩
      · intro a1449 w1450 ⟨p1426, c1427, sg1428, ho1429, M1451, hS1452⟩
        refine N_use hS1452 ?_
        have hm := hmo1419
        refine N_then ?_
        refine G_seq ?_
        refine G_region ?_
        refine W_val (.agg #[.slice p1308 r1306.length c1309, .slice p1314 mk1312.length c1315, .slice p1426 out1417.length c1427]) w1450 (by kernel_rfl) (E_load (e := 28) (fr := (0, 0)) _ _ true 3 b1330 0 [.slice p1308 r1306.length c1309, .slice p1314 mk1312.length c1315, .slice p1426 out1417.length c1427] (.agg #[.slice p1308 r1306.length c1309, .slice p1314 mk1312.length c1315, .slice p1426 out1417.length c1427]) rfl (by kernel_rfl) (by kernel_rfl) (by kernel_rfl) (M1451.blk 3 (b := b1330) (o := .cells ⟨[.slice p1308 r1306.length c1309, .slice p1314 mk1312.length c1315, .slice p1426 out1417.length c1427]⟩ 28 (0, 0)) (by kernel_rfl))) ?_
        refine W_store _ _ _ true 3 b1204 0 [.slice none 0 0, .slice none 0 0, .slice none 0 0] 28 (.agg #[.slice p1308 r1306.length c1309, .slice p1314 mk1312.length c1315, .slice p1426 out1417.length c1427]) 0 [.slice p1308 r1306.length c1309, .slice p1314 mk1312.length c1315, .slice p1426 out1417.length c1427] M1451 (by kernel_rfl) rfl (by kernel_rfl) (by kernel_rfl) (by kernel_rfl) (by kernel_rfl) (by kernel_rfl) (by kernel_rfl) (by kernel_rfl) (by kernel_rfl) ?_
        intro w1453 M1454
        refine W_run 1 [(2, .pointer (some ⟨b1204, 0, none⟩)), (3, .bool true)] w1453 (by kernel_rfl) ?_
        refine W_nil ?_
        refine N_then ?_
        refine G_ret ?_
        obtain rfl := Option.some.inj hm
        refine N_ret [.agg #[.slice p1308 r1306.length c1309, .slice p1314 mk1312.length c1315, .slice p1426 out1417.length c1427], .bool true] (RVs_cons (RV_cell (g := true) (k := 3) (b := b1204) (off := 0) (cs := [.slice p1308 r1306.length c1309, .slice p1314 mk1312.length c1315, .slice p1426 out1417.length c1427]) (e := 28) (fr := (0, 0)) (v := .agg #[.slice p1308 r1306.length c1309, .slice p1314 mk1312.length c1315, .slice p1426 out1417.length c1427]) (M1454.blk 0 (b := b1204) (o := .cells ⟨[.slice p1308 r1306.length c1309, .slice p1314 mk1312.length c1315, .slice p1426 out1417.length c1427]⟩ 28 (0, 0)) (by kernel_rfl)) (by kernel_rfl) (by kernel_rfl) (by kernel_rfl)) (RVs_cons (RV_tmp (by kernel_rfl)) RVs_nil)) ?_
        exact ⟨p1308, c1309, (g1279 1), p1314, c1315, (g1279 4), p1426, c1427, sg1428, rfl, ho1311, ho1317, ho1429, M1454.pick [1, 2, 4] (by kernel_rfl)⟩
theorem c_s_l1Cur_one (w : World) (x1497 : l1Cur) (p1501 : Option Addr) (c1502 : Nat) (h1503 : rdS encU8 w x1497.code p1501 c1502) (b1499 : Nat) (x1505 : Int) (hA : ∀ q ∈ List.flatten [[(b1499, .cells ⟨[.slice p1501 x1497.code.length c1502, .int .i64 x1497.at_, .int .u64 x1497.seed]⟩ 99 (0, 0))]], w.heap[q.1]? = some q.2) (hN : (idsOf [[(b1499, .cells ⟨[.slice p1501 x1497.code.length c1502, .int .i64 x1497.at_, .int .u64 x1497.seed]⟩ 99 (0, 0))]]).Nodup) (hap1504 : apartX (idsOf [[(b1499, .cells ⟨[.slice p1501 x1497.code.length c1502, .int .i64 x1497.at_, .int .u64 x1497.seed]⟩ 99 (0, 0))]]) x1497.code p1501) {r : Bool × Int × Int} (hm : M.s_l1Cur_one x1497 x1505 = some r) :
    Calls Try.prog 102 #[.pointer (some ⟨b1499, 0, none⟩), .int .i64 x1505] w fun e w' => e = .returned (.bool r.1) ∧ Mem (idsOf [[(b1499, .cells ⟨[.slice p1501 x1497.code.length c1502, .int .i64 x1497.at_, .int .u64 x1497.seed]⟩ 99 (0, 0))]]) w w' [[(b1499, .cells ⟨[.slice p1501 x1497.code.length c1502, .int .i64 r.2.1, .int .u64 r.2.2]⟩ 99 (0, 0))]] := by
  unfold M.s_l1Cur_one at hm
  refine C_enter Try.func102 rfl (by kernel_rfl) ?_
  have M0 := Mem.start' w [[(b1499, .cells ⟨[.slice p1501 x1497.code.length c1502, .int .i64 x1497.at_, .int .u64 x1497.seed]⟩ 99 (0, 0))]] hA hN
  refine G_seq ?_
  refine G_region ?_
  refine W_run 1 [(0, .pointer (some ⟨b1499, 0, none⟩)), (1, .int .i64 x1505)] w (by kernel_rfl) ?_
  refine W_nil ?_
  refine N_then ?_
  refine G_seq ?_
  refine G_region ?_
  refine W_run 2 [(5, .pointer (some ⟨b1499, 0, none⟩)), (6, .int .i64 x1505)] w (by kernel_rfl) ?_
  obtain ⟨r1506, hr1506, hm⟩ := gx_bind hm
  refine W_call 88 #[.pointer (some ⟨b1499, 0, none⟩), .int .i64 x1505] (by kernel_rfl) (by kernel_rfl) ?_
  refine (c_s_l1Cur_pick w x1497 p1501 c1502 (h1503.memX hap1504 M0) b1499 x1505 (M0.hasPick [0]) (M0.nodupPick [0] (by kernel_rfl)) (apartX.old h1503 hap1504 M0 [0]) hr1506).mono ?_
  rintro e_ w1507 ⟨rfl, K1508⟩
  have M1509 := M0.callF' [0] [] (by kernel_rfl) K1508
  refine ⟨_, rfl, ?_⟩
  refine W_run 2 [(4, .bool (r1506.1 == 0))] w1507 (by kernel_rfl) ?_
  refine W_nil ?_
  refine N_then ?_
  refine G_ret ?_
  obtain rfl := Option.some.inj hm
  refine N_ret [.bool (r1506.1 == 0)] (RVs_cons (RV_tmp (by kernel_rfl)) RVs_nil) ?_
  exact ⟨rfl, M1509.pick [0] (by kernel_rfl)⟩
theorem c_s_l19Own (w : World) (x1555 : Copying) (p1557 : Option Addr) (c1558 : Nat) (h1559 : rdS encI w x1555.Memory p1557 c1558) (p1561 : Option Addr) (c1562 : Nat) (h1563 : rdS encI w x1555.Copy p1561 c1562) (p1565 : Option Addr) (c1566 : Nat) (h1567 : rdS encB w x1555.Dirty p1565 c1566) {r : Copying} (hm : M.s_l19Own x1555 = some r) :
    Calls Try.prog 96 #[.agg #[.slice p1557 x1555.Memory.length c1558, .slice p1561 x1555.Copy.length c1562, .slice p1565 x1555.Dirty.length c1566]] w fun e w' => ∃ (p1569 : Option Addr) (c1570 : Nat) (sg1571 : Seg), ∃ (p1573 : Option Addr) (c1574 : Nat) (sg1575 : Seg), ∃ (p1577 : Option Addr) (c1578 : Nat) (sg1579 : Seg), e = .returned (.agg #[.slice p1569 r.Memory.length c1570, .slice p1573 r.Copy.length c1574, .slice p1577 r.Dirty.length c1578]) ∧ ownS encI r.Memory p1569 c1570 sg1571 ∧ ownS encI r.Copy p1573 c1574 sg1575 ∧ ownS encB r.Dirty p1577 c1578 sg1579 ∧ Mem [] w w' [sg1571, sg1575, sg1579] := by
  unfold M.s_l19Own at hm
  refine C_enter Try.func96 rfl (by kernel_rfl) ?_
  have M0 := Mem.refl [] w
  refine G_seq ?_
  refine G_region ?_
  refine W_new (fun b => .pointer (some ⟨b, 0, none⟩)) (.cells ⟨[.slice p1557 x1555.Memory.length c1558, .slice p1561 x1555.Copy.length c1562, .slice p1565 x1555.Dirty.length c1566]⟩ 28 (0, 0)) M0 rfl (by kernel_rfl) (by kernel_rfl) ?_
  intro b1581 w1582 M1583
  refine W_new (fun b => .pointer (some ⟨b, 0, none⟩)) (.cells ⟨[.slice none 0 0, .slice none 0 0, .slice none 0 0]⟩ 28 (0, 0)) M1583 rfl (by kernel_rfl) (by kernel_rfl) ?_
  intro b1588 w1589 M1590
  refine W_nil ?_
  refine N_then ?_
  refine G_seq ?_
  obtain ⟨r1593, hr1593, hm⟩ := gx_bind hm
  obtain ⟨r1599, hr1599, hm⟩ := gx_bind hm
  refine G_sub [(0, .agg #[.slice p1557 x1555.Memory.length c1558, .slice p1561 x1555.Copy.length c1562, .slice p1565 x1555.Dirty.length c1566]), (1, .pointer (some ⟨b1581, 0, none⟩)), (2, .pointer (some ⟨b1588, 0, none⟩))] (by kernel_rfl) ?_
  refine G_dagL 9 [[], [0], [1], [], [3], [4], [], [], [7]] [[], [], [], [], [], [], [], [], []] [[], [], [], [], [], [], [], [], []] [[], [], [], [], [], [], [], [], []] [[], [], [], [], [], [], [], [], []] [[], [], [], [], [], [], [], [], []] (fun _ => []) (fun i => ([fun f v s => v = (.pointer (some ⟨b1581, 0, none⟩) : Value) ∧ s = [], fun f v s => v = (.slice p1557 x1555.Memory.length c1558 : Value) ∧ s = [], fun f v s => ∃ (p1595 : Option Addr) (c1596 : Nat), v = (.slice p1595 r1593.length c1596 : Value) ∧ ownS encI r1593 p1595 c1596 s, fun f v s => v = (.pointer (some ⟨b1581, 1, none⟩) : Value) ∧ s = [], fun f v s => v = (.slice p1561 x1555.Copy.length c1562 : Value) ∧ s = [], fun f v s => ∃ (p1601 : Option Addr) (c1602 : Nat), v = (.slice p1601 r1599.length c1602 : Value) ∧ ownS encI r1599 p1601 c1602 s, fun f v s => ∃ (p1606 : Option Addr) (c1607 : Nat), v = (.slice p1606 ([] : List Bool).length c1607 : Value) ∧ ownS encB ([] : List Bool) p1606 c1607 s, fun f v s => v = (.pointer (some ⟨b1581, 2, none⟩) : Value) ∧ s = [], fun f v s => v = (.slice p1565 x1555.Dirty.length c1566 : Value) ∧ s = []] : List ((Nat → Value) → Value → Seg → Prop)).getD i (fun _ _ _ => False)) (fun j f v => ∃ s, (fun i => ([fun f v s => v = (.pointer (some ⟨b1581, 0, none⟩) : Value) ∧ s = [], fun f v s => v = (.slice p1557 x1555.Memory.length c1558 : Value) ∧ s = [], fun f v s => ∃ (p1595 : Option Addr) (c1596 : Nat), v = (.slice p1595 r1593.length c1596 : Value) ∧ ownS encI r1593 p1595 c1596 s, fun f v s => v = (.pointer (some ⟨b1581, 1, none⟩) : Value) ∧ s = [], fun f v s => v = (.slice p1561 x1555.Copy.length c1562 : Value) ∧ s = [], fun f v s => ∃ (p1601 : Option Addr) (c1602 : Nat), v = (.slice p1601 r1599.length c1602 : Value) ∧ ownS encI r1599 p1601 c1602 s, fun f v s => ∃ (p1606 : Option Addr) (c1607 : Nat), v = (.slice p1606 ([] : List Bool).length c1607 : Value) ∧ ownS encB ([] : List Bool) p1606 c1607 s, fun f v s => v = (.pointer (some ⟨b1581, 2, none⟩) : Value) ∧ s = [], fun f v s => v = (.slice p1565 x1555.Dirty.length c1566 : Value) ∧ s = []] : List ((Nat → Value) → Value → Seg → Prop)).getD i (fun _ _ _ => False)) j f v s) [] [2, 5, 6, 8] [2, 5, 6] (fun _ _ _ s h => ⟨s, h⟩) (by kernel_rfl) (by kernel_rfl) (M1590.preNil 9) (by kernel_rfl) (by kernel_rfl) (by kernel_rfl) (by kernel_rfl) (allOb_cons ?_ (allOb_cons ?_ (allOb_cons ?_ (allOb_cons ?_ (allOb_cons ?_ (allOb_cons ?_ (allOb_cons ?_ (allOb_cons ?_ (allOb_cons ?_ allOb_nil))))))))) ?_
  · intro g1591 f1592
    intro R w1610 M1611
    refine W_run 1 [(3, .pointer (some ⟨b1581, 0, none⟩))] w1610 (by kernel_rfl) ?_
    exact W_nil (ob_end (.pointer (some ⟨b1581, 0, none⟩)) [] rfl (by kernel_rfl) ⟨by kernel_rfl, rfl⟩ M1611)
  · intro g1591 f1592
    intro v0_ hb0_
    obtain ⟨rfl, _⟩ := hb0_
    intro R w1614 M1615
    refine W_val (.slice p1557 x1555.Memory.length c1558) w1614 (by kernel_rfl) (E_load (e := 28) (fr := (0, 0)) _ _ false 1 b1581 0 [.slice p1557 x1555.Memory.length c1558, .slice p1561 x1555.Copy.length c1562, .slice p1565 x1555.Dirty.length c1566] (.slice p1557 x1555.Memory.length c1558) rfl (by kernel_rfl) (by kernel_rfl) (by kernel_rfl) (M1615.blk 0 (b := b1581) (o := .cells ⟨[.slice p1557 x1555.Memory.length c1558, .slice p1561 x1555.Copy.length c1562, .slice p1565 x1555.Dirty.length c1566]⟩ 28 (0, 0)) (by kernel_rfl))) ?_
    exact W_nil (ob_end (.slice p1557 x1555.Memory.length c1558) [] rfl (by kernel_rfl) ⟨by kernel_rfl, rfl⟩ M1615)
  · intro g1591 f1592
    intro v1_ hb1_
    obtain ⟨rfl, _⟩ := hb1_
    intro R w1618 M1619
    refine W_call 61 #[.slice p1557 x1555.Memory.length c1558] (by kernel_rfl) (by kernel_rfl) ?_
    refine (c_s_l1Own w1618 x1555.Memory p1557 c1558 (h1559.mem0 M1619) hr1593).mono ?_
    rintro e_ w1620 ⟨p1595, c1596, sg1597, rfl, ho1598, K1622⟩
    refine ⟨_, rfl, ?_⟩
    exact W_nil (ob_end (.slice p1595 r1593.length c1596) sg1597 rfl (by kernel_rfl) ⟨p1595, c1596, rfl, ho1598⟩ (Mem.callMid M1619 K1622))
  · intro g1591 f1592
    intro R w1623 M1624
    refine W_run 1 [(6, .pointer (some ⟨b1581, 1, none⟩))] w1623 (by kernel_rfl) ?_
    exact W_nil (ob_end (.pointer (some ⟨b1581, 1, none⟩)) [] rfl (by kernel_rfl) ⟨by kernel_rfl, rfl⟩ M1624)
  · intro g1591 f1592
    intro v3_ hb3_
    obtain ⟨rfl, _⟩ := hb3_
    intro R w1627 M1628
    refine W_val (.slice p1561 x1555.Copy.length c1562) w1627 (by kernel_rfl) (E_load (e := 28) (fr := (0, 0)) _ _ false 1 b1581 1 [.slice p1557 x1555.Memory.length c1558, .slice p1561 x1555.Copy.length c1562, .slice p1565 x1555.Dirty.length c1566] (.slice p1561 x1555.Copy.length c1562) rfl (by kernel_rfl) (by kernel_rfl) (by kernel_rfl) (M1628.blk 0 (b := b1581) (o := .cells ⟨[.slice p1557 x1555.Memory.length c1558, .slice p1561 x1555.Copy.length c1562, .slice p1565 x1555.Dirty.length c1566]⟩ 28 (0, 0)) (by kernel_rfl))) ?_
    exact W_nil (ob_end (.slice p1561 x1555.Copy.length c1562) [] rfl (by kernel_rfl) ⟨by kernel_rfl, rfl⟩ M1628)
  · intro g1591 f1592
    intro v4_ hb4_
    obtain ⟨rfl, _⟩ := hb4_
    intro R w1631 M1632
    refine W_call 61 #[.slice p1561 x1555.Copy.length c1562] (by kernel_rfl) (by kernel_rfl) ?_
    refine (c_s_l1Own w1631 x1555.Copy p1561 c1562 (h1563.mem0 M1632) hr1599).mono ?_
    rintro e_ w1633 ⟨p1601, c1602, sg1603, rfl, ho1604, K1635⟩
    refine ⟨_, rfl, ?_⟩
    exact W_nil (ob_end (.slice p1601 r1599.length c1602) sg1603 rfl (by kernel_rfl) ⟨p1601, c1602, rfl, ho1604⟩ (Mem.callMid M1632 K1635))
  · intro g1591 f1592
    intro R w1636 M1637
    refine W_lit (E := encB) ([] : List Bool) 0 [] 4 M1637 (by kernel_rfl) (by kernel_rfl) (by kernel_rfl) (by kernel_rfl) (by kernel_rfl) ?_
    intro p1606 c1607 sg1608 w1638 ho1609 M1639
    exact W_nil (ob_end (.slice p1606 ([] : List Bool).length c1607) sg1608 rfl (by kernel_rfl) ⟨p1606, c1607, rfl, ho1609⟩ (Mem.mid M1639))
  · intro g1591 f1592
    intro R w1640 M1641
    refine W_run 1 [(10, .pointer (some ⟨b1581, 2, none⟩))] w1640 (by kernel_rfl) ?_
    exact W_nil (ob_end (.pointer (some ⟨b1581, 2, none⟩)) [] rfl (by kernel_rfl) ⟨by kernel_rfl, rfl⟩ M1641)
  · intro g1591 f1592
    intro v7_ hb7_
    obtain ⟨rfl, _⟩ := hb7_
    intro R w1644 M1645
    refine W_val (.slice p1565 x1555.Dirty.length c1566) w1644 (by kernel_rfl) (E_load (e := 28) (fr := (0, 0)) _ _ false 1 b1581 2 [.slice p1557 x1555.Memory.length c1558, .slice p1561 x1555.Copy.length c1562, .slice p1565 x1555.Dirty.length c1566] (.slice p1565 x1555.Dirty.length c1566) rfl (by kernel_rfl) (by kernel_rfl) (by kernel_rfl) (M1645.blk 0 (b := b1581) (o := .cells ⟨[.slice p1557 x1555.Memory.length c1558, .slice p1561 x1555.Copy.length c1562, .slice p1565 x1555.Dirty.length c1566]⟩ 28 (0, 0)) (by kernel_rfl))) ?_
    exact W_nil (ob_end (.slice p1565 x1555.Dirty.length c1566) [] rfl (by kernel_rfl) ⟨by kernel_rfl, rfl⟩ M1645)
  · intro g1591 f1592
    intro v2_ hb2_
    obtain ⟨p1595, c1596, rfl, ho1598⟩ := hb2_
    intro v5_ hb5_
    obtain ⟨p1601, c1602, rfl, ho1604⟩ := hb5_
    intro v6_ hb6_
    obtain ⟨p1606, c1607, rfl, ho1609⟩ := hb6_
    intro v8_ hb8_
    obtain ⟨rfl, _⟩ := hb8_
    intro w1648 M1649
    have M1650 : Mem [] w w1648 [[(b1581, .cells ⟨[.slice p1557 x1555.Memory.length c1558, .slice p1561 x1555.Copy.length c1562, .slice p1565 x1555.Dirty.length c1566]⟩ 28 (0, 0))], [(b1588, .cells ⟨[.slice none 0 0, .slice none 0 0, .slice none 0 0]⟩ 28 (0, 0))], (g1591 2), (g1591 5), (g1591 6)] := M1649
    obtain ⟨ap1651, hap1651, hm⟩ := gx_bind hm
    refine W_append (E := encB) _ _ _ 1 [.bool false] 4 c1566 M1650 ho1609 (by kernel_rfl) (by kernel_rfl) (by kernel_rfl) rfl (by kernel_rfl) (by kernel_rfl) (by kernel_rfl) (by kernel_rfl) (by kernel_rfl) (by kernel_rfl) (h1567.mem0 M1650) hap1651 ?_
    intro p1652 c1653 sg1654 w1655 ho1656 M1657
    refine W_run 1 [(2, .pointer (some ⟨b1588, 0, none⟩)), (13, .agg #[.slice p1595 r1593.length c1596, .slice p1601 r1599.length c1602, .slice p1652 ap1651.length c1653])] w1655 (by kernel_rfl) ?_
    refine W_store _ _ _ true 3 b1588 0 [.slice none 0 0, .slice none 0 0, .slice none 0 0] 28 (.agg #[.slice p1595 r1593.length c1596, .slice p1601 r1599.length c1602, .slice p1652 ap1651.length c1653]) 1 [.slice p1595 r1593.length c1596, .slice p1601 r1599.length c1602, .slice p1652 ap1651.length c1653] M1657 (by kernel_rfl) rfl (by kernel_rfl) (by kernel_rfl) (by kernel_rfl) (by kernel_rfl) (by kernel_rfl) (by kernel_rfl) (by kernel_rfl) (by kernel_rfl) ?_
    intro w1662 M1663
    refine W_nil ?_
    refine N_then ?_
    refine G_ret ?_
    obtain rfl := Option.some.inj hm
    refine N_ret [.agg #[.slice p1595 r1593.length c1596, .slice p1601 r1599.length c1602, .slice p1652 ap1651.length c1653]] (RVs_cons (RV_cell (g := true) (k := 3) (b := b1588) (off := 0) (cs := [.slice p1595 r1593.length c1596, .slice p1601 r1599.length c1602, .slice p1652 ap1651.length c1653]) (e := 28) (fr := (0, 0)) (v := .agg #[.slice p1595 r1593.length c1596, .slice p1601 r1599.length c1602, .slice p1652 ap1651.length c1653]) (M1663.blk 1 (b := b1588) (o := .cells ⟨[.slice p1595 r1593.length c1596, .slice p1601 r1599.length c1602, .slice p1652 ap1651.length c1653]⟩ 28 (0, 0)) (by kernel_rfl)) (by kernel_rfl) (by kernel_rfl) (by kernel_rfl)) RVs_nil) ?_
    exact ⟨p1595, c1596, (g1591 2), p1601, c1602, (g1591 5), p1652, c1653, sg1654, rfl, ho1598, ho1604, ho1656, M1663.pick [2, 3, 4] (by kernel_rfl)⟩
theorem c_s_l19Round (w : World) (x1518 : Copying) (p1520 : Option Addr) (c1521 : Nat) (h1522 : rdS encI w x1518.Memory p1520 c1521) (p1524 : Option Addr) (c1525 : Nat) (h1526 : rdS encI w x1518.Copy p1524 c1525) (p1528 : Option Addr) (c1529 : Nat) (h1530 : rdS encB w x1518.Dirty p1528 c1529) (x1531 : Int) {r : Copying × Int} (hm : M.s_l19Round x1518 x1531 = some r) :
    Calls Try.prog 67 #[.agg #[.slice p1520 x1518.Memory.length c1521, .slice p1524 x1518.Copy.length c1525, .slice p1528 x1518.Dirty.length c1529], .int .i64 x1531] w fun e w' => ∃ (p1533 : Option Addr) (c1534 : Nat) (sg1535 : Seg), ∃ (p1537 : Option Addr) (c1538 : Nat) (sg1539 : Seg), ∃ (p1541 : Option Addr) (c1542 : Nat) (sg1543 : Seg), e = .returned (.tuple #[.agg #[.slice p1533 r.1.Memory.length c1534, .slice p1537 r.1.Copy.length c1538, .slice p1541 r.1.Dirty.length c1542], .int .i64 r.2]) ∧ ownS encI r.1.Memory p1533 c1534 sg1535 ∧ ownS encI r.1.Copy p1537 c1538 sg1539 ∧ ownS encB r.1.Dirty p1541 c1542 sg1543 ∧ Mem [] w w' [sg1535, sg1539, sg1543] := by
  unfold M.s_l19Round at hm
  refine C_enter Try.func67 rfl (by kernel_rfl) ?_
  have M0 := Mem.refl [] w
  refine G_seq ?_
  refine G_region ?_
  refine W_new (fun b => .pointer (some ⟨b, 0, none⟩)) (.cells ⟨[.slice p1520 x1518.Memory.length c1521, .slice p1524 x1518.Copy.length c1525, .slice p1528 x1518.Dirty.length c1529]⟩ 28 (0, 0)) M0 rfl (by kernel_rfl) (by kernel_rfl) ?_
  intro b1545 w1546 M1547
  refine W_new (fun b => .pointer (some ⟨b, 0, none⟩)) (.cells ⟨[.slice none 0 0, .slice none 0 0, .slice none 0 0]⟩ 28 (0, 0)) M1547 rfl (by kernel_rfl) (by kernel_rfl) ?_
  intro b1552 w1553 M1554
  refine W_run 1 [(1, .int .i64 x1531), (2, .pointer (some ⟨b1545, 0, none⟩)), (4, .pointer (some ⟨b1552, 0, none⟩))] w1553 (by kernel_rfl) ?_
  refine W_nil ?_
  refine N_then ?_
  refine G_seq ?_
  refine G_region ?_
  refine W_val (.agg #[.slice p1520 x1518.Memory.length c1521, .slice p1524 x1518.Copy.length c1525, .slice p1528 x1518.Dirty.length c1529]) w1553 (by kernel_rfl) (E_load (e := 28) (fr := (0, 0)) _ _ true 3 b1545 0 [.slice p1520 x1518.Memory.length c1521, .slice p1524 x1518.Copy.length c1525, .slice p1528 x1518.Dirty.length c1529] (.agg #[.slice p1520 x1518.Memory.length c1521, .slice p1524 x1518.Copy.length c1525, .slice p1528 x1518.Dirty.length c1529]) rfl (by kernel_rfl) (by kernel_rfl) (by kernel_rfl) (M1554.blk 0 (b := b1545) (o := .cells ⟨[.slice p1520 x1518.Memory.length c1521, .slice p1524 x1518.Copy.length c1525, .slice p1528 x1518.Dirty.length c1529]⟩ 28 (0, 0)) (by kernel_rfl))) ?_
  obtain ⟨r1664, hr1664, hm⟩ := gx_bind hm
  refine W_call 96 #[.agg #[.slice p1520 x1518.Memory.length c1521, .slice p1524 x1518.Copy.length c1525, .slice p1528 x1518.Dirty.length c1529]] (by kernel_rfl) (by kernel_rfl) ?_
  refine (c_s_l19Own w1553 x1518 p1520 c1521 (h1522.mem0 M1554) p1524 c1525 (h1526.mem0 M1554) p1528 c1529 (h1530.mem0 M1554) hr1664).mono ?_
  rintro e_ w1680 ⟨p1666, c1667, sg1668, p1671, c1672, sg1673, p1676, c1677, sg1678, rfl, ho1669, ho1674, ho1679, K1681⟩
  have M1682 := M1554.call K1681
  refine ⟨_, rfl, ?_⟩
  refine W_new (fun b => .pointer (some ⟨b, 0, none⟩)) (.cells ⟨[.slice none 0 0, .slice none 0 0, .slice none 0 0]⟩ 28 (0, 0)) M1682 rfl (by kernel_rfl) (by kernel_rfl) ?_
  intro b1687 w1688 M1689
  refine W_store _ _ _ true 3 b1687 0 [.slice none 0 0, .slice none 0 0, .slice none 0 0] 28 (.agg #[.slice p1666 r1664.Memory.length c1667, .slice p1671 r1664.Copy.length c1672, .slice p1676 r1664.Dirty.length c1677]) 5 [.slice p1666 r1664.Memory.length c1667, .slice p1671 r1664.Copy.length c1672, .slice p1676 r1664.Dirty.length c1677] M1689 (by kernel_rfl) rfl (by kernel_rfl) (by kernel_rfl) (by kernel_rfl) (by kernel_rfl) (by kernel_rfl) (by kernel_rfl) (by kernel_rfl) (by kernel_rfl) ?_
  intro w1690 M1691
  refine W_run 1 [(1, .int .i64 x1531), (2, .pointer (some ⟨b1545, 0, none⟩)), (4, .pointer (some ⟨b1552, 0, none⟩)), (6, .pointer (some ⟨b1687, 0, none⟩)), (7, .int .i64 0)] w1690 (by kernel_rfl) ?_
  refine W_nil ?_
  refine N_then ?_
  refine G_seq ?_
  refine G_seq ?_
  refine G_region ?_
  refine W_run 1 [(1, .int .i64 x1531), (2, .pointer (some ⟨b1545, 0, none⟩)), (4, .pointer (some ⟨b1552, 0, none⟩)), (6, .pointer (some ⟨b1687, 0, none⟩)), (7, .int .i64 0), (8, .int .i64 0)] w1690 (by kernel_rfl) ?_
  refine W_nil ?_
  refine N_then ?_
  obtain ⟨out1951, hw1952, hmo1953⟩ := gx_bind hm
  refine G_meet (fun a w' => ∃ (sg1959 : Seg), ∃ (sg1961 : Seg), ownS encI out1951.2.1 p1671 c1672 sg1959 ∧ ownS encB out1951.2.2 p1676 c1677 sg1961 ∧ Mem [] w w' [[(b1552, .cells ⟨[.slice none 0 0, .slice none 0 0, .slice none 0 0]⟩ 28 (0, 0))], sg1668, [(b1687, .cells ⟨[.slice p1666 r1664.Memory.length c1667, .slice p1671 out1951.2.1.length c1672, .slice p1676 out1951.2.2.length c1677]⟩ 28 (0, 0))], sg1959, sg1961] ∧ Sat Try.f67.ntmps [(4, .pointer (some ⟨b1552, 0, none⟩)), (6, .pointer (some ⟨b1687, 0, none⟩)), (7, .int .i64 out1951.1)] a) ?_ ?_
  · refine G_block ?_
    refine G_while (σ := Int × Int × List Int × List Bool) (ρ := Int × List Int × List Bool) (fun s1944 a w' => ∃ (sg1954 : Seg), ∃ (sg1956 : Seg), ownS encI s1944.2.2.1 p1671 c1672 sg1954 ∧ ownS encB s1944.2.2.2 p1676 c1677 sg1956 ∧ Mem [] w w' [[(b1545, .cells ⟨[.slice p1520 x1518.Memory.length c1521, .slice p1524 x1518.Copy.length c1525, .slice p1528 x1518.Dirty.length c1529]⟩ 28 (0, 0))], [(b1552, .cells ⟨[.slice none 0 0, .slice none 0 0, .slice none 0 0]⟩ 28 (0, 0))], sg1668, [(b1687, .cells ⟨[.slice p1666 r1664.Memory.length c1667, .slice p1671 s1944.2.2.1.length c1672, .slice p1676 s1944.2.2.2.length c1677]⟩ 28 (0, 0))], sg1954, sg1956] ∧ Sat Try.f67.ntmps [(1, .int .i64 x1531), (2, .pointer (some ⟨b1545, 0, none⟩)), (4, .pointer (some ⟨b1552, 0, none⟩)), (6, .pointer (some ⟨b1687, 0, none⟩)), (7, .int .i64 s1944.1), (8, .int .i64 s1944.2.1)] a) hw1952 (fun a ha => ⟨sg1673, sg1678, ho1674, ho1679, M1691.pick [0, 1, 2, 5, 3, 4] (by kernel_rfl), ha.sub (by kernel_rfl)⟩) ?_
    clear hm
    intro s1944 x1945 hm hout1946 a1947 w1948 ⟨sg1954, sg1956, ho1955, ho1957, M1949, hS1950⟩
    refine G_use hS1950 ?_
    refine G_seq ?_
    refine G_seq ?_
    obtain ⟨o1964, ho1965, hm1966⟩ := gx_bind hm
    refine G_meet (fun a w' => Mem [] w w' [[(b1545, .cells ⟨[.slice p1520 x1518.Memory.length c1521, .slice p1524 x1518.Copy.length c1525, .slice p1528 x1518.Dirty.length c1529]⟩ 28 (0, 0))], [(b1552, .cells ⟨[.slice none 0 0, .slice none 0 0, .slice none 0 0]⟩ 28 (0, 0))], sg1668, [(b1687, .cells ⟨[.slice p1666 r1664.Memory.length c1667, .slice p1671 s1944.2.2.1.length c1672, .slice p1676 s1944.2.2.2.length c1677]⟩ 28 (0, 0))], sg1954, sg1956] ∧ Sat Try.f67.ntmps [(1, .int .i64 x1531), (2, .pointer (some ⟨b1545, 0, none⟩)), (4, .pointer (some ⟨b1552, 0, none⟩)), (6, .pointer (some ⟨b1687, 0, none⟩)), (7, .int .i64 s1944.1), (8, .int .i64 s1944.2.1), (20, .bool o1964)] a) ?_ ?_
    · have hm := ho1965
      refine G_region ?_
      refine W_run 2 [(1, .int .i64 x1531), (2, .pointer (some ⟨b1545, 0, none⟩)), (4, .pointer (some ⟨b1552, 0, none⟩)), (6, .pointer (some ⟨b1687, 0, none⟩)), (7, .int .i64 s1944.1), (8, .int .i64 s1944.2.1), (11, .int .i64 s1944.2.1), (12, .pointer (some ⟨b1545, 2, none⟩))] w1948 (by kernel_rfl) ?_
      refine W_val (.slice p1528 x1518.Dirty.length c1529) w1948 (by kernel_rfl) (E_load (e := 28) (fr := (0, 0)) _ _ false 1 b1545 2 [.slice p1520 x1518.Memory.length c1521, .slice p1524 x1518.Copy.length c1525, .slice p1528 x1518.Dirty.length c1529] (.slice p1528 x1518.Dirty.length c1529) rfl (by kernel_rfl) (by kernel_rfl) (by kernel_rfl) (M1949.blk 0 (b := b1545) (o := .cells ⟨[.slice p1520 x1518.Memory.length c1521, .slice p1524 x1518.Copy.length c1525, .slice p1528 x1518.Dirty.length c1529]⟩ 28 (0, 0)) (by kernel_rfl))) ?_
      refine W_run 3 [(1, .int .i64 x1531), (2, .pointer (some ⟨b1545, 0, none⟩)), (4, .pointer (some ⟨b1552, 0, none⟩)), (6, .pointer (some ⟨b1687, 0, none⟩)), (7, .int .i64 s1944.1), (8, .int .i64 s1944.2.1), (16, .bool (decide (s1944.2.1 < (x1518.Dirty.length : Int))))] w1948 (by kernel_rfl) ?_
      rcases gx_bif hm with ⟨hc1967, hm⟩ | ⟨hc1967, hm⟩
      · refine W_known 16 true (by kernel_rfl) hc1967 ?_
        refine W_run 4 [(1, .int .i64 x1531), (2, .pointer (some ⟨b1545, 0, none⟩)), (4, .pointer (some ⟨b1552, 0, none⟩)), (6, .pointer (some ⟨b1687, 0, none⟩)), (7, .int .i64 s1944.1), (8, .int .i64 s1944.2.1), (20, .bool (decide (s1944.1 < x1531)))] w1948 (by kernel_rfl) ?_
        refine W_nil ?_
        obtain rfl := Option.some.inj hm
        exact N_meet fun a ha => ⟨M1949.pick [0, 1, 2, 3, 4, 5] (by kernel_rfl), ha.sub (by kernel_rfl)⟩
      · refine W_known 16 false (by kernel_rfl) hc1967 ?_
        refine W_run 4 [(1, .int .i64 x1531), (2, .pointer (some ⟨b1545, 0, none⟩)), (4, .pointer (some ⟨b1552, 0, none⟩)), (6, .pointer (some ⟨b1687, 0, none⟩)), (7, .int .i64 s1944.1), (8, .int .i64 s1944.2.1), (20, .bool false)] w1948 (by kernel_rfl) ?_
        refine W_nil ?_
        obtain rfl := Option.some.inj hm
        exact N_meet fun a ha => ⟨M1949.pick [0, 1, 2, 3, 4, 5] (by kernel_rfl), ha.sub (by kernel_rfl)⟩
    · intro a1970 w1968 ⟨M1969, hS1971⟩
      refine N_use hS1971 ?_
      have hm := hm1966
      refine N_then ?_
      rcases gx_bif hm with ⟨hc1972, hm⟩ | ⟨hc1972, hm⟩
      · refine G_cond_t (b := o1964) hc1972 (by kernel_rfl) ?_
        refine G_skip ?_
        refine N_then ?_
        refine G_seq ?_
        refine G_block ?_
        refine G_seq ?_
        refine G_region ?_
        refine W_run 1 [(1, .int .i64 x1531), (2, .pointer (some ⟨b1545, 0, none⟩)), (4, .pointer (some ⟨b1552, 0, none⟩)), (6, .pointer (some ⟨b1687, 0, none⟩)), (7, .int .i64 s1944.1), (8, .int .i64 s1944.2.1), (23, .pointer (some ⟨b1545, 2, none⟩))] w1968 (by kernel_rfl) ?_
        refine W_val (.slice p1528 x1518.Dirty.length c1529) w1968 (by kernel_rfl) (E_load (e := 28) (fr := (0, 0)) _ _ false 1 b1545 2 [.slice p1520 x1518.Memory.length c1521, .slice p1524 x1518.Copy.length c1525, .slice p1528 x1518.Dirty.length c1529] (.slice p1528 x1518.Dirty.length c1529) rfl (by kernel_rfl) (by kernel_rfl) (by kernel_rfl) (M1969.blk 0 (b := b1545) (o := .cells ⟨[.slice p1520 x1518.Memory.length c1521, .slice p1524 x1518.Copy.length c1525, .slice p1528 x1518.Dirty.length c1529]⟩ 28 (0, 0)) (by kernel_rfl))) ?_
        refine W_run 1 [(1, .int .i64 x1531), (2, .pointer (some ⟨b1545, 0, none⟩)), (4, .pointer (some ⟨b1552, 0, none⟩)), (6, .pointer (some ⟨b1687, 0, none⟩)), (7, .int .i64 s1944.1), (8, .int .i64 s1944.2.1), (24, .slice p1528 x1518.Dirty.length c1529), (25, .int .i64 s1944.2.1)] w1968 (by kernel_rfl) ?_
        obtain ⟨y1973, hy1973, hm⟩ := gx_bind hm
        refine W_val (elemP p1528 (s1944.2.1.toNat * 1)) w1968 (by kernel_rfl) (E_index (E := encB) _ _ _ x1518.Dirty.length c1529 .i64 s1944.2.1 1 (y := y1973) rfl (by kernel_rfl) (by kernel_rfl) (by kernel_rfl) (h1530.mem0 M1969) rfl hy1973) ?_
        refine W_val (.bool y1973) w1968 (by kernel_rfl) (E_loadE (E := encB) _ _ false 1 s1944.2.1 0 (s1944.2.1.toNat * 1) y1973 (.bool y1973) rfl (by kernel_rfl) (by kernel_rfl) (by kernel_rfl) (h1530.mem0 M1969) hy1973 rfl) ?_
        refine W_nil ?_
        refine N_then ?_
        obtain ⟨o2025, ho2026, hm2027⟩ := gx_bind hm
        refine G_meet (fun a w' => ∃ (sg2028 : Seg), ∃ (sg2030 : Seg), ownS encI o2025.2.1 p1671 c1672 sg2028 ∧ ownS encB o2025.2.2 p1676 c1677 sg2030 ∧ Mem [] w w' [[(b1545, .cells ⟨[.slice p1520 x1518.Memory.length c1521, .slice p1524 x1518.Copy.length c1525, .slice p1528 x1518.Dirty.length c1529]⟩ 28 (0, 0))], [(b1552, .cells ⟨[.slice none 0 0, .slice none 0 0, .slice none 0 0]⟩ 28 (0, 0))], sg1668, [(b1687, .cells ⟨[.slice p1666 r1664.Memory.length c1667, .slice p1671 o2025.2.1.length c1672, .slice p1676 o2025.2.2.length c1677]⟩ 28 (0, 0))], sg2028, sg2030] ∧ Sat Try.f67.ntmps [(1, .int .i64 x1531), (2, .pointer (some ⟨b1545, 0, none⟩)), (4, .pointer (some ⟨b1552, 0, none⟩)), (6, .pointer (some ⟨b1687, 0, none⟩)), (7, .int .i64 o2025.1), (8, .int .i64 s1944.2.1)] a) ?_ ?_
        · have hm := ho2026
          rcases gx_bif hm with ⟨hc2032, hm⟩ | ⟨hc2032, hm⟩
          · refine G_cond_t (b := y1973) hc2032 (by kernel_rfl) ?_
            refine G_seq ?_
            obtain ⟨y2035, hy2035, hm⟩ := gx_bind hm
            refine G_sub [(1, .int .i64 x1531), (2, .pointer (some ⟨b1545, 0, none⟩)), (4, .pointer (some ⟨b1552, 0, none⟩)), (6, .pointer (some ⟨b1687, 0, none⟩)), (7, .int .i64 s1944.1), (8, .int .i64 s1944.2.1), (24, .slice p1528 x1518.Dirty.length c1529), (25, .int .i64 s1944.2.1), (26, elemP p1528 (s1944.2.1.toNat * 1)), (27, .bool y1973)] (by kernel_rfl) ?_
            refine G_dagL 8 [[], [0], [], [], [3], [], [4, 5], [6]] [[], [], [], [], [], [], [], []] [[], [], [], [], [], [], [], []] [[], [], [], [], [], [], [], []] [[], [], [], [], [], [], [], []] [[], [], [], [], [], [], [], []] (fun _ => []) (fun i => ([fun f v s => v = (.pointer (some ⟨b1687, 1, none⟩) : Value) ∧ s = [], fun f v s => v = (.slice p1671 s1944.2.2.1.length c1672 : Value) ∧ s = [], fun f v s => v = (.int .i64 s1944.2.1 : Value) ∧ s = [], fun f v s => v = (.pointer (some ⟨b1545, 0, none⟩) : Value) ∧ s = [], fun f v s => v = (.slice p1520 x1518.Memory.length c1521 : Value) ∧ s = [], fun f v s => v = (.int .i64 s1944.2.1 : Value) ∧ s = [], fun f v s => v = (elemP p1520 (s1944.2.1.toNat * 1) : Value) ∧ s = [], fun f v s => v = (.int .i64 y2035 : Value) ∧ s = []] : List ((Nat → Value) → Value → Seg → Prop)).getD i (fun _ _ _ => False)) (fun j f v => ∃ s, (fun i => ([fun f v s => v = (.pointer (some ⟨b1687, 1, none⟩) : Value) ∧ s = [], fun f v s => v = (.slice p1671 s1944.2.2.1.length c1672 : Value) ∧ s = [], fun f v s => v = (.int .i64 s1944.2.1 : Value) ∧ s = [], fun f v s => v = (.pointer (some ⟨b1545, 0, none⟩) : Value) ∧ s = [], fun f v s => v = (.slice p1520 x1518.Memory.length c1521 : Value) ∧ s = [], fun f v s => v = (.int .i64 s1944.2.1 : Value) ∧ s = [], fun f v s => v = (elemP p1520 (s1944.2.1.toNat * 1) : Value) ∧ s = [], fun f v s => v = (.int .i64 y2035 : Value) ∧ s = []] : List ((Nat → Value) → Value → Seg → Prop)).getD i (fun _ _ _ => False)) j f v s) [] [1, 2, 7] [] (fun _ _ _ s h => ⟨s, h⟩) (by kernel_rfl) (by kernel_rfl) (M1969.preNil 8) (by kernel_rfl) (by kernel_rfl) (by kernel_rfl) (by kernel_rfl) (allOb_cons ?_ (allOb_cons ?_ (allOb_cons ?_ (allOb_cons ?_ (allOb_cons ?_ (allOb_cons ?_ (allOb_cons ?_ (allOb_cons ?_ allOb_nil)))))))) ?_
            · intro g2033 f2034
              intro R w2036 M2037
              refine W_run 1 [(28, .pointer (some ⟨b1687, 1, none⟩))] w2036 (by kernel_rfl) ?_
              exact W_nil (ob_end (.pointer (some ⟨b1687, 1, none⟩)) [] rfl (by kernel_rfl) ⟨by kernel_rfl, rfl⟩ M2037)
            · intro g2033 f2034
              intro v0_ hb0_
              obtain ⟨rfl, _⟩ := hb0_
              intro R w2040 M2041
              refine W_val (.slice p1671 s1944.2.2.1.length c1672) w2040 (by kernel_rfl) (E_load (e := 28) (fr := (0, 0)) _ _ false 1 b1687 1 [.slice p1666 r1664.Memory.length c1667, .slice p1671 s1944.2.2.1.length c1672, .slice p1676 s1944.2.2.2.length c1677] (.slice p1671 s1944.2.2.1.length c1672) rfl (by kernel_rfl) (by kernel_rfl) (by kernel_rfl) (M2041.blk 3 (b := b1687) (o := .cells ⟨[.slice p1666 r1664.Memory.length c1667, .slice p1671 s1944.2.2.1.length c1672, .slice p1676 s1944.2.2.2.length c1677]⟩ 28 (0, 0)) (by kernel_rfl))) ?_
              exact W_nil (ob_end (.slice p1671 s1944.2.2.1.length c1672) [] rfl (by kernel_rfl) ⟨by kernel_rfl, rfl⟩ M2041)
            · intro g2033 f2034
              intro R w2044 M2045
              refine W_run 1 [(30, .int .i64 s1944.2.1)] w2044 (by kernel_rfl) ?_
              exact W_nil (ob_end (.int .i64 s1944.2.1) [] rfl (by kernel_rfl) ⟨by kernel_rfl, rfl⟩ M2045)
            · intro g2033 f2034
              intro R w2048 M2049
              refine W_run 1 [(31, .pointer (some ⟨b1545, 0, none⟩))] w2048 (by kernel_rfl) ?_
              exact W_nil (ob_end (.pointer (some ⟨b1545, 0, none⟩)) [] rfl (by kernel_rfl) ⟨by kernel_rfl, rfl⟩ M2049)
            · intro g2033 f2034
              intro v3_ hb3_
              obtain ⟨rfl, _⟩ := hb3_
              intro R w2052 M2053
              refine W_val (.slice p1520 x1518.Memory.length c1521) w2052 (by kernel_rfl) (E_load (e := 28) (fr := (0, 0)) _ _ false 1 b1545 0 [.slice p1520 x1518.Memory.length c1521, .slice p1524 x1518.Copy.length c1525, .slice p1528 x1518.Dirty.length c1529] (.slice p1520 x1518.Memory.length c1521) rfl (by kernel_rfl) (by kernel_rfl) (by kernel_rfl) (M2053.blk 0 (b := b1545) (o := .cells ⟨[.slice p1520 x1518.Memory.length c1521, .slice p1524 x1518.Copy.length c1525, .slice p1528 x1518.Dirty.length c1529]⟩ 28 (0, 0)) (by kernel_rfl))) ?_
              exact W_nil (ob_end (.slice p1520 x1518.Memory.length c1521) [] rfl (by kernel_rfl) ⟨by kernel_rfl, rfl⟩ M2053)
            · intro g2033 f2034
              intro R w2056 M2057
              refine W_run 1 [(33, .int .i64 s1944.2.1)] w2056 (by kernel_rfl) ?_
              exact W_nil (ob_end (.int .i64 s1944.2.1) [] rfl (by kernel_rfl) ⟨by kernel_rfl, rfl⟩ M2057)
            · intro g2033 f2034
              intro v4_ hb4_
              obtain ⟨rfl, _⟩ := hb4_
              intro v5_ hb5_
              obtain ⟨rfl, _⟩ := hb5_
              intro R w2060 M2061
              refine W_val (elemP p1520 (s1944.2.1.toNat * 1)) w2060 (by kernel_rfl) (E_index (E := encI) _ _ _ x1518.Memory.length c1521 .i64 s1944.2.1 1 (y := y2035) rfl (by kernel_rfl) (by kernel_rfl) (by kernel_rfl) (h1522.mem0 M2061) rfl hy2035) ?_
              exact W_nil (ob_end (elemP p1520 (s1944.2.1.toNat * 1)) [] rfl (by kernel_rfl) ⟨by kernel_rfl, rfl⟩ M2061)
            · intro g2033 f2034
              intro v6_ hb6_
              obtain ⟨rfl, _⟩ := hb6_
              intro R w2064 M2065
              refine W_val (.int .i64 y2035) w2064 (by kernel_rfl) (E_loadE (E := encI) _ _ false 1 s1944.2.1 0 (s1944.2.1.toNat * 1) y2035 (.int .i64 y2035) rfl (by kernel_rfl) (by kernel_rfl) (by kernel_rfl) (h1522.mem0 M2065) hy2035 rfl) ?_
              exact W_nil (ob_end (.int .i64 y2035) [] rfl (by kernel_rfl) ⟨by kernel_rfl, rfl⟩ M2065)
            · intro g2033 f2034
              intro v1_ hb1_
              obtain ⟨rfl, _⟩ := hb1_
              intro v2_ hb2_
              obtain ⟨rfl, _⟩ := hb2_
              intro v7_ hb7_
              obtain ⟨rfl, _⟩ := hb7_
              intro w2068 M2069
              have M2070 : Mem [] w w2068 [[(b1545, .cells ⟨[.slice p1520 x1518.Memory.length c1521, .slice p1524 x1518.Copy.length c1525, .slice p1528 x1518.Dirty.length c1529]⟩ 28 (0, 0))], [(b1552, .cells ⟨[.slice none 0 0, .slice none 0 0, .slice none 0 0]⟩ 28 (0, 0))], sg1668, [(b1687, .cells ⟨[.slice p1666 r1664.Memory.length c1667, .slice p1671 s1944.2.2.1.length c1672, .slice p1676 s1944.2.2.2.length c1677]⟩ 28 (0, 0))], sg1954, sg1956] := M2069
              obtain ⟨y2071, hy2071, hm⟩ := gx_bind hm
              refine W_val (elemP p1671 (s1944.2.1.toNat * 1)) w2068 (by kernel_rfl) (E_index (E := encI) _ _ _ s1944.2.2.1.length c1672 .i64 s1944.2.1 1 (y := y2071) rfl (by kernel_rfl) (by kernel_rfl) (by kernel_rfl) (ho1955.rd M2070 4 (by kernel_rfl)) rfl hy2071) ?_
              refine W_storeE (E := encI) _ _ _ false 1 s1944.2.1.toNat 0 (s1944.2.1.toNat * 1) y2071 y2035 (.int .i64 y2035) 4 M2070 ho1955 (by kernel_rfl) (by kernel_rfl) rfl (by kernel_rfl) (by kernel_rfl) (by kernel_rfl) (by kernel_rfl) (by kernel_rfl) (by kernel_rfl) (by kernel_rfl) (gxIdx_spec hy2071).2 rfl ?_
              intro w2072 sg2074 ho2075 M2073
              refine W_conv 29 (.slice p1671 s1944.2.2.1.length c1672) (.slice p1671 (s1944.2.2.1.set s1944.2.1.toNat y2035).length c1672) (by kernel_rfl) (by rw [@List.length_set _ s1944.2.2.1 s1944.2.1.toNat y2035]) ?_
              have M2076 : Mem [] w w2072 [[(b1545, .cells ⟨[.slice p1520 x1518.Memory.length c1521, .slice p1524 x1518.Copy.length c1525, .slice p1528 x1518.Dirty.length c1529]⟩ 28 (0, 0))], [(b1552, .cells ⟨[.slice none 0 0, .slice none 0 0, .slice none 0 0]⟩ 28 (0, 0))], sg1668, [(b1687, .cells ⟨[.slice p1666 r1664.Memory.length c1667, .slice p1671 (s1944.2.2.1.set s1944.2.1.toNat y2035).length c1672, .slice p1676 s1944.2.2.2.length c1677]⟩ 28 (0, 0))], sg2074, sg1956] := by rw [@List.length_set _ s1944.2.2.1 s1944.2.1.toNat y2035]; exact M2073
              refine W_nil ?_
              refine N_then ?_
              refine G_seq ?_
              refine G_region ?_
              refine W_run 1 [(1, .int .i64 x1531), (2, .pointer (some ⟨b1545, 0, none⟩)), (4, .pointer (some ⟨b1552, 0, none⟩)), (6, .pointer (some ⟨b1687, 0, none⟩)), (7, .int .i64 s1944.1), (8, .int .i64 s1944.2.1), (37, .pointer (some ⟨b1687, 2, none⟩))] w2072 (by kernel_rfl) ?_
              refine W_val (.slice p1676 s1944.2.2.2.length c1677) w2072 (by kernel_rfl) (E_load (e := 28) (fr := (0, 0)) _ _ false 1 b1687 2 [.slice p1666 r1664.Memory.length c1667, .slice p1671 (s1944.2.2.1.set s1944.2.1.toNat y2035).length c1672, .slice p1676 s1944.2.2.2.length c1677] (.slice p1676 s1944.2.2.2.length c1677) rfl (by kernel_rfl) (by kernel_rfl) (by kernel_rfl) (M2076.blk 3 (b := b1687) (o := .cells ⟨[.slice p1666 r1664.Memory.length c1667, .slice p1671 (s1944.2.2.1.set s1944.2.1.toNat y2035).length c1672, .slice p1676 s1944.2.2.2.length c1677]⟩ 28 (0, 0)) (by kernel_rfl))) ?_
              refine W_run 1 [(1, .int .i64 x1531), (2, .pointer (some ⟨b1545, 0, none⟩)), (4, .pointer (some ⟨b1552, 0, none⟩)), (6, .pointer (some ⟨b1687, 0, none⟩)), (7, .int .i64 s1944.1), (8, .int .i64 s1944.2.1), (38, .slice p1676 s1944.2.2.2.length c1677), (39, .int .i64 s1944.2.1)] w2072 (by kernel_rfl) ?_
              obtain ⟨y2077, hy2077, hm⟩ := gx_bind hm
              refine W_val (elemP p1676 (s1944.2.1.toNat * 1)) w2072 (by kernel_rfl) (E_index (E := encB) _ _ _ s1944.2.2.2.length c1677 .i64 s1944.2.1 1 (y := y2077) rfl (by kernel_rfl) (by kernel_rfl) (by kernel_rfl) (ho1957.rd M2076 5 (by kernel_rfl)) rfl hy2077) ?_
              refine W_storeE (E := encB) _ _ _ false 1 s1944.2.1.toNat 0 (s1944.2.1.toNat * 1) y2077 false (.bool false) 5 M2076 ho1957 (by kernel_rfl) (by kernel_rfl) rfl (by kernel_rfl) (by kernel_rfl) (by kernel_rfl) (by kernel_rfl) (by kernel_rfl) (by kernel_rfl) (by kernel_rfl) (gxIdx_spec hy2077).2 rfl ?_
              intro w2078 sg2080 ho2081 M2079
              refine W_conv 38 (.slice p1676 s1944.2.2.2.length c1677) (.slice p1676 (s1944.2.2.2.set s1944.2.1.toNat false).length c1677) (by kernel_rfl) (by rw [@List.length_set _ s1944.2.2.2 s1944.2.1.toNat false]) ?_
              have M2082 : Mem [] w w2078 [[(b1545, .cells ⟨[.slice p1520 x1518.Memory.length c1521, .slice p1524 x1518.Copy.length c1525, .slice p1528 x1518.Dirty.length c1529]⟩ 28 (0, 0))], [(b1552, .cells ⟨[.slice none 0 0, .slice none 0 0, .slice none 0 0]⟩ 28 (0, 0))], sg1668, [(b1687, .cells ⟨[.slice p1666 r1664.Memory.length c1667, .slice p1671 (s1944.2.2.1.set s1944.2.1.toNat y2035).length c1672, .slice p1676 (s1944.2.2.2.set s1944.2.1.toNat false).length c1677]⟩ 28 (0, 0))], sg2074, sg2080] := by rw [@List.length_set _ s1944.2.2.2 s1944.2.1.toNat false]; exact M2079
              refine W_nil ?_
              refine N_then ?_
              refine G_region ?_
              refine W_run 3 [(1, .int .i64 x1531), (2, .pointer (some ⟨b1545, 0, none⟩)), (4, .pointer (some ⟨b1552, 0, none⟩)), (6, .pointer (some ⟨b1687, 0, none⟩)), (7, .int .i64 (w64 (s1944.1 + 1))), (8, .int .i64 s1944.2.1)] w2078 (by kernel_rfl) ?_
              refine W_nil ?_
              obtain rfl := Option.some.inj hm
              exact N_meet fun a ha => ⟨sg2074, sg2080, ho2075, ho2081, M2082.pick [0, 1, 2, 3, 4, 5] (by kernel_rfl), ha.sub (by kernel_rfl)⟩
          · refine G_cond_f (b := y1973) hc2032 (by kernel_rfl) ?_
            refine G_skip ?_
            obtain rfl := Option.some.inj hm
            exact N_meet fun a ha => ⟨sg1954, sg1956, ho1955, ho1957, M1969.pick [0, 1, 2, 3, 4, 5] (by kernel_rfl), ha.sub (by kernel_rfl)⟩
        · intro a2085 w2083 ⟨sg2028, sg2030, ho2029, ho2031, M2084, hS2086⟩
          refine N_use hS2086 ?_
          have hm := hm2027
          refine N_block ?_
          refine N_then ?_
          refine G_region ?_
          refine W_run 3 [(1, .int .i64 x1531), (2, .pointer (some ⟨b1545, 0, none⟩)), (4, .pointer (some ⟨b1552, 0, none⟩)), (6, .pointer (some ⟨b1687, 0, none⟩)), (7, .int .i64 o2025.1), (8, .int .i64 (w64 (s1944.2.1 + 1)))] w2083 (by kernel_rfl) ?_
          refine W_nil ?_
          obtain rfl := Option.some.inj hm
          exact N_loop fun a ha => ⟨_, rfl, sg2028, sg2030, ho2029, ho2031, M2084.pick [0, 1, 2, 3, 4, 5] (by kernel_rfl), ha.sub (by kernel_rfl)⟩
      · refine G_cond_f (b := o1964) hc1972 (by kernel_rfl) ?_
        refine G_exit ?_
        refine N_then_exit ?_
        refine N_then_exit ?_
        refine N_block_eq ?_
        obtain rfl := Option.some.inj hm
        obtain rfl := hout1946 _ rfl
        exact N_meet fun a ha => ⟨sg1954, sg1956, ho1955, ho1957, M1969.pick [1, 2, 3, 4, 5] (by kernel_rfl), ha.sub (by kernel_rfl)⟩
  · intro a2087 w2088 ⟨sg1959, sg1961, ho1960, ho1962, M2089, hS2090⟩
    refine N_use hS2090 ?_
    have hm := hmo1953
    refine N_then ?_
    refine G_seq ?_
    refine G_region ?_
    refine W_val (.agg #[.slice p1666 r1664.Memory.length c1667, .slice p1671 out1951.2.1.length c1672, .slice p1676 out1951.2.2.length c1677]) w2088 (by kernel_rfl) (E_load (e := 28) (fr := (0, 0)) _ _ true 3 b1687 0 [.slice p1666 r1664.Memory.length c1667, .slice p1671 out1951.2.1.length c1672, .slice p1676 out1951.2.2.length c1677] (.agg #[.slice p1666 r1664.Memory.length c1667, .slice p1671 out1951.2.1.length c1672, .slice p1676 out1951.2.2.length c1677]) rfl (by kernel_rfl) (by kernel_rfl) (by kernel_rfl) (M2089.blk 2 (b := b1687) (o := .cells ⟨[.slice p1666 r1664.Memory.length c1667, .slice p1671 out1951.2.1.length c1672, .slice p1676 out1951.2.2.length c1677]⟩ 28 (0, 0)) (by kernel_rfl))) ?_
    refine W_run 1 [(4, .pointer (some ⟨b1552, 0, none⟩)), (43, .agg #[.slice p1666 r1664.Memory.length c1667, .slice p1671 out1951.2.1.length c1672, .slice p1676 out1951.2.2.length c1677]), (44, .int .i64 out1951.1)] w2088 (by kernel_rfl) ?_
    refine W_store _ _ _ true 3 b1552 0 [.slice none 0 0, .slice none 0 0, .slice none 0 0] 28 (.agg #[.slice p1666 r1664.Memory.length c1667, .slice p1671 out1951.2.1.length c1672, .slice p1676 out1951.2.2.length c1677]) 0 [.slice p1666 r1664.Memory.length c1667, .slice p1671 out1951.2.1.length c1672, .slice p1676 out1951.2.2.length c1677] M2089 (by kernel_rfl) rfl (by kernel_rfl) (by kernel_rfl) (by kernel_rfl) (by kernel_rfl) (by kernel_rfl) (by kernel_rfl) (by kernel_rfl) (by kernel_rfl) ?_
    intro w2091 M2092
    refine W_run 1 [(4, .pointer (some ⟨b1552, 0, none⟩)), (5, .int .i64 out1951.1)] w2091 (by kernel_rfl) ?_
    refine W_nil ?_
    refine N_then ?_
    refine G_ret ?_
    obtain rfl := Option.some.inj hm
    refine N_ret [.agg #[.slice p1666 r1664.Memory.length c1667, .slice p1671 out1951.2.1.length c1672, .slice p1676 out1951.2.2.length c1677], .int .i64 out1951.1] (RVs_cons (RV_cell (g := true) (k := 3) (b := b1552) (off := 0) (cs := [.slice p1666 r1664.Memory.length c1667, .slice p1671 out1951.2.1.length c1672, .slice p1676 out1951.2.2.length c1677]) (e := 28) (fr := (0, 0)) (v := .agg #[.slice p1666 r1664.Memory.length c1667, .slice p1671 out1951.2.1.length c1672, .slice p1676 out1951.2.2.length c1677]) (M2092.blk 0 (b := b1552) (o := .cells ⟨[.slice p1666 r1664.Memory.length c1667, .slice p1671 out1951.2.1.length c1672, .slice p1676 out1951.2.2.length c1677]⟩ 28 (0, 0)) (by kernel_rfl)) (by kernel_rfl) (by kernel_rfl) (by kernel_rfl)) (RVs_cons (RV_tmp (by kernel_rfl)) RVs_nil)) ?_
    exact ⟨p1666, c1667, sg1668, p1671, c1672, sg1959, p1676, c1677, sg1961, rfl, ho1669, ho1960, ho1962, M2092.pick [1, 3, 4] (by kernel_rfl)⟩
theorem c_s_l1Most (w : World) (x2189 : Int) (x2190 : Int) {r : Int} (hm : M.s_l1Most x2189 x2190 = some r) :
    Calls Try.prog 104 #[.int .i64 x2189, .int .i64 x2190] w fun e w' => e = .returned (.int .i64 r) ∧ Mem [] w w' [] := by
  unfold M.s_l1Most at hm
  refine C_enter Try.func104 rfl (by kernel_rfl) ?_
  have M0 := Mem.refl [] w
  refine G_seq ?_
  refine G_region ?_
  refine W_run 1 [(0, .int .i64 x2189), (1, .int .i64 x2190)] w (by kernel_rfl) ?_
  refine W_nil ?_
  refine N_then ?_
  refine G_seq ?_
  refine G_seq ?_
  refine G_region ?_
  refine W_run 3 [(0, .int .i64 x2189), (1, .int .i64 x2190), (7, .bool (decide (x2189 > x2190)))] w (by kernel_rfl) ?_
  refine W_nil ?_
  refine N_then ?_
  rcases gx_bif hm with ⟨hc2191, hm⟩ | ⟨hc2191, hm⟩
  · refine G_cond_t (b := (decide (x2189 > x2190))) hc2191 (by kernel_rfl) ?_
    refine G_seq ?_
    refine G_region ?_
    refine W_run 2 [(4, .int .i64 x2189)] w (by kernel_rfl) ?_
    refine W_nil ?_
    refine N_then ?_
    refine G_ret ?_
    refine N_then_ret ?_
    obtain rfl := Option.some.inj hm
    refine N_ret [.int .i64 x2189] (RVs_cons (RV_tmp (by kernel_rfl)) RVs_nil) ?_
    exact ⟨rfl, M0.pick [] (by kernel_rfl)⟩
  · refine G_cond_f (b := (decide (x2189 > x2190))) hc2191 (by kernel_rfl) ?_
    refine G_skip ?_
    refine N_then ?_
    refine G_seq ?_
    refine G_region ?_
    refine W_run 2 [(4, .int .i64 x2190)] w (by kernel_rfl) ?_
    refine W_nil ?_
    refine N_then ?_
    refine G_ret ?_
    obtain rfl := Option.some.inj hm
    refine N_ret [.int .i64 x2190] (RVs_cons (RV_tmp (by kernel_rfl)) RVs_nil) ?_
    exact ⟨rfl, M0.pick [] (by kernel_rfl)⟩
theorem c_s_l1Cur_storeIn (w : World) (x2147 : l1Cur) (p2151 : Option Addr) (c2152 : Nat) (h2153 : rdS encU8 w x2147.code p2151 c2152) (b2149 : Nat) (x2155 : Int) (hA : ∀ q ∈ List.flatten [[(b2149, .cells ⟨[.slice p2151 x2147.code.length c2152, .int .i64 x2147.at_, .int .u64 x2147.seed]⟩ 99 (0, 0))]], w.heap[q.1]? = some q.2) (hN : (idsOf [[(b2149, .cells ⟨[.slice p2151 x2147.code.length c2152, .int .i64 x2147.at_, .int .u64 x2147.seed]⟩ 99 (0, 0))]]).Nodup) (hap2154 : apartX (idsOf [[(b2149, .cells ⟨[.slice p2151 x2147.code.length c2152, .int .i64 x2147.at_, .int .u64 x2147.seed]⟩ 99 (0, 0))]]) x2147.code p2151) {r : Store × Int × Int} (hm : M.s_l1Cur_storeIn x2147 x2155 = some r) :
    Calls Try.prog 90 #[.pointer (some ⟨b2149, 0, none⟩), .int .i64 x2155] w fun e w' => e = .returned (.agg #[.int .i64 r.1.Word, .int .i64 r.1.Value]) ∧ Mem (idsOf [[(b2149, .cells ⟨[.slice p2151 x2147.code.length c2152, .int .i64 x2147.at_, .int .u64 x2147.seed]⟩ 99 (0, 0))]]) w w' [[(b2149, .cells ⟨[.slice p2151 x2147.code.length c2152, .int .i64 r.2.1, .int .u64 r.2.2]⟩ 99 (0, 0))]] := by
  unfold M.s_l1Cur_storeIn at hm
  refine C_enter Try.func90 rfl (by kernel_rfl) ?_
  have M0 := Mem.start' w [[(b2149, .cells ⟨[.slice p2151 x2147.code.length c2152, .int .i64 x2147.at_, .int .u64 x2147.seed]⟩ 99 (0, 0))]] hA hN
  refine G_seq ?_
  refine G_region ?_
  refine W_new (fun b => .pointer (some ⟨b, 0, none⟩)) (.cells ⟨[.int .i64 0, .int .i64 0]⟩ 46 (0, 0)) M0 rfl (by kernel_rfl) (by kernel_rfl) ?_
  intro b2157 w2158 M2159
  refine W_nil ?_
  refine N_then ?_
  refine G_seq ?_
  refine G_seq ?_
  refine G_region ?_
  refine W_run 1 [(0, .pointer (some ⟨b2149, 0, none⟩)), (1, .int .i64 x2155), (4, .pointer (some ⟨b2157, 0, none⟩)), (5, .pointer (some ⟨b2149, 0, none⟩))] w2158 (by kernel_rfl) ?_
  obtain ⟨r2160, hr2160, hm⟩ := gx_bind hm
  refine W_call 102 #[.pointer (some ⟨b2149, 0, none⟩), .int .i64 32] (by kernel_rfl) (by kernel_rfl) ?_
  refine (c_s_l1Cur_one w2158 x2147 p2151 c2152 (h2153.memX hap2154 M2159) b2149 32 (M2159.hasPick [0]) (M2159.nodupPick [0] (by kernel_rfl)) (apartX.old h2153 hap2154 M2159 [0]) hr2160).mono ?_
  rintro e_ w2161 ⟨rfl, K2162⟩
  have M2163 := M2159.callF' [0] [1] (by kernel_rfl) K2162
  refine ⟨_, rfl, ?_⟩
  refine W_nil ?_
  refine N_then ?_
  rcases gx_bif hm with ⟨hc2164, hm⟩ | ⟨hc2164, hm⟩
  · refine G_cond_t (b := r2160.1) hc2164 (by kernel_rfl) ?_
    refine G_seq ?_
    refine G_region ?_
    refine W_run 2 [(0, .pointer (some ⟨b2149, 0, none⟩)), (4, .pointer (some ⟨b2157, 0, none⟩)), (7, .pointer (some ⟨b2149, 0, none⟩)), (8, .int .i64 x2155)] w2161 (by kernel_rfl) ?_
    refine W_lit (E := encI) [(-1), x2155, 0] 3 [.int .i64 (-1), .int .i64 x2155, .int .i64 0] 3 M2163 (by kernel_rfl) (by kernel_rfl) (by kernel_rfl) (by kernel_rfl) (by kernel_rfl) ?_
    intro p2165 c2166 sg2167 w2168 ho2169 M2170
    obtain ⟨r2172, hr2172, hm⟩ := gx_bind hm
    refine W_call 86 #[.pointer (some ⟨b2149, 0, none⟩), .slice p2165 [(-1), x2155, 0].length c2166] (by kernel_rfl) (by kernel_rfl) ?_
    refine (c_s_l1Cur_among w2168 (⟨x2147.code, r2160.2.1, r2160.2.2⟩ : l1Cur) p2151 c2152 (h2153.memX hap2154 M2170) b2149 [(-1), x2155, 0] p2165 c2166 (ho2169.rd M2170 2 (by kernel_rfl)) (M2170.hasPick [1]) (M2170.nodupPick [1] (by kernel_rfl)) (apartX.old h2153 hap2154 M2170 [1]) (apartX.own ho2169 M2170 2 (by kernel_rfl) [1] (by kernel_rfl)) hr2172).mono ?_
    rintro e_ w2173 ⟨rfl, K2174⟩
    have M2175 := M2170.callF' [1] [0, 2] (by kernel_rfl) K2174
    refine ⟨_, rfl, ?_⟩
    refine W_run 1 [(4, .pointer (some ⟨b2157, 0, none⟩)), (10, .int .i64 r2172.1), (11, .pointer (some ⟨b2149, 0, none⟩))] w2173 (by kernel_rfl) ?_
    refine W_lit (E := encI) [(-1), 65536] 2 [.int .i64 (-1), .int .i64 65536] 3 M2175 (by kernel_rfl) (by kernel_rfl) (by kernel_rfl) (by kernel_rfl) (by kernel_rfl) ?_
    intro p2176 c2177 sg2178 w2179 ho2180 M2181
    obtain ⟨r2183, hr2183, hm⟩ := gx_bind hm
    refine W_call 86 #[.pointer (some ⟨b2149, 0, none⟩), .slice p2176 [(-1), 65536].length c2177] (by kernel_rfl) (by kernel_rfl) ?_
    refine (c_s_l1Cur_among w2179 (⟨x2147.code, r2172.2.1, r2172.2.2⟩ : l1Cur) p2151 c2152 (h2153.memX hap2154 M2181) b2149 [(-1), 65536] p2176 c2177 (ho2180.rd M2181 3 (by kernel_rfl)) (M2181.hasPick [2]) (M2181.nodupPick [2] (by kernel_rfl)) (apartX.old h2153 hap2154 M2181 [2]) (apartX.own ho2180 M2181 3 (by kernel_rfl) [2] (by kernel_rfl)) hr2183).mono ?_
    rintro e_ w2184 ⟨rfl, K2185⟩
    have M2186 := M2181.callF' [2] [0, 1, 3] (by kernel_rfl) K2185
    refine ⟨_, rfl, ?_⟩
    refine W_run 1 [(4, .pointer (some ⟨b2157, 0, none⟩)), (14, .agg #[.int .i64 r2172.1, .int .i64 r2183.1])] w2184 (by kernel_rfl) ?_
    refine W_store _ _ _ true 2 b2157 0 [.int .i64 0, .int .i64 0] 46 (.agg #[.int .i64 r2172.1, .int .i64 r2183.1]) 0 [.int .i64 r2172.1, .int .i64 r2183.1] M2186 (by kernel_rfl) rfl (by kernel_rfl) (by kernel_rfl) (by kernel_rfl) (by kernel_rfl) (by kernel_rfl) (by kernel_rfl) (by kernel_rfl) (by kernel_rfl) ?_
    intro w2187 M2188
    refine W_nil ?_
    refine N_then ?_
    refine G_ret ?_
    refine N_then_ret ?_
    obtain rfl := Option.some.inj hm
    refine N_ret [.agg #[.int .i64 r2172.1, .int .i64 r2183.1]] (RVs_cons (RV_cell (g := true) (k := 2) (b := b2157) (off := 0) (cs := [.int .i64 r2172.1, .int .i64 r2183.1]) (e := 46) (fr := (0, 0)) (v := .agg #[.int .i64 r2172.1, .int .i64 r2183.1]) (M2188.blk 0 (b := b2157) (o := .cells ⟨[.int .i64 r2172.1, .int .i64 r2183.1]⟩ 46 (0, 0)) (by kernel_rfl)) (by kernel_rfl) (by kernel_rfl) (by kernel_rfl)) RVs_nil) ?_
    exact ⟨rfl, M2188.pick [3] (by kernel_rfl)⟩
  · refine G_cond_f (b := r2160.1) hc2164 (by kernel_rfl) ?_
    refine G_skip ?_
    refine N_then ?_
    refine G_seq ?_
    refine G_region ?_
    refine W_run 2 [(0, .pointer (some ⟨b2149, 0, none⟩)), (4, .pointer (some ⟨b2157, 0, none⟩)), (15, .pointer (some ⟨b2149, 0, none⟩)), (16, .int .i64 x2155)] w2161 (by kernel_rfl) ?_
    obtain ⟨r2192, hr2192, hm⟩ := gx_bind hm
    refine W_call 104 #[.int .i64 1, .int .i64 x2155] (by kernel_rfl) (by kernel_rfl) ?_
    refine (c_s_l1Most w2161 1 x2155 hr2192).mono ?_
    rintro e_ w2193 ⟨rfl, K2194⟩
    have M2195 := M2163.call0 K2194
    refine ⟨_, rfl, ?_⟩
    obtain ⟨r2196, hr2196, hm⟩ := gx_bind hm
    refine W_call 88 #[.pointer (some ⟨b2149, 0, none⟩), .int .i64 r2192] (by kernel_rfl) (by kernel_rfl) ?_
    refine (c_s_l1Cur_pick w2193 (⟨x2147.code, r2160.2.1, r2160.2.2⟩ : l1Cur) p2151 c2152 (h2153.memX hap2154 M2195) b2149 r2192 (M2195.hasPick [1]) (M2195.nodupPick [1] (by kernel_rfl)) (apartX.old h2153 hap2154 M2195 [1]) hr2196).mono ?_
    rintro e_ w2197 ⟨rfl, K2198⟩
    have M2199 := M2195.callF' [1] [0] (by kernel_rfl) K2198
    refine ⟨_, rfl, ?_⟩
    refine W_run 1 [(4, .pointer (some ⟨b2157, 0, none⟩)), (18, .int .i64 r2196.1), (19, .pointer (some ⟨b2149, 0, none⟩))] w2197 (by kernel_rfl) ?_
    refine W_lit (E := encI) [0, 1, 5, 300, 65535] 5 [.int .i64 0, .int .i64 1, .int .i64 5, .int .i64 300, .int .i64 65535] 3 M2199 (by kernel_rfl) (by kernel_rfl) (by kernel_rfl) (by kernel_rfl) (by kernel_rfl) ?_
    intro p2200 c2201 sg2202 w2203 ho2204 M2205
    obtain ⟨r2207, hr2207, hm⟩ := gx_bind hm
    refine W_call 86 #[.pointer (some ⟨b2149, 0, none⟩), .slice p2200 [0, 1, 5, 300, 65535].length c2201] (by kernel_rfl) (by kernel_rfl) ?_
    refine (c_s_l1Cur_among w2203 (⟨x2147.code, r2196.2.1, r2196.2.2⟩ : l1Cur) p2151 c2152 (h2153.memX hap2154 M2205) b2149 [0, 1, 5, 300, 65535] p2200 c2201 (ho2204.rd M2205 2 (by kernel_rfl)) (M2205.hasPick [1]) (M2205.nodupPick [1] (by kernel_rfl)) (apartX.old h2153 hap2154 M2205 [1]) (apartX.own ho2204 M2205 2 (by kernel_rfl) [1] (by kernel_rfl)) hr2207).mono ?_
    rintro e_ w2208 ⟨rfl, K2209⟩
    have M2210 := M2205.callF' [1] [0, 2] (by kernel_rfl) K2209
    refine ⟨_, rfl, ?_⟩
    refine W_run 1 [(4, .pointer (some ⟨b2157, 0, none⟩)), (22, .agg #[.int .i64 r2196.1, .int .i64 r2207.1])] w2208 (by kernel_rfl) ?_
    refine W_store _ _ _ true 2 b2157 0 [.int .i64 0, .int .i64 0] 46 (.agg #[.int .i64 r2196.1, .int .i64 r2207.1]) 0 [.int .i64 r2196.1, .int .i64 r2207.1] M2210 (by kernel_rfl) rfl (by kernel_rfl) (by kernel_rfl) (by kernel_rfl) (by kernel_rfl) (by kernel_rfl) (by kernel_rfl) (by kernel_rfl) (by kernel_rfl) ?_
    intro w2211 M2212
    refine W_nil ?_
    refine N_then ?_
    refine G_ret ?_
    obtain rfl := Option.some.inj hm
    refine N_ret [.agg #[.int .i64 r2196.1, .int .i64 r2207.1]] (RVs_cons (RV_cell (g := true) (k := 2) (b := b2157) (off := 0) (cs := [.int .i64 r2196.1, .int .i64 r2207.1]) (e := 46) (fr := (0, 0)) (v := .agg #[.int .i64 r2196.1, .int .i64 r2207.1]) (M2212.blk 0 (b := b2157) (o := .cells ⟨[.int .i64 r2196.1, .int .i64 r2207.1]⟩ 46 (0, 0)) (by kernel_rfl)) (by kernel_rfl) (by kernel_rfl) (by kernel_rfl)) RVs_nil) ?_
    exact ⟨rfl, M2212.pick [2] (by kernel_rfl)⟩
theorem c_s_l19Store (w : World) (x2223 : Copying) (p2225 : Option Addr) (c2226 : Nat) (h2227 : rdS encI w x2223.Memory p2225 c2226) (p2229 : Option Addr) (c2230 : Nat) (h2231 : rdS encI w x2223.Copy p2229 c2230) (p2233 : Option Addr) (c2234 : Nat) (h2235 : rdS encB w x2223.Dirty p2233 c2234) (x2236 : Store) {r : Bool} (hm : M.s_l19Store x2223 x2236 = some r) :
    Calls Try.prog 68 #[.agg #[.slice p2225 x2223.Memory.length c2226, .slice p2229 x2223.Copy.length c2230, .slice p2233 x2223.Dirty.length c2234], .agg #[.int .i64 x2236.Word, .int .i64 x2236.Value]] w fun e w' => e = .returned (.bool r) ∧ Mem [] w w' [] := by
  unfold M.s_l19Store at hm
  refine C_enter Try.func68 rfl (by kernel_rfl) ?_
  have M0 := Mem.refl [] w
  refine G_seq ?_
  refine G_region ?_
  refine W_new (fun b => .pointer (some ⟨b, 0, none⟩)) (.cells ⟨[.slice p2225 x2223.Memory.length c2226, .slice p2229 x2223.Copy.length c2230, .slice p2233 x2223.Dirty.length c2234]⟩ 28 (0, 0)) M0 rfl (by kernel_rfl) (by kernel_rfl) ?_
  intro b2238 w2239 M2240
  refine W_new (fun b => .pointer (some ⟨b, 0, none⟩)) (.cells ⟨[.int .i64 x2236.Word, .int .i64 x2236.Value]⟩ 46 (0, 0)) M2240 rfl (by kernel_rfl) (by kernel_rfl) ?_
  intro b2242 w2243 M2244
  refine W_run 1 [(2, .pointer (some ⟨b2238, 0, none⟩)), (3, .pointer (some ⟨b2242, 0, none⟩))] w2243 (by kernel_rfl) ?_
  refine W_nil ?_
  refine N_then ?_
  refine G_seq ?_
  obtain ⟨o2254, ho2255, hm2256⟩ := gx_bind hm
  refine G_meet (fun a w' => Mem [] w w' [] ∧ Sat Try.f68.ntmps [(4, .bool o2254)] a) ?_ ?_
  · have hm := ho2255
    refine G_region ?_
    refine W_run 1 [(2, .pointer (some ⟨b2238, 0, none⟩)), (3, .pointer (some ⟨b2242, 0, none⟩)), (5, .pointer (some ⟨b2242, 0, none⟩))] w2243 (by kernel_rfl) ?_
    refine W_val (.int .i64 x2236.Word) w2243 (by kernel_rfl) (E_load (e := 46) (fr := (0, 0)) _ _ false 1 b2242 0 [.int .i64 x2236.Word, .int .i64 x2236.Value] (.int .i64 x2236.Word) rfl (by kernel_rfl) (by kernel_rfl) (by kernel_rfl) (M2244.blk 1 (b := b2242) (o := .cells ⟨[.int .i64 x2236.Word, .int .i64 x2236.Value]⟩ 46 (0, 0)) (by kernel_rfl))) ?_
    refine W_run 1 [(3, .pointer (some ⟨b2242, 0, none⟩)), (6, .int .i64 x2236.Word), (7, .pointer (some ⟨b2238, 0, none⟩))] w2243 (by kernel_rfl) ?_
    refine W_val (.slice p2225 x2223.Memory.length c2226) w2243 (by kernel_rfl) (E_load (e := 28) (fr := (0, 0)) _ _ false 1 b2238 0 [.slice p2225 x2223.Memory.length c2226, .slice p2229 x2223.Copy.length c2230, .slice p2233 x2223.Dirty.length c2234] (.slice p2225 x2223.Memory.length c2226) rfl (by kernel_rfl) (by kernel_rfl) (by kernel_rfl) (M2244.blk 0 (b := b2238) (o := .cells ⟨[.slice p2225 x2223.Memory.length c2226, .slice p2229 x2223.Copy.length c2230, .slice p2233 x2223.Dirty.length c2234]⟩ 28 (0, 0)) (by kernel_rfl))) ?_
    refine W_run 2 [(3, .pointer (some ⟨b2242, 0, none⟩)), (6, .int .i64 x2236.Word), (10, .int .i64 (w64 ((x2223.Memory.length : Int) - 1)))] w2243 (by kernel_rfl) ?_
    obtain ⟨r2257, hr2257, hm⟩ := gx_bind hm
    refine W_call 73 #[.int .i64 x2236.Word, .int .i64 0, .int .i64 (w64 ((x2223.Memory.length : Int) - 1))] (by kernel_rfl) (by kernel_rfl) ?_
    refine (c_s_l1In w2243 x2236.Word 0 (w64 ((x2223.Memory.length : Int) - 1)) hr2257).mono ?_
    rintro e_ w2258 ⟨rfl, K2259⟩
    have M2260 := M2244.call0 K2259
    refine ⟨_, rfl, ?_⟩
    refine W_run 1 [(3, .pointer (some ⟨b2242, 0, none⟩)), (12, .bool r2257)] w2258 (by kernel_rfl) ?_
    rcases gx_bif hm with ⟨hc2261, hm⟩ | ⟨hc2261, hm⟩
    · refine W_known 12 true (by kernel_rfl) hc2261 ?_
      refine W_run 1 [(12, .bool true), (13, .pointer (some ⟨b2242, 1, none⟩))] w2258 (by kernel_rfl) ?_
      refine W_val (.int .i64 x2236.Value) w2258 (by kernel_rfl) (E_load (e := 46) (fr := (0, 0)) _ _ false 1 b2242 1 [.int .i64 x2236.Word, .int .i64 x2236.Value] (.int .i64 x2236.Value) rfl (by kernel_rfl) (by kernel_rfl) (by kernel_rfl) (M2260.blk 1 (b := b2242) (o := .cells ⟨[.int .i64 x2236.Word, .int .i64 x2236.Value]⟩ 46 (0, 0)) (by kernel_rfl))) ?_
      obtain ⟨r2262, hr2262, hm⟩ := gx_bind hm
      refine W_call 95 #[.int .i64 x2236.Value] (by kernel_rfl) (by kernel_rfl) ?_
      refine (c_s_l2Word16 w2258 x2236.Value hr2262).mono ?_
      rintro e_ w2263 ⟨rfl, K2264⟩
      have M2265 := M2260.call0 K2264
      refine ⟨_, rfl, ?_⟩
      refine W_run 2 [(4, .bool r2262)] w2263 (by kernel_rfl) ?_
      refine W_nil ?_
      obtain rfl := Option.some.inj hm
      exact N_meet fun a ha => ⟨M2265.pick [] (by kernel_rfl), ha.sub (by kernel_rfl)⟩
    · refine W_known 12 false (by kernel_rfl) hc2261 ?_
      refine W_run 5 [(4, .bool false)] w2258 (by kernel_rfl) ?_
      refine W_nil ?_
      obtain rfl := Option.some.inj hm
      exact N_meet fun a ha => ⟨M2260.pick [] (by kernel_rfl), ha.sub (by kernel_rfl)⟩
  · intro a2268 w2266 ⟨M2267, hS2269⟩
    refine N_use hS2269 ?_
    have hm := hm2256
    refine N_then ?_
    refine G_ret ?_
    obtain rfl := Option.some.inj hm
    refine N_ret [.bool o2254] (RVs_cons (RV_tmp (by kernel_rfl)) RVs_nil) ?_
    exact ⟨rfl, M2267.pick [] (by kernel_rfl)⟩
theorem c_s_l19Write (w : World) (x2275 : Copying) (p2277 : Option Addr) (c2278 : Nat) (h2279 : rdS encI w x2275.Memory p2277 c2278) (p2281 : Option Addr) (c2282 : Nat) (h2283 : rdS encI w x2275.Copy p2281 c2282) (p2285 : Option Addr) (c2286 : Nat) (h2287 : rdS encB w x2275.Dirty p2285 c2286) (x2288 : Store) {r : Copying} (hm : M.s_l19Write x2275 x2288 = some r) :
    Calls Try.prog 69 #[.agg #[.slice p2277 x2275.Memory.length c2278, .slice p2281 x2275.Copy.length c2282, .slice p2285 x2275.Dirty.length c2286], .agg #[.int .i64 x2288.Word, .int .i64 x2288.Value]] w fun e w' => ∃ (p2290 : Option Addr) (c2291 : Nat) (sg2292 : Seg), ∃ (p2294 : Option Addr) (c2295 : Nat) (sg2296 : Seg), ∃ (p2298 : Option Addr) (c2299 : Nat) (sg2300 : Seg), e = .returned (.agg #[.slice p2290 r.Memory.length c2291, .slice p2294 r.Copy.length c2295, .slice p2298 r.Dirty.length c2299]) ∧ ownS encI r.Memory p2290 c2291 sg2292 ∧ ownS encI r.Copy p2294 c2295 sg2296 ∧ ownS encB r.Dirty p2298 c2299 sg2300 ∧ Mem [] w w' [sg2292, sg2296, sg2300] := by
  unfold M.s_l19Write at hm
  refine C_enter Try.func69 rfl (by kernel_rfl) ?_
  have M0 := Mem.refl [] w
  refine G_seq ?_
  refine G_region ?_
  refine W_new (fun b => .pointer (some ⟨b, 0, none⟩)) (.cells ⟨[.slice p2277 x2275.Memory.length c2278, .slice p2281 x2275.Copy.length c2282, .slice p2285 x2275.Dirty.length c2286]⟩ 28 (0, 0)) M0 rfl (by kernel_rfl) (by kernel_rfl) ?_
  intro b2302 w2303 M2304
  refine W_new (fun b => .pointer (some ⟨b, 0, none⟩)) (.cells ⟨[.int .i64 x2288.Word, .int .i64 x2288.Value]⟩ 46 (0, 0)) M2304 rfl (by kernel_rfl) (by kernel_rfl) ?_
  intro b2306 w2307 M2308
  refine W_new (fun b => .pointer (some ⟨b, 0, none⟩)) (.cells ⟨[.slice none 0 0, .slice none 0 0, .slice none 0 0]⟩ 28 (0, 0)) M2308 rfl (by kernel_rfl) (by kernel_rfl) ?_
  intro b2313 w2314 M2315
  refine W_nil ?_
  refine N_then ?_
  refine G_seq ?_
  refine G_region ?_
  refine W_val (.agg #[.slice p2277 x2275.Memory.length c2278, .slice p2281 x2275.Copy.length c2282, .slice p2285 x2275.Dirty.length c2286]) w2314 (by kernel_rfl) (E_load (e := 28) (fr := (0, 0)) _ _ true 3 b2302 0 [.slice p2277 x2275.Memory.length c2278, .slice p2281 x2275.Copy.length c2282, .slice p2285 x2275.Dirty.length c2286] (.agg #[.slice p2277 x2275.Memory.length c2278, .slice p2281 x2275.Copy.length c2282, .slice p2285 x2275.Dirty.length c2286]) rfl (by kernel_rfl) (by kernel_rfl) (by kernel_rfl) (M2315.blk 0 (b := b2302) (o := .cells ⟨[.slice p2277 x2275.Memory.length c2278, .slice p2281 x2275.Copy.length c2282, .slice p2285 x2275.Dirty.length c2286]⟩ 28 (0, 0)) (by kernel_rfl))) ?_
  obtain ⟨r2316, hr2316, hm⟩ := gx_bind hm
  refine W_call 96 #[.agg #[.slice p2277 x2275.Memory.length c2278, .slice p2281 x2275.Copy.length c2282, .slice p2285 x2275.Dirty.length c2286]] (by kernel_rfl) (by kernel_rfl) ?_
  refine (c_s_l19Own w2314 x2275 p2277 c2278 (h2279.mem0 M2315) p2281 c2282 (h2283.mem0 M2315) p2285 c2286 (h2287.mem0 M2315) hr2316).mono ?_
  rintro e_ w2332 ⟨p2318, c2319, sg2320, p2323, c2324, sg2325, p2328, c2329, sg2330, rfl, ho2321, ho2326, ho2331, K2333⟩
  have M2334 := M2315.call K2333
  refine ⟨_, rfl, ?_⟩
  refine W_new (fun b => .pointer (some ⟨b, 0, none⟩)) (.cells ⟨[.slice none 0 0, .slice none 0 0, .slice none 0 0]⟩ 28 (0, 0)) M2334 rfl (by kernel_rfl) (by kernel_rfl) ?_
  intro b2339 w2340 M2341
  refine W_store _ _ _ true 3 b2339 0 [.slice none 0 0, .slice none 0 0, .slice none 0 0] 28 (.agg #[.slice p2318 r2316.Memory.length c2319, .slice p2323 r2316.Copy.length c2324, .slice p2328 r2316.Dirty.length c2329]) 6 [.slice p2318 r2316.Memory.length c2319, .slice p2323 r2316.Copy.length c2324, .slice p2328 r2316.Dirty.length c2329] M2341 (by kernel_rfl) rfl (by kernel_rfl) (by kernel_rfl) (by kernel_rfl) (by kernel_rfl) (by kernel_rfl) (by kernel_rfl) (by kernel_rfl) (by kernel_rfl) ?_
  intro w2342 M2343
  refine W_nil ?_
  refine N_then ?_
  refine G_seq ?_
  refine G_region ?_
  refine W_run 1 [(3, .pointer (some ⟨b2306, 0, none⟩)), (4, .pointer (some ⟨b2313, 0, none⟩)), (5, .pointer (some ⟨b2339, 0, none⟩)), (8, .pointer (some ⟨b2339, 0, none⟩))] w2342 (by kernel_rfl) ?_
  refine W_val (.slice p2318 r2316.Memory.length c2319) w2342 (by kernel_rfl) (E_load (e := 28) (fr := (0, 0)) _ _ false 1 b2339 0 [.slice p2318 r2316.Memory.length c2319, .slice p2323 r2316.Copy.length c2324, .slice p2328 r2316.Dirty.length c2329] (.slice p2318 r2316.Memory.length c2319) rfl (by kernel_rfl) (by kernel_rfl) (by kernel_rfl) (M2343.blk 6 (b := b2339) (o := .cells ⟨[.slice p2318 r2316.Memory.length c2319, .slice p2323 r2316.Copy.length c2324, .slice p2328 r2316.Dirty.length c2329]⟩ 28 (0, 0)) (by kernel_rfl))) ?_
  refine W_run 1 [(3, .pointer (some ⟨b2306, 0, none⟩)), (4, .pointer (some ⟨b2313, 0, none⟩)), (5, .pointer (some ⟨b2339, 0, none⟩)), (9, .slice p2318 r2316.Memory.length c2319), (10, .pointer (some ⟨b2306, 0, none⟩))] w2342 (by kernel_rfl) ?_
  refine W_val (.int .i64 x2288.Word) w2342 (by kernel_rfl) (E_load (e := 46) (fr := (0, 0)) _ _ false 1 b2306 0 [.int .i64 x2288.Word, .int .i64 x2288.Value] (.int .i64 x2288.Word) rfl (by kernel_rfl) (by kernel_rfl) (by kernel_rfl) (M2343.blk 1 (b := b2306) (o := .cells ⟨[.int .i64 x2288.Word, .int .i64 x2288.Value]⟩ 46 (0, 0)) (by kernel_rfl))) ?_
  refine W_run 1 [(3, .pointer (some ⟨b2306, 0, none⟩)), (4, .pointer (some ⟨b2313, 0, none⟩)), (5, .pointer (some ⟨b2339, 0, none⟩)), (9, .slice p2318 r2316.Memory.length c2319), (11, .int .i64 x2288.Word), (12, .pointer (some ⟨b2306, 1, none⟩))] w2342 (by kernel_rfl) ?_
  refine W_val (.int .i64 x2288.Value) w2342 (by kernel_rfl) (E_load (e := 46) (fr := (0, 0)) _ _ false 1 b2306 1 [.int .i64 x2288.Word, .int .i64 x2288.Value] (.int .i64 x2288.Value) rfl (by kernel_rfl) (by kernel_rfl) (by kernel_rfl) (M2343.blk 1 (b := b2306) (o := .cells ⟨[.int .i64 x2288.Word, .int .i64 x2288.Value]⟩ 46 (0, 0)) (by kernel_rfl))) ?_
  obtain ⟨y2344, hy2344, hm⟩ := gx_bind hm
  refine W_val (elemP p2318 (x2288.Word.toNat * 1)) w2342 (by kernel_rfl) (E_index (E := encI) _ _ _ r2316.Memory.length c2319 .i64 x2288.Word 1 (y := y2344) rfl (by kernel_rfl) (by kernel_rfl) (by kernel_rfl) (ho2321.rd M2343 3 (by kernel_rfl)) rfl hy2344) ?_
  refine W_storeE (E := encI) _ _ _ false 1 x2288.Word.toNat 0 (x2288.Word.toNat * 1) y2344 x2288.Value (.int .i64 x2288.Value) 3 M2343 ho2321 (by kernel_rfl) (by kernel_rfl) rfl (by kernel_rfl) (by kernel_rfl) (by kernel_rfl) (by kernel_rfl) (by kernel_rfl) (by kernel_rfl) (by kernel_rfl) (gxIdx_spec hy2344).2 rfl ?_
  intro w2345 sg2347 ho2348 M2346
  refine W_conv 9 (.slice p2318 r2316.Memory.length c2319) (.slice p2318 (r2316.Memory.set x2288.Word.toNat x2288.Value).length c2319) (by kernel_rfl) (by rw [@List.length_set _ r2316.Memory x2288.Word.toNat x2288.Value]) ?_
  have M2349 : Mem [] w w2345 [[(b2302, .cells ⟨[.slice p2277 x2275.Memory.length c2278, .slice p2281 x2275.Copy.length c2282, .slice p2285 x2275.Dirty.length c2286]⟩ 28 (0, 0))], [(b2306, .cells ⟨[.int .i64 x2288.Word, .int .i64 x2288.Value]⟩ 46 (0, 0))], [(b2313, .cells ⟨[.slice none 0 0, .slice none 0 0, .slice none 0 0]⟩ 28 (0, 0))], sg2347, sg2325, sg2330, [(b2339, .cells ⟨[.slice p2318 (r2316.Memory.set x2288.Word.toNat x2288.Value).length c2319, .slice p2323 r2316.Copy.length c2324, .slice p2328 r2316.Dirty.length c2329]⟩ 28 (0, 0))]] := by rw [@List.length_set _ r2316.Memory x2288.Word.toNat x2288.Value]; exact M2346
  refine W_nil ?_
  refine N_then ?_
  refine G_seq ?_
  refine G_region ?_
  refine W_run 1 [(3, .pointer (some ⟨b2306, 0, none⟩)), (4, .pointer (some ⟨b2313, 0, none⟩)), (5, .pointer (some ⟨b2339, 0, none⟩)), (15, .pointer (some ⟨b2339, 2, none⟩))] w2345 (by kernel_rfl) ?_
  refine W_val (.slice p2328 r2316.Dirty.length c2329) w2345 (by kernel_rfl) (E_load (e := 28) (fr := (0, 0)) _ _ false 1 b2339 2 [.slice p2318 (r2316.Memory.set x2288.Word.toNat x2288.Value).length c2319, .slice p2323 r2316.Copy.length c2324, .slice p2328 r2316.Dirty.length c2329] (.slice p2328 r2316.Dirty.length c2329) rfl (by kernel_rfl) (by kernel_rfl) (by kernel_rfl) (M2349.blk 6 (b := b2339) (o := .cells ⟨[.slice p2318 (r2316.Memory.set x2288.Word.toNat x2288.Value).length c2319, .slice p2323 r2316.Copy.length c2324, .slice p2328 r2316.Dirty.length c2329]⟩ 28 (0, 0)) (by kernel_rfl))) ?_
  refine W_run 1 [(4, .pointer (some ⟨b2313, 0, none⟩)), (5, .pointer (some ⟨b2339, 0, none⟩)), (16, .slice p2328 r2316.Dirty.length c2329), (17, .pointer (some ⟨b2306, 0, none⟩))] w2345 (by kernel_rfl) ?_
  refine W_val (.int .i64 x2288.Word) w2345 (by kernel_rfl) (E_load (e := 46) (fr := (0, 0)) _ _ false 1 b2306 0 [.int .i64 x2288.Word, .int .i64 x2288.Value] (.int .i64 x2288.Word) rfl (by kernel_rfl) (by kernel_rfl) (by kernel_rfl) (M2349.blk 1 (b := b2306) (o := .cells ⟨[.int .i64 x2288.Word, .int .i64 x2288.Value]⟩ 46 (0, 0)) (by kernel_rfl))) ?_
  obtain ⟨y2350, hy2350, hm⟩ := gx_bind hm
  refine W_val (elemP p2328 (x2288.Word.toNat * 1)) w2345 (by kernel_rfl) (E_index (E := encB) _ _ _ r2316.Dirty.length c2329 .i64 x2288.Word 1 (y := y2350) rfl (by kernel_rfl) (by kernel_rfl) (by kernel_rfl) (ho2331.rd M2349 5 (by kernel_rfl)) rfl hy2350) ?_
  refine W_storeE (E := encB) _ _ _ false 1 x2288.Word.toNat 0 (x2288.Word.toNat * 1) y2350 true (.bool true) 5 M2349 ho2331 (by kernel_rfl) (by kernel_rfl) rfl (by kernel_rfl) (by kernel_rfl) (by kernel_rfl) (by kernel_rfl) (by kernel_rfl) (by kernel_rfl) (by kernel_rfl) (gxIdx_spec hy2350).2 rfl ?_
  intro w2351 sg2353 ho2354 M2352
  refine W_conv 16 (.slice p2328 r2316.Dirty.length c2329) (.slice p2328 (r2316.Dirty.set x2288.Word.toNat true).length c2329) (by kernel_rfl) (by rw [@List.length_set _ r2316.Dirty x2288.Word.toNat true]) ?_
  have M2355 : Mem [] w w2351 [[(b2302, .cells ⟨[.slice p2277 x2275.Memory.length c2278, .slice p2281 x2275.Copy.length c2282, .slice p2285 x2275.Dirty.length c2286]⟩ 28 (0, 0))], [(b2306, .cells ⟨[.int .i64 x2288.Word, .int .i64 x2288.Value]⟩ 46 (0, 0))], [(b2313, .cells ⟨[.slice none 0 0, .slice none 0 0, .slice none 0 0]⟩ 28 (0, 0))], sg2347, sg2325, sg2353, [(b2339, .cells ⟨[.slice p2318 (r2316.Memory.set x2288.Word.toNat x2288.Value).length c2319, .slice p2323 r2316.Copy.length c2324, .slice p2328 (r2316.Dirty.set x2288.Word.toNat true).length c2329]⟩ 28 (0, 0))]] := by rw [@List.length_set _ r2316.Dirty x2288.Word.toNat true]; exact M2352
  refine W_nil ?_
  refine N_then ?_
  refine G_seq ?_
  refine G_region ?_
  refine W_val (.agg #[.slice p2318 (r2316.Memory.set x2288.Word.toNat x2288.Value).length c2319, .slice p2323 r2316.Copy.length c2324, .slice p2328 (r2316.Dirty.set x2288.Word.toNat true).length c2329]) w2351 (by kernel_rfl) (E_load (e := 28) (fr := (0, 0)) _ _ true 3 b2339 0 [.slice p2318 (r2316.Memory.set x2288.Word.toNat x2288.Value).length c2319, .slice p2323 r2316.Copy.length c2324, .slice p2328 (r2316.Dirty.set x2288.Word.toNat true).length c2329] (.agg #[.slice p2318 (r2316.Memory.set x2288.Word.toNat x2288.Value).length c2319, .slice p2323 r2316.Copy.length c2324, .slice p2328 (r2316.Dirty.set x2288.Word.toNat true).length c2329]) rfl (by kernel_rfl) (by kernel_rfl) (by kernel_rfl) (M2355.blk 6 (b := b2339) (o := .cells ⟨[.slice p2318 (r2316.Memory.set x2288.Word.toNat x2288.Value).length c2319, .slice p2323 r2316.Copy.length c2324, .slice p2328 (r2316.Dirty.set x2288.Word.toNat true).length c2329]⟩ 28 (0, 0)) (by kernel_rfl))) ?_
  refine W_store _ _ _ true 3 b2313 0 [.slice none 0 0, .slice none 0 0, .slice none 0 0] 28 (.agg #[.slice p2318 (r2316.Memory.set x2288.Word.toNat x2288.Value).length c2319, .slice p2323 r2316.Copy.length c2324, .slice p2328 (r2316.Dirty.set x2288.Word.toNat true).length c2329]) 2 [.slice p2318 (r2316.Memory.set x2288.Word.toNat x2288.Value).length c2319, .slice p2323 r2316.Copy.length c2324, .slice p2328 (r2316.Dirty.set x2288.Word.toNat true).length c2329] M2355 (by kernel_rfl) rfl (by kernel_rfl) (by kernel_rfl) (by kernel_rfl) (by kernel_rfl) (by kernel_rfl) (by kernel_rfl) (by kernel_rfl) (by kernel_rfl) ?_
  intro w2356 M2357
  refine W_nil ?_
  refine N_then ?_
  refine G_ret ?_
  obtain rfl := Option.some.inj hm
  refine N_ret [.agg #[.slice p2318 (r2316.Memory.set x2288.Word.toNat x2288.Value).length c2319, .slice p2323 r2316.Copy.length c2324, .slice p2328 (r2316.Dirty.set x2288.Word.toNat true).length c2329]] (RVs_cons (RV_cell (g := true) (k := 3) (b := b2313) (off := 0) (cs := [.slice p2318 (r2316.Memory.set x2288.Word.toNat x2288.Value).length c2319, .slice p2323 r2316.Copy.length c2324, .slice p2328 (r2316.Dirty.set x2288.Word.toNat true).length c2329]) (e := 28) (fr := (0, 0)) (v := .agg #[.slice p2318 (r2316.Memory.set x2288.Word.toNat x2288.Value).length c2319, .slice p2323 r2316.Copy.length c2324, .slice p2328 (r2316.Dirty.set x2288.Word.toNat true).length c2329]) (M2357.blk 2 (b := b2313) (o := .cells ⟨[.slice p2318 (r2316.Memory.set x2288.Word.toNat x2288.Value).length c2319, .slice p2323 r2316.Copy.length c2324, .slice p2328 (r2316.Dirty.set x2288.Word.toNat true).length c2329]⟩ 28 (0, 0)) (by kernel_rfl)) (by kernel_rfl) (by kernel_rfl) (by kernel_rfl)) RVs_nil) ?_
  exact ⟨p2318, c2319, sg2347, p2323, c2324, sg2325, p2328, c2329, sg2353, rfl, ho2348, ho2326, ho2354, M2357.pick [3, 4, 5] (by kernel_rfl)⟩
theorem c_s_l1Cur_copying (w : World) (x45 : l1Cur) (p49 : Option Addr) (c50 : Nat) (h51 : rdS encU8 w x45.code p49 c50) (b47 : Nat) (hA : ∀ q ∈ List.flatten [[(b47, .cells ⟨[.slice p49 x45.code.length c50, .int .i64 x45.at_, .int .u64 x45.seed]⟩ 99 (0, 0))]], w.heap[q.1]? = some q.2) (hN : (idsOf [[(b47, .cells ⟨[.slice p49 x45.code.length c50, .int .i64 x45.at_, .int .u64 x45.seed]⟩ 99 (0, 0))]]).Nodup) (hap52 : apartX (idsOf [[(b47, .cells ⟨[.slice p49 x45.code.length c50, .int .i64 x45.at_, .int .u64 x45.seed]⟩ 99 (0, 0))]]) x45.code p49) {r : Copying × Int × Int} (hm : M.s_l1Cur_copying x45 = some r) :
    Calls Try.prog 84 #[.pointer (some ⟨b47, 0, none⟩)] w fun e w' => ∃ (p54 : Option Addr) (c55 : Nat) (sg56 : Seg), ∃ (p58 : Option Addr) (c59 : Nat) (sg60 : Seg), ∃ (p62 : Option Addr) (c63 : Nat) (sg64 : Seg), e = .returned (.agg #[.slice p54 r.1.Memory.length c55, .slice p58 r.1.Copy.length c59, .slice p62 r.1.Dirty.length c63]) ∧ ownS encI r.1.Memory p54 c55 sg56 ∧ ownS encI r.1.Copy p58 c59 sg60 ∧ ownS encB r.1.Dirty p62 c63 sg64 ∧ Mem (idsOf [[(b47, .cells ⟨[.slice p49 x45.code.length c50, .int .i64 x45.at_, .int .u64 x45.seed]⟩ 99 (0, 0))]]) w w' [[(b47, .cells ⟨[.slice p49 x45.code.length c50, .int .i64 r.2.1, .int .u64 r.2.2]⟩ 99 (0, 0))], sg56, sg60, sg64] := by
  unfold M.s_l1Cur_copying at hm
  refine C_enter Try.func84 rfl (by kernel_rfl) ?_
  have M0 := Mem.start' w [[(b47, .cells ⟨[.slice p49 x45.code.length c50, .int .i64 x45.at_, .int .u64 x45.seed]⟩ 99 (0, 0))]] hA hN
  refine G_seq ?_
  refine G_region ?_
  refine W_new (fun b => .pointer (some ⟨b, 0, none⟩)) (.cells ⟨[.slice none 0 0, .slice none 0 0, .slice none 0 0]⟩ 28 (0, 0)) M0 rfl (by kernel_rfl) (by kernel_rfl) ?_
  intro b69 w70 M71
  refine W_nil ?_
  refine N_then ?_
  refine G_seq ?_
  refine G_region ?_
  refine W_run 1 [(0, .pointer (some ⟨b47, 0, none⟩)), (2, .pointer (some ⟨b69, 0, none⟩)), (8, .pointer (some ⟨b47, 0, none⟩))] w70 (by kernel_rfl) ?_
  obtain ⟨r1174, hr1174, hm⟩ := gx_bind hm
  refine W_call 91 #[.pointer (some ⟨b47, 0, none⟩)] (by kernel_rfl) (by kernel_rfl) ?_
  refine (c_s_l1Cur_memory w70 x45 p49 c50 (h51.memX hap52 M71) b47 (M71.hasPick [0]) (M71.nodupPick [0] (by kernel_rfl)) (apartX.old h51 hap52 M71 [0]) hr1174).mono ?_
  rintro e_ w1180 ⟨p1176, c1177, sg1178, rfl, ho1179, K1181⟩
  have M1182 := M71.callF' [0] [1] (by kernel_rfl) K1181
  refine ⟨_, rfl, ?_⟩
  obtain ⟨r1455, hr1455, hm⟩ := gx_bind hm
  refine W_call 18 #[.slice p1176 r1174.1.length c1177] (by kernel_rfl) (by kernel_rfl) ?_
  refine (c_s_StartCopy w1180 r1174.1 p1176 c1177 (ho1179.rd M1182 2 (by kernel_rfl)) hr1455).mono ?_
  rintro e_ w1471 ⟨p1457, c1458, sg1459, p1462, c1463, sg1464, p1467, c1468, sg1469, rfl, ho1460, ho1465, ho1470, K1472⟩
  have M1473 := M1182.call K1472
  refine ⟨_, rfl, ?_⟩
  refine W_run 3 [(0, .pointer (some ⟨b47, 0, none⟩)), (2, .pointer (some ⟨b69, 0, none⟩)), (11, .agg #[.slice p1457 r1455.1.Memory.length c1458, .slice p1462 r1455.1.Copy.length c1463, .slice p1467 r1455.1.Dirty.length c1468]), (12, .bool r1455.2)] w1471 (by kernel_rfl) ?_
  refine W_new (fun b => .pointer (some ⟨b, 0, none⟩)) (.cells ⟨[.slice none 0 0, .slice none 0 0, .slice none 0 0]⟩ 28 (0, 0)) M1473 rfl (by kernel_rfl) (by kernel_rfl) ?_
  intro b1478 w1479 M1480
  refine W_store _ _ _ true 3 b1478 0 [.slice none 0 0, .slice none 0 0, .slice none 0 0] 28 (.agg #[.slice p1457 r1455.1.Memory.length c1458, .slice p1462 r1455.1.Copy.length c1463, .slice p1467 r1455.1.Dirty.length c1468]) 6 [.slice p1457 r1455.1.Memory.length c1458, .slice p1462 r1455.1.Copy.length c1463, .slice p1467 r1455.1.Dirty.length c1468] M1480 (by kernel_rfl) rfl (by kernel_rfl) (by kernel_rfl) (by kernel_rfl) (by kernel_rfl) (by kernel_rfl) (by kernel_rfl) (by kernel_rfl) (by kernel_rfl) ?_
  intro w1481 M1482
  refine W_run 1 [(0, .pointer (some ⟨b47, 0, none⟩)), (2, .pointer (some ⟨b69, 0, none⟩)), (3, .pointer (some ⟨b1478, 0, none⟩))] w1481 (by kernel_rfl) ?_
  refine W_nil ?_
  refine N_then ?_
  refine G_seq ?_
  refine G_seq ?_
  refine G_region ?_
  refine W_run 1 [(0, .pointer (some ⟨b47, 0, none⟩)), (2, .pointer (some ⟨b69, 0, none⟩)), (3, .pointer (some ⟨b1478, 0, none⟩)), (13, .pointer (some ⟨b47, 0, none⟩))] w1481 (by kernel_rfl) ?_
  obtain ⟨r1483, hr1483, hm⟩ := gx_bind hm
  refine W_call 88 #[.pointer (some ⟨b47, 0, none⟩), .int .i64 6] (by kernel_rfl) (by kernel_rfl) ?_
  refine (c_s_l1Cur_pick w1481 (⟨x45.code, r1174.2.1, r1174.2.2⟩ : l1Cur) p49 c50 (h51.memX hap52 M1482) b47 6 (M1482.hasPick [1]) (M1482.nodupPick [1] (by kernel_rfl)) (apartX.old h51 hap52 M1482 [1]) hr1483).mono ?_
  rintro e_ w1484 ⟨rfl, K1485⟩
  have M1486 := M1482.callF' [1] [0, 2, 3, 4, 5, 6] (by kernel_rfl) K1485
  refine ⟨_, rfl, ?_⟩
  refine W_run 1 [(0, .pointer (some ⟨b47, 0, none⟩)), (2, .pointer (some ⟨b69, 0, none⟩)), (3, .pointer (some ⟨b1478, 0, none⟩)), (5, .int .i64 r1483.1)] w1484 (by kernel_rfl) ?_
  refine W_nil ?_
  refine N_then ?_
  obtain ⟨out2917, hw2918, hmo2919⟩ := gx_bind hm
  refine G_meet (fun a w' => ∃ (p2936 : Option Addr), ∃ (c2937 : Nat), ∃ (sg2938 : Seg), ∃ (p2941 : Option Addr), ∃ (c2942 : Nat), ∃ (sg2943 : Seg), ∃ (p2946 : Option Addr), ∃ (c2947 : Nat), ∃ (sg2948 : Seg), ownS encI out2917.2.2.1 p2936 c2937 sg2938 ∧ ownS encI out2917.2.2.2.1 p2941 c2942 sg2943 ∧ ownS encB out2917.2.2.2.2 p2946 c2947 sg2948 ∧ Mem (idsOf [[(b47, .cells ⟨[.slice p49 x45.code.length c50, .int .i64 x45.at_, .int .u64 x45.seed]⟩ 99 (0, 0))]]) w w' [[(b69, .cells ⟨[.slice none 0 0, .slice none 0 0, .slice none 0 0]⟩ 28 (0, 0))], [(b1478, .cells ⟨[.slice p2936 out2917.2.2.1.length c2937, .slice p2941 out2917.2.2.2.1.length c2942, .slice p2946 out2917.2.2.2.2.length c2947]⟩ 28 (0, 0))], [(b47, .cells ⟨[.slice p49 x45.code.length c50, .int .i64 out2917.1, .int .u64 out2917.2.1]⟩ 99 (0, 0))], sg2938, sg2943, sg2948] ∧ Sat Try.f84.ntmps [(0, .pointer (some ⟨b47, 0, none⟩)), (2, .pointer (some ⟨b69, 0, none⟩)), (3, .pointer (some ⟨b1478, 0, none⟩))] a) ?_ ?_
  · refine G_block ?_
    refine G_while (σ := Int × Int × Int × List Int × List Int × List Bool) (ρ := Int × Int × List Int × List Int × List Bool) (fun s2910 a w' => ∃ (p2920 : Option Addr), ∃ (c2921 : Nat), ∃ (sg2922 : Seg), ∃ (p2925 : Option Addr), ∃ (c2926 : Nat), ∃ (sg2927 : Seg), ∃ (p2930 : Option Addr), ∃ (c2931 : Nat), ∃ (sg2932 : Seg), ownS encI s2910.2.2.2.1 p2920 c2921 sg2922 ∧ ownS encI s2910.2.2.2.2.1 p2925 c2926 sg2927 ∧ ownS encB s2910.2.2.2.2.2 p2930 c2931 sg2932 ∧ Mem (idsOf [[(b47, .cells ⟨[.slice p49 x45.code.length c50, .int .i64 x45.at_, .int .u64 x45.seed]⟩ 99 (0, 0))]]) w w' [[(b69, .cells ⟨[.slice none 0 0, .slice none 0 0, .slice none 0 0]⟩ 28 (0, 0))], [(b1478, .cells ⟨[.slice p2920 s2910.2.2.2.1.length c2921, .slice p2925 s2910.2.2.2.2.1.length c2926, .slice p2930 s2910.2.2.2.2.2.length c2931]⟩ 28 (0, 0))], [(b47, .cells ⟨[.slice p49 x45.code.length c50, .int .i64 s2910.2.1, .int .u64 s2910.2.2.1]⟩ 99 (0, 0))], sg2922, sg2927, sg2932] ∧ Sat Try.f84.ntmps [(0, .pointer (some ⟨b47, 0, none⟩)), (2, .pointer (some ⟨b69, 0, none⟩)), (3, .pointer (some ⟨b1478, 0, none⟩)), (5, .int .i64 s2910.1)] a) hw2918 (fun a ha => ⟨p1457, c1458, sg1459, p1462, c1463, sg1464, p1467, c1468, sg1469, ho1460, ho1465, ho1470, M1486.pick [0, 5, 6, 2, 3, 4] (by kernel_rfl), ha.sub (by kernel_rfl)⟩) ?_
    clear hm
    intro s2910 x2911 hm hout2912 a2913 w2914 ⟨p2920, c2921, sg2922, p2925, c2926, sg2927, p2930, c2931, sg2932, ho2923, ho2928, ho2933, M2915, hS2916⟩
    refine G_use hS2916 ?_
    refine G_seq ?_
    refine G_seq ?_
    obtain ⟨o2952, ho2953, hm2954⟩ := gx_bind hm
    refine G_meet (fun a w' => Mem (idsOf [[(b47, .cells ⟨[.slice p49 x45.code.length c50, .int .i64 x45.at_, .int .u64 x45.seed]⟩ 99 (0, 0))]]) w w' [[(b69, .cells ⟨[.slice none 0 0, .slice none 0 0, .slice none 0 0]⟩ 28 (0, 0))], [(b1478, .cells ⟨[.slice p2920 s2910.2.2.2.1.length c2921, .slice p2925 s2910.2.2.2.2.1.length c2926, .slice p2930 s2910.2.2.2.2.2.length c2931]⟩ 28 (0, 0))], [(b47, .cells ⟨[.slice p49 x45.code.length c50, .int .i64 s2910.2.1, .int .u64 s2910.2.2.1]⟩ 99 (0, 0))], sg2922, sg2927, sg2932] ∧ Sat Try.f84.ntmps [(0, .pointer (some ⟨b47, 0, none⟩)), (2, .pointer (some ⟨b69, 0, none⟩)), (3, .pointer (some ⟨b1478, 0, none⟩)), (5, .int .i64 s2910.1), (22, .bool o2952)] a) ?_ ?_
    · have hm := ho2953
      refine G_region ?_
      refine W_run 3 [(0, .pointer (some ⟨b47, 0, none⟩)), (2, .pointer (some ⟨b69, 0, none⟩)), (3, .pointer (some ⟨b1478, 0, none⟩)), (5, .int .i64 s2910.1), (17, .bool (decide (s2910.1 > 0)))] w2914 (by kernel_rfl) ?_
      rcases gx_bif hm with ⟨hc2955, hm⟩ | ⟨hc2955, hm⟩
      · refine W_known 17 true (by kernel_rfl) hc2955 ?_
        refine W_run 1 [(0, .pointer (some ⟨b47, 0, none⟩)), (2, .pointer (some ⟨b69, 0, none⟩)), (3, .pointer (some ⟨b1478, 0, none⟩)), (5, .int .i64 s2910.1), (17, .bool true), (18, .pointer (some ⟨b1478, 0, none⟩))] w2914 (by kernel_rfl) ?_
        refine W_val (.slice p2920 s2910.2.2.2.1.length c2921) w2914 (by kernel_rfl) (E_load (e := 28) (fr := (0, 0)) _ _ false 1 b1478 0 [.slice p2920 s2910.2.2.2.1.length c2921, .slice p2925 s2910.2.2.2.2.1.length c2926, .slice p2930 s2910.2.2.2.2.2.length c2931] (.slice p2920 s2910.2.2.2.1.length c2921) rfl (by kernel_rfl) (by kernel_rfl) (by kernel_rfl) (M2915.blk 1 (b := b1478) (o := .cells ⟨[.slice p2920 s2910.2.2.2.1.length c2921, .slice p2925 s2910.2.2.2.2.1.length c2926, .slice p2930 s2910.2.2.2.2.2.length c2931]⟩ 28 (0, 0)) (by kernel_rfl))) ?_
        refine W_run 3 [(0, .pointer (some ⟨b47, 0, none⟩)), (2, .pointer (some ⟨b69, 0, none⟩)), (3, .pointer (some ⟨b1478, 0, none⟩)), (5, .int .i64 s2910.1), (22, .bool (decide ((s2910.2.2.2.1.length : Int) > 0)))] w2914 (by kernel_rfl) ?_
        refine W_nil ?_
        obtain rfl := Option.some.inj hm
        exact N_meet fun a ha => ⟨M2915.pick [0, 1, 2, 3, 4, 5] (by kernel_rfl), ha.sub (by kernel_rfl)⟩
      · refine W_known 17 false (by kernel_rfl) hc2955 ?_
        refine W_run 5 [(0, .pointer (some ⟨b47, 0, none⟩)), (2, .pointer (some ⟨b69, 0, none⟩)), (3, .pointer (some ⟨b1478, 0, none⟩)), (5, .int .i64 s2910.1), (22, .bool false)] w2914 (by kernel_rfl) ?_
        refine W_nil ?_
        obtain rfl := Option.some.inj hm
        exact N_meet fun a ha => ⟨M2915.pick [0, 1, 2, 3, 4, 5] (by kernel_rfl), ha.sub (by kernel_rfl)⟩
    · intro a2958 w2956 ⟨M2957, hS2959⟩
      refine N_use hS2959 ?_
      have hm := hm2954
      refine N_then ?_
      rcases gx_bif hm with ⟨hc2960, hm⟩ | ⟨hc2960, hm⟩
      · refine G_cond_t (b := o2952) hc2960 (by kernel_rfl) ?_
        refine G_skip ?_
        refine N_then ?_
        refine G_seq ?_
        refine G_block ?_
        refine G_seq ?_
        refine G_region ?_
        refine W_run 1 [(0, .pointer (some ⟨b47, 0, none⟩)), (2, .pointer (some ⟨b69, 0, none⟩)), (3, .pointer (some ⟨b1478, 0, none⟩)), (5, .int .i64 s2910.1), (25, .pointer (some ⟨b47, 0, none⟩))] w2956 (by kernel_rfl) ?_
        obtain ⟨r2961, hr2961, hm⟩ := gx_bind hm
        refine W_call 102 #[.pointer (some ⟨b47, 0, none⟩), .int .i64 2] (by kernel_rfl) (by kernel_rfl) ?_
        refine (c_s_l1Cur_one w2956 (⟨x45.code, s2910.2.1, s2910.2.2.1⟩ : l1Cur) p49 c50 (h51.memX hap52 M2957) b47 2 (M2957.hasPick [2]) (M2957.nodupPick [2] (by kernel_rfl)) (apartX.old h51 hap52 M2957 [2]) hr2961).mono ?_
        rintro e_ w2962 ⟨rfl, K2963⟩
        have M2964 := M2957.callF' [2] [0, 1, 3, 4, 5] (by kernel_rfl) K2963
        refine ⟨_, rfl, ?_⟩
        refine W_nil ?_
        refine N_then ?_
        obtain ⟨o3103, ho3104, hm3105⟩ := gx_bind hm
        refine G_meet (fun a w' => ∃ (p3106 : Option Addr), ∃ (c3107 : Nat), ∃ (sg3108 : Seg), ∃ (p3111 : Option Addr), ∃ (c3112 : Nat), ∃ (sg3113 : Seg), ∃ (p3116 : Option Addr), ∃ (c3117 : Nat), ∃ (sg3118 : Seg), ownS encI o3103.2.2.1 p3106 c3107 sg3108 ∧ ownS encI o3103.2.2.2.1 p3111 c3112 sg3113 ∧ ownS encB o3103.2.2.2.2 p3116 c3117 sg3118 ∧ Mem (idsOf [[(b47, .cells ⟨[.slice p49 x45.code.length c50, .int .i64 x45.at_, .int .u64 x45.seed]⟩ 99 (0, 0))]]) w w' [[(b69, .cells ⟨[.slice none 0 0, .slice none 0 0, .slice none 0 0]⟩ 28 (0, 0))], [(b1478, .cells ⟨[.slice p3106 o3103.2.2.1.length c3107, .slice p3111 o3103.2.2.2.1.length c3112, .slice p3116 o3103.2.2.2.2.length c3117]⟩ 28 (0, 0))], [(b47, .cells ⟨[.slice p49 x45.code.length c50, .int .i64 o3103.1, .int .u64 o3103.2.1]⟩ 99 (0, 0))], sg3108, sg3113, sg3118] ∧ Sat Try.f84.ntmps [(0, .pointer (some ⟨b47, 0, none⟩)), (2, .pointer (some ⟨b69, 0, none⟩)), (3, .pointer (some ⟨b1478, 0, none⟩)), (5, .int .i64 s2910.1)] a) ?_ ?_
        · have hm := ho3104
          rcases gx_bif hm with ⟨hc3121, hm⟩ | ⟨hc3121, hm⟩
          · refine G_cond_t (b := r2961.1) hc3121 (by kernel_rfl) ?_
            obtain ⟨r3124, hr3124, hm⟩ := gx_bind hm
            obtain ⟨r3125, hr3125, hm⟩ := gx_bind hm
            have M3141 : Mem (idsOf [[(b47, .cells ⟨[.slice p49 x45.code.length c50, .int .i64 x45.at_, .int .u64 x45.seed]⟩ 99 (0, 0))]]) w w2962 ([[(b69, .cells ⟨[.slice none 0 0, .slice none 0 0, .slice none 0 0]⟩ 28 (0, 0))], sg2922, sg2927, sg2932] ++ (List.range 8).map (fun i => ([[], [], [(b47, .cells ⟨[.slice p49 x45.code.length c50, .int .i64 r2961.2.1, .int .u64 r2961.2.2]⟩ 99 (0, 0))], [], [], [], [], [(b1478, .cells ⟨[.slice p2920 s2910.2.2.2.1.length c2921, .slice p2925 s2910.2.2.2.2.1.length c2926, .slice p2930 s2910.2.2.2.2.2.length c2931]⟩ 28 (0, 0))]] : List Seg).getD i [])) := M2964.pick [0, 2, 3, 4, 300000, 300001, 5, 300003, 300004, 300005, 300006, 1] (by kernel_rfl)
            refine G_sub [(0, .pointer (some ⟨b47, 0, none⟩)), (2, .pointer (some ⟨b69, 0, none⟩)), (3, .pointer (some ⟨b1478, 0, none⟩)), (5, .int .i64 s2910.1), (25, .pointer (some ⟨b47, 0, none⟩)), (26, .bool r2961.1)] (by kernel_rfl) ?_
            refine G_dagL 8 [[], [], [1], [0], [], [4], [4], [5]] [[], [], [], [], [], [], [], []] [[], [], [], [], [], [], [], []] [[], [], [], [2], [3], [3], [3], [3]] [[], [], [], [], [3], [3], [], [3]] [[7], [], [], [], [], [], [], []] (fun i => ([[], [], [(b47, .cells ⟨[.slice p49 x45.code.length c50, .int .i64 r2961.2.1, .int .u64 r2961.2.2]⟩ 99 (0, 0))], [], [], [], [], [(b1478, .cells ⟨[.slice p2920 s2910.2.2.2.1.length c2921, .slice p2925 s2910.2.2.2.2.1.length c2926, .slice p2930 s2910.2.2.2.2.2.length c2931]⟩ 28 (0, 0))]] : List Seg).getD i []) (fun i => ([fun f v s => v = (.agg #[.slice p2920 s2910.2.2.2.1.length c2921, .slice p2925 s2910.2.2.2.2.1.length c2926, .slice p2930 s2910.2.2.2.2.2.length c2931] : Value) ∧ s = [], fun f v s => v = (.pointer (some ⟨b47, 0, none⟩) : Value) ∧ s = [], fun f v s => v = (.int .i64 r3124.1 : Value) ∧ s = [(b47, .cells ⟨[.slice p49 x45.code.length c50, .int .i64 r3124.2.1, .int .u64 r3124.2.2]⟩ 99 (0, 0))], fun f v s => ∃ (p3127 : Option Addr) (c3128 : Nat) (sg3129 : Seg), ∃ (p3132 : Option Addr) (c3133 : Nat) (sg3134 : Seg), ∃ (p3137 : Option Addr) (c3138 : Nat) (sg3139 : Seg), v = (.tuple #[.agg #[.slice p3127 r3125.1.Memory.length c3128, .slice p3132 r3125.1.Copy.length c3133, .slice p3137 r3125.1.Dirty.length c3138], .int .i64 r3125.2] : Value) ∧ s = (sg3129 ++ (sg3134 ++ sg3139)) ∧ ownS encI r3125.1.Memory p3127 c3128 sg3129 ∧ ownS encI r3125.1.Copy p3132 c3133 sg3134 ∧ ownS encB r3125.1.Dirty p3137 c3138 sg3139, fun f v s => v = (.tuple #[.agg #[(atPath (f 3) [0, 0]), (atPath (f 3) [0, 1]), (atPath (f 3) [0, 2])], .int .i64 r3125.2] : Value) ∧ s = [], fun f v s => v = (.agg #[(atPath (f 3) [0, 0]), (atPath (f 3) [0, 1]), (atPath (f 3) [0, 2])] : Value) ∧ s = [], fun f v s => v = (.int .i64 r3125.2 : Value) ∧ s = [], fun f v s => v = undef ∧ s = [(b1478, .cells ⟨[(atPath (f 3) [0, 0]), (atPath (f 3) [0, 1]), (atPath (f 3) [0, 2])]⟩ 28 (0, 0))]] : List ((Nat → Value) → Value → Seg → Prop)).getD i (fun _ _ _ => False)) (fun j f v => ∃ s, (fun i => ([fun f v s => v = (.agg #[.slice p2920 s2910.2.2.2.1.length c2921, .slice p2925 s2910.2.2.2.2.1.length c2926, .slice p2930 s2910.2.2.2.2.2.length c2931] : Value) ∧ s = [], fun f v s => v = (.pointer (some ⟨b47, 0, none⟩) : Value) ∧ s = [], fun f v s => v = (.int .i64 r3124.1 : Value) ∧ s = [(b47, .cells ⟨[.slice p49 x45.code.length c50, .int .i64 r3124.2.1, .int .u64 r3124.2.2]⟩ 99 (0, 0))], fun f v s => ∃ (p3127 : Option Addr) (c3128 : Nat) (sg3129 : Seg), ∃ (p3132 : Option Addr) (c3133 : Nat) (sg3134 : Seg), ∃ (p3137 : Option Addr) (c3138 : Nat) (sg3139 : Seg), v = (.tuple #[.agg #[.slice p3127 r3125.1.Memory.length c3128, .slice p3132 r3125.1.Copy.length c3133, .slice p3137 r3125.1.Dirty.length c3138], .int .i64 r3125.2] : Value) ∧ s = (sg3129 ++ (sg3134 ++ sg3139)) ∧ ownS encI r3125.1.Memory p3127 c3128 sg3129 ∧ ownS encI r3125.1.Copy p3132 c3133 sg3134 ∧ ownS encB r3125.1.Dirty p3137 c3138 sg3139, fun f v s => v = (.tuple #[.agg #[(atPath (f 3) [0, 0]), (atPath (f 3) [0, 1]), (atPath (f 3) [0, 2])], .int .i64 r3125.2] : Value) ∧ s = [], fun f v s => v = (.agg #[(atPath (f 3) [0, 0]), (atPath (f 3) [0, 1]), (atPath (f 3) [0, 2])] : Value) ∧ s = [], fun f v s => v = (.int .i64 r3125.2 : Value) ∧ s = [], fun f v s => v = undef ∧ s = [(b1478, .cells ⟨[(atPath (f 3) [0, 0]), (atPath (f 3) [0, 1]), (atPath (f 3) [0, 2])]⟩ 28 (0, 0))]] : List ((Nat → Value) → Value → Seg → Prop)).getD i (fun _ _ _ => False)) j f v s) [] [2, 3, 7] [2, 3, 7] (fun _ _ _ s h => ⟨s, h⟩) (by kernel_rfl) (by kernel_rfl) M3141 (by kernel_rfl) (by kernel_rfl) (by kernel_rfl) (by kernel_rfl) (allOb_cons ?_ (allOb_cons ?_ (allOb_cons ?_ (allOb_cons ?_ (allOb_cons ?_ (allOb_cons ?_ (allOb_cons ?_ (allOb_cons ?_ allOb_nil)))))))) ?_
            · intro g3122 f3123
              intro R w3142 M3143
              refine W_val (.agg #[.slice p2920 s2910.2.2.2.1.length c2921, .slice p2925 s2910.2.2.2.2.1.length c2926, .slice p2930 s2910.2.2.2.2.2.length c2931]) w3142 (by kernel_rfl) (E_load (e := 28) (fr := (0, 0)) _ _ true 3 b1478 0 [.slice p2920 s2910.2.2.2.1.length c2921, .slice p2925 s2910.2.2.2.2.1.length c2926, .slice p2930 s2910.2.2.2.2.2.length c2931] (.agg #[.slice p2920 s2910.2.2.2.1.length c2921, .slice p2925 s2910.2.2.2.2.1.length c2926, .slice p2930 s2910.2.2.2.2.2.length c2931]) rfl (by kernel_rfl) (by kernel_rfl) (by kernel_rfl) (M3143.blk 5 (b := b1478) (o := .cells ⟨[.slice p2920 s2910.2.2.2.1.length c2921, .slice p2925 s2910.2.2.2.2.1.length c2926, .slice p2930 s2910.2.2.2.2.2.length c2931]⟩ 28 (0, 0)) (by kernel_rfl))) ?_
              exact W_nil (ob_end (.agg #[.slice p2920 s2910.2.2.2.1.length c2921, .slice p2925 s2910.2.2.2.2.1.length c2926, .slice p2930 s2910.2.2.2.2.2.length c2931]) [] rfl (by kernel_rfl) ⟨by kernel_rfl, rfl⟩ M3143)
            · intro g3122 f3123
              intro R w3146 M3147
              refine W_run 1 [(29, .pointer (some ⟨b47, 0, none⟩))] w3146 (by kernel_rfl) ?_
              exact W_nil (ob_end (.pointer (some ⟨b47, 0, none⟩)) [] rfl (by kernel_rfl) ⟨by kernel_rfl, rfl⟩ M3147)
            · intro g3122 f3123
              intro v1_ hb1_
              obtain ⟨rfl, _⟩ := hb1_
              intro R w3150 M3151
              refine W_call 88 #[.pointer (some ⟨b47, 0, none⟩), .int .i64 6] (by kernel_rfl) (by kernel_rfl) ?_
              refine (c_s_l1Cur_pick w3150 (⟨x45.code, r2961.2.1, r2961.2.2⟩ : l1Cur) p49 c50 (h51.memX hap52 M3151) b47 6 (M3151.hasPick [4]) (M3151.nodupPick [4] (by kernel_rfl)) (apartX.old h51 hap52 M3151 [4]) hr3124).mono ?_
              rintro e_ w3152 ⟨rfl, K3154⟩
              refine ⟨_, rfl, ?_⟩
              exact W_nil (ob_end (.int .i64 r3124.1) [(b47, .cells ⟨[.slice p49 x45.code.length c50, .int .i64 r3124.2.1, .int .u64 r3124.2.2]⟩ 99 (0, 0))] rfl (by kernel_rfl) ⟨rfl, rfl⟩ (Mem.callMidF M3151 K3154))
            · intro g3122 f3123
              intro v2_ hb2_
              obtain ⟨_, rfl, _⟩ := hb2_
              intro v0_ hb0_
              obtain ⟨rfl, _⟩ := hb0_
              intro R w3155 M3156
              refine W_call 67 #[.agg #[.slice p2920 s2910.2.2.2.1.length c2921, .slice p2925 s2910.2.2.2.2.1.length c2926, .slice p2930 s2910.2.2.2.2.2.length c2931], .int .i64 r3124.1] (by kernel_rfl) (by kernel_rfl) ?_
              refine (c_s_l19Round w3155 (⟨s2910.2.2.2.1, s2910.2.2.2.2.1, s2910.2.2.2.2.2⟩ : Copying) p2920 c2921 (ho2923.rd M3156 1 (by kernel_rfl)) p2925 c2926 (ho2928.rd M3156 2 (by kernel_rfl)) p2930 c2931 (ho2933.rd M3156 3 (by kernel_rfl)) r3124.1 hr3125).mono ?_
              rintro e_ w3157 ⟨p3127, c3128, sg3129, p3132, c3133, sg3134, p3137, c3138, sg3139, rfl, ho3130, ho3135, ho3140, K3159⟩
              refine ⟨_, rfl, ?_⟩
              exact W_nil (ob_end (.tuple #[.agg #[.slice p3127 r3125.1.Memory.length c3128, .slice p3132 r3125.1.Copy.length c3133, .slice p3137 r3125.1.Dirty.length c3138], .int .i64 r3125.2]) (sg3129 ++ (sg3134 ++ sg3139)) rfl (by kernel_rfl) ⟨p3127, c3128, sg3129, p3132, c3133, sg3134, p3137, c3138, sg3139, rfl, rfl, ho3130, ho3135, ho3140⟩ (Mem.callMid M3156 (K3159.permF (by simp))))
            · intro g3122 f3123
              intro v3_ hb3_
              obtain ⟨_, p3127, c3128, _, p3132, c3133, _, p3137, c3138, _, rfl, _⟩ := hb3_
              intro R w3160 M3161
              refine W_run 1 [(27, .tuple #[.agg #[.slice p3127 r3125.1.Memory.length c3128, .slice p3132 r3125.1.Copy.length c3133, .slice p3137 r3125.1.Dirty.length c3138], .int .i64 r3125.2])] w3160 (by kernel_rfl) ?_
              exact W_nil (ob_end (.tuple #[.agg #[.slice p3127 r3125.1.Memory.length c3128, .slice p3132 r3125.1.Copy.length c3133, .slice p3137 r3125.1.Dirty.length c3138], .int .i64 r3125.2]) [] rfl (by kernel_rfl) ⟨by kernel_rfl, rfl⟩ M3161)
            · intro g3122 f3123
              intro v3_ hb3_
              obtain ⟨_, p3127, c3128, _, p3132, c3133, _, p3137, c3138, _, rfl, _⟩ := hb3_
              intro v4_ hb4_
              obtain ⟨hv4_, _⟩ := hb4_
              obtain rfl : v4_ = (.tuple #[.agg #[.slice p3127 r3125.1.Memory.length c3128, .slice p3132 r3125.1.Copy.length c3133, .slice p3137 r3125.1.Dirty.length c3138], .int .i64 r3125.2] : Value) := hv4_.trans (by kernel_rfl)
              intro R w3164 M3165
              refine W_run 1 [(32, .agg #[.slice p3127 r3125.1.Memory.length c3128, .slice p3132 r3125.1.Copy.length c3133, .slice p3137 r3125.1.Dirty.length c3138])] w3164 (by kernel_rfl) ?_
              exact W_nil (ob_end (.agg #[.slice p3127 r3125.1.Memory.length c3128, .slice p3132 r3125.1.Copy.length c3133, .slice p3137 r3125.1.Dirty.length c3138]) [] rfl (by kernel_rfl) ⟨by kernel_rfl, rfl⟩ M3165)
            · intro g3122 f3123
              intro v3_ hb3_
              obtain ⟨_, p3127, c3128, _, p3132, c3133, _, p3137, c3138, _, rfl, _⟩ := hb3_
              intro v4_ hb4_
              obtain ⟨hv4_, _⟩ := hb4_
              obtain rfl : v4_ = (.tuple #[.agg #[.slice p3127 r3125.1.Memory.length c3128, .slice p3132 r3125.1.Copy.length c3133, .slice p3137 r3125.1.Dirty.length c3138], .int .i64 r3125.2] : Value) := hv4_.trans (by kernel_rfl)
              intro R w3168 M3169
              refine W_run 1 [(33, .int .i64 r3125.2)] w3168 (by kernel_rfl) ?_
              exact W_nil (ob_end (.int .i64 r3125.2) [] rfl (by kernel_rfl) ⟨by kernel_rfl, rfl⟩ M3169)
            · intro g3122 f3123
              intro v3_ hb3_
              obtain ⟨_, p3127, c3128, _, p3132, c3133, _, p3137, c3138, _, rfl, _⟩ := hb3_
              intro v5_ hb5_
              obtain ⟨hv5_, _⟩ := hb5_
              obtain rfl : v5_ = (.agg #[.slice p3127 r3125.1.Memory.length c3128, .slice p3132 r3125.1.Copy.length c3133, .slice p3137 r3125.1.Dirty.length c3138] : Value) := hv5_.trans (by kernel_rfl)
              intro R w3172 M3173
              refine W_store _ _ _ true 3 b1478 0 [.slice p2920 s2910.2.2.2.1.length c2921, .slice p2925 s2910.2.2.2.2.1.length c2926, .slice p2930 s2910.2.2.2.2.2.length c2931] 28 (.agg #[.slice p3127 r3125.1.Memory.length c3128, .slice p3132 r3125.1.Copy.length c3133, .slice p3137 r3125.1.Dirty.length c3138]) 4 [.slice p3127 r3125.1.Memory.length c3128, .slice p3132 r3125.1.Copy.length c3133, .slice p3137 r3125.1.Dirty.length c3138] M3173 (by kernel_rfl) rfl (by kernel_rfl) (by kernel_rfl) (by kernel_rfl) (by kernel_rfl) (by kernel_rfl) (by kernel_rfl) (by kernel_rfl) (by kernel_rfl) ?_
              intro w3174 M3175
              exact W_nil (ob_none [(b1478, .cells ⟨[.slice p3127 r3125.1.Memory.length c3128, .slice p3132 r3125.1.Copy.length c3133, .slice p3137 r3125.1.Dirty.length c3138]⟩ 28 (0, 0))] rfl ⟨rfl, by kernel_rfl⟩ M3175)
            · intro g3122 f3123
              intro v2_ hb2_
              obtain ⟨rfl, hs2_⟩ := hb2_
              intro v3_ hb3_
              obtain ⟨p3127, c3128, sg3129, p3132, c3133, sg3134, p3137, c3138, sg3139, rfl, hs3_, ho3130, ho3135, ho3140⟩ := hb3_
              intro v7_ hb7_
              obtain ⟨rfl, hs7_⟩ := hb7_
              replace hs7_ := hs7_.trans (show _ = [(b1478, .cells ⟨[.slice p3127 r3125.1.Memory.length c3128, .slice p3132 r3125.1.Copy.length c3133, .slice p3137 r3125.1.Dirty.length c3138]⟩ 28 (0, 0))] by kernel_rfl)
              intro w3176 M3177
              have M3178 : Mem (idsOf [[(b47, .cells ⟨[.slice p49 x45.code.length c50, .int .i64 x45.at_, .int .u64 x45.seed]⟩ 99 (0, 0))]]) w w3176 [[(b69, .cells ⟨[.slice none 0 0, .slice none 0 0, .slice none 0 0]⟩ 28 (0, 0))], sg2922, sg2927, sg2932, (g3122 2), (g3122 3), (g3122 7)] := M3177
              rw [hs2_] at M3178
              rw [hs3_] at M3178
              rw [hs7_] at M3178
              replace M3178 : Mem (idsOf [[(b47, .cells ⟨[.slice p49 x45.code.length c50, .int .i64 x45.at_, .int .u64 x45.seed]⟩ 99 (0, 0))]]) w w3176 [[(b69, .cells ⟨[.slice none 0 0, .slice none 0 0, .slice none 0 0]⟩ 28 (0, 0))], sg2922, sg2927, sg2932, [(b47, .cells ⟨[.slice p49 x45.code.length c50, .int .i64 r3124.2.1, .int .u64 r3124.2.2]⟩ 99 (0, 0))], sg3129, sg3134, sg3139, [(b1478, .cells ⟨[.slice p3127 r3125.1.Memory.length c3128, .slice p3132 r3125.1.Copy.length c3133, .slice p3137 r3125.1.Dirty.length c3138]⟩ 28 (0, 0))]] := M3178.permF (by simp)
              refine W_nil ?_
              obtain rfl := Option.some.inj hm
              exact N_meet fun a ha => ⟨p3127, c3128, sg3129, p3132, c3133, sg3134, p3137, c3138, sg3139, ho3130, ho3135, ho3140, M3178.pick [0, 8, 4, 5, 6, 7] (by kernel_rfl), ha.sub (by kernel_rfl)⟩
          · refine G_cond_f (b := r2961.1) hc3121 (by kernel_rfl) ?_
            refine G_seq ?_
            refine G_region ?_
            refine W_run 2 [(0, .pointer (some ⟨b47, 0, none⟩)), (2, .pointer (some ⟨b69, 0, none⟩)), (3, .pointer (some ⟨b1478, 0, none⟩)), (5, .int .i64 s2910.1), (34, .pointer (some ⟨b47, 0, none⟩)), (35, .pointer (some ⟨b1478, 0, none⟩))] w2962 (by kernel_rfl) ?_
            refine W_val (.slice p2920 s2910.2.2.2.1.length c2921) w2962 (by kernel_rfl) (E_load (e := 28) (fr := (0, 0)) _ _ false 1 b1478 0 [.slice p2920 s2910.2.2.2.1.length c2921, .slice p2925 s2910.2.2.2.2.1.length c2926, .slice p2930 s2910.2.2.2.2.2.length c2931] (.slice p2920 s2910.2.2.2.1.length c2921) rfl (by kernel_rfl) (by kernel_rfl) (by kernel_rfl) (M2964.blk 1 (b := b1478) (o := .cells ⟨[.slice p2920 s2910.2.2.2.1.length c2921, .slice p2925 s2910.2.2.2.2.1.length c2926, .slice p2930 s2910.2.2.2.2.2.length c2931]⟩ 28 (0, 0)) (by kernel_rfl))) ?_
            refine W_run 1 [(0, .pointer (some ⟨b47, 0, none⟩)), (2, .pointer (some ⟨b69, 0, none⟩)), (3, .pointer (some ⟨b1478, 0, none⟩)), (5, .int .i64 s2910.1), (34, .pointer (some ⟨b47, 0, none⟩)), (37, .int .i64 (s2910.2.2.2.1.length : Int))] w2962 (by kernel_rfl) ?_
            obtain ⟨r3179, hr3179, hm⟩ := gx_bind hm
            refine W_call 90 #[.pointer (some ⟨b47, 0, none⟩), .int .i64 (s2910.2.2.2.1.length : Int)] (by kernel_rfl) (by kernel_rfl) ?_
            refine (c_s_l1Cur_storeIn w2962 (⟨x45.code, r2961.2.1, r2961.2.2⟩ : l1Cur) p49 c50 (h51.memX hap52 M2964) b47 (s2910.2.2.2.1.length : Int) (M2964.hasPick [5]) (M2964.nodupPick [5] (by kernel_rfl)) (apartX.old h51 hap52 M2964 [5]) hr3179).mono ?_
            rintro e_ w3180 ⟨rfl, K3181⟩
            have M3182 := M2964.callF' [5] [0, 1, 2, 3, 4] (by kernel_rfl) K3181
            refine ⟨_, rfl, ?_⟩
            refine W_new (fun b => .pointer (some ⟨b, 0, none⟩)) (.cells ⟨[.int .i64 0, .int .i64 0]⟩ 46 (0, 0)) M3182 rfl (by kernel_rfl) (by kernel_rfl) ?_
            intro b3184 w3185 M3186
            refine W_store _ _ _ true 2 b3184 0 [.int .i64 0, .int .i64 0] 46 (.agg #[.int .i64 r3179.1.Word, .int .i64 r3179.1.Value]) 6 [.int .i64 r3179.1.Word, .int .i64 r3179.1.Value] M3186 (by kernel_rfl) rfl (by kernel_rfl) (by kernel_rfl) (by kernel_rfl) (by kernel_rfl) (by kernel_rfl) (by kernel_rfl) (by kernel_rfl) (by kernel_rfl) ?_
            intro w3187 M3188
            refine W_nil ?_
            refine N_then ?_
            refine G_seq ?_
            refine G_region ?_
            refine W_val (.agg #[.slice p2920 s2910.2.2.2.1.length c2921, .slice p2925 s2910.2.2.2.2.1.length c2926, .slice p2930 s2910.2.2.2.2.2.length c2931]) w3187 (by kernel_rfl) (E_load (e := 28) (fr := (0, 0)) _ _ true 3 b1478 0 [.slice p2920 s2910.2.2.2.1.length c2921, .slice p2925 s2910.2.2.2.2.1.length c2926, .slice p2930 s2910.2.2.2.2.2.length c2931] (.agg #[.slice p2920 s2910.2.2.2.1.length c2921, .slice p2925 s2910.2.2.2.2.1.length c2926, .slice p2930 s2910.2.2.2.2.2.length c2931]) rfl (by kernel_rfl) (by kernel_rfl) (by kernel_rfl) (M3188.blk 1 (b := b1478) (o := .cells ⟨[.slice p2920 s2910.2.2.2.1.length c2921, .slice p2925 s2910.2.2.2.2.1.length c2926, .slice p2930 s2910.2.2.2.2.2.length c2931]⟩ 28 (0, 0)) (by kernel_rfl))) ?_
            refine W_val (.agg #[.int .i64 r3179.1.Word, .int .i64 r3179.1.Value]) w3187 (by kernel_rfl) (E_load (e := 46) (fr := (0, 0)) _ _ true 2 b3184 0 [.int .i64 r3179.1.Word, .int .i64 r3179.1.Value] (.agg #[.int .i64 r3179.1.Word, .int .i64 r3179.1.Value]) rfl (by kernel_rfl) (by kernel_rfl) (by kernel_rfl) (M3188.blk 6 (b := b3184) (o := .cells ⟨[.int .i64 r3179.1.Word, .int .i64 r3179.1.Value]⟩ 46 (0, 0)) (by kernel_rfl))) ?_
            obtain ⟨r3189, hr3189, hm⟩ := gx_bind hm
            refine W_call 68 #[.agg #[.slice p2920 s2910.2.2.2.1.length c2921, .slice p2925 s2910.2.2.2.2.1.length c2926, .slice p2930 s2910.2.2.2.2.2.length c2931], .agg #[.int .i64 r3179.1.Word, .int .i64 r3179.1.Value]] (by kernel_rfl) (by kernel_rfl) ?_
            refine (c_s_l19Store w3187 (⟨s2910.2.2.2.1, s2910.2.2.2.2.1, s2910.2.2.2.2.2⟩ : Copying) p2920 c2921 (ho2923.rd M3188 2 (by kernel_rfl)) p2925 c2926 (ho2928.rd M3188 3 (by kernel_rfl)) p2930 c2931 (ho2933.rd M3188 4 (by kernel_rfl)) r3179.1 hr3189).mono ?_
            rintro e_ w3190 ⟨rfl, K3191⟩
            have M3192 := M3188.call0 K3191
            refine ⟨_, rfl, ?_⟩
            refine W_nil ?_
            refine N_then ?_
            obtain ⟨o3215, ho3216, hm3217⟩ := gx_bind hm
            refine G_meet (fun a w' => ∃ (p3218 : Option Addr), ∃ (c3219 : Nat), ∃ (sg3220 : Seg), ∃ (p3223 : Option Addr), ∃ (c3224 : Nat), ∃ (sg3225 : Seg), ∃ (p3228 : Option Addr), ∃ (c3229 : Nat), ∃ (sg3230 : Seg), ownS encI o3215.1 p3218 c3219 sg3220 ∧ ownS encI o3215.2.1 p3223 c3224 sg3225 ∧ ownS encB o3215.2.2 p3228 c3229 sg3230 ∧ Mem (idsOf [[(b47, .cells ⟨[.slice p49 x45.code.length c50, .int .i64 x45.at_, .int .u64 x45.seed]⟩ 99 (0, 0))]]) w w' [[(b69, .cells ⟨[.slice none 0 0, .slice none 0 0, .slice none 0 0]⟩ 28 (0, 0))], [(b1478, .cells ⟨[.slice p3218 o3215.1.length c3219, .slice p3223 o3215.2.1.length c3224, .slice p3228 o3215.2.2.length c3229]⟩ 28 (0, 0))], [(b47, .cells ⟨[.slice p49 x45.code.length c50, .int .i64 r3179.2.1, .int .u64 r3179.2.2]⟩ 99 (0, 0))], sg3220, sg3225, sg3230] ∧ Sat Try.f84.ntmps [(0, .pointer (some ⟨b47, 0, none⟩)), (2, .pointer (some ⟨b69, 0, none⟩)), (3, .pointer (some ⟨b1478, 0, none⟩)), (5, .int .i64 s2910.1)] a) ?_ ?_
            · have hm := ho3216
              rcases gx_bif hm with ⟨hc3233, hm⟩ | ⟨hc3233, hm⟩
              · refine G_cond_t (b := r3189) hc3233 (by kernel_rfl) ?_
                refine G_region ?_
                refine W_val (.agg #[.slice p2920 s2910.2.2.2.1.length c2921, .slice p2925 s2910.2.2.2.2.1.length c2926, .slice p2930 s2910.2.2.2.2.2.length c2931]) w3190 (by kernel_rfl) (E_load (e := 28) (fr := (0, 0)) _ _ true 3 b1478 0 [.slice p2920 s2910.2.2.2.1.length c2921, .slice p2925 s2910.2.2.2.2.1.length c2926, .slice p2930 s2910.2.2.2.2.2.length c2931] (.agg #[.slice p2920 s2910.2.2.2.1.length c2921, .slice p2925 s2910.2.2.2.2.1.length c2926, .slice p2930 s2910.2.2.2.2.2.length c2931]) rfl (by kernel_rfl) (by kernel_rfl) (by kernel_rfl) (M3192.blk 1 (b := b1478) (o := .cells ⟨[.slice p2920 s2910.2.2.2.1.length c2921, .slice p2925 s2910.2.2.2.2.1.length c2926, .slice p2930 s2910.2.2.2.2.2.length c2931]⟩ 28 (0, 0)) (by kernel_rfl))) ?_
                refine W_val (.agg #[.int .i64 r3179.1.Word, .int .i64 r3179.1.Value]) w3190 (by kernel_rfl) (E_load (e := 46) (fr := (0, 0)) _ _ true 2 b3184 0 [.int .i64 r3179.1.Word, .int .i64 r3179.1.Value] (.agg #[.int .i64 r3179.1.Word, .int .i64 r3179.1.Value]) rfl (by kernel_rfl) (by kernel_rfl) (by kernel_rfl) (M3192.blk 6 (b := b3184) (o := .cells ⟨[.int .i64 r3179.1.Word, .int .i64 r3179.1.Value]⟩ 46 (0, 0)) (by kernel_rfl))) ?_
                obtain ⟨r3234, hr3234, hm⟩ := gx_bind hm
                refine W_call 69 #[.agg #[.slice p2920 s2910.2.2.2.1.length c2921, .slice p2925 s2910.2.2.2.2.1.length c2926, .slice p2930 s2910.2.2.2.2.2.length c2931], .agg #[.int .i64 r3179.1.Word, .int .i64 r3179.1.Value]] (by kernel_rfl) (by kernel_rfl) ?_
                refine (c_s_l19Write w3190 (⟨s2910.2.2.2.1, s2910.2.2.2.2.1, s2910.2.2.2.2.2⟩ : Copying) p2920 c2921 (ho2923.rd M3192 2 (by kernel_rfl)) p2925 c2926 (ho2928.rd M3192 3 (by kernel_rfl)) p2930 c2931 (ho2933.rd M3192 4 (by kernel_rfl)) r3179.1 hr3234).mono ?_
                rintro e_ w3250 ⟨p3236, c3237, sg3238, p3241, c3242, sg3243, p3246, c3247, sg3248, rfl, ho3239, ho3244, ho3249, K3251⟩
                have M3252 := M3192.call K3251
                refine ⟨_, rfl, ?_⟩
                refine W_store _ _ _ true 3 b1478 0 [.slice p2920 s2910.2.2.2.1.length c2921, .slice p2925 s2910.2.2.2.2.1.length c2926, .slice p2930 s2910.2.2.2.2.2.length c2931] 28 (.agg #[.slice p3236 r3234.Memory.length c3237, .slice p3241 r3234.Copy.length c3242, .slice p3246 r3234.Dirty.length c3247]) 1 [.slice p3236 r3234.Memory.length c3237, .slice p3241 r3234.Copy.length c3242, .slice p3246 r3234.Dirty.length c3247] M3252 (by kernel_rfl) rfl (by kernel_rfl) (by kernel_rfl) (by kernel_rfl) (by kernel_rfl) (by kernel_rfl) (by kernel_rfl) (by kernel_rfl) (by kernel_rfl) ?_
                intro w3253 M3254
                refine W_nil ?_
                obtain rfl := Option.some.inj hm
                exact N_meet fun a ha => ⟨p3236, c3237, sg3238, p3241, c3242, sg3243, p3246, c3247, sg3248, ho3239, ho3244, ho3249, M3254.pick [0, 1, 5, 7, 8, 9] (by kernel_rfl), ha.sub (by kernel_rfl)⟩
              · refine G_cond_f (b := r3189) hc3233 (by kernel_rfl) ?_
                refine G_skip ?_
                obtain rfl := Option.some.inj hm
                exact N_meet fun a ha => ⟨p2920, c2921, sg2922, p2925, c2926, sg2927, p2930, c2931, sg2932, ho2923, ho2928, ho2933, M3192.pick [0, 1, 5, 2, 3, 4] (by kernel_rfl), ha.sub (by kernel_rfl)⟩
            · intro a3257 w3255 ⟨p3218, c3219, sg3220, p3223, c3224, sg3225, p3228, c3229, sg3230, ho3221, ho3226, ho3231, M3256, hS3258⟩
              refine N_use hS3258 ?_
              have hm := hm3217
              obtain rfl := Option.some.inj hm
              exact N_meet fun a ha => ⟨p3218, c3219, sg3220, p3223, c3224, sg3225, p3228, c3229, sg3230, ho3221, ho3226, ho3231, M3256.pick [0, 1, 2, 3, 4, 5] (by kernel_rfl), ha.sub (by kernel_rfl)⟩
        · intro a3261 w3259 ⟨p3106, c3107, sg3108, p3111, c3112, sg3113, p3116, c3117, sg3118, ho3109, ho3114, ho3119, M3260, hS3262⟩
          refine N_use hS3262 ?_
          have hm := hm3105
          refine N_block ?_
          refine N_then ?_
          refine G_region ?_
          refine W_run 3 [(0, .pointer (some ⟨b47, 0, none⟩)), (2, .pointer (some ⟨b69, 0, none⟩)), (3, .pointer (some ⟨b1478, 0, none⟩)), (5, .int .i64 (w64 (s2910.1 - 1)))] w3259 (by kernel_rfl) ?_
          refine W_nil ?_
          obtain rfl := Option.some.inj hm
          exact N_loop fun a ha => ⟨_, rfl, p3106, c3107, sg3108, p3111, c3112, sg3113, p3116, c3117, sg3118, ho3109, ho3114, ho3119, M3260.pick [0, 1, 2, 3, 4, 5] (by kernel_rfl), ha.sub (by kernel_rfl)⟩
      · refine G_cond_f (b := o2952) hc2960 (by kernel_rfl) ?_
        refine G_exit ?_
        refine N_then_exit ?_
        refine N_then_exit ?_
        refine N_block_eq ?_
        obtain rfl := Option.some.inj hm
        obtain rfl := hout2912 _ rfl
        exact N_meet fun a ha => ⟨p2920, c2921, sg2922, p2925, c2926, sg2927, p2930, c2931, sg2932, ho2923, ho2928, ho2933, M2957.pick [0, 1, 2, 3, 4, 5] (by kernel_rfl), ha.sub (by kernel_rfl)⟩
  · intro a3263 w3264 ⟨p2936, c2937, sg2938, p2941, c2942, sg2943, p2946, c2947, sg2948, ho2939, ho2944, ho2949, M3265, hS3266⟩
    refine N_use hS3266 ?_
    have hm := hmo2919
    refine N_then ?_
    refine G_seq ?_
    refine G_seq ?_
    refine G_region ?_
    refine W_run 1 [(0, .pointer (some ⟨b47, 0, none⟩)), (2, .pointer (some ⟨b69, 0, none⟩)), (3, .pointer (some ⟨b1478, 0, none⟩)), (45, .pointer (some ⟨b47, 0, none⟩))] w3264 (by kernel_rfl) ?_
    obtain ⟨r3267, hr3267, hm⟩ := gx_bind hm
    refine W_call 88 #[.pointer (some ⟨b47, 0, none⟩), .int .i64 24] (by kernel_rfl) (by kernel_rfl) ?_
    refine (c_s_l1Cur_pick w3264 (⟨x45.code, out2917.1, out2917.2.1⟩ : l1Cur) p49 c50 (h51.memX hap52 M3265) b47 24 (M3265.hasPick [2]) (M3265.nodupPick [2] (by kernel_rfl)) (apartX.old h51 hap52 M3265 [2]) hr3267).mono ?_
    rintro e_ w3268 ⟨rfl, K3269⟩
    have M3270 := M3265.callF' [2] [0, 1, 3, 4, 5] (by kernel_rfl) K3269
    refine ⟨_, rfl, ?_⟩
    refine W_nil ?_
    refine N_then ?_
    refine G_block ?_
    refine G_seq ?_
    refine G_region ?_
    refine W_run 2 [(0, .pointer (some ⟨b47, 0, none⟩)), (2, .pointer (some ⟨b69, 0, none⟩)), (3, .pointer (some ⟨b1478, 0, none⟩)), (46, .int .i64 r3267.1), (47, .bool (r3267.1 == 0))] w3268 (by kernel_rfl) ?_
    refine W_nil ?_
    refine N_then ?_
    obtain ⟨o3604, ho3605, hm3606⟩ := gx_bind hm
    refine G_meet (fun a w' => ∃ (p3607 : Option Addr), ∃ (c3608 : Nat), ∃ (sg3609 : Seg), ∃ (sg3612 : Seg), ownS encB o3604.2.2.1 p3607 c3608 sg3609 ∧ ownS encI o3604.2.2.2 p2941 c2942 sg3612 ∧ Mem (idsOf [[(b47, .cells ⟨[.slice p49 x45.code.length c50, .int .i64 x45.at_, .int .u64 x45.seed]⟩ 99 (0, 0))]]) w w' [[(b69, .cells ⟨[.slice none 0 0, .slice none 0 0, .slice none 0 0]⟩ 28 (0, 0))], [(b1478, .cells ⟨[.slice p2936 out2917.2.2.1.length c2937, .slice p2941 o3604.2.2.2.length c2942, .slice p3607 o3604.2.2.1.length c3608]⟩ 28 (0, 0))], sg2938, [(b47, .cells ⟨[.slice p49 x45.code.length c50, .int .i64 o3604.1, .int .u64 o3604.2.1]⟩ 99 (0, 0))], sg3609, sg3612] ∧ Sat Try.f84.ntmps [(2, .pointer (some ⟨b69, 0, none⟩)), (3, .pointer (some ⟨b1478, 0, none⟩))] a) ?_ ?_
    · have hm := ho3605
      rcases gx_bif hm with ⟨hc3614, hm⟩ | ⟨hc3614, hm⟩
      · refine G_cond_t (b := (r3267.1 == 0)) hc3614 (by kernel_rfl) ?_
        refine G_region ?_
        refine W_run 1 [(2, .pointer (some ⟨b69, 0, none⟩)), (3, .pointer (some ⟨b1478, 0, none⟩)), (49, .pointer (some ⟨b1478, 2, none⟩))] w3268 (by kernel_rfl) ?_
        refine W_val (.slice p2946 out2917.2.2.2.2.length c2947) w3268 (by kernel_rfl) (E_load (e := 28) (fr := (0, 0)) _ _ false 1 b1478 2 [.slice p2936 out2917.2.2.1.length c2937, .slice p2941 out2917.2.2.2.1.length c2942, .slice p2946 out2917.2.2.2.2.length c2947] (.slice p2946 out2917.2.2.2.2.length c2947) rfl (by kernel_rfl) (by kernel_rfl) (by kernel_rfl) (M3270.blk 1 (b := b1478) (o := .cells ⟨[.slice p2936 out2917.2.2.1.length c2937, .slice p2941 out2917.2.2.2.1.length c2942, .slice p2946 out2917.2.2.2.2.length c2947]⟩ 28 (0, 0)) (by kernel_rfl))) ?_
        refine W_lit (E := encB) [true] 1 [.bool true] 4 M3270 (by kernel_rfl) (by kernel_rfl) (by kernel_rfl) (by kernel_rfl) (by kernel_rfl) ?_
        intro p3615 c3616 sg3617 w3618 ho3619 M3620
        obtain ⟨ap3622, hap3622, hm⟩ := gx_bind hm
        refine W_append (E := encB) _ _ _ 1 [.bool false] 4 c3616 M3620 ho2949 (by kernel_rfl) (by kernel_rfl) (by kernel_rfl) rfl (by kernel_rfl) (by kernel_rfl) (by kernel_rfl) (by kernel_rfl) (by kernel_rfl) (by kernel_rfl) (ho3619.rd M3620 6 (by kernel_rfl)) hap3622 ?_
        intro p3623 c3624 sg3625 w3626 ho3627 M3628
        refine W_run 1 [(2, .pointer (some ⟨b69, 0, none⟩)), (3, .pointer (some ⟨b1478, 0, none⟩)), (52, .slice p3623 ap3622.length c3624), (53, .pointer (some ⟨b1478, 2, none⟩))] w3626 (by kernel_rfl) ?_
        refine W_store _ _ _ false 1 b1478 2 [.slice p2936 out2917.2.2.1.length c2937, .slice p2941 out2917.2.2.2.1.length c2942, .slice p2946 out2917.2.2.2.2.length c2947] 28 (.slice p3623 ap3622.length c3624) 1 [.slice p2936 out2917.2.2.1.length c2937, .slice p2941 out2917.2.2.2.1.length c2942, .slice p3623 ap3622.length c3624] M3628 (by kernel_rfl) rfl (by kernel_rfl) (by kernel_rfl) (by kernel_rfl) (by kernel_rfl) (by kernel_rfl) (by kernel_rfl) (by kernel_rfl) (by kernel_rfl) ?_
        intro w3630 M3631
        refine W_nil ?_
        obtain rfl := Option.some.inj hm
        exact N_meet fun a ha => ⟨p3623, c3624, sg3625, sg2943, ho3627, ho2944, M3631.pick [0, 1, 2, 5, 4, 3] (by kernel_rfl), ha.sub (by kernel_rfl)⟩
      · refine G_cond_f (b := (r3267.1 == 0)) hc3614 (by kernel_rfl) ?_
        refine G_seq ?_
        refine G_region ?_
        refine W_run 2 [(0, .pointer (some ⟨b47, 0, none⟩)), (2, .pointer (some ⟨b69, 0, none⟩)), (3, .pointer (some ⟨b1478, 0, none⟩)), (54, .bool (r3267.1 == 1))] w3268 (by kernel_rfl) ?_
        refine W_nil ?_
        refine N_then ?_
        obtain ⟨o3784, ho3785, hm3786⟩ := gx_bind hm
        refine G_meet (fun a w' => ∃ (sg3787 : Seg), ∃ (sg3789 : Seg), ownS encI o3784.2.2.1 p2941 c2942 sg3787 ∧ ownS encB o3784.2.2.2 p2946 c2947 sg3789 ∧ Mem (idsOf [[(b47, .cells ⟨[.slice p49 x45.code.length c50, .int .i64 x45.at_, .int .u64 x45.seed]⟩ 99 (0, 0))]]) w w' [[(b69, .cells ⟨[.slice none 0 0, .slice none 0 0, .slice none 0 0]⟩ 28 (0, 0))], [(b1478, .cells ⟨[.slice p2936 out2917.2.2.1.length c2937, .slice p2941 o3784.2.2.1.length c2942, .slice p2946 o3784.2.2.2.length c2947]⟩ 28 (0, 0))], sg2938, [(b47, .cells ⟨[.slice p49 x45.code.length c50, .int .i64 o3784.1, .int .u64 o3784.2.1]⟩ 99 (0, 0))], sg3787, sg3789] ∧ Sat Try.f84.ntmps [(2, .pointer (some ⟨b69, 0, none⟩)), (3, .pointer (some ⟨b1478, 0, none⟩))] a) ?_ ?_
        · have hm := ho3785
          rcases gx_bif hm with ⟨hc3791, hm⟩ | ⟨hc3791, hm⟩
          · refine G_cond_t (b := (r3267.1 == 1)) hc3791 (by kernel_rfl) ?_
            refine G_seq ?_
            refine G_region ?_
            refine W_run 1 [(0, .pointer (some ⟨b47, 0, none⟩)), (2, .pointer (some ⟨b69, 0, none⟩)), (3, .pointer (some ⟨b1478, 0, none⟩)), (56, .pointer (some ⟨b1478, 1, none⟩))] w3268 (by kernel_rfl) ?_
            refine W_val (.slice p2941 out2917.2.2.2.1.length c2942) w3268 (by kernel_rfl) (E_load (e := 28) (fr := (0, 0)) _ _ false 1 b1478 1 [.slice p2936 out2917.2.2.1.length c2937, .slice p2941 out2917.2.2.2.1.length c2942, .slice p2946 out2917.2.2.2.2.length c2947] (.slice p2941 out2917.2.2.2.1.length c2942) rfl (by kernel_rfl) (by kernel_rfl) (by kernel_rfl) (M3270.blk 1 (b := b1478) (o := .cells ⟨[.slice p2936 out2917.2.2.1.length c2937, .slice p2941 out2917.2.2.2.1.length c2942, .slice p2946 out2917.2.2.2.2.length c2947]⟩ 28 (0, 0)) (by kernel_rfl))) ?_
            refine W_run 2 [(0, .pointer (some ⟨b47, 0, none⟩)), (2, .pointer (some ⟨b69, 0, none⟩)), (3, .pointer (some ⟨b1478, 0, none⟩)), (59, .bool (decide ((out2917.2.2.2.1.length : Int) > 0)))] w3268 (by kernel_rfl) ?_
            refine W_nil ?_
            refine N_then ?_
            obtain ⟨o3862, ho3863, hm3864⟩ := gx_bind hm
            refine G_meet (fun a w' => ∃ (sg3865 : Seg), ∃ (sg3867 : Seg), ownS encI o3862.2.2.1 p2941 c2942 sg3865 ∧ ownS encB o3862.2.2.2 p2946 c2947 sg3867 ∧ Mem (idsOf [[(b47, .cells ⟨[.slice p49 x45.code.length c50, .int .i64 x45.at_, .int .u64 x45.seed]⟩ 99 (0, 0))]]) w w' [[(b69, .cells ⟨[.slice none 0 0, .slice none 0 0, .slice none 0 0]⟩ 28 (0, 0))], [(b1478, .cells ⟨[.slice p2936 out2917.2.2.1.length c2937, .slice p2941 o3862.2.2.1.length c2942, .slice p2946 o3862.2.2.2.length c2947]⟩ 28 (0, 0))], sg2938, [(b47, .cells ⟨[.slice p49 x45.code.length c50, .int .i64 o3862.1, .int .u64 o3862.2.1]⟩ 99 (0, 0))], sg3865, sg3867] ∧ Sat Try.f84.ntmps [(2, .pointer (some ⟨b69, 0, none⟩)), (3, .pointer (some ⟨b1478, 0, none⟩))] a) ?_ ?_
            · have hm := ho3863
              rcases gx_bif hm with ⟨hc3869, hm⟩ | ⟨hc3869, hm⟩
              · refine G_cond_t (b := (decide ((out2917.2.2.2.1.length : Int) > 0))) hc3869 (by kernel_rfl) ?_
                refine G_seq ?_
                obtain ⟨r3877, hr3877, hm⟩ := gx_bind hm
                have M3878 : Mem (idsOf [[(b47, .cells ⟨[.slice p49 x45.code.length c50, .int .i64 x45.at_, .int .u64 x45.seed]⟩ 99 (0, 0))]]) w w3268 ([[(b69, .cells ⟨[.slice none 0 0, .slice none 0 0, .slice none 0 0]⟩ 28 (0, 0))], [(b1478, .cells ⟨[.slice p2936 out2917.2.2.1.length c2937, .slice p2941 out2917.2.2.2.1.length c2942, .slice p2946 out2917.2.2.2.2.length c2947]⟩ 28 (0, 0))], sg2938, sg2943, sg2948] ++ (List.range 5).map (fun i => ([[], [], [], [], [(b47, .cells ⟨[.slice p49 x45.code.length c50, .int .i64 r3267.2.1, .int .u64 r3267.2.2]⟩ 99 (0, 0))]] : List Seg).getD i [])) := M3270.pick [0, 1, 2, 3, 4, 300000, 300001, 300002, 300003, 5] (by kernel_rfl)
                refine G_sub [(0, .pointer (some ⟨b47, 0, none⟩)), (2, .pointer (some ⟨b69, 0, none⟩)), (3, .pointer (some ⟨b1478, 0, none⟩)), (59, .bool (decide ((out2917.2.2.2.1.length : Int) > 0)))] (by kernel_rfl) ?_
                refine G_dagL 5 [[], [0], [], [], [2, 3]] [[], [], [], [], []] [[], [], [], [], [3]] [[], [], [], [], []] [[], [], [], [], []] [[], [], [], [], []] (fun i => ([[], [], [], [], [(b47, .cells ⟨[.slice p49 x45.code.length c50, .int .i64 r3267.2.1, .int .u64 r3267.2.2]⟩ 99 (0, 0))]] : List Seg).getD i []) (fun i => ([fun f v s => v = (.pointer (some ⟨b1478, 1, none⟩) : Value) ∧ s = [], fun f v s => v = (.slice p2941 out2917.2.2.2.1.length c2942 : Value) ∧ s = [], fun f v s => v = (.pointer (some ⟨b47, 0, none⟩) : Value) ∧ s = [], fun f v s => ∃ (p3873 : Option Addr) (c3874 : Nat), v = (.slice p3873 [(-1), 9].length c3874 : Value) ∧ ownS encI [(-1), 9] p3873 c3874 s, fun f v s => v = (.int .i64 r3877.1 : Value) ∧ s = [(b47, .cells ⟨[.slice p49 x45.code.length c50, .int .i64 r3877.2.1, .int .u64 r3877.2.2]⟩ 99 (0, 0))]] : List ((Nat → Value) → Value → Seg → Prop)).getD i (fun _ _ _ => False)) (fun j f v => ∃ s, (fun i => ([fun f v s => v = (.pointer (some ⟨b1478, 1, none⟩) : Value) ∧ s = [], fun f v s => v = (.slice p2941 out2917.2.2.2.1.length c2942 : Value) ∧ s = [], fun f v s => v = (.pointer (some ⟨b47, 0, none⟩) : Value) ∧ s = [], fun f v s => ∃ (p3873 : Option Addr) (c3874 : Nat), v = (.slice p3873 [(-1), 9].length c3874 : Value) ∧ ownS encI [(-1), 9] p3873 c3874 s, fun f v s => v = (.int .i64 r3877.1 : Value) ∧ s = [(b47, .cells ⟨[.slice p49 x45.code.length c50, .int .i64 r3877.2.1, .int .u64 r3877.2.2]⟩ 99 (0, 0))]] : List ((Nat → Value) → Value → Seg → Prop)).getD i (fun _ _ _ => False)) j f v s) [] [1, 3, 4] [3, 4] (fun _ _ _ s h => ⟨s, h⟩) (by kernel_rfl) (by kernel_rfl) M3878 (by kernel_rfl) (by kernel_rfl) (by kernel_rfl) (by kernel_rfl) (allOb_cons ?_ (allOb_cons ?_ (allOb_cons ?_ (allOb_cons ?_ (allOb_cons ?_ allOb_nil))))) ?_
                · intro g3870 f3871
                  intro R w3879 M3880
                  refine W_run 1 [(60, .pointer (some ⟨b1478, 1, none⟩))] w3879 (by kernel_rfl) ?_
                  exact W_nil (ob_end (.pointer (some ⟨b1478, 1, none⟩)) [] rfl (by kernel_rfl) ⟨by kernel_rfl, rfl⟩ M3880)
                · intro g3870 f3871
                  intro v0_ hb0_
                  obtain ⟨rfl, _⟩ := hb0_
                  intro R w3883 M3884
                  refine W_val (.slice p2941 out2917.2.2.2.1.length c2942) w3883 (by kernel_rfl) (E_load (e := 28) (fr := (0, 0)) _ _ false 1 b1478 1 [.slice p2936 out2917.2.2.1.length c2937, .slice p2941 out2917.2.2.2.1.length c2942, .slice p2946 out2917.2.2.2.2.length c2947] (.slice p2941 out2917.2.2.2.1.length c2942) rfl (by kernel_rfl) (by kernel_rfl) (by kernel_rfl) (M3884.blk 1 (b := b1478) (o := .cells ⟨[.slice p2936 out2917.2.2.1.length c2937, .slice p2941 out2917.2.2.2.1.length c2942, .slice p2946 out2917.2.2.2.2.length c2947]⟩ 28 (0, 0)) (by kernel_rfl))) ?_
                  exact W_nil (ob_end (.slice p2941 out2917.2.2.2.1.length c2942) [] rfl (by kernel_rfl) ⟨by kernel_rfl, rfl⟩ M3884)
                · intro g3870 f3871
                  intro R w3887 M3888
                  refine W_run 1 [(62, .pointer (some ⟨b47, 0, none⟩))] w3887 (by kernel_rfl) ?_
                  exact W_nil (ob_end (.pointer (some ⟨b47, 0, none⟩)) [] rfl (by kernel_rfl) ⟨by kernel_rfl, rfl⟩ M3888)
                · intro g3870 f3871
                  intro R w3891 M3892
                  refine W_lit (E := encI) [(-1), 9] 2 [.int .i64 (-1), .int .i64 9] 3 M3892 (by kernel_rfl) (by kernel_rfl) (by kernel_rfl) (by kernel_rfl) (by kernel_rfl) ?_
                  intro p3873 c3874 sg3875 w3893 ho3876 M3894
                  exact W_nil (ob_end (.slice p3873 [(-1), 9].length c3874) sg3875 rfl (by kernel_rfl) ⟨p3873, c3874, rfl, ho3876⟩ (Mem.mid M3894))
                · intro g3870 f3871
                  intro v2_ hb2_
                  obtain ⟨rfl, _⟩ := hb2_
                  intro v3_ hb3_
                  obtain ⟨p3873, c3874, rfl, ho3876⟩ := hb3_
                  intro R w3895 M3896
                  refine W_call 86 #[.pointer (some ⟨b47, 0, none⟩), .slice p3873 [(-1), 9].length c3874] (by kernel_rfl) (by kernel_rfl) ?_
                  refine (c_s_l1Cur_among w3895 (⟨x45.code, r3267.2.1, r3267.2.2⟩ : l1Cur) p49 c50 (h51.memX hap52 M3896) b47 [(-1), 9] p3873 c3874 (ho3876.rd M3896 6 (by kernel_rfl)) (M3896.hasPick [5]) (M3896.nodupPick [5] (by kernel_rfl)) (apartX.old h51 hap52 M3896 [5]) (apartX.own ho3876 M3896 6 (by kernel_rfl) [5] (by kernel_rfl)) hr3877).mono ?_
                  rintro e_ w3897 ⟨rfl, K3899⟩
                  refine ⟨_, rfl, ?_⟩
                  exact W_nil (ob_end (.int .i64 r3877.1) [(b47, .cells ⟨[.slice p49 x45.code.length c50, .int .i64 r3877.2.1, .int .u64 r3877.2.2]⟩ 99 (0, 0))] rfl (by kernel_rfl) ⟨rfl, rfl⟩ (Mem.callMidF M3896 K3899))
                · intro g3870 f3871
                  intro v1_ hb1_
                  obtain ⟨rfl, _⟩ := hb1_
                  intro v3_ hb3_
                  obtain ⟨p3873, c3874, rfl, ho3876⟩ := hb3_
                  intro v4_ hb4_
                  obtain ⟨rfl, hs4_⟩ := hb4_
                  intro w3900 M3901
                  have M3902 : Mem (idsOf [[(b47, .cells ⟨[.slice p49 x45.code.length c50, .int .i64 x45.at_, .int .u64 x45.seed]⟩ 99 (0, 0))]]) w w3900 [[(b69, .cells ⟨[.slice none 0 0, .slice none 0 0, .slice none 0 0]⟩ 28 (0, 0))], [(b1478, .cells ⟨[.slice p2936 out2917.2.2.1.length c2937, .slice p2941 out2917.2.2.2.1.length c2942, .slice p2946 out2917.2.2.2.2.length c2947]⟩ 28 (0, 0))], sg2938, sg2943, sg2948, (g3870 3), (g3870 4)] := M3901
                  rw [hs4_] at M3902
                  obtain ⟨y3903, hy3903, hm⟩ := gx_bind hm
                  refine W_val (elemP p2941 ((0 : Int).toNat * 1)) w3900 (by kernel_rfl) (E_index (E := encI) _ _ _ out2917.2.2.2.1.length c2942 .i64 0 1 (y := y3903) rfl (by kernel_rfl) (by kernel_rfl) (by kernel_rfl) (ho2944.rd M3902 3 (by kernel_rfl)) rfl hy3903) ?_
                  refine W_storeE (E := encI) _ _ _ false 1 (0 : Int).toNat 0 ((0 : Int).toNat * 1) y3903 r3877.1 (.int .i64 r3877.1) 3 M3902 ho2944 (by kernel_rfl) (by kernel_rfl) rfl (by kernel_rfl) (by kernel_rfl) (by kernel_rfl) (by kernel_rfl) (by kernel_rfl) (by kernel_rfl) (by kernel_rfl) (gxIdx_spec hy3903).2 rfl ?_
                  intro w3904 sg3906 ho3907 M3905
                  refine W_conv 61 (.slice p2941 out2917.2.2.2.1.length c2942) (.slice p2941 (out2917.2.2.2.1.set (0 : Int).toNat r3877.1).length c2942) (by kernel_rfl) (by rw [@List.length_set _ out2917.2.2.2.1 ((0 : Int).toNat) r3877.1]) ?_
                  have M3908 : Mem (idsOf [[(b47, .cells ⟨[.slice p49 x45.code.length c50, .int .i64 x45.at_, .int .u64 x45.seed]⟩ 99 (0, 0))]]) w w3904 [[(b69, .cells ⟨[.slice none 0 0, .slice none 0 0, .slice none 0 0]⟩ 28 (0, 0))], [(b1478, .cells ⟨[.slice p2936 out2917.2.2.1.length c2937, .slice p2941 (out2917.2.2.2.1.set (0 : Int).toNat r3877.1).length c2942, .slice p2946 out2917.2.2.2.2.length c2947]⟩ 28 (0, 0))], sg2938, sg3906, sg2948, (g3870 3), [(b47, .cells ⟨[.slice p49 x45.code.length c50, .int .i64 r3877.2.1, .int .u64 r3877.2.2]⟩ 99 (0, 0))]] := by rw [@List.length_set _ out2917.2.2.2.1 ((0 : Int).toNat) r3877.1]; exact M3905
                  refine W_nil ?_
                  refine N_then ?_
                  obtain ⟨r3911, hr3911, hm⟩ := gx_bind hm
                  have M3912 : Mem (idsOf [[(b47, .cells ⟨[.slice p49 x45.code.length c50, .int .i64 x45.at_, .int .u64 x45.seed]⟩ 99 (0, 0))]]) w w3904 ([[(b69, .cells ⟨[.slice none 0 0, .slice none 0 0, .slice none 0 0]⟩ 28 (0, 0))], [(b1478, .cells ⟨[.slice p2936 out2917.2.2.1.length c2937, .slice p2941 (out2917.2.2.2.1.set (0 : Int).toNat r3877.1).length c2942, .slice p2946 out2917.2.2.2.2.length c2947]⟩ 28 (0, 0))], sg2938, sg3906, sg2948, (g3870 3)] ++ (List.range 4).map (fun i => ([[], [], [], [(b47, .cells ⟨[.slice p49 x45.code.length c50, .int .i64 r3877.2.1, .int .u64 r3877.2.2]⟩ 99 (0, 0))]] : List Seg).getD i [])) := M3908.pick [0, 1, 2, 3, 4, 5, 300000, 300001, 300002, 6] (by kernel_rfl)
                  refine G_sub [(0, .pointer (some ⟨b47, 0, none⟩)), (2, .pointer (some ⟨b69, 0, none⟩)), (3, .pointer (some ⟨b1478, 0, none⟩)), (59, .bool (decide ((out2917.2.2.2.1.length : Int) > 0))), (61, .slice p2941 (out2917.2.2.2.1.set (0 : Int).toNat r3877.1).length c2942), (63, .slice p3873 [(-1), 9].length c3874), (64, .int .i64 r3877.1), (65, elemP p2941 ((0 : Int).toNat * 1))] (by kernel_rfl) ?_
                  refine G_dagL 4 [[], [0], [], [2]] [[], [], [], []] [[], [], [], []] [[], [], [], []] [[], [], [], []] [[], [], [], []] (fun i => ([[], [], [], [(b47, .cells ⟨[.slice p49 x45.code.length c50, .int .i64 r3877.2.1, .int .u64 r3877.2.2]⟩ 99 (0, 0))]] : List Seg).getD i []) (fun i => ([fun f v s => v = (.pointer (some ⟨b1478, 2, none⟩) : Value) ∧ s = [], fun f v s => v = (.slice p2946 out2917.2.2.2.2.length c2947 : Value) ∧ s = [], fun f v s => v = (.pointer (some ⟨b47, 0, none⟩) : Value) ∧ s = [], fun f v s => v = (.bool r3911.1 : Value) ∧ s = [(b47, .cells ⟨[.slice p49 x45.code.length c50, .int .i64 r3911.2.1, .int .u64 r3911.2.2]⟩ 99 (0, 0))]] : List ((Nat → Value) → Value → Seg → Prop)).getD i (fun _ _ _ => False)) (fun j f v => ∃ s, (fun i => ([fun f v s => v = (.pointer (some ⟨b1478, 2, none⟩) : Value) ∧ s = [], fun f v s => v = (.slice p2946 out2917.2.2.2.2.length c2947 : Value) ∧ s = [], fun f v s => v = (.pointer (some ⟨b47, 0, none⟩) : Value) ∧ s = [], fun f v s => v = (.bool r3911.1 : Value) ∧ s = [(b47, .cells ⟨[.slice p49 x45.code.length c50, .int .i64 r3911.2.1, .int .u64 r3911.2.2]⟩ 99 (0, 0))]] : List ((Nat → Value) → Value → Seg → Prop)).getD i (fun _ _ _ => False)) j f v s) [] [1, 3] [3] (fun _ _ _ s h => ⟨s, h⟩) (by kernel_rfl) (by kernel_rfl) M3912 (by kernel_rfl) (by kernel_rfl) (by kernel_rfl) (by kernel_rfl) (allOb_cons ?_ (allOb_cons ?_ (allOb_cons ?_ (allOb_cons ?_ allOb_nil)))) ?_
                  · intro g3909 f3910
                    intro R w3913 M3914
                    refine W_run 1 [(66, .pointer (some ⟨b1478, 2, none⟩))] w3913 (by kernel_rfl) ?_
                    exact W_nil (ob_end (.pointer (some ⟨b1478, 2, none⟩)) [] rfl (by kernel_rfl) ⟨by kernel_rfl, rfl⟩ M3914)
                  · intro g3909 f3910
                    intro v0_ hb0_
                    obtain ⟨rfl, _⟩ := hb0_
                    intro R w3917 M3918
                    refine W_val (.slice p2946 out2917.2.2.2.2.length c2947) w3917 (by kernel_rfl) (E_load (e := 28) (fr := (0, 0)) _ _ false 1 b1478 2 [.slice p2936 out2917.2.2.1.length c2937, .slice p2941 (out2917.2.2.2.1.set (0 : Int).toNat r3877.1).length c2942, .slice p2946 out2917.2.2.2.2.length c2947] (.slice p2946 out2917.2.2.2.2.length c2947) rfl (by kernel_rfl) (by kernel_rfl) (by kernel_rfl) (M3918.blk 1 (b := b1478) (o := .cells ⟨[.slice p2936 out2917.2.2.1.length c2937, .slice p2941 (out2917.2.2.2.1.set (0 : Int).toNat r3877.1).length c2942, .slice p2946 out2917.2.2.2.2.length c2947]⟩ 28 (0, 0)) (by kernel_rfl))) ?_
                    exact W_nil (ob_end (.slice p2946 out2917.2.2.2.2.length c2947) [] rfl (by kernel_rfl) ⟨by kernel_rfl, rfl⟩ M3918)
                  · intro g3909 f3910
                    intro R w3921 M3922
                    refine W_run 1 [(68, .pointer (some ⟨b47, 0, none⟩))] w3921 (by kernel_rfl) ?_
                    exact W_nil (ob_end (.pointer (some ⟨b47, 0, none⟩)) [] rfl (by kernel_rfl) ⟨by kernel_rfl, rfl⟩ M3922)
                  · intro g3909 f3910
                    intro v2_ hb2_
                    obtain ⟨rfl, _⟩ := hb2_
                    intro R w3925 M3926
                    refine W_call 102 #[.pointer (some ⟨b47, 0, none⟩), .int .i64 2] (by kernel_rfl) (by kernel_rfl) ?_
                    refine (c_s_l1Cur_one w3925 (⟨x45.code, r3877.2.1, r3877.2.2⟩ : l1Cur) p49 c50 (h51.memX hap52 M3926) b47 2 (M3926.hasPick [6]) (M3926.nodupPick [6] (by kernel_rfl)) (apartX.old h51 hap52 M3926 [6]) hr3911).mono ?_
                    rintro e_ w3927 ⟨rfl, K3929⟩
                    refine ⟨_, rfl, ?_⟩
                    exact W_nil (ob_end (.bool r3911.1) [(b47, .cells ⟨[.slice p49 x45.code.length c50, .int .i64 r3911.2.1, .int .u64 r3911.2.2]⟩ 99 (0, 0))] rfl (by kernel_rfl) ⟨rfl, rfl⟩ (Mem.callMidF M3926 K3929))
                  · intro g3909 f3910
                    intro v1_ hb1_
                    obtain ⟨rfl, _⟩ := hb1_
                    intro v3_ hb3_
                    obtain ⟨rfl, hs3_⟩ := hb3_
                    intro w3930 M3931
                    have M3932 : Mem (idsOf [[(b47, .cells ⟨[.slice p49 x45.code.length c50, .int .i64 x45.at_, .int .u64 x45.seed]⟩ 99 (0, 0))]]) w w3930 [[(b69, .cells ⟨[.slice none 0 0, .slice none 0 0, .slice none 0 0]⟩ 28 (0, 0))], [(b1478, .cells ⟨[.slice p2936 out2917.2.2.1.length c2937, .slice p2941 (out2917.2.2.2.1.set (0 : Int).toNat r3877.1).length c2942, .slice p2946 out2917.2.2.2.2.length c2947]⟩ 28 (0, 0))], sg2938, sg3906, sg2948, (g3870 3), (g3909 3)] := M3931
                    rw [hs3_] at M3932
                    obtain ⟨y3933, hy3933, hm⟩ := gx_bind hm
                    refine W_val (elemP p2946 ((0 : Int).toNat * 1)) w3930 (by kernel_rfl) (E_index (E := encB) _ _ _ out2917.2.2.2.2.length c2947 .i64 0 1 (y := y3933) rfl (by kernel_rfl) (by kernel_rfl) (by kernel_rfl) (ho2949.rd M3932 4 (by kernel_rfl)) rfl hy3933) ?_
                    refine W_storeE (E := encB) _ _ _ false 1 (0 : Int).toNat 0 ((0 : Int).toNat * 1) y3933 r3911.1 (.bool r3911.1) 4 M3932 ho2949 (by kernel_rfl) (by kernel_rfl) rfl (by kernel_rfl) (by kernel_rfl) (by kernel_rfl) (by kernel_rfl) (by kernel_rfl) (by kernel_rfl) (by kernel_rfl) (gxIdx_spec hy3933).2 rfl ?_
                    intro w3934 sg3936 ho3937 M3935
                    refine W_conv 67 (.slice p2946 out2917.2.2.2.2.length c2947) (.slice p2946 (out2917.2.2.2.2.set (0 : Int).toNat r3911.1).length c2947) (by kernel_rfl) (by rw [@List.length_set _ out2917.2.2.2.2 ((0 : Int).toNat) r3911.1]) ?_
                    have M3938 : Mem (idsOf [[(b47, .cells ⟨[.slice p49 x45.code.length c50, .int .i64 x45.at_, .int .u64 x45.seed]⟩ 99 (0, 0))]]) w w3934 [[(b69, .cells ⟨[.slice none 0 0, .slice none 0 0, .slice none 0 0]⟩ 28 (0, 0))], [(b1478, .cells ⟨[.slice p2936 out2917.2.2.1.length c2937, .slice p2941 (out2917.2.2.2.1.set (0 : Int).toNat r3877.1).length c2942, .slice p2946 (out2917.2.2.2.2.set (0 : Int).toNat r3911.1).length c2947]⟩ 28 (0, 0))], sg2938, sg3906, sg3936, (g3870 3), [(b47, .cells ⟨[.slice p49 x45.code.length c50, .int .i64 r3911.2.1, .int .u64 r3911.2.2]⟩ 99 (0, 0))]] := by rw [@List.length_set _ out2917.2.2.2.2 ((0 : Int).toNat) r3911.1]; exact M3935
                    refine W_nil ?_
                    obtain rfl := Option.some.inj hm
                    exact N_meet fun a ha => ⟨sg3906, sg3936, ho3907, ho3937, M3938.pick [0, 1, 2, 6, 3, 4] (by kernel_rfl), ha.sub (by kernel_rfl)⟩
              · refine G_cond_f (b := (decide ((out2917.2.2.2.1.length : Int) > 0))) hc3869 (by kernel_rfl) ?_
                refine G_skip ?_
                obtain rfl := Option.some.inj hm
                exact N_meet fun a ha => ⟨sg2943, sg2948, ho2944, ho2949, M3270.pick [0, 1, 2, 5, 3, 4] (by kernel_rfl), ha.sub (by kernel_rfl)⟩
            · intro a3941 w3939 ⟨sg3865, sg3867, ho3866, ho3868, M3940, hS3942⟩
              refine N_use hS3942 ?_
              have hm := hm3864
              obtain rfl := Option.some.inj hm
              exact N_meet fun a ha => ⟨sg3865, sg3867, ho3866, ho3868, M3940.pick [0, 1, 2, 3, 4, 5] (by kernel_rfl), ha.sub (by kernel_rfl)⟩
          · refine G_cond_f (b := (r3267.1 == 1)) hc3791 (by kernel_rfl) ?_
            refine G_skip ?_
            obtain rfl := Option.some.inj hm
            exact N_meet fun a ha => ⟨sg2943, sg2948, ho2944, ho2949, M3270.pick [0, 1, 2, 5, 3, 4] (by kernel_rfl), ha.sub (by kernel_rfl)⟩
        · intro a3945 w3943 ⟨sg3787, sg3789, ho3788, ho3790, M3944, hS3946⟩
          refine N_use hS3946 ?_
          have hm := hm3786
          obtain rfl := Option.some.inj hm
          exact N_meet fun a ha => ⟨p2946, c2947, sg3789, sg3787, ho3790, ho3788, M3944.pick [0, 1, 2, 3, 5, 4] (by kernel_rfl), ha.sub (by kernel_rfl)⟩
    · intro a3949 w3947 ⟨p3607, c3608, sg3609, sg3612, ho3610, ho3613, M3948, hS3950⟩
      refine N_use hS3950 ?_
      have hm := hm3606
      refine N_block ?_
      refine N_then ?_
      refine G_seq ?_
      refine G_region ?_
      refine W_val (.agg #[.slice p2936 out2917.2.2.1.length c2937, .slice p2941 o3604.2.2.2.length c2942, .slice p3607 o3604.2.2.1.length c3608]) w3947 (by kernel_rfl) (E_load (e := 28) (fr := (0, 0)) _ _ true 3 b1478 0 [.slice p2936 out2917.2.2.1.length c2937, .slice p2941 o3604.2.2.2.length c2942, .slice p3607 o3604.2.2.1.length c3608] (.agg #[.slice p2936 out2917.2.2.1.length c2937, .slice p2941 o3604.2.2.2.length c2942, .slice p3607 o3604.2.2.1.length c3608]) rfl (by kernel_rfl) (by kernel_rfl) (by kernel_rfl) (M3948.blk 1 (b := b1478) (o := .cells ⟨[.slice p2936 out2917.2.2.1.length c2937, .slice p2941 o3604.2.2.2.length c2942, .slice p3607 o3604.2.2.1.length c3608]⟩ 28 (0, 0)) (by kernel_rfl))) ?_
      refine W_store _ _ _ true 3 b69 0 [.slice none 0 0, .slice none 0 0, .slice none 0 0] 28 (.agg #[.slice p2936 out2917.2.2.1.length c2937, .slice p2941 o3604.2.2.2.length c2942, .slice p3607 o3604.2.2.1.length c3608]) 0 [.slice p2936 out2917.2.2.1.length c2937, .slice p2941 o3604.2.2.2.length c2942, .slice p3607 o3604.2.2.1.length c3608] M3948 (by kernel_rfl) rfl (by kernel_rfl) (by kernel_rfl) (by kernel_rfl) (by kernel_rfl) (by kernel_rfl) (by kernel_rfl) (by kernel_rfl) (by kernel_rfl) ?_
      intro w3951 M3952
      refine W_nil ?_
      refine N_then ?_
      refine G_ret ?_
      obtain rfl := Option.some.inj hm
      refine N_ret [.agg #[.slice p2936 out2917.2.2.1.length c2937, .slice p2941 o3604.2.2.2.length c2942, .slice p3607 o3604.2.2.1.length c3608]] (RVs_cons (RV_cell (g := true) (k := 3) (b := b69) (off := 0) (cs := [.slice p2936 out2917.2.2.1.length c2937, .slice p2941 o3604.2.2.2.length c2942, .slice p3607 o3604.2.2.1.length c3608]) (e := 28) (fr := (0, 0)) (v := .agg #[.slice p2936 out2917.2.2.1.length c2937, .slice p2941 o3604.2.2.2.length c2942, .slice p3607 o3604.2.2.1.length c3608]) (M3952.blk 0 (b := b69) (o := .cells ⟨[.slice p2936 out2917.2.2.1.length c2937, .slice p2941 o3604.2.2.2.length c2942, .slice p3607 o3604.2.2.1.length c3608]⟩ 28 (0, 0)) (by kernel_rfl)) (by kernel_rfl) (by kernel_rfl) (by kernel_rfl)) RVs_nil) ?_
      exact ⟨p2936, c2937, sg2938, p2941, c2942, sg3612, p3607, c3608, sg3609, rfl, ho2939, ho3613, ho3610, M3952.pick [3, 2, 5, 4] (by kernel_rfl)⟩
theorem c_s_DrawCopyRound (w : World) (x16 : List Int) (p18 : Option Addr) (c19 : Nat) (h20 : rdS encU8 w x16 p18 c19) {r : Copying × Int} (hm : M.s_DrawCopyRound x16 = some r) :
    Calls Try.prog 49 #[.slice p18 x16.length c19] w fun e w' => ∃ (p22 : Option Addr) (c23 : Nat) (sg24 : Seg), ∃ (p26 : Option Addr) (c27 : Nat) (sg28 : Seg), ∃ (p30 : Option Addr) (c31 : Nat) (sg32 : Seg), e = .returned (.tuple #[.agg #[.slice p22 r.1.Memory.length c23, .slice p26 r.1.Copy.length c27, .slice p30 r.1.Dirty.length c31], .int .i64 r.2]) ∧ ownS encI r.1.Memory p22 c23 sg24 ∧ ownS encI r.1.Copy p26 c27 sg28 ∧ ownS encB r.1.Dirty p30 c31 sg32 ∧ Mem [] w w' [sg24, sg28, sg32] := by
  unfold M.s_DrawCopyRound at hm
  refine C_enter Try.func49 rfl (by kernel_rfl) ?_
  have M0 := Mem.refl [] w
  refine G_seq ?_
  refine G_region ?_
  refine W_new (fun b => .pointer (some ⟨b, 0, none⟩)) (.cells ⟨[.slice none 0 0, .slice none 0 0, .slice none 0 0]⟩ 28 (0, 0)) M0 rfl (by kernel_rfl) (by kernel_rfl) ?_
  intro b37 w38 M39
  refine W_run 1 [(0, .slice p18 x16.length c19), (2, .pointer (some ⟨b37, 0, none⟩))] w38 (by kernel_rfl) ?_
  refine W_nil ?_
  refine N_then ?_
  refine G_seq ?_
  refine G_region ?_
  refine W_run 2 [(2, .pointer (some ⟨b37, 0, none⟩)), (6, .agg #[.slice p18 x16.length c19, .int .i64 0, .int .u64 0])] w38 (by kernel_rfl) ?_
  refine W_new (fun b => .pointer (some ⟨b, 0, none⟩)) (.cells ⟨[.slice p18 x16.length c19, .int .i64 0, .int .u64 0]⟩ 99 (0, 0)) M39 rfl (by kernel_rfl) (by kernel_rfl) ?_
  intro b42 w43 M44
  refine W_run 1 [(2, .pointer (some ⟨b37, 0, none⟩)), (4, .pointer (some ⟨b42, 0, none⟩))] w43 (by kernel_rfl) ?_
  refine W_nil ?_
  refine N_then ?_
  refine G_seq ?_
  refine G_region ?_
  refine W_run 1 [(2, .pointer (some ⟨b37, 0, none⟩)), (4, .pointer (some ⟨b42, 0, none⟩)), (8, .pointer (some ⟨b42, 0, none⟩))] w43 (by kernel_rfl) ?_
  obtain ⟨r3953, hr3953, hm⟩ := gx_bind hm
  refine W_call 84 #[.pointer (some ⟨b42, 0, none⟩)] (by kernel_rfl) (by kernel_rfl) ?_
  refine (c_s_l1Cur_copying w43 (⟨x16, 0, 0⟩ : l1Cur) p18 c19 (h20.mem0 M44) b42 (M44.hasPick [1]) (M44.nodupPick [1] (by kernel_rfl)) (apartX.old0 h20 M44 [1]) hr3953).mono ?_
  rintro e_ w3969 ⟨p3955, c3956, sg3957, p3960, c3961, sg3962, p3965, c3966, sg3967, rfl, ho3958, ho3963, ho3968, K3970⟩
  have M3971 := M44.callF' [1] [0] (by kernel_rfl) K3970
  refine ⟨_, rfl, ?_⟩
  refine W_run 1 [(2, .pointer (some ⟨b37, 0, none⟩)), (9, .agg #[.slice p3955 r3953.1.Memory.length c3956, .slice p3960 r3953.1.Copy.length c3961, .slice p3965 r3953.1.Dirty.length c3966]), (10, .pointer (some ⟨b42, 0, none⟩))] w3969 (by kernel_rfl) ?_
  refine W_lit (E := encI) [0, 1, 2, 3, 12, 13, (-1), 4] 8 [.int .i64 0, .int .i64 1, .int .i64 2, .int .i64 3, .int .i64 12, .int .i64 13, .int .i64 (-1), .int .i64 4] 3 M3971 (by kernel_rfl) (by kernel_rfl) (by kernel_rfl) (by kernel_rfl) (by kernel_rfl) ?_
  intro p3972 c3973 sg3974 w3975 ho3976 M3977
  obtain ⟨r3979, hr3979, hm⟩ := gx_bind hm
  refine W_call 86 #[.pointer (some ⟨b42, 0, none⟩), .slice p3972 [0, 1, 2, 3, 12, 13, (-1), 4].length c3973] (by kernel_rfl) (by kernel_rfl) ?_
  refine (c_s_l1Cur_among w3975 (⟨x16, r3953.2.1, r3953.2.2⟩ : l1Cur) p18 c19 (h20.mem0 M3977) b42 [0, 1, 2, 3, 12, 13, (-1), 4] p3972 c3973 (ho3976.rd M3977 5 (by kernel_rfl)) (M3977.hasPick [1]) (M3977.nodupPick [1] (by kernel_rfl)) (apartX.old0 h20 M3977 [1]) (apartX.own ho3976 M3977 5 (by kernel_rfl) [1] (by kernel_rfl)) hr3979).mono ?_
  rintro e_ w3980 ⟨rfl, K3981⟩
  have M3982 := M3977.callF' [1] [0, 2, 3, 4, 5] (by kernel_rfl) K3981
  refine ⟨_, rfl, ?_⟩
  refine W_store _ _ _ true 3 b37 0 [.slice none 0 0, .slice none 0 0, .slice none 0 0] 28 (.agg #[.slice p3955 r3953.1.Memory.length c3956, .slice p3960 r3953.1.Copy.length c3961, .slice p3965 r3953.1.Dirty.length c3966]) 0 [.slice p3955 r3953.1.Memory.length c3956, .slice p3960 r3953.1.Copy.length c3961, .slice p3965 r3953.1.Dirty.length c3966] M3982 (by kernel_rfl) rfl (by kernel_rfl) (by kernel_rfl) (by kernel_rfl) (by kernel_rfl) (by kernel_rfl) (by kernel_rfl) (by kernel_rfl) (by kernel_rfl) ?_
  intro w3983 M3984
  refine W_run 1 [(2, .pointer (some ⟨b37, 0, none⟩)), (3, .int .i64 r3979.1)] w3983 (by kernel_rfl) ?_
  refine W_nil ?_
  refine N_then ?_
  refine G_ret ?_
  obtain rfl := Option.some.inj hm
  refine N_ret [.agg #[.slice p3955 r3953.1.Memory.length c3956, .slice p3960 r3953.1.Copy.length c3961, .slice p3965 r3953.1.Dirty.length c3966], .int .i64 r3979.1] (RVs_cons (RV_cell (g := true) (k := 3) (b := b37) (off := 0) (cs := [.slice p3955 r3953.1.Memory.length c3956, .slice p3960 r3953.1.Copy.length c3961, .slice p3965 r3953.1.Dirty.length c3966]) (e := 28) (fr := (0, 0)) (v := .agg #[.slice p3955 r3953.1.Memory.length c3956, .slice p3960 r3953.1.Copy.length c3961, .slice p3965 r3953.1.Dirty.length c3966]) (M3984.blk 0 (b := b37) (o := .cells ⟨[.slice p3955 r3953.1.Memory.length c3956, .slice p3960 r3953.1.Copy.length c3961, .slice p3965 r3953.1.Dirty.length c3966]⟩ 28 (0, 0)) (by kernel_rfl)) (by kernel_rfl) (by kernel_rfl) (by kernel_rfl)) (RVs_cons (RV_tmp (by kernel_rfl)) RVs_nil)) ?_
  exact ⟨p3955, c3956, sg3957, p3960, c3961, sg3962, p3965, c3966, sg3967, rfl, ho3958, ho3963, ho3968, M3984.pick [1, 2, 3] (by kernel_rfl)⟩
theorem c_i_inside (w : World) (x4072 : Int) (x4073 : Int) (x4074 : Int) {r : Bool} (hm : M.i_inside x4072 x4073 x4074 = some r) :
    Calls Try.prog 74 #[.int .i64 x4072, .int .i64 x4073, .int .i64 x4074] w fun e w' => e = .returned (.bool r) ∧ Mem [] w w' [] := by
  unfold M.i_inside at hm
  refine C_enter Try.func74 rfl (by kernel_rfl) ?_
  have M0 := Mem.refl [] w
  refine G_seq ?_
  refine G_region ?_
  refine W_run 1 [(0, .int .i64 x4072), (1, .int .i64 x4073), (2, .int .i64 x4074)] w (by kernel_rfl) ?_
  refine W_nil ?_
  refine N_then ?_
  refine G_seq ?_
  obtain ⟨o4076, ho4077, hm4078⟩ := gx_bind hm
  refine G_meet (fun a w' => Mem [] w w' [] ∧ Sat Try.f74.ntmps [(6, .bool o4076)] a) ?_ ?_
  · have hm := ho4077
    refine G_region ?_
    refine W_run 4 [(0, .int .i64 x4072), (2, .int .i64 x4074), (10, .bool (decide (x4072 ≥ x4073)))] w (by kernel_rfl) ?_
    rcases gx_bif hm with ⟨hc4079, hm⟩ | ⟨hc4079, hm⟩
    · refine W_known 10 true (by kernel_rfl) hc4079 ?_
      refine W_run 5 [(6, .bool (decide (x4072 ≤ x4074)))] w (by kernel_rfl) ?_
      refine W_nil ?_
      obtain rfl := Option.some.inj hm
      exact N_meet fun a ha => ⟨M0.pick [] (by kernel_rfl), ha.sub (by kernel_rfl)⟩
    · refine W_known 10 false (by kernel_rfl) hc4079 ?_
      refine W_run 5 [(6, .bool false)] w (by kernel_rfl) ?_
      refine W_nil ?_
      obtain rfl := Option.some.inj hm
      exact N_meet fun a ha => ⟨M0.pick [] (by kernel_rfl), ha.sub (by kernel_rfl)⟩
  · intro a4082 w4080 ⟨M4081, hS4083⟩
    refine N_use hS4083 ?_
    have hm := hm4078
    refine N_then ?_
    refine G_ret ?_
    obtain rfl := Option.some.inj hm
    refine N_ret [.bool o4076] (RVs_cons (RV_tmp (by kernel_rfl)) RVs_nil) ?_
    exact ⟨rfl, M4081.pick [] (by kernel_rfl)⟩
theorem c_i_isWord16 (w : World) (x4102 : Int) {r : Bool} (hm : M.i_isWord16 x4102 = some r) :
    Calls Try.prog 94 #[.int .i64 x4102] w fun e w' => e = .returned (.bool r) ∧ Mem [] w w' [] := by
  unfold M.i_isWord16 at hm
  refine C_enter Try.func94 rfl (by kernel_rfl) ?_
  have M0 := Mem.refl [] w
  refine G_seq ?_
  refine G_region ?_
  refine W_run 1 [(0, .int .i64 x4102)] w (by kernel_rfl) ?_
  refine W_nil ?_
  refine N_then ?_
  refine G_seq ?_
  refine G_region ?_
  refine W_run 1 [(3, .int .i64 x4102)] w (by kernel_rfl) ?_
  obtain ⟨r4103, hr4103, hm⟩ := gx_bind hm
  refine W_call 74 #[.int .i64 x4102, .int .i64 0, .int .i64 65535] (by kernel_rfl) (by kernel_rfl) ?_
  refine (c_i_inside w x4102 0 65535 hr4103).mono ?_
  rintro e_ w4104 ⟨rfl, K4105⟩
  have M4106 := M0.call0 K4105
  refine ⟨_, rfl, ?_⟩
  refine W_run 1 [(2, .bool r4103)] w4104 (by kernel_rfl) ?_
  refine W_nil ?_
  refine N_then ?_
  refine G_ret ?_
  obtain rfl := Option.some.inj hm
  refine N_ret [.bool r4103] (RVs_cons (RV_tmp (by kernel_rfl)) RVs_nil) ?_
  exact ⟨rfl, M4106.pick [] (by kernel_rfl)⟩
theorem c_i_isMemory_1 (w : World) (x4101 : Int) {r : Bool} (hm : M.i_isMemory_1 x4101 = some r) :
    Calls Try.prog 93 #[.int .i64 x4101] w fun e w' => e = .returned (.bool r) ∧ Mem [] w w' [] := by
  unfold M.i_isMemory_1 at hm
  refine C_enter Try.func93 rfl (by kernel_rfl) ?_
  have M0 := Mem.refl [] w
  refine G_seq ?_
  refine G_region ?_
  refine W_run 1 [(0, .int .i64 x4101)] w (by kernel_rfl) ?_
  refine W_nil ?_
  refine N_then ?_
  refine G_seq ?_
  refine G_region ?_
  refine W_run 1 [(3, .int .i64 x4101)] w (by kernel_rfl) ?_
  obtain ⟨r4107, hr4107, hm⟩ := gx_bind hm
  refine W_call 94 #[.int .i64 x4101] (by kernel_rfl) (by kernel_rfl) ?_
  refine (c_i_isWord16 w x4101 hr4107).mono ?_
  rintro e_ w4108 ⟨rfl, K4109⟩
  have M4110 := M0.call0 K4109
  refine ⟨_, rfl, ?_⟩
  refine W_run 2 [(2, .bool (!r4107))] w4108 (by kernel_rfl) ?_
  refine W_nil ?_
  refine N_then ?_
  refine G_ret ?_
  obtain rfl := Option.some.inj hm
  refine N_ret [.bool (!r4107)] (RVs_cons (RV_tmp (by kernel_rfl)) RVs_nil) ?_
  exact ⟨rfl, M4110.pick [] (by kernel_rfl)⟩
theorem c_slices_IndexFunc_105__i_isMemory_1 (w : World) (x4094 : List Int) (p4096 : Option Addr) (c4097 : Nat) (h4098 : rdS encI w x4094 p4096 c4097) {r : Int} (hm : M.slices_IndexFunc_105__i_isMemory_1 x4094 = some r) :
    Calls Try.prog 105 #[.slice p4096 x4094.length c4097, .func (.func 93) #[] #[]] w fun e w' => e = .returned (.int .i64 r) ∧ Mem [] w w' [] := by
  unfold M.slices_IndexFunc_105__i_isMemory_1 at hm
  refine C_enter Try.func105 rfl (by kernel_rfl) ?_
  have M0 := Mem.refl [] w
  refine G_seq ?_
  refine G_region ?_
  refine W_run 1 [(0, .slice p4096 x4094.length c4097), (1, .func (.func 93) #[] #[])] w (by kernel_rfl) ?_
  refine W_nil ?_
  refine N_then ?_
  refine G_seq ?_
  refine G_seq ?_
  refine G_region ?_
  refine W_run 3 [(0, .slice p4096 x4094.length c4097), (1, .func (.func 93) #[] #[]), (7, .int .i64 (x4094.length : Int)), (8, .int .i64 0)] w (by kernel_rfl) ?_
  refine W_nil ?_
  refine N_then ?_
  obtain ⟨out4130, hw4131, hmo4132⟩ := gx_bind hm
  refine G_meet (fun a w' => ∃ (o4133 : Unit), out4130 = .inl o4133 ∧ Mem [] w w' [] ∧ Sat Try.f105.ntmps [] a) ?_ ?_
  · refine G_block ?_
    refine G_while (σ := Int) (ρ := (Unit) ⊕ (Int)) (fun s4123 a w' => Mem [] w w' [] ∧ Sat Try.f105.ntmps [(0, .slice p4096 x4094.length c4097), (1, .func (.func 93) #[] #[]), (7, .int .i64 (x4094.length : Int)), (8, .int .i64 s4123)] a) hw4131 (fun a ha => ⟨M0.pick [] (by kernel_rfl), ha.sub (by kernel_rfl)⟩) ?_
    clear hm
    intro s4123 x4124 hm hout4125 a4126 w4127 ⟨M4128, hS4129⟩
    refine G_use hS4129 ?_
    refine G_seq ?_
    refine G_region ?_
    refine W_run 1 [(0, .slice p4096 x4094.length c4097), (1, .func (.func 93) #[] #[]), (7, .int .i64 (x4094.length : Int)), (8, .int .i64 s4123), (9, .bool (decide (s4123 < (x4094.length : Int))))] w4127 (by kernel_rfl) ?_
    refine W_nil ?_
    refine N_then ?_
    refine G_seq ?_
    rcases gx_bif hm with ⟨hc4134, hm⟩ | ⟨hc4134, hm⟩
    · refine G_cond_t (b := (decide (s4123 < (x4094.length : Int)))) hc4134 (by kernel_rfl) ?_
      refine G_skip ?_
      refine N_then ?_
      refine G_seq ?_
      refine G_block ?_
      refine G_seq ?_
      refine G_region ?_
      refine W_run 2 [(0, .slice p4096 x4094.length c4097), (1, .func (.func 93) #[] #[]), (5, .int .i64 s4123), (7, .int .i64 (x4094.length : Int)), (8, .int .i64 s4123)] w4127 (by kernel_rfl) ?_
      refine W_nil ?_
      refine N_then ?_
      refine G_seq ?_
      refine G_region ?_
      refine W_run 3 [(0, .slice p4096 x4094.length c4097), (1, .func (.func 93) #[] #[]), (5, .int .i64 s4123), (7, .int .i64 (x4094.length : Int)), (8, .int .i64 s4123), (11, .func (.func 93) #[] #[]), (12, .slice p4096 x4094.length c4097), (13, .int .i64 s4123)] w4127 (by kernel_rfl) ?_
      obtain ⟨y4135, hy4135, hm⟩ := gx_bind hm
      refine W_val (elemP p4096 (s4123.toNat * 1)) w4127 (by kernel_rfl) (E_index (E := encI) _ _ _ x4094.length c4097 .i64 s4123 1 (y := y4135) rfl (by kernel_rfl) (by kernel_rfl) (by kernel_rfl) (h4098.mem0 M4128) rfl hy4135) ?_
      refine W_val (.int .i64 y4135) w4127 (by kernel_rfl) (E_loadE (E := encI) _ _ false 1 s4123 0 (s4123.toNat * 1) y4135 (.int .i64 y4135) rfl (by kernel_rfl) (by kernel_rfl) (by kernel_rfl) (h4098.mem0 M4128) hy4135 rfl) ?_
      obtain ⟨r4136, hr4136, hm⟩ := gx_bind hm
      refine W_call 93 #[.int .i64 y4135] (by kernel_rfl) (by kernel_rfl) ?_
      refine (c_i_isMemory_1 w4127 y4135 hr4136).mono ?_
      rintro e_ w4137 ⟨rfl, K4138⟩
      have M4139 := M4128.call0 K4138
      refine ⟨_, rfl, ?_⟩
      refine W_nil ?_
      refine N_then ?_
      rcases gx_bif hm with ⟨hc4140, hm⟩ | ⟨hc4140, hm⟩
      · refine G_cond_t (b := r4136) hc4140 (by kernel_rfl) ?_
        refine G_seq ?_
        refine G_region ?_
        refine W_run 2 [(4, .int .i64 s4123)] w4137 (by kernel_rfl) ?_
        refine W_nil ?_
        refine N_then ?_
        refine G_ret ?_
        refine N_block_ret ?_
        refine N_then_ret ?_
        refine N_then_ret ?_
        obtain rfl := Option.some.inj hm
        obtain rfl := hout4125 _ rfl
        have hm := hmo4132; simp only [Sum.elim_inr] at hm
        refine N_block_ret ?_
        refine N_meet_ret ?_
        refine N_then_ret ?_
        obtain rfl := Option.some.inj hm
        refine N_ret [.int .i64 s4123] (RVs_cons (RV_tmp (by kernel_rfl)) RVs_nil) ?_
        exact ⟨rfl, M4139.pick [] (by kernel_rfl)⟩
      · refine G_cond_f (b := r4136) hc4140 (by kernel_rfl) ?_
        refine G_skip ?_
        refine N_block ?_
        refine N_then ?_
        refine G_region ?_
        refine W_run 2 [(0, .slice p4096 x4094.length c4097), (1, .func (.func 93) #[] #[]), (7, .int .i64 (x4094.length : Int)), (8, .int .i64 (w64 (s4123 + 1)))] w4137 (by kernel_rfl) ?_
        refine W_nil ?_
        obtain rfl := Option.some.inj hm
        exact N_loop fun a ha => ⟨_, rfl, M4139.pick [] (by kernel_rfl), ha.sub (by kernel_rfl)⟩
    · refine G_cond_f (b := (decide (s4123 < (x4094.length : Int)))) hc4134 (by kernel_rfl) ?_
      refine G_exit ?_
      refine N_then_exit ?_
      refine N_then_exit ?_
      refine N_block_eq ?_
      obtain rfl := Option.some.inj hm
      obtain rfl := hout4125 _ rfl
      exact N_meet fun a ha => ⟨_, rfl, M4128.pick [] (by kernel_rfl), ha.sub (by kernel_rfl)⟩
  · intro a4141 w4142 ⟨o4133, hout_, M4143, hS4144⟩
    refine N_use hS4144 ?_
    subst hout_
    have hm := hmo4132; simp only [Sum.elim_inl] at hm
    refine N_then ?_
    refine G_seq ?_
    refine G_region ?_
    refine W_run 1 [(4, .int .i64 (-1))] w4142 (by kernel_rfl) ?_
    refine W_nil ?_
    refine N_then ?_
    refine G_ret ?_
    obtain rfl := Option.some.inj hm
    refine N_ret [.int .i64 (-1)] (RVs_cons (RV_tmp (by kernel_rfl)) RVs_nil) ?_
    exact ⟨rfl, M4143.pick [] (by kernel_rfl)⟩
theorem c_slices_ContainsFunc_92__i_isMemory_1 (w : World) (x4089 : List Int) (p4091 : Option Addr) (c4092 : Nat) (h4093 : rdS encI w x4089 p4091 c4092) {r : Bool} (hm : M.slices_ContainsFunc_92__i_isMemory_1 x4089 = some r) :
    Calls Try.prog 92 #[.slice p4091 x4089.length c4092, .func (.func 93) #[] #[]] w fun e w' => e = .returned (.bool r) ∧ Mem [] w w' [] := by
  unfold M.slices_ContainsFunc_92__i_isMemory_1 at hm
  refine C_enter Try.func92 rfl (by kernel_rfl) ?_
  have M0 := Mem.refl [] w
  refine G_seq ?_
  refine G_region ?_
  refine W_run 1 [(0, .slice p4091 x4089.length c4092), (1, .func (.func 93) #[] #[])] w (by kernel_rfl) ?_
  refine W_nil ?_
  refine N_then ?_
  refine G_seq ?_
  refine G_region ?_
  refine W_run 2 [(5, .slice p4091 x4089.length c4092), (6, .func (.func 93) #[] #[])] w (by kernel_rfl) ?_
  obtain ⟨r4145, hr4145, hm⟩ := gx_bind hm
  refine W_call 105 #[.slice p4091 x4089.length c4092, .func (.func 93) #[] #[]] (by kernel_rfl) (by kernel_rfl) ?_
  refine (c_slices_IndexFunc_105__i_isMemory_1 w x4089 p4091 c4092 (h4093.mem0 M0) hr4145).mono ?_
  rintro e_ w4146 ⟨rfl, K4147⟩
  have M4148 := M0.call0 K4147
  refine ⟨_, rfl, ?_⟩
  refine W_run 2 [(4, .bool (decide (r4145 ≥ 0)))] w4146 (by kernel_rfl) ?_
  refine W_nil ?_
  refine N_then ?_
  refine G_ret ?_
  obtain rfl := Option.some.inj hm
  refine N_ret [.bool (decide (r4145 ≥ 0))] (RVs_cons (RV_tmp (by kernel_rfl)) RVs_nil) ?_
  exact ⟨rfl, M4148.pick [] (by kernel_rfl)⟩
end Go.Proofs.Ytjbblcdajdpfkaa
