/- The walks, printed by program: whenever the model gives r, the call returns r. Part 4. -/
import Derived.Test.YtjbblcdajdpfkaaM
import Derived.Test.YtjbblcdajdpfkaaProg
import Derived.Test.YtjbblcdajdpfkaaC3
set_option linter.unusedVariables false
set_option maxRecDepth 100000
set_option maxHeartbeats 4000000
namespace Go.Proofs.Ytjbblcdajdpfkaa
open Go.Gx
theorem c_i_Copying_round (w : World) (x4847 : Copying) (p4851 : Option Addr) (c4852 : Nat) (sg4853 : Seg) (ho4854 : ownS encI x4847.Memory p4851 c4852 sg4853) (p4856 : Option Addr) (c4857 : Nat) (sg4858 : Seg) (ho4859 : ownS encI x4847.Copy p4856 c4857 sg4858) (p4861 : Option Addr) (c4862 : Nat) (sg4863 : Seg) (ho4864 : ownS encB x4847.Dirty p4861 c4862 sg4863) (b4849 : Nat) (x4865 : Int) (hA : ∀ q ∈ List.flatten [[(b4849, .cells ⟨[.slice p4851 x4847.Memory.length c4852, .slice p4856 x4847.Copy.length c4857, .slice p4861 x4847.Dirty.length c4862]⟩ 28 (0, 0))], sg4853, sg4858, sg4863], w.heap[q.1]? = some q.2) (hN : (idsOf [[(b4849, .cells ⟨[.slice p4851 x4847.Memory.length c4852, .slice p4856 x4847.Copy.length c4857, .slice p4861 x4847.Dirty.length c4862]⟩ 28 (0, 0))], sg4853, sg4858, sg4863]).Nodup) {r : Int × (List Int) × (List Int) × (List Bool)} (hm : M.i_Copying_round x4847 x4865 = some r) :
    Calls Try.prog 75 #[.pointer (some ⟨b4849, 0, none⟩), .int .i64 x4865] w fun e w' => ∃ (p4866 : Option Addr) (c4867 : Nat) (sg4868 : Seg), ∃ (p4869 : Option Addr) (c4870 : Nat) (sg4871 : Seg), ∃ (p4872 : Option Addr) (c4873 : Nat) (sg4874 : Seg), e = .returned (.int .i64 r.1) ∧ ownS encI r.2.1 p4866 c4867 sg4868 ∧ ownS encI r.2.2.1 p4869 c4870 sg4871 ∧ ownS encB r.2.2.2 p4872 c4873 sg4874 ∧ Mem (idsOf [[(b4849, .cells ⟨[.slice p4851 x4847.Memory.length c4852, .slice p4856 x4847.Copy.length c4857, .slice p4861 x4847.Dirty.length c4862]⟩ 28 (0, 0))], sg4853, sg4858, sg4863]) w w' [[(b4849, .cells ⟨[.slice p4866 r.2.1.length c4867, .slice p4869 r.2.2.1.length c4870, .slice p4872 r.2.2.2.length c4873]⟩ 28 (0, 0))], sg4868, sg4871, sg4874] := by
  unfold M.i_Copying_round at hm
  refine C_enter Try.func75 rfl (by kernel_rfl) ?_
  have M0 := Mem.start' w [[(b4849, .cells ⟨[.slice p4851 x4847.Memory.length c4852, .slice p4856 x4847.Copy.length c4857, .slice p4861 x4847.Dirty.length c4862]⟩ 28 (0, 0))], sg4853, sg4858, sg4863] hA hN
  refine G_seq ?_
  refine G_region ?_
  refine W_run 1 [(0, .pointer (some ⟨b4849, 0, none⟩)), (1, .int .i64 x4865)] w (by kernel_rfl) ?_
  refine W_nil ?_
  refine N_then ?_
  refine G_seq ?_
  refine G_region ?_
  refine W_run 1 [(0, .pointer (some ⟨b4849, 0, none⟩)), (1, .int .i64 x4865), (5, .int .i64 0)] w (by kernel_rfl) ?_
  refine W_nil ?_
  refine N_then ?_
  refine G_seq ?_
  refine G_seq ?_
  refine G_region ?_
  refine W_run 3 [(0, .pointer (some ⟨b4849, 0, none⟩)), (1, .int .i64 x4865), (5, .int .i64 0), (10, .pointer (some ⟨b4849, 2, none⟩))] w (by kernel_rfl) ?_
  refine W_val (.slice p4861 x4847.Dirty.length c4862) w (by kernel_rfl) (E_load (e := 28) (fr := (0, 0)) _ _ false 1 b4849 2 [.slice p4851 x4847.Memory.length c4852, .slice p4856 x4847.Copy.length c4857, .slice p4861 x4847.Dirty.length c4862] (.slice p4861 x4847.Dirty.length c4862) rfl (by kernel_rfl) (by kernel_rfl) (by kernel_rfl) (M0.blk 0 (b := b4849) (o := .cells ⟨[.slice p4851 x4847.Memory.length c4852, .slice p4856 x4847.Copy.length c4857, .slice p4861 x4847.Dirty.length c4862]⟩ 28 (0, 0)) (by kernel_rfl))) ?_
  refine W_run 2 [(0, .pointer (some ⟨b4849, 0, none⟩)), (1, .int .i64 x4865), (5, .int .i64 0), (11, .slice p4861 x4847.Dirty.length c4862), (12, .int .i64 (x4847.Dirty.length : Int)), (13, .int .i64 0)] w (by kernel_rfl) ?_
  refine W_nil ?_
  refine N_then ?_
  obtain ⟨out5310, hw5311, hmo5312⟩ := gx_bind hm
  refine G_meet (fun a w' => ∃ (sg5318 : Seg), ∃ (sg5320 : Seg), ownS encI out5310.2.1 p4856 c4857 sg5318 ∧ ownS encB out5310.2.2 p4861 c4862 sg5320 ∧ Mem (idsOf [[(b4849, .cells ⟨[.slice p4851 x4847.Memory.length c4852, .slice p4856 x4847.Copy.length c4857, .slice p4861 x4847.Dirty.length c4862]⟩ 28 (0, 0))], sg4853, sg4858, sg4863]) w w' [[(b4849, .cells ⟨[.slice p4851 x4847.Memory.length c4852, .slice p4856 out5310.2.1.length c4857, .slice p4861 out5310.2.2.length c4862]⟩ 28 (0, 0))], sg4853, sg5318, sg5320] ∧ Sat Try.f75.ntmps [(5, .int .i64 out5310.1)] a) ?_ ?_
  · refine G_block ?_
    refine G_while (σ := Int × Int × List Int × List Bool) (ρ := Int × List Int × List Bool) (fun s5303 a w' => ∃ (sg5313 : Seg), ∃ (sg5315 : Seg), ownS encI s5303.2.2.1 p4856 c4857 sg5313 ∧ ownS encB s5303.2.2.2 p4861 c4862 sg5315 ∧ Mem (idsOf [[(b4849, .cells ⟨[.slice p4851 x4847.Memory.length c4852, .slice p4856 x4847.Copy.length c4857, .slice p4861 x4847.Dirty.length c4862]⟩ 28 (0, 0))], sg4853, sg4858, sg4863]) w w' [[(b4849, .cells ⟨[.slice p4851 x4847.Memory.length c4852, .slice p4856 s5303.2.2.1.length c4857, .slice p4861 s5303.2.2.2.length c4862]⟩ 28 (0, 0))], sg4853, sg5313, sg5315] ∧ Sat Try.f75.ntmps [(0, .pointer (some ⟨b4849, 0, none⟩)), (1, .int .i64 x4865), (5, .int .i64 s5303.1), (11, .slice p4861 s5303.2.2.2.length c4862), (12, .int .i64 (x4847.Dirty.length : Int)), (13, .int .i64 s5303.2.1)] a) hw5311 (fun a ha => ⟨sg4858, sg4863, ho4859, ho4864, M0.pick [0, 1, 2, 3] (by kernel_rfl), ha.sub (by kernel_rfl)⟩) ?_
    clear hm
    intro s5303 x5304 hm hout5305 a5306 w5307 ⟨sg5313, sg5315, ho5314, ho5316, M5308, hS5309⟩
    refine G_use hS5309 ?_
    refine G_seq ?_
    refine G_region ?_
    refine W_run 1 [(0, .pointer (some ⟨b4849, 0, none⟩)), (1, .int .i64 x4865), (5, .int .i64 s5303.1), (11, .slice p4861 s5303.2.2.2.length c4862), (12, .int .i64 (x4847.Dirty.length : Int)), (13, .int .i64 s5303.2.1), (14, .bool (decide (s5303.2.1 < (x4847.Dirty.length : Int))))] w5307 (by kernel_rfl) ?_
    refine W_nil ?_
    refine N_then ?_
    refine G_seq ?_
    rcases gx_bif hm with ⟨hc5322, hm⟩ | ⟨hc5322, hm⟩
    · refine G_cond_t (b := (decide (s5303.2.1 < (x4847.Dirty.length : Int)))) hc5322 (by kernel_rfl) ?_
      refine G_skip ?_
      refine N_then ?_
      refine G_seq ?_
      refine G_block ?_
      refine G_seq ?_
      refine G_region ?_
      refine W_run 1 [(0, .pointer (some ⟨b4849, 0, none⟩)), (1, .int .i64 x4865), (5, .int .i64 s5303.1), (11, .slice p4861 s5303.2.2.2.length c4862), (12, .int .i64 (x4847.Dirty.length : Int)), (13, .int .i64 s5303.2.1), (15, .int .i64 s5303.2.1)] w5307 (by kernel_rfl) ?_
      obtain ⟨y5323, hy5323, hm⟩ := gx_bind hm
      refine W_val (elemP p4861 (s5303.2.1.toNat * 1)) w5307 (by kernel_rfl) (E_index (E := encB) _ _ _ s5303.2.2.2.length c4862 .i64 s5303.2.1 1 (y := y5323) rfl (by kernel_rfl) (by kernel_rfl) (by kernel_rfl) (ho5316.rd M5308 3 (by kernel_rfl)) rfl hy5323) ?_
      refine W_val (.bool y5323) w5307 (by kernel_rfl) (E_loadE (E := encB) _ _ false 1 s5303.2.1 0 (s5303.2.1.toNat * 1) y5323 (.bool y5323) rfl (by kernel_rfl) (by kernel_rfl) (by kernel_rfl) (ho5316.rd M5308 3 (by kernel_rfl)) hy5323 rfl) ?_
      refine W_run 2 [(0, .pointer (some ⟨b4849, 0, none⟩)), (1, .int .i64 x4865), (5, .int .i64 s5303.1), (6, .int .i64 s5303.2.1), (7, .bool y5323), (11, .slice p4861 s5303.2.2.2.length c4862), (12, .int .i64 (x4847.Dirty.length : Int)), (13, .int .i64 s5303.2.1)] w5307 (by kernel_rfl) ?_
      refine W_nil ?_
      refine N_then ?_
      refine G_seq ?_
      obtain ⟨o5325, ho5326, hm5327⟩ := gx_bind hm
      refine G_meet (fun a w' => Mem (idsOf [[(b4849, .cells ⟨[.slice p4851 x4847.Memory.length c4852, .slice p4856 x4847.Copy.length c4857, .slice p4861 x4847.Dirty.length c4862]⟩ 28 (0, 0))], sg4853, sg4858, sg4863]) w w' [[(b4849, .cells ⟨[.slice p4851 x4847.Memory.length c4852, .slice p4856 s5303.2.2.1.length c4857, .slice p4861 s5303.2.2.2.length c4862]⟩ 28 (0, 0))], sg4853, sg5313, sg5315] ∧ Sat Try.f75.ntmps [(0, .pointer (some ⟨b4849, 0, none⟩)), (1, .int .i64 x4865), (5, .int .i64 s5303.1), (6, .int .i64 s5303.2.1), (11, .slice p4861 s5303.2.2.2.length c4862), (12, .int .i64 (x4847.Dirty.length : Int)), (13, .int .i64 s5303.2.1), (23, .bool o5325)] a) ?_ ?_
      · have hm := ho5326
        refine G_region ?_
        refine W_run 2 [(0, .pointer (some ⟨b4849, 0, none⟩)), (1, .int .i64 x4865), (5, .int .i64 s5303.1), (6, .int .i64 s5303.2.1), (11, .slice p4861 s5303.2.2.2.length c4862), (12, .int .i64 (x4847.Dirty.length : Int)), (13, .int .i64 s5303.2.1), (19, .bool y5323)] w5307 (by kernel_rfl) ?_
        rcases gx_bif hm with ⟨hc5328, hm⟩ | ⟨hc5328, hm⟩
        · refine W_known 19 true (by kernel_rfl) hc5328 ?_
          refine W_run 4 [(0, .pointer (some ⟨b4849, 0, none⟩)), (1, .int .i64 x4865), (5, .int .i64 s5303.1), (6, .int .i64 s5303.2.1), (11, .slice p4861 s5303.2.2.2.length c4862), (12, .int .i64 (x4847.Dirty.length : Int)), (13, .int .i64 s5303.2.1), (23, .bool (decide (s5303.1 < x4865)))] w5307 (by kernel_rfl) ?_
          refine W_nil ?_
          obtain rfl := Option.some.inj hm
          exact N_meet fun a ha => ⟨M5308.pick [0, 1, 2, 3] (by kernel_rfl), ha.sub (by kernel_rfl)⟩
        · refine W_known 19 false (by kernel_rfl) hc5328 ?_
          refine W_run 4 [(0, .pointer (some ⟨b4849, 0, none⟩)), (1, .int .i64 x4865), (5, .int .i64 s5303.1), (6, .int .i64 s5303.2.1), (11, .slice p4861 s5303.2.2.2.length c4862), (12, .int .i64 (x4847.Dirty.length : Int)), (13, .int .i64 s5303.2.1), (23, .bool false)] w5307 (by kernel_rfl) ?_
          refine W_nil ?_
          obtain rfl := Option.some.inj hm
          exact N_meet fun a ha => ⟨M5308.pick [0, 1, 2, 3] (by kernel_rfl), ha.sub (by kernel_rfl)⟩
      · intro a5331 w5329 ⟨M5330, hS5332⟩
        refine N_use hS5332 ?_
        have hm := hm5327
        refine N_then ?_
        obtain ⟨o5428, ho5429, hm5430⟩ := gx_bind hm
        refine G_meet (fun a w' => ∃ (sg5431 : Seg), ∃ (sg5433 : Seg), ownS encI o5428.2.1 p4856 c4857 sg5431 ∧ ownS encB o5428.2.2 p4861 c4862 sg5433 ∧ Mem (idsOf [[(b4849, .cells ⟨[.slice p4851 x4847.Memory.length c4852, .slice p4856 x4847.Copy.length c4857, .slice p4861 x4847.Dirty.length c4862]⟩ 28 (0, 0))], sg4853, sg4858, sg4863]) w w' [[(b4849, .cells ⟨[.slice p4851 x4847.Memory.length c4852, .slice p4856 o5428.2.1.length c4857, .slice p4861 o5428.2.2.length c4862]⟩ 28 (0, 0))], sg4853, sg5431, sg5433] ∧ Sat Try.f75.ntmps [(0, .pointer (some ⟨b4849, 0, none⟩)), (1, .int .i64 x4865), (5, .int .i64 o5428.1), (11, .slice p4861 o5428.2.2.length c4862), (12, .int .i64 (x4847.Dirty.length : Int)), (13, .int .i64 s5303.2.1)] a) ?_ ?_
        · have hm := ho5429
          rcases gx_bif hm with ⟨hc5435, hm⟩ | ⟨hc5435, hm⟩
          · refine G_cond_t (b := o5325) hc5435 (by kernel_rfl) ?_
            refine G_seq ?_
            obtain ⟨y5438, hy5438, hm⟩ := gx_bind hm
            obtain ⟨y5439, hy5439, hm⟩ := gx_bind hm
            have M5441 : Mem (idsOf [[(b4849, .cells ⟨[.slice p4851 x4847.Memory.length c4852, .slice p4856 x4847.Copy.length c4857, .slice p4861 x4847.Dirty.length c4862]⟩ 28 (0, 0))], sg4853, sg4858, sg4863]) w w5329 ([[(b4849, .cells ⟨[.slice p4851 x4847.Memory.length c4852, .slice p4856 s5303.2.2.1.length c4857, .slice p4861 s5303.2.2.2.length c4862]⟩ 28 (0, 0))], sg4853, sg5315] ++ (List.range 19).map (fun i => ([[], [], [], [], [], [], [], [], [], [], [], [], [], [], [], [], [], [], sg5313] : List Seg).getD i [])) := M5330.pick [0, 1, 3, 300000, 300001, 300002, 300003, 300004, 300005, 300006, 300007, 300008, 300009, 300010, 300011, 300012, 300013, 300014, 300015, 300016, 300017, 2] (by kernel_rfl)
            refine G_sub [(0, .pointer (some ⟨b4849, 0, none⟩)), (1, .int .i64 x4865), (5, .int .i64 s5303.1), (6, .int .i64 s5303.2.1), (11, .slice p4861 s5303.2.2.2.length c4862), (12, .int .i64 (x4847.Dirty.length : Int)), (13, .int .i64 s5303.2.1), (23, .bool o5325)] (by kernel_rfl) ?_
            refine G_dagL 19 [[], [0], [1], [2], [], [], [5], [6], [7], [], [], [10], [11], [12], [], [13, 14], [15], [3, 4], [16, 17]] [[], [], [], [], [], [], [], [], [], [], [], [], [], [], [], [], [], [], []] [[], [], [], [], [], [], [], [], [], [], [], [], [], [], [], [], [], [], []] [[], [], [], [], [], [], [], [], [], [], [], [], [], [], [], [], [], [], []] [[], [], [], [], [], [], [], [], [], [], [], [], [], [], [], [], [], [], []] [[], [], [], [], [], [], [], [], [], [], [], [], [], [], [], [], [], [18], []] (fun i => ([[], [], [], [], [], [], [], [], [], [], [], [], [], [], [], [], [], [], sg5313] : List Seg).getD i []) (fun i => ([fun f v s => v = (.pointer (some ⟨b4849, 0, none⟩) : Value) ∧ s = [], fun f v s => v = (.pointer (some ⟨b4849, 0, none⟩) : Value) ∧ s = [], fun f v s => v = (.pointer (some ⟨b4849, 1, none⟩) : Value) ∧ s = [], fun f v s => v = (.slice p4856 s5303.2.2.1.length c4857 : Value) ∧ s = [], fun f v s => v = (.int .i64 s5303.2.1 : Value) ∧ s = [], fun f v s => v = (.pointer (some ⟨b4849, 0, none⟩) : Value) ∧ s = [], fun f v s => v = (.pointer (some ⟨b4849, 0, none⟩) : Value) ∧ s = [], fun f v s => v = (.pointer (some ⟨b4849, 2, none⟩) : Value) ∧ s = [], fun f v s => v = (.slice p4861 s5303.2.2.2.length c4862 : Value) ∧ s = [], fun f v s => v = (.int .i64 s5303.2.1 : Value) ∧ s = [], fun f v s => v = (.pointer (some ⟨b4849, 0, none⟩) : Value) ∧ s = [], fun f v s => v = (.pointer (some ⟨b4849, 0, none⟩) : Value) ∧ s = [], fun f v s => v = (.pointer (some ⟨b4849, 0, none⟩) : Value) ∧ s = [], fun f v s => v = (.slice p4851 x4847.Memory.length c4852 : Value) ∧ s = [], fun f v s => v = (.int .i64 s5303.2.1 : Value) ∧ s = [], fun f v s => v = (elemP p4851 (s5303.2.1.toNat * 1) : Value) ∧ s = [], fun f v s => v = (.int .i64 y5438 : Value) ∧ s = [], fun f v s => v = (elemP p4856 (s5303.2.1.toNat * 1) : Value) ∧ s = [], fun f v s => v = undef ∧ ownS encI (s5303.2.2.1.set s5303.2.1.toNat y5438) p4856 c4857 s] : List ((Nat → Value) → Value → Seg → Prop)).getD i (fun _ _ _ => False)) (fun j f v => ∃ s, (fun i => ([fun f v s => v = (.pointer (some ⟨b4849, 0, none⟩) : Value) ∧ s = [], fun f v s => v = (.pointer (some ⟨b4849, 0, none⟩) : Value) ∧ s = [], fun f v s => v = (.pointer (some ⟨b4849, 1, none⟩) : Value) ∧ s = [], fun f v s => v = (.slice p4856 s5303.2.2.1.length c4857 : Value) ∧ s = [], fun f v s => v = (.int .i64 s5303.2.1 : Value) ∧ s = [], fun f v s => v = (.pointer (some ⟨b4849, 0, none⟩) : Value) ∧ s = [], fun f v s => v = (.pointer (some ⟨b4849, 0, none⟩) : Value) ∧ s = [], fun f v s => v = (.pointer (some ⟨b4849, 2, none⟩) : Value) ∧ s = [], fun f v s => v = (.slice p4861 s5303.2.2.2.length c4862 : Value) ∧ s = [], fun f v s => v = (.int .i64 s5303.2.1 : Value) ∧ s = [], fun f v s => v = (.pointer (some ⟨b4849, 0, none⟩) : Value) ∧ s = [], fun f v s => v = (.pointer (some ⟨b4849, 0, none⟩) : Value) ∧ s = [], fun f v s => v = (.pointer (some ⟨b4849, 0, none⟩) : Value) ∧ s = [], fun f v s => v = (.slice p4851 x4847.Memory.length c4852 : Value) ∧ s = [], fun f v s => v = (.int .i64 s5303.2.1 : Value) ∧ s = [], fun f v s => v = (elemP p4851 (s5303.2.1.toNat * 1) : Value) ∧ s = [], fun f v s => v = (.int .i64 y5438 : Value) ∧ s = [], fun f v s => v = (elemP p4856 (s5303.2.1.toNat * 1) : Value) ∧ s = [], fun f v s => v = undef ∧ ownS encI (s5303.2.2.1.set s5303.2.1.toNat y5438) p4856 c4857 s] : List ((Nat → Value) → Value → Seg → Prop)).getD i (fun _ _ _ => False)) j f v s) [] [8, 9, 18] [18] (fun _ _ _ s h => ⟨s, h⟩) (by kernel_rfl) (by kernel_rfl) M5441 (by kernel_rfl) (by kernel_rfl) (by kernel_rfl) (by kernel_rfl) (allOb_cons ?_ (allOb_cons ?_ (allOb_cons ?_ (allOb_cons ?_ (allOb_cons ?_ (allOb_cons ?_ (allOb_cons ?_ (allOb_cons ?_ (allOb_cons ?_ (allOb_cons ?_ (allOb_cons ?_ (allOb_cons ?_ (allOb_cons ?_ (allOb_cons ?_ (allOb_cons ?_ (allOb_cons ?_ (allOb_cons ?_ (allOb_cons ?_ (allOb_cons ?_ allOb_nil))))))))))))))))))) ?_
            · intro g5436 f5437
              intro R w5442 M5443
              refine W_run 1 [(24, .pointer (some ⟨b4849, 0, none⟩))] w5442 (by kernel_rfl) ?_
              exact W_nil (ob_end (.pointer (some ⟨b4849, 0, none⟩)) [] rfl (by kernel_rfl) ⟨by kernel_rfl, rfl⟩ M5443)
            · intro g5436 f5437
              intro v0_ hb0_
              obtain ⟨rfl, _⟩ := hb0_
              intro R w5446 M5447
              refine W_run 1 [(25, .pointer (some ⟨b4849, 0, none⟩))] w5446 (by kernel_rfl) ?_
              exact W_nil (ob_end (.pointer (some ⟨b4849, 0, none⟩)) [] rfl (by kernel_rfl) ⟨by kernel_rfl, rfl⟩ M5447)
            · intro g5436 f5437
              intro v1_ hb1_
              obtain ⟨rfl, _⟩ := hb1_
              intro R w5450 M5451
              refine W_run 1 [(26, .pointer (some ⟨b4849, 1, none⟩))] w5450 (by kernel_rfl) ?_
              exact W_nil (ob_end (.pointer (some ⟨b4849, 1, none⟩)) [] rfl (by kernel_rfl) ⟨by kernel_rfl, rfl⟩ M5451)
            · intro g5436 f5437
              intro v2_ hb2_
              obtain ⟨rfl, _⟩ := hb2_
              intro R w5454 M5455
              refine W_val (.slice p4856 s5303.2.2.1.length c4857) w5454 (by kernel_rfl) (E_load (e := 28) (fr := (0, 0)) _ _ false 1 b4849 1 [.slice p4851 x4847.Memory.length c4852, .slice p4856 s5303.2.2.1.length c4857, .slice p4861 s5303.2.2.2.length c4862] (.slice p4856 s5303.2.2.1.length c4857) rfl (by kernel_rfl) (by kernel_rfl) (by kernel_rfl) (M5455.blk 0 (b := b4849) (o := .cells ⟨[.slice p4851 x4847.Memory.length c4852, .slice p4856 s5303.2.2.1.length c4857, .slice p4861 s5303.2.2.2.length c4862]⟩ 28 (0, 0)) (by kernel_rfl))) ?_
              exact W_nil (ob_end (.slice p4856 s5303.2.2.1.length c4857) [] rfl (by kernel_rfl) ⟨by kernel_rfl, rfl⟩ M5455)
            · intro g5436 f5437
              intro R w5458 M5459
              refine W_run 1 [(28, .int .i64 s5303.2.1)] w5458 (by kernel_rfl) ?_
              exact W_nil (ob_end (.int .i64 s5303.2.1) [] rfl (by kernel_rfl) ⟨by kernel_rfl, rfl⟩ M5459)
            · intro g5436 f5437
              intro R w5462 M5463
              refine W_run 1 [(29, .pointer (some ⟨b4849, 0, none⟩))] w5462 (by kernel_rfl) ?_
              exact W_nil (ob_end (.pointer (some ⟨b4849, 0, none⟩)) [] rfl (by kernel_rfl) ⟨by kernel_rfl, rfl⟩ M5463)
            · intro g5436 f5437
              intro v5_ hb5_
              obtain ⟨rfl, _⟩ := hb5_
              intro R w5466 M5467
              refine W_run 1 [(30, .pointer (some ⟨b4849, 0, none⟩))] w5466 (by kernel_rfl) ?_
              exact W_nil (ob_end (.pointer (some ⟨b4849, 0, none⟩)) [] rfl (by kernel_rfl) ⟨by kernel_rfl, rfl⟩ M5467)
            · intro g5436 f5437
              intro v6_ hb6_
              obtain ⟨rfl, _⟩ := hb6_
              intro R w5470 M5471
              refine W_run 1 [(31, .pointer (some ⟨b4849, 2, none⟩))] w5470 (by kernel_rfl) ?_
              exact W_nil (ob_end (.pointer (some ⟨b4849, 2, none⟩)) [] rfl (by kernel_rfl) ⟨by kernel_rfl, rfl⟩ M5471)
            · intro g5436 f5437
              intro v7_ hb7_
              obtain ⟨rfl, _⟩ := hb7_
              intro R w5474 M5475
              refine W_val (.slice p4861 s5303.2.2.2.length c4862) w5474 (by kernel_rfl) (E_load (e := 28) (fr := (0, 0)) _ _ false 1 b4849 2 [.slice p4851 x4847.Memory.length c4852, .slice p4856 s5303.2.2.1.length c4857, .slice p4861 s5303.2.2.2.length c4862] (.slice p4861 s5303.2.2.2.length c4862) rfl (by kernel_rfl) (by kernel_rfl) (by kernel_rfl) (M5475.blk 0 (b := b4849) (o := .cells ⟨[.slice p4851 x4847.Memory.length c4852, .slice p4856 s5303.2.2.1.length c4857, .slice p4861 s5303.2.2.2.length c4862]⟩ 28 (0, 0)) (by kernel_rfl))) ?_
              exact W_nil (ob_end (.slice p4861 s5303.2.2.2.length c4862) [] rfl (by kernel_rfl) ⟨by kernel_rfl, rfl⟩ M5475)
            · intro g5436 f5437
              intro R w5478 M5479
              refine W_run 1 [(33, .int .i64 s5303.2.1)] w5478 (by kernel_rfl) ?_
              exact W_nil (ob_end (.int .i64 s5303.2.1) [] rfl (by kernel_rfl) ⟨by kernel_rfl, rfl⟩ M5479)
            · intro g5436 f5437
              intro R w5482 M5483
              refine W_run 1 [(34, .pointer (some ⟨b4849, 0, none⟩))] w5482 (by kernel_rfl) ?_
              exact W_nil (ob_end (.pointer (some ⟨b4849, 0, none⟩)) [] rfl (by kernel_rfl) ⟨by kernel_rfl, rfl⟩ M5483)
            · intro g5436 f5437
              intro v10_ hb10_
              obtain ⟨rfl, _⟩ := hb10_
              intro R w5486 M5487
              refine W_run 1 [(35, .pointer (some ⟨b4849, 0, none⟩))] w5486 (by kernel_rfl) ?_
              exact W_nil (ob_end (.pointer (some ⟨b4849, 0, none⟩)) [] rfl (by kernel_rfl) ⟨by kernel_rfl, rfl⟩ M5487)
            · intro g5436 f5437
              intro v11_ hb11_
              obtain ⟨rfl, _⟩ := hb11_
              intro R w5490 M5491
              refine W_run 1 [(36, .pointer (some ⟨b4849, 0, none⟩))] w5490 (by kernel_rfl) ?_
              exact W_nil (ob_end (.pointer (some ⟨b4849, 0, none⟩)) [] rfl (by kernel_rfl) ⟨by kernel_rfl, rfl⟩ M5491)
            · intro g5436 f5437
              intro v12_ hb12_
              obtain ⟨rfl, _⟩ := hb12_
              intro R w5494 M5495
              refine W_val (.slice p4851 x4847.Memory.length c4852) w5494 (by kernel_rfl) (E_load (e := 28) (fr := (0, 0)) _ _ false 1 b4849 0 [.slice p4851 x4847.Memory.length c4852, .slice p4856 s5303.2.2.1.length c4857, .slice p4861 s5303.2.2.2.length c4862] (.slice p4851 x4847.Memory.length c4852) rfl (by kernel_rfl) (by kernel_rfl) (by kernel_rfl) (M5495.blk 0 (b := b4849) (o := .cells ⟨[.slice p4851 x4847.Memory.length c4852, .slice p4856 s5303.2.2.1.length c4857, .slice p4861 s5303.2.2.2.length c4862]⟩ 28 (0, 0)) (by kernel_rfl))) ?_
              exact W_nil (ob_end (.slice p4851 x4847.Memory.length c4852) [] rfl (by kernel_rfl) ⟨by kernel_rfl, rfl⟩ M5495)
            · intro g5436 f5437
              intro R w5498 M5499
              refine W_run 1 [(38, .int .i64 s5303.2.1)] w5498 (by kernel_rfl) ?_
              exact W_nil (ob_end (.int .i64 s5303.2.1) [] rfl (by kernel_rfl) ⟨by kernel_rfl, rfl⟩ M5499)
            · intro g5436 f5437
              intro v13_ hb13_
              obtain ⟨rfl, _⟩ := hb13_
              intro v14_ hb14_
              obtain ⟨rfl, _⟩ := hb14_
              intro R w5502 M5503
              refine W_val (elemP p4851 (s5303.2.1.toNat * 1)) w5502 (by kernel_rfl) (E_index (E := encI) _ _ _ x4847.Memory.length c4852 .i64 s5303.2.1 1 (y := y5438) rfl (by kernel_rfl) (by kernel_rfl) (by kernel_rfl) (ho4854.rd M5503 1 (by kernel_rfl)) rfl hy5438) ?_
              exact W_nil (ob_end (elemP p4851 (s5303.2.1.toNat * 1)) [] rfl (by kernel_rfl) ⟨by kernel_rfl, rfl⟩ M5503)
            · intro g5436 f5437
              intro v15_ hb15_
              obtain ⟨rfl, _⟩ := hb15_
              intro R w5506 M5507
              refine W_val (.int .i64 y5438) w5506 (by kernel_rfl) (E_loadE (E := encI) _ _ false 1 s5303.2.1 0 (s5303.2.1.toNat * 1) y5438 (.int .i64 y5438) rfl (by kernel_rfl) (by kernel_rfl) (by kernel_rfl) (ho4854.rd M5507 1 (by kernel_rfl)) hy5438 rfl) ?_
              exact W_nil (ob_end (.int .i64 y5438) [] rfl (by kernel_rfl) ⟨by kernel_rfl, rfl⟩ M5507)
            · intro g5436 f5437
              intro v3_ hb3_
              obtain ⟨rfl, _⟩ := hb3_
              intro v4_ hb4_
              obtain ⟨rfl, _⟩ := hb4_
              intro R w5510 M5511
              refine W_val (elemP p4856 (s5303.2.1.toNat * 1)) w5510 (by kernel_rfl) (E_index (E := encI) _ _ _ s5303.2.2.1.length c4857 .i64 s5303.2.1 1 (y := y5439) rfl (by kernel_rfl) (by kernel_rfl) (by kernel_rfl) (ho5314.rd M5511 4 (by kernel_rfl)) rfl hy5439) ?_
              exact W_nil (ob_end (elemP p4856 (s5303.2.1.toNat * 1)) [] rfl (by kernel_rfl) ⟨by kernel_rfl, rfl⟩ M5511)
            · intro g5436 f5437
              intro v16_ hb16_
              obtain ⟨rfl, _⟩ := hb16_
              intro v17_ hb17_
              obtain ⟨rfl, _⟩ := hb17_
              intro R w5514 M5515
              refine W_storeE (E := encI) _ _ _ false 1 s5303.2.1.toNat 0 (s5303.2.1.toNat * 1) y5439 y5438 (.int .i64 y5438) 3 M5515 ho5314 (by kernel_rfl) (by kernel_rfl) rfl (by kernel_rfl) (by kernel_rfl) (by kernel_rfl) (by kernel_rfl) (by kernel_rfl) (by kernel_rfl) (by kernel_rfl) (gxIdx_spec hy5439).2 rfl ?_
              intro w5516 sg5518 ho5519 M5517
              exact W_nil (ob_none sg5518 rfl ⟨rfl, ho5519⟩ M5517)
            · intro g5436 f5437
              intro v8_ hb8_
              obtain ⟨rfl, _⟩ := hb8_
              intro v9_ hb9_
              obtain ⟨rfl, _⟩ := hb9_
              intro v18_ hb18_
              obtain ⟨rfl, ho5440⟩ := hb18_
              intro w5520 M5521
              have M5522 : Mem (idsOf [[(b4849, .cells ⟨[.slice p4851 x4847.Memory.length c4852, .slice p4856 x4847.Copy.length c4857, .slice p4861 x4847.Dirty.length c4862]⟩ 28 (0, 0))], sg4853, sg4858, sg4863]) w w5520 [[(b4849, .cells ⟨[.slice p4851 x4847.Memory.length c4852, .slice p4856 s5303.2.2.1.length c4857, .slice p4861 s5303.2.2.2.length c4862]⟩ 28 (0, 0))], sg4853, sg5315, (g5436 18)] := M5521
              have M5523 : Mem (idsOf [[(b4849, .cells ⟨[.slice p4851 x4847.Memory.length c4852, .slice p4856 x4847.Copy.length c4857, .slice p4861 x4847.Dirty.length c4862]⟩ 28 (0, 0))], sg4853, sg4858, sg4863]) w w5520 [[(b4849, .cells ⟨[.slice p4851 x4847.Memory.length c4852, .slice p4856 (s5303.2.2.1.set s5303.2.1.toNat y5438).length c4857, .slice p4861 s5303.2.2.2.length c4862]⟩ 28 (0, 0))], sg4853, sg5315, (g5436 18)] := by rw [@List.length_set _ s5303.2.2.1 s5303.2.1.toNat y5438]; exact M5522
              obtain ⟨y5524, hy5524, hm⟩ := gx_bind hm
              refine W_val (elemP p4861 (s5303.2.1.toNat * 1)) w5520 (by kernel_rfl) (E_index (E := encB) _ _ _ s5303.2.2.2.length c4862 .i64 s5303.2.1 1 (y := y5524) rfl (by kernel_rfl) (by kernel_rfl) (by kernel_rfl) (ho5316.rd M5523 2 (by kernel_rfl)) rfl hy5524) ?_
              refine W_storeE (E := encB) _ _ _ false 1 s5303.2.1.toNat 0 (s5303.2.1.toNat * 1) y5524 false (.bool false) 2 M5523 ho5316 (by kernel_rfl) (by kernel_rfl) rfl (by kernel_rfl) (by kernel_rfl) (by kernel_rfl) (by kernel_rfl) (by kernel_rfl) (by kernel_rfl) (by kernel_rfl) (gxIdx_spec hy5524).2 rfl ?_
              intro w5525 sg5527 ho5528 M5526
              refine W_conv 11 (.slice p4861 s5303.2.2.2.length c4862) (.slice p4861 (s5303.2.2.2.set s5303.2.1.toNat false).length c4862) (by kernel_rfl) (by rw [@List.length_set _ s5303.2.2.2 s5303.2.1.toNat false]) ?_
              refine W_conv 32 (.slice p4861 s5303.2.2.2.length c4862) (.slice p4861 (s5303.2.2.2.set s5303.2.1.toNat false).length c4862) (by kernel_rfl) (by rw [@List.length_set _ s5303.2.2.2 s5303.2.1.toNat false]) ?_
              have M5529 : Mem (idsOf [[(b4849, .cells ⟨[.slice p4851 x4847.Memory.length c4852, .slice p4856 x4847.Copy.length c4857, .slice p4861 x4847.Dirty.length c4862]⟩ 28 (0, 0))], sg4853, sg4858, sg4863]) w w5525 [[(b4849, .cells ⟨[.slice p4851 x4847.Memory.length c4852, .slice p4856 (s5303.2.2.1.set s5303.2.1.toNat y5438).length c4857, .slice p4861 (s5303.2.2.2.set s5303.2.1.toNat false).length c4862]⟩ 28 (0, 0))], sg4853, sg5527, (g5436 18)] := by rw [@List.length_set _ s5303.2.2.2 s5303.2.1.toNat false]; exact M5526
              refine W_nil ?_
              refine N_then ?_
              refine G_region ?_
              refine W_run 3 [(0, .pointer (some ⟨b4849, 0, none⟩)), (1, .int .i64 x4865), (5, .int .i64 (w64 (s5303.1 + 1))), (11, .slice p4861 (s5303.2.2.2.set s5303.2.1.toNat false).length c4862), (12, .int .i64 (x4847.Dirty.length : Int)), (13, .int .i64 s5303.2.1)] w5525 (by kernel_rfl) ?_
              refine W_nil ?_
              obtain rfl := Option.some.inj hm
              exact N_meet fun a ha => ⟨(g5436 18), sg5527, ho5440, ho5528, M5529.pick [0, 1, 3, 2] (by kernel_rfl), ha.sub (by kernel_rfl)⟩
          · refine G_cond_f (b := o5325) hc5435 (by kernel_rfl) ?_
            refine G_skip ?_
            obtain rfl := Option.some.inj hm
            exact N_meet fun a ha => ⟨sg5313, sg5315, ho5314, ho5316, M5330.pick [0, 1, 2, 3] (by kernel_rfl), ha.sub (by kernel_rfl)⟩
        · intro a5532 w5530 ⟨sg5431, sg5433, ho5432, ho5434, M5531, hS5533⟩
          refine N_use hS5533 ?_
          have hm := hm5430
          refine N_block ?_
          refine N_then ?_
          refine G_region ?_
          refine W_run 2 [(0, .pointer (some ⟨b4849, 0, none⟩)), (1, .int .i64 x4865), (5, .int .i64 o5428.1), (11, .slice p4861 o5428.2.2.length c4862), (12, .int .i64 (x4847.Dirty.length : Int)), (13, .int .i64 (w64 (s5303.2.1 + 1)))] w5530 (by kernel_rfl) ?_
          refine W_nil ?_
          obtain rfl := Option.some.inj hm
          exact N_loop fun a ha => ⟨_, rfl, sg5431, sg5433, ho5432, ho5434, M5531.pick [0, 1, 2, 3] (by kernel_rfl), ha.sub (by kernel_rfl)⟩
    · refine G_cond_f (b := (decide (s5303.2.1 < (x4847.Dirty.length : Int)))) hc5322 (by kernel_rfl) ?_
      refine G_exit ?_
      refine N_then_exit ?_
      refine N_then_exit ?_
      refine N_block_eq ?_
      obtain rfl := Option.some.inj hm
      obtain rfl := hout5305 _ rfl
      exact N_meet fun a ha => ⟨sg5313, sg5315, ho5314, ho5316, M5308.pick [0, 1, 2, 3] (by kernel_rfl), ha.sub (by kernel_rfl)⟩
  · intro a5534 w5535 ⟨sg5318, sg5320, ho5319, ho5321, M5536, hS5537⟩
    refine N_use hS5537 ?_
    have hm := hmo5312
    refine N_then ?_
    refine G_seq ?_
    refine G_region ?_
    refine W_run 2 [(4, .int .i64 out5310.1)] w5535 (by kernel_rfl) ?_
    refine W_nil ?_
    refine N_then ?_
    refine G_ret ?_
    obtain rfl := Option.some.inj hm
    refine N_ret [.int .i64 out5310.1] (RVs_cons (RV_tmp (by kernel_rfl)) RVs_nil) ?_
    exact ⟨p4851, c4852, sg4853, p4856, c4857, sg5318, p4861, c4862, sg5320, rfl, ho4854, ho5319, ho5321, M5536.pick [0, 1, 2, 3] (by kernel_rfl)⟩
theorem c_i_CopyRound (w : World) (x4751 : Copying) (p4753 : Option Addr) (c4754 : Nat) (h4755 : rdS encI w x4751.Memory p4753 c4754) (p4757 : Option Addr) (c4758 : Nat) (h4759 : rdS encI w x4751.Copy p4757 c4758) (p4761 : Option Addr) (c4762 : Nat) (h4763 : rdS encB w x4751.Dirty p4761 c4762) (x4764 : Int) {r : Copying × Int × Bool} (hm : M.i_CopyRound x4751 x4764 = some r) :
    Calls Try.prog 34 #[.agg #[.slice p4753 x4751.Memory.length c4754, .slice p4757 x4751.Copy.length c4758, .slice p4761 x4751.Dirty.length c4762], .int .i64 x4764] w fun e w' => ∃ (p4766 : Option Addr) (c4767 : Nat) (sg4768 : Seg), ∃ (p4770 : Option Addr) (c4771 : Nat) (sg4772 : Seg), ∃ (p4774 : Option Addr) (c4775 : Nat) (sg4776 : Seg), e = .returned (.tuple #[.agg #[.slice p4766 r.1.Memory.length c4767, .slice p4770 r.1.Copy.length c4771, .slice p4774 r.1.Dirty.length c4775], .int .i64 r.2.1, .bool r.2.2]) ∧ ownS encI r.1.Memory p4766 c4767 sg4768 ∧ ownS encI r.1.Copy p4770 c4771 sg4772 ∧ ownS encB r.1.Dirty p4774 c4775 sg4776 ∧ Mem [] w w' [sg4768, sg4772, sg4776] := by
  unfold M.i_CopyRound at hm
  refine C_enter Try.func34 rfl (by kernel_rfl) ?_
  have M0 := Mem.refl [] w
  refine G_seq ?_
  refine G_region ?_
  refine W_new (fun b => .pointer (some ⟨b, 0, none⟩)) (.cells ⟨[.slice p4753 x4751.Memory.length c4754, .slice p4757 x4751.Copy.length c4758, .slice p4761 x4751.Dirty.length c4762]⟩ 28 (0, 0)) M0 rfl (by kernel_rfl) (by kernel_rfl) ?_
  intro b4778 w4779 M4780
  refine W_new (fun b => .pointer (some ⟨b, 0, none⟩)) (.cells ⟨[.slice none 0 0, .slice none 0 0, .slice none 0 0]⟩ 28 (0, 0)) M4780 rfl (by kernel_rfl) (by kernel_rfl) ?_
  intro b4785 w4786 M4787
  refine W_run 2 [(1, .int .i64 x4764), (2, .pointer (some ⟨b4778, 0, none⟩)), (4, .pointer (some ⟨b4785, 0, none⟩))] w4786 (by kernel_rfl) ?_
  refine W_nil ?_
  refine N_then ?_
  refine G_seq ?_
  refine G_seq ?_
  obtain ⟨o4797, ho4798, hm4799⟩ := gx_bind hm
  refine G_meet (fun a w' => Mem [] w w' [[(b4778, .cells ⟨[.slice p4753 x4751.Memory.length c4754, .slice p4757 x4751.Copy.length c4758, .slice p4761 x4751.Dirty.length c4762]⟩ 28 (0, 0))], [(b4785, .cells ⟨[.slice none 0 0, .slice none 0 0, .slice none 0 0]⟩ 28 (0, 0))]] ∧ Sat Try.f34.ntmps [(1, .int .i64 x4764), (2, .pointer (some ⟨b4778, 0, none⟩)), (4, .pointer (some ⟨b4785, 0, none⟩)), (16, .bool o4797)] a) ?_ ?_
  · have hm := ho4798
    refine G_region ?_
    refine W_val (.agg #[.slice p4753 x4751.Memory.length c4754, .slice p4757 x4751.Copy.length c4758, .slice p4761 x4751.Dirty.length c4762]) w4786 (by kernel_rfl) (E_load (e := 28) (fr := (0, 0)) _ _ true 3 b4778 0 [.slice p4753 x4751.Memory.length c4754, .slice p4757 x4751.Copy.length c4758, .slice p4761 x4751.Dirty.length c4762] (.agg #[.slice p4753 x4751.Memory.length c4754, .slice p4757 x4751.Copy.length c4758, .slice p4761 x4751.Dirty.length c4762]) rfl (by kernel_rfl) (by kernel_rfl) (by kernel_rfl) (M4787.blk 0 (b := b4778) (o := .cells ⟨[.slice p4753 x4751.Memory.length c4754, .slice p4757 x4751.Copy.length c4758, .slice p4761 x4751.Dirty.length c4762]⟩ 28 (0, 0)) (by kernel_rfl))) ?_
    obtain ⟨r4800, hr4800, hm⟩ := gx_bind hm
    refine W_call 16 #[.agg #[.slice p4753 x4751.Memory.length c4754, .slice p4757 x4751.Copy.length c4758, .slice p4761 x4751.Dirty.length c4762]] (by kernel_rfl) (by kernel_rfl) ?_
    refine (c_i_IsCopying w4786 x4751 p4753 c4754 (h4755.mem0 M4787) p4757 c4758 (h4759.mem0 M4787) p4761 c4762 (h4763.mem0 M4787) hr4800).mono ?_
    rintro e_ w4801 ⟨rfl, K4802⟩
    have M4803 := M4787.call0 K4802
    refine ⟨_, rfl, ?_⟩
    refine W_run 2 [(1, .int .i64 x4764), (2, .pointer (some ⟨b4778, 0, none⟩)), (4, .pointer (some ⟨b4785, 0, none⟩)), (12, .bool (!r4800))] w4801 (by kernel_rfl) ?_
    rcases gx_bif hm with ⟨hc4804, hm⟩ | ⟨hc4804, hm⟩
    · refine W_known 12 true (by kernel_rfl) hc4804 ?_
      refine W_run 4 [(1, .int .i64 x4764), (2, .pointer (some ⟨b4778, 0, none⟩)), (4, .pointer (some ⟨b4785, 0, none⟩)), (16, .bool true)] w4801 (by kernel_rfl) ?_
      refine W_nil ?_
      obtain rfl := Option.some.inj hm
      exact N_meet fun a ha => ⟨M4803.pick [0, 1] (by kernel_rfl), ha.sub (by kernel_rfl)⟩
    · refine W_known 12 false (by kernel_rfl) hc4804 ?_
      refine W_run 1 [(1, .int .i64 x4764), (2, .pointer (some ⟨b4778, 0, none⟩)), (4, .pointer (some ⟨b4785, 0, none⟩)), (12, .bool false), (13, .int .i64 x4764)] w4801 (by kernel_rfl) ?_
      obtain ⟨r4805, hr4805, hm⟩ := gx_bind hm
      refine W_call 74 #[.int .i64 x4764, .int .i64 0, .int .i64 12] (by kernel_rfl) (by kernel_rfl) ?_
      refine (c_i_inside w4801 x4764 0 12 hr4805).mono ?_
      rintro e_ w4806 ⟨rfl, K4807⟩
      have M4808 := M4803.call0 K4807
      refine ⟨_, rfl, ?_⟩
      refine W_run 2 [(1, .int .i64 x4764), (2, .pointer (some ⟨b4778, 0, none⟩)), (4, .pointer (some ⟨b4785, 0, none⟩)), (16, .bool (!r4805))] w4806 (by kernel_rfl) ?_
      refine W_nil ?_
      obtain rfl := Option.some.inj hm
      exact N_meet fun a ha => ⟨M4808.pick [0, 1] (by kernel_rfl), ha.sub (by kernel_rfl)⟩
  · intro a4811 w4809 ⟨M4810, hS4812⟩
    refine N_use hS4812 ?_
    have hm := hm4799
    refine N_then ?_
    rcases gx_bif hm with ⟨hc4813, hm⟩ | ⟨hc4813, hm⟩
    · refine G_cond_t (b := o4797) hc4813 (by kernel_rfl) ?_
      refine G_seq ?_
      refine G_region ?_
      refine W_run 1 [(4, .pointer (some ⟨b4785, 0, none⟩)), (17, .agg #[.slice none 0 0, .slice none 0 0, .slice none 0 0])] w4809 (by kernel_rfl) ?_
      refine W_store _ _ _ true 3 b4785 0 [.slice none 0 0, .slice none 0 0, .slice none 0 0] 28 (.agg #[.slice none 0 0, .slice none 0 0, .slice none 0 0]) 1 [.slice none 0 0, .slice none 0 0, .slice none 0 0] M4810 (by kernel_rfl) rfl (by kernel_rfl) (by kernel_rfl) (by kernel_rfl) (by kernel_rfl) (by kernel_rfl) (by kernel_rfl) (by kernel_rfl) (by kernel_rfl) ?_
      intro w4817 M4818
      refine W_run 2 [(4, .pointer (some ⟨b4785, 0, none⟩)), (5, .int .i64 0), (6, .bool false)] w4817 (by kernel_rfl) ?_
      refine W_nil ?_
      refine N_then ?_
      refine G_ret ?_
      refine N_then_ret ?_
      obtain rfl := Option.some.inj hm
      refine N_ret [.agg #[.slice none 0 0, .slice none 0 0, .slice none 0 0], .int .i64 0, .bool false] (RVs_cons (RV_cell (g := true) (k := 3) (b := b4785) (off := 0) (cs := [.slice none 0 0, .slice none 0 0, .slice none 0 0]) (e := 28) (fr := (0, 0)) (v := .agg #[.slice none 0 0, .slice none 0 0, .slice none 0 0]) (M4818.blk 1 (b := b4785) (o := .cells ⟨[.slice none 0 0, .slice none 0 0, .slice none 0 0]⟩ 28 (0, 0)) (by kernel_rfl)) (by kernel_rfl) (by kernel_rfl) (by kernel_rfl)) (RVs_cons (RV_tmp (by kernel_rfl)) (RVs_cons (RV_tmp (by kernel_rfl)) RVs_nil))) ?_
      exact ⟨none, 0, [], none, 0, [], none, 0, [], rfl, ownS_nil, ownS_nil, ownS_nil, M4818.pick [100000, 100001, 100002] (by kernel_rfl)⟩
    · refine G_cond_f (b := o4797) hc4813 (by kernel_rfl) ?_
      refine G_skip ?_
      refine N_then ?_
      refine G_seq ?_
      refine G_region ?_
      refine W_val (.agg #[.slice p4753 x4751.Memory.length c4754, .slice p4757 x4751.Copy.length c4758, .slice p4761 x4751.Dirty.length c4762]) w4809 (by kernel_rfl) (E_load (e := 28) (fr := (0, 0)) _ _ true 3 b4778 0 [.slice p4753 x4751.Memory.length c4754, .slice p4757 x4751.Copy.length c4758, .slice p4761 x4751.Dirty.length c4762] (.agg #[.slice p4753 x4751.Memory.length c4754, .slice p4757 x4751.Copy.length c4758, .slice p4761 x4751.Dirty.length c4762]) rfl (by kernel_rfl) (by kernel_rfl) (by kernel_rfl) (M4810.blk 0 (b := b4778) (o := .cells ⟨[.slice p4753 x4751.Memory.length c4754, .slice p4757 x4751.Copy.length c4758, .slice p4761 x4751.Dirty.length c4762]⟩ 28 (0, 0)) (by kernel_rfl))) ?_
      obtain ⟨r4819, hr4819, hm⟩ := gx_bind hm
      refine W_call 71 #[.agg #[.slice p4753 x4751.Memory.length c4754, .slice p4757 x4751.Copy.length c4758, .slice p4761 x4751.Dirty.length c4762]] (by kernel_rfl) (by kernel_rfl) ?_
      refine (c_i_newCopying w4809 x4751 p4753 c4754 (h4755.mem0 M4810) p4757 c4758 (h4759.mem0 M4810) p4761 c4762 (h4763.mem0 M4810) hr4819).mono ?_
      rintro e_ w4835 ⟨p4821, c4822, sg4823, p4826, c4827, sg4828, p4831, c4832, sg4833, rfl, ho4824, ho4829, ho4834, K4836⟩
      have M4837 := M4810.call K4836
      refine ⟨_, rfl, ?_⟩
      refine W_new (fun b => .pointer (some ⟨b, 0, none⟩)) (.cells ⟨[.slice none 0 0, .slice none 0 0, .slice none 0 0]⟩ 28 (0, 0)) M4837 rfl (by kernel_rfl) (by kernel_rfl) ?_
      intro b4842 w4843 M4844
      refine W_store _ _ _ true 3 b4842 0 [.slice none 0 0, .slice none 0 0, .slice none 0 0] 28 (.agg #[.slice p4821 r4819.Memory.length c4822, .slice p4826 r4819.Copy.length c4827, .slice p4831 r4819.Dirty.length c4832]) 5 [.slice p4821 r4819.Memory.length c4822, .slice p4826 r4819.Copy.length c4827, .slice p4831 r4819.Dirty.length c4832] M4844 (by kernel_rfl) rfl (by kernel_rfl) (by kernel_rfl) (by kernel_rfl) (by kernel_rfl) (by kernel_rfl) (by kernel_rfl) (by kernel_rfl) (by kernel_rfl) ?_
      intro w4845 M4846
      refine W_nil ?_
      refine N_then ?_
      refine G_seq ?_
      refine G_region ?_
      refine W_run 1 [(4, .pointer (some ⟨b4785, 0, none⟩)), (7, .pointer (some ⟨b4842, 0, none⟩)), (20, .int .i64 x4764)] w4845 (by kernel_rfl) ?_
      obtain ⟨r5538, hr5538, hm⟩ := gx_bind hm
      refine W_call 75 #[.pointer (some ⟨b4842, 0, none⟩), .int .i64 x4764] (by kernel_rfl) (by kernel_rfl) ?_
      refine (c_i_Copying_round w4845 r4819 p4821 c4822 sg4823 ho4824 p4826 c4827 sg4828 ho4829 p4831 c4832 sg4833 ho4834 b4842 x4764 (M4846.hasPick [5, 2, 3, 4]) (M4846.nodupPick [5, 2, 3, 4] (by kernel_rfl)) hr5538).mono ?_
      rintro e_ w5554 ⟨p5540, c5541, sg5542, p5545, c5546, sg5547, p5550, c5551, sg5552, rfl, ho5543, ho5548, ho5553, K5555⟩
      have M5556 := M4846.callF' [5, 2, 3, 4] [0, 1] (by kernel_rfl) K5555
      refine ⟨_, rfl, ?_⟩
      refine W_run 1 [(4, .pointer (some ⟨b4785, 0, none⟩)), (7, .pointer (some ⟨b4842, 0, none⟩)), (8, .int .i64 r5538.1)] w5554 (by kernel_rfl) ?_
      refine W_nil ?_
      refine N_then ?_
      refine G_seq ?_
      refine G_region ?_
      refine W_val (.agg #[.slice p5540 r5538.2.1.length c5541, .slice p5545 r5538.2.2.1.length c5546, .slice p5550 r5538.2.2.2.length c5551]) w5554 (by kernel_rfl) (E_load (e := 28) (fr := (0, 0)) _ _ true 3 b4842 0 [.slice p5540 r5538.2.1.length c5541, .slice p5545 r5538.2.2.1.length c5546, .slice p5550 r5538.2.2.2.length c5551] (.agg #[.slice p5540 r5538.2.1.length c5541, .slice p5545 r5538.2.2.1.length c5546, .slice p5550 r5538.2.2.2.length c5551]) rfl (by kernel_rfl) (by kernel_rfl) (by kernel_rfl) (M5556.blk 2 (b := b4842) (o := .cells ⟨[.slice p5540 r5538.2.1.length c5541, .slice p5545 r5538.2.2.1.length c5546, .slice p5550 r5538.2.2.2.length c5551]⟩ 28 (0, 0)) (by kernel_rfl))) ?_
      refine W_run 1 [(4, .pointer (some ⟨b4785, 0, none⟩)), (22, .agg #[.slice p5540 r5538.2.1.length c5541, .slice p5545 r5538.2.2.1.length c5546, .slice p5550 r5538.2.2.2.length c5551]), (23, .int .i64 r5538.1)] w5554 (by kernel_rfl) ?_
      refine W_store _ _ _ true 3 b4785 0 [.slice none 0 0, .slice none 0 0, .slice none 0 0] 28 (.agg #[.slice p5540 r5538.2.1.length c5541, .slice p5545 r5538.2.2.1.length c5546, .slice p5550 r5538.2.2.2.length c5551]) 1 [.slice p5540 r5538.2.1.length c5541, .slice p5545 r5538.2.2.1.length c5546, .slice p5550 r5538.2.2.2.length c5551] M5556 (by kernel_rfl) rfl (by kernel_rfl) (by kernel_rfl) (by kernel_rfl) (by kernel_rfl) (by kernel_rfl) (by kernel_rfl) (by kernel_rfl) (by kernel_rfl) ?_
      intro w5557 M5558
      refine W_run 2 [(4, .pointer (some ⟨b4785, 0, none⟩)), (5, .int .i64 r5538.1), (6, .bool true)] w5557 (by kernel_rfl) ?_
      refine W_nil ?_
      refine N_then ?_
      refine G_ret ?_
      obtain rfl := Option.some.inj hm
      refine N_ret [.agg #[.slice p5540 r5538.2.1.length c5541, .slice p5545 r5538.2.2.1.length c5546, .slice p5550 r5538.2.2.2.length c5551], .int .i64 r5538.1, .bool true] (RVs_cons (RV_cell (g := true) (k := 3) (b := b4785) (off := 0) (cs := [.slice p5540 r5538.2.1.length c5541, .slice p5545 r5538.2.2.1.length c5546, .slice p5550 r5538.2.2.2.length c5551]) (e := 28) (fr := (0, 0)) (v := .agg #[.slice p5540 r5538.2.1.length c5541, .slice p5545 r5538.2.2.1.length c5546, .slice p5550 r5538.2.2.2.length c5551]) (M5558.blk 1 (b := b4785) (o := .cells ⟨[.slice p5540 r5538.2.1.length c5541, .slice p5545 r5538.2.2.1.length c5546, .slice p5550 r5538.2.2.2.length c5551]⟩ 28 (0, 0)) (by kernel_rfl)) (by kernel_rfl) (by kernel_rfl) (by kernel_rfl)) (RVs_cons (RV_tmp (by kernel_rfl)) (RVs_cons (RV_tmp (by kernel_rfl)) RVs_nil))) ?_
      exact ⟨p5540, c5541, sg5542, p5545, c5546, sg5547, p5550, c5551, sg5552, rfl, ho5543, ho5548, ho5553, M5558.pick [3, 4, 5] (by kernel_rfl)⟩
theorem c_l_FnExactCopyRound (w : World) (x4555 : Copying) (p4557 : Option Addr) (c4558 : Nat) (h4559 : rdS encI w x4555.Memory p4557 c4558) (p4561 : Option Addr) (c4562 : Nat) (h4563 : rdS encI w x4555.Copy p4561 c4562) (p4565 : Option Addr) (c4566 : Nat) (h4567 : rdS encB w x4555.Dirty p4565 c4566) (x4568 : Int) {r : Bool} (hm : M.l_FnExactCopyRound x4555 x4568 = some r) :
    Calls Try.prog 8 #[.agg #[.slice p4557 x4555.Memory.length c4558, .slice p4561 x4555.Copy.length c4562, .slice p4565 x4555.Dirty.length c4566], .int .i64 x4568] w fun e w' => e = .returned (.bool r) ∧ Mem [] w w' [] := by
  unfold M.l_FnExactCopyRound at hm
  refine C_enter Try.func8 rfl (by kernel_rfl) ?_
  have M0 := Mem.refl [] w
  refine G_seq ?_
  refine G_region ?_
  refine W_new (fun b => .pointer (some ⟨b, 0, none⟩)) (.cells ⟨[.slice p4557 x4555.Memory.length c4558, .slice p4561 x4555.Copy.length c4562, .slice p4565 x4555.Dirty.length c4566]⟩ 25 (0, 0)) M0 rfl (by kernel_rfl) (by kernel_rfl) ?_
  intro b4570 w4571 M4572
  refine W_run 1 [(1, .int .i64 x4568), (2, .pointer (some ⟨b4570, 0, none⟩))] w4571 (by kernel_rfl) ?_
  refine W_nil ?_
  refine N_then ?_
  refine G_seq ?_
  refine G_region ?_
  refine W_run 1 [(1, .int .i64 x4568), (2, .pointer (some ⟨b4570, 0, none⟩)), (5, .int .i64 1048576)] w4571 (by kernel_rfl) ?_
  refine W_nil ?_
  refine N_then ?_
  refine G_seq ?_
  refine G_region ?_
  refine W_val (.agg #[.slice p4557 x4555.Memory.length c4558, .slice p4561 x4555.Copy.length c4562, .slice p4565 x4555.Dirty.length c4566]) w4571 (by kernel_rfl) (E_load (e := 25) (fr := (0, 0)) _ _ true 3 b4570 0 [.slice p4557 x4555.Memory.length c4558, .slice p4561 x4555.Copy.length c4562, .slice p4565 x4555.Dirty.length c4566] (.agg #[.slice p4557 x4555.Memory.length c4558, .slice p4561 x4555.Copy.length c4562, .slice p4565 x4555.Dirty.length c4566]) rfl (by kernel_rfl) (by kernel_rfl) (by kernel_rfl) (M4572.blk 0 (b := b4570) (o := .cells ⟨[.slice p4557 x4555.Memory.length c4558, .slice p4561 x4555.Copy.length c4562, .slice p4565 x4555.Dirty.length c4566]⟩ 25 (0, 0)) (by kernel_rfl))) ?_
  refine W_run 1 [(1, .int .i64 x4568), (2, .pointer (some ⟨b4570, 0, none⟩)), (5, .int .i64 1048576), (19, .agg #[.slice p4557 x4555.Memory.length c4558, .slice p4561 x4555.Copy.length c4562, .slice p4565 x4555.Dirty.length c4566]), (20, .int .i64 1048576)] w4571 (by kernel_rfl) ?_
  obtain ⟨r4573, hr4573, hm⟩ := gx_bind hm
  refine W_call 13 #[.agg #[.slice p4557 x4555.Memory.length c4558, .slice p4561 x4555.Copy.length c4562, .slice p4565 x4555.Dirty.length c4566], .int .i64 1048576] (by kernel_rfl) (by kernel_rfl) ?_
  refine (c_l_szCopying w4571 x4555 p4557 c4558 (h4559.mem0 M4572) p4561 c4562 (h4563.mem0 M4572) p4565 c4566 (h4567.mem0 M4572) 1048576 hr4573).mono ?_
  rintro e_ w4574 ⟨rfl, K4575⟩
  have M4576 := M4572.call0 K4575
  refine ⟨_, rfl, ?_⟩
  refine W_run 1 [(1, .int .i64 x4568), (2, .pointer (some ⟨b4570, 0, none⟩)), (5, .int .i64 r4573)] w4574 (by kernel_rfl) ?_
  refine W_nil ?_
  refine N_then ?_
  refine G_seq ?_
  refine G_seq ?_
  refine G_region ?_
  refine W_run 2 [(1, .int .i64 x4568), (2, .pointer (some ⟨b4570, 0, none⟩)), (23, .bool (decide (r4573 < 0)))] w4574 (by kernel_rfl) ?_
  refine W_nil ?_
  refine N_then ?_
  rcases gx_bif hm with ⟨hc4577, hm⟩ | ⟨hc4577, hm⟩
  · refine G_cond_t (b := (decide (r4573 < 0))) hc4577 (by kernel_rfl) ?_
    refine G_seq ?_
    refine G_region ?_
    refine W_run 1 [(4, .bool true)] w4574 (by kernel_rfl) ?_
    refine W_nil ?_
    refine N_then ?_
    refine G_ret ?_
    refine N_then_ret ?_
    obtain rfl := Option.some.inj hm
    refine N_ret [.bool true] (RVs_cons (RV_tmp (by kernel_rfl)) RVs_nil) ?_
    exact ⟨rfl, M4576.pick [] (by kernel_rfl)⟩
  · refine G_cond_f (b := (decide (r4573 < 0))) hc4577 (by kernel_rfl) ?_
    refine G_skip ?_
    refine N_then ?_
    refine G_seq ?_
    refine G_region ?_
    refine W_val (.agg #[.slice p4557 x4555.Memory.length c4558, .slice p4561 x4555.Copy.length c4562, .slice p4565 x4555.Dirty.length c4566]) w4574 (by kernel_rfl) (E_load (e := 25) (fr := (0, 0)) _ _ true 3 b4570 0 [.slice p4557 x4555.Memory.length c4558, .slice p4561 x4555.Copy.length c4562, .slice p4565 x4555.Dirty.length c4566] (.agg #[.slice p4557 x4555.Memory.length c4558, .slice p4561 x4555.Copy.length c4562, .slice p4565 x4555.Dirty.length c4566]) rfl (by kernel_rfl) (by kernel_rfl) (by kernel_rfl) (M4576.blk 0 (b := b4570) (o := .cells ⟨[.slice p4557 x4555.Memory.length c4558, .slice p4561 x4555.Copy.length c4562, .slice p4565 x4555.Dirty.length c4566]⟩ 25 (0, 0)) (by kernel_rfl))) ?_
    obtain ⟨r4578, hr4578, hm⟩ := gx_bind hm
    refine W_call 15 #[.agg #[.slice p4557 x4555.Memory.length c4558, .slice p4561 x4555.Copy.length c4562, .slice p4565 x4555.Dirty.length c4566]] (by kernel_rfl) (by kernel_rfl) ?_
    refine (c_l_toCopying w4574 x4555 p4557 c4558 (h4559.mem0 M4576) p4561 c4562 (h4563.mem0 M4576) p4565 c4566 (h4567.mem0 M4576) hr4578).mono ?_
    rintro e_ w4594 ⟨p4580, c4581, sg4582, p4585, c4586, sg4587, p4590, c4591, sg4592, rfl, ho4583, ho4588, ho4593, K4595⟩
    have M4596 := M4576.call K4595
    refine ⟨_, rfl, ?_⟩
    refine W_run 1 [(1, .int .i64 x4568), (2, .pointer (some ⟨b4570, 0, none⟩)), (26, .agg #[.slice p4580 r4578.Memory.length c4581, .slice p4585 r4578.Copy.length c4586, .slice p4590 r4578.Dirty.length c4591]), (27, .int .i64 x4568)] w4594 (by kernel_rfl) ?_
    obtain ⟨r4695, hr4695, hm⟩ := gx_bind hm
    refine W_call 33 #[.agg #[.slice p4580 r4578.Memory.length c4581, .slice p4585 r4578.Copy.length c4586, .slice p4590 r4578.Dirty.length c4591], .int .i64 x4568] (by kernel_rfl) (by kernel_rfl) ?_
    refine (c_s_CopyRound w4594 r4578 p4580 c4581 (ho4583.rd M4596 1 (by kernel_rfl)) p4585 c4586 (ho4588.rd M4596 2 (by kernel_rfl)) p4590 c4591 (ho4593.rd M4596 3 (by kernel_rfl)) x4568 hr4695).mono ?_
    rintro e_ w4711 ⟨p4697, c4698, sg4699, p4702, c4703, sg4704, p4707, c4708, sg4709, rfl, ho4700, ho4705, ho4710, K4712⟩
    have M4713 := M4596.call K4712
    refine ⟨_, rfl, ?_⟩
    refine W_run 4 [(1, .int .i64 x4568), (2, .pointer (some ⟨b4570, 0, none⟩)), (29, .agg #[.slice p4697 r4695.1.Memory.length c4698, .slice p4702 r4695.1.Copy.length c4703, .slice p4707 r4695.1.Dirty.length c4708]), (30, .int .i64 r4695.2.1), (31, .bool r4695.2.2)] w4711 (by kernel_rfl) ?_
    refine W_new (fun b => .pointer (some ⟨b, 0, none⟩)) (.cells ⟨[.slice none 0 0, .slice none 0 0, .slice none 0 0]⟩ 28 (0, 0)) M4713 rfl (by kernel_rfl) (by kernel_rfl) ?_
    intro b4718 w4719 M4720
    refine W_store _ _ _ true 3 b4718 0 [.slice none 0 0, .slice none 0 0, .slice none 0 0] 28 (.agg #[.slice p4697 r4695.1.Memory.length c4698, .slice p4702 r4695.1.Copy.length c4703, .slice p4707 r4695.1.Dirty.length c4708]) 7 [.slice p4697 r4695.1.Memory.length c4698, .slice p4702 r4695.1.Copy.length c4703, .slice p4707 r4695.1.Dirty.length c4708] M4720 (by kernel_rfl) rfl (by kernel_rfl) (by kernel_rfl) (by kernel_rfl) (by kernel_rfl) (by kernel_rfl) (by kernel_rfl) (by kernel_rfl) (by kernel_rfl) ?_
    intro w4721 M4722
    refine W_run 2 [(1, .int .i64 x4568), (2, .pointer (some ⟨b4570, 0, none⟩)), (6, .pointer (some ⟨b4718, 0, none⟩)), (7, .int .i64 r4695.2.1), (8, .bool r4695.2.2)] w4721 (by kernel_rfl) ?_
    refine W_nil ?_
    refine N_then ?_
    refine G_seq ?_
    refine G_region ?_
    refine W_val (.agg #[.slice p4557 x4555.Memory.length c4558, .slice p4561 x4555.Copy.length c4562, .slice p4565 x4555.Dirty.length c4566]) w4721 (by kernel_rfl) (E_load (e := 25) (fr := (0, 0)) _ _ true 3 b4570 0 [.slice p4557 x4555.Memory.length c4558, .slice p4561 x4555.Copy.length c4562, .slice p4565 x4555.Dirty.length c4566] (.agg #[.slice p4557 x4555.Memory.length c4558, .slice p4561 x4555.Copy.length c4562, .slice p4565 x4555.Dirty.length c4566]) rfl (by kernel_rfl) (by kernel_rfl) (by kernel_rfl) (M4722.blk 0 (b := b4570) (o := .cells ⟨[.slice p4557 x4555.Memory.length c4558, .slice p4561 x4555.Copy.length c4562, .slice p4565 x4555.Dirty.length c4566]⟩ 25 (0, 0)) (by kernel_rfl))) ?_
    obtain ⟨r4723, hr4723, hm⟩ := gx_bind hm
    refine W_call 15 #[.agg #[.slice p4557 x4555.Memory.length c4558, .slice p4561 x4555.Copy.length c4562, .slice p4565 x4555.Dirty.length c4566]] (by kernel_rfl) (by kernel_rfl) ?_
    refine (c_l_toCopying w4721 x4555 p4557 c4558 (h4559.mem0 M4722) p4561 c4562 (h4563.mem0 M4722) p4565 c4566 (h4567.mem0 M4722) hr4723).mono ?_
    rintro e_ w4739 ⟨p4725, c4726, sg4727, p4730, c4731, sg4732, p4735, c4736, sg4737, rfl, ho4728, ho4733, ho4738, K4740⟩
    have M4741 := M4722.call K4740
    refine ⟨_, rfl, ?_⟩
    refine W_new (fun b => .pointer (some ⟨b, 0, none⟩)) (.cells ⟨[.slice none 0 0, .slice none 0 0, .slice none 0 0]⟩ 28 (0, 0)) M4741 rfl (by kernel_rfl) (by kernel_rfl) ?_
    intro b4746 w4747 M4748
    refine W_store _ _ _ true 3 b4746 0 [.slice none 0 0, .slice none 0 0, .slice none 0 0] 28 (.agg #[.slice p4725 r4723.Memory.length c4726, .slice p4730 r4723.Copy.length c4731, .slice p4735 r4723.Dirty.length c4736]) 11 [.slice p4725 r4723.Memory.length c4726, .slice p4730 r4723.Copy.length c4731, .slice p4735 r4723.Dirty.length c4736] M4748 (by kernel_rfl) rfl (by kernel_rfl) (by kernel_rfl) (by kernel_rfl) (by kernel_rfl) (by kernel_rfl) (by kernel_rfl) (by kernel_rfl) (by kernel_rfl) ?_
    intro w4749 M4750
    refine W_nil ?_
    refine N_then ?_
    refine G_seq ?_
    refine G_region ?_
    refine W_val (.agg #[.slice p4725 r4723.Memory.length c4726, .slice p4730 r4723.Copy.length c4731, .slice p4735 r4723.Dirty.length c4736]) w4749 (by kernel_rfl) (E_load (e := 28) (fr := (0, 0)) _ _ true 3 b4746 0 [.slice p4725 r4723.Memory.length c4726, .slice p4730 r4723.Copy.length c4731, .slice p4735 r4723.Dirty.length c4736] (.agg #[.slice p4725 r4723.Memory.length c4726, .slice p4730 r4723.Copy.length c4731, .slice p4735 r4723.Dirty.length c4736]) rfl (by kernel_rfl) (by kernel_rfl) (by kernel_rfl) (M4750.blk 11 (b := b4746) (o := .cells ⟨[.slice p4725 r4723.Memory.length c4726, .slice p4730 r4723.Copy.length c4731, .slice p4735 r4723.Dirty.length c4736]⟩ 28 (0, 0)) (by kernel_rfl))) ?_
    refine W_run 1 [(1, .int .i64 x4568), (2, .pointer (some ⟨b4570, 0, none⟩)), (6, .pointer (some ⟨b4718, 0, none⟩)), (7, .int .i64 r4695.2.1), (8, .bool r4695.2.2), (9, .pointer (some ⟨b4746, 0, none⟩)), (35, .agg #[.slice p4725 r4723.Memory.length c4726, .slice p4730 r4723.Copy.length c4731, .slice p4735 r4723.Dirty.length c4736]), (36, .int .i64 x4568)] w4749 (by kernel_rfl) ?_
    obtain ⟨r5559, hr5559, hm⟩ := gx_bind hm
    refine W_call 34 #[.agg #[.slice p4725 r4723.Memory.length c4726, .slice p4730 r4723.Copy.length c4731, .slice p4735 r4723.Dirty.length c4736], .int .i64 x4568] (by kernel_rfl) (by kernel_rfl) ?_
    refine (c_i_CopyRound w4749 r4723 p4725 c4726 (ho4728.rd M4750 8 (by kernel_rfl)) p4730 c4731 (ho4733.rd M4750 9 (by kernel_rfl)) p4735 c4736 (ho4738.rd M4750 10 (by kernel_rfl)) x4568 hr5559).mono ?_
    rintro e_ w5575 ⟨p5561, c5562, sg5563, p5566, c5567, sg5568, p5571, c5572, sg5573, rfl, ho5564, ho5569, ho5574, K5576⟩
    have M5577 := M4750.call K5576
    refine ⟨_, rfl, ?_⟩
    refine W_run 4 [(1, .int .i64 x4568), (2, .pointer (some ⟨b4570, 0, none⟩)), (6, .pointer (some ⟨b4718, 0, none⟩)), (7, .int .i64 r4695.2.1), (8, .bool r4695.2.2), (9, .pointer (some ⟨b4746, 0, none⟩)), (38, .agg #[.slice p5561 r5559.1.Memory.length c5562, .slice p5566 r5559.1.Copy.length c5567, .slice p5571 r5559.1.Dirty.length c5572]), (39, .int .i64 r5559.2.1), (40, .bool r5559.2.2)] w5575 (by kernel_rfl) ?_
    refine W_new (fun b => .pointer (some ⟨b, 0, none⟩)) (.cells ⟨[.slice none 0 0, .slice none 0 0, .slice none 0 0]⟩ 28 (0, 0)) M5577 rfl (by kernel_rfl) (by kernel_rfl) ?_
    intro b5582 w5583 M5584
    refine W_store _ _ _ true 3 b5582 0 [.slice none 0 0, .slice none 0 0, .slice none 0 0] 28 (.agg #[.slice p5561 r5559.1.Memory.length c5562, .slice p5566 r5559.1.Copy.length c5567, .slice p5571 r5559.1.Dirty.length c5572]) 15 [.slice p5561 r5559.1.Memory.length c5562, .slice p5566 r5559.1.Copy.length c5567, .slice p5571 r5559.1.Dirty.length c5572] M5584 (by kernel_rfl) rfl (by kernel_rfl) (by kernel_rfl) (by kernel_rfl) (by kernel_rfl) (by kernel_rfl) (by kernel_rfl) (by kernel_rfl) (by kernel_rfl) ?_
    intro w5585 M5586
    refine W_run 2 [(1, .int .i64 x4568), (2, .pointer (some ⟨b4570, 0, none⟩)), (6, .pointer (some ⟨b4718, 0, none⟩)), (7, .int .i64 r4695.2.1), (8, .bool r4695.2.2), (9, .pointer (some ⟨b4746, 0, none⟩)), (10, .pointer (some ⟨b5582, 0, none⟩)), (11, .int .i64 r5559.2.1), (12, .bool r5559.2.2)] w5585 (by kernel_rfl) ?_
    refine W_nil ?_
    refine N_then ?_
    refine G_seq ?_
    refine G_seq ?_
    obtain ⟨o5593, ho5594, hm5595⟩ := gx_bind hm
    refine G_meet (fun a w' => Mem [] w w' [[(b4570, .cells ⟨[.slice p4557 x4555.Memory.length c4558, .slice p4561 x4555.Copy.length c4562, .slice p4565 x4555.Dirty.length c4566]⟩ 25 (0, 0))], sg4699, sg4704, sg4709, [(b4718, .cells ⟨[.slice p4697 r4695.1.Memory.length c4698, .slice p4702 r4695.1.Copy.length c4703, .slice p4707 r4695.1.Dirty.length c4708]⟩ 28 (0, 0))], sg4727, sg4732, sg4737, [(b4746, .cells ⟨[.slice p4725 r4723.Memory.length c4726, .slice p4730 r4723.Copy.length c4731, .slice p4735 r4723.Dirty.length c4736]⟩ 28 (0, 0))], sg5563, sg5568, sg5573, [(b5582, .cells ⟨[.slice p5561 r5559.1.Memory.length c5562, .slice p5566 r5559.1.Copy.length c5567, .slice p5571 r5559.1.Dirty.length c5572]⟩ 28 (0, 0))]] ∧ Sat Try.f8.ntmps [(1, .int .i64 x4568), (2, .pointer (some ⟨b4570, 0, none⟩)), (6, .pointer (some ⟨b4718, 0, none⟩)), (7, .int .i64 r4695.2.1), (8, .bool r4695.2.2), (9, .pointer (some ⟨b4746, 0, none⟩)), (10, .pointer (some ⟨b5582, 0, none⟩)), (11, .int .i64 r5559.2.1), (12, .bool r5559.2.2), (54, .bool o5593)] a) ?_ ?_
    · have hm := ho5594
      refine G_region ?_
      refine W_val (.agg #[.slice p5561 r5559.1.Memory.length c5562, .slice p5566 r5559.1.Copy.length c5567, .slice p5571 r5559.1.Dirty.length c5572]) w5585 (by kernel_rfl) (E_load (e := 28) (fr := (0, 0)) _ _ true 3 b5582 0 [.slice p5561 r5559.1.Memory.length c5562, .slice p5566 r5559.1.Copy.length c5567, .slice p5571 r5559.1.Dirty.length c5572] (.agg #[.slice p5561 r5559.1.Memory.length c5562, .slice p5566 r5559.1.Copy.length c5567, .slice p5571 r5559.1.Dirty.length c5572]) rfl (by kernel_rfl) (by kernel_rfl) (by kernel_rfl) (M5586.blk 15 (b := b5582) (o := .cells ⟨[.slice p5561 r5559.1.Memory.length c5562, .slice p5566 r5559.1.Copy.length c5567, .slice p5571 r5559.1.Dirty.length c5572]⟩ 28 (0, 0)) (by kernel_rfl))) ?_
      refine W_val (.agg #[.slice p4697 r4695.1.Memory.length c4698, .slice p4702 r4695.1.Copy.length c4703, .slice p4707 r4695.1.Dirty.length c4708]) w5585 (by kernel_rfl) (E_load (e := 28) (fr := (0, 0)) _ _ true 3 b4718 0 [.slice p4697 r4695.1.Memory.length c4698, .slice p4702 r4695.1.Copy.length c4703, .slice p4707 r4695.1.Dirty.length c4708] (.agg #[.slice p4697 r4695.1.Memory.length c4698, .slice p4702 r4695.1.Copy.length c4703, .slice p4707 r4695.1.Dirty.length c4708]) rfl (by kernel_rfl) (by kernel_rfl) (by kernel_rfl) (M5586.blk 7 (b := b4718) (o := .cells ⟨[.slice p4697 r4695.1.Memory.length c4698, .slice p4702 r4695.1.Copy.length c4703, .slice p4707 r4695.1.Dirty.length c4708]⟩ 28 (0, 0)) (by kernel_rfl))) ?_
      obtain ⟨r5596, hr5596, hm⟩ := gx_bind hm
      refine W_call 17 #[.agg #[.slice p5561 r5559.1.Memory.length c5562, .slice p5566 r5559.1.Copy.length c5567, .slice p5571 r5559.1.Dirty.length c5572], .agg #[.slice p4697 r4695.1.Memory.length c4698, .slice p4702 r4695.1.Copy.length c4703, .slice p4707 r4695.1.Dirty.length c4708]] (by kernel_rfl) (by kernel_rfl) ?_
      refine (c_l_eqCopying w5585 r5559.1 p5561 c5562 (ho5564.rd M5586 12 (by kernel_rfl)) p5566 c5567 (ho5569.rd M5586 13 (by kernel_rfl)) p5571 c5572 (ho5574.rd M5586 14 (by kernel_rfl)) r4695.1 p4697 c4698 (ho4700.rd M5586 4 (by kernel_rfl)) p4702 c4703 (ho4705.rd M5586 5 (by kernel_rfl)) p4707 c4708 (ho4710.rd M5586 6 (by kernel_rfl)) hr5596).mono ?_
      rintro e_ w5597 ⟨rfl, K5598⟩
      have M5599 := M5586.call0 K5598
      refine ⟨_, rfl, ?_⟩
      refine W_run 2 [(1, .int .i64 x4568), (2, .pointer (some ⟨b4570, 0, none⟩)), (6, .pointer (some ⟨b4718, 0, none⟩)), (7, .int .i64 r4695.2.1), (8, .bool r4695.2.2), (9, .pointer (some ⟨b4746, 0, none⟩)), (10, .pointer (some ⟨b5582, 0, none⟩)), (11, .int .i64 r5559.2.1), (12, .bool r5559.2.2), (45, .bool (!r5596))] w5597 (by kernel_rfl) ?_
      rcases gx_bif hm with ⟨hc5600, hm⟩ | ⟨hc5600, hm⟩
      · refine W_known 45 true (by kernel_rfl) hc5600 ?_
        refine W_run 9 [(1, .int .i64 x4568), (2, .pointer (some ⟨b4570, 0, none⟩)), (6, .pointer (some ⟨b4718, 0, none⟩)), (7, .int .i64 r4695.2.1), (8, .bool r4695.2.2), (9, .pointer (some ⟨b4746, 0, none⟩)), (10, .pointer (some ⟨b5582, 0, none⟩)), (11, .int .i64 r5559.2.1), (12, .bool r5559.2.2), (54, .bool true)] w5597 (by kernel_rfl) ?_
        refine W_nil ?_
        obtain rfl := Option.some.inj hm
        exact N_meet fun a ha => ⟨M5599.pick [0, 4, 5, 6, 7, 8, 9, 10, 11, 12, 13, 14, 15] (by kernel_rfl), ha.sub (by kernel_rfl)⟩
      · refine W_known 45 false (by kernel_rfl) hc5600 ?_
        refine W_run 5 [(1, .int .i64 x4568), (2, .pointer (some ⟨b4570, 0, none⟩)), (6, .pointer (some ⟨b4718, 0, none⟩)), (7, .int .i64 r4695.2.1), (8, .bool r4695.2.2), (9, .pointer (some ⟨b4746, 0, none⟩)), (10, .pointer (some ⟨b5582, 0, none⟩)), (11, .int .i64 r5559.2.1), (12, .bool r5559.2.2), (50, .bool (r5559.2.1 != r4695.2.1))] w5597 (by kernel_rfl) ?_
        rcases gx_bif hm with ⟨hc5601, hm⟩ | ⟨hc5601, hm⟩
        · refine W_known 50 true (by kernel_rfl) hc5601 ?_
          refine W_run 4 [(1, .int .i64 x4568), (2, .pointer (some ⟨b4570, 0, none⟩)), (6, .pointer (some ⟨b4718, 0, none⟩)), (7, .int .i64 r4695.2.1), (8, .bool r4695.2.2), (9, .pointer (some ⟨b4746, 0, none⟩)), (10, .pointer (some ⟨b5582, 0, none⟩)), (11, .int .i64 r5559.2.1), (12, .bool r5559.2.2), (54, .bool true)] w5597 (by kernel_rfl) ?_
          refine W_nil ?_
          obtain rfl := Option.some.inj hm
          exact N_meet fun a ha => ⟨M5599.pick [0, 4, 5, 6, 7, 8, 9, 10, 11, 12, 13, 14, 15] (by kernel_rfl), ha.sub (by kernel_rfl)⟩
        · refine W_known 50 false (by kernel_rfl) hc5601 ?_
          refine W_run 4 [(1, .int .i64 x4568), (2, .pointer (some ⟨b4570, 0, none⟩)), (6, .pointer (some ⟨b4718, 0, none⟩)), (7, .int .i64 r4695.2.1), (8, .bool r4695.2.2), (9, .pointer (some ⟨b4746, 0, none⟩)), (10, .pointer (some ⟨b5582, 0, none⟩)), (11, .int .i64 r5559.2.1), (12, .bool r5559.2.2), (54, .bool (!(r5559.2.2 == r4695.2.2)))] w5597 (by kernel_rfl) ?_
          refine W_nil ?_
          obtain rfl := Option.some.inj hm
          exact N_meet fun a ha => ⟨M5599.pick [0, 4, 5, 6, 7, 8, 9, 10, 11, 12, 13, 14, 15] (by kernel_rfl), ha.sub (by kernel_rfl)⟩
    · intro a5604 w5602 ⟨M5603, hS5605⟩
      refine N_use hS5605 ?_
      have hm := hm5595
      refine N_then ?_
      rcases gx_bif hm with ⟨hc5606, hm⟩ | ⟨hc5606, hm⟩
      · refine G_cond_t (b := o5593) hc5606 (by kernel_rfl) ?_
        refine G_seq ?_
        refine G_region ?_
        refine W_run 1 [(4, .bool false)] w5602 (by kernel_rfl) ?_
        refine W_nil ?_
        refine N_then ?_
        refine G_ret ?_
        refine N_then_ret ?_
        obtain rfl := Option.some.inj hm
        refine N_ret [.bool false] (RVs_cons (RV_tmp (by kernel_rfl)) RVs_nil) ?_
        exact ⟨rfl, M5603.pick [] (by kernel_rfl)⟩
      · refine G_cond_f (b := o5593) hc5606 (by kernel_rfl) ?_
        refine G_skip ?_
        refine N_then ?_
        refine G_seq ?_
        refine G_seq ?_
        obtain ⟨r5609, hr5609, hm⟩ := gx_bind hm
        refine G_sub [(1, .int .i64 x4568), (2, .pointer (some ⟨b4570, 0, none⟩)), (6, .pointer (some ⟨b4718, 0, none⟩)), (7, .int .i64 r4695.2.1), (8, .bool r4695.2.2), (9, .pointer (some ⟨b4746, 0, none⟩)), (10, .pointer (some ⟨b5582, 0, none⟩)), (11, .int .i64 r5559.2.1), (12, .bool r5559.2.2), (54, .bool o5593)] (by kernel_rfl) ?_
        refine G_dagL 3 [[], [], [1]] [[], [], []] [[], [], []] [[], [], []] [[], [], []] [[], [], []] (fun _ => []) (fun i => ([fun f v s => v = (.agg #[.slice p4725 r4723.Memory.length c4726, .slice p4730 r4723.Copy.length c4731, .slice p4735 r4723.Dirty.length c4736] : Value) ∧ s = [], fun f v s => v = (.agg #[.slice p4557 x4555.Memory.length c4558, .slice p4561 x4555.Copy.length c4562, .slice p4565 x4555.Dirty.length c4566] : Value) ∧ s = [], fun f v s => ∃ (p5611 : Option Addr) (c5612 : Nat) (sg5613 : Seg), ∃ (p5616 : Option Addr) (c5617 : Nat) (sg5618 : Seg), ∃ (p5621 : Option Addr) (c5622 : Nat) (sg5623 : Seg), v = (.agg #[.slice p5611 r5609.Memory.length c5612, .slice p5616 r5609.Copy.length c5617, .slice p5621 r5609.Dirty.length c5622] : Value) ∧ s = (sg5613 ++ (sg5618 ++ sg5623)) ∧ ownS encI r5609.Memory p5611 c5612 sg5613 ∧ ownS encI r5609.Copy p5616 c5617 sg5618 ∧ ownS encB r5609.Dirty p5621 c5622 sg5623] : List ((Nat → Value) → Value → Seg → Prop)).getD i (fun _ _ _ => False)) (fun j f v => ∃ s, (fun i => ([fun f v s => v = (.agg #[.slice p4725 r4723.Memory.length c4726, .slice p4730 r4723.Copy.length c4731, .slice p4735 r4723.Dirty.length c4736] : Value) ∧ s = [], fun f v s => v = (.agg #[.slice p4557 x4555.Memory.length c4558, .slice p4561 x4555.Copy.length c4562, .slice p4565 x4555.Dirty.length c4566] : Value) ∧ s = [], fun f v s => ∃ (p5611 : Option Addr) (c5612 : Nat) (sg5613 : Seg), ∃ (p5616 : Option Addr) (c5617 : Nat) (sg5618 : Seg), ∃ (p5621 : Option Addr) (c5622 : Nat) (sg5623 : Seg), v = (.agg #[.slice p5611 r5609.Memory.length c5612, .slice p5616 r5609.Copy.length c5617, .slice p5621 r5609.Dirty.length c5622] : Value) ∧ s = (sg5613 ++ (sg5618 ++ sg5623)) ∧ ownS encI r5609.Memory p5611 c5612 sg5613 ∧ ownS encI r5609.Copy p5616 c5617 sg5618 ∧ ownS encB r5609.Dirty p5621 c5622 sg5623] : List ((Nat → Value) → Value → Seg → Prop)).getD i (fun _ _ _ => False)) j f v s) [] [0, 2] [2] (fun _ _ _ s h => ⟨s, h⟩) (by kernel_rfl) (by kernel_rfl) (M5603.preNil 3) (by kernel_rfl) (by kernel_rfl) (by kernel_rfl) (by kernel_rfl) (allOb_cons ?_ (allOb_cons ?_ (allOb_cons ?_ allOb_nil))) ?_
        · intro g5607 f5608
          intro R w5625 M5626
          refine W_val (.agg #[.slice p4725 r4723.Memory.length c4726, .slice p4730 r4723.Copy.length c4731, .slice p4735 r4723.Dirty.length c4736]) w5625 (by kernel_rfl) (E_load (e := 28) (fr := (0, 0)) _ _ true 3 b4746 0 [.slice p4725 r4723.Memory.length c4726, .slice p4730 r4723.Copy.length c4731, .slice p4735 r4723.Dirty.length c4736] (.agg #[.slice p4725 r4723.Memory.length c4726, .slice p4730 r4723.Copy.length c4731, .slice p4735 r4723.Dirty.length c4736]) rfl (by kernel_rfl) (by kernel_rfl) (by kernel_rfl) (M5626.blk 8 (b := b4746) (o := .cells ⟨[.slice p4725 r4723.Memory.length c4726, .slice p4730 r4723.Copy.length c4731, .slice p4735 r4723.Dirty.length c4736]⟩ 28 (0, 0)) (by kernel_rfl))) ?_
          exact W_nil (ob_end (.agg #[.slice p4725 r4723.Memory.length c4726, .slice p4730 r4723.Copy.length c4731, .slice p4735 r4723.Dirty.length c4736]) [] rfl (by kernel_rfl) ⟨by kernel_rfl, rfl⟩ M5626)
        · intro g5607 f5608
          intro R w5629 M5630
          refine W_val (.agg #[.slice p4557 x4555.Memory.length c4558, .slice p4561 x4555.Copy.length c4562, .slice p4565 x4555.Dirty.length c4566]) w5629 (by kernel_rfl) (E_load (e := 25) (fr := (0, 0)) _ _ true 3 b4570 0 [.slice p4557 x4555.Memory.length c4558, .slice p4561 x4555.Copy.length c4562, .slice p4565 x4555.Dirty.length c4566] (.agg #[.slice p4557 x4555.Memory.length c4558, .slice p4561 x4555.Copy.length c4562, .slice p4565 x4555.Dirty.length c4566]) rfl (by kernel_rfl) (by kernel_rfl) (by kernel_rfl) (M5630.blk 0 (b := b4570) (o := .cells ⟨[.slice p4557 x4555.Memory.length c4558, .slice p4561 x4555.Copy.length c4562, .slice p4565 x4555.Dirty.length c4566]⟩ 25 (0, 0)) (by kernel_rfl))) ?_
          exact W_nil (ob_end (.agg #[.slice p4557 x4555.Memory.length c4558, .slice p4561 x4555.Copy.length c4562, .slice p4565 x4555.Dirty.length c4566]) [] rfl (by kernel_rfl) ⟨by kernel_rfl, rfl⟩ M5630)
        · intro g5607 f5608
          intro v1_ hb1_
          obtain ⟨rfl, _⟩ := hb1_
          intro R w5633 M5634
          refine W_call 15 #[.agg #[.slice p4557 x4555.Memory.length c4558, .slice p4561 x4555.Copy.length c4562, .slice p4565 x4555.Dirty.length c4566]] (by kernel_rfl) (by kernel_rfl) ?_
          refine (c_l_toCopying w5633 x4555 p4557 c4558 (h4559.mem0 M5634) p4561 c4562 (h4563.mem0 M5634) p4565 c4566 (h4567.mem0 M5634) hr5609).mono ?_
          rintro e_ w5635 ⟨p5611, c5612, sg5613, p5616, c5617, sg5618, p5621, c5622, sg5623, rfl, ho5614, ho5619, ho5624, K5637⟩
          refine ⟨_, rfl, ?_⟩
          exact W_nil (ob_end (.agg #[.slice p5611 r5609.Memory.length c5612, .slice p5616 r5609.Copy.length c5617, .slice p5621 r5609.Dirty.length c5622]) (sg5613 ++ (sg5618 ++ sg5623)) rfl (by kernel_rfl) ⟨p5611, c5612, sg5613, p5616, c5617, sg5618, p5621, c5622, sg5623, rfl, rfl, ho5614, ho5619, ho5624⟩ (Mem.callMid M5634 (K5637.permF (by simp))))
        · intro g5607 f5608
          intro v0_ hb0_
          obtain ⟨rfl, _⟩ := hb0_
          intro v2_ hb2_
          obtain ⟨p5611, c5612, sg5613, p5616, c5617, sg5618, p5621, c5622, sg5623, rfl, hs2_, ho5614, ho5619, ho5624⟩ := hb2_
          intro w5638 M5639
          have M5640 : Mem [] w w5638 [[(b4570, .cells ⟨[.slice p4557 x4555.Memory.length c4558, .slice p4561 x4555.Copy.length c4562, .slice p4565 x4555.Dirty.length c4566]⟩ 25 (0, 0))], sg4699, sg4704, sg4709, [(b4718, .cells ⟨[.slice p4697 r4695.1.Memory.length c4698, .slice p4702 r4695.1.Copy.length c4703, .slice p4707 r4695.1.Dirty.length c4708]⟩ 28 (0, 0))], sg4727, sg4732, sg4737, [(b4746, .cells ⟨[.slice p4725 r4723.Memory.length c4726, .slice p4730 r4723.Copy.length c4731, .slice p4735 r4723.Dirty.length c4736]⟩ 28 (0, 0))], sg5563, sg5568, sg5573, [(b5582, .cells ⟨[.slice p5561 r5559.1.Memory.length c5562, .slice p5566 r5559.1.Copy.length c5567, .slice p5571 r5559.1.Dirty.length c5572]⟩ 28 (0, 0))], (g5607 2)] := M5639
          rw [hs2_] at M5640
          replace M5640 : Mem [] w w5638 [[(b4570, .cells ⟨[.slice p4557 x4555.Memory.length c4558, .slice p4561 x4555.Copy.length c4562, .slice p4565 x4555.Dirty.length c4566]⟩ 25 (0, 0))], sg4699, sg4704, sg4709, [(b4718, .cells ⟨[.slice p4697 r4695.1.Memory.length c4698, .slice p4702 r4695.1.Copy.length c4703, .slice p4707 r4695.1.Dirty.length c4708]⟩ 28 (0, 0))], sg4727, sg4732, sg4737, [(b4746, .cells ⟨[.slice p4725 r4723.Memory.length c4726, .slice p4730 r4723.Copy.length c4731, .slice p4735 r4723.Dirty.length c4736]⟩ 28 (0, 0))], sg5563, sg5568, sg5573, [(b5582, .cells ⟨[.slice p5561 r5559.1.Memory.length c5562, .slice p5566 r5559.1.Copy.length c5567, .slice p5571 r5559.1.Dirty.length c5572]⟩ 28 (0, 0))], sg5613, sg5618, sg5623] := M5640.permF (by simp)
          obtain ⟨r5641, hr5641, hm⟩ := gx_bind hm
          refine W_call 17 #[.agg #[.slice p4725 r4723.Memory.length c4726, .slice p4730 r4723.Copy.length c4731, .slice p4735 r4723.Dirty.length c4736], .agg #[.slice p5611 r5609.Memory.length c5612, .slice p5616 r5609.Copy.length c5617, .slice p5621 r5609.Dirty.length c5622]] (by kernel_rfl) (by kernel_rfl) ?_
          refine (c_l_eqCopying w5638 r4723 p4725 c4726 (ho4728.rd M5640 5 (by kernel_rfl)) p4730 c4731 (ho4733.rd M5640 6 (by kernel_rfl)) p4735 c4736 (ho4738.rd M5640 7 (by kernel_rfl)) r5609 p5611 c5612 (ho5614.rd M5640 13 (by kernel_rfl)) p5616 c5617 (ho5619.rd M5640 14 (by kernel_rfl)) p5621 c5622 (ho5624.rd M5640 15 (by kernel_rfl)) hr5641).mono ?_
          rintro e_ w5642 ⟨rfl, K5643⟩
          have M5644 := M5640.call0 K5643
          refine ⟨_, rfl, ?_⟩
          refine W_run 1 [(1, .int .i64 x4568), (2, .pointer (some ⟨b4570, 0, none⟩)), (6, .pointer (some ⟨b4718, 0, none⟩)), (7, .int .i64 r4695.2.1), (8, .bool r4695.2.2), (9, .pointer (some ⟨b4746, 0, none⟩)), (10, .pointer (some ⟨b5582, 0, none⟩)), (11, .int .i64 r5559.2.1), (12, .bool r5559.2.2), (59, .bool (!r5641))] w5642 (by kernel_rfl) ?_
          refine W_nil ?_
          refine N_then ?_
          rcases gx_bif hm with ⟨hc5645, hm⟩ | ⟨hc5645, hm⟩
          · refine G_cond_t (b := (!r5641)) hc5645 (by kernel_rfl) ?_
            refine G_seq ?_
            refine G_region ?_
            refine W_run 1 [(4, .bool false)] w5642 (by kernel_rfl) ?_
            refine W_nil ?_
            refine N_then ?_
            refine G_ret ?_
            refine N_then_ret ?_
            obtain rfl := Option.some.inj hm
            refine N_ret [.bool false] (RVs_cons (RV_tmp (by kernel_rfl)) RVs_nil) ?_
            exact ⟨rfl, M5644.pick [] (by kernel_rfl)⟩
          · refine G_cond_f (b := (!r5641)) hc5645 (by kernel_rfl) ?_
            refine G_skip ?_
            refine N_then ?_
            refine G_seq ?_
            refine G_region ?_
            refine W_run 1 [(1, .int .i64 x4568), (2, .pointer (some ⟨b4570, 0, none⟩)), (6, .pointer (some ⟨b4718, 0, none⟩)), (7, .int .i64 r4695.2.1), (8, .bool r4695.2.2), (9, .pointer (some ⟨b4746, 0, none⟩)), (10, .pointer (some ⟨b5582, 0, none⟩)), (11, .int .i64 r5559.2.1), (12, .bool r5559.2.2), (13, .int .i64 1)] w5642 (by kernel_rfl) ?_
            refine W_nil ?_
            refine N_then ?_
            refine G_seq ?_
            refine G_region ?_
            refine W_val (.agg #[.slice p4725 r4723.Memory.length c4726, .slice p4730 r4723.Copy.length c4731, .slice p4735 r4723.Dirty.length c4736]) w5642 (by kernel_rfl) (E_load (e := 28) (fr := (0, 0)) _ _ true 3 b4746 0 [.slice p4725 r4723.Memory.length c4726, .slice p4730 r4723.Copy.length c4731, .slice p4735 r4723.Dirty.length c4736] (.agg #[.slice p4725 r4723.Memory.length c4726, .slice p4730 r4723.Copy.length c4731, .slice p4735 r4723.Dirty.length c4736]) rfl (by kernel_rfl) (by kernel_rfl) (by kernel_rfl) (M5644.blk 8 (b := b4746) (o := .cells ⟨[.slice p4725 r4723.Memory.length c4726, .slice p4730 r4723.Copy.length c4731, .slice p4735 r4723.Dirty.length c4736]⟩ 28 (0, 0)) (by kernel_rfl))) ?_
            refine W_run 1 [(1, .int .i64 x4568), (2, .pointer (some ⟨b4570, 0, none⟩)), (6, .pointer (some ⟨b4718, 0, none⟩)), (7, .int .i64 r4695.2.1), (8, .bool r4695.2.2), (10, .pointer (some ⟨b5582, 0, none⟩)), (11, .int .i64 r5559.2.1), (12, .bool r5559.2.2), (13, .int .i64 1), (60, .agg #[.slice p4725 r4723.Memory.length c4726, .slice p4730 r4723.Copy.length c4731, .slice p4735 r4723.Dirty.length c4736]), (61, .int .i64 1)] w5642 (by kernel_rfl) ?_
            obtain ⟨r5646, hr5646, hm⟩ := gx_bind hm
            refine W_call 23 #[.agg #[.slice p4725 r4723.Memory.length c4726, .slice p4730 r4723.Copy.length c4731, .slice p4735 r4723.Dirty.length c4736], .int .i64 1] (by kernel_rfl) (by kernel_rfl) ?_
            refine (c_l_markCopying w5642 r4723 p4725 c4726 sg4727 ho4728 p4730 c4731 sg4732 ho4733 p4735 c4736 sg4737 ho4738 1 (M5644.hasPick [5, 6, 7]) (M5644.nodupPick [5, 6, 7] (by kernel_rfl)) hr5646).mono ?_
            rintro e_ w5656 ⟨sg5647, sg5650, sg5653, rfl, ho5648, hl5649, ho5651, hl5652, ho5654, hl5655, K5657⟩
            have M5658 := M5644.callF' [5, 6, 7] [0, 1, 2, 3, 4, 8, 9, 10, 11, 12, 13, 14, 15] (by kernel_rfl) K5657
            refine ⟨_, rfl, ?_⟩
            refine W_conv 60 (.agg #[.slice p4725 r4723.Memory.length c4726, .slice p4730 r4723.Copy.length c4731, .slice p4735 r4723.Dirty.length c4736]) (.agg #[.slice p4725 r5646.2.1.length c4726, .slice p4730 r5646.2.2.1.length c4731, .slice p4735 r5646.2.2.2.length c4736]) (by kernel_rfl) (by first | rw [hl5649, hl5652, hl5655] | rw [hl5649] | rw [hl5652] | rw [hl5655]) ?_
            have M5659 : Mem [] w w5656 [[(b4570, .cells ⟨[.slice p4557 x4555.Memory.length c4558, .slice p4561 x4555.Copy.length c4562, .slice p4565 x4555.Dirty.length c4566]⟩ 25 (0, 0))], sg4699, sg4704, sg4709, [(b4718, .cells ⟨[.slice p4697 r4695.1.Memory.length c4698, .slice p4702 r4695.1.Copy.length c4703, .slice p4707 r4695.1.Dirty.length c4708]⟩ 28 (0, 0))], [(b4746, .cells ⟨[.slice p4725 r5646.2.1.length c4726, .slice p4730 r5646.2.2.1.length c4731, .slice p4735 r5646.2.2.2.length c4736]⟩ 28 (0, 0))], sg5563, sg5568, sg5573, [(b5582, .cells ⟨[.slice p5561 r5559.1.Memory.length c5562, .slice p5566 r5559.1.Copy.length c5567, .slice p5571 r5559.1.Dirty.length c5572]⟩ 28 (0, 0))], sg5613, sg5618, sg5623, sg5647, sg5650, sg5653] := by rw [hl5649, hl5652, hl5655]; exact M5658
            refine W_run 1 [(1, .int .i64 x4568), (2, .pointer (some ⟨b4570, 0, none⟩)), (6, .pointer (some ⟨b4718, 0, none⟩)), (7, .int .i64 r4695.2.1), (8, .bool r4695.2.2), (10, .pointer (some ⟨b5582, 0, none⟩)), (11, .int .i64 r5559.2.1), (12, .bool r5559.2.2), (13, .int .i64 r5646.1)] w5656 (by kernel_rfl) ?_
            refine W_nil ?_
            refine N_then ?_
            refine G_seq ?_
            refine G_seq ?_
            obtain ⟨o5667, ho5668, hm5669⟩ := gx_bind hm
            refine G_meet (fun a w' => Mem [] w w' [[(b4570, .cells ⟨[.slice p4557 x4555.Memory.length c4558, .slice p4561 x4555.Copy.length c4562, .slice p4565 x4555.Dirty.length c4566]⟩ 25 (0, 0))], sg4699, sg4704, sg4709, [(b4718, .cells ⟨[.slice p4697 r4695.1.Memory.length c4698, .slice p4702 r4695.1.Copy.length c4703, .slice p4707 r4695.1.Dirty.length c4708]⟩ 28 (0, 0))], sg5563, sg5568, sg5573, [(b5582, .cells ⟨[.slice p5561 r5559.1.Memory.length c5562, .slice p5566 r5559.1.Copy.length c5567, .slice p5571 r5559.1.Dirty.length c5572]⟩ 28 (0, 0))]] ∧ Sat Try.f8.ntmps [(1, .int .i64 x4568), (2, .pointer (some ⟨b4570, 0, none⟩)), (6, .pointer (some ⟨b4718, 0, none⟩)), (7, .int .i64 r4695.2.1), (8, .bool r4695.2.2), (10, .pointer (some ⟨b5582, 0, none⟩)), (80, .bool o5667)] a) ?_ ?_
            · have hm := ho5668
              refine G_region ?_
              refine W_run 3 [(1, .int .i64 x4568), (2, .pointer (some ⟨b4570, 0, none⟩)), (6, .pointer (some ⟨b4718, 0, none⟩)), (7, .int .i64 r4695.2.1), (8, .bool r4695.2.2), (10, .pointer (some ⟨b5582, 0, none⟩)), (11, .int .i64 r5559.2.1), (12, .bool r5559.2.2), (65, .bool (decide (r5646.1 < 0)))] w5656 (by kernel_rfl) ?_
              rcases gx_bif hm with ⟨hc5670, hm⟩ | ⟨hc5670, hm⟩
              · refine W_known 65 true (by kernel_rfl) hc5670 ?_
                refine W_run 15 [(1, .int .i64 x4568), (2, .pointer (some ⟨b4570, 0, none⟩)), (6, .pointer (some ⟨b4718, 0, none⟩)), (7, .int .i64 r4695.2.1), (8, .bool r4695.2.2), (10, .pointer (some ⟨b5582, 0, none⟩)), (80, .bool true)] w5656 (by kernel_rfl) ?_
                refine W_nil ?_
                obtain rfl := Option.some.inj hm
                exact N_meet fun a ha => ⟨M5659.pick [0, 1, 2, 3, 4, 6, 7, 8, 9] (by kernel_rfl), ha.sub (by kernel_rfl)⟩
              · refine W_known 65 false (by kernel_rfl) hc5670 ?_
                refine W_val (.agg #[.slice p5561 r5559.1.Memory.length c5562, .slice p5566 r5559.1.Copy.length c5567, .slice p5571 r5559.1.Dirty.length c5572]) w5656 (by kernel_rfl) (E_load (e := 28) (fr := (0, 0)) _ _ true 3 b5582 0 [.slice p5561 r5559.1.Memory.length c5562, .slice p5566 r5559.1.Copy.length c5567, .slice p5571 r5559.1.Dirty.length c5572] (.agg #[.slice p5561 r5559.1.Memory.length c5562, .slice p5566 r5559.1.Copy.length c5567, .slice p5571 r5559.1.Dirty.length c5572]) rfl (by kernel_rfl) (by kernel_rfl) (by kernel_rfl) (M5659.blk 9 (b := b5582) (o := .cells ⟨[.slice p5561 r5559.1.Memory.length c5562, .slice p5566 r5559.1.Copy.length c5567, .slice p5571 r5559.1.Dirty.length c5572]⟩ 28 (0, 0)) (by kernel_rfl))) ?_
                refine W_val (.agg #[.slice p4697 r4695.1.Memory.length c4698, .slice p4702 r4695.1.Copy.length c4703, .slice p4707 r4695.1.Dirty.length c4708]) w5656 (by kernel_rfl) (E_load (e := 28) (fr := (0, 0)) _ _ true 3 b4718 0 [.slice p4697 r4695.1.Memory.length c4698, .slice p4702 r4695.1.Copy.length c4703, .slice p4707 r4695.1.Dirty.length c4708] (.agg #[.slice p4697 r4695.1.Memory.length c4698, .slice p4702 r4695.1.Copy.length c4703, .slice p4707 r4695.1.Dirty.length c4708]) rfl (by kernel_rfl) (by kernel_rfl) (by kernel_rfl) (M5659.blk 4 (b := b4718) (o := .cells ⟨[.slice p4697 r4695.1.Memory.length c4698, .slice p4702 r4695.1.Copy.length c4703, .slice p4707 r4695.1.Dirty.length c4708]⟩ 28 (0, 0)) (by kernel_rfl))) ?_
                obtain ⟨r5671, hr5671, hm⟩ := gx_bind hm
                refine W_call 17 #[.agg #[.slice p5561 r5559.1.Memory.length c5562, .slice p5566 r5559.1.Copy.length c5567, .slice p5571 r5559.1.Dirty.length c5572], .agg #[.slice p4697 r4695.1.Memory.length c4698, .slice p4702 r4695.1.Copy.length c4703, .slice p4707 r4695.1.Dirty.length c4708]] (by kernel_rfl) (by kernel_rfl) ?_
                refine (c_l_eqCopying w5656 r5559.1 p5561 c5562 (ho5564.rd M5659 6 (by kernel_rfl)) p5566 c5567 (ho5569.rd M5659 7 (by kernel_rfl)) p5571 c5572 (ho5574.rd M5659 8 (by kernel_rfl)) r4695.1 p4697 c4698 (ho4700.rd M5659 1 (by kernel_rfl)) p4702 c4703 (ho4705.rd M5659 2 (by kernel_rfl)) p4707 c4708 (ho4710.rd M5659 3 (by kernel_rfl)) hr5671).mono ?_
                rintro e_ w5672 ⟨rfl, K5673⟩
                have M5674 := M5659.call0 K5673
                refine ⟨_, rfl, ?_⟩
                refine W_run 3 [(1, .int .i64 x4568), (2, .pointer (some ⟨b4570, 0, none⟩)), (6, .pointer (some ⟨b4718, 0, none⟩)), (7, .int .i64 r4695.2.1), (8, .bool r4695.2.2), (10, .pointer (some ⟨b5582, 0, none⟩)), (11, .int .i64 r5559.2.1), (12, .bool r5559.2.2), (71, .bool (!r5671))] w5672 (by kernel_rfl) ?_
                rcases gx_bif hm with ⟨hc5675, hm⟩ | ⟨hc5675, hm⟩
                · refine W_known 71 true (by kernel_rfl) hc5675 ?_
                  refine W_run 9 [(1, .int .i64 x4568), (2, .pointer (some ⟨b4570, 0, none⟩)), (6, .pointer (some ⟨b4718, 0, none⟩)), (7, .int .i64 r4695.2.1), (8, .bool r4695.2.2), (10, .pointer (some ⟨b5582, 0, none⟩)), (80, .bool true)] w5672 (by kernel_rfl) ?_
                  refine W_nil ?_
                  obtain rfl := Option.some.inj hm
                  exact N_meet fun a ha => ⟨M5674.pick [0, 1, 2, 3, 4, 6, 7, 8, 9] (by kernel_rfl), ha.sub (by kernel_rfl)⟩
                · refine W_known 71 false (by kernel_rfl) hc5675 ?_
                  refine W_run 5 [(1, .int .i64 x4568), (2, .pointer (some ⟨b4570, 0, none⟩)), (6, .pointer (some ⟨b4718, 0, none⟩)), (7, .int .i64 r4695.2.1), (8, .bool r4695.2.2), (10, .pointer (some ⟨b5582, 0, none⟩)), (12, .bool r5559.2.2), (76, .bool (r5559.2.1 != r4695.2.1))] w5672 (by kernel_rfl) ?_
                  rcases gx_bif hm with ⟨hc5676, hm⟩ | ⟨hc5676, hm⟩
                  · refine W_known 76 true (by kernel_rfl) hc5676 ?_
                    refine W_run 4 [(1, .int .i64 x4568), (2, .pointer (some ⟨b4570, 0, none⟩)), (6, .pointer (some ⟨b4718, 0, none⟩)), (7, .int .i64 r4695.2.1), (8, .bool r4695.2.2), (10, .pointer (some ⟨b5582, 0, none⟩)), (80, .bool true)] w5672 (by kernel_rfl) ?_
                    refine W_nil ?_
                    obtain rfl := Option.some.inj hm
                    exact N_meet fun a ha => ⟨M5674.pick [0, 1, 2, 3, 4, 6, 7, 8, 9] (by kernel_rfl), ha.sub (by kernel_rfl)⟩
                  · refine W_known 76 false (by kernel_rfl) hc5676 ?_
                    refine W_run 4 [(1, .int .i64 x4568), (2, .pointer (some ⟨b4570, 0, none⟩)), (6, .pointer (some ⟨b4718, 0, none⟩)), (7, .int .i64 r4695.2.1), (8, .bool r4695.2.2), (10, .pointer (some ⟨b5582, 0, none⟩)), (80, .bool (!(r5559.2.2 == r4695.2.2)))] w5672 (by kernel_rfl) ?_
                    refine W_nil ?_
                    obtain rfl := Option.some.inj hm
                    exact N_meet fun a ha => ⟨M5674.pick [0, 1, 2, 3, 4, 6, 7, 8, 9] (by kernel_rfl), ha.sub (by kernel_rfl)⟩
            · intro a5679 w5677 ⟨M5678, hS5680⟩
              refine N_use hS5680 ?_
              have hm := hm5669
              refine N_then ?_
              rcases gx_bif hm with ⟨hc5681, hm⟩ | ⟨hc5681, hm⟩
              · refine G_cond_t (b := o5667) hc5681 (by kernel_rfl) ?_
                refine G_seq ?_
                refine G_region ?_
                refine W_run 1 [(4, .bool false)] w5677 (by kernel_rfl) ?_
                refine W_nil ?_
                refine N_then ?_
                refine G_ret ?_
                refine N_then_ret ?_
                obtain rfl := Option.some.inj hm
                refine N_ret [.bool false] (RVs_cons (RV_tmp (by kernel_rfl)) RVs_nil) ?_
                exact ⟨rfl, M5678.pick [] (by kernel_rfl)⟩
              · refine G_cond_f (b := o5667) hc5681 (by kernel_rfl) ?_
                refine G_skip ?_
                refine N_then ?_
                refine G_seq ?_
                refine G_region ?_
                refine W_run 1 [(1, .int .i64 x4568), (2, .pointer (some ⟨b4570, 0, none⟩)), (6, .pointer (some ⟨b4718, 0, none⟩)), (7, .int .i64 r4695.2.1), (8, .bool r4695.2.2), (10, .pointer (some ⟨b5582, 0, none⟩)), (14, .int .i64 1)] w5677 (by kernel_rfl) ?_
                refine W_nil ?_
                refine N_then ?_
                refine G_seq ?_
                refine G_region ?_
                refine W_val (.agg #[.slice p5561 r5559.1.Memory.length c5562, .slice p5566 r5559.1.Copy.length c5567, .slice p5571 r5559.1.Dirty.length c5572]) w5677 (by kernel_rfl) (E_load (e := 28) (fr := (0, 0)) _ _ true 3 b5582 0 [.slice p5561 r5559.1.Memory.length c5562, .slice p5566 r5559.1.Copy.length c5567, .slice p5571 r5559.1.Dirty.length c5572] (.agg #[.slice p5561 r5559.1.Memory.length c5562, .slice p5566 r5559.1.Copy.length c5567, .slice p5571 r5559.1.Dirty.length c5572]) rfl (by kernel_rfl) (by kernel_rfl) (by kernel_rfl) (M5678.blk 8 (b := b5582) (o := .cells ⟨[.slice p5561 r5559.1.Memory.length c5562, .slice p5566 r5559.1.Copy.length c5567, .slice p5571 r5559.1.Dirty.length c5572]⟩ 28 (0, 0)) (by kernel_rfl))) ?_
                refine W_run 1 [(1, .int .i64 x4568), (2, .pointer (some ⟨b4570, 0, none⟩)), (6, .pointer (some ⟨b4718, 0, none⟩)), (7, .int .i64 r4695.2.1), (8, .bool r4695.2.2), (10, .pointer (some ⟨b5582, 0, none⟩)), (14, .int .i64 1), (81, .agg #[.slice p5561 r5559.1.Memory.length c5562, .slice p5566 r5559.1.Copy.length c5567, .slice p5571 r5559.1.Dirty.length c5572]), (82, .int .i64 1)] w5677 (by kernel_rfl) ?_
                obtain ⟨r5682, hr5682, hm⟩ := gx_bind hm
                refine W_call 23 #[.agg #[.slice p5561 r5559.1.Memory.length c5562, .slice p5566 r5559.1.Copy.length c5567, .slice p5571 r5559.1.Dirty.length c5572], .int .i64 1] (by kernel_rfl) (by kernel_rfl) ?_
                refine (c_l_markCopying w5677 r5559.1 p5561 c5562 sg5563 ho5564 p5566 c5567 sg5568 ho5569 p5571 c5572 sg5573 ho5574 1 (M5678.hasPick [5, 6, 7]) (M5678.nodupPick [5, 6, 7] (by kernel_rfl)) hr5682).mono ?_
                rintro e_ w5692 ⟨sg5683, sg5686, sg5689, rfl, ho5684, hl5685, ho5687, hl5688, ho5690, hl5691, K5693⟩
                have M5694 := M5678.callF' [5, 6, 7] [0, 1, 2, 3, 4, 8] (by kernel_rfl) K5693
                refine ⟨_, rfl, ?_⟩
                refine W_conv 81 (.agg #[.slice p5561 r5559.1.Memory.length c5562, .slice p5566 r5559.1.Copy.length c5567, .slice p5571 r5559.1.Dirty.length c5572]) (.agg #[.slice p5561 r5682.2.1.length c5562, .slice p5566 r5682.2.2.1.length c5567, .slice p5571 r5682.2.2.2.length c5572]) (by kernel_rfl) (by first | rw [hl5685, hl5688, hl5691] | rw [hl5685] | rw [hl5688] | rw [hl5691]) ?_
                have M5695 : Mem [] w w5692 [[(b4570, .cells ⟨[.slice p4557 x4555.Memory.length c4558, .slice p4561 x4555.Copy.length c4562, .slice p4565 x4555.Dirty.length c4566]⟩ 25 (0, 0))], sg4699, sg4704, sg4709, [(b4718, .cells ⟨[.slice p4697 r4695.1.Memory.length c4698, .slice p4702 r4695.1.Copy.length c4703, .slice p4707 r4695.1.Dirty.length c4708]⟩ 28 (0, 0))], [(b5582, .cells ⟨[.slice p5561 r5682.2.1.length c5562, .slice p5566 r5682.2.2.1.length c5567, .slice p5571 r5682.2.2.2.length c5572]⟩ 28 (0, 0))], sg5683, sg5686, sg5689] := by rw [hl5685, hl5688, hl5691]; exact M5694
                refine W_run 1 [(1, .int .i64 x4568), (2, .pointer (some ⟨b4570, 0, none⟩)), (6, .pointer (some ⟨b4718, 0, none⟩)), (7, .int .i64 r4695.2.1), (8, .bool r4695.2.2), (10, .pointer (some ⟨b5582, 0, none⟩)), (14, .int .i64 r5682.1)] w5692 (by kernel_rfl) ?_
                refine W_nil ?_
                refine N_then ?_
                refine G_seq ?_
                refine G_region ?_
                refine W_run 1 [(1, .int .i64 x4568), (2, .pointer (some ⟨b4570, 0, none⟩)), (6, .pointer (some ⟨b4718, 0, none⟩)), (7, .int .i64 r4695.2.1), (8, .bool r4695.2.2), (10, .pointer (some ⟨b5582, 0, none⟩)), (14, .int .i64 r5682.1), (15, .int .i64 1)] w5692 (by kernel_rfl) ?_
                refine W_nil ?_
                refine N_then ?_
                refine G_seq ?_
                refine G_region ?_
                refine W_val (.agg #[.slice p5561 r5682.2.1.length c5562, .slice p5566 r5682.2.2.1.length c5567, .slice p5571 r5682.2.2.2.length c5572]) w5692 (by kernel_rfl) (E_load (e := 28) (fr := (0, 0)) _ _ true 3 b5582 0 [.slice p5561 r5682.2.1.length c5562, .slice p5566 r5682.2.2.1.length c5567, .slice p5571 r5682.2.2.2.length c5572] (.agg #[.slice p5561 r5682.2.1.length c5562, .slice p5566 r5682.2.2.1.length c5567, .slice p5571 r5682.2.2.2.length c5572]) rfl (by kernel_rfl) (by kernel_rfl) (by kernel_rfl) (M5695.blk 5 (b := b5582) (o := .cells ⟨[.slice p5561 r5682.2.1.length c5562, .slice p5566 r5682.2.2.1.length c5567, .slice p5571 r5682.2.2.2.length c5572]⟩ 28 (0, 0)) (by kernel_rfl))) ?_
                refine W_run 1 [(1, .int .i64 x4568), (2, .pointer (some ⟨b4570, 0, none⟩)), (6, .pointer (some ⟨b4718, 0, none⟩)), (7, .int .i64 r4695.2.1), (8, .bool r4695.2.2), (10, .pointer (some ⟨b5582, 0, none⟩)), (14, .int .i64 r5682.1), (15, .int .i64 1), (84, .agg #[.slice p5561 r5682.2.1.length c5562, .slice p5566 r5682.2.2.1.length c5567, .slice p5571 r5682.2.2.2.length c5572]), (85, .int .i64 1)] w5692 (by kernel_rfl) ?_
                obtain ⟨r5696, hr5696, hm⟩ := gx_bind hm
                refine W_call 24 #[.agg #[.slice p5561 r5682.2.1.length c5562, .slice p5566 r5682.2.2.1.length c5567, .slice p5571 r5682.2.2.2.length c5572], .int .i64 1] (by kernel_rfl) (by kernel_rfl) ?_
                refine (c_l_heldCopying w5692 (⟨r5682.2.1, r5682.2.2.1, r5682.2.2.2⟩ : Copying) p5561 c5562 (ho5684.rd M5695 6 (by kernel_rfl)) p5566 c5567 (ho5687.rd M5695 7 (by kernel_rfl)) p5571 c5572 (ho5690.rd M5695 8 (by kernel_rfl)) 1 hr5696).mono ?_
                rintro e_ w5697 ⟨rfl, K5698⟩
                have M5699 := M5695.call0 K5698
                refine ⟨_, rfl, ?_⟩
                refine W_run 1 [(1, .int .i64 x4568), (2, .pointer (some ⟨b4570, 0, none⟩)), (6, .pointer (some ⟨b4718, 0, none⟩)), (7, .int .i64 r4695.2.1), (8, .bool r4695.2.2), (10, .pointer (some ⟨b5582, 0, none⟩)), (14, .int .i64 r5682.1), (15, .int .i64 r5696)] w5697 (by kernel_rfl) ?_
                refine W_nil ?_
                refine N_then ?_
                refine G_seq ?_
                refine G_seq ?_
                refine G_region ?_
                refine W_run 2 [(1, .int .i64 x4568), (2, .pointer (some ⟨b4570, 0, none⟩)), (6, .pointer (some ⟨b4718, 0, none⟩)), (7, .int .i64 r4695.2.1), (8, .bool r4695.2.2), (10, .pointer (some ⟨b5582, 0, none⟩)), (14, .int .i64 r5682.1), (15, .int .i64 r5696), (88, .bool (decide (r5696 < 0)))] w5697 (by kernel_rfl) ?_
                refine W_nil ?_
                refine N_then ?_
                rcases gx_bif hm with ⟨hc5700, hm⟩ | ⟨hc5700, hm⟩
                · refine G_cond_t (b := (decide (r5696 < 0))) hc5700 (by kernel_rfl) ?_
                  refine G_seq ?_
                  refine G_region ?_
                  refine W_run 1 [(4, .bool false)] w5697 (by kernel_rfl) ?_
                  refine W_nil ?_
                  refine N_then ?_
                  refine G_ret ?_
                  refine N_then_ret ?_
                  obtain rfl := Option.some.inj hm
                  refine N_ret [.bool false] (RVs_cons (RV_tmp (by kernel_rfl)) RVs_nil) ?_
                  exact ⟨rfl, M5699.pick [] (by kernel_rfl)⟩
                · refine G_cond_f (b := (decide (r5696 < 0))) hc5700 (by kernel_rfl) ?_
                  refine G_skip ?_
                  refine N_then ?_
                  refine G_seq ?_
                  refine G_seq ?_
                  refine G_region ?_
                  refine W_run 3 [(1, .int .i64 x4568), (2, .pointer (some ⟨b4570, 0, none⟩)), (6, .pointer (some ⟨b4718, 0, none⟩)), (7, .int .i64 r4695.2.1), (8, .bool r4695.2.2), (10, .pointer (some ⟨b5582, 0, none⟩)), (14, .int .i64 r5682.1), (91, .bool (r5696 != r5682.1))] w5697 (by kernel_rfl) ?_
                  refine W_nil ?_
                  refine N_then ?_
                  rcases gx_bif hm with ⟨hc5701, hm⟩ | ⟨hc5701, hm⟩
                  · refine G_cond_t (b := (r5696 != r5682.1)) hc5701 (by kernel_rfl) ?_
                    refine G_seq ?_
                    refine G_region ?_
                    refine W_run 1 [(4, .bool false)] w5697 (by kernel_rfl) ?_
                    refine W_nil ?_
                    refine N_then ?_
                    refine G_ret ?_
                    refine N_then_ret ?_
                    obtain rfl := Option.some.inj hm
                    refine N_ret [.bool false] (RVs_cons (RV_tmp (by kernel_rfl)) RVs_nil) ?_
                    exact ⟨rfl, M5699.pick [] (by kernel_rfl)⟩
                  · refine G_cond_f (b := (r5696 != r5682.1)) hc5701 (by kernel_rfl) ?_
                    refine G_skip ?_
                    refine N_then ?_
                    refine G_seq ?_
                    refine G_region ?_
                    refine W_val (.agg #[.slice p4557 x4555.Memory.length c4558, .slice p4561 x4555.Copy.length c4562, .slice p4565 x4555.Dirty.length c4566]) w5697 (by kernel_rfl) (E_load (e := 25) (fr := (0, 0)) _ _ true 3 b4570 0 [.slice p4557 x4555.Memory.length c4558, .slice p4561 x4555.Copy.length c4562, .slice p4565 x4555.Dirty.length c4566] (.agg #[.slice p4557 x4555.Memory.length c4558, .slice p4561 x4555.Copy.length c4562, .slice p4565 x4555.Dirty.length c4566]) rfl (by kernel_rfl) (by kernel_rfl) (by kernel_rfl) (M5699.blk 0 (b := b4570) (o := .cells ⟨[.slice p4557 x4555.Memory.length c4558, .slice p4561 x4555.Copy.length c4562, .slice p4565 x4555.Dirty.length c4566]⟩ 25 (0, 0)) (by kernel_rfl))) ?_
                    obtain ⟨r5702, hr5702, hm⟩ := gx_bind hm
                    refine W_call 15 #[.agg #[.slice p4557 x4555.Memory.length c4558, .slice p4561 x4555.Copy.length c4562, .slice p4565 x4555.Dirty.length c4566]] (by kernel_rfl) (by kernel_rfl) ?_
                    refine (c_l_toCopying w5697 x4555 p4557 c4558 (h4559.mem0 M5699) p4561 c4562 (h4563.mem0 M5699) p4565 c4566 (h4567.mem0 M5699) hr5702).mono ?_
                    rintro e_ w5718 ⟨p5704, c5705, sg5706, p5709, c5710, sg5711, p5714, c5715, sg5716, rfl, ho5707, ho5712, ho5717, K5719⟩
                    have M5720 := M5699.call K5719
                    refine ⟨_, rfl, ?_⟩
                    refine W_run 1 [(6, .pointer (some ⟨b4718, 0, none⟩)), (7, .int .i64 r4695.2.1), (8, .bool r4695.2.2), (10, .pointer (some ⟨b5582, 0, none⟩)), (14, .int .i64 r5682.1), (94, .agg #[.slice p5704 r5702.Memory.length c5705, .slice p5709 r5702.Copy.length c5710, .slice p5714 r5702.Dirty.length c5715]), (95, .int .i64 x4568)] w5718 (by kernel_rfl) ?_
                    obtain ⟨r5721, hr5721, hm⟩ := gx_bind hm
                    refine W_call 34 #[.agg #[.slice p5704 r5702.Memory.length c5705, .slice p5709 r5702.Copy.length c5710, .slice p5714 r5702.Dirty.length c5715], .int .i64 x4568] (by kernel_rfl) (by kernel_rfl) ?_
                    refine (c_i_CopyRound w5718 r5702 p5704 c5705 (ho5707.rd M5720 9 (by kernel_rfl)) p5709 c5710 (ho5712.rd M5720 10 (by kernel_rfl)) p5714 c5715 (ho5717.rd M5720 11 (by kernel_rfl)) x4568 hr5721).mono ?_
                    rintro e_ w5737 ⟨p5723, c5724, sg5725, p5728, c5729, sg5730, p5733, c5734, sg5735, rfl, ho5726, ho5731, ho5736, K5738⟩
                    have M5739 := M5720.call K5738
                    refine ⟨_, rfl, ?_⟩
                    refine W_run 4 [(6, .pointer (some ⟨b4718, 0, none⟩)), (7, .int .i64 r4695.2.1), (8, .bool r4695.2.2), (10, .pointer (some ⟨b5582, 0, none⟩)), (14, .int .i64 r5682.1), (97, .agg #[.slice p5723 r5721.1.Memory.length c5724, .slice p5728 r5721.1.Copy.length c5729, .slice p5733 r5721.1.Dirty.length c5734]), (98, .int .i64 r5721.2.1), (99, .bool r5721.2.2)] w5737 (by kernel_rfl) ?_
                    refine W_new (fun b => .pointer (some ⟨b, 0, none⟩)) (.cells ⟨[.slice none 0 0, .slice none 0 0, .slice none 0 0]⟩ 28 (0, 0)) M5739 rfl (by kernel_rfl) (by kernel_rfl) ?_
                    intro b5744 w5745 M5746
                    refine W_store _ _ _ true 3 b5744 0 [.slice none 0 0, .slice none 0 0, .slice none 0 0] 28 (.agg #[.slice p5723 r5721.1.Memory.length c5724, .slice p5728 r5721.1.Copy.length c5729, .slice p5733 r5721.1.Dirty.length c5734]) 15 [.slice p5723 r5721.1.Memory.length c5724, .slice p5728 r5721.1.Copy.length c5729, .slice p5733 r5721.1.Dirty.length c5734] M5746 (by kernel_rfl) rfl (by kernel_rfl) (by kernel_rfl) (by kernel_rfl) (by kernel_rfl) (by kernel_rfl) (by kernel_rfl) (by kernel_rfl) (by kernel_rfl) ?_
                    intro w5747 M5748
                    refine W_run 2 [(6, .pointer (some ⟨b4718, 0, none⟩)), (7, .int .i64 r4695.2.1), (8, .bool r4695.2.2), (10, .pointer (some ⟨b5582, 0, none⟩)), (14, .int .i64 r5682.1), (16, .pointer (some ⟨b5744, 0, none⟩)), (17, .int .i64 r5721.2.1), (18, .bool r5721.2.2)] w5747 (by kernel_rfl) ?_
                    refine W_nil ?_
                    refine N_then ?_
                    refine G_seq ?_
                    refine G_seq ?_
                    obtain ⟨o5755, ho5756, hm5757⟩ := gx_bind hm
                    refine G_meet (fun a w' => Mem [] w w' [[(b5582, .cells ⟨[.slice p5561 r5682.2.1.length c5562, .slice p5566 r5682.2.2.1.length c5567, .slice p5571 r5682.2.2.2.length c5572]⟩ 28 (0, 0))], sg5683, sg5686, sg5689] ∧ Sat Try.f8.ntmps [(10, .pointer (some ⟨b5582, 0, none⟩)), (14, .int .i64 r5682.1), (113, .bool o5755)] a) ?_ ?_
                    · have hm := ho5756
                      refine G_region ?_
                      refine W_val (.agg #[.slice p5723 r5721.1.Memory.length c5724, .slice p5728 r5721.1.Copy.length c5729, .slice p5733 r5721.1.Dirty.length c5734]) w5747 (by kernel_rfl) (E_load (e := 28) (fr := (0, 0)) _ _ true 3 b5744 0 [.slice p5723 r5721.1.Memory.length c5724, .slice p5728 r5721.1.Copy.length c5729, .slice p5733 r5721.1.Dirty.length c5734] (.agg #[.slice p5723 r5721.1.Memory.length c5724, .slice p5728 r5721.1.Copy.length c5729, .slice p5733 r5721.1.Dirty.length c5734]) rfl (by kernel_rfl) (by kernel_rfl) (by kernel_rfl) (M5748.blk 15 (b := b5744) (o := .cells ⟨[.slice p5723 r5721.1.Memory.length c5724, .slice p5728 r5721.1.Copy.length c5729, .slice p5733 r5721.1.Dirty.length c5734]⟩ 28 (0, 0)) (by kernel_rfl))) ?_
                      refine W_val (.agg #[.slice p4697 r4695.1.Memory.length c4698, .slice p4702 r4695.1.Copy.length c4703, .slice p4707 r4695.1.Dirty.length c4708]) w5747 (by kernel_rfl) (E_load (e := 28) (fr := (0, 0)) _ _ true 3 b4718 0 [.slice p4697 r4695.1.Memory.length c4698, .slice p4702 r4695.1.Copy.length c4703, .slice p4707 r4695.1.Dirty.length c4708] (.agg #[.slice p4697 r4695.1.Memory.length c4698, .slice p4702 r4695.1.Copy.length c4703, .slice p4707 r4695.1.Dirty.length c4708]) rfl (by kernel_rfl) (by kernel_rfl) (by kernel_rfl) (M5748.blk 4 (b := b4718) (o := .cells ⟨[.slice p4697 r4695.1.Memory.length c4698, .slice p4702 r4695.1.Copy.length c4703, .slice p4707 r4695.1.Dirty.length c4708]⟩ 28 (0, 0)) (by kernel_rfl))) ?_
                      obtain ⟨r5758, hr5758, hm⟩ := gx_bind hm
                      refine W_call 17 #[.agg #[.slice p5723 r5721.1.Memory.length c5724, .slice p5728 r5721.1.Copy.length c5729, .slice p5733 r5721.1.Dirty.length c5734], .agg #[.slice p4697 r4695.1.Memory.length c4698, .slice p4702 r4695.1.Copy.length c4703, .slice p4707 r4695.1.Dirty.length c4708]] (by kernel_rfl) (by kernel_rfl) ?_
                      refine (c_l_eqCopying w5747 r5721.1 p5723 c5724 (ho5726.rd M5748 12 (by kernel_rfl)) p5728 c5729 (ho5731.rd M5748 13 (by kernel_rfl)) p5733 c5734 (ho5736.rd M5748 14 (by kernel_rfl)) r4695.1 p4697 c4698 (ho4700.rd M5748 1 (by kernel_rfl)) p4702 c4703 (ho4705.rd M5748 2 (by kernel_rfl)) p4707 c4708 (ho4710.rd M5748 3 (by kernel_rfl)) hr5758).mono ?_
                      rintro e_ w5759 ⟨rfl, K5760⟩
                      have M5761 := M5748.call0 K5760
                      refine ⟨_, rfl, ?_⟩
                      refine W_run 2 [(7, .int .i64 r4695.2.1), (8, .bool r4695.2.2), (10, .pointer (some ⟨b5582, 0, none⟩)), (14, .int .i64 r5682.1), (17, .int .i64 r5721.2.1), (18, .bool r5721.2.2), (104, .bool (!r5758))] w5759 (by kernel_rfl) ?_
                      rcases gx_bif hm with ⟨hc5762, hm⟩ | ⟨hc5762, hm⟩
                      · refine W_known 104 true (by kernel_rfl) hc5762 ?_
                        refine W_run 9 [(10, .pointer (some ⟨b5582, 0, none⟩)), (14, .int .i64 r5682.1), (113, .bool true)] w5759 (by kernel_rfl) ?_
                        refine W_nil ?_
                        obtain rfl := Option.some.inj hm
                        exact N_meet fun a ha => ⟨M5761.pick [5, 6, 7, 8] (by kernel_rfl), ha.sub (by kernel_rfl)⟩
                      · refine W_known 104 false (by kernel_rfl) hc5762 ?_
                        refine W_run 5 [(8, .bool r4695.2.2), (10, .pointer (some ⟨b5582, 0, none⟩)), (14, .int .i64 r5682.1), (18, .bool r5721.2.2), (109, .bool (r5721.2.1 != r4695.2.1))] w5759 (by kernel_rfl) ?_
                        rcases gx_bif hm with ⟨hc5763, hm⟩ | ⟨hc5763, hm⟩
                        · refine W_known 109 true (by kernel_rfl) hc5763 ?_
                          refine W_run 4 [(10, .pointer (some ⟨b5582, 0, none⟩)), (14, .int .i64 r5682.1), (113, .bool true)] w5759 (by kernel_rfl) ?_
                          refine W_nil ?_
                          obtain rfl := Option.some.inj hm
                          exact N_meet fun a ha => ⟨M5761.pick [5, 6, 7, 8] (by kernel_rfl), ha.sub (by kernel_rfl)⟩
                        · refine W_known 109 false (by kernel_rfl) hc5763 ?_
                          refine W_run 4 [(10, .pointer (some ⟨b5582, 0, none⟩)), (14, .int .i64 r5682.1), (113, .bool (!(r5721.2.2 == r4695.2.2)))] w5759 (by kernel_rfl) ?_
                          refine W_nil ?_
                          obtain rfl := Option.some.inj hm
                          exact N_meet fun a ha => ⟨M5761.pick [5, 6, 7, 8] (by kernel_rfl), ha.sub (by kernel_rfl)⟩
                    · intro a5766 w5764 ⟨M5765, hS5767⟩
                      refine N_use hS5767 ?_
                      have hm := hm5757
                      refine N_then ?_
                      rcases gx_bif hm with ⟨hc5768, hm⟩ | ⟨hc5768, hm⟩
                      · refine G_cond_t (b := o5755) hc5768 (by kernel_rfl) ?_
                        refine G_seq ?_
                        refine G_region ?_
                        refine W_run 1 [(4, .bool false)] w5764 (by kernel_rfl) ?_
                        refine W_nil ?_
                        refine N_then ?_
                        refine G_ret ?_
                        refine N_then_ret ?_
                        obtain rfl := Option.some.inj hm
                        refine N_ret [.bool false] (RVs_cons (RV_tmp (by kernel_rfl)) RVs_nil) ?_
                        exact ⟨rfl, M5765.pick [] (by kernel_rfl)⟩
                      · refine G_cond_f (b := o5755) hc5768 (by kernel_rfl) ?_
                        refine G_skip ?_
                        refine N_then ?_
                        refine G_seq ?_
                        refine G_region ?_
                        refine W_run 1 [(10, .pointer (some ⟨b5582, 0, none⟩)), (14, .int .i64 r5682.1), (15, .int .i64 1)] w5764 (by kernel_rfl) ?_
                        refine W_nil ?_
                        refine N_then ?_
                        refine G_seq ?_
                        refine G_region ?_
                        refine W_val (.agg #[.slice p5561 r5682.2.1.length c5562, .slice p5566 r5682.2.2.1.length c5567, .slice p5571 r5682.2.2.2.length c5572]) w5764 (by kernel_rfl) (E_load (e := 28) (fr := (0, 0)) _ _ true 3 b5582 0 [.slice p5561 r5682.2.1.length c5562, .slice p5566 r5682.2.2.1.length c5567, .slice p5571 r5682.2.2.2.length c5572] (.agg #[.slice p5561 r5682.2.1.length c5562, .slice p5566 r5682.2.2.1.length c5567, .slice p5571 r5682.2.2.2.length c5572]) rfl (by kernel_rfl) (by kernel_rfl) (by kernel_rfl) (M5765.blk 0 (b := b5582) (o := .cells ⟨[.slice p5561 r5682.2.1.length c5562, .slice p5566 r5682.2.2.1.length c5567, .slice p5571 r5682.2.2.2.length c5572]⟩ 28 (0, 0)) (by kernel_rfl))) ?_
                        refine W_run 1 [(14, .int .i64 r5682.1), (15, .int .i64 1), (114, .agg #[.slice p5561 r5682.2.1.length c5562, .slice p5566 r5682.2.2.1.length c5567, .slice p5571 r5682.2.2.2.length c5572]), (115, .int .i64 1)] w5764 (by kernel_rfl) ?_
                        obtain ⟨r5769, hr5769, hm⟩ := gx_bind hm
                        refine W_call 24 #[.agg #[.slice p5561 r5682.2.1.length c5562, .slice p5566 r5682.2.2.1.length c5567, .slice p5571 r5682.2.2.2.length c5572], .int .i64 1] (by kernel_rfl) (by kernel_rfl) ?_
                        refine (c_l_heldCopying w5764 (⟨r5682.2.1, r5682.2.2.1, r5682.2.2.2⟩ : Copying) p5561 c5562 (ho5684.rd M5765 1 (by kernel_rfl)) p5566 c5567 (ho5687.rd M5765 2 (by kernel_rfl)) p5571 c5572 (ho5690.rd M5765 3 (by kernel_rfl)) 1 hr5769).mono ?_
                        rintro e_ w5770 ⟨rfl, K5771⟩
                        have M5772 := M5765.call0 K5771
                        refine ⟨_, rfl, ?_⟩
                        refine W_run 1 [(14, .int .i64 r5682.1), (15, .int .i64 r5769)] w5770 (by kernel_rfl) ?_
                        refine W_nil ?_
                        refine N_then ?_
                        refine G_seq ?_
                        refine G_seq ?_
                        refine G_region ?_
                        refine W_run 2 [(14, .int .i64 r5682.1), (15, .int .i64 r5769), (118, .bool (decide (r5769 < 0)))] w5770 (by kernel_rfl) ?_
                        refine W_nil ?_
                        refine N_then ?_
                        rcases gx_bif hm with ⟨hc5773, hm⟩ | ⟨hc5773, hm⟩
                        · refine G_cond_t (b := (decide (r5769 < 0))) hc5773 (by kernel_rfl) ?_
                          refine G_seq ?_
                          refine G_region ?_
                          refine W_run 1 [(4, .bool false)] w5770 (by kernel_rfl) ?_
                          refine W_nil ?_
                          refine N_then ?_
                          refine G_ret ?_
                          refine N_then_ret ?_
                          obtain rfl := Option.some.inj hm
                          refine N_ret [.bool false] (RVs_cons (RV_tmp (by kernel_rfl)) RVs_nil) ?_
                          exact ⟨rfl, M5772.pick [] (by kernel_rfl)⟩
                        · refine G_cond_f (b := (decide (r5769 < 0))) hc5773 (by kernel_rfl) ?_
                          refine G_skip ?_
                          refine N_then ?_
                          refine G_seq ?_
                          refine G_seq ?_
                          refine G_region ?_
                          refine W_run 3 [(121, .bool (r5769 != r5682.1))] w5770 (by kernel_rfl) ?_
                          refine W_nil ?_
                          refine N_then ?_
                          rcases gx_bif hm with ⟨hc5774, hm⟩ | ⟨hc5774, hm⟩
                          · refine G_cond_t (b := (r5769 != r5682.1)) hc5774 (by kernel_rfl) ?_
                            refine G_seq ?_
                            refine G_region ?_
                            refine W_run 1 [(4, .bool false)] w5770 (by kernel_rfl) ?_
                            refine W_nil ?_
                            refine N_then ?_
                            refine G_ret ?_
                            refine N_then_ret ?_
                            obtain rfl := Option.some.inj hm
                            refine N_ret [.bool false] (RVs_cons (RV_tmp (by kernel_rfl)) RVs_nil) ?_
                            exact ⟨rfl, M5772.pick [] (by kernel_rfl)⟩
                          · refine G_cond_f (b := (r5769 != r5682.1)) hc5774 (by kernel_rfl) ?_
                            refine G_skip ?_
                            refine N_then ?_
                            refine G_seq ?_
                            refine G_region ?_
                            refine W_run 1 [(4, .bool true)] w5770 (by kernel_rfl) ?_
                            refine W_nil ?_
                            refine N_then ?_
                            refine G_ret ?_
                            obtain rfl := Option.some.inj hm
                            refine N_ret [.bool true] (RVs_cons (RV_tmp (by kernel_rfl)) RVs_nil) ?_
                            exact ⟨rfl, M5772.pick [] (by kernel_rfl)⟩
theorem c_l_vBig (w : World) (x5816 : List Int) (p5818 : Option Addr) (c5819 : Nat) (h5820 : rdS encU8 w x5816 p5818 c5819) {r : Bool} (hm : M.l_vBig x5816 = some r) :
    Calls Try.prog 43 #[.slice p5818 x5816.length c5819] w fun e w' => e = .returned (.bool r) ∧ Mem [] w w' [] := by
  unfold M.l_vBig at hm
  refine C_enter Try.func43 rfl (by kernel_rfl) ?_
  have M0 := Mem.refl [] w
  refine G_seq ?_
  refine G_region ?_
  refine W_run 1 [(0, .slice p5818 x5816.length c5819)] w (by kernel_rfl) ?_
  refine W_nil ?_
  refine N_then ?_
  refine G_seq ?_
  refine G_region ?_
  refine W_run 4 [(2, .bool (decide ((x5816.length : Int) > 65536)))] w (by kernel_rfl) ?_
  refine W_nil ?_
  refine N_then ?_
  refine G_ret ?_
  obtain rfl := Option.some.inj hm
  refine N_ret [.bool (decide ((x5816.length : Int) > 65536))] (RVs_cons (RV_tmp (by kernel_rfl)) RVs_nil) ?_
  exact ⟨rfl, M0.pick [] (by kernel_rfl)⟩
theorem c_s_l1Cur_next (w : World) (x5943 : l1Cur) (p5947 : Option Addr) (c5948 : Nat) (h5949 : rdS encU8 w x5943.code p5947 c5948) (b5945 : Nat) (hA : ∀ q ∈ List.flatten [[(b5945, .cells ⟨[.slice p5947 x5943.code.length c5948, .int .i64 x5943.at_, .int .u64 x5943.seed]⟩ 99 (0, 0))]], w.heap[q.1]? = some q.2) (hN : (idsOf [[(b5945, .cells ⟨[.slice p5947 x5943.code.length c5948, .int .i64 x5943.at_, .int .u64 x5943.seed]⟩ 99 (0, 0))]]).Nodup) (hap5950 : apartX (idsOf [[(b5945, .cells ⟨[.slice p5947 x5943.code.length c5948, .int .i64 x5943.at_, .int .u64 x5943.seed]⟩ 99 (0, 0))]]) x5943.code p5947) {r : Int × Int × Int} (hm : M.s_l1Cur_next x5943 = some r) :
    Calls Try.prog 103 #[.pointer (some ⟨b5945, 0, none⟩)] w fun e w' => e = .returned (.int .i64 r.1) ∧ Mem (idsOf [[(b5945, .cells ⟨[.slice p5947 x5943.code.length c5948, .int .i64 x5943.at_, .int .u64 x5943.seed]⟩ 99 (0, 0))]]) w w' [[(b5945, .cells ⟨[.slice p5947 x5943.code.length c5948, .int .i64 r.2.1, .int .u64 r.2.2]⟩ 99 (0, 0))]] := by
  unfold M.s_l1Cur_next at hm
  refine C_enter Try.func103 rfl (by kernel_rfl) ?_
  have M0 := Mem.start' w [[(b5945, .cells ⟨[.slice p5947 x5943.code.length c5948, .int .i64 x5943.at_, .int .u64 x5943.seed]⟩ 99 (0, 0))]] hA hN
  refine G_seq ?_
  refine G_region ?_
  refine W_run 1 [(0, .pointer (some ⟨b5945, 0, none⟩))] w (by kernel_rfl) ?_
  refine W_nil ?_
  refine N_then ?_
  refine G_seq ?_
  refine G_region ?_
  refine W_run 1 [(0, .pointer (some ⟨b5945, 0, none⟩)), (3, .int .i64 0)] w (by kernel_rfl) ?_
  refine W_nil ?_
  refine N_then ?_
  refine G_seq ?_
  refine G_seq ?_
  refine G_quiet (by kernel_rfl) (by kernel_rfl) M0 ?_
  refine Z_runs [.pointer (some ⟨b5945, 0, none⟩), .pointer (some ⟨b5945, 0, none⟩), .pointer (some ⟨b5945, 1, none⟩)] [(0, .pointer (some ⟨b5945, 0, none⟩)), (3, .int .i64 0), (6, .pointer (some ⟨b5945, 1, none⟩))] (fun w_ => by kernel_rfl) (by kernel_rfl) ?_
  refine Z_val (.int .i64 x5943.at_) (by kernel_rfl) (fun w_ M_ => (E_load (e := 99) (fr := (0, 0)) _ _ false 1 b5945 1 [.slice p5947 x5943.code.length c5948, .int .i64 x5943.at_, .int .u64 x5943.seed] (.int .i64 x5943.at_) rfl (by kernel_rfl) (by kernel_rfl) (by kernel_rfl) (M_.blk 0 (b := b5945) (o := .cells ⟨[.slice p5947 x5943.code.length c5948, .int .i64 x5943.at_, .int .u64 x5943.seed]⟩ 99 (0, 0)) (by kernel_rfl)))) ?_
  refine Z_runs [.pointer (some ⟨b5945, 0, none⟩), .pointer (some ⟨b5945, 0, none⟩), .pointer (some ⟨b5945, 0, none⟩)] [(0, .pointer (some ⟨b5945, 0, none⟩)), (3, .int .i64 0), (7, .int .i64 x5943.at_), (10, .pointer (some ⟨b5945, 0, none⟩))] (fun w_ => by kernel_rfl) (by kernel_rfl) ?_
  refine Z_val (.slice p5947 x5943.code.length c5948) (by kernel_rfl) (fun w_ M_ => (E_load (e := 99) (fr := (0, 0)) _ _ false 1 b5945 0 [.slice p5947 x5943.code.length c5948, .int .i64 x5943.at_, .int .u64 x5943.seed] (.slice p5947 x5943.code.length c5948) rfl (by kernel_rfl) (by kernel_rfl) (by kernel_rfl) (M_.blk 0 (b := b5945) (o := .cells ⟨[.slice p5947 x5943.code.length c5948, .int .i64 x5943.at_, .int .u64 x5943.seed]⟩ 99 (0, 0)) (by kernel_rfl)))) ?_
  refine Z_runs [.int .i64 (x5943.code.length : Int), .bool (decide (x5943.at_ < (x5943.code.length : Int)))] [(0, .pointer (some ⟨b5945, 0, none⟩)), (3, .int .i64 0), (13, .bool (decide (x5943.at_ < (x5943.code.length : Int))))] (fun w_ => by kernel_rfl) (by kernel_rfl) ?_
  refine Z_end fun w5951 M5952 => ?_
  refine N_then ?_
  obtain ⟨o5957, ho5958, hm5959⟩ := gx_bind hm
  refine G_meet (fun a w' => Mem (idsOf [[(b5945, .cells ⟨[.slice p5947 x5943.code.length c5948, .int .i64 x5943.at_, .int .u64 x5943.seed]⟩ 99 (0, 0))]]) w w' [[(b5945, .cells ⟨[.slice p5947 x5943.code.length c5948, .int .i64 x5943.at_, .int .u64 x5943.seed]⟩ 99 (0, 0))]] ∧ Sat Try.f103.ntmps [(0, .pointer (some ⟨b5945, 0, none⟩)), (3, .int .i64 o5957)] a) ?_ ?_
  · have hm := ho5958
    rcases gx_bif hm with ⟨hc5960, hm⟩ | ⟨hc5960, hm⟩
    · refine G_cond_t (b := (decide (x5943.at_ < (x5943.code.length : Int)))) hc5960 (by kernel_rfl) ?_
      refine G_quiet (by kernel_rfl) (by kernel_rfl) M5952 ?_
      refine Z_runs [.pointer (some ⟨b5945, 0, none⟩), .pointer (some ⟨b5945, 0, none⟩), .pointer (some ⟨b5945, 0, none⟩)] [(0, .pointer (some ⟨b5945, 0, none⟩)), (3, .int .i64 0), (16, .pointer (some ⟨b5945, 0, none⟩))] (fun w_ => by kernel_rfl) (by kernel_rfl) ?_
      refine Z_val (.slice p5947 x5943.code.length c5948) (by kernel_rfl) (fun w_ M_ => (E_load (e := 99) (fr := (0, 0)) _ _ false 1 b5945 0 [.slice p5947 x5943.code.length c5948, .int .i64 x5943.at_, .int .u64 x5943.seed] (.slice p5947 x5943.code.length c5948) rfl (by kernel_rfl) (by kernel_rfl) (by kernel_rfl) (M_.blk 0 (b := b5945) (o := .cells ⟨[.slice p5947 x5943.code.length c5948, .int .i64 x5943.at_, .int .u64 x5943.seed]⟩ 99 (0, 0)) (by kernel_rfl)))) ?_
      refine Z_runs [.pointer (some ⟨b5945, 0, none⟩), .pointer (some ⟨b5945, 0, none⟩), .pointer (some ⟨b5945, 1, none⟩)] [(0, .pointer (some ⟨b5945, 0, none⟩)), (3, .int .i64 0), (17, .slice p5947 x5943.code.length c5948), (20, .pointer (some ⟨b5945, 1, none⟩))] (fun w_ => by kernel_rfl) (by kernel_rfl) ?_
      refine Z_val (.int .i64 x5943.at_) (by kernel_rfl) (fun w_ M_ => (E_load (e := 99) (fr := (0, 0)) _ _ false 1 b5945 1 [.slice p5947 x5943.code.length c5948, .int .i64 x5943.at_, .int .u64 x5943.seed] (.int .i64 x5943.at_) rfl (by kernel_rfl) (by kernel_rfl) (by kernel_rfl) (M_.blk 0 (b := b5945) (o := .cells ⟨[.slice p5947 x5943.code.length c5948, .int .i64 x5943.at_, .int .u64 x5943.seed]⟩ 99 (0, 0)) (by kernel_rfl)))) ?_
      obtain ⟨y5961, hy5961, hm⟩ := gx_bind hm
      refine Z_val (elemP p5947 (x5943.at_.toNat * 1)) (by kernel_rfl) (fun w_ M_ => (E_index (E := encU8) _ _ _ x5943.code.length c5948 .i64 x5943.at_ 1 (y := y5961) rfl (by kernel_rfl) (by kernel_rfl) (by kernel_rfl) (h5949.memX hap5950 M_) rfl hy5961)) ?_
      refine Z_val (.int .u8 y5961) (by kernel_rfl) (fun w_ M_ => (E_loadE (E := encU8) _ _ false 1 x5943.at_ 0 (x5943.at_.toNat * 1) y5961 (.int .u8 y5961) rfl (by kernel_rfl) (by kernel_rfl) (by kernel_rfl) (h5949.memX hap5950 M_) hy5961 rfl)) ?_
      refine Z_runs [.int .i64 (w64 y5961), .int .i64 (w64 y5961)] [(0, .pointer (some ⟨b5945, 0, none⟩)), (3, .int .i64 (w64 y5961))] (fun w_ => by kernel_rfl) (by kernel_rfl) ?_
      refine Z_end fun w5962 M5963 => ?_
      obtain rfl := Option.some.inj hm
      exact N_meet fun a ha => ⟨M5963.pick [0] (by kernel_rfl), ha.sub (by kernel_rfl)⟩
    · refine G_cond_f (b := (decide (x5943.at_ < (x5943.code.length : Int)))) hc5960 (by kernel_rfl) ?_
      refine G_skip ?_
      obtain rfl := Option.some.inj hm
      exact N_meet fun a ha => ⟨M5952.pick [0] (by kernel_rfl), ha.sub (by kernel_rfl)⟩
  · intro a5966 w5964 ⟨M5965, hS5967⟩
    refine N_use hS5967 ?_
    have hm := hm5959
    refine N_then ?_
    refine G_seq ?_
    refine G_region ?_
    refine W_run 3 [(0, .pointer (some ⟨b5945, 0, none⟩)), (3, .int .i64 o5957), (25, .pointer (some ⟨b5945, 0, none⟩)), (27, .pointer (some ⟨b5945, 1, none⟩))] w5964 (by kernel_rfl) ?_
    refine W_val (.int .i64 x5943.at_) w5964 (by kernel_rfl) (E_load (e := 99) (fr := (0, 0)) _ _ false 1 b5945 1 [.slice p5947 x5943.code.length c5948, .int .i64 x5943.at_, .int .u64 x5943.seed] (.int .i64 x5943.at_) rfl (by kernel_rfl) (by kernel_rfl) (by kernel_rfl) (M5965.blk 0 (b := b5945) (o := .cells ⟨[.slice p5947 x5943.code.length c5948, .int .i64 x5943.at_, .int .u64 x5943.seed]⟩ 99 (0, 0)) (by kernel_rfl))) ?_
    refine W_run 3 [(0, .pointer (some ⟨b5945, 0, none⟩)), (3, .int .i64 o5957), (29, .int .i64 (w64 (x5943.at_ + 1))), (31, .pointer (some ⟨b5945, 1, none⟩))] w5964 (by kernel_rfl) ?_
    refine W_store _ _ _ false 1 b5945 1 [.slice p5947 x5943.code.length c5948, .int .i64 x5943.at_, .int .u64 x5943.seed] 99 (.int .i64 (w64 (x5943.at_ + 1))) 0 [.slice p5947 x5943.code.length c5948, .int .i64 (w64 (x5943.at_ + 1)), .int .u64 x5943.seed] M5965 (by kernel_rfl) rfl (by kernel_rfl) (by kernel_rfl) (by kernel_rfl) (by kernel_rfl) (by kernel_rfl) (by kernel_rfl) (by kernel_rfl) (by kernel_rfl) ?_
    intro w5968 M5969
    refine W_nil ?_
    refine N_then ?_
    refine G_seq ?_
    refine G_region ?_
    refine W_run 4 [(0, .pointer (some ⟨b5945, 0, none⟩)), (3, .int .i64 o5957), (32, .pointer (some ⟨b5945, 0, none⟩)), (35, .pointer (some ⟨b5945, 2, none⟩))] w5968 (by kernel_rfl) ?_
    refine W_val (.int .u64 x5943.seed) w5968 (by kernel_rfl) (E_load (e := 99) (fr := (0, 0)) _ _ false 1 b5945 2 [.slice p5947 x5943.code.length c5948, .int .i64 (w64 (x5943.at_ + 1)), .int .u64 x5943.seed] (.int .u64 x5943.seed) rfl (by kernel_rfl) (by kernel_rfl) (by kernel_rfl) (M5969.blk 0 (b := b5945) (o := .cells ⟨[.slice p5947 x5943.code.length c5948, .int .i64 (w64 (x5943.at_ + 1)), .int .u64 x5943.seed]⟩ 99 (0, 0)) (by kernel_rfl))) ?_
    refine W_run 7 [(0, .pointer (some ⟨b5945, 0, none⟩)), (3, .int .i64 o5957), (41, .int .u64 (IntKind.u64.wrap ((IntKind.u64.wrap ((IntKind.u64.wrap (x5943.seed * 6364136223846793005)) + (IntKind.u64.wrap o5957))) + 843843))), (43, .pointer (some ⟨b5945, 2, none⟩))] w5968 (by kernel_rfl) ?_
    refine W_store _ _ _ false 1 b5945 2 [.slice p5947 x5943.code.length c5948, .int .i64 (w64 (x5943.at_ + 1)), .int .u64 x5943.seed] 99 (.int .u64 (IntKind.u64.wrap ((IntKind.u64.wrap ((IntKind.u64.wrap (x5943.seed * 6364136223846793005)) + (IntKind.u64.wrap o5957))) + 843843))) 0 [.slice p5947 x5943.code.length c5948, .int .i64 (w64 (x5943.at_ + 1)), .int .u64 (IntKind.u64.wrap ((IntKind.u64.wrap ((IntKind.u64.wrap (x5943.seed * 6364136223846793005)) + (IntKind.u64.wrap o5957))) + 843843))] M5969 (by kernel_rfl) rfl (by kernel_rfl) (by kernel_rfl) (by kernel_rfl) (by kernel_rfl) (by kernel_rfl) (by kernel_rfl) (by kernel_rfl) (by kernel_rfl) ?_
    intro w5970 M5971
    refine W_nil ?_
    refine N_then ?_
    refine G_seq ?_
    refine G_seq ?_
    refine G_quiet (by kernel_rfl) (by kernel_rfl) M5971 ?_
    refine Z_runs [.pointer (some ⟨b5945, 0, none⟩), .pointer (some ⟨b5945, 0, none⟩), .pointer (some ⟨b5945, 1, none⟩)] [(0, .pointer (some ⟨b5945, 0, none⟩)), (3, .int .i64 o5957), (46, .pointer (some ⟨b5945, 1, none⟩))] (fun w_ => by kernel_rfl) (by kernel_rfl) ?_
    refine Z_val (.int .i64 (w64 (x5943.at_ + 1))) (by kernel_rfl) (fun w_ M_ => (E_load (e := 99) (fr := (0, 0)) _ _ false 1 b5945 1 [.slice p5947 x5943.code.length c5948, .int .i64 (w64 (x5943.at_ + 1)), .int .u64 (IntKind.u64.wrap ((IntKind.u64.wrap ((IntKind.u64.wrap (x5943.seed * 6364136223846793005)) + (IntKind.u64.wrap o5957))) + 843843))] (.int .i64 (w64 (x5943.at_ + 1))) rfl (by kernel_rfl) (by kernel_rfl) (by kernel_rfl) (M_.blk 0 (b := b5945) (o := .cells ⟨[.slice p5947 x5943.code.length c5948, .int .i64 (w64 (x5943.at_ + 1)), .int .u64 (IntKind.u64.wrap ((IntKind.u64.wrap ((IntKind.u64.wrap (x5943.seed * 6364136223846793005)) + (IntKind.u64.wrap o5957))) + 843843))]⟩ 99 (0, 0)) (by kernel_rfl)))) ?_
    refine Z_runs [.pointer (some ⟨b5945, 0, none⟩), .pointer (some ⟨b5945, 0, none⟩), .pointer (some ⟨b5945, 0, none⟩)] [(0, .pointer (some ⟨b5945, 0, none⟩)), (3, .int .i64 o5957), (47, .int .i64 (w64 (x5943.at_ + 1))), (50, .pointer (some ⟨b5945, 0, none⟩))] (fun w_ => by kernel_rfl) (by kernel_rfl) ?_
    refine Z_val (.slice p5947 x5943.code.length c5948) (by kernel_rfl) (fun w_ M_ => (E_load (e := 99) (fr := (0, 0)) _ _ false 1 b5945 0 [.slice p5947 x5943.code.length c5948, .int .i64 (w64 (x5943.at_ + 1)), .int .u64 (IntKind.u64.wrap ((IntKind.u64.wrap ((IntKind.u64.wrap (x5943.seed * 6364136223846793005)) + (IntKind.u64.wrap o5957))) + 843843))] (.slice p5947 x5943.code.length c5948) rfl (by kernel_rfl) (by kernel_rfl) (by kernel_rfl) (M_.blk 0 (b := b5945) (o := .cells ⟨[.slice p5947 x5943.code.length c5948, .int .i64 (w64 (x5943.at_ + 1)), .int .u64 (IntKind.u64.wrap ((IntKind.u64.wrap ((IntKind.u64.wrap (x5943.seed * 6364136223846793005)) + (IntKind.u64.wrap o5957))) + 843843))]⟩ 99 (0, 0)) (by kernel_rfl)))) ?_
    refine Z_runs [.int .i64 (x5943.code.length : Int), .bool (decide ((w64 (x5943.at_ + 1)) ≤ (x5943.code.length : Int)))] [(0, .pointer (some ⟨b5945, 0, none⟩)), (3, .int .i64 o5957), (53, .bool (decide ((w64 (x5943.at_ + 1)) ≤ (x5943.code.length : Int))))] (fun w_ => by kernel_rfl) (by kernel_rfl) ?_
    refine Z_end fun w5972 M5973 => ?_
    refine N_then ?_
    rcases gx_bif hm with ⟨hc5974, hm⟩ | ⟨hc5974, hm⟩
    · refine G_cond_t (b := (decide ((w64 (x5943.at_ + 1)) ≤ (x5943.code.length : Int)))) hc5974 (by kernel_rfl) ?_
      refine G_seq ?_
      refine G_region ?_
      refine W_run 2 [(2, .int .i64 o5957)] w5972 (by kernel_rfl) ?_
      refine W_nil ?_
      refine N_then ?_
      refine G_ret ?_
      refine N_then_ret ?_
      obtain rfl := Option.some.inj hm
      refine N_ret [.int .i64 o5957] (RVs_cons (RV_tmp (by kernel_rfl)) RVs_nil) ?_
      exact ⟨rfl, M5973.pick [0] (by kernel_rfl)⟩
    · refine G_cond_f (b := (decide ((w64 (x5943.at_ + 1)) ≤ (x5943.code.length : Int)))) hc5974 (by kernel_rfl) ?_
      refine G_skip ?_
      refine N_then ?_
      refine G_seq ?_
      refine G_region ?_
      refine W_run 3 [(57, .pointer (some ⟨b5945, 2, none⟩))] w5972 (by kernel_rfl) ?_
      refine W_val (.int .u64 (IntKind.u64.wrap ((IntKind.u64.wrap ((IntKind.u64.wrap (x5943.seed * 6364136223846793005)) + (IntKind.u64.wrap o5957))) + 843843))) w5972 (by kernel_rfl) (E_load (e := 99) (fr := (0, 0)) _ _ false 1 b5945 2 [.slice p5947 x5943.code.length c5948, .int .i64 (w64 (x5943.at_ + 1)), .int .u64 (IntKind.u64.wrap ((IntKind.u64.wrap ((IntKind.u64.wrap (x5943.seed * 6364136223846793005)) + (IntKind.u64.wrap o5957))) + 843843))] (.int .u64 (IntKind.u64.wrap ((IntKind.u64.wrap ((IntKind.u64.wrap (x5943.seed * 6364136223846793005)) + (IntKind.u64.wrap o5957))) + 843843))) rfl (by kernel_rfl) (by kernel_rfl) (by kernel_rfl) (M5973.blk 0 (b := b5945) (o := .cells ⟨[.slice p5947 x5943.code.length c5948, .int .i64 (w64 (x5943.at_ + 1)), .int .u64 (IntKind.u64.wrap ((IntKind.u64.wrap ((IntKind.u64.wrap (x5943.seed * 6364136223846793005)) + (IntKind.u64.wrap o5957))) + 843843))]⟩ 99 (0, 0)) (by kernel_rfl))) ?_
      refine W_run 4 [(2, .int .i64 (w64 (gxAnd .u64 ((IntKind.u64.wrap ((IntKind.u64.wrap ((IntKind.u64.wrap (x5943.seed * 6364136223846793005)) + (IntKind.u64.wrap o5957))) + 843843)).fdiv (2 ^ 40)) 255)))] w5972 (by kernel_rfl) ?_
      refine W_nil ?_
      refine N_then ?_
      refine G_ret ?_
      obtain rfl := Option.some.inj hm
      refine N_ret [.int .i64 (w64 (gxAnd .u64 ((IntKind.u64.wrap ((IntKind.u64.wrap ((IntKind.u64.wrap (x5943.seed * 6364136223846793005)) + (IntKind.u64.wrap o5957))) + 843843)).fdiv (2 ^ 40)) 255))] (RVs_cons (RV_tmp (by kernel_rfl)) RVs_nil) ?_
      exact ⟨rfl, M5973.pick [0] (by kernel_rfl)⟩
theorem c_s_l1Cur_pick (w : World) (x5933 : l1Cur) (p5937 : Option Addr) (c5938 : Nat) (h5939 : rdS encU8 w x5933.code p5937 c5938) (b5935 : Nat) (x5941 : Int) (hA : ∀ q ∈ List.flatten [[(b5935, .cells ⟨[.slice p5937 x5933.code.length c5938, .int .i64 x5933.at_, .int .u64 x5933.seed]⟩ 99 (0, 0))]], w.heap[q.1]? = some q.2) (hN : (idsOf [[(b5935, .cells ⟨[.slice p5937 x5933.code.length c5938, .int .i64 x5933.at_, .int .u64 x5933.seed]⟩ 99 (0, 0))]]).Nodup) (hap5940 : apartX (idsOf [[(b5935, .cells ⟨[.slice p5937 x5933.code.length c5938, .int .i64 x5933.at_, .int .u64 x5933.seed]⟩ 99 (0, 0))]]) x5933.code p5937) {r : Int × Int × Int} (hm : M.s_l1Cur_pick x5933 x5941 = some r) :
    Calls Try.prog 88 #[.pointer (some ⟨b5935, 0, none⟩), .int .i64 x5941] w fun e w' => e = .returned (.int .i64 r.1) ∧ Mem (idsOf [[(b5935, .cells ⟨[.slice p5937 x5933.code.length c5938, .int .i64 x5933.at_, .int .u64 x5933.seed]⟩ 99 (0, 0))]]) w w' [[(b5935, .cells ⟨[.slice p5937 x5933.code.length c5938, .int .i64 r.2.1, .int .u64 r.2.2]⟩ 99 (0, 0))]] := by
  unfold M.s_l1Cur_pick at hm
  refine C_enter Try.func88 rfl (by kernel_rfl) ?_
  have M0 := Mem.start' w [[(b5935, .cells ⟨[.slice p5937 x5933.code.length c5938, .int .i64 x5933.at_, .int .u64 x5933.seed]⟩ 99 (0, 0))]] hA hN
  refine G_seq ?_
  refine G_region ?_
  refine W_run 1 [(0, .pointer (some ⟨b5935, 0, none⟩)), (1, .int .i64 x5941)] w (by kernel_rfl) ?_
  refine W_nil ?_
  refine N_then ?_
  refine G_seq ?_
  refine G_seq ?_
  refine G_region ?_
  refine W_run 2 [(0, .pointer (some ⟨b5935, 0, none⟩)), (1, .int .i64 x5941), (7, .bool (decide (x5941 ≤ 1)))] w (by kernel_rfl) ?_
  refine W_nil ?_
  refine N_then ?_
  rcases gx_bif hm with ⟨hc5942, hm⟩ | ⟨hc5942, hm⟩
  · refine G_cond_t (b := (decide (x5941 ≤ 1))) hc5942 (by kernel_rfl) ?_
    refine G_seq ?_
    refine G_region ?_
    refine W_run 1 [(4, .int .i64 0)] w (by kernel_rfl) ?_
    refine W_nil ?_
    refine N_then ?_
    refine G_ret ?_
    refine N_then_ret ?_
    obtain rfl := Option.some.inj hm
    refine N_ret [.int .i64 0] (RVs_cons (RV_tmp (by kernel_rfl)) RVs_nil) ?_
    exact ⟨rfl, M0.pick [0] (by kernel_rfl)⟩
  · refine G_cond_f (b := (decide (x5941 ≤ 1))) hc5942 (by kernel_rfl) ?_
    refine G_skip ?_
    refine N_then ?_
    refine G_seq ?_
    refine G_region ?_
    refine W_run 1 [(0, .pointer (some ⟨b5935, 0, none⟩)), (1, .int .i64 x5941), (8, .pointer (some ⟨b5935, 0, none⟩))] w (by kernel_rfl) ?_
    obtain ⟨r5975, hr5975, hm⟩ := gx_bind hm
    refine W_call 103 #[.pointer (some ⟨b5935, 0, none⟩)] (by kernel_rfl) (by kernel_rfl) ?_
    refine (c_s_l1Cur_next w x5933 p5937 c5938 (h5939.memX hap5940 M0) b5935 (M0.hasPick [0]) (M0.nodupPick [0] (by kernel_rfl)) (apartX.old h5939 hap5940 M0 [0]) hr5975).mono ?_
    rintro e_ w5976 ⟨rfl, K5977⟩
    have M5978 := M0.callF' [0] [] (by kernel_rfl) K5977
    refine ⟨_, rfl, ?_⟩
    refine W_run 1 [(0, .pointer (some ⟨b5935, 0, none⟩)), (1, .int .i64 x5941), (5, .int .i64 r5975.1)] w5976 (by kernel_rfl) ?_
    refine W_nil ?_
    refine N_then ?_
    refine G_seq ?_
    refine G_seq ?_
    refine G_region ?_
    refine W_run 2 [(0, .pointer (some ⟨b5935, 0, none⟩)), (1, .int .i64 x5941), (5, .int .i64 r5975.1), (11, .bool (decide (x5941 > 200)))] w5976 (by kernel_rfl) ?_
    refine W_nil ?_
    refine N_then ?_
    obtain ⟨o5984, ho5985, hm5986⟩ := gx_bind hm
    refine G_meet (fun a w' => Mem (idsOf [[(b5935, .cells ⟨[.slice p5937 x5933.code.length c5938, .int .i64 x5933.at_, .int .u64 x5933.seed]⟩ 99 (0, 0))]]) w w' [[(b5935, .cells ⟨[.slice p5937 x5933.code.length c5938, .int .i64 o5984.2.1, .int .u64 o5984.2.2]⟩ 99 (0, 0))]] ∧ Sat Try.f88.ntmps [(1, .int .i64 x5941), (5, .int .i64 o5984.1)] a) ?_ ?_
    · have hm := ho5985
      rcases gx_bif hm with ⟨hc5987, hm⟩ | ⟨hc5987, hm⟩
      · refine G_cond_t (b := (decide (x5941 > 200))) hc5987 (by kernel_rfl) ?_
        refine G_region ?_
        refine W_run 3 [(1, .int .i64 x5941), (5, .int .i64 r5975.1), (13, .int .i64 (w64 (r5975.1 * 256))), (14, .pointer (some ⟨b5935, 0, none⟩))] w5976 (by kernel_rfl) ?_
        obtain ⟨r5988, hr5988, hm⟩ := gx_bind hm
        refine W_call 103 #[.pointer (some ⟨b5935, 0, none⟩)] (by kernel_rfl) (by kernel_rfl) ?_
        refine (c_s_l1Cur_next w5976 (⟨x5933.code, r5975.2.1, r5975.2.2⟩ : l1Cur) p5937 c5938 (h5939.memX hap5940 M5978) b5935 (M5978.hasPick [0]) (M5978.nodupPick [0] (by kernel_rfl)) (apartX.old h5939 hap5940 M5978 [0]) hr5988).mono ?_
        rintro e_ w5989 ⟨rfl, K5990⟩
        have M5991 := M5978.callF' [0] [] (by kernel_rfl) K5990
        refine ⟨_, rfl, ?_⟩
        refine W_run 2 [(1, .int .i64 x5941), (5, .int .i64 (w64 ((w64 (r5975.1 * 256)) + r5988.1)))] w5989 (by kernel_rfl) ?_
        refine W_nil ?_
        obtain rfl := Option.some.inj hm
        exact N_meet fun a ha => ⟨M5991.pick [0] (by kernel_rfl), ha.sub (by kernel_rfl)⟩
      · refine G_cond_f (b := (decide (x5941 > 200))) hc5987 (by kernel_rfl) ?_
        refine G_skip ?_
        obtain rfl := Option.some.inj hm
        exact N_meet fun a ha => ⟨M5978.pick [0] (by kernel_rfl), ha.sub (by kernel_rfl)⟩
    · intro a5994 w5992 ⟨M5993, hS5995⟩
      refine N_use hS5995 ?_
      have hm := hm5986
      refine N_then ?_
      refine G_seq ?_
      refine G_region ?_
      refine W_run 2 [(17, .int .i64 o5984.1), (18, .int .i64 x5941)] w5992 (by kernel_rfl) ?_
      obtain ⟨q5996, hq5996, hm⟩ := gx_bind hm
      refine W_val (.int .i64 q5996) w5992 (by kernel_rfl) (E_rem _ _ _ _ o5984.1 x5941 q5996 rfl (by kernel_rfl) (by kernel_rfl) hq5996) ?_
      refine W_run 1 [(4, .int .i64 q5996)] w5992 (by kernel_rfl) ?_
      refine W_nil ?_
      refine N_then ?_
      refine G_ret ?_
      obtain rfl := Option.some.inj hm
      refine N_ret [.int .i64 q5996] (RVs_cons (RV_tmp (by kernel_rfl)) RVs_nil) ?_
      exact ⟨rfl, M5993.pick [0] (by kernel_rfl)⟩
theorem c_s_l1Cur_among (w : World) (x6009 : l1Cur) (p6013 : Option Addr) (c6014 : Nat) (h6015 : rdS encU8 w x6009.code p6013 c6014) (b6011 : Nat) (x6017 : List Int) (p6019 : Option Addr) (c6020 : Nat) (h6021 : rdS encI w x6017 p6019 c6020) (hA : ∀ q ∈ List.flatten [[(b6011, .cells ⟨[.slice p6013 x6009.code.length c6014, .int .i64 x6009.at_, .int .u64 x6009.seed]⟩ 99 (0, 0))]], w.heap[q.1]? = some q.2) (hN : (idsOf [[(b6011, .cells ⟨[.slice p6013 x6009.code.length c6014, .int .i64 x6009.at_, .int .u64 x6009.seed]⟩ 99 (0, 0))]]).Nodup) (hap6016 : apartX (idsOf [[(b6011, .cells ⟨[.slice p6013 x6009.code.length c6014, .int .i64 x6009.at_, .int .u64 x6009.seed]⟩ 99 (0, 0))]]) x6009.code p6013) (hap6022 : apartX (idsOf [[(b6011, .cells ⟨[.slice p6013 x6009.code.length c6014, .int .i64 x6009.at_, .int .u64 x6009.seed]⟩ 99 (0, 0))]]) x6017 p6019) {r : Int × Int × Int} (hm : M.s_l1Cur_among x6009 x6017 = some r) :
    Calls Try.prog 86 #[.pointer (some ⟨b6011, 0, none⟩), .slice p6019 x6017.length c6020] w fun e w' => e = .returned (.int .i64 r.1) ∧ Mem (idsOf [[(b6011, .cells ⟨[.slice p6013 x6009.code.length c6014, .int .i64 x6009.at_, .int .u64 x6009.seed]⟩ 99 (0, 0))]]) w w' [[(b6011, .cells ⟨[.slice p6013 x6009.code.length c6014, .int .i64 r.2.1, .int .u64 r.2.2]⟩ 99 (0, 0))]] := by
  unfold M.s_l1Cur_among at hm
  refine C_enter Try.func86 rfl (by kernel_rfl) ?_
  have M0 := Mem.start' w [[(b6011, .cells ⟨[.slice p6013 x6009.code.length c6014, .int .i64 x6009.at_, .int .u64 x6009.seed]⟩ 99 (0, 0))]] hA hN
  refine G_seq ?_
  refine G_region ?_
  refine W_run 1 [(0, .pointer (some ⟨b6011, 0, none⟩)), (1, .slice p6019 x6017.length c6020)] w (by kernel_rfl) ?_
  refine W_nil ?_
  refine N_then ?_
  refine G_seq ?_
  refine G_region ?_
  refine W_run 4 [(5, .slice p6019 x6017.length c6020), (6, .pointer (some ⟨b6011, 0, none⟩)), (8, .int .i64 (x6017.length : Int))] w (by kernel_rfl) ?_
  obtain ⟨r6023, hr6023, hm⟩ := gx_bind hm
  refine W_call 88 #[.pointer (some ⟨b6011, 0, none⟩), .int .i64 (x6017.length : Int)] (by kernel_rfl) (by kernel_rfl) ?_
  refine (c_s_l1Cur_pick w x6009 p6013 c6014 (h6015.memX hap6016 M0) b6011 (x6017.length : Int) (M0.hasPick [0]) (M0.nodupPick [0] (by kernel_rfl)) (apartX.old h6015 hap6016 M0 [0]) hr6023).mono ?_
  rintro e_ w6024 ⟨rfl, K6025⟩
  have M6026 := M0.callF' [0] [] (by kernel_rfl) K6025
  refine ⟨_, rfl, ?_⟩
  obtain ⟨y6027, hy6027, hm⟩ := gx_bind hm
  refine W_val (elemP p6019 (r6023.1.toNat * 1)) w6024 (by kernel_rfl) (E_index (E := encI) _ _ _ x6017.length c6020 .i64 r6023.1 1 (y := y6027) rfl (by kernel_rfl) (by kernel_rfl) (by kernel_rfl) (h6021.memX hap6022 M6026) rfl hy6027) ?_
  refine W_val (.int .i64 y6027) w6024 (by kernel_rfl) (E_loadE (E := encI) _ _ false 1 r6023.1 0 (r6023.1.toNat * 1) y6027 (.int .i64 y6027) rfl (by kernel_rfl) (by kernel_rfl) (by kernel_rfl) (h6021.memX hap6022 M6026) hy6027 rfl) ?_
  refine W_run 1 [(4, .int .i64 y6027)] w6024 (by kernel_rfl) ?_
  refine W_nil ?_
  refine N_then ?_
  refine G_ret ?_
  obtain rfl := Option.some.inj hm
  refine N_ret [.int .i64 y6027] (RVs_cons (RV_tmp (by kernel_rfl)) RVs_nil) ?_
  exact ⟨rfl, M6026.pick [0] (by kernel_rfl)⟩
theorem c_s_l1Cur_memory (w : World) (x5913 : l1Cur) (p5917 : Option Addr) (c5918 : Nat) (h5919 : rdS encU8 w x5913.code p5917 c5918) (b5915 : Nat) (hA : ∀ q ∈ List.flatten [[(b5915, .cells ⟨[.slice p5917 x5913.code.length c5918, .int .i64 x5913.at_, .int .u64 x5913.seed]⟩ 99 (0, 0))]], w.heap[q.1]? = some q.2) (hN : (idsOf [[(b5915, .cells ⟨[.slice p5917 x5913.code.length c5918, .int .i64 x5913.at_, .int .u64 x5913.seed]⟩ 99 (0, 0))]]).Nodup) (hap5920 : apartX (idsOf [[(b5915, .cells ⟨[.slice p5917 x5913.code.length c5918, .int .i64 x5913.at_, .int .u64 x5913.seed]⟩ 99 (0, 0))]]) x5913.code p5917) {r : (List Int) × Int × Int} (hm : M.s_l1Cur_memory x5913 = some r) :
    Calls Try.prog 91 #[.pointer (some ⟨b5915, 0, none⟩)] w fun e w' => ∃ (p5922 : Option Addr) (c5923 : Nat) (sg5924 : Seg), e = .returned (.slice p5922 r.1.length c5923) ∧ ownS encI r.1 p5922 c5923 sg5924 ∧ Mem (idsOf [[(b5915, .cells ⟨[.slice p5917 x5913.code.length c5918, .int .i64 x5913.at_, .int .u64 x5913.seed]⟩ 99 (0, 0))]]) w w' [[(b5915, .cells ⟨[.slice p5917 x5913.code.length c5918, .int .i64 r.2.1, .int .u64 r.2.2]⟩ 99 (0, 0))], sg5924] := by
  unfold M.s_l1Cur_memory at hm
  refine C_enter Try.func91 rfl (by kernel_rfl) ?_
  have M0 := Mem.start' w [[(b5915, .cells ⟨[.slice p5917 x5913.code.length c5918, .int .i64 x5913.at_, .int .u64 x5913.seed]⟩ 99 (0, 0))]] hA hN
  refine G_seq ?_
  refine G_region ?_
  refine W_run 1 [(0, .pointer (some ⟨b5915, 0, none⟩))] w (by kernel_rfl) ?_
  refine W_nil ?_
  refine N_then ?_
  refine G_seq ?_
  refine G_region ?_
  refine W_lit (E := encI) ([] : List Int) 0 [] 3 M0 (by kernel_rfl) (by kernel_rfl) (by kernel_rfl) (by kernel_rfl) (by kernel_rfl) ?_
  intro p5926 c5927 sg5928 w5929 ho5930 M5931
  refine W_run 1 [(0, .pointer (some ⟨b5915, 0, none⟩)), (3, .slice p5926 ([] : List Int).length c5927)] w5929 (by kernel_rfl) ?_
  refine W_nil ?_
  refine N_then ?_
  refine G_seq ?_
  refine G_seq ?_
  refine G_region ?_
  refine W_run 1 [(0, .pointer (some ⟨b5915, 0, none⟩)), (3, .slice p5926 ([] : List Int).length c5927), (6, .pointer (some ⟨b5915, 0, none⟩))] w5929 (by kernel_rfl) ?_
  obtain ⟨r5997, hr5997, hm⟩ := gx_bind hm
  refine W_call 88 #[.pointer (some ⟨b5915, 0, none⟩), .int .i64 8] (by kernel_rfl) (by kernel_rfl) ?_
  refine (c_s_l1Cur_pick w5929 x5913 p5917 c5918 (h5919.memX hap5920 M5931) b5915 8 (M5931.hasPick [0]) (M5931.nodupPick [0] (by kernel_rfl)) (apartX.old h5919 hap5920 M5931 [0]) hr5997).mono ?_
  rintro e_ w5998 ⟨rfl, K5999⟩
  have M6000 := M5931.callF' [0] [1] (by kernel_rfl) K5999
  refine ⟨_, rfl, ?_⟩
  refine W_run 2 [(0, .pointer (some ⟨b5915, 0, none⟩)), (3, .slice p5926 ([] : List Int).length c5927), (4, .int .i64 (w64 (1 + r5997.1)))] w5998 (by kernel_rfl) ?_
  refine W_nil ?_
  refine N_then ?_
  obtain ⟨out6086, hw6087, hmo6088⟩ := gx_bind hm
  refine G_meet (fun a w' => ∃ (p6095 : Option Addr), ∃ (c6096 : Nat), ∃ (sg6097 : Seg), ownS encI out6086.1 p6095 c6096 sg6097 ∧ Mem (idsOf [[(b5915, .cells ⟨[.slice p5917 x5913.code.length c5918, .int .i64 x5913.at_, .int .u64 x5913.seed]⟩ 99 (0, 0))]]) w w' [[(b5915, .cells ⟨[.slice p5917 x5913.code.length c5918, .int .i64 out6086.2.1, .int .u64 out6086.2.2]⟩ 99 (0, 0))], sg6097] ∧ Sat Try.f91.ntmps [(0, .pointer (some ⟨b5915, 0, none⟩)), (3, .slice p6095 out6086.1.length c6096)] a) ?_ ?_
  · refine G_block ?_
    refine G_while (σ := List Int × Int × Int × Int) (ρ := List Int × Int × Int) (fun s6079 a w' => ∃ (p6089 : Option Addr), ∃ (c6090 : Nat), ∃ (sg6091 : Seg), ownS encI s6079.1 p6089 c6090 sg6091 ∧ Mem (idsOf [[(b5915, .cells ⟨[.slice p5917 x5913.code.length c5918, .int .i64 x5913.at_, .int .u64 x5913.seed]⟩ 99 (0, 0))]]) w w' [[(b5915, .cells ⟨[.slice p5917 x5913.code.length c5918, .int .i64 s6079.2.2.1, .int .u64 s6079.2.2.2]⟩ 99 (0, 0))], sg6091] ∧ Sat Try.f91.ntmps [(0, .pointer (some ⟨b5915, 0, none⟩)), (3, .slice p6089 s6079.1.length c6090), (4, .int .i64 s6079.2.1)] a) hw6087 (fun a ha => ⟨p5926, c5927, sg5928, ho5930, M6000.pick [1, 0] (by kernel_rfl), ha.sub (by kernel_rfl)⟩) ?_
    clear hm
    intro s6079 x6080 hm hout6081 a6082 w6083 ⟨p6089, c6090, sg6091, ho6092, M6084, hS6085⟩
    refine G_use hS6085 ?_
    refine G_seq ?_
    refine G_seq ?_
    refine G_region ?_
    refine W_run 2 [(0, .pointer (some ⟨b5915, 0, none⟩)), (3, .slice p6089 s6079.1.length c6090), (4, .int .i64 s6079.2.1), (10, .bool (decide (s6079.2.1 > 0)))] w6083 (by kernel_rfl) ?_
    refine W_nil ?_
    refine N_then ?_
    rcases gx_bif hm with ⟨hc6100, hm⟩ | ⟨hc6100, hm⟩
    · refine G_cond_t (b := (decide (s6079.2.1 > 0))) hc6100 (by kernel_rfl) ?_
      refine G_skip ?_
      refine N_then ?_
      refine G_seq ?_
      refine G_block ?_
      refine G_region ?_
      refine W_run 2 [(0, .pointer (some ⟨b5915, 0, none⟩)), (3, .slice p6089 s6079.1.length c6090), (4, .int .i64 s6079.2.1), (13, .slice p6089 s6079.1.length c6090), (14, .pointer (some ⟨b5915, 0, none⟩))] w6083 (by kernel_rfl) ?_
      refine W_lit (E := encI) [0, 0, 1, 2, 255, 4096, 65535] 7 [.int .i64 0, .int .i64 0, .int .i64 1, .int .i64 2, .int .i64 255, .int .i64 4096, .int .i64 65535] 3 M6084 (by kernel_rfl) (by kernel_rfl) (by kernel_rfl) (by kernel_rfl) (by kernel_rfl) ?_
      intro p6101 c6102 sg6103 w6104 ho6105 M6106
      obtain ⟨r6108, hr6108, hm⟩ := gx_bind hm
      refine W_call 86 #[.pointer (some ⟨b5915, 0, none⟩), .slice p6101 [0, 0, 1, 2, 255, 4096, 65535].length c6102] (by kernel_rfl) (by kernel_rfl) ?_
      refine (c_s_l1Cur_among w6104 (⟨x5913.code, s6079.2.2.1, s6079.2.2.2⟩ : l1Cur) p5917 c5918 (h5919.memX hap5920 M6106) b5915 [0, 0, 1, 2, 255, 4096, 65535] p6101 c6102 (ho6105.rd M6106 2 (by kernel_rfl)) (M6106.hasPick [0]) (M6106.nodupPick [0] (by kernel_rfl)) (apartX.old h5919 hap5920 M6106 [0]) (apartX.own ho6105 M6106 2 (by kernel_rfl) [0] (by kernel_rfl)) hr6108).mono ?_
      rintro e_ w6109 ⟨rfl, K6110⟩
      have M6111 := M6106.callF' [0] [1, 2] (by kernel_rfl) K6110
      refine ⟨_, rfl, ?_⟩
      refine W_lit (E := encI) [r6108.1] 1 [.int .i64 r6108.1] 3 M6111 (by kernel_rfl) (by kernel_rfl) (by kernel_rfl) (by kernel_rfl) (by kernel_rfl) ?_
      intro p6112 c6113 sg6114 w6115 ho6116 M6117
      obtain ⟨ap6119, hap6119, hm⟩ := gx_bind hm
      refine W_append (E := encI) _ _ _ 8 [.int .i64 0] 0 c6113 M6117 ho6092 (by kernel_rfl) (by kernel_rfl) (by kernel_rfl) rfl (by kernel_rfl) (by kernel_rfl) (by kernel_rfl) (by kernel_rfl) (by kernel_rfl) (by kernel_rfl) (ho6116.rd M6117 3 (by kernel_rfl)) hap6119 ?_
      intro p6120 c6121 sg6122 w6123 ho6124 M6125
      refine W_run 1 [(0, .pointer (some ⟨b5915, 0, none⟩)), (3, .slice p6120 ap6119.length c6121), (4, .int .i64 s6079.2.1)] w6123 (by kernel_rfl) ?_
      refine W_nil ?_
      refine N_block ?_
      refine N_then ?_
      refine G_region ?_
      refine W_run 3 [(0, .pointer (some ⟨b5915, 0, none⟩)), (3, .slice p6120 ap6119.length c6121), (4, .int .i64 (w64 (s6079.2.1 - 1)))] w6123 (by kernel_rfl) ?_
      refine W_nil ?_
      obtain rfl := Option.some.inj hm
      exact N_loop fun a ha => ⟨_, rfl, p6120, c6121, sg6122, ho6124, M6125.pick [2, 0] (by kernel_rfl), ha.sub (by kernel_rfl)⟩
    · refine G_cond_f (b := (decide (s6079.2.1 > 0))) hc6100 (by kernel_rfl) ?_
      refine G_exit ?_
      refine N_then_exit ?_
      refine N_then_exit ?_
      refine N_block_eq ?_
      obtain rfl := Option.some.inj hm
      obtain rfl := hout6081 _ rfl
      exact N_meet fun a ha => ⟨p6089, c6090, sg6091, ho6092, M6084.pick [0, 1] (by kernel_rfl), ha.sub (by kernel_rfl)⟩
  · intro a6127 w6128 ⟨p6095, c6096, sg6097, ho6098, M6129, hS6130⟩
    refine N_use hS6130 ?_
    have hm := hmo6088
    refine N_then ?_
    refine G_seq ?_
    refine G_seq ?_
    refine G_region ?_
    refine W_run 1 [(0, .pointer (some ⟨b5915, 0, none⟩)), (3, .slice p6095 out6086.1.length c6096), (19, .pointer (some ⟨b5915, 0, none⟩))] w6128 (by kernel_rfl) ?_
    obtain ⟨r6131, hr6131, hm⟩ := gx_bind hm
    refine W_call 88 #[.pointer (some ⟨b5915, 0, none⟩), .int .i64 32] (by kernel_rfl) (by kernel_rfl) ?_
    refine (c_s_l1Cur_pick w6128 (⟨x5913.code, out6086.2.1, out6086.2.2⟩ : l1Cur) p5917 c5918 (h5919.memX hap5920 M6129) b5915 32 (M6129.hasPick [0]) (M6129.nodupPick [0] (by kernel_rfl)) (apartX.old h5919 hap5920 M6129 [0]) hr6131).mono ?_
    rintro e_ w6132 ⟨rfl, K6133⟩
    have M6134 := M6129.callF' [0] [1] (by kernel_rfl) K6133
    refine ⟨_, rfl, ?_⟩
    refine W_nil ?_
    refine N_then ?_
    refine G_block ?_
    refine G_seq ?_
    refine G_region ?_
    refine W_run 2 [(0, .pointer (some ⟨b5915, 0, none⟩)), (3, .slice p6095 out6086.1.length c6096), (20, .int .i64 r6131.1), (21, .bool (r6131.1 == 0))] w6132 (by kernel_rfl) ?_
    refine W_nil ?_
    refine N_then ?_
    obtain ⟨o6568, ho6569, hm6570⟩ := gx_bind hm
    refine G_meet (fun a w' => ∃ (p6571 : Option Addr), ∃ (c6572 : Nat), ∃ (sg6573 : Seg), ∃ (sg6576 : Seg), ownS encI o6568.1 p6571 c6572 sg6573 ∧ ownS encI o6568.2.2.2 p6095 c6096 sg6576 ∧ Mem (idsOf [[(b5915, .cells ⟨[.slice p5917 x5913.code.length c5918, .int .i64 x5913.at_, .int .u64 x5913.seed]⟩ 99 (0, 0))]]) w w' [[(b5915, .cells ⟨[.slice p5917 x5913.code.length c5918, .int .i64 o6568.2.1, .int .u64 o6568.2.2.1]⟩ 99 (0, 0))], sg6573] ∧ Sat Try.f91.ntmps [(3, .slice p6571 o6568.1.length c6572)] a) ?_ ?_
    · have hm := ho6569
      rcases gx_bif hm with ⟨hc6578, hm⟩ | ⟨hc6578, hm⟩
      · refine G_cond_t (b := (r6131.1 == 0)) hc6578 (by kernel_rfl) ?_
        refine G_region ?_
        refine W_run 2 [(3, .slice p6095 out6086.1.length c6096), (23, .slice p6095 out6086.1.length c6096), (24, .pointer (some ⟨b5915, 0, none⟩))] w6132 (by kernel_rfl) ?_
        refine W_lit (E := encI) [(-1), 65536] 2 [.int .i64 (-1), .int .i64 65536] 3 M6134 (by kernel_rfl) (by kernel_rfl) (by kernel_rfl) (by kernel_rfl) (by kernel_rfl) ?_
        intro p6579 c6580 sg6581 w6582 ho6583 M6584
        obtain ⟨r6586, hr6586, hm⟩ := gx_bind hm
        refine W_call 86 #[.pointer (some ⟨b5915, 0, none⟩), .slice p6579 [(-1), 65536].length c6580] (by kernel_rfl) (by kernel_rfl) ?_
        refine (c_s_l1Cur_among w6582 (⟨x5913.code, r6131.2.1, r6131.2.2⟩ : l1Cur) p5917 c5918 (h5919.memX hap5920 M6584) b5915 [(-1), 65536] p6579 c6580 (ho6583.rd M6584 2 (by kernel_rfl)) (M6584.hasPick [1]) (M6584.nodupPick [1] (by kernel_rfl)) (apartX.old h5919 hap5920 M6584 [1]) (apartX.own ho6583 M6584 2 (by kernel_rfl) [1] (by kernel_rfl)) hr6586).mono ?_
        rintro e_ w6587 ⟨rfl, K6588⟩
        have M6589 := M6584.callF' [1] [0, 2] (by kernel_rfl) K6588
        refine ⟨_, rfl, ?_⟩
        obtain ⟨y6590, hy6590, hm⟩ := gx_bind hm
        refine W_val (elemP p6095 ((0 : Int).toNat * 1)) w6587 (by kernel_rfl) (E_index (E := encI) _ _ _ out6086.1.length c6096 .i64 0 1 (y := y6590) rfl (by kernel_rfl) (by kernel_rfl) (by kernel_rfl) (ho6098.rd M6589 0 (by kernel_rfl)) rfl hy6590) ?_
        refine W_storeE (E := encI) _ _ _ false 1 (0 : Int).toNat 0 ((0 : Int).toNat * 1) y6590 r6586.1 (.int .i64 r6586.1) 0 M6589 ho6098 (by kernel_rfl) (by kernel_rfl) rfl (by kernel_rfl) (by kernel_rfl) (by kernel_rfl) (by kernel_rfl) (by kernel_rfl) (by kernel_rfl) (by kernel_rfl) (gxIdx_spec hy6590).2 rfl ?_
        intro w6591 sg6593 ho6594 M6592
        refine W_conv 3 (.slice p6095 out6086.1.length c6096) (.slice p6095 (out6086.1.set (0 : Int).toNat r6586.1).length c6096) (by kernel_rfl) (by rw [@List.length_set _ out6086.1 ((0 : Int).toNat) r6586.1]) ?_
        refine W_conv 23 (.slice p6095 out6086.1.length c6096) (.slice p6095 (out6086.1.set (0 : Int).toNat r6586.1).length c6096) (by kernel_rfl) (by rw [@List.length_set _ out6086.1 ((0 : Int).toNat) r6586.1]) ?_
        refine W_nil ?_
        obtain rfl := Option.some.inj hm
        exact N_meet fun a ha => ⟨p6095, c6096, sg6593, sg6593, ho6594, ho6594, M6592.pick [2, 0] (by kernel_rfl), ha.sub (by kernel_rfl)⟩
      · refine G_cond_f (b := (r6131.1 == 0)) hc6578 (by kernel_rfl) ?_
        refine G_seq ?_
        refine G_region ?_
        refine W_run 2 [(0, .pointer (some ⟨b5915, 0, none⟩)), (3, .slice p6095 out6086.1.length c6096), (20, .int .i64 r6131.1), (28, .bool (r6131.1 == 1))] w6132 (by kernel_rfl) ?_
        refine W_nil ?_
        refine N_then ?_
        obtain ⟨o6797, ho6798, hm6799⟩ := gx_bind hm
        refine G_meet (fun a w' => ∃ (p6800 : Option Addr), ∃ (c6801 : Nat), ∃ (sg6802 : Seg), ownS encI o6797.1 p6800 c6801 sg6802 ∧ Mem (idsOf [[(b5915, .cells ⟨[.slice p5917 x5913.code.length c5918, .int .i64 x5913.at_, .int .u64 x5913.seed]⟩ 99 (0, 0))]]) w w' [[(b5915, .cells ⟨[.slice p5917 x5913.code.length c5918, .int .i64 o6797.2.1, .int .u64 o6797.2.2]⟩ 99 (0, 0))], sg6802] ∧ Sat Try.f91.ntmps [(3, .slice p6800 o6797.1.length c6801)] a) ?_ ?_
        · have hm := ho6798
          rcases gx_bif hm with ⟨hc6805, hm⟩ | ⟨hc6805, hm⟩
          · refine G_cond_t (b := (r6131.1 == 1)) hc6805 (by kernel_rfl) ?_
            refine G_region ?_
            refine W_lit (E := encI) ([] : List Int) 0 [] 3 M6134 (by kernel_rfl) (by kernel_rfl) (by kernel_rfl) (by kernel_rfl) (by kernel_rfl) ?_
            intro p6806 c6807 sg6808 w6809 ho6810 M6811
            refine W_run 1 [(3, .slice p6806 ([] : List Int).length c6807)] w6809 (by kernel_rfl) ?_
            refine W_nil ?_
            obtain rfl := Option.some.inj hm
            exact N_meet fun a ha => ⟨p6806, c6807, sg6808, ho6810, M6811.pick [1, 2] (by kernel_rfl), ha.sub (by kernel_rfl)⟩
          · refine G_cond_f (b := (r6131.1 == 1)) hc6805 (by kernel_rfl) ?_
            refine G_seq ?_
            refine G_region ?_
            refine W_run 2 [(0, .pointer (some ⟨b5915, 0, none⟩)), (3, .slice p6095 out6086.1.length c6096), (31, .bool (r6131.1 == 2))] w6132 (by kernel_rfl) ?_
            refine W_nil ?_
            refine N_then ?_
            obtain ⟨o6904, ho6905, hm6906⟩ := gx_bind hm
            refine G_meet (fun a w' => ∃ (p6907 : Option Addr), ∃ (c6908 : Nat), ∃ (sg6909 : Seg), ownS encI o6904.1 p6907 c6908 sg6909 ∧ Mem (idsOf [[(b5915, .cells ⟨[.slice p5917 x5913.code.length c5918, .int .i64 x5913.at_, .int .u64 x5913.seed]⟩ 99 (0, 0))]]) w w' [[(b5915, .cells ⟨[.slice p5917 x5913.code.length c5918, .int .i64 o6904.2.1, .int .u64 o6904.2.2]⟩ 99 (0, 0))], sg6909] ∧ Sat Try.f91.ntmps [(3, .slice p6907 o6904.1.length c6908)] a) ?_ ?_
            · have hm := ho6905
              rcases gx_bif hm with ⟨hc6912, hm⟩ | ⟨hc6912, hm⟩
              · refine G_cond_t (b := (r6131.1 == 2)) hc6912 (by kernel_rfl) ?_
                obtain ⟨out6965, hw6966, hmo6967⟩ := gx_bind hm
                refine G_meet (fun a w' => ∃ (p6974 : Option Addr), ∃ (c6975 : Nat), ∃ (sg6976 : Seg), ownS encI out6965.1 p6974 c6975 sg6976 ∧ Mem (idsOf [[(b5915, .cells ⟨[.slice p5917 x5913.code.length c5918, .int .i64 x5913.at_, .int .u64 x5913.seed]⟩ 99 (0, 0))]]) w w' [[(b5915, .cells ⟨[.slice p5917 x5913.code.length c5918, .int .i64 out6965.2.1, .int .u64 out6965.2.2]⟩ 99 (0, 0))], sg6976] ∧ Sat Try.f91.ntmps [(3, .slice p6974 out6965.1.length c6975)] a) ?_ ?_
                · refine G_block ?_
                  refine G_while (σ := List Int × Int × Int) (ρ := List Int × Int × Int) (fun s6958 a w' => ∃ (p6968 : Option Addr), ∃ (c6969 : Nat), ∃ (sg6970 : Seg), ownS encI s6958.1 p6968 c6969 sg6970 ∧ Mem (idsOf [[(b5915, .cells ⟨[.slice p5917 x5913.code.length c5918, .int .i64 x5913.at_, .int .u64 x5913.seed]⟩ 99 (0, 0))]]) w w' [[(b5915, .cells ⟨[.slice p5917 x5913.code.length c5918, .int .i64 s6958.2.1, .int .u64 s6958.2.2]⟩ 99 (0, 0))], sg6970] ∧ Sat Try.f91.ntmps [(0, .pointer (some ⟨b5915, 0, none⟩)), (3, .slice p6968 s6958.1.length c6969)] a) hw6966 (fun a ha => ⟨p6095, c6096, sg6097, ho6098, M6134.pick [1, 0] (by kernel_rfl), ha.sub (by kernel_rfl)⟩) ?_
                  clear hm
                  intro s6958 x6959 hm hout6960 a6961 w6962 ⟨p6968, c6969, sg6970, ho6971, M6963, hS6964⟩
                  refine G_use hS6964 ?_
                  refine G_seq ?_
                  refine G_seq ?_
                  refine G_region ?_
                  refine W_run 3 [(0, .pointer (some ⟨b5915, 0, none⟩)), (3, .slice p6968 s6958.1.length c6969), (34, .int .i64 (s6958.1.length : Int)), (35, .pointer (some ⟨b5915, 0, none⟩))] w6962 (by kernel_rfl) ?_
                  obtain ⟨r6979, hr6979, hm⟩ := gx_bind hm
                  refine W_call 88 #[.pointer (some ⟨b5915, 0, none⟩), .int .i64 2] (by kernel_rfl) (by kernel_rfl) ?_
                  refine (c_s_l1Cur_pick w6962 (⟨x5913.code, s6958.2.1, s6958.2.2⟩ : l1Cur) p5917 c5918 (h5919.memX hap5920 M6963) b5915 2 (M6963.hasPick [0]) (M6963.nodupPick [0] (by kernel_rfl)) (apartX.old h5919 hap5920 M6963 [0]) hr6979).mono ?_
                  rintro e_ w6980 ⟨rfl, K6981⟩
                  have M6982 := M6963.callF' [0] [1] (by kernel_rfl) K6981
                  refine ⟨_, rfl, ?_⟩
                  refine W_run 2 [(0, .pointer (some ⟨b5915, 0, none⟩)), (3, .slice p6968 s6958.1.length c6969), (38, .bool (decide ((s6958.1.length : Int) < (w64 (12 + r6979.1)))))] w6980 (by kernel_rfl) ?_
                  refine W_nil ?_
                  refine N_then ?_
                  rcases gx_bif hm with ⟨hc6983, hm⟩ | ⟨hc6983, hm⟩
                  · refine G_cond_t (b := (decide ((s6958.1.length : Int) < (w64 (12 + r6979.1))))) hc6983 (by kernel_rfl) ?_
                    refine G_skip ?_
                    refine N_then ?_
                    refine G_block ?_
                    refine G_region ?_
                    refine W_run 1 [(0, .pointer (some ⟨b5915, 0, none⟩)), (3, .slice p6968 s6958.1.length c6969), (39, .slice p6968 s6958.1.length c6969)] w6980 (by kernel_rfl) ?_
                    refine W_lit (E := encI) [7] 1 [.int .i64 7] 3 M6982 (by kernel_rfl) (by kernel_rfl) (by kernel_rfl) (by kernel_rfl) (by kernel_rfl) ?_
                    intro p6984 c6985 sg6986 w6987 ho6988 M6989
                    obtain ⟨ap6991, hap6991, hm⟩ := gx_bind hm
                    refine W_append (E := encI) _ _ _ 8 [.int .i64 0] 0 c6985 M6989 ho6971 (by kernel_rfl) (by kernel_rfl) (by kernel_rfl) rfl (by kernel_rfl) (by kernel_rfl) (by kernel_rfl) (by kernel_rfl) (by kernel_rfl) (by kernel_rfl) (ho6988.rd M6989 2 (by kernel_rfl)) hap6991 ?_
                    intro p6992 c6993 sg6994 w6995 ho6996 M6997
                    refine W_run 1 [(0, .pointer (some ⟨b5915, 0, none⟩)), (3, .slice p6992 ap6991.length c6993)] w6995 (by kernel_rfl) ?_
                    refine W_nil ?_
                    refine N_block ?_
                    obtain rfl := Option.some.inj hm
                    exact N_loop fun a ha => ⟨_, rfl, p6992, c6993, sg6994, ho6996, M6997.pick [1, 0] (by kernel_rfl), ha.sub (by kernel_rfl)⟩
                  · refine G_cond_f (b := (decide ((s6958.1.length : Int) < (w64 (12 + r6979.1))))) hc6983 (by kernel_rfl) ?_
                    refine G_exit ?_
                    refine N_then_exit ?_
                    refine N_then_exit ?_
                    refine N_block_eq ?_
                    obtain rfl := Option.some.inj hm
                    obtain rfl := hout6960 _ rfl
                    exact N_meet fun a ha => ⟨p6968, c6969, sg6970, ho6971, M6982.pick [1, 0] (by kernel_rfl), ha.sub (by kernel_rfl)⟩
                · intro a6999 w7000 ⟨p6974, c6975, sg6976, ho6977, M7001, hS7002⟩
                  refine N_use hS7002 ?_
                  have hm := hmo6967
                  obtain rfl := Option.some.inj hm
                  exact N_meet fun a ha => ⟨p6974, c6975, sg6976, ho6977, M7001.pick [0, 1] (by kernel_rfl), ha.sub (by kernel_rfl)⟩
              · refine G_cond_f (b := (r6131.1 == 2)) hc6912 (by kernel_rfl) ?_
                refine G_skip ?_
                obtain rfl := Option.some.inj hm
                exact N_meet fun a ha => ⟨p6095, c6096, sg6097, ho6098, M6134.pick [1, 0] (by kernel_rfl), ha.sub (by kernel_rfl)⟩
            · intro a7005 w7003 ⟨p6907, c6908, sg6909, ho6910, M7004, hS7006⟩
              refine N_use hS7006 ?_
              have hm := hm6906
              obtain rfl := Option.some.inj hm
              exact N_meet fun a ha => ⟨p6907, c6908, sg6909, ho6910, M7004.pick [0, 1] (by kernel_rfl), ha.sub (by kernel_rfl)⟩
        · intro a7009 w7007 ⟨p6800, c6801, sg6802, ho6803, M7008, hS7010⟩
          refine N_use hS7010 ?_
          have hm := hm6799
          obtain rfl := Option.some.inj hm
          exact N_meet fun a ha => ⟨p6800, c6801, sg6802, sg6097, ho6803, ho6098, M7008.pick [0, 1] (by kernel_rfl), ha.sub (by kernel_rfl)⟩
    · intro a7013 w7011 ⟨p6571, c6572, sg6573, sg6576, ho6574, ho6577, M7012, hS7014⟩
      refine N_use hS7014 ?_
      have hm := hm6570
      refine N_block ?_
      refine N_then ?_
      refine G_seq ?_
      refine G_region ?_
      refine W_run 2 [(2, .slice p6571 o6568.1.length c6572)] w7011 (by kernel_rfl) ?_
      refine W_nil ?_
      refine N_then ?_
      refine G_ret ?_
      obtain rfl := Option.some.inj hm
      refine N_ret [.slice p6571 o6568.1.length c6572] (RVs_cons (RV_tmp (by kernel_rfl)) RVs_nil) ?_
      exact ⟨p6571, c6572, sg6573, rfl, ho6574, M7012.pick [0, 1] (by kernel_rfl)⟩
theorem c_s_l1Cur_one (w : World) (x7066 : l1Cur) (p7070 : Option Addr) (c7071 : Nat) (h7072 : rdS encU8 w x7066.code p7070 c7071) (b7068 : Nat) (x7074 : Int) (hA : ∀ q ∈ List.flatten [[(b7068, .cells ⟨[.slice p7070 x7066.code.length c7071, .int .i64 x7066.at_, .int .u64 x7066.seed]⟩ 99 (0, 0))]], w.heap[q.1]? = some q.2) (hN : (idsOf [[(b7068, .cells ⟨[.slice p7070 x7066.code.length c7071, .int .i64 x7066.at_, .int .u64 x7066.seed]⟩ 99 (0, 0))]]).Nodup) (hap7073 : apartX (idsOf [[(b7068, .cells ⟨[.slice p7070 x7066.code.length c7071, .int .i64 x7066.at_, .int .u64 x7066.seed]⟩ 99 (0, 0))]]) x7066.code p7070) {r : Bool × Int × Int} (hm : M.s_l1Cur_one x7066 x7074 = some r) :
    Calls Try.prog 102 #[.pointer (some ⟨b7068, 0, none⟩), .int .i64 x7074] w fun e w' => e = .returned (.bool r.1) ∧ Mem (idsOf [[(b7068, .cells ⟨[.slice p7070 x7066.code.length c7071, .int .i64 x7066.at_, .int .u64 x7066.seed]⟩ 99 (0, 0))]]) w w' [[(b7068, .cells ⟨[.slice p7070 x7066.code.length c7071, .int .i64 r.2.1, .int .u64 r.2.2]⟩ 99 (0, 0))]] := by
  unfold M.s_l1Cur_one at hm
  refine C_enter Try.func102 rfl (by kernel_rfl) ?_
  have M0 := Mem.start' w [[(b7068, .cells ⟨[.slice p7070 x7066.code.length c7071, .int .i64 x7066.at_, .int .u64 x7066.seed]⟩ 99 (0, 0))]] hA hN
  refine G_seq ?_
  refine G_region ?_
  refine W_run 1 [(0, .pointer (some ⟨b7068, 0, none⟩)), (1, .int .i64 x7074)] w (by kernel_rfl) ?_
  refine W_nil ?_
  refine N_then ?_
  refine G_seq ?_
  refine G_region ?_
  refine W_run 2 [(5, .pointer (some ⟨b7068, 0, none⟩)), (6, .int .i64 x7074)] w (by kernel_rfl) ?_
  obtain ⟨r7075, hr7075, hm⟩ := gx_bind hm
  refine W_call 88 #[.pointer (some ⟨b7068, 0, none⟩), .int .i64 x7074] (by kernel_rfl) (by kernel_rfl) ?_
  refine (c_s_l1Cur_pick w x7066 p7070 c7071 (h7072.memX hap7073 M0) b7068 x7074 (M0.hasPick [0]) (M0.nodupPick [0] (by kernel_rfl)) (apartX.old h7072 hap7073 M0 [0]) hr7075).mono ?_
  rintro e_ w7076 ⟨rfl, K7077⟩
  have M7078 := M0.callF' [0] [] (by kernel_rfl) K7077
  refine ⟨_, rfl, ?_⟩
  refine W_run 2 [(4, .bool (r7075.1 == 0))] w7076 (by kernel_rfl) ?_
  refine W_nil ?_
  refine N_then ?_
  refine G_ret ?_
  obtain rfl := Option.some.inj hm
  refine N_ret [.bool (r7075.1 == 0)] (RVs_cons (RV_tmp (by kernel_rfl)) RVs_nil) ?_
  exact ⟨rfl, M7078.pick [0] (by kernel_rfl)⟩
theorem c_l_vInts (w : World) (x7213 : List Int) (p7215 : Option Addr) (c7216 : Nat) (h7217 : rdS encI w x7213 p7215 c7216) (x7218 : List Int) (p7220 : Option Addr) (c7221 : Nat) (h7222 : rdS encI w x7218 p7220 c7221) {r : Bool} (hm : M.l_vInts x7213 x7218 = some r) :
    Calls Try.prog 46 #[.slice p7215 x7213.length c7216, .slice p7220 x7218.length c7221] w fun e w' => e = .returned (.bool r) ∧ Mem [] w w' [] := by
  unfold M.l_vInts at hm
  refine C_enter Try.func46 rfl (by kernel_rfl) ?_
  have M0 := Mem.refl [] w
  refine G_seq ?_
  refine G_region ?_
  refine W_run 1 [(0, .slice p7215 x7213.length c7216), (1, .slice p7220 x7218.length c7221)] w (by kernel_rfl) ?_
  refine W_nil ?_
  refine N_then ?_
  refine G_seq ?_
  refine G_seq ?_
  refine G_region ?_
  refine W_run 5 [(0, .slice p7215 x7213.length c7216), (1, .slice p7220 x7218.length c7221), (10, .bool ((x7213.length : Int) != (x7218.length : Int)))] w (by kernel_rfl) ?_
  refine W_nil ?_
  refine N_then ?_
  rcases gx_bif hm with ⟨hc7223, hm⟩ | ⟨hc7223, hm⟩
  · refine G_cond_t (b := ((x7213.length : Int) != (x7218.length : Int))) hc7223 (by kernel_rfl) ?_
    refine G_seq ?_
    refine G_region ?_
    refine W_run 1 [(4, .bool false)] w (by kernel_rfl) ?_
    refine W_nil ?_
    refine N_then ?_
    refine G_ret ?_
    refine N_then_ret ?_
    obtain rfl := Option.some.inj hm
    refine N_ret [.bool false] (RVs_cons (RV_tmp (by kernel_rfl)) RVs_nil) ?_
    exact ⟨rfl, M0.pick [] (by kernel_rfl)⟩
  · refine G_cond_f (b := ((x7213.length : Int) != (x7218.length : Int))) hc7223 (by kernel_rfl) ?_
    refine G_skip ?_
    refine N_then ?_
    refine G_seq ?_
    refine G_seq ?_
    refine G_region ?_
    refine W_run 1 [(0, .slice p7215 x7213.length c7216), (1, .slice p7220 x7218.length c7221), (5, .int .i64 0)] w (by kernel_rfl) ?_
    refine W_nil ?_
    refine N_then ?_
    obtain ⟨out7243, hw7244, hmo7245⟩ := gx_bind hm
    refine G_meet (fun a w' => ∃ (o7246 : Unit), out7243 = .inl o7246 ∧ Mem [] w w' [] ∧ Sat Try.f46.ntmps [] a) ?_ ?_
    · refine G_block ?_
      refine G_while (σ := Int) (ρ := (Unit) ⊕ (Bool)) (fun s7236 a w' => Mem [] w w' [] ∧ Sat Try.f46.ntmps [(0, .slice p7215 x7213.length c7216), (1, .slice p7220 x7218.length c7221), (5, .int .i64 s7236)] a) hw7244 (fun a ha => ⟨M0.pick [] (by kernel_rfl), ha.sub (by kernel_rfl)⟩) ?_
      clear hm
      intro s7236 x7237 hm hout7238 a7239 w7240 ⟨M7241, hS7242⟩
      refine G_use hS7242 ?_
      refine G_seq ?_
      refine G_seq ?_
      refine G_region ?_
      refine W_run 4 [(0, .slice p7215 x7213.length c7216), (1, .slice p7220 x7218.length c7221), (5, .int .i64 s7236), (14, .bool (decide (s7236 < (x7213.length : Int))))] w7240 (by kernel_rfl) ?_
      refine W_nil ?_
      refine N_then ?_
      rcases gx_bif hm with ⟨hc7247, hm⟩ | ⟨hc7247, hm⟩
      · refine G_cond_t (b := (decide (s7236 < (x7213.length : Int)))) hc7247 (by kernel_rfl) ?_
        refine G_skip ?_
        refine N_then ?_
        refine G_seq ?_
        refine G_block ?_
        refine G_seq ?_
        refine G_quiet (by kernel_rfl) (by kernel_rfl) M7241 ?_
        refine Z_runs [.slice p7215 x7213.length c7216, .int .i64 s7236] [(0, .slice p7215 x7213.length c7216), (1, .slice p7220 x7218.length c7221), (5, .int .i64 s7236), (17, .slice p7215 x7213.length c7216), (18, .int .i64 s7236)] (fun w_ => by kernel_rfl) (by kernel_rfl) ?_
        obtain ⟨y7248, hy7248, hm⟩ := gx_bind hm
        refine Z_val (elemP p7215 (s7236.toNat * 1)) (by kernel_rfl) (fun w_ M_ => (E_index (E := encI) _ _ _ x7213.length c7216 .i64 s7236 1 (y := y7248) rfl (by kernel_rfl) (by kernel_rfl) (by kernel_rfl) (h7217.mem0 M_) rfl hy7248)) ?_
        refine Z_val (.int .i64 y7248) (by kernel_rfl) (fun w_ M_ => (E_loadE (E := encI) _ _ false 1 s7236 0 (s7236.toNat * 1) y7248 (.int .i64 y7248) rfl (by kernel_rfl) (by kernel_rfl) (by kernel_rfl) (h7217.mem0 M_) hy7248 rfl)) ?_
        refine Z_runs [.slice p7220 x7218.length c7221, .int .i64 s7236] [(0, .slice p7215 x7213.length c7216), (1, .slice p7220 x7218.length c7221), (5, .int .i64 s7236), (20, .int .i64 y7248), (21, .slice p7220 x7218.length c7221), (22, .int .i64 s7236)] (fun w_ => by kernel_rfl) (by kernel_rfl) ?_
        obtain ⟨y7249, hy7249, hm⟩ := gx_bind hm
        refine Z_val (elemP p7220 (s7236.toNat * 1)) (by kernel_rfl) (fun w_ M_ => (E_index (E := encI) _ _ _ x7218.length c7221 .i64 s7236 1 (y := y7249) rfl (by kernel_rfl) (by kernel_rfl) (by kernel_rfl) (h7222.mem0 M_) rfl hy7249)) ?_
        refine Z_val (.int .i64 y7249) (by kernel_rfl) (fun w_ M_ => (E_loadE (E := encI) _ _ false 1 s7236 0 (s7236.toNat * 1) y7249 (.int .i64 y7249) rfl (by kernel_rfl) (by kernel_rfl) (by kernel_rfl) (h7222.mem0 M_) hy7249 rfl)) ?_
        refine Z_runs [.bool (y7248 != y7249)] [(0, .slice p7215 x7213.length c7216), (1, .slice p7220 x7218.length c7221), (5, .int .i64 s7236), (25, .bool (y7248 != y7249))] (fun w_ => by kernel_rfl) (by kernel_rfl) ?_
        refine Z_end fun w7250 M7251 => ?_
        refine N_then ?_
        rcases gx_bif hm with ⟨hc7252, hm⟩ | ⟨hc7252, hm⟩
        · refine G_cond_t (b := (y7248 != y7249)) hc7252 (by kernel_rfl) ?_
          refine G_seq ?_
          refine G_region ?_
          refine W_run 1 [(4, .bool false)] w7250 (by kernel_rfl) ?_
          refine W_nil ?_
          refine N_then ?_
          refine G_ret ?_
          refine N_block_ret ?_
          refine N_then_ret ?_
          refine N_then_ret ?_
          obtain rfl := Option.some.inj hm
          obtain rfl := hout7238 _ rfl
          have hm := hmo7245; simp only [Sum.elim_inr] at hm
          refine N_block_ret ?_
          refine N_meet_ret ?_
          refine N_then_ret ?_
          obtain rfl := Option.some.inj hm
          refine N_ret [.bool false] (RVs_cons (RV_tmp (by kernel_rfl)) RVs_nil) ?_
          exact ⟨rfl, M7251.pick [] (by kernel_rfl)⟩
        · refine G_cond_f (b := (y7248 != y7249)) hc7252 (by kernel_rfl) ?_
          refine G_skip ?_
          refine N_block ?_
          refine N_then ?_
          refine G_region ?_
          refine W_run 3 [(0, .slice p7215 x7213.length c7216), (1, .slice p7220 x7218.length c7221), (5, .int .i64 (w64 (s7236 + 1)))] w7250 (by kernel_rfl) ?_
          refine W_nil ?_
          obtain rfl := Option.some.inj hm
          exact N_loop fun a ha => ⟨_, rfl, M7251.pick [] (by kernel_rfl), ha.sub (by kernel_rfl)⟩
      · refine G_cond_f (b := (decide (s7236 < (x7213.length : Int)))) hc7247 (by kernel_rfl) ?_
        refine G_exit ?_
        refine N_then_exit ?_
        refine N_then_exit ?_
        refine N_block_eq ?_
        obtain rfl := Option.some.inj hm
        obtain rfl := hout7238 _ rfl
        exact N_meet fun a ha => ⟨_, rfl, M7241.pick [] (by kernel_rfl), ha.sub (by kernel_rfl)⟩
    · intro a7253 w7254 ⟨o7246, hout_, M7255, hS7256⟩
      refine N_use hS7256 ?_
      subst hout_
      have hm := hmo7245; simp only [Sum.elim_inl] at hm
      refine N_then ?_
      refine G_seq ?_
      refine G_region ?_
      refine W_run 1 [(4, .bool true)] w7254 (by kernel_rfl) ?_
      refine W_nil ?_
      refine N_then ?_
      refine G_ret ?_
      obtain rfl := Option.some.inj hm
      refine N_ret [.bool true] (RVs_cons (RV_tmp (by kernel_rfl)) RVs_nil) ?_
      exact ⟨rfl, M7255.pick [] (by kernel_rfl)⟩
theorem c_l_vBools (w : World) (x7267 : List Bool) (p7269 : Option Addr) (c7270 : Nat) (h7271 : rdS encB w x7267 p7269 c7270) (x7272 : List Bool) (p7274 : Option Addr) (c7275 : Nat) (h7276 : rdS encB w x7272 p7274 c7275) {r : Bool} (hm : M.l_vBools x7267 x7272 = some r) :
    Calls Try.prog 87 #[.slice p7269 x7267.length c7270, .slice p7274 x7272.length c7275] w fun e w' => e = .returned (.bool r) ∧ Mem [] w w' [] := by
  unfold M.l_vBools at hm
  refine C_enter Try.func87 rfl (by kernel_rfl) ?_
  have M0 := Mem.refl [] w
  refine G_seq ?_
  refine G_region ?_
  refine W_run 1 [(0, .slice p7269 x7267.length c7270), (1, .slice p7274 x7272.length c7275)] w (by kernel_rfl) ?_
  refine W_nil ?_
  refine N_then ?_
  refine G_seq ?_
  refine G_seq ?_
  refine G_region ?_
  refine W_run 5 [(0, .slice p7269 x7267.length c7270), (1, .slice p7274 x7272.length c7275), (10, .bool ((x7267.length : Int) != (x7272.length : Int)))] w (by kernel_rfl) ?_
  refine W_nil ?_
  refine N_then ?_
  rcases gx_bif hm with ⟨hc7277, hm⟩ | ⟨hc7277, hm⟩
  · refine G_cond_t (b := ((x7267.length : Int) != (x7272.length : Int))) hc7277 (by kernel_rfl) ?_
    refine G_seq ?_
    refine G_region ?_
    refine W_run 1 [(4, .bool false)] w (by kernel_rfl) ?_
    refine W_nil ?_
    refine N_then ?_
    refine G_ret ?_
    refine N_then_ret ?_
    obtain rfl := Option.some.inj hm
    refine N_ret [.bool false] (RVs_cons (RV_tmp (by kernel_rfl)) RVs_nil) ?_
    exact ⟨rfl, M0.pick [] (by kernel_rfl)⟩
  · refine G_cond_f (b := ((x7267.length : Int) != (x7272.length : Int))) hc7277 (by kernel_rfl) ?_
    refine G_skip ?_
    refine N_then ?_
    refine G_seq ?_
    refine G_seq ?_
    refine G_region ?_
    refine W_run 1 [(0, .slice p7269 x7267.length c7270), (1, .slice p7274 x7272.length c7275), (5, .int .i64 0)] w (by kernel_rfl) ?_
    refine W_nil ?_
    refine N_then ?_
    obtain ⟨out7297, hw7298, hmo7299⟩ := gx_bind hm
    refine G_meet (fun a w' => ∃ (o7300 : Unit), out7297 = .inl o7300 ∧ Mem [] w w' [] ∧ Sat Try.f87.ntmps [] a) ?_ ?_
    · refine G_block ?_
      refine G_while (σ := Int) (ρ := (Unit) ⊕ (Bool)) (fun s7290 a w' => Mem [] w w' [] ∧ Sat Try.f87.ntmps [(0, .slice p7269 x7267.length c7270), (1, .slice p7274 x7272.length c7275), (5, .int .i64 s7290)] a) hw7298 (fun a ha => ⟨M0.pick [] (by kernel_rfl), ha.sub (by kernel_rfl)⟩) ?_
      clear hm
      intro s7290 x7291 hm hout7292 a7293 w7294 ⟨M7295, hS7296⟩
      refine G_use hS7296 ?_
      refine G_seq ?_
      refine G_seq ?_
      refine G_region ?_
      refine W_run 4 [(0, .slice p7269 x7267.length c7270), (1, .slice p7274 x7272.length c7275), (5, .int .i64 s7290), (14, .bool (decide (s7290 < (x7267.length : Int))))] w7294 (by kernel_rfl) ?_
      refine W_nil ?_
      refine N_then ?_
      rcases gx_bif hm with ⟨hc7301, hm⟩ | ⟨hc7301, hm⟩
      · refine G_cond_t (b := (decide (s7290 < (x7267.length : Int)))) hc7301 (by kernel_rfl) ?_
        refine G_skip ?_
        refine N_then ?_
        refine G_seq ?_
        refine G_block ?_
        refine G_seq ?_
        refine G_quiet (by kernel_rfl) (by kernel_rfl) M7295 ?_
        refine Z_runs [.slice p7269 x7267.length c7270, .int .i64 s7290] [(0, .slice p7269 x7267.length c7270), (1, .slice p7274 x7272.length c7275), (5, .int .i64 s7290), (17, .slice p7269 x7267.length c7270), (18, .int .i64 s7290)] (fun w_ => by kernel_rfl) (by kernel_rfl) ?_
        obtain ⟨y7302, hy7302, hm⟩ := gx_bind hm
        refine Z_val (elemP p7269 (s7290.toNat * 1)) (by kernel_rfl) (fun w_ M_ => (E_index (E := encB) _ _ _ x7267.length c7270 .i64 s7290 1 (y := y7302) rfl (by kernel_rfl) (by kernel_rfl) (by kernel_rfl) (h7271.mem0 M_) rfl hy7302)) ?_
        refine Z_val (.bool y7302) (by kernel_rfl) (fun w_ M_ => (E_loadE (E := encB) _ _ false 1 s7290 0 (s7290.toNat * 1) y7302 (.bool y7302) rfl (by kernel_rfl) (by kernel_rfl) (by kernel_rfl) (h7271.mem0 M_) hy7302 rfl)) ?_
        refine Z_runs [.slice p7274 x7272.length c7275, .int .i64 s7290] [(0, .slice p7269 x7267.length c7270), (1, .slice p7274 x7272.length c7275), (5, .int .i64 s7290), (20, .bool y7302), (21, .slice p7274 x7272.length c7275), (22, .int .i64 s7290)] (fun w_ => by kernel_rfl) (by kernel_rfl) ?_
        obtain ⟨y7303, hy7303, hm⟩ := gx_bind hm
        refine Z_val (elemP p7274 (s7290.toNat * 1)) (by kernel_rfl) (fun w_ M_ => (E_index (E := encB) _ _ _ x7272.length c7275 .i64 s7290 1 (y := y7303) rfl (by kernel_rfl) (by kernel_rfl) (by kernel_rfl) (h7276.mem0 M_) rfl hy7303)) ?_
        refine Z_val (.bool y7303) (by kernel_rfl) (fun w_ M_ => (E_loadE (E := encB) _ _ false 1 s7290 0 (s7290.toNat * 1) y7303 (.bool y7303) rfl (by kernel_rfl) (by kernel_rfl) (by kernel_rfl) (h7276.mem0 M_) hy7303 rfl)) ?_
        refine Z_runs [.bool (!(y7302 == y7303))] [(0, .slice p7269 x7267.length c7270), (1, .slice p7274 x7272.length c7275), (5, .int .i64 s7290), (25, .bool (!(y7302 == y7303)))] (fun w_ => by kernel_rfl) (by kernel_rfl) ?_
        refine Z_end fun w7304 M7305 => ?_
        refine N_then ?_
        rcases gx_bif hm with ⟨hc7306, hm⟩ | ⟨hc7306, hm⟩
        · refine G_cond_t (b := (!(y7302 == y7303))) hc7306 (by kernel_rfl) ?_
          refine G_seq ?_
          refine G_region ?_
          refine W_run 1 [(4, .bool false)] w7304 (by kernel_rfl) ?_
          refine W_nil ?_
          refine N_then ?_
          refine G_ret ?_
          refine N_block_ret ?_
          refine N_then_ret ?_
          refine N_then_ret ?_
          obtain rfl := Option.some.inj hm
          obtain rfl := hout7292 _ rfl
          have hm := hmo7299; simp only [Sum.elim_inr] at hm
          refine N_block_ret ?_
          refine N_meet_ret ?_
          refine N_then_ret ?_
          obtain rfl := Option.some.inj hm
          refine N_ret [.bool false] (RVs_cons (RV_tmp (by kernel_rfl)) RVs_nil) ?_
          exact ⟨rfl, M7305.pick [] (by kernel_rfl)⟩
        · refine G_cond_f (b := (!(y7302 == y7303))) hc7306 (by kernel_rfl) ?_
          refine G_skip ?_
          refine N_block ?_
          refine N_then ?_
          refine G_region ?_
          refine W_run 3 [(0, .slice p7269 x7267.length c7270), (1, .slice p7274 x7272.length c7275), (5, .int .i64 (w64 (s7290 + 1)))] w7304 (by kernel_rfl) ?_
          refine W_nil ?_
          obtain rfl := Option.some.inj hm
          exact N_loop fun a ha => ⟨_, rfl, M7305.pick [] (by kernel_rfl), ha.sub (by kernel_rfl)⟩
      · refine G_cond_f (b := (decide (s7290 < (x7267.length : Int)))) hc7301 (by kernel_rfl) ?_
        refine G_exit ?_
        refine N_then_exit ?_
        refine N_then_exit ?_
        refine N_block_eq ?_
        obtain rfl := Option.some.inj hm
        obtain rfl := hout7292 _ rfl
        exact N_meet fun a ha => ⟨_, rfl, M7295.pick [] (by kernel_rfl), ha.sub (by kernel_rfl)⟩
    · intro a7307 w7308 ⟨o7300, hout_, M7309, hS7310⟩
      refine N_use hS7310 ?_
      subst hout_
      have hm := hmo7299; simp only [Sum.elim_inl] at hm
      refine N_then ?_
      refine G_seq ?_
      refine G_region ?_
      refine W_run 1 [(4, .bool true)] w7308 (by kernel_rfl) ?_
      refine W_nil ?_
      refine N_then ?_
      refine G_ret ?_
      obtain rfl := Option.some.inj hm
      refine N_ret [.bool true] (RVs_cons (RV_tmp (by kernel_rfl)) RVs_nil) ?_
      exact ⟨rfl, M7309.pick [] (by kernel_rfl)⟩
theorem c_l_vCopying (w : World) (x7179 : Copying) (p7181 : Option Addr) (c7182 : Nat) (h7183 : rdS encI w x7179.Memory p7181 c7182) (p7185 : Option Addr) (c7186 : Nat) (h7187 : rdS encI w x7179.Copy p7185 c7186) (p7189 : Option Addr) (c7190 : Nat) (h7191 : rdS encB w x7179.Dirty p7189 c7190) (x7192 : Copying) (p7194 : Option Addr) (c7195 : Nat) (h7196 : rdS encI w x7192.Memory p7194 c7195) (p7198 : Option Addr) (c7199 : Nat) (h7200 : rdS encI w x7192.Copy p7198 c7199) (p7202 : Option Addr) (c7203 : Nat) (h7204 : rdS encB w x7192.Dirty p7202 c7203) {r : Bool} (hm : M.l_vCopying x7179 x7192 = some r) :
    Calls Try.prog 45 #[.agg #[.slice p7181 x7179.Memory.length c7182, .slice p7185 x7179.Copy.length c7186, .slice p7189 x7179.Dirty.length c7190], .agg #[.slice p7194 x7192.Memory.length c7195, .slice p7198 x7192.Copy.length c7199, .slice p7202 x7192.Dirty.length c7203]] w fun e w' => e = .returned (.bool r) ∧ Mem [] w w' [] := by
  unfold M.l_vCopying at hm
  refine C_enter Try.func45 rfl (by kernel_rfl) ?_
  have M0 := Mem.refl [] w
  refine G_seq ?_
  refine G_region ?_
  refine W_new (fun b => .pointer (some ⟨b, 0, none⟩)) (.cells ⟨[.slice p7181 x7179.Memory.length c7182, .slice p7185 x7179.Copy.length c7186, .slice p7189 x7179.Dirty.length c7190]⟩ 28 (0, 0)) M0 rfl (by kernel_rfl) (by kernel_rfl) ?_
  intro b7206 w7207 M7208
  refine W_new (fun b => .pointer (some ⟨b, 0, none⟩)) (.cells ⟨[.slice p7194 x7192.Memory.length c7195, .slice p7198 x7192.Copy.length c7199, .slice p7202 x7192.Dirty.length c7203]⟩ 28 (0, 0)) M7208 rfl (by kernel_rfl) (by kernel_rfl) ?_
  intro b7210 w7211 M7212
  refine W_run 1 [(2, .pointer (some ⟨b7206, 0, none⟩)), (3, .pointer (some ⟨b7210, 0, none⟩))] w7211 (by kernel_rfl) ?_
  refine W_nil ?_
  refine N_then ?_
  refine G_seq ?_
  obtain ⟨o7315, ho7316, hm7317⟩ := gx_bind hm
  refine G_meet (fun a w' => Mem [] w w' [] ∧ Sat Try.f45.ntmps [(4, .bool o7315)] a) ?_ ?_
  · have hm := ho7316
    refine G_region ?_
    refine W_run 1 [(2, .pointer (some ⟨b7206, 0, none⟩)), (3, .pointer (some ⟨b7210, 0, none⟩)), (5, .pointer (some ⟨b7206, 0, none⟩))] w7211 (by kernel_rfl) ?_
    refine W_val (.slice p7181 x7179.Memory.length c7182) w7211 (by kernel_rfl) (E_load (e := 28) (fr := (0, 0)) _ _ false 1 b7206 0 [.slice p7181 x7179.Memory.length c7182, .slice p7185 x7179.Copy.length c7186, .slice p7189 x7179.Dirty.length c7190] (.slice p7181 x7179.Memory.length c7182) rfl (by kernel_rfl) (by kernel_rfl) (by kernel_rfl) (M7212.blk 0 (b := b7206) (o := .cells ⟨[.slice p7181 x7179.Memory.length c7182, .slice p7185 x7179.Copy.length c7186, .slice p7189 x7179.Dirty.length c7190]⟩ 28 (0, 0)) (by kernel_rfl))) ?_
    refine W_run 1 [(2, .pointer (some ⟨b7206, 0, none⟩)), (3, .pointer (some ⟨b7210, 0, none⟩)), (6, .slice p7181 x7179.Memory.length c7182), (7, .pointer (some ⟨b7210, 0, none⟩))] w7211 (by kernel_rfl) ?_
    refine W_val (.slice p7194 x7192.Memory.length c7195) w7211 (by kernel_rfl) (E_load (e := 28) (fr := (0, 0)) _ _ false 1 b7210 0 [.slice p7194 x7192.Memory.length c7195, .slice p7198 x7192.Copy.length c7199, .slice p7202 x7192.Dirty.length c7203] (.slice p7194 x7192.Memory.length c7195) rfl (by kernel_rfl) (by kernel_rfl) (by kernel_rfl) (M7212.blk 1 (b := b7210) (o := .cells ⟨[.slice p7194 x7192.Memory.length c7195, .slice p7198 x7192.Copy.length c7199, .slice p7202 x7192.Dirty.length c7203]⟩ 28 (0, 0)) (by kernel_rfl))) ?_
    obtain ⟨r7318, hr7318, hm⟩ := gx_bind hm
    refine W_call 46 #[.slice p7181 x7179.Memory.length c7182, .slice p7194 x7192.Memory.length c7195] (by kernel_rfl) (by kernel_rfl) ?_
    refine (c_l_vInts w7211 x7179.Memory p7181 c7182 (h7183.mem0 M7212) x7192.Memory p7194 c7195 (h7196.mem0 M7212) hr7318).mono ?_
    rintro e_ w7319 ⟨rfl, K7320⟩
    have M7321 := M7212.call0 K7320
    refine ⟨_, rfl, ?_⟩
    refine W_run 1 [(2, .pointer (some ⟨b7206, 0, none⟩)), (3, .pointer (some ⟨b7210, 0, none⟩)), (10, .bool r7318)] w7319 (by kernel_rfl) ?_
    rcases gx_bif hm with ⟨hc7322, hm⟩ | ⟨hc7322, hm⟩
    · refine W_known 10 true (by kernel_rfl) hc7322 ?_
      refine W_run 1 [(2, .pointer (some ⟨b7206, 0, none⟩)), (3, .pointer (some ⟨b7210, 0, none⟩)), (10, .bool true), (11, .pointer (some ⟨b7206, 1, none⟩))] w7319 (by kernel_rfl) ?_
      refine W_val (.slice p7185 x7179.Copy.length c7186) w7319 (by kernel_rfl) (E_load (e := 28) (fr := (0, 0)) _ _ false 1 b7206 1 [.slice p7181 x7179.Memory.length c7182, .slice p7185 x7179.Copy.length c7186, .slice p7189 x7179.Dirty.length c7190] (.slice p7185 x7179.Copy.length c7186) rfl (by kernel_rfl) (by kernel_rfl) (by kernel_rfl) (M7321.blk 0 (b := b7206) (o := .cells ⟨[.slice p7181 x7179.Memory.length c7182, .slice p7185 x7179.Copy.length c7186, .slice p7189 x7179.Dirty.length c7190]⟩ 28 (0, 0)) (by kernel_rfl))) ?_
      refine W_run 1 [(2, .pointer (some ⟨b7206, 0, none⟩)), (3, .pointer (some ⟨b7210, 0, none⟩)), (10, .bool true), (12, .slice p7185 x7179.Copy.length c7186), (13, .pointer (some ⟨b7210, 1, none⟩))] w7319 (by kernel_rfl) ?_
      refine W_val (.slice p7198 x7192.Copy.length c7199) w7319 (by kernel_rfl) (E_load (e := 28) (fr := (0, 0)) _ _ false 1 b7210 1 [.slice p7194 x7192.Memory.length c7195, .slice p7198 x7192.Copy.length c7199, .slice p7202 x7192.Dirty.length c7203] (.slice p7198 x7192.Copy.length c7199) rfl (by kernel_rfl) (by kernel_rfl) (by kernel_rfl) (M7321.blk 1 (b := b7210) (o := .cells ⟨[.slice p7194 x7192.Memory.length c7195, .slice p7198 x7192.Copy.length c7199, .slice p7202 x7192.Dirty.length c7203]⟩ 28 (0, 0)) (by kernel_rfl))) ?_
      obtain ⟨r7323, hr7323, hm⟩ := gx_bind hm
      refine W_call 46 #[.slice p7185 x7179.Copy.length c7186, .slice p7198 x7192.Copy.length c7199] (by kernel_rfl) (by kernel_rfl) ?_
      refine (c_l_vInts w7319 x7179.Copy p7185 c7186 (h7187.mem0 M7321) x7192.Copy p7198 c7199 (h7200.mem0 M7321) hr7323).mono ?_
      rintro e_ w7324 ⟨rfl, K7325⟩
      have M7326 := M7321.call0 K7325
      refine ⟨_, rfl, ?_⟩
      refine W_run 2 [(2, .pointer (some ⟨b7206, 0, none⟩)), (3, .pointer (some ⟨b7210, 0, none⟩)), (17, .bool r7323)] w7324 (by kernel_rfl) ?_
      rcases gx_bif hm with ⟨hc7327, hm⟩ | ⟨hc7327, hm⟩
      · refine W_known 17 true (by kernel_rfl) hc7327 ?_
        refine W_run 1 [(3, .pointer (some ⟨b7210, 0, none⟩)), (17, .bool true), (18, .pointer (some ⟨b7206, 2, none⟩))] w7324 (by kernel_rfl) ?_
        refine W_val (.slice p7189 x7179.Dirty.length c7190) w7324 (by kernel_rfl) (E_load (e := 28) (fr := (0, 0)) _ _ false 1 b7206 2 [.slice p7181 x7179.Memory.length c7182, .slice p7185 x7179.Copy.length c7186, .slice p7189 x7179.Dirty.length c7190] (.slice p7189 x7179.Dirty.length c7190) rfl (by kernel_rfl) (by kernel_rfl) (by kernel_rfl) (M7326.blk 0 (b := b7206) (o := .cells ⟨[.slice p7181 x7179.Memory.length c7182, .slice p7185 x7179.Copy.length c7186, .slice p7189 x7179.Dirty.length c7190]⟩ 28 (0, 0)) (by kernel_rfl))) ?_
        refine W_run 1 [(17, .bool true), (19, .slice p7189 x7179.Dirty.length c7190), (20, .pointer (some ⟨b7210, 2, none⟩))] w7324 (by kernel_rfl) ?_
        refine W_val (.slice p7202 x7192.Dirty.length c7203) w7324 (by kernel_rfl) (E_load (e := 28) (fr := (0, 0)) _ _ false 1 b7210 2 [.slice p7194 x7192.Memory.length c7195, .slice p7198 x7192.Copy.length c7199, .slice p7202 x7192.Dirty.length c7203] (.slice p7202 x7192.Dirty.length c7203) rfl (by kernel_rfl) (by kernel_rfl) (by kernel_rfl) (M7326.blk 1 (b := b7210) (o := .cells ⟨[.slice p7194 x7192.Memory.length c7195, .slice p7198 x7192.Copy.length c7199, .slice p7202 x7192.Dirty.length c7203]⟩ 28 (0, 0)) (by kernel_rfl))) ?_
        obtain ⟨r7328, hr7328, hm⟩ := gx_bind hm
        refine W_call 87 #[.slice p7189 x7179.Dirty.length c7190, .slice p7202 x7192.Dirty.length c7203] (by kernel_rfl) (by kernel_rfl) ?_
        refine (c_l_vBools w7324 x7179.Dirty p7189 c7190 (h7191.mem0 M7326) x7192.Dirty p7202 c7203 (h7204.mem0 M7326) hr7328).mono ?_
        rintro e_ w7329 ⟨rfl, K7330⟩
        have M7331 := M7326.call0 K7330
        refine ⟨_, rfl, ?_⟩
        refine W_run 2 [(4, .bool r7328)] w7329 (by kernel_rfl) ?_
        refine W_nil ?_
        obtain rfl := Option.some.inj hm
        exact N_meet fun a ha => ⟨M7331.pick [] (by kernel_rfl), ha.sub (by kernel_rfl)⟩
      · refine W_known 17 false (by kernel_rfl) hc7327 ?_
        refine W_run 7 [(4, .bool false)] w7324 (by kernel_rfl) ?_
        refine W_nil ?_
        obtain rfl := Option.some.inj hm
        exact N_meet fun a ha => ⟨M7326.pick [] (by kernel_rfl), ha.sub (by kernel_rfl)⟩
    · refine W_known 10 false (by kernel_rfl) hc7322 ?_
      refine W_run 14 [(4, .bool false)] w7319 (by kernel_rfl) ?_
      refine W_nil ?_
      obtain rfl := Option.some.inj hm
      exact N_meet fun a ha => ⟨M7321.pick [] (by kernel_rfl), ha.sub (by kernel_rfl)⟩
  · intro a7334 w7332 ⟨M7333, hS7335⟩
    refine N_use hS7335 ?_
    have hm := hm7317
    refine N_then ?_
    refine G_ret ?_
    obtain rfl := Option.some.inj hm
    refine N_ret [.bool o7315] (RVs_cons (RV_tmp (by kernel_rfl)) RVs_nil) ?_
    exact ⟨rfl, M7333.pick [] (by kernel_rfl)⟩
theorem c_l_vHas (w : World) (x7443 : List Int) (p7445 : Option Addr) (c7446 : Nat) (h7447 : rdS encI w x7443 p7445 c7446) (x7448 : Int) {r : Bool} (hm : M.l_vHas x7443 x7448 = some r) :
    Calls Try.prog 51 #[.slice p7445 x7443.length c7446, .int .i64 x7448] w fun e w' => e = .returned (.bool r) ∧ Mem [] w w' [] := by
  unfold M.l_vHas at hm
  refine C_enter Try.func51 rfl (by kernel_rfl) ?_
  have M0 := Mem.refl [] w
  refine G_seq ?_
  refine G_region ?_
  refine W_run 1 [(0, .slice p7445 x7443.length c7446), (1, .int .i64 x7448)] w (by kernel_rfl) ?_
  refine W_nil ?_
  refine N_then ?_
  refine G_seq ?_
  refine G_seq ?_
  refine G_region ?_
  refine W_run 1 [(0, .slice p7445 x7443.length c7446), (1, .int .i64 x7448), (5, .int .i64 0)] w (by kernel_rfl) ?_
  refine W_nil ?_
  refine N_then ?_
  obtain ⟨out7462, hw7463, hmo7464⟩ := gx_bind hm
  refine G_meet (fun a w' => ∃ (o7465 : Unit), out7462 = .inl o7465 ∧ Mem [] w w' [] ∧ Sat Try.f51.ntmps [] a) ?_ ?_
  · refine G_block ?_
    refine G_while (σ := Int) (ρ := (Unit) ⊕ (Bool)) (fun s7455 a w' => Mem [] w w' [] ∧ Sat Try.f51.ntmps [(0, .slice p7445 x7443.length c7446), (1, .int .i64 x7448), (5, .int .i64 s7455)] a) hw7463 (fun a ha => ⟨M0.pick [] (by kernel_rfl), ha.sub (by kernel_rfl)⟩) ?_
    clear hm
    intro s7455 x7456 hm hout7457 a7458 w7459 ⟨M7460, hS7461⟩
    refine G_use hS7461 ?_
    refine G_seq ?_
    refine G_seq ?_
    refine G_region ?_
    refine W_run 4 [(0, .slice p7445 x7443.length c7446), (1, .int .i64 x7448), (5, .int .i64 s7455), (9, .bool (decide (s7455 < (x7443.length : Int))))] w7459 (by kernel_rfl) ?_
    refine W_nil ?_
    refine N_then ?_
    rcases gx_bif hm with ⟨hc7466, hm⟩ | ⟨hc7466, hm⟩
    · refine G_cond_t (b := (decide (s7455 < (x7443.length : Int)))) hc7466 (by kernel_rfl) ?_
      refine G_skip ?_
      refine N_then ?_
      refine G_seq ?_
      refine G_block ?_
      refine G_seq ?_
      refine G_region ?_
      refine W_run 2 [(0, .slice p7445 x7443.length c7446), (1, .int .i64 x7448), (5, .int .i64 s7455), (12, .slice p7445 x7443.length c7446), (13, .int .i64 s7455)] w7459 (by kernel_rfl) ?_
      obtain ⟨y7467, hy7467, hm⟩ := gx_bind hm
      refine W_val (elemP p7445 (s7455.toNat * 1)) w7459 (by kernel_rfl) (E_index (E := encI) _ _ _ x7443.length c7446 .i64 s7455 1 (y := y7467) rfl (by kernel_rfl) (by kernel_rfl) (by kernel_rfl) (h7447.mem0 M7460) rfl hy7467) ?_
      refine W_val (.int .i64 y7467) w7459 (by kernel_rfl) (E_loadE (E := encI) _ _ false 1 s7455 0 (s7455.toNat * 1) y7467 (.int .i64 y7467) rfl (by kernel_rfl) (by kernel_rfl) (by kernel_rfl) (h7447.mem0 M7460) hy7467 rfl) ?_
      refine W_run 2 [(0, .slice p7445 x7443.length c7446), (1, .int .i64 x7448), (5, .int .i64 s7455), (17, .bool (y7467 == x7448))] w7459 (by kernel_rfl) ?_
      refine W_nil ?_
      refine N_then ?_
      rcases gx_bif hm with ⟨hc7468, hm⟩ | ⟨hc7468, hm⟩
      · refine G_cond_t (b := (y7467 == x7448)) hc7468 (by kernel_rfl) ?_
        refine G_seq ?_
        refine G_region ?_
        refine W_run 1 [(4, .bool true)] w7459 (by kernel_rfl) ?_
        refine W_nil ?_
        refine N_then ?_
        refine G_ret ?_
        refine N_block_ret ?_
        refine N_then_ret ?_
        refine N_then_ret ?_
        obtain rfl := Option.some.inj hm
        obtain rfl := hout7457 _ rfl
        have hm := hmo7464; simp only [Sum.elim_inr] at hm
        refine N_block_ret ?_
        refine N_meet_ret ?_
        refine N_then_ret ?_
        obtain rfl := Option.some.inj hm
        refine N_ret [.bool true] (RVs_cons (RV_tmp (by kernel_rfl)) RVs_nil) ?_
        exact ⟨rfl, M7460.pick [] (by kernel_rfl)⟩
      · refine G_cond_f (b := (y7467 == x7448)) hc7468 (by kernel_rfl) ?_
        refine G_skip ?_
        refine N_block ?_
        refine N_then ?_
        refine G_region ?_
        refine W_run 3 [(0, .slice p7445 x7443.length c7446), (1, .int .i64 x7448), (5, .int .i64 (w64 (s7455 + 1)))] w7459 (by kernel_rfl) ?_
        refine W_nil ?_
        obtain rfl := Option.some.inj hm
        exact N_loop fun a ha => ⟨_, rfl, M7460.pick [] (by kernel_rfl), ha.sub (by kernel_rfl)⟩
    · refine G_cond_f (b := (decide (s7455 < (x7443.length : Int)))) hc7466 (by kernel_rfl) ?_
      refine G_exit ?_
      refine N_then_exit ?_
      refine N_then_exit ?_
      refine N_block_eq ?_
      obtain rfl := Option.some.inj hm
      obtain rfl := hout7457 _ rfl
      exact N_meet fun a ha => ⟨_, rfl, M7460.pick [] (by kernel_rfl), ha.sub (by kernel_rfl)⟩
  · intro a7469 w7470 ⟨o7465, hout_, M7471, hS7472⟩
    refine N_use hS7472 ?_
    subst hout_
    have hm := hmo7464; simp only [Sum.elim_inl] at hm
    refine N_then ?_
    refine G_seq ?_
    refine G_region ?_
    refine W_run 1 [(4, .bool false)] w7470 (by kernel_rfl) ?_
    refine W_nil ?_
    refine N_then ?_
    refine G_ret ?_
    obtain rfl := Option.some.inj hm
    refine N_ret [.bool false] (RVs_cons (RV_tmp (by kernel_rfl)) RVs_nil) ?_
    exact ⟨rfl, M7471.pick [] (by kernel_rfl)⟩
theorem c_s_DrawStartCopy (w : World) (x7473 : List Int) (p7475 : Option Addr) (c7476 : Nat) (h7477 : rdS encU8 w x7473 p7475 c7476) {r : (List Int)} (hm : M.s_DrawStartCopy x7473 = some r) :
    Calls Try.prog 52 #[.slice p7475 x7473.length c7476] w fun e w' => ∃ (p7479 : Option Addr) (c7480 : Nat) (sg7481 : Seg), e = .returned (.slice p7479 r.length c7480) ∧ ownS encI r p7479 c7480 sg7481 ∧ Mem [] w w' [sg7481] := by
  unfold M.s_DrawStartCopy at hm
  refine C_enter Try.func52 rfl (by kernel_rfl) ?_
  have M0 := Mem.refl [] w
  refine G_seq ?_
  refine G_region ?_
  refine W_run 1 [(0, .slice p7475 x7473.length c7476)] w (by kernel_rfl) ?_
  refine W_nil ?_
  refine N_then ?_
  refine G_seq ?_
  refine G_region ?_
  refine W_run 2 [(5, .agg #[.slice p7475 x7473.length c7476, .int .i64 0, .int .u64 0])] w (by kernel_rfl) ?_
  refine W_new (fun b => .pointer (some ⟨b, 0, none⟩)) (.cells ⟨[.slice p7475 x7473.length c7476, .int .i64 0, .int .u64 0]⟩ 99 (0, 0)) M0 rfl (by kernel_rfl) (by kernel_rfl) ?_
  intro b7485 w7486 M7487
  refine W_run 1 [(3, .pointer (some ⟨b7485, 0, none⟩))] w7486 (by kernel_rfl) ?_
  refine W_nil ?_
  refine N_then ?_
  refine G_seq ?_
  refine G_region ?_
  refine W_run 1 [(7, .pointer (some ⟨b7485, 0, none⟩))] w7486 (by kernel_rfl) ?_
  obtain ⟨r7488, hr7488, hm⟩ := gx_bind hm
  refine W_call 91 #[.pointer (some ⟨b7485, 0, none⟩)] (by kernel_rfl) (by kernel_rfl) ?_
  refine (c_s_l1Cur_memory w7486 (⟨x7473, 0, 0⟩ : l1Cur) p7475 c7476 (h7477.mem0 M7487) b7485 (M7487.hasPick [0]) (M7487.nodupPick [0] (by kernel_rfl)) (apartX.old0 h7477 M7487 [0]) hr7488).mono ?_
  rintro e_ w7494 ⟨p7490, c7491, sg7492, rfl, ho7493, K7495⟩
  have M7496 := M7487.callF' [0] [] (by kernel_rfl) K7495
  refine ⟨_, rfl, ?_⟩
  refine W_run 1 [(2, .slice p7490 r7488.1.length c7491)] w7494 (by kernel_rfl) ?_
  refine W_nil ?_
  refine N_then ?_
  refine G_ret ?_
  obtain rfl := Option.some.inj hm
  refine N_ret [.slice p7490 r7488.1.length c7491] (RVs_cons (RV_tmp (by kernel_rfl)) RVs_nil) ?_
  exact ⟨p7490, c7491, sg7492, rfl, ho7493, M7496.pick [1] (by kernel_rfl)⟩
theorem c_l_szStoreS (w : World) (x7521 : List Store) (p7523 : Option Addr) (c7524 : Nat) (h7525 : rdS encStore w x7521 p7523 c7524) (x7526 : Int) {r : Int} (hm : M.l_szStoreS x7521 x7526 = some r) :
    Calls Try.prog 76 #[.slice p7523 x7521.length c7524, .int .i64 x7526] w fun e w' => e = .returned (.int .i64 r) ∧ Mem [] w w' [] := by
  unfold M.l_szStoreS at hm
  refine C_enter Try.func76 rfl (by kernel_rfl) ?_
  have M0 := Mem.refl [] w
  refine G_seq ?_
  refine G_region ?_
  refine W_run 1 [(0, .slice p7523 x7521.length c7524), (1, .int .i64 x7526)] w (by kernel_rfl) ?_
  refine W_nil ?_
  refine N_then ?_
  refine G_seq ?_
  refine G_region ?_
  refine W_run 5 [(1, .int .i64 (w64 (x7526 - (x7521.length : Int))))] w (by kernel_rfl) ?_
  refine W_nil ?_
  refine N_then ?_
  refine G_seq ?_
  refine G_seq ?_
  refine G_region ?_
  refine W_run 2 [(1, .int .i64 (w64 (x7526 - (x7521.length : Int)))), (10, .bool (decide ((w64 (x7526 - (x7521.length : Int))) < 0)))] w (by kernel_rfl) ?_
  refine W_nil ?_
  refine N_then ?_
  rcases gx_bif hm with ⟨hc7527, hm⟩ | ⟨hc7527, hm⟩
  · refine G_cond_t (b := (decide ((w64 (x7526 - (x7521.length : Int))) < 0))) hc7527 (by kernel_rfl) ?_
    refine G_seq ?_
    refine G_region ?_
    refine W_run 1 [(4, .int .i64 (-1))] w (by kernel_rfl) ?_
    refine W_nil ?_
    refine N_then ?_
    refine G_ret ?_
    refine N_then_ret ?_
    obtain rfl := Option.some.inj hm
    refine N_ret [.int .i64 (-1)] (RVs_cons (RV_tmp (by kernel_rfl)) RVs_nil) ?_
    exact ⟨rfl, M0.pick [] (by kernel_rfl)⟩
  · refine G_cond_f (b := (decide ((w64 (x7526 - (x7521.length : Int))) < 0))) hc7527 (by kernel_rfl) ?_
    refine G_skip ?_
    refine N_then ?_
    refine G_seq ?_
    refine G_region ?_
    refine W_run 2 [(4, .int .i64 (w64 (x7526 - (x7521.length : Int))))] w (by kernel_rfl) ?_
    refine W_nil ?_
    refine N_then ?_
    refine G_ret ?_
    obtain rfl := Option.some.inj hm
    refine N_ret [.int .i64 (w64 (x7526 - (x7521.length : Int)))] (RVs_cons (RV_tmp (by kernel_rfl)) RVs_nil) ?_
    exact ⟨rfl, M0.pick [] (by kernel_rfl)⟩
theorem c_l_toStoreS (w : World) (x7564 : List Store) (p7566 : Option Addr) (c7567 : Nat) (h7568 : rdS encStore w x7564 p7566 c7567) {r : (List Store)} (hm : M.l_toStoreS x7564 = some r) :
    Calls Try.prog 79 #[.slice p7566 x7564.length c7567] w fun e w' => ∃ (p7570 : Option Addr) (c7571 : Nat) (sg7572 : Seg), e = .returned (.slice p7570 r.length c7571) ∧ ownS encStore r p7570 c7571 sg7572 ∧ Mem [] w w' [sg7572] := by
  unfold M.l_toStoreS at hm
  refine C_enter Try.func79 rfl (by kernel_rfl) ?_
  have M0 := Mem.refl [] w
  refine G_seq ?_
  refine G_region ?_
  refine W_run 1 [(0, .slice p7566 x7564.length c7567)] w (by kernel_rfl) ?_
  refine W_nil ?_
  refine N_then ?_
  refine G_seq ?_
  refine G_region ?_
  refine W_run 2 [(0, .slice p7566 x7564.length c7567), (6, .int .i64 (x7564.length : Int))] w (by kernel_rfl) ?_
  obtain ⟨mk7574, hmk7574, hm⟩ := gx_bind hm
  refine W_make (E := encStore) _ _ _ (x7564.length : Int) 16 [.int .i64 0, .int .i64 0] ((⟨0, 0⟩ : Store) : Store) M0 (by kernel_rfl) rfl (by kernel_rfl) (by kernel_rfl) (by kernel_rfl) (by kernel_rfl) (by kernel_rfl) hmk7574 ?_
  intro p7575 c7576 sg7577 w7578 ho7579 M7580
  refine W_run 1 [(0, .slice p7566 x7564.length c7567), (3, .slice p7575 mk7574.length c7576)] w7578 (by kernel_rfl) ?_
  refine W_nil ?_
  refine N_then ?_
  refine G_seq ?_
  refine G_seq ?_
  refine G_region ?_
  refine W_run 1 [(0, .slice p7566 x7564.length c7567), (3, .slice p7575 mk7574.length c7576), (4, .int .i64 0)] w7578 (by kernel_rfl) ?_
  refine W_nil ?_
  refine N_then ?_
  obtain ⟨out7613, hw7614, hmo7615⟩ := gx_bind hm
  refine G_meet (fun a w' => ∃ (sg7619 : Seg), ownS encStore out7613 p7575 c7576 sg7619 ∧ Mem [] w w' [sg7619] ∧ Sat Try.f79.ntmps [(3, .slice p7575 out7613.length c7576)] a) ?_ ?_
  · refine G_block ?_
    refine G_while (σ := Int × List Store) (ρ := List Store) (fun s7606 a w' => ∃ (sg7616 : Seg), ownS encStore s7606.2 p7575 c7576 sg7616 ∧ Mem [] w w' [sg7616] ∧ Sat Try.f79.ntmps [(0, .slice p7566 x7564.length c7567), (3, .slice p7575 s7606.2.length c7576), (4, .int .i64 s7606.1)] a) hw7614 (fun a ha => ⟨sg7577, ho7579, M7580.pick [0] (by kernel_rfl), ha.sub (by kernel_rfl)⟩) ?_
    clear hm
    intro s7606 x7607 hm hout7608 a7609 w7610 ⟨sg7616, ho7617, M7611, hS7612⟩
    refine G_use hS7612 ?_
    refine G_seq ?_
    refine G_seq ?_
    refine G_region ?_
    refine W_run 4 [(0, .slice p7566 x7564.length c7567), (3, .slice p7575 s7606.2.length c7576), (4, .int .i64 s7606.1), (11, .bool (decide (s7606.1 < (x7564.length : Int))))] w7610 (by kernel_rfl) ?_
    refine W_nil ?_
    refine N_then ?_
    rcases gx_bif hm with ⟨hc7621, hm⟩ | ⟨hc7621, hm⟩
    · refine G_cond_t (b := (decide (s7606.1 < (x7564.length : Int)))) hc7621 (by kernel_rfl) ?_
      refine G_skip ?_
      refine N_then ?_
      refine G_seq ?_
      refine G_block ?_
      refine G_region ?_
      refine W_run 4 [(0, .slice p7566 x7564.length c7567), (3, .slice p7575 s7606.2.length c7576), (4, .int .i64 s7606.1), (14, .slice p7575 s7606.2.length c7576), (15, .int .i64 s7606.1), (16, .slice p7566 x7564.length c7567), (17, .int .i64 s7606.1)] w7610 (by kernel_rfl) ?_
      obtain ⟨y7622, hy7622, hm⟩ := gx_bind hm
      refine W_val (elemP p7566 (s7606.1.toNat * 2)) w7610 (by kernel_rfl) (E_index (E := encStore) _ _ _ x7564.length c7567 .i64 s7606.1 2 (y := y7622) rfl (by kernel_rfl) (by kernel_rfl) (by kernel_rfl) (h7568.mem0 M7611) rfl hy7622) ?_
      refine W_val (.agg #[.int .i64 y7622.Word, .int .i64 y7622.Value]) w7610 (by kernel_rfl) (E_loadE (E := encStore) _ _ true 2 s7606.1 0 (s7606.1.toNat * 2) y7622 (.agg #[.int .i64 y7622.Word, .int .i64 y7622.Value]) rfl (by kernel_rfl) (by kernel_rfl) (by kernel_rfl) (h7568.mem0 M7611) hy7622 rfl) ?_
      obtain ⟨r7623, hr7623, hm⟩ := gx_bind hm
      refine W_call 31 #[.agg #[.int .i64 y7622.Word, .int .i64 y7622.Value]] (by kernel_rfl) (by kernel_rfl) ?_
      refine (c_l_toStore w7610 y7622 hr7623).mono ?_
      rintro e_ w7624 ⟨rfl, K7625⟩
      have M7626 := M7611.call0 K7625
      refine ⟨_, rfl, ?_⟩
      obtain ⟨y7627, hy7627, hm⟩ := gx_bind hm
      refine W_val (elemP p7575 (s7606.1.toNat * 2)) w7624 (by kernel_rfl) (E_index (E := encStore) _ _ _ s7606.2.length c7576 .i64 s7606.1 2 (y := y7627) rfl (by kernel_rfl) (by kernel_rfl) (by kernel_rfl) (ho7617.rd M7626 0 (by kernel_rfl)) rfl hy7627) ?_
      refine W_storeE (E := encStore) _ _ _ true 2 s7606.1.toNat 0 (s7606.1.toNat * 2) y7627 r7623 (.agg #[.int .i64 r7623.Word, .int .i64 r7623.Value]) 0 M7626 ho7617 (by kernel_rfl) (by kernel_rfl) rfl (by kernel_rfl) (by kernel_rfl) (by kernel_rfl) (by kernel_rfl) (by kernel_rfl) (by kernel_rfl) (by kernel_rfl) (gxIdx_spec hy7627).2 rfl ?_
      intro w7628 sg7630 ho7631 M7629
      refine W_conv 3 (.slice p7575 s7606.2.length c7576) (.slice p7575 (s7606.2.set s7606.1.toNat r7623).length c7576) (by kernel_rfl) (by rw [@List.length_set _ s7606.2 s7606.1.toNat r7623]) ?_
      refine W_conv 14 (.slice p7575 s7606.2.length c7576) (.slice p7575 (s7606.2.set s7606.1.toNat r7623).length c7576) (by kernel_rfl) (by rw [@List.length_set _ s7606.2 s7606.1.toNat r7623]) ?_
      refine W_nil ?_
      refine N_block ?_
      refine N_then ?_
      refine G_region ?_
      refine W_run 3 [(0, .slice p7566 x7564.length c7567), (3, .slice p7575 (s7606.2.set s7606.1.toNat r7623).length c7576), (4, .int .i64 (w64 (s7606.1 + 1)))] w7628 (by kernel_rfl) ?_
      refine W_nil ?_
      obtain rfl := Option.some.inj hm
      exact N_loop fun a ha => ⟨_, rfl, sg7630, ho7631, M7629.pick [0] (by kernel_rfl), ha.sub (by kernel_rfl)⟩
    · refine G_cond_f (b := (decide (s7606.1 < (x7564.length : Int)))) hc7621 (by kernel_rfl) ?_
      refine G_exit ?_
      refine N_then_exit ?_
      refine N_then_exit ?_
      refine N_block_eq ?_
      obtain rfl := Option.some.inj hm
      obtain rfl := hout7608 _ rfl
      exact N_meet fun a ha => ⟨sg7616, ho7617, M7611.pick [0] (by kernel_rfl), ha.sub (by kernel_rfl)⟩
  · intro a7632 w7633 ⟨sg7619, ho7620, M7634, hS7635⟩
    refine N_use hS7635 ?_
    have hm := hmo7615
    refine N_then ?_
    refine G_seq ?_
    refine G_region ?_
    refine W_run 2 [(2, .slice p7575 out7613.length c7576)] w7633 (by kernel_rfl) ?_
    refine W_nil ?_
    refine N_then ?_
    refine G_ret ?_
    obtain rfl := Option.some.inj hm
    refine N_ret [.slice p7575 out7613.length c7576] (RVs_cons (RV_tmp (by kernel_rfl)) RVs_nil) ?_
    exact ⟨p7575, c7576, sg7619, rfl, ho7620, M7634.pick [0] (by kernel_rfl)⟩
theorem c_i_Copying_roundWith (w : World) (x7654 : Copying) (p7658 : Option Addr) (c7659 : Nat) (sg7660 : Seg) (ho7661 : ownS encI x7654.Memory p7658 c7659 sg7660) (p7663 : Option Addr) (c7664 : Nat) (sg7665 : Seg) (ho7666 : ownS encI x7654.Copy p7663 c7664 sg7665) (p7668 : Option Addr) (c7669 : Nat) (sg7670 : Seg) (ho7671 : ownS encB x7654.Dirty p7668 c7669 sg7670) (b7656 : Nat) (x7672 : List Store) (p7674 : Option Addr) (c7675 : Nat) (h7676 : rdS encStore w x7672 p7674 c7675) (x7678 : Int) (hA : ∀ q ∈ List.flatten [[(b7656, .cells ⟨[.slice p7658 x7654.Memory.length c7659, .slice p7663 x7654.Copy.length c7664, .slice p7668 x7654.Dirty.length c7669]⟩ 28 (0, 0))], sg7660, sg7665, sg7670], w.heap[q.1]? = some q.2) (hN : (idsOf [[(b7656, .cells ⟨[.slice p7658 x7654.Memory.length c7659, .slice p7663 x7654.Copy.length c7664, .slice p7668 x7654.Dirty.length c7669]⟩ 28 (0, 0))], sg7660, sg7665, sg7670]).Nodup) (hap7677 : apartX (idsOf [[(b7656, .cells ⟨[.slice p7658 x7654.Memory.length c7659, .slice p7663 x7654.Copy.length c7664, .slice p7668 x7654.Dirty.length c7669]⟩ 28 (0, 0))], sg7660, sg7665, sg7670]) x7672 p7674) {r : Int × (List Int) × (List Int) × (List Bool)} (hm : M.i_Copying_roundWith x7654 x7672 x7678 = some r) :
    Calls Try.prog 81 #[.pointer (some ⟨b7656, 0, none⟩), .slice p7674 x7672.length c7675, .int .i64 x7678] w fun e w' => ∃ (p7679 : Option Addr) (c7680 : Nat) (sg7681 : Seg), ∃ (p7682 : Option Addr) (c7683 : Nat) (sg7684 : Seg), ∃ (p7685 : Option Addr) (c7686 : Nat) (sg7687 : Seg), e = .returned (.int .i64 r.1) ∧ ownS encI r.2.1 p7679 c7680 sg7681 ∧ ownS encI r.2.2.1 p7682 c7683 sg7684 ∧ ownS encB r.2.2.2 p7685 c7686 sg7687 ∧ Mem (idsOf [[(b7656, .cells ⟨[.slice p7658 x7654.Memory.length c7659, .slice p7663 x7654.Copy.length c7664, .slice p7668 x7654.Dirty.length c7669]⟩ 28 (0, 0))], sg7660, sg7665, sg7670]) w w' [[(b7656, .cells ⟨[.slice p7679 r.2.1.length c7680, .slice p7682 r.2.2.1.length c7683, .slice p7685 r.2.2.2.length c7686]⟩ 28 (0, 0))], sg7681, sg7684, sg7687] := by
  unfold M.i_Copying_roundWith at hm
  refine C_enter Try.func81 rfl (by kernel_rfl) ?_
  have M0 := Mem.start' w [[(b7656, .cells ⟨[.slice p7658 x7654.Memory.length c7659, .slice p7663 x7654.Copy.length c7664, .slice p7668 x7654.Dirty.length c7669]⟩ 28 (0, 0))], sg7660, sg7665, sg7670] hA hN
  refine G_seq ?_
  refine G_region ?_
  refine W_run 1 [(0, .pointer (some ⟨b7656, 0, none⟩)), (1, .slice p7674 x7672.length c7675), (2, .int .i64 x7678)] w (by kernel_rfl) ?_
  refine W_nil ?_
  refine N_then ?_
  refine G_seq ?_
  refine G_region ?_
  refine W_run 2 [(0, .pointer (some ⟨b7656, 0, none⟩)), (1, .slice p7674 x7672.length c7675), (10, .pointer (some ⟨b7656, 0, none⟩)), (11, .int .i64 x7678)] w (by kernel_rfl) ?_
  obtain ⟨r7688, hr7688, hm⟩ := gx_bind hm
  refine W_call 75 #[.pointer (some ⟨b7656, 0, none⟩), .int .i64 x7678] (by kernel_rfl) (by kernel_rfl) ?_
  refine (c_i_Copying_round w x7654 p7658 c7659 sg7660 ho7661 p7663 c7664 sg7665 ho7666 p7668 c7669 sg7670 ho7671 b7656 x7678 (M0.hasPick [0, 1, 2, 3]) (M0.nodupPick [0, 1, 2, 3] (by kernel_rfl)) hr7688).mono ?_
  rintro e_ w7704 ⟨p7690, c7691, sg7692, p7695, c7696, sg7697, p7700, c7701, sg7702, rfl, ho7693, ho7698, ho7703, K7705⟩
  have M7706 := M0.callF' [0, 1, 2, 3] [] (by kernel_rfl) K7705
  refine ⟨_, rfl, ?_⟩
  refine W_run 1 [(0, .pointer (some ⟨b7656, 0, none⟩)), (1, .slice p7674 x7672.length c7675), (7, .int .i64 r7688.1)] w7704 (by kernel_rfl) ?_
  refine W_nil ?_
  refine N_then ?_
  refine G_seq ?_
  refine G_seq ?_
  refine G_region ?_
  refine W_run 3 [(0, .pointer (some ⟨b7656, 0, none⟩)), (7, .int .i64 r7688.1), (13, .slice p7674 x7672.length c7675), (14, .int .i64 (x7672.length : Int)), (15, .int .i64 0)] w7704 (by kernel_rfl) ?_
  refine W_nil ?_
  refine N_then ?_
  obtain ⟨out7783, hw7784, hmo7785⟩ := gx_bind hm
  refine G_meet (fun a w' => ∃ (p7802 : Option Addr), ∃ (c7803 : Nat), ∃ (sg7804 : Seg), ∃ (p7807 : Option Addr), ∃ (c7808 : Nat), ∃ (sg7809 : Seg), ∃ (p7812 : Option Addr), ∃ (c7813 : Nat), ∃ (sg7814 : Seg), ownS encI out7783.1 p7802 c7803 sg7804 ∧ ownS encI out7783.2.1 p7807 c7808 sg7809 ∧ ownS encB out7783.2.2 p7812 c7813 sg7814 ∧ Mem (idsOf [[(b7656, .cells ⟨[.slice p7658 x7654.Memory.length c7659, .slice p7663 x7654.Copy.length c7664, .slice p7668 x7654.Dirty.length c7669]⟩ 28 (0, 0))], sg7660, sg7665, sg7670]) w w' [[(b7656, .cells ⟨[.slice p7802 out7783.1.length c7803, .slice p7807 out7783.2.1.length c7808, .slice p7812 out7783.2.2.length c7813]⟩ 28 (0, 0))], sg7804, sg7809, sg7814] ∧ Sat Try.f81.ntmps [(7, .int .i64 r7688.1)] a) ?_ ?_
  · refine G_block ?_
    refine G_while (σ := Int × List Int × List Int × List Bool) (ρ := List Int × List Int × List Bool) (fun s7776 a w' => ∃ (p7786 : Option Addr), ∃ (c7787 : Nat), ∃ (sg7788 : Seg), ∃ (p7791 : Option Addr), ∃ (c7792 : Nat), ∃ (sg7793 : Seg), ∃ (p7796 : Option Addr), ∃ (c7797 : Nat), ∃ (sg7798 : Seg), ownS encI s7776.2.1 p7786 c7787 sg7788 ∧ ownS encI s7776.2.2.1 p7791 c7792 sg7793 ∧ ownS encB s7776.2.2.2 p7796 c7797 sg7798 ∧ Mem (idsOf [[(b7656, .cells ⟨[.slice p7658 x7654.Memory.length c7659, .slice p7663 x7654.Copy.length c7664, .slice p7668 x7654.Dirty.length c7669]⟩ 28 (0, 0))], sg7660, sg7665, sg7670]) w w' [[(b7656, .cells ⟨[.slice p7786 s7776.2.1.length c7787, .slice p7791 s7776.2.2.1.length c7792, .slice p7796 s7776.2.2.2.length c7797]⟩ 28 (0, 0))], sg7788, sg7793, sg7798] ∧ Sat Try.f81.ntmps [(0, .pointer (some ⟨b7656, 0, none⟩)), (7, .int .i64 r7688.1), (13, .slice p7674 x7672.length c7675), (14, .int .i64 (x7672.length : Int)), (15, .int .i64 s7776.1)] a) hw7784 (fun a ha => ⟨p7690, c7691, sg7692, p7695, c7696, sg7697, p7700, c7701, sg7702, ho7693, ho7698, ho7703, M7706.pick [0, 1, 2, 3] (by kernel_rfl), ha.sub (by kernel_rfl)⟩) ?_
    clear hm
    intro s7776 x7777 hm hout7778 a7779 w7780 ⟨p7786, c7787, sg7788, p7791, c7792, sg7793, p7796, c7797, sg7798, ho7789, ho7794, ho7799, M7781, hS7782⟩
    refine G_use hS7782 ?_
    refine G_seq ?_
    refine G_region ?_
    refine W_run 1 [(0, .pointer (some ⟨b7656, 0, none⟩)), (7, .int .i64 r7688.1), (13, .slice p7674 x7672.length c7675), (14, .int .i64 (x7672.length : Int)), (15, .int .i64 s7776.1), (16, .bool (decide (s7776.1 < (x7672.length : Int))))] w7780 (by kernel_rfl) ?_
    refine W_nil ?_
    refine N_then ?_
    refine G_seq ?_
    rcases gx_bif hm with ⟨hc7817, hm⟩ | ⟨hc7817, hm⟩
    · refine G_cond_t (b := (decide (s7776.1 < (x7672.length : Int)))) hc7817 (by kernel_rfl) ?_
      refine G_skip ?_
      refine N_then ?_
      refine G_seq ?_
      refine G_block ?_
      refine G_seq ?_
      refine G_region ?_
      obtain ⟨y7818, hy7818, hm⟩ := gx_bind hm
      refine W_val (elemP p7674 (s7776.1.toNat * 2)) w7780 (by kernel_rfl) (E_index (E := encStore) _ _ _ x7672.length c7675 .i64 s7776.1 2 (y := y7818) rfl (by kernel_rfl) (by kernel_rfl) (by kernel_rfl) (h7676.memX hap7677 M7781) rfl hy7818) ?_
      refine W_val (.agg #[.int .i64 y7818.Word, .int .i64 y7818.Value]) w7780 (by kernel_rfl) (E_loadE (E := encStore) _ _ true 2 s7776.1 0 (s7776.1.toNat * 2) y7818 (.agg #[.int .i64 y7818.Word, .int .i64 y7818.Value]) rfl (by kernel_rfl) (by kernel_rfl) (by kernel_rfl) (h7676.memX hap7677 M7781) hy7818 rfl) ?_
      refine W_new (fun b => .pointer (some ⟨b, 0, none⟩)) (.cells ⟨[.int .i64 0, .int .i64 0]⟩ 46 (0, 0)) M7781 rfl (by kernel_rfl) (by kernel_rfl) ?_
      intro b7820 w7821 M7822
      refine W_store _ _ _ true 2 b7820 0 [.int .i64 0, .int .i64 0] 46 (.agg #[.int .i64 y7818.Word, .int .i64 y7818.Value]) 4 [.int .i64 y7818.Word, .int .i64 y7818.Value] M7822 (by kernel_rfl) rfl (by kernel_rfl) (by kernel_rfl) (by kernel_rfl) (by kernel_rfl) (by kernel_rfl) (by kernel_rfl) (by kernel_rfl) (by kernel_rfl) ?_
      intro w7823 M7824
      refine W_nil ?_
      refine N_then ?_
      refine G_region ?_
      refine W_run 1 [(0, .pointer (some ⟨b7656, 0, none⟩)), (7, .int .i64 r7688.1), (9, .pointer (some ⟨b7820, 0, none⟩)), (13, .slice p7674 x7672.length c7675), (14, .int .i64 (x7672.length : Int)), (15, .int .i64 s7776.1), (19, .pointer (some ⟨b7656, 0, none⟩))] w7823 (by kernel_rfl) ?_
      refine W_val (.agg #[.int .i64 y7818.Word, .int .i64 y7818.Value]) w7823 (by kernel_rfl) (E_load (e := 46) (fr := (0, 0)) _ _ true 2 b7820 0 [.int .i64 y7818.Word, .int .i64 y7818.Value] (.agg #[.int .i64 y7818.Word, .int .i64 y7818.Value]) rfl (by kernel_rfl) (by kernel_rfl) (by kernel_rfl) (M7824.blk 4 (b := b7820) (o := .cells ⟨[.int .i64 y7818.Word, .int .i64 y7818.Value]⟩ 46 (0, 0)) (by kernel_rfl))) ?_
      obtain ⟨r7825, hr7825, hm⟩ := gx_bind hm
      refine W_call 72 #[.pointer (some ⟨b7656, 0, none⟩), .agg #[.int .i64 y7818.Word, .int .i64 y7818.Value]] (by kernel_rfl) (by kernel_rfl) ?_
      refine (c_i_Copying_store w7823 (⟨s7776.2.1, s7776.2.2.1, s7776.2.2.2⟩ : Copying) p7786 c7787 sg7788 ho7789 p7791 c7792 sg7793 ho7794 p7796 c7797 sg7798 ho7799 b7656 y7818 (M7824.hasPick [0, 1, 2, 3]) (M7824.nodupPick [0, 1, 2, 3] (by kernel_rfl)) hr7825).mono ?_
      rintro e_ w7841 ⟨p7827, c7828, sg7829, p7832, c7833, sg7834, p7837, c7838, sg7839, rfl, ho7830, ho7835, ho7840, K7842⟩
      have M7843 := M7824.callF' [0, 1, 2, 3] [4] (by kernel_rfl) K7842
      refine ⟨_, rfl, ?_⟩
      refine W_nil ?_
      refine N_block ?_
      refine N_then ?_
      refine G_region ?_
      refine W_run 2 [(0, .pointer (some ⟨b7656, 0, none⟩)), (7, .int .i64 r7688.1), (13, .slice p7674 x7672.length c7675), (14, .int .i64 (x7672.length : Int)), (15, .int .i64 (w64 (s7776.1 + 1)))] w7841 (by kernel_rfl) ?_
      refine W_nil ?_
      obtain rfl := Option.some.inj hm
      exact N_loop fun a ha => ⟨_, rfl, p7827, c7828, sg7829, p7832, c7833, sg7834, p7837, c7838, sg7839, ho7830, ho7835, ho7840, M7843.pick [1, 2, 3, 4] (by kernel_rfl), ha.sub (by kernel_rfl)⟩
    · refine G_cond_f (b := (decide (s7776.1 < (x7672.length : Int)))) hc7817 (by kernel_rfl) ?_
      refine G_exit ?_
      refine N_then_exit ?_
      refine N_then_exit ?_
      refine N_block_eq ?_
      obtain rfl := Option.some.inj hm
      obtain rfl := hout7778 _ rfl
      exact N_meet fun a ha => ⟨p7786, c7787, sg7788, p7791, c7792, sg7793, p7796, c7797, sg7798, ho7789, ho7794, ho7799, M7781.pick [0, 1, 2, 3] (by kernel_rfl), ha.sub (by kernel_rfl)⟩
  · intro a7844 w7845 ⟨p7802, c7803, sg7804, p7807, c7808, sg7809, p7812, c7813, sg7814, ho7805, ho7810, ho7815, M7846, hS7847⟩
    refine N_use hS7847 ?_
    have hm := hmo7785
    refine N_then ?_
    refine G_seq ?_
    refine G_region ?_
    refine W_run 2 [(6, .int .i64 r7688.1)] w7845 (by kernel_rfl) ?_
    refine W_nil ?_
    refine N_then ?_
    refine G_ret ?_
    obtain rfl := Option.some.inj hm
    refine N_ret [.int .i64 r7688.1] (RVs_cons (RV_tmp (by kernel_rfl)) RVs_nil) ?_
    exact ⟨p7802, c7803, sg7804, p7807, c7808, sg7809, p7812, c7813, sg7814, rfl, ho7805, ho7810, ho7815, M7846.pick [0, 1, 2, 3] (by kernel_rfl)⟩
theorem c_l_eqStore (w : World) (x7862 : Store) (x7863 : Store) {r : Bool} (hm : M.l_eqStore x7862 x7863 = some r) :
    Calls Try.prog 101 #[.agg #[.int .i64 x7862.Word, .int .i64 x7862.Value], .agg #[.int .i64 x7863.Word, .int .i64 x7863.Value]] w fun e w' => e = .returned (.bool r) ∧ Mem [] w w' [] := by
  unfold M.l_eqStore at hm
  refine C_enter Try.func101 rfl (by kernel_rfl) ?_
  have M0 := Mem.refl [] w
  refine G_seq ?_
  refine G_region ?_
  refine W_new (fun b => .pointer (some ⟨b, 0, none⟩)) (.cells ⟨[.int .i64 x7862.Word, .int .i64 x7862.Value]⟩ 46 (0, 0)) M0 rfl (by kernel_rfl) (by kernel_rfl) ?_
  intro b7865 w7866 M7867
  refine W_new (fun b => .pointer (some ⟨b, 0, none⟩)) (.cells ⟨[.int .i64 x7863.Word, .int .i64 x7863.Value]⟩ 46 (0, 0)) M7867 rfl (by kernel_rfl) (by kernel_rfl) ?_
  intro b7869 w7870 M7871
  refine W_run 1 [(2, .pointer (some ⟨b7865, 0, none⟩)), (3, .pointer (some ⟨b7869, 0, none⟩))] w7870 (by kernel_rfl) ?_
  refine W_nil ?_
  refine N_then ?_
  refine G_seq ?_
  refine G_seq ?_
  refine G_region ?_
  refine W_run 1 [(2, .pointer (some ⟨b7865, 0, none⟩)), (3, .pointer (some ⟨b7869, 0, none⟩)), (5, .pointer (some ⟨b7865, 0, none⟩))] w7870 (by kernel_rfl) ?_
  refine W_val (.int .i64 x7862.Word) w7870 (by kernel_rfl) (E_load (e := 46) (fr := (0, 0)) _ _ false 1 b7865 0 [.int .i64 x7862.Word, .int .i64 x7862.Value] (.int .i64 x7862.Word) rfl (by kernel_rfl) (by kernel_rfl) (by kernel_rfl) (M7871.blk 0 (b := b7865) (o := .cells ⟨[.int .i64 x7862.Word, .int .i64 x7862.Value]⟩ 46 (0, 0)) (by kernel_rfl))) ?_
  refine W_run 1 [(2, .pointer (some ⟨b7865, 0, none⟩)), (3, .pointer (some ⟨b7869, 0, none⟩)), (6, .int .i64 x7862.Word), (7, .pointer (some ⟨b7869, 0, none⟩))] w7870 (by kernel_rfl) ?_
  refine W_val (.int .i64 x7863.Word) w7870 (by kernel_rfl) (E_load (e := 46) (fr := (0, 0)) _ _ false 1 b7869 0 [.int .i64 x7863.Word, .int .i64 x7863.Value] (.int .i64 x7863.Word) rfl (by kernel_rfl) (by kernel_rfl) (by kernel_rfl) (M7871.blk 1 (b := b7869) (o := .cells ⟨[.int .i64 x7863.Word, .int .i64 x7863.Value]⟩ 46 (0, 0)) (by kernel_rfl))) ?_
  refine W_run 1 [(2, .pointer (some ⟨b7865, 0, none⟩)), (3, .pointer (some ⟨b7869, 0, none⟩)), (9, .bool (x7862.Word != x7863.Word))] w7870 (by kernel_rfl) ?_
  refine W_nil ?_
  refine N_then ?_
  rcases gx_bif hm with ⟨hc7872, hm⟩ | ⟨hc7872, hm⟩
  · refine G_cond_t (b := (x7862.Word != x7863.Word)) hc7872 (by kernel_rfl) ?_
    refine G_seq ?_
    refine G_region ?_
    refine W_run 1 [(4, .bool false)] w7870 (by kernel_rfl) ?_
    refine W_nil ?_
    refine N_then ?_
    refine G_ret ?_
    refine N_then_ret ?_
    obtain rfl := Option.some.inj hm
    refine N_ret [.bool false] (RVs_cons (RV_tmp (by kernel_rfl)) RVs_nil) ?_
    exact ⟨rfl, M7871.pick [] (by kernel_rfl)⟩
  · refine G_cond_f (b := (x7862.Word != x7863.Word)) hc7872 (by kernel_rfl) ?_
    refine G_skip ?_
    refine N_then ?_
    refine G_seq ?_
    refine G_seq ?_
    refine G_region ?_
    refine W_run 1 [(3, .pointer (some ⟨b7869, 0, none⟩)), (10, .pointer (some ⟨b7865, 1, none⟩))] w7870 (by kernel_rfl) ?_
    refine W_val (.int .i64 x7862.Value) w7870 (by kernel_rfl) (E_load (e := 46) (fr := (0, 0)) _ _ false 1 b7865 1 [.int .i64 x7862.Word, .int .i64 x7862.Value] (.int .i64 x7862.Value) rfl (by kernel_rfl) (by kernel_rfl) (by kernel_rfl) (M7871.blk 0 (b := b7865) (o := .cells ⟨[.int .i64 x7862.Word, .int .i64 x7862.Value]⟩ 46 (0, 0)) (by kernel_rfl))) ?_
    refine W_run 1 [(11, .int .i64 x7862.Value), (12, .pointer (some ⟨b7869, 1, none⟩))] w7870 (by kernel_rfl) ?_
    refine W_val (.int .i64 x7863.Value) w7870 (by kernel_rfl) (E_load (e := 46) (fr := (0, 0)) _ _ false 1 b7869 1 [.int .i64 x7863.Word, .int .i64 x7863.Value] (.int .i64 x7863.Value) rfl (by kernel_rfl) (by kernel_rfl) (by kernel_rfl) (M7871.blk 1 (b := b7869) (o := .cells ⟨[.int .i64 x7863.Word, .int .i64 x7863.Value]⟩ 46 (0, 0)) (by kernel_rfl))) ?_
    refine W_run 1 [(14, .bool (x7862.Value != x7863.Value))] w7870 (by kernel_rfl) ?_
    refine W_nil ?_
    refine N_then ?_
    rcases gx_bif hm with ⟨hc7873, hm⟩ | ⟨hc7873, hm⟩
    · refine G_cond_t (b := (x7862.Value != x7863.Value)) hc7873 (by kernel_rfl) ?_
      refine G_seq ?_
      refine G_region ?_
      refine W_run 1 [(4, .bool false)] w7870 (by kernel_rfl) ?_
      refine W_nil ?_
      refine N_then ?_
      refine G_ret ?_
      refine N_then_ret ?_
      obtain rfl := Option.some.inj hm
      refine N_ret [.bool false] (RVs_cons (RV_tmp (by kernel_rfl)) RVs_nil) ?_
      exact ⟨rfl, M7871.pick [] (by kernel_rfl)⟩
    · refine G_cond_f (b := (x7862.Value != x7863.Value)) hc7873 (by kernel_rfl) ?_
      refine G_skip ?_
      refine N_then ?_
      refine G_seq ?_
      refine G_region ?_
      refine W_run 1 [(4, .bool true)] w7870 (by kernel_rfl) ?_
      refine W_nil ?_
      refine N_then ?_
      refine G_ret ?_
      obtain rfl := Option.some.inj hm
      refine N_ret [.bool true] (RVs_cons (RV_tmp (by kernel_rfl)) RVs_nil) ?_
      exact ⟨rfl, M7871.pick [] (by kernel_rfl)⟩
theorem c_l_eqStoreS (w : World) (x7848 : List Store) (p7850 : Option Addr) (c7851 : Nat) (h7852 : rdS encStore w x7848 p7850 c7851) (x7853 : List Store) (p7855 : Option Addr) (c7856 : Nat) (h7857 : rdS encStore w x7853 p7855 c7856) {r : Bool} (hm : M.l_eqStoreS x7848 x7853 = some r) :
    Calls Try.prog 82 #[.slice p7850 x7848.length c7851, .slice p7855 x7853.length c7856] w fun e w' => e = .returned (.bool r) ∧ Mem [] w w' [] := by
  unfold M.l_eqStoreS at hm
  refine C_enter Try.func82 rfl (by kernel_rfl) ?_
  have M0 := Mem.refl [] w
  refine G_seq ?_
  refine G_region ?_
  refine W_run 1 [(0, .slice p7850 x7848.length c7851), (1, .slice p7855 x7853.length c7856)] w (by kernel_rfl) ?_
  refine W_nil ?_
  refine N_then ?_
  refine G_seq ?_
  refine G_seq ?_
  refine G_region ?_
  refine W_run 5 [(0, .slice p7850 x7848.length c7851), (1, .slice p7855 x7853.length c7856), (10, .bool ((x7848.length : Int) != (x7853.length : Int)))] w (by kernel_rfl) ?_
  refine W_nil ?_
  refine N_then ?_
  rcases gx_bif hm with ⟨hc7858, hm⟩ | ⟨hc7858, hm⟩
  · refine G_cond_t (b := ((x7848.length : Int) != (x7853.length : Int))) hc7858 (by kernel_rfl) ?_
    refine G_seq ?_
    refine G_region ?_
    refine W_run 1 [(4, .bool false)] w (by kernel_rfl) ?_
    refine W_nil ?_
    refine N_then ?_
    refine G_ret ?_
    refine N_then_ret ?_
    obtain rfl := Option.some.inj hm
    refine N_ret [.bool false] (RVs_cons (RV_tmp (by kernel_rfl)) RVs_nil) ?_
    exact ⟨rfl, M0.pick [] (by kernel_rfl)⟩
  · refine G_cond_f (b := ((x7848.length : Int) != (x7853.length : Int))) hc7858 (by kernel_rfl) ?_
    refine G_skip ?_
    refine N_then ?_
    refine G_seq ?_
    refine G_seq ?_
    refine G_region ?_
    refine W_run 1 [(0, .slice p7850 x7848.length c7851), (1, .slice p7855 x7853.length c7856), (5, .int .i64 0)] w (by kernel_rfl) ?_
    refine W_nil ?_
    refine N_then ?_
    obtain ⟨out7898, hw7899, hmo7900⟩ := gx_bind hm
    refine G_meet (fun a w' => ∃ (o7901 : Unit), out7898 = .inl o7901 ∧ Mem [] w w' [] ∧ Sat Try.f82.ntmps [] a) ?_ ?_
    · refine G_block ?_
      refine G_while (σ := Int) (ρ := (Unit) ⊕ (Bool)) (fun s7891 a w' => Mem [] w w' [] ∧ Sat Try.f82.ntmps [(0, .slice p7850 x7848.length c7851), (1, .slice p7855 x7853.length c7856), (5, .int .i64 s7891)] a) hw7899 (fun a ha => ⟨M0.pick [] (by kernel_rfl), ha.sub (by kernel_rfl)⟩) ?_
      clear hm
      intro s7891 x7892 hm hout7893 a7894 w7895 ⟨M7896, hS7897⟩
      refine G_use hS7897 ?_
      refine G_seq ?_
      refine G_seq ?_
      refine G_region ?_
      refine W_run 4 [(0, .slice p7850 x7848.length c7851), (1, .slice p7855 x7853.length c7856), (5, .int .i64 s7891), (14, .bool (decide (s7891 < (x7848.length : Int))))] w7895 (by kernel_rfl) ?_
      refine W_nil ?_
      refine N_then ?_
      rcases gx_bif hm with ⟨hc7902, hm⟩ | ⟨hc7902, hm⟩
      · refine G_cond_t (b := (decide (s7891 < (x7848.length : Int)))) hc7902 (by kernel_rfl) ?_
        refine G_skip ?_
        refine N_then ?_
        refine G_seq ?_
        refine G_block ?_
        refine G_seq ?_
        refine G_quiet (by kernel_rfl) (by kernel_rfl) M7896 ?_
        refine Z_runs [.slice p7850 x7848.length c7851, .int .i64 s7891] [(0, .slice p7850 x7848.length c7851), (1, .slice p7855 x7853.length c7856), (5, .int .i64 s7891), (17, .slice p7850 x7848.length c7851), (18, .int .i64 s7891)] (fun w_ => by kernel_rfl) (by kernel_rfl) ?_
        obtain ⟨y7903, hy7903, hm⟩ := gx_bind hm
        refine Z_val (elemP p7850 (s7891.toNat * 2)) (by kernel_rfl) (fun w_ M_ => (E_index (E := encStore) _ _ _ x7848.length c7851 .i64 s7891 2 (y := y7903) rfl (by kernel_rfl) (by kernel_rfl) (by kernel_rfl) (h7852.mem0 M_) rfl hy7903)) ?_
        refine Z_val (.agg #[.int .i64 y7903.Word, .int .i64 y7903.Value]) (by kernel_rfl) (fun w_ M_ => (E_loadE (E := encStore) _ _ true 2 s7891 0 (s7891.toNat * 2) y7903 (.agg #[.int .i64 y7903.Word, .int .i64 y7903.Value]) rfl (by kernel_rfl) (by kernel_rfl) (by kernel_rfl) (h7852.mem0 M_) hy7903 rfl)) ?_
        refine Z_runs [.slice p7855 x7853.length c7856, .int .i64 s7891] [(0, .slice p7850 x7848.length c7851), (1, .slice p7855 x7853.length c7856), (5, .int .i64 s7891), (20, .agg #[.int .i64 y7903.Word, .int .i64 y7903.Value]), (21, .slice p7855 x7853.length c7856), (22, .int .i64 s7891)] (fun w_ => by kernel_rfl) (by kernel_rfl) ?_
        obtain ⟨y7904, hy7904, hm⟩ := gx_bind hm
        refine Z_val (elemP p7855 (s7891.toNat * 2)) (by kernel_rfl) (fun w_ M_ => (E_index (E := encStore) _ _ _ x7853.length c7856 .i64 s7891 2 (y := y7904) rfl (by kernel_rfl) (by kernel_rfl) (by kernel_rfl) (h7857.mem0 M_) rfl hy7904)) ?_
        refine Z_val (.agg #[.int .i64 y7904.Word, .int .i64 y7904.Value]) (by kernel_rfl) (fun w_ M_ => (E_loadE (E := encStore) _ _ true 2 s7891 0 (s7891.toNat * 2) y7904 (.agg #[.int .i64 y7904.Word, .int .i64 y7904.Value]) rfl (by kernel_rfl) (by kernel_rfl) (by kernel_rfl) (h7857.mem0 M_) hy7904 rfl)) ?_
        obtain ⟨r7905, hr7905, hm⟩ := gx_bind hm
        refine Z_call 101 #[.agg #[.int .i64 y7903.Word, .int .i64 y7903.Value], .agg #[.int .i64 y7904.Word, .int .i64 y7904.Value]] (.bool r7905) (by kernel_rfl) (fun w_ => by kernel_rfl) (fun w_ M_ => (c_l_eqStore w_ y7903 y7904 hr7905).mono fun e w2_ h_ => ⟨h_.1, M_.call0 h_.2⟩) ?_
        refine Z_runs [.bool (!r7905)] [(0, .slice p7850 x7848.length c7851), (1, .slice p7855 x7853.length c7856), (5, .int .i64 s7891), (26, .bool (!r7905))] (fun w_ => by kernel_rfl) (by kernel_rfl) ?_
        refine Z_end fun w7909 M7910 => ?_
        refine N_then ?_
        rcases gx_bif hm with ⟨hc7911, hm⟩ | ⟨hc7911, hm⟩
        · refine G_cond_t (b := (!r7905)) hc7911 (by kernel_rfl) ?_
          refine G_seq ?_
          refine G_region ?_
          refine W_run 1 [(4, .bool false)] w7909 (by kernel_rfl) ?_
          refine W_nil ?_
          refine N_then ?_
          refine G_ret ?_
          refine N_block_ret ?_
          refine N_then_ret ?_
          refine N_then_ret ?_
          obtain rfl := Option.some.inj hm
          obtain rfl := hout7893 _ rfl
          have hm := hmo7900; simp only [Sum.elim_inr] at hm
          refine N_block_ret ?_
          refine N_meet_ret ?_
          refine N_then_ret ?_
          obtain rfl := Option.some.inj hm
          refine N_ret [.bool false] (RVs_cons (RV_tmp (by kernel_rfl)) RVs_nil) ?_
          exact ⟨rfl, M7910.pick [] (by kernel_rfl)⟩
        · refine G_cond_f (b := (!r7905)) hc7911 (by kernel_rfl) ?_
          refine G_skip ?_
          refine N_block ?_
          refine N_then ?_
          refine G_region ?_
          refine W_run 3 [(0, .slice p7850 x7848.length c7851), (1, .slice p7855 x7853.length c7856), (5, .int .i64 (w64 (s7891 + 1)))] w7909 (by kernel_rfl) ?_
          refine W_nil ?_
          obtain rfl := Option.some.inj hm
          exact N_loop fun a ha => ⟨_, rfl, M7910.pick [] (by kernel_rfl), ha.sub (by kernel_rfl)⟩
      · refine G_cond_f (b := (decide (s7891 < (x7848.length : Int)))) hc7902 (by kernel_rfl) ?_
        refine G_exit ?_
        refine N_then_exit ?_
        refine N_then_exit ?_
        refine N_block_eq ?_
        obtain rfl := Option.some.inj hm
        obtain rfl := hout7893 _ rfl
        exact N_meet fun a ha => ⟨_, rfl, M7896.pick [] (by kernel_rfl), ha.sub (by kernel_rfl)⟩
    · intro a7912 w7913 ⟨o7901, hout_, M7914, hS7915⟩
      refine N_use hS7915 ?_
      subst hout_
      have hm := hmo7900; simp only [Sum.elim_inl] at hm
      refine N_then ?_
      refine G_seq ?_
      refine G_region ?_
      refine W_run 1 [(4, .bool true)] w7913 (by kernel_rfl) ?_
      refine W_nil ?_
      refine N_then ?_
      refine G_ret ?_
      obtain rfl := Option.some.inj hm
      refine N_ret [.bool true] (RVs_cons (RV_tmp (by kernel_rfl)) RVs_nil) ?_
      exact ⟨rfl, M7914.pick [] (by kernel_rfl)⟩
end Go.Proofs.Ytjbblcdajdpfkaa
