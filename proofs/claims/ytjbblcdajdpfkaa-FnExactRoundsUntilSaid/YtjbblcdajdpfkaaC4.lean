/- The walks, printed by program: whenever the model gives r, the call returns r. Part 4. -/
import Derived.Test.YtjbblcdajdpfkaaM
import Derived.Test.YtjbblcdajdpfkaaProg
import Derived.Test.YtjbblcdajdpfkaaC3
set_option linter.unusedVariables false
set_option maxRecDepth 100000
set_option maxHeartbeats 4000000
namespace Go.Proofs.Ytjbblcdajdpfkaa
open Go.Gx
theorem c_i_Copying_round (w : World) (x4847 : Copying) (p4851 : Option Addr) (c4852 : Nat) (sg4853 : Seg) (ho4854 : ownS encI x4847.Memory p4851 c4852 sg4853) (p4856 : Option Addr) (c4857 : Nat) (sg4858 : Seg) (ho4859 : ownS encI x4847.Copy p4856 c4857 sg4858) (p4861 : Option Addr) (c4862 : Nat) (sg4863 : Seg) (ho4864 : ownS encB x4847.Dirty p4861 c4862 sg4863) (b4849 : Nat) (x4865 : Int) (hA : ∀ q ∈ List.flatten [[(b4849, .cells ⟨[.slice p4851 x4847.Memory.length c4852, .slice p4856 x4847.Copy.length c4857, .slice p4861 x4847.Dirty.length c4862]⟩ 28 (0, 0))], sg4853, sg4858, sg4863], w.heap[q.1]? = some q.2) (hN : (idsOf [[(b4849, .cells ⟨[.slice p4851 x4847.Memory.length c4852, .slice p4856 x4847.Copy.length c4857, .slice p4861 x4847.Dirty.length c4862]⟩ 28 (0, 0))], sg4853, sg4858, sg4863]).Nodup) {r : Int × (List Int) × (List Int) × (List Bool)} (hm : M.i_Copying_round x4847 x4865 = some r) :
    Calls Try.prog 75 #[.pointer (some ⟨b4849, 0, none⟩), .int .i64 x4865] w fun e w' => ∃ (p4866 : Option Addr) (c4867 : Nat) (sg4868 : Seg), ∃ (p4869 : Option Addr) (c4870 : Nat) (sg4871 : Seg), ∃ (p4872 : Option Addr) (c4873 : Nat) (sg4874 : Seg), e = .returned (.int .i64 r.1) ∧ ownS encI r.2.1 p4866 c4867 sg4868 ∧ ownS encI r.2.2.1 p4869 c4870 sg4871 ∧ ownS encB r.2.2.2 p4872 c4873 sg4874 ∧ Mem (idsOf [[(b4849, .cells ⟨[.slice p4851 x4847.Memory.length c4852, .slice p4856 x4847.Copy.length c4857, .slice p4861 x4847.Dirty.length c4862]⟩ 28 (0, 0))], sg4853, sg4858, sg4863]) w w' [[(b4849, .cells ⟨[.slice p4866 r.2.1.length c4867, .slice p4869 r.2.2.1.length c4870, .slice p4872 r.2.2.2.length c4873]⟩ 28 (0, 0))], sg4868, sg4871, sg4874] := by
  unfold M.i_Copying_round at hm
  refine C_enter Try.func75 rfl (by kernel_rfl) ?_
  have M0 := Mem.start' w [[(b4849, .cells ⟨[.slice p4851 x4847.Memory.length c4852, .slice p4856 x4847.Copy.length c4857, .slice p4861 x4847.Dirty.length c4862]⟩ 28 (0, 0))], sg4853, sg4858, sg4863] hA hN
  refine G_seq ?_
  refine G_region ?_
  refine W_run 1 [(0, .pointer (some ⟨b4849, 0, none⟩)), (1, .int .i64 x4865)] w (by kernel_rfl) ?_
  refine W_nil ?_
  refine N_then ?_
  refine G_seq ?_
  refine G_region ?_
  refine W_run 1 [(0, .pointer (some ⟨b4849, 0, none⟩)), (1, .int .i64 x4865), (5, .int .i64 0)] w (by kernel_rfl) ?_
  refine W_nil ?_
  refine N_then ?_
  refine G_seq ?_
  refine G_seq ?_
  refine G_region ?_
  refine W_run 3 [(0, .pointer (some ⟨b4849, 0, none⟩)), (1, .int .i64 x4865), (5, .int .i64 0), (10, .pointer (some ⟨b4849, 2, none⟩))] w (by kernel_rfl) ?_
  refine W_val (.slice p4861 x4847.Dirty.length c4862) w (by kernel_rfl) (E_load (e := 28) (fr := (0, 0)) _ _ false 1 b4849 2 [.slice p4851 x4847.Memory.length c4852, .slice p4856 x4847.Copy.length c4857, .slice p4861 x4847.Dirty.length c4862] (.slice p4861 x4847.Dirty.length c4862) rfl (by kernel_rfl) (by kernel_rfl) (by kernel_rfl) (M0.blk 0 (b := b4849) (o := .cells ⟨[.slice p4851 x4847.Memory.length c4852, .slice p4856 x4847.Copy.length c4857, .slice p4861 x4847.Dirty.length c4862]⟩ 28 (0, 0)) (by kernel_rfl))) ?_
  refine W_run 2 [(0, .pointer (some ⟨b4849, 0, none⟩)), (1, .int .i64 x4865), (5, .int .i64 0), (11, .slice p4861 x4847.Dirty.length c4862), (12, .int .i64 (x4847.Dirty.length : Int)), (13, .int .i64 0)] w (by kernel_rfl) ?_
  refine W_nil ?_
  refine N_then ?_
  obtain ⟨out5310, hw5311, hmo5312⟩ := gx_bind hm
  refine G_meet (fun a w' => ∃ (sg5318 : Seg), ∃ (sg5320 : Seg), ownS encI out5310.2.1 p4856 c4857 sg5318 ∧ ownS encB out5310.2.2 p4861 c4862 sg5320 ∧ Mem (idsOf [[(b4849, .cells ⟨[.slice p4851 x4847.Memory.length c4852, .slice p4856 x4847.Copy.length c4857, .slice p4861 x4847.Dirty.length c4862]⟩ 28 (0, 0))], sg4853, sg4858, sg4863]) w w' [[(b4849, .cells ⟨[.slice p4851 x4847.Memory.length c4852, .slice p4856 out5310.2.1.length c4857, .slice p4861 out5310.2.2.length c4862]⟩ 28 (0, 0))], sg4853, sg5318, sg5320] ∧ Sat Try.f75.ntmps [(5, .int .i64 out5310.1)] a) ?_ ?_
  · refine G_block ?_
    refine G_while (σ := Int × Int × List Int × List Bool) (ρ := Int × List Int × List Bool) (fun s5303 a w' => ∃ (sg5313 : Seg), ∃ (sg5315 : Seg), ownS encI s5303.2.2.1 p4856 c4857 sg5313 ∧ ownS encB s5303.2.2.2 p4861 c4862 sg5315 ∧ Mem (idsOf [[(b4849, .cells ⟨[.slice p4851 x4847.Memory.length c4852, .slice p4856 x4847.Copy.length c4857, .slice p4861 x4847.Dirty.length c4862]⟩ 28 (0, 0))], sg4853, sg4858, sg4863]) w w' [[(b4849, .cells ⟨[.slice p4851 x4847.Memory.length c4852, .slice p4856 s5303.2.2.1.length c4857, .slice p4861 s5303.2.2.2.length c4862]⟩ 28 (0, 0))], sg4853, sg5313, sg5315] ∧ Sat Try.f75.ntmps [(0, .pointer (some ⟨b4849, 0, none⟩)), (1, .int .i64 x4865), (5, .int .i64 s5303.1), (11, .slice p4861 s5303.2.2.2.length c4862), (12, .int .i64 (x4847.Dirty.length : Int)), (13, .int .i64 s5303.2.1)] a) hw5311 (fun a ha => ⟨sg4858, sg4863, ho4859, ho4864, M0.pick [0, 1, 2, 3] (by kernel_rfl), ha.sub (by kernel_rfl)⟩) ?_
    clear hm
    intro s5303 x5304 hm hout5305 a5306 w5307 ⟨sg5313, sg5315, ho5314, ho5316, M5308, hS5309⟩
    refine G_use hS5309 ?_
    refine G_seq ?_
    refine G_region ?_
    refine W_run 1 [(0, .pointer (some ⟨b4849, 0, none⟩)), (1, .int .i64 x4865), (5, .int .i64 s5303.1), (11, .slice p4861 s5303.2.2.2.length c4862), (12, .int .i64 (x4847.Dirty.length : Int)), (13, .int .i64 s5303.2.1), (14, .bool (decide (s5303.2.1 < (x4847.Dirty.length : Int))))] w5307 (by kernel_rfl) ?_
    refine W_nil ?_
    refine N_then ?_
    refine G_seq ?_
    rcases gx_bif hm with ⟨hc5322, hm⟩ | ⟨hc5322, hm⟩
    · refine G_cond_t (b := (decide (s5303.2.1 < (x4847.Dirty.length : Int)))) hc5322 (by kernel_rfl) ?_
      refine G_skip ?_
      refine N_then ?_
      refine G_seq ?_
      refine G_block ?_
      refine G_seq ?_
      refine G_region ?_
      refine W_run 1 [(0, .pointer (some ⟨b4849, 0, none⟩)), (1, .int .i64 x4865), (5, .int .i64 s5303.1), (11, .slice p4861 s5303.2.2.2.length c4862), (12, .int .i64 (x4847.Dirty.length : Int)), (13, .int .i64 s5303.2.1), (15, .int .i64 s5303.2.1)] w5307 (by kernel_rfl) ?_
      obtain ⟨y5323, hy5323, hm⟩ := gx_bind hm
      refine W_val (elemP p4861 (s5303.2.1.toNat * 1)) w5307 (by kernel_rfl) (E_index (E := encB) _ _ _ s5303.2.2.2.length c4862 .i64 s5303.2.1 1 (y := y5323) rfl (by kernel_rfl) (by kernel_rfl) (by kernel_rfl) (ho5316.rd M5308 3 (by kernel_rfl)) rfl hy5323) ?_
      refine W_val (.bool y5323) w5307 (by kernel_rfl) (E_loadE (E := encB) _ _ false 1 s5303.2.1 0 (s5303.2.1.toNat * 1) y5323 (.bool y5323) rfl (by kernel_rfl) (by kernel_rfl) (by kernel_rfl) (ho5316.rd M5308 3 (by kernel_rfl)) hy5323 rfl) ?_
      refine W_run 2 [(0, .pointer (some ⟨b4849, 0, none⟩)), (1, .int .i64 x4865), (5, .int .i64 s5303.1), (6, .int .i64 s5303.2.1), (7, .bool y5323), (11, .slice p4861 s5303.2.2.2.length c4862), (12, .int .i64 (x4847.Dirty.length : Int)), (13, .int .i64 s5303.2.1)] w5307 (by kernel_rfl) ?_
      refine W_nil ?_
      refine N_then ?_
      refine G_seq ?_
      obtain ⟨o5325, ho5326, hm5327⟩ := gx_bind hm
      refine G_meet (fun a w' => Mem (idsOf [[(b4849, .cells ⟨[.slice p4851 x4847.Memory.length c4852, .slice p4856 x4847.Copy.length c4857, .slice p4861 x4847.Dirty.length c4862]⟩ 28 (0, 0))], sg4853, sg4858, sg4863]) w w' [[(b4849, .cells ⟨[.slice p4851 x4847.Memory.length c4852, .slice p4856 s5303.2.2.1.length c4857, .slice p4861 s5303.2.2.2.length c4862]⟩ 28 (0, 0))], sg4853, sg5313, sg5315] ∧ Sat Try.f75.ntmps [(0, .pointer (some ⟨b4849, 0, none⟩)), (1, .int .i64 x4865), (5, .int .i64 s5303.1), (6, .int .i64 s5303.2.1), (11, .slice p4861 s5303.2.2.2.length c4862), (12, .int .i64 (x4847.Dirty.length : Int)), (13, .int .i64 s5303.2.1), (23, .bool o5325)] a) ?_ ?_
      · have hm := ho5326
        refine G_region ?_
        refine W_run 2 [(0, .pointer (some ⟨b4849, 0, none⟩)), (1, .int .i64 x4865), (5, .int .i64 s5303.1), (6, .int .i64 s5303.2.1), (11, .slice p4861 s5303.2.2.2.length c4862), (12, .int .i64 (x4847.Dirty.length : Int)), (13, .int .i64 s5303.2.1), (19, .bool y5323)] w5307 (by kernel_rfl) ?_
        rcases gx_bif hm with ⟨hc5328, hm⟩ | ⟨hc5328, hm⟩
        · refine W_known 19 true (by kernel_rfl) hc5328 ?_
          refine W_run 4 [(0, .pointer (some ⟨b4849, 0, none⟩)), (1, .int .i64 x4865), (5, .int .i64 s5303.1), (6, .int .i64 s5303.2.1), (11, .slice p4861 s5303.2.2.2.length c4862), (12, .int .i64 (x4847.Dirty.length : Int)), (13, .int .i64 s5303.2.1), (23, .bool (decide (s5303.1 < x4865)))] w5307 (by kernel_rfl) ?_
          refine W_nil ?_
          obtain rfl := Option.some.inj hm
          exact N_meet fun a ha => ⟨M5308.pick [0, 1, 2, 3] (by kernel_rfl), ha.sub (by kernel_rfl)⟩
        · refine W_known 19 false (by kernel_rfl) hc5328 ?_
          refine W_run 4 [(0, .pointer (some ⟨b4849, 0, none⟩)), (1, .int .i64 x4865), (5, .int .i64 s5303.1), (6, .int .i64 s5303.2.1), (11, .slice p4861 s5303.2.2.2.length c4862), (12, .int .i64 (x4847.Dirty.length : Int)), (13, .int .i64 s5303.2.1), (23, .bool false)] w5307 (by kernel_rfl) ?_
          refine W_nil ?_
          obtain rfl := Option.some.inj hm
          exact N_meet fun a ha => ⟨M5308.pick [0, 1, 2, 3] (by kernel_rfl), ha.sub (by kernel_rfl)⟩
      · intro a5331 w5329 ⟨M5330, hS5332⟩
        refine N_use hS5332 ?_
        have hm := hm5327
        refine N_then ?_
        obtain ⟨o5428, ho5429, hm5430⟩ := gx_bind hm
        refine G_meet (fun a w' => ∃ (sg5431 : Seg), ∃ (sg5433 : Seg), ownS encI o5428.2.1 p4856 c4857 sg5431 ∧ ownS encB o5428.2.2 p4861 c4862 sg5433 ∧ Mem (idsOf [[(b4849, .cells ⟨[.slice p4851 x4847.Memory.length c4852, .slice p4856 x4847.Copy.length c4857, .slice p4861 x4847.Dirty.length c4862]⟩ 28 (0, 0))], sg4853, sg4858, sg4863]) w w' [[(b4849, .cells ⟨[.slice p4851 x4847.Memory.length c4852, .slice p4856 o5428.2.1.length c4857, .slice p4861 o5428.2.2.length c4862]⟩ 28 (0, 0))], sg4853, sg5431, sg5433] ∧ Sat Try.f75.ntmps [(0, .pointer (some ⟨b4849, 0, none⟩)), (1, .int .i64 x4865), (5, .int .i64 o5428.1), (11, .slice p4861 o5428.2.2.length c4862), (12, .int .i64 (x4847.Dirty.length : Int)), (13, .int .i64 s5303.2.1)] a) ?_ ?_
        · have hm := ho5429
          rcases gx_bif hm with ⟨hc5435, hm⟩ | ⟨hc5435, hm⟩
          · refine G_cond_t (b := o5325) hc5435 (by kernel_rfl) ?_
            refine G_seq ?_
            obtain ⟨y5438, hy5438, hm⟩ := gx_bind hm
            obtain ⟨y5439, hy5439, hm⟩ := gx_bind hm
            have M5441 : Mem (idsOf [[(b4849, .cells ⟨[.slice p4851 x4847.Memory.length c4852, .slice p4856 x4847.Copy.length c4857, .slice p4861 x4847.Dirty.length c4862]⟩ 28 (0, 0))], sg4853, sg4858, sg4863]) w w5329 ([[(b4849, .cells ⟨[.slice p4851 x4847.Memory.length c4852, .slice p4856 s5303.2.2.1.length c4857, .slice p4861 s5303.2.2.2.length c4862]⟩ 28 (0, 0))], sg4853, sg5315] ++ (List.range 19).map (fun i => ([[], [], [], [], [], [], [], [], [], [], [], [], [], [], [], [], [], [], sg5313] : List Seg).getD i [])) := M5330.pick [0, 1, 3, 300000, 300001, 300002, 300003, 300004, 300005, 300006, 300007, 300008, 300009, 300010, 300011, 300012, 300013, 300014, 300015, 300016, 300017, 2] (by kernel_rfl)
            refine G_sub [(0, .pointer (some ⟨b4849, 0, none⟩)), (1, .int .i64 x4865), (5, .int .i64 s5303.1), (6, .int .i64 s5303.2.1), (11, .slice p4861 s5303.2.2.2.length c4862), (12, .int .i64 (x4847.Dirty.length : Int)), (13, .int .i64 s5303.2.1), (23, .bool o5325)] (by kernel_rfl) ?_
            refine G_dagL 19 [[], [0], [1], [2], [], [], [5], [6], [7], [], [], [10], [11], [12], [], [13, 14], [15], [3, 4], [16, 17]] [[], [], [], [], [], [], [], [], [], [], [], [], [], [], [], [], [], [], []] [[], [], [], [], [], [], [], [], [], [], [], [], [], [], [], [], [], [], []] [[], [], [], [], [], [], [], [], [], [], [], [], [], [], [], [], [], [], []] [[], [], [], [], [], [], [], [], [], [], [], [], [], [], [], [], [], [], []] [[], [], [], [], [], [], [], [], [], [], [], [], [], [], [], [], [], [18], []] (fun i => ([[], [], [], [], [], [], [], [], [], [], [], [], [], [], [], [], [], [], sg5313] : List Seg).getD i []) (fun i => ([fun f v s => v = (.pointer (some ⟨b4849, 0, none⟩) : Value) ∧ s = [], fun f v s => v = (.pointer (some ⟨b4849, 0, none⟩) : Value) ∧ s = [], fun f v s => v = (.pointer (some ⟨b4849, 1, none⟩) : Value) ∧ s = [], fun f v s => v = (.slice p4856 s5303.2.2.1.length c4857 : Value) ∧ s = [], fun f v s => v = (.int .i64 s5303.2.1 : Value) ∧ s = [], fun f v s => v = (.pointer (some ⟨b4849, 0, none⟩) : Value) ∧ s = [], fun f v s => v = (.pointer (some ⟨b4849, 0, none⟩) : Value) ∧ s = [], fun f v s => v = (.pointer (some ⟨b4849, 2, none⟩) : Value) ∧ s = [], fun f v s => v = (.slice p4861 s5303.2.2.2.length c4862 : Value) ∧ s = [], fun f v s => v = (.int .i64 s5303.2.1 : Value) ∧ s = [], fun f v s => v = (.pointer (some ⟨b4849, 0, none⟩) : Value) ∧ s = [], fun f v s => v = (.pointer (some ⟨b4849, 0, none⟩) : Value) ∧ s = [], fun f v s => v = (.pointer (some ⟨b4849, 0, none⟩) : Value) ∧ s = [], fun f v s => v = (.slice p4851 x4847.Memory.length c4852 : Value) ∧ s = [], fun f v s => v = (.int .i64 s5303.2.1 : Value) ∧ s = [], fun f v s => v = (elemP p4851 (s5303.2.1.toNat * 1) : Value) ∧ s = [], fun f v s => v = (.int .i64 y5438 : Value) ∧ s = [], fun f v s => v = (elemP p4856 (s5303.2.1.toNat * 1) : Value) ∧ s = [], fun f v s => v = undef ∧ ownS encI (s5303.2.2.1.set s5303.2.1.toNat y5438) p4856 c4857 s] : List ((Nat → Value) → Value → Seg → Prop)).getD i (fun _ _ _ => False)) (fun j f v => ∃ s, (fun i => ([fun f v s => v = (.pointer (some ⟨b4849, 0, none⟩) : Value) ∧ s = [], fun f v s => v = (.pointer (some ⟨b4849, 0, none⟩) : Value) ∧ s = [], fun f v s => v = (.pointer (some ⟨b4849, 1, none⟩) : Value) ∧ s = [], fun f v s => v = (.slice p4856 s5303.2.2.1.length c4857 : Value) ∧ s = [], fun f v s => v = (.int .i64 s5303.2.1 : Value) ∧ s = [], fun f v s => v = (.pointer (some ⟨b4849, 0, none⟩) : Value) ∧ s = [], fun f v s => v = (.pointer (some ⟨b4849, 0, none⟩) : Value) ∧ s = [], fun f v s => v = (.pointer (some ⟨b4849, 2, none⟩) : Value) ∧ s = [], fun f v s => v = (.slice p4861 s5303.2.2.2.length c4862 : Value) ∧ s = [], fun f v s => v = (.int .i64 s5303.2.1 : Value) ∧ s = [], fun f v s => v = (.pointer (some ⟨b4849, 0, none⟩) : Value) ∧ s = [], fun f v s => v = (.pointer (some ⟨b4849, 0, none⟩) : Value) ∧ s = [], fun f v s => v = (.pointer (some ⟨b4849, 0, none⟩) : Value) ∧ s = [], fun f v s => v = (.slice p4851 x4847.Memory.length c4852 : Value) ∧ s = [], fun f v s => v = (.int .i64 s5303.2.1 : Value) ∧ s = [], fun f v s => v = (elemP p4851 (s5303.2.1.toNat * 1) : Value) ∧ s = [], fun f v s => v = (.int .i64 y5438 : Value) ∧ s = [], fun f v s => v = (elemP p4856 (s5303.2.1.toNat * 1) : Value) ∧ s = [], fun f v s => v = undef ∧ ownS encI (s5303.2.2.1.set s5303.2.1.toNat y5438) p4856 c4857 s] : List ((Nat → Value) → Value → Seg → Prop)).getD i (fun _ _ _ => False)) j f v s) [] [8, 9, 18] [18] (fun _ _ _ s h => ⟨s, h⟩) (by kernel_rfl) (by kernel_rfl) M5441 (by kernel_rfl) (by kernel_rfl) (by kernel_rfl) (by kernel_rfl) (allOb_cons ?_ (allOb_cons ?_ (allOb_cons ?_ (allOb_cons ?_ (allOb_cons ?_ (allOb_cons ?_ (allOb_cons ?_ (allOb_cons ?_ (allOb_cons ?_ (allOb_cons ?_ (allOb_cons ?_ (allOb_cons ?_ (allOb_cons ?_ (allOb_cons ?_ (allOb_cons ?_ (allOb_cons ?_ (allOb_cons ?_ (allOb_cons ?_ (allOb_cons ?_ allOb_nil))))))))))))))))))) ?_
            · intro g5436 f5437
              intro R w5442 M5443
              refine W_run 1 [(24, .pointer (some ⟨b4849, 0, none⟩))] w5442 (by kernel_rfl) ?_
              exact W_nil (ob_end (.pointer (some ⟨b4849, 0, none⟩)) [] rfl (by kernel_rfl) ⟨by kernel_rfl, rfl⟩ M5443)
            · intro g5436 f5437
              intro v0_ hb0_
              obtain ⟨rfl, _⟩ := hb0_
              intro R w5446 M5447
              refine W_run 1 [(25, .pointer (some ⟨b4849, 0, none⟩))] w5446 (by kernel_rfl) ?_
              exact W_nil (ob_end (.pointer (some ⟨b4849, 0, none⟩)) [] rfl (by kernel_rfl) ⟨by kernel_rfl, rfl⟩ M5447)
            · intro g5436 f5437
              intro v1_ hb1_
              obtain ⟨rfl, _⟩ := hb1_
              intro R w5450 M5451
              refine W_run 1 [(26, .pointer (some ⟨b4849, 1, none⟩))] w5450 (by kernel_rfl) ?_
              exact W_nil (ob_end (.pointer (some ⟨b4849, 1, none⟩)) [] rfl (by kernel_rfl) ⟨by kernel_rfl, rfl⟩ M5451)
            · intro g5436 f5437
              intro v2_ hb2_
              obtain ⟨rfl, _⟩ := hb2_
              intro R w5454 M5455
              refine W_val (.slice p4856 s5303.2.2.1.length c4857) w5454 (by kernel_rfl) (E_load (e := 28) (fr := (0, 0)) _ _ false 1 b4849 1 [.slice p4851 x4847.Memory.length c4852, .slice p4856 s5303.2.2.1.length c4857, .slice p4861 s5303.2.2.2.length c4862] (.slice p4856 s5303.2.2.1.length c4857) rfl (by kernel_rfl) (by kernel_rfl) (by kernel_rfl) (M5455.blk 0 (b := b4849) (o := .cells ⟨[.slice p4851 x4847.Memory.length c4852, .slice p4856 s5303.2.2.1.length c4857, .slice p4861 s5303.2.2.2.length c4862]⟩ 28 (0, 0)) (by kernel_rfl))) ?_
              exact W_nil (ob_end (.slice p4856 s5303.2.2.1.length c4857) [] rfl (by kernel_rfl) ⟨by kernel_rfl, rfl⟩ M5455)
            · intro g5436 f5437
              intro R w5458 M5459
              refine W_run 1 [(28, .int .i64 s5303.2.1)] w5458 (by kernel_rfl) ?_
              exact W_nil (ob_end (.int .i64 s5303.2.1) [] rfl (by kernel_rfl) ⟨by kernel_rfl, rfl⟩ M5459)
            · intro g5436 f5437
              intro R w5462 M5463
              refine W_run 1 [(29, .pointer (some ⟨b4849, 0, none⟩))] w5462 (by kernel_rfl) ?_
              exact W_nil (ob_end (.pointer (some ⟨b4849, 0, none⟩)) [] rfl (by kernel_rfl) ⟨by kernel_rfl, rfl⟩ M5463)
            · intro g5436 f5437
              intro v5_ hb5_
              obtain ⟨rfl, _⟩ := hb5_
              intro R w5466 M5467
              refine W_run 1 [(30, .pointer (some ⟨b4849, 0, none⟩))] w5466 (by kernel_rfl) ?_
              exact W_nil (ob_end (.pointer (some ⟨b4849, 0, none⟩)) [] rfl (by kernel_rfl) ⟨by kernel_rfl, rfl⟩ M5467)
            · intro g5436 f5437
              intro v6_ hb6_
              obtain ⟨rfl, _⟩ := hb6_
              intro R w5470 M5471
              refine W_run 1 [(31, .pointer (some ⟨b4849, 2, none⟩))] w5470 (by kernel_rfl) ?_
              exact W_nil (ob_end (.pointer (some ⟨b4849, 2, none⟩)) [] rfl (by kernel_rfl) ⟨by kernel_rfl, rfl⟩ M5471)
            · intro g5436 f5437
              intro v7_ hb7_
              obtain ⟨rfl, _⟩ := hb7_
              intro R w5474 M5475
              refine W_val (.slice p4861 s5303.2.2.2.length c4862) w5474 (by kernel_rfl) (E_load (e := 28) (fr := (0, 0)) _ _ false 1 b4849 2 [.slice p4851 x4847.Memory.length c4852, .slice p4856 s5303.2.2.1.length c4857, .slice p4861 s5303.2.2.2.length c4862] (.slice p4861 s5303.2.2.2.length c4862) rfl (by kernel_rfl) (by kernel_rfl) (by kernel_rfl) (M5475.blk 0 (b := b4849) (o := .cells ⟨[.slice p4851 x4847.Memory.length c4852, .slice p4856 s5303.2.2.1.length c4857, .slice p4861 s5303.2.2.2.length c4862]⟩ 28 (0, 0)) (by kernel_rfl))) ?_
              exact W_nil (ob_end (.slice p4861 s5303.2.2.2.length c4862) [] rfl (by kernel_rfl) ⟨by kernel_rfl, rfl⟩ M5475)
            · intro g5436 f5437
              intro R w5478 M5479
              refine W_run 1 [(33, .int .i64 s5303.2.1)] w5478 (by kernel_rfl) ?_
              exact W_nil (ob_end (.int .i64 s5303.2.1) [] rfl (by kernel_rfl) ⟨by kernel_rfl, rfl⟩ M5479)
            · intro g5436 f5437
              intro R w5482 M5483
              refine W_run 1 [(34, .pointer (some ⟨b4849, 0, none⟩))] w5482 (by kernel_rfl) ?_
              exact W_nil (ob_end (.pointer (some ⟨b4849, 0, none⟩)) [] rfl (by kernel_rfl) ⟨by kernel_rfl, rfl⟩ M5483)
            · intro g5436 f5437
              intro v10_ hb10_
              obtain ⟨rfl, _⟩ := hb10_
              intro R w5486 M5487
              refine W_run 1 [(35, .pointer (some ⟨b4849, 0, none⟩))] w5486 (by kernel_rfl) ?_
              exact W_nil (ob_end (.pointer (some ⟨b4849, 0, none⟩)) [] rfl (by kernel_rfl) ⟨by kernel_rfl, rfl⟩ M5487)
            · intro g5436 f5437
              intro v11_ hb11_
              obtain ⟨rfl, _⟩ := hb11_
              intro R w5490 M5491
              refine W_run 1 [(36, .pointer (some ⟨b4849, 0, none⟩))] w5490 (by kernel_rfl) ?_
              exact W_nil (ob_end (.pointer (some ⟨b4849, 0, none⟩)) [] rfl (by kernel_rfl) ⟨by kernel_rfl, rfl⟩ M5491)
            · intro g5436 f5437
              intro v12_ hb12_
              obtain ⟨rfl, _⟩ := hb12_
              intro R w5494 M5495
              refine W_val (.slice p4851 x4847.Memory.length c4852) w5494 (by kernel_rfl) (E_load (e := 28) (fr := (0, 0)) _ _ false 1 b4849 0 [.slice p4851 x4847.Memory.length c4852, .slice p4856 s5303.2.2.1.length c4857, .slice p4861 s5303.2.2.2.length c4862] (.slice p4851 x4847.Memory.length c4852) rfl (by kernel_rfl) (by kernel_rfl) (by kernel_rfl) (M5495.blk 0 (b := b4849) (o := .cells ⟨[.slice p4851 x4847.Memory.length c4852, .slice p4856 s5303.2.2.1.length c4857, .slice p4861 s5303.2.2.2.length c4862]⟩ 28 (0, 0)) (by kernel_rfl))) ?_
              exact W_nil (ob_end (.slice p4851 x4847.Memory.length c4852) [] rfl (by kernel_rfl) ⟨by kernel_rfl, rfl⟩ M5495)
            · intro g5436 f5437
              intro R w5498 M5499
              refine W_run 1 [(38, .int .i64 s5303.2.1)] w5498 (by kernel_rfl) ?_
              exact W_nil (ob_end (.int .i64 s5303.2.1) [] rfl (by kernel_rfl) ⟨by kernel_rfl, rfl⟩ M5499)
            · intro g5436 f5437
              intro v13_ hb13_
              obtain ⟨rfl, _⟩ := hb13_
              intro v14_ hb14_
              obtain ⟨rfl, _⟩ := hb14_
              intro R w5502 M5503
              refine W_val (elemP p4851 (s5303.2.1.toNat * 1)) w5502 (by kernel_rfl) (E_index (E := encI) _ _ _ x4847.Memory.length c4852 .i64 s5303.2.1 1 (y := y5438) rfl (by kernel_rfl) (by kernel_rfl) (by kernel_rfl) (ho4854.rd M5503 1 (by kernel_rfl)) rfl hy5438) ?_
              exact W_nil (ob_end (elemP p4851 (s5303.2.1.toNat * 1)) [] rfl (by kernel_rfl) ⟨by kernel_rfl, rfl⟩ M5503)
            · intro g5436 f5437
              intro v15_ hb15_
              obtain ⟨rfl, _⟩ := hb15_
              intro R w5506 M5507
              refine W_val (.int .i64 y5438) w5506 (by kernel_rfl) (E_loadE (E := encI) _ _ false 1 s5303.2.1 0 (s5303.2.1.toNat * 1) y5438 (.int .i64 y5438) rfl (by kernel_rfl) (by kernel_rfl) (by kernel_rfl) (ho4854.rd M5507 1 (by kernel_rfl)) hy5438 rfl) ?_
              exact W_nil (ob_end (.int .i64 y5438) [] rfl (by kernel_rfl) ⟨by kernel_rfl, rfl⟩ M5507)
            · intro g5436 f5437
              intro v3_ hb3_
              obtain ⟨rfl, _⟩ := hb3_
              intro v4_ hb4_
              obtain ⟨rfl, _⟩ := hb4_
              intro R w5510 M5511
              refine W_val (elemP p4856 (s5303.2.1.toNat * 1)) w5510 (by kernel_rfl) (E_index (E := encI) _ _ _ s5303.2.2.1.length c4857 .i64 s5303.2.1 1 (y := y5439) rfl (by kernel_rfl) (by kernel_rfl) (by kernel_rfl) (ho5314.rd M5511 4 (by kernel_rfl)) rfl hy5439) ?_
              exact W_nil (ob_end (elemP p4856 (s5303.2.1.toNat * 1)) [] rfl (by kernel_rfl) ⟨by kernel_rfl, rfl⟩ M5511)
            · intro g5436 f5437
              intro v16_ hb16_
              obtain ⟨rfl, _⟩ := hb16_
              intro v17_ hb17_
              obtain ⟨rfl, _⟩ := hb17_
              intro R w5514 M5515
              refine W_storeE (E := encI) _ _ _ false 1 s5303.2.1.toNat 0 (s5303.2.1.toNat * 1) y5439 y5438 (.int .i64 y5438) 3 M5515 ho5314 (by kernel_rfl) (by kernel_rfl) rfl (by kernel_rfl) (by kernel_rfl) (by kernel_rfl) (by kernel_rfl) (by kernel_rfl) (by kernel_rfl) (by kernel_rfl) (gxIdx_spec hy5439).2 rfl ?_
              intro w5516 sg5518 ho5519 M5517
              exact W_nil (ob_none sg5518 rfl ⟨rfl, ho5519⟩ M5517)
            · intro g5436 f5437
              intro v8_ hb8_
              obtain ⟨rfl, _⟩ := hb8_
              intro v9_ hb9_
              obtain ⟨rfl, _⟩ := hb9_
              intro v18_ hb18_
              obtain ⟨rfl, ho5440⟩ := hb18_
              intro w5520 M5521
              have M5522 : Mem (idsOf [[(b4849, .cells ⟨[.slice p4851 x4847.Memory.length c4852, .slice p4856 x4847.Copy.length c4857, .slice p4861 x4847.Dirty.length c4862]⟩ 28 (0, 0))], sg4853, sg4858, sg4863]) w w5520 [[(b4849, .cells ⟨[.slice p4851 x4847.Memory.length c4852, .slice p4856 s5303.2.2.1.length c4857, .slice p4861 s5303.2.2.2.length c4862]⟩ 28 (0, 0))], sg4853, sg5315, (g5436 18)] := M5521
              have M5523 : Mem (idsOf [[(b4849, .cells ⟨[.slice p4851 x4847.Memory.length c4852, .slice p4856 x4847.Copy.length c4857, .slice p4861 x4847.Dirty.length c4862]⟩ 28 (0, 0))], sg4853, sg4858, sg4863]) w w5520 [[(b4849, .cells ⟨[.slice p4851 x4847.Memory.length c4852, .slice p4856 (s5303.2.2.1.set s5303.2.1.toNat y5438).length c4857, .slice p4861 s5303.2.2.2.length c4862]⟩ 28 (0, 0))], sg4853, sg5315, (g5436 18)] := by rw [@List.length_set _ s5303.2.2.1 s5303.2.1.toNat y5438]; exact M5522
              obtain ⟨y5524, hy5524, hm⟩ := gx_bind hm
              refine W_val (elemP p4861 (s5303.2.1.toNat * 1)) w5520 (by kernel_rfl) (E_index (E := encB) _ _ _ s5303.2.2.2.length c4862 .i64 s5303.2.1 1 (y := y5524) rfl (by kernel_rfl) (by kernel_rfl) (by kernel_rfl) (ho5316.rd M5523 2 (by kernel_rfl)) rfl hy5524) ?_
              refine W_storeE (E := encB) _ _ _ false 1 s5303.2.1.toNat 0 (s5303.2.1.toNat * 1) y5524 false (.bool false) 2 M5523 ho5316 (by kernel_rfl) (by kernel_rfl) rfl (by kernel_rfl) (by kernel_rfl) (by kernel_rfl) (by kernel_rfl) (by kernel_rfl) (by kernel_rfl) (by kernel_rfl) (gxIdx_spec hy5524).2 rfl ?_
              intro w5525 sg5527 ho5528 M5526
              refine W_conv 11 (.slice p4861 s5303.2.2.2.length c4862) (.slice p4861 (s5303.2.2.2.set s5303.2.1.toNat false).length c4862) (by kernel_rfl) (by rw [@List.length_set _ s5303.2.2.2 s5303.2.1.toNat false]) ?_
              refine W_conv 32 (.slice p4861 s5303.2.2.2.length c4862) (.slice p4861 (s5303.2.2.2.set s5303.2.1.toNat false).length c4862) (by kernel_rfl) (by rw [@List.length_set _ s5303.2.2.2 s5303.2.1.toNat false]) ?_
              have M5529 : Mem (idsOf [[(b4849, .cells ⟨[.slice p4851 x4847.Memory.length c4852, .slice p4856 x4847.Copy.length c4857, .slice p4861 x4847.Dirty.length c4862]⟩ 28 (0, 0))], sg4853, sg4858, sg4863]) w w5525 [[(b4849, .cells ⟨[.slice p4851 x4847.Memory.length c4852, .slice p4856 (s5303.2.2.1.set s5303.2.1.toNat y5438).length c4857, .slice p4861 (s5303.2.2.2.set s5303.2.1.toNat false).length c4862]⟩ 28 (0, 0))], sg4853, sg5527, (g5436 18)] := by rw [@List.length_set _ s5303.2.2.2 s5303.2.1.toNat false]; exact M5526
              refine W_nil ?_
              refine N_then ?_
              refine G_region ?_
              refine W_run 3 [(0, .pointer (some ⟨b4849, 0, none⟩)), (1, .int .i64 x4865), (5, .int .i64 (w64 (s5303.1 + 1))), (11, .slice p4861 (s5303.2.2.2.set s5303.2.1.toNat false).length c4862), (12, .int .i64 (x4847.Dirty.length : Int)), (13, .int .i64 s5303.2.1)] w5525 (by kernel_rfl) ?_
              refine W_nil ?_
              obtain rfl := Option.some.inj hm
              exact N_meet fun a ha => ⟨(g5436 18), sg5527, ho5440, ho5528, M5529.pick [0, 1, 3, 2] (by kernel_rfl), ha.sub (by kernel_rfl)⟩
          · refine G_cond_f (b := o5325) hc5435 (by kernel_rfl) ?_
            refine G_skip ?_
            obtain rfl := Option.some.inj hm
            exact N_meet fun a ha => ⟨sg5313, sg5315, ho5314, ho5316, M5330.pick [0, 1, 2, 3] (by kernel_rfl), ha.sub (by kernel_rfl)⟩
        · intro a5532 w5530 ⟨sg5431, sg5433, ho5432, ho5434, M5531, hS5533⟩
          refine N_use hS5533 ?_
          have hm := hm5430
          refine N_block ?_
          refine N_then ?_
          refine G_region ?_
          refine W_run 2 [(0, .pointer (some ⟨b4849, 0, none⟩)), (1, .int .i64 x4865), (5, .int .i64 o5428.1), (11, .slice p4861 o5428.2.2.length c4862), (12, .int .i64 (x4847.Dirty.length : Int)), (13, .int .i64 (w64 (s5303.2.1 + 1)))] w5530 (by kernel_rfl) ?_
          refine W_nil ?_
          obtain rfl := Option.some.inj hm
          exact N_loop fun a ha => ⟨_, rfl, sg5431, sg5433, ho5432, ho5434, M5531.pick [0, 1, 2, 3] (by kernel_rfl), ha.sub (by kernel_rfl)⟩
    · refine G_cond_f (b := (decide (s5303.2.1 < (x4847.Dirty.length : Int)))) hc5322 (by kernel_rfl) ?_
      refine G_exit ?_
      refine N_then_exit ?_
      refine N_then_exit ?_
      refine N_block_eq ?_
      obtain rfl := Option.some.inj hm
      obtain rfl := hout5305 _ rfl
      exact N_meet fun a ha => ⟨sg5313, sg5315, ho5314, ho5316, M5308.pick [0, 1, 2, 3] (by kernel_rfl), ha.sub (by kernel_rfl)⟩
  · intro a5534 w5535 ⟨sg5318, sg5320, ho5319, ho5321, M5536, hS5537⟩
    refine N_use hS5537 ?_
    have hm := hmo5312
    refine N_then ?_
    refine G_seq ?_
    refine G_region ?_
    refine W_run 2 [(4, .int .i64 out5310.1)] w5535 (by kernel_rfl) ?_
    refine W_nil ?_
    refine N_then ?_
    refine G_ret ?_
    obtain rfl := Option.some.inj hm
    refine N_ret [.int .i64 out5310.1] (RVs_cons (RV_tmp (by kernel_rfl)) RVs_nil) ?_
    exact ⟨p4851, c4852, sg4853, p4856, c4857, sg5318, p4861, c4862, sg5320, rfl, ho4854, ho5319, ho5321, M5536.pick [0, 1, 2, 3] (by kernel_rfl)⟩
theorem c_i_CopyRound (w : World) (x4751 : Copying) (p4753 : Option Addr) (c4754 : Nat) (h4755 : rdS encI w x4751.Memory p4753 c4754) (p4757 : Option Addr) (c4758 : Nat) (h4759 : rdS encI w x4751.Copy p4757 c4758) (p4761 : Option Addr) (c4762 : Nat) (h4763 : rdS encB w x4751.Dirty p4761 c4762) (x4764 : Int) {r : Copying × Int × Bool} (hm : M.i_CopyRound x4751 x4764 = some r) :
    Calls Try.prog 34 #[.agg #[.slice p4753 x4751.Memory.length c4754, .slice p4757 x4751.Copy.length c4758, .slice p4761 x4751.Dirty.length c4762], .int .i64 x4764] w fun e w' => ∃ (p4766 : Option Addr) (c4767 : Nat) (sg4768 : Seg), ∃ (p4770 : Option Addr) (c4771 : Nat) (sg4772 : Seg), ∃ (p4774 : Option Addr) (c4775 : Nat) (sg4776 : Seg), e = .returned (.tuple #[.agg #[.slice p4766 r.1.Memory.length c4767, .slice p4770 r.1.Copy.length c4771, .slice p4774 r.1.Dirty.length c4775], .int .i64 r.2.1, .bool r.2.2]) ∧ ownS encI r.1.Memory p4766 c4767 sg4768 ∧ ownS encI r.1.Copy p4770 c4771 sg4772 ∧ ownS encB r.1.Dirty p4774 c4775 sg4776 ∧ Mem [] w w' [sg4768, sg4772, sg4776] := by
  unfold M.i_CopyRound at hm
  refine C_enter Try.func34 rfl (by kernel_rfl) ?_
  have M0 := Mem.refl [] w
  refine G_seq ?_
  refine G_region ?_
  refine W_new (fun b => .pointer (some ⟨b, 0, none⟩)) (.cells ⟨[.slice p4753 x4751.Memory.length c4754, .slice p4757 x4751.Copy.length c4758, .slice p4761 x4751.Dirty.length c4762]⟩ 28 (0, 0)) M0 rfl (by kernel_rfl) (by kernel_rfl) ?_
  intro b4778 w4779 M4780
  refine W_new (fun b => .pointer (some ⟨b, 0, none⟩)) (.cells ⟨[.slice none 0 0, .slice none 0 0, .slice none 0 0]⟩ 28 (0, 0)) M4780 rfl (by kernel_rfl) (by kernel_rfl) ?_
  intro b4785 w4786 M4787
  refine W_run 2 [(1, .int .i64 x4764), (2, .pointer (some ⟨b4778, 0, none⟩)), (4, .pointer (some ⟨b4785, 0, none⟩))] w4786 (by kernel_rfl) ?_
  refine W_nil ?_
  refine N_then ?_
  refine G_seq ?_
  refine G_seq ?_
  obtain ⟨o4797, ho4798, hm4799⟩ := gx_bind hm
  refine G_meet (fun a w' => Mem [] w w' [[(b4778, .cells ⟨[.slice p4753 x4751.Memory.length c4754, .slice p4757 x4751.Copy.length c4758, .slice p4761 x4751.Dirty.length c4762]⟩ 28 (0, 0))], [(b4785, .cells ⟨[.slice none 0 0, .slice none 0 0, .slice none 0 0]⟩ 28 (0, 0))]] ∧ Sat Try.f34.ntmps [(1, .int .i64 x4764), (2, .pointer (some ⟨b4778, 0, none⟩)), (4, .pointer (some ⟨b4785, 0, none⟩)), (16, .bool o4797)] a) ?_ ?_
  · have hm := ho4798
    refine G_region ?_
    refine W_val (.agg #[.slice p4753 x4751.Memory.length c4754, .slice p4757 x4751.Copy.length c4758, .slice p4761 x4751.Dirty.length c4762]) w4786 (by kernel_rfl) (E_load (e := 28) (fr := (0, 0)) _ _ true 3 b4778 0 [.slice p4753 x4751.Memory.length c4754, .slice p4757 x4751.Copy.length c4758, .slice p4761 x4751.Dirty.length c4762] (.agg #[.slice p4753 x4751.Memory.length c4754, .slice p4757 x4751.Copy.length c4758, .slice p4761 x4751.Dirty.length c4762]) rfl (by kernel_rfl) (by kernel_rfl) (by kernel_rfl) (M4787.blk 0 (b := b4778) (o := .cells ⟨[.slice p4753 x4751.Memory.length c4754, .slice p4757 x4751.Copy.length c4758, .slice p4761 x4751.Dirty.length c4762]⟩ 28 (0, 0)) (by kernel_rfl))) ?_
    obtain ⟨r4800, hr4800, hm⟩ := gx_bind hm
    refine W_call 16 #[.agg #[.slice p4753 x4751.Memory.length c4754, .slice p4757 x4751.Copy.length c4758, .slice p4761 x4751.Dirty.length c4762]] (by kernel_rfl) (by kernel_rfl) ?_
    refine (c_i_IsCopying w4786 x4751 p4753 c4754 (h4755.mem0 M4787) p4757 c4758 (h4759.mem0 M4787) p4761 c4762 (h4763.mem0 M4787) hr4800).mono ?_
    rintro e_ w4801 ⟨rfl, K4802⟩
    have M4803 := M4787.call0 K4802
    refine ⟨_, rfl, ?_⟩
    refine W_run 2 [(1, .int .i64 x4764), (2, .pointer (some ⟨b4778, 0, none⟩)), (4, .pointer (some ⟨b4785, 0, none⟩)), (12, .bool (!r4800))] w4801 (by kernel_rfl) ?_
    rcases gx_bif hm with ⟨hc4804, hm⟩ | ⟨hc4804, hm⟩
    · refine W_known 12 true (by kernel_rfl) hc4804 ?_
      refine W_run 4 [(1, .int .i64 x4764), (2, .pointer (some ⟨b4778, 0, none⟩)), (4, .pointer (some ⟨b4785, 0, none⟩)), (16, .bool true)] w4801 (by kernel_rfl) ?_
      refine W_nil ?_
      obtain rfl := Option.some.inj hm
      exact N_meet fun a ha => ⟨M4803.pick [0, 1] (by kernel_rfl), ha.sub (by kernel_rfl)⟩
    · refine W_known 12 false (by kernel_rfl) hc4804 ?_
      refine W_run 1 [(1, .int .i64 x4764), (2, .pointer (some ⟨b4778, 0, none⟩)), (4, .pointer (some ⟨b4785, 0, none⟩)), (12, .bool false), (13, .int .i64 x4764)] w4801 (by kernel_rfl) ?_
      obtain ⟨r4805, hr4805, hm⟩ := gx_bind hm
      refine W_call 74 #[.int .i64 x4764, .int .i64 0, .int .i64 12] (by kernel_rfl) (by kernel_rfl) ?_
      refine (c_i_inside w4801 x4764 0 12 hr4805).mono ?_
      rintro e_ w4806 ⟨rfl, K4807⟩
      have M4808 := M4803.call0 K4807
      refine ⟨_, rfl, ?_⟩
      refine W_run 2 [(1, .int .i64 x4764), (2, .pointer (some ⟨b4778, 0, none⟩)), (4, .pointer (some ⟨b4785, 0, none⟩)), (16, .bool (!r4805))] w4806 (by kernel_rfl) ?_
      refine W_nil ?_
      obtain rfl := Option.some.inj hm
      exact N_meet fun a ha => ⟨M4808.pick [0, 1] (by kernel_rfl), ha.sub (by kernel_rfl)⟩
  · intro a4811 w4809 ⟨M4810, hS4812⟩
    refine N_use hS4812 ?_
    have hm := hm4799
    refine N_then ?_
    rcases gx_bif hm with ⟨hc4813, hm⟩ | ⟨hc4813, hm⟩
    · refine G_cond_t (b := o4797) hc4813 (by kernel_rfl) ?_
      refine G_seq ?_
      refine G_region ?_
      refine W_run 1 [(4, .pointer (some ⟨b4785, 0, none⟩)), (17, .agg #[.slice none 0 0, .slice none 0 0, .slice none 0 0])] w4809 (by kernel_rfl) ?_
      refine W_store _ _ _ true 3 b4785 0 [.slice none 0 0, .slice none 0 0, .slice none 0 0] 28 (.agg #[.slice none 0 0, .slice none 0 0, .slice none 0 0]) 1 [.slice none 0 0, .slice none 0 0, .slice none 0 0] M4810 (by kernel_rfl) rfl (by kernel_rfl) (by kernel_rfl) (by kernel_rfl) (by kernel_rfl) (by kernel_rfl) (by kernel_rfl) (by kernel_rfl) (by kernel_rfl) ?_
      intro w4817 M4818
      refine W_run 2 [(4, .pointer (some ⟨b4785, 0, none⟩)), (5, .int .i64 0), (6, .bool false)] w4817 (by kernel_rfl) ?_
      refine W_nil ?_
      refine N_then ?_
      refine G_ret ?_
      refine N_then_ret ?_
      obtain rfl := Option.some.inj hm
      refine N_ret [.agg #[.slice none 0 0, .slice none 0 0, .slice none 0 0], .int .i64 0, .bool false] (RVs_cons (RV_cell (g := true) (k := 3) (b := b4785) (off := 0) (cs := [.slice none 0 0, .slice none 0 0, .slice none 0 0]) (e := 28) (fr := (0, 0)) (v := .agg #[.slice none 0 0, .slice none 0 0, .slice none 0 0]) (M4818.blk 1 (b := b4785) (o := .cells ⟨[.slice none 0 0, .slice none 0 0, .slice none 0 0]⟩ 28 (0, 0)) (by kernel_rfl)) (by kernel_rfl) (by kernel_rfl) (by kernel_rfl)) (RVs_cons (RV_tmp (by kernel_rfl)) (RVs_cons (RV_tmp (by kernel_rfl)) RVs_nil))) ?_
      exact ⟨none, 0, [], none, 0, [], none, 0, [], rfl, ownS_nil, ownS_nil, ownS_nil, M4818.pick [100000, 100001, 100002] (by kernel_rfl)⟩
    · refine G_cond_f (b := o4797) hc4813 (by kernel_rfl) ?_
      refine G_skip ?_
      refine N_then ?_
      refine G_seq ?_
      refine G_region ?_
      refine W_val (.agg #[.slice p4753 x4751.Memory.length c4754, .slice p4757 x4751.Copy.length c4758, .slice p4761 x4751.Dirty.length c4762]) w4809 (by kernel_rfl) (E_load (e := 28) (fr := (0, 0)) _ _ true 3 b4778 0 [.slice p4753 x4751.Memory.length c4754, .slice p4757 x4751.Copy.length c4758, .slice p4761 x4751.Dirty.length c4762] (.agg #[.slice p4753 x4751.Memory.length c4754, .slice p4757 x4751.Copy.length c4758, .slice p4761 x4751.Dirty.length c4762]) rfl (by kernel_rfl) (by kernel_rfl) (by kernel_rfl) (M4810.blk 0 (b := b4778) (o := .cells ⟨[.slice p4753 x4751.Memory.length c4754, .slice p4757 x4751.Copy.length c4758, .slice p4761 x4751.Dirty.length c4762]⟩ 28 (0, 0)) (by kernel_rfl))) ?_
      obtain ⟨r4819, hr4819, hm⟩ := gx_bind hm
      refine W_call 71 #[.agg #[.slice p4753 x4751.Memory.length c4754, .slice p4757 x4751.Copy.length c4758, .slice p4761 x4751.Dirty.length c4762]] (by kernel_rfl) (by kernel_rfl) ?_
      refine (c_i_newCopying w4809 x4751 p4753 c4754 (h4755.mem0 M4810) p4757 c4758 (h4759.mem0 M4810) p4761 c4762 (h4763.mem0 M4810) hr4819).mono ?_
      rintro e_ w4835 ⟨p4821, c4822, sg4823, p4826, c4827, sg4828, p4831, c4832, sg4833, rfl, ho4824, ho4829, ho4834, K4836⟩
      have M4837 := M4810.call K4836
      refine ⟨_, rfl, ?_⟩
      refine W_new (fun b => .pointer (some ⟨b, 0, none⟩)) (.cells ⟨[.slice none 0 0, .slice none 0 0, .slice none 0 0]⟩ 28 (0, 0)) M4837 rfl (by kernel_rfl) (by kernel_rfl) ?_
      intro b4842 w4843 M4844
      refine W_store _ _ _ true 3 b4842 0 [.slice none 0 0, .slice none 0 0, .slice none 0 0] 28 (.agg #[.slice p4821 r4819.Memory.length c4822, .slice p4826 r4819.Copy.length c4827, .slice p4831 r4819.Dirty.length c4832]) 5 [.slice p4821 r4819.Memory.length c4822, .slice p4826 r4819.Copy.length c4827, .slice p4831 r4819.Dirty.length c4832] M4844 (by kernel_rfl) rfl (by kernel_rfl) (by kernel_rfl) (by kernel_rfl) (by kernel_rfl) (by kernel_rfl) (by kernel_rfl) (by kernel_rfl) (by kernel_rfl) ?_
      intro w4845 M4846
      refine W_nil ?_
      refine N_then ?_
      refine G_seq ?_
      refine G_region ?_
      refine W_run 1 [(4, .pointer (some ⟨b4785, 0, none⟩)), (7, .pointer (some ⟨b4842, 0, none⟩)), (20, .int .i64 x4764)] w4845 (by kernel_rfl) ?_
      obtain ⟨r5538, hr5538, hm⟩ := gx_bind hm
      refine W_call 75 #[.pointer (some ⟨b4842, 0, none⟩), .int .i64 x4764] (by kernel_rfl) (by kernel_rfl) ?_
      refine (c_i_Copying_round w4845 r4819 p4821 c4822 sg4823 ho4824 p4826 c4827 sg4828 ho4829 p4831 c4832 sg4833 ho4834 b4842 x4764 (M4846.hasPick [5, 2, 3, 4]) (M4846.nodupPick [5, 2, 3, 4] (by kernel_rfl)) hr5538).mono ?_
      rintro e_ w5554 ⟨p5540, c5541, sg5542, p5545, c5546, sg5547, p5550, c5551, sg5552, rfl, ho5543, ho5548, ho5553, K5555⟩
      have M5556 := M4846.callF' [5, 2, 3, 4] [0, 1] (by kernel_rfl) K5555
      refine ⟨_, rfl, ?_⟩
      refine W_run 1 [(4, .pointer (some ⟨b4785, 0, none⟩)), (7, .pointer (some ⟨b4842, 0, none⟩)), (8, .int .i64 r5538.1)] w5554 (by kernel_rfl) ?_
      refine W_nil ?_
      refine N_then ?_
      refine G_seq ?_
      refine G_region ?_
      refine W_val (.agg #[.slice p5540 r5538.2.1.length c5541, .slice p5545 r5538.2.2.1.length c5546, .slice p5550 r5538.2.2.2.length c5551]) w5554 (by kernel_rfl) (E_load (e := 28) (fr := (0, 0)) _ _ true 3 b4842 0 [.slice p5540 r5538.2.1.length c5541, .slice p5545 r5538.2.2.1.length c5546, .slice p5550 r5538.2.2.2.length c5551] (.agg #[.slice p5540 r5538.2.1.length c5541, .slice p5545 r5538.2.2.1.length c5546, .slice p5550 r5538.2.2.2.length c5551]) rfl (by kernel_rfl) (by kernel_rfl) (by kernel_rfl) (M5556.blk 2 (b := b4842) (o := .cells ⟨[.slice p5540 r5538.2.1.length c5541, .slice p5545 r5538.2.2.1.length c5546, .slice p5550 r5538.2.2.2.length c5551]⟩ 28 (0, 0)) (by kernel_rfl))) ?_
      refine W_run 1 [(4, .pointer (some ⟨b4785, 0, none⟩)), (22, .agg #[.slice p5540 r5538.2.1.length c5541, .slice p5545 r5538.2.2.1.length c5546, .slice p5550 r5538.2.2.2.length c5551]), (23, .int .i64 r5538.1)] w5554 (by kernel_rfl) ?_
      refine W_store _ _ _ true 3 b4785 0 [.slice none 0 0, .slice none 0 0, .slice none 0 0] 28 (.agg #[.slice p5540 r5538.2.1.length c5541, .slice p5545 r5538.2.2.1.length c5546, .slice p5550 r5538.2.2.2.length c5551]) 1 [.slice p5540 r5538.2.1.length c5541, .slice p5545 r5538.2.2.1.length c5546, .slice p5550 r5538.2.2.2.length c5551] M5556 (by kernel_rfl) rfl (by kernel_rfl) (by kernel_rfl) (by kernel_rfl) (by kernel_rfl) (by kernel_rfl) (by kernel_rfl) (by kernel_rfl) (by kernel_rfl) ?_
      intro w5557 M5558
      refine W_run 2 [(4, .pointer (some ⟨b4785, 0, none⟩)), (5, .int .i64 r5538.1), (6, .bool true)] w5557 (by kernel_rfl) ?_
      refine W_nil ?_
      refine N_then ?_
      refine G_ret ?_
      obtain rfl := Option.some.inj hm
      refine N_ret [.agg #[.slice p5540 r5538.2.1.length c5541, .slice p5545 r5538.2.2.1.length c5546, .slice p5550 r5538.2.2.2.length c5551], .int .i64 r5538.1, .bool true] (RVs_cons (RV_cell (g := true) (k := 3) (b := b4785) (off := 0) (cs := [.slice p5540 r5538.2.1.length c5541, .slice p5545 r5538.2.2.1.length c5546, .slice p5550 r5538.2.2.2.length c5551]) (e := 28) (fr := (0, 0)) (v := .agg #[.slice p5540 r5538.2.1.length c5541, .slice p5545 r5538.2.2.1.length c5546, .slice p5550 r5538.2.2.2.length c5551]) (M5558.blk 1 (b := b4785) (o := .cells ⟨[.slice p5540 r5538.2.1.length c5541, .slice p5545 r5538.2.2.1.length c5546, .slice p5550 r5538.2.2.2.length c5551]⟩ 28 (0, 0)) (by kernel_rfl)) (by kernel_rfl) (by kernel_rfl) (by kernel_rfl)) (RVs_cons (RV_tmp (by kernel_rfl)) (RVs_cons (RV_tmp (by kernel_rfl)) RVs_nil))) ?_
      exact ⟨p5540, c5541, sg5542, p5545, c5546, sg5547, p5550, c5551, sg5552, rfl, ho5543, ho5548, ho5553, M5558.pick [3, 4, 5] (by kernel_rfl)⟩
theorem c_l_FnExactCopyRound (w : World) (x4555 : Copying) (p4557 : Option Addr) (c4558 : Nat) (h4559 : rdS encI w x4555.Memory p4557 c4558) (p4561 : Option Addr) (c4562 : Nat) (h4563 : rdS encI w x4555.Copy p4561 c4562) (p4565 : Option Addr) (c4566 : Nat) (h4567 : rdS encB w x4555.Dirty p4565 c4566) (x4568 : Int) {r : Bool} (hm : M.l_FnExactCopyRound x4555 x4568 = some r) :
    Calls Try.prog 8 #[.agg #[.slice p4557 x4555.Memory.length c4558, .slice p4561 x4555.Copy.length c4562, .slice p4565 x4555.Dirty.length c4566], .int .i64 x4568] w fun e w' => e = .returned (.bool r) ∧ Mem [] w w' [] := by
  unfold M.l_FnExactCopyRound at hm
  refine C_enter Try.func8 rfl (by kernel_rfl) ?_
  have M0 := Mem.refl [] w
  refine G_seq ?_
  refine G_region ?_
  refine W_new (fun b => .pointer (some ⟨b, 0, none⟩)) (.cells ⟨[.slice p4557 x4555.Memory.length c4558, .slice p4561 x4555.Copy.length c4562, .slice p4565 x4555.Dirty.length c4566]⟩ 25 (0, 0)) M0 rfl (by kernel_rfl) (by kernel_rfl) ?_
  intro b4570 w4571 M4572
  refine W_run 1 [(1, .int .i64 x4568), (2, .pointer (some ⟨b4570, 0, none⟩))] w4571 (by kernel_rfl) ?_
  refine W_nil ?_
  refine N_then ?_
  refine G_seq ?_
  refine G_region ?_
  refine W_run 1 [(1, .int .i64 x4568), (2, .pointer (some ⟨b4570, 0, none⟩)), (5, .int .i64 1048576)] w4571 (by kernel_rfl) ?_
  refine W_nil ?_
  refine N_then ?_
  refine G_seq ?_
  refine G_region ?_
  refine W_val (.agg #[.slice p4557 x4555.Memory.length c4558, .slice p4561 x4555.Copy.length c4562, .slice p4565 x4555.Dirty.length c4566]) w4571 (by kernel_rfl) (E_load (e := 25) (fr := (0, 0)) _ _ true 3 b4570 0 [.slice p4557 x4555.Memory.length c4558, .slice p4561 x4555.Copy.length c4562, .slice p4565 x4555.Dirty.length c4566] (.agg #[.slice p4557 x4555.Memory.length c4558, .slice p4561 x4555.Copy.length c4562, .slice p4565 x4555.Dirty.length c4566]) rfl (by kernel_rfl) (by kernel_rfl) (by kernel_rfl) (M4572.blk 0 (b := b4570) (o := .cells ⟨[.slice p4557 x4555.Memory.length c4558, .slice p4561 x4555.Copy.length c4562, .slice p4565 x4555.Dirty.length c4566]⟩ 25 (0, 0)) (by kernel_rfl))) ?_
  refine W_run 1 [(1, .int .i64 x4568), (2, .pointer (some ⟨b4570, 0, none⟩)), (5, .int .i64 1048576), (19, .agg #[.slice p4557 x4555.Memory.length c4558, .slice p4561 x4555.Copy.length c4562, .slice p4565 x4555.Dirty.length c4566]), (20, .int .i64 1048576)] w4571 (by kernel_rfl) ?_
  obtain ⟨r4573, hr4573, hm⟩ := gx_bind hm
  refine W_call 13 #[.agg #[.slice p4557 x4555.Memory.length c4558, .slice p4561 x4555.Copy.length c4562, .slice p4565 x4555.Dirty.length c4566], .int .i64 1048576] (by kernel_rfl) (by kernel_rfl) ?_
  refine (c_l_szCopying w4571 x4555 p4557 c4558 (h4559.mem0 M4572) p4561 c4562 (h4563.mem0 M4572) p4565 c4566 (h4567.mem0 M4572) 1048576 hr4573).mono ?_
  rintro e_ w4574 ⟨rfl, K4575⟩
  have M4576 := M4572.call0 K4575
  refine ⟨_, rfl, ?_⟩
  refine W_run 1 [(1, .int .i64 x4568), (2, .pointer (some ⟨b4570, 0, none⟩)), (5, .int .i64 r4573)] w4574 (by kernel_rfl) ?_
  refine W_nil ?_
  refine N_then ?_
  refine G_seq ?_
  refine G_seq ?_
  refine G_region ?_
  refine W_run 2 [(1, .int .i64 x4568), (2, .pointer (some ⟨b4570, 0, none⟩)), (23, .bool (decide (r4573 < 0)))] w4574 (by kernel_rfl) ?_
  refine W_nil ?_
  refine N_then ?_
  rcases gx_bif hm with ⟨hc4577, hm⟩ | ⟨hc4577, hm⟩
  · refine G_cond_t (b := (decide (r4573 < 0))) hc4577 (by kernel_rfl) ?_
    refine G_seq ?_
    refine G_region ?_
    refine W_run 1 [(4, .bool true)] w4574 (by kernel_rfl) ?_
    refine W_nil ?_
    refine N_then ?_
    refine G_ret ?_
    refine N_then_ret ?_
    obtain rfl := Option.some.inj hm
    refine N_ret [.bool true] (RVs_cons (RV_tmp (by kernel_rfl)) RVs_nil) ?_
    exact ⟨rfl, M4576.pick [] (by kernel_rfl)⟩
  · refine G_cond_f (b := (decide (r4573 < 0))) hc4577 (by kernel_rfl) ?_
    refine G_skip ?_
    refine N_then ?_
    refine G_seq ?_
    refine G_region ?_
    refine W_val (.agg #[.slice p4557 x4555.Memory.length c4558, .slice p4561 x4555.Copy.length c4562, .slice p4565 x4555.Dirty.length c4566]) w4574 (by kernel_rfl) (E_load (e := 25) (fr := (0, 0)) _ _ true 3 b4570 0 [.slice p4557 x4555.Memory.length c4558, .slice p4561 x4555.Copy.length c4562, .slice p4565 x4555.Dirty.length c4566] (.agg #[.slice p4557 x4555.Memory.length c4558, .slice p4561 x4555.Copy.length c4562, .slice p4565 x4555.Dirty.length c4566]) rfl (by kernel_rfl) (by kernel_rfl) (by kernel_rfl) (M4576.blk 0 (b := b4570) (o := .cells ⟨[.slice p4557 x4555.Memory.length c4558, .slice p4561 x4555.Copy.length c4562, .slice p4565 x4555.Dirty.length c4566]⟩ 25 (0, 0)) (by kernel_rfl))) ?_
    obtain ⟨r4578, hr4578, hm⟩ := gx_bind hm
    refine W_call 15 #[.agg #[.slice p4557 x4555.Memory.length c4558, .slice p4561 x4555.Copy.length c4562, .slice p4565 x4555.Dirty.length c4566]] (by kernel_rfl) (by kernel_rfl) ?_
    refine (c_l_toCopying w4574 x4555 p4557 c4558 (h4559.mem0 M4576) p4561 c4562 (h4563.mem0 M4576) p4565 c4566 (h4567.mem0 M4576) hr4578).mono ?_
    rintro e_ w4594 ⟨p4580, c4581, sg4582, p4585, c4586, sg4587, p4590, c4591, sg4592, rfl, ho4583, ho4588, ho4593, K4595⟩
    have M4596 := M4576.call K4595
    refine ⟨_, rfl, ?_⟩
    refine W_run 1 [(1, .int .i64 x4568), (2, .pointer (some ⟨b4570, 0, none⟩)), (26, .agg #[.slice p4580 r4578.Memory.length c4581, .slice p4585 r4578.Copy.length c4586, .slice p4590 r4578.Dirty.length c4591]), (27, .int .i64 x4568)] w4594 (by kernel_rfl) ?_
    obtain ⟨r4695, hr4695, hm⟩ := gx_bind hm
    refine W_call 33 #[.agg #[.slice p4580 r4578.Memory.length c4581, .slice p4585 r4578.Copy.length c4586, .slice p4590 r4578.Dirty.length c4591], .int .i64 x4568] (by kernel_rfl) (by kernel_rfl) ?_
    refine (c_s_CopyRound w4594 r4578 p4580 c4581 (ho4583.rd M4596 1 (by kernel_rfl)) p4585 c4586 (ho4588.rd M4596 2 (by kernel_rfl)) p4590 c4591 (ho4593.rd M4596 3 (by kernel_rfl)) x4568 hr4695).mono ?_
    rintro e_ w4711 ⟨p4697, c4698, sg4699, p4702, c4703, sg4704, p4707, c4708, sg4709, rfl, ho4700, ho4705, ho4710, K4712⟩
    have M4713 := M4596.call K4712
    refine ⟨_, rfl, ?_⟩
    refine W_run 4 [(1, .int .i64 x4568), (2, .pointer (some ⟨b4570, 0, none⟩)), (29, .agg #[.slice p4697 r4695.1.Memory.length c4698, .slice p4702 r4695.1.Copy.length c4703, .slice p4707 r4695.1.Dirty.length c4708]), (30, .int .i64 r4695.2.1), (31, .bool r4695.2.2)] w4711 (by kernel_rfl) ?_
    refine W_new (fun b => .pointer (some ⟨b, 0, none⟩)) (.cells ⟨[.slice none 0 0, .slice none 0 0, .slice none 0 0]⟩ 28 (0, 0)) M4713 rfl (by kernel_rfl) (by kernel_rfl) ?_
    intro b4718 w4719 M4720
    refine W_store _ _ _ true 3 b4718 0 [.slice none 0 0, .slice none 0 0, .slice none 0 0] 28 (.agg #[.slice p4697 r4695.1.Memory.length c4698, .slice p4702 r4695.1.Copy.length c4703, .slice p4707 r4695.1.Dirty.length c4708]) 7 [.slice p4697 r4695.1.Memory.length c4698, .slice p4702 r4695.1.Copy.length c4703, .slice p4707 r4695.1.Dirty.length c4708] M4720 (by kernel_rfl) rfl (by kernel_rfl) (by kernel_rfl) (by kernel_rfl) (by kernel_rfl) (by kernel_rfl) (by kernel_rfl) (by kernel_rfl) (by kernel_rfl) ?_
    intro w4721 M4722
    refine W_run 2 [(1, .int .i64 x4568), (2, .pointer (some ⟨b4570, 0, none⟩)), (6, .pointer (some ⟨b4718, 0, none⟩)), (7, .int .i64 r4695.2.1), (8, .bool r4695.2.2)] w4721 (by kernel_rfl) ?_
    refine W_nil ?_
    refine N_then ?_
    refine G_seq ?_
    refine G_region ?_
    refine W_val (.agg #[.slice p4557 x4555.Memory.length c4558, .slice p4561 x4555.Copy.length c4562, .slice p4565 x4555.Dirty.length c4566]) w4721 (by kernel_rfl) (E_load (e := 25) (fr := (0, 0)) _ _ true 3 b4570 0 [.slice p4557 x4555.Memory.length c4558, .slice p4561 x4555.Copy.length c4562, .slice p4565 x4555.Dirty.length c4566] (.agg #[.slice p4557 x4555.Memory.length c4558, .slice p4561 x4555.Copy.length c4562, .slice p4565 x4555.Dirty.length c4566]) rfl (by kernel_rfl) (by kernel_rfl) (by kernel_rfl) (M4722.blk 0 (b := b4570) (o := .cells ⟨[.slice p4557 x4555.Memory.length c4558, .slice p4561 x4555.Copy.length c4562, .slice p4565 x4555.Dirty.length c4566]⟩ 25 (0, 0)) (by kernel_rfl))) ?_
    obtain ⟨r4723, hr4723, hm⟩ := gx_bind hm
    refine W_call 15 #[.agg #[.slice p4557 x4555.Memory.length c4558, .slice p4561 x4555.Copy.length c4562, .slice p4565 x4555.Dirty.length c4566]] (by kernel_rfl) (by kernel_rfl) ?_
    refine (c_l_toCopying w4721 x4555 p4557 c4558 (h4559.mem0 M4722) p4561 c4562 (h4563.mem0 M4722) p4565 c4566 (h4567.mem0 M4722) hr4723).mono ?_
    rintro e_ w4739 ⟨p4725, c4726, sg4727, p4730, c4731, sg4732, p4735, c4736, sg4737, rfl, ho4728, ho4733, ho4738, K4740⟩
    have M4741 := M4722.call K4740
    refine ⟨_, rfl, ?_⟩
    refine W_new (fun b => .pointer (some ⟨b, 0, none⟩)) (.cells ⟨[.slice none 0 0, .slice none 0 0, .slice none 0 0]⟩ 28 (0, 0)) M4741 rfl (by kernel_rfl) (by kernel_rfl) ?_
    intro b4746 w4747 M4748
    refine W_store _ _ _ true 3 b4746 0 [.slice none 0 0, .slice none 0 0, .slice none 0 0] 28 (.agg #[.slice p4725 r4723.Memory.length c4726, .slice p4730 r4723.Copy.length c4731, .slice p4735 r4723.Dirty.length c4736]) 11 [.slice p4725 r4723.Memory.length c4726, .slice p4730 r4723.Copy.length c4731, .slice p4735 r4723.Dirty.length c4736] M4748 (by kernel_rfl) rfl (by kernel_rfl) (by kernel_rfl) (by kernel_rfl) (by kernel_rfl) (by kernel_rfl) (by kernel_rfl) (by kernel_rfl) (by kernel_rfl) ?_
    intro w4749 M4750
    refine W_nil ?_
    refine N_then ?_
    refine G_seq ?_
    refine G_region ?_
    refine W_val (.agg #[.slice p4725 r4723.Memory.length c4726, .slice p4730 r4723.Copy.length c4731, .slice p4735 r4723.Dirty.length c4736]) w4749 (by kernel_rfl) (E_load (e := 28) (fr := (0, 0)) _ _ true 3 b4746 0 [.slice p4725 r4723.Memory.length c4726, .slice p4730 r4723.Copy.length c4731, .slice p4735 r4723.Dirty.length c4736] (.agg #[.slice p4725 r4723.Memory.length c4726, .slice p4730 r4723.Copy.length c4731, .slice p4735 r4723.Dirty.length c4736]) rfl (by kernel_rfl) (by kernel_rfl) (by kernel_rfl) (M4750.blk 11 (b := b4746) (o := .cells ⟨[.slice p4725 r4723.Memory.length c4726, .slice p4730 r4723.Copy.length c4731, .slice p4735 r4723.Dirty.length c4736]⟩ 28 (0, 0)) (by kernel_rfl))) ?_
    refine W_run 1 [(1, .int .i64 x4568), (2, .pointer (some ⟨b4570, 0, none⟩)), (6, .pointer (some ⟨b4718, 0, none⟩)), (7, .int .i64 r4695.2.1), (8, .bool r4695.2.2), (9, .pointer (some ⟨b4746, 0, none⟩)), (35, .agg #[.slice p4725 r4723.Memory.length c4726, .slice p4730 r4723.Copy.length c4731, .slice p4735 r4723.Dirty.length c4736]), (36, .int .i64 x4568)] w4749 (by kernel_rfl) ?_
    obtain ⟨r5559, hr5559, hm⟩ := gx_bind hm
    refine W_call 34 #[.agg #[.slice p4725 r4723.Memory.length c4726, .slice p4730 r4723.Copy.length c4731, .slice p4735 r4723.Dirty.length c4736], .int .i64 x4568] (by kernel_rfl) (by kernel_rfl) ?_
    refine (c_i_CopyRound w4749 r4723 p4725 c4726 (ho4728.rd M4750 8 (by kernel_rfl)) p4730 c4731 (ho4733.rd M4750 9 (by kernel_rfl)) p4735 c4736 (ho4738.rd M4750 10 (by kernel_rfl)) x4568 hr5559).mono ?_
    rintro e_ w5575 ⟨p5561, c5562, sg5563, p5566, c5567, sg5568, p5571, c5572, sg5573, rfl, ho5564, ho5569, ho5574, K5576⟩
    have M5577 := M4750.call K5576
    refine ⟨_, rfl, ?_⟩
    refine W_run 4 [(1, .int .i64 x4568), (2, .pointer (some ⟨b4570, 0, none⟩)), (6, .pointer (some ⟨b4718, 0, none⟩)), (7, .int .i64 r4695.2.1), (8, .bool r4695.2.2), (9, .pointer (some ⟨b4746, 0, none⟩)), (38, .agg #[.slice p5561 r5559.1.Memory.length c5562, .slice p5566 r5559.1.Copy.length c5567, .slice p5571 r5559.1.Dirty.length c5572]), (39, .int .i64 r5559.2.1), (40, .bool r5559.2.2)] w5575 (by kernel_rfl) ?_
    refine W_new (fun b => .pointer (some ⟨b, 0, none⟩)) (.cells ⟨[.slice none 0 0, .slice none 0 0, .slice none 0 0]⟩ 28 (0, 0)) M5577 rfl (by kernel_rfl) (by kernel_rfl) ?_
    intro b5582 w5583 M5584
    refine W_store _ _ _ true 3 b5582 0 [.slice none 0 0, .slice none 0 0, .slice none 0 0] 28 (.agg #[.slice p5561 r5559.1.Memory.length c5562, .slice p5566 r5559.1.Copy.length c5567, .slice p5571 r5559.1.Dirty.length c5572]) 15 [.slice p5561 r5559.1.Memory.length c5562, .slice p5566 r5559.1.Copy.length c5567, .slice p5571 r5559.1.Dirty.length c5572] M5584 (by kernel_rfl) rfl (by kernel_rfl) (by kernel_rfl) (by kernel_rfl) (by kernel_rfl) (by kernel_rfl) (by kernel_rfl) (by kernel_rfl) (by kernel_rfl) ?_
    intro w5585 M5586
    refine W_run 2 [(1, .int .i64 x4568), (2, .pointer (some ⟨b4570, 0, none⟩)), (6, .pointer (some ⟨b4718, 0, none⟩)), (7, .int .i64 r4695.2.1), (8, .bool r4695.2.2), (9, .pointer (some ⟨b4746, 0, none⟩)), (10, .pointer (some ⟨b5582, 0, none⟩)), (11, .int .i64 r5559.2.1), (12, .bool r5559.2.2)] w5585 (by kernel_rfl) ?_
    refine W_nil ?_
    refine N_then ?_
    refine G_seq ?_
    refine G_seq ?_
    obtain ⟨o5593, ho5594, hm5595⟩ := gx_bind hm
    refine G_meet (fun a w' => Mem [] w w' [[(b4570, .cells ⟨[.slice p4557 x4555.Memory.length c4558, .slice p4561 x4555.Copy.length c4562, .slice p4565 x4555.Dirty.length c4566]⟩ 25 (0, 0))], sg4699, sg4704, sg4709, [(b4718, .cells ⟨[.slice p4697 r4695.1.Memory.length c4698, .slice p4702 r4695.1.Copy.length c4703, .slice p4707 r4695.1.Dirty.length c4708]⟩ 28 (0, 0))], sg4727, sg4732, sg4737, [(b4746, .cells ⟨[.slice p4725 r4723.Memory.length c4726, .slice p4730 r4723.Copy.length c4731, .slice p4735 r4723.Dirty.length c4736]⟩ 28 (0, 0))], sg5563, sg5568, sg5573, [(b5582, .cells ⟨[.slice p5561 r5559.1.Memory.length c5562, .slice p5566 r5559.1.Copy.length c5567, .slice p5571 r5559.1.Dirty.length c5572]⟩ 28 (0, 0))]] ∧ Sat Try.f8.ntmps [(1, .int .i64 x4568), (2, .pointer (some ⟨b4570, 0, none⟩)), (6, .pointer (some ⟨b4718, 0, none⟩)), (7, .int .i64 r4695.2.1), (8, .bool r4695.2.2), (9, .pointer (some ⟨b4746, 0, none⟩)), (10, .pointer (some ⟨b5582, 0, none⟩)), (11, .int .i64 r5559.2.1), (12, .bool r5559.2.2), (54, .bool o5593)] a) ?_ ?_
    · have hm := ho5594
      refine G_region ?_
      refine W_val (.agg #[.slice p5561 r5559.1.Memory.length c5562, .slice p5566 r5559.1.Copy.length c5567, .slice p5571 r5559.1.Dirty.length c5572]) w5585 (by kernel_rfl) (E_load (e := 28) (fr := (0, 0)) _ _ true 3 b5582 0 [.slice p5561 r5559.1.Memory.length c5562, .slice p5566 r5559.1.Copy.length c5567, .slice p5571 r5559.1.Dirty.length c5572] (.agg #[.slice p5561 r5559.1.Memory.length c5562, .slice p5566 r5559.1.Copy.length c5567, .slice p5571 r5559.1.Dirty.length c5572]) rfl (by kernel_rfl) (by kernel_rfl) (by kernel_rfl) (M5586.blk 15 (b := b5582) (o := .cells ⟨[.slice p5561 r5559.1.Memory.length c5562, .slice p5566 r5559.1.Copy.length c5567, .slice p5571 r5559.1.Dirty.length c5572]⟩ 28 (0, 0)) (by kernel_rfl))) ?_
      refine W_val (.agg #[.slice p4697 r4695.1.Memory.length c4698, .slice p4702 r4695.1.Copy.length c4703, .slice p4707 r4695.1.Dirty.length c4708]) w5585 (by kernel_rfl) (E_load (e := 28) (fr := (0, 0)) _ _ true 3 b4718 0 [.slice p4697 r4695.1.Memory.length c4698, .slice p4702 r4695.1.Copy.length c4703, .slice p4707 r4695.1.Dirty.length c4708] (.agg #[.slice p4697 r4695.1.Memory.length c4698, .slice p4702 r4695.1.Copy.length c4703, .slice p4707 r4695.1.Dirty.length c4708]) rfl (by kernel_rfl) (by kernel_rfl) (by kernel_rfl) (M5586.blk 7 (b := b4718) (o := .cells ⟨[.slice p4697 r4695.1.Memory.length c4698, .slice p4702 r4695.1.Copy.length c4703, .slice p4707 r4695.1.Dirty.length c4708]⟩ 28 (0, 0)) (by kernel_rfl))) ?_
      obtain ⟨r5596, hr5596, hm⟩ := gx_bind hm
      refine W_call 17 #[.agg #[.slice p5561 r5559.1.Memory.length c5562, .slice p5566 r5559.1.Copy.length c5567, .slice p5571 r5559.1.Dirty.length c5572], .agg #[.slice p4697 r4695.1.Memory.length c4698, .slice p4702 r4695.1.Copy.length c4703, .slice p4707 r4695.1.Dirty.length c4708]] (by kernel_rfl) (by kernel_rfl) ?_
      refine (c_l_eqCopying w5585 r5559.1 p5561 c5562 (ho5564.rd M5586 12 (by kernel_rfl)) p5566 c5567 (ho5569.rd M5586 13 (by kernel_rfl)) p5571 c5572 (ho5574.rd M5586 14 (by kernel_rfl)) r4695.1 p4697 c4698 (ho4700.rd M5586 4 (by kernel_rfl)) p4702 c4703 (ho4705.rd M5586 5 (by kernel_rfl)) p4707 c4708 (ho4710.rd M5586 6 (by kernel_rfl)) hr5596).mono ?_
      rintro e_ w5597 ⟨rfl, K5598⟩
      have M5599 := M5586.call0 K5598
      refine ⟨_, rfl, ?_⟩
      refine W_run 2 [(1, .int .i64 x4568), (2, .pointer (some ⟨b4570, 0, none⟩)), (6, .pointer (some ⟨b4718, 0, none⟩)), (7, .int .i64 r4695.2.1), (8, .bool r4695.2.2), (9, .pointer (some ⟨b4746, 0, none⟩)), (10, .pointer (some ⟨b5582, 0, none⟩)), (11, .int .i64 r5559.2.1), (12, .bool r5559.2.2), (45, .bool (!r5596))] w5597 (by kernel_rfl) ?_
      rcases gx_bif hm with ⟨hc5600, hm⟩ | ⟨hc5600, hm⟩
      · refine W_known 45 true (by kernel_rfl) hc5600 ?_
        refine W_run 9 [(1, .int .i64 x4568), (2, .pointer (some ⟨b4570, 0, none⟩)), (6, .pointer (some ⟨b4718, 0, none⟩)), (7, .int .i64 r4695.2.1), (8, .bool r4695.2.2), (9, .pointer (some ⟨b4746, 0, none⟩)), (10, .pointer (some ⟨b5582, 0, none⟩)), (11, .int .i64 r5559.2.1), (12, .bool r5559.2.2), (54, .bool true)] w5597 (by kernel_rfl) ?_
        refine W_nil ?_
        obtain rfl := Option.some.inj hm
        exact N_meet fun a ha => ⟨M5599.pick [0, 4, 5, 6, 7, 8, 9, 10, 11, 12, 13, 14, 15] (by kernel_rfl), ha.sub (by kernel_rfl)⟩
      · refine W_known 45 false (by kernel_rfl) hc5600 ?_
        refine W_run 5 [(1, .int .i64 x4568), (2, .pointer (some ⟨b4570, 0, none⟩)), (6, .pointer (some ⟨b4718, 0, none⟩)), (7, .int .i64 r4695.2.1), (8, .bool r4695.2.2), (9, .pointer (some ⟨b4746, 0, none⟩)), (10, .pointer (some ⟨b5582, 0, none⟩)), (11, .int .i64 r5559.2.1), (12, .bool r5559.2.2), (50, .bool (r5559.2.1 != r4695.2.1))] w5597 (by kernel_rfl) ?_
        rcases gx_bif hm with ⟨hc5601, hm⟩ | ⟨hc5601, hm⟩
        · refine W_known 50 true (by kernel_rfl) hc5601 ?_
          refine W_run 4 [(1, .int .i64 x4568), (2, .pointer (some ⟨b4570, 0, none⟩)), (6, .pointer (some ⟨b4718, 0, none⟩)), (7, .int .i64 r4695.2.1), (8, .bool r4695.2.2), (9, .pointer (some ⟨b4746, 0, none⟩)), (10, .pointer (some ⟨b5582, 0, none⟩)), (11, .int .i64 r5559.2.1), (12, .bool r5559.2.2), (54, .bool true)] w5597 (by kernel_rfl) ?_
          refine W_nil ?_
          obtain rfl := Option.some.inj hm
          exact N_meet fun a ha => ⟨M5599.pick [0, 4, 5, 6, 7, 8, 9, 10, 11, 12, 13, 14, 15] (by kernel_rfl), ha.sub (by kernel_rfl)⟩
        · refine W_known 50 false (by kernel_rfl) hc5601 ?_
          refine W_run 4 [(1, .int .i64 x4568), (2, .pointer (some ⟨b4570, 0, none⟩)), (6, .pointer (some ⟨b4718, 0, none⟩)), (7, .int .i64 r4695.2.1), (8, .bool r4695.2.2), (9, .pointer (some ⟨b4746, 0, none⟩)), (10, .pointer (some ⟨b5582, 0, none⟩)), (11, .int .i64 r5559.2.1), (12, .bool r5559.2.2), (54, .bool (!(r5559.2.2 == r4695.2.2)))] w5597 (by kernel_rfl) ?_
          refine W_nil ?_
          obtain rfl := Option.some.inj hm
          exact N_meet fun a ha => ⟨M5599.pick [0, 4, 5, 6, 7, 8, 9, 10, 11, 12, 13, 14, 15] (by kernel_rfl), ha.sub (by kernel_rfl)⟩
    · intro a5604 w5602 ⟨M5603, hS5605⟩
      refine N_use hS5605 ?_
      have hm := hm5595
      refine N_then ?_
      rcases gx_bif hm with ⟨hc5606, hm⟩ | ⟨hc5606, hm⟩
      · refine G_cond_t (b := o5593) hc5606 (by kernel_rfl) ?_
        refine G_seq ?_
        refine G_region ?_
        refine W_run 1 [(4, .bool false)] w5602 (by kernel_rfl) ?_
        refine W_nil ?_
        refine N_then ?_
        refine G_ret ?_
        refine N_then_ret ?_
        obtain rfl := Option.some.inj hm
        refine N_ret [.bool false] (RVs_cons (RV_tmp (by kernel_rfl)) RVs_nil) ?_
        exact ⟨rfl, M5603.pick [] (by kernel_rfl)⟩
      · refine G_cond_f (b := o5593) hc5606 (by kernel_rfl) ?_
        refine G_skip ?_
        refine N_then ?_
        refine G_seq ?_
        refine G_seq ?_
        obtain ⟨r5609, hr5609, hm⟩ := gx_bind hm
        refine G_sub [(1, .int .i64 x4568), (2, .pointer (some ⟨b4570, 0, none⟩)), (6, .pointer (some ⟨b4718, 0, none⟩)), (7, .int .i64 r4695.2.1), (8, .bool r4695.2.2), (9, .pointer (some ⟨b4746, 0, none⟩)), (10, .pointer (some ⟨b5582, 0, none⟩)), (11, .int .i64 r5559.2.1), (12, .bool r5559.2.2), (54, .bool o5593)] (by kernel_rfl) ?_
        refine G_dagL 3 [[], [], [1]] [[], [], []] [[], [], []] [[], [], []] [[], [], []] [[], [], []] (fun _ => []) (fun i => ([fun f v s => v = (.agg #[.slice p4725 r4723.Memory.length c4726, .slice p4730 r4723.Copy.length c4731, .slice p4735 r4723.Dirty.length c4736] : Value) ∧ s = [], fun f v s => v = (.agg #[.slice p4557 x4555.Memory.length c4558, .slice p4561 x4555.Copy.length c4562, .slice p4565 x4555.Dirty.length c4566] : Value) ∧ s = [], fun f v s => ∃ (p5611 : Option Addr) (c5612 : Nat) (sg5613 : Seg), ∃ (p5616 : Option Addr) (c5617 : Nat) (sg5618 : Seg), ∃ (p5621 : Option Addr) (c5622 : Nat) (sg5623 : Seg), v = (.agg #[.slice p5611 r5609.Memory.length c5612, .slice p5616 r5609.Copy.length c5617, .slice p5621 r5609.Dirty.length c5622] : Value) ∧ s = (sg5613 ++ (sg5618 ++ sg5623)) ∧ ownS encI r5609.Memory p5611 c5612 sg5613 ∧ ownS encI r5609.Copy p5616 c5617 sg5618 ∧ ownS encB r5609.Dirty p5621 c5622 sg5623] : List ((Nat → Value) → Value → Seg → Prop)).getD i (fun _ _ _ => False)) (fun j f v => ∃ s, (fun i => ([fun f v s => v = (.agg #[.slice p4725 r4723.Memory.length c4726, .slice p4730 r4723.Copy.length c4731, .slice p4735 r4723.Dirty.length c4736] : Value) ∧ s = [], fun f v s => v = (.agg #[.slice p4557 x4555.Memory.length c4558, .slice p4561 x4555.Copy.length c4562, .slice p4565 x4555.Dirty.length c4566] : Value) ∧ s = [], fun f v s => ∃ (p5611 : Option Addr) (c5612 : Nat) (sg5613 : Seg), ∃ (p5616 : Option Addr) (c5617 : Nat) (sg5618 : Seg), ∃ (p5621 : Option Addr) (c5622 : Nat) (sg5623 : Seg), v = (.agg #[.slice p5611 r5609.Memory.length c5612, .slice p5616 r5609.Copy.length c5617, .slice p5621 r5609.Dirty.length c5622] : Value) ∧ s = (sg5613 ++ (sg5618 ++ sg5623)) ∧ ownS encI r5609.Memory p5611 c5612 sg5613 ∧ ownS encI r5609.Copy p5616 c5617 sg5618 ∧ ownS encB r5609.Dirty p5621 c5622 sg5623] : List ((Nat → Value) → Value → Seg → Prop)).getD i (fun _ _ _ => False)) j f v s) [] [0, 2] [2] (fun _ _ _ s h => ⟨s, h⟩) (by kernel_rfl) (by kernel_rfl) (M5603.preNil 3) (by kernel_rfl) (by kernel_rfl) (by kernel_rfl) (by kernel_rfl) (allOb_cons ?_ (allOb_cons ?_ (allOb_cons ?_ allOb_nil))) ?_
        · intro g5607 f5608
          intro R w5625 M5626
          refine W_val (.agg #[.slice p4725 r4723.Memory.length c4726, .slice p4730 r4723.Copy.length c4731, .slice p4735 r4723.Dirty.length c4736]) w5625 (by kernel_rfl) (E_load (e := 28) (fr := (0, 0)) _ _ true 3 b4746 0 [.slice p4725 r4723.Memory.length c4726, .slice p4730 r4723.Copy.length c4731, .slice p4735 r4723.Dirty.length c4736] (.agg #[.slice p4725 r4723.Memory.length c4726, .slice p4730 r4723.Copy.length c4731, .slice p4735 r4723.Dirty.length c4736]) rfl (by kernel_rfl) (by kernel_rfl) (by kernel_rfl) (M5626.blk 8 (b := b4746) (o := .cells ⟨[.slice p4725 r4723.Memory.length c4726, .slice p4730 r4723.Copy.length c4731, .slice p4735 r4723.Dirty.length c4736]⟩ 28 (0, 0)) (by kernel_rfl))) ?_
          exact W_nil (ob_end (.agg #[.slice p4725 r4723.Memory.length c4726, .slice p4730 r4723.Copy.length c4731, .slice p4735 r4723.Dirty.length c4736]) [] rfl (by kernel_rfl) ⟨by kernel_rfl, rfl⟩ M5626)
        · intro g5607 f5608
          intro R w5629 M5630
          refine W_val (.agg #[.slice p4557 x4555.Memory.length c4558, .slice p4561 x4555.Copy.length c4562, .slice p4565 x4555.Dirty.length c4566]) w5629 (by kernel_rfl) (E_load (e := 25) (fr := (0, 0)) _ _ true 3 b4570 0 [.slice p4557 x4555.Memory.length c4558, .slice p4561 x4555.Copy.length c4562, .slice p4565 x4555.Dirty.length c4566] (.agg #[.slice p4557 x4555.Memory.length c4558, .slice p4561 x4555.Copy.length c4562, .slice p4565 x4555.Dirty.length c4566]) rfl (by kernel_rfl) (by kernel_rfl) (by kernel_rfl) (M5630.blk 0 (b := b4570) (o := .cells ⟨[.slice p4557 x4555.Memory.length c4558, .slice p4561 x4555.Copy.length c4562, .slice p4565 x4555.Dirty.length c4566]⟩ 25 (0, 0)) (by kernel_rfl))) ?_
          exact W_nil (ob_end (.agg #[.slice p4557 x4555.Memory.length c4558, .slice p4561 x4555.Copy.length c4562, .slice p4565 x4555.Dirty.length c4566]) [] rfl (by kernel_rfl) ⟨by kernel_rfl, rfl⟩ M5630)
        · intro g5607 f5608
          intro v1_ hb1_
          obtain ⟨rfl, _⟩ := hb1_
          intro R w5633 M5634
          refine W_call 15 #[.agg #[.slice p4557 x4555.Memory.length c4558, .slice p4561 x4555.Copy.length c4562, .slice p4565 x4555.Dirty.length c4566]] (by kernel_rfl) (by kernel_rfl) ?_
          refine (c_l_toCopying w5633 x4555 p4557 c4558 (h4559.mem0 M5634) p4561 c4562 (h4563.mem0 M5634) p4565 c4566 (h4567.mem0 M5634) hr5609).mono ?_
          rintro e_ w5635 ⟨p5611, c5612, sg5613, p5616, c5617, sg5618, p5621, c5622, sg5623, rfl, ho5614, ho5619, ho5624, K5637⟩
          refine ⟨_, rfl, ?_⟩
          exact W_nil (ob_end (.agg #[.slice p5611 r5609.Memory.length c5612, .slice p5616 r5609.Copy.length c5617, .slice p5621 r5609.Dirty.length c5622]) (sg5613 ++ (sg5618 ++ sg5623)) rfl (by kernel_rfl) ⟨p5611, c5612, sg5613, p5616, c5617, sg5618, p5621, c5622, sg5623, rfl, rfl, ho5614, ho5619, ho5624⟩ (Mem.callMid M5634 (K5637.permF (by simp))))
        · intro g5607 f5608
          intro v0_ hb0_
          obtain ⟨rfl, _⟩ := hb0_
          intro v2_ hb2_
          obtain ⟨p5611, c5612, sg5613, p5616, c5617, sg5618, p5621, c5622, sg5623, rfl, hs2_, ho5614, ho5619, ho5624⟩ := hb2_
          intro w5638 M5639
          have M5640 : Mem [] w w5638 [[(b4570, .cells ⟨[.slice p4557 x4555.Memory.length c4558, .slice p4561 x4555.Copy.length c4562, .slice p4565 x4555.Dirty.length c4566]⟩ 25 (0, 0))], sg4699, sg4704, sg4709, [(b4718, .cells ⟨[.slice p4697 r4695.1.Memory.length c4698, .slice p4702 r4695.1.Copy.length c4703, .slice p4707 r4695.1.Dirty.length c4708]⟩ 28 (0, 0))], sg4727, sg4732, sg4737, [(b4746, .cells ⟨[.slice p4725 r4723.Memory.length c4726, .slice p4730 r4723.Copy.length c4731, .slice p4735 r4723.Dirty.length c4736]⟩ 28 (0, 0))], sg5563, sg5568, sg5573, [(b5582, .cells ⟨[.slice p5561 r5559.1.Memory.length c5562, .slice p5566 r5559.1.Copy.length c5567, .slice p5571 r5559.1.Dirty.length c5572]⟩ 28 (0, 0))], (g5607 2)] := M5639
          rw [hs2_] at M5640
          replace M5640 : Mem [] w w5638 [[(b4570, .cells ⟨[.slice p4557 x4555.Memory.length c4558, .slice p4561 x4555.Copy.length c4562, .slice p4565 x4555.Dirty.length c4566]⟩ 25 (0, 0))], sg4699, sg4704, sg4709, [(b4718, .cells ⟨[.slice p4697 r4695.1.Memory.length c4698, .slice p4702 r4695.1.Copy.length c4703, .slice p4707 r4695.1.Dirty.length c4708]⟩ 28 (0, 0))], sg4727, sg4732, sg4737, [(b4746, .cells ⟨[.slice p4725 r4723.Memory.length c4726, .slice p4730 r4723.Copy.length c4731, .slice p4735 r4723.Dirty.length c4736]⟩ 28 (0, 0))], sg5563, sg5568, sg5573, [(b5582, .cells ⟨[.slice p5561 r5559.1.Memory.length c5562, .slice p5566 r5559.1.Copy.length c5567, .slice p5571 r5559.1.Dirty.length c5572]⟩ 28 (0, 0))], sg5613, sg5618, sg5623] := M5640.permF (by simp)
          obtain ⟨r5641, hr5641, hm⟩ := gx_bind hm
          refine W_call 17 #[.agg #[.slice p4725 r4723.Memory.length c4726, .slice p4730 r4723.Copy.length c4731, .slice p4735 r4723.Dirty.length c4736], .agg #[.slice p5611 r5609.Memory.length c5612, .slice p5616 r5609.Copy.length c5617, .slice p5621 r5609.Dirty.length c5622]] (by kernel_rfl) (by kernel_rfl) ?_
          refine (c_l_eqCopying w5638 r4723 p4725 c4726 (ho4728.rd M5640 5 (by kernel_rfl)) p4730 c4731 (ho4733.rd M5640 6 (by kernel_rfl)) p4735 c4736 (ho4738.rd M5640 7 (by kernel_rfl)) r5609 p5611 c5612 (ho5614.rd M5640 13 (by kernel_rfl)) p5616 c5617 (ho5619.rd M5640 14 (by kernel_rfl)) p5621 c5622 (ho5624.rd M5640 15 (by kernel_rfl)) hr5641).mono ?_
          rintro e_ w5642 ⟨rfl, K5643⟩
          have M5644 := M5640.call0 K5643
          refine ⟨_, rfl, ?_⟩
          refine W_run 1 [(1, .int .i64 x4568), (2, .pointer (some ⟨b4570, 0, none⟩)), (6, .pointer (some ⟨b4718, 0, none⟩)), (7, .int .i64 r4695.2.1), (8, .bool r4695.2.2), (9, .pointer (some ⟨b4746, 0, none⟩)), (10, .pointer (some ⟨b5582, 0, none⟩)), (11, .int .i64 r5559.2.1), (12, .bool r5559.2.2), (59, .bool (!r5641))] w5642 (by kernel_rfl) ?_
          refine W_nil ?_
          refine N_then ?_
          rcases gx_bif hm with ⟨hc5645, hm⟩ | ⟨hc5645, hm⟩
          · refine G_cond_t (b := (!r5641)) hc5645 (by kernel_rfl) ?_
            refine G_seq ?_
            refine G_region ?_
            refine W_run 1 [(4, .bool false)] w5642 (by kernel_rfl) ?_
            refine W_nil ?_
            refine N_then ?_
            refine G_ret ?_
            refine N_then_ret ?_
            obtain rfl := Option.some.inj hm
            refine N_ret [.bool false] (RVs_cons (RV_tmp (by kernel_rfl)) RVs_nil) ?_
            exact ⟨rfl, M5644.pick [] (by kernel_rfl)⟩
          · refine G_cond_f (b := (!r5641)) hc5645 (by kernel_rfl) ?_
            refine G_skip ?_
            refine N_then ?_
            refine G_seq ?_
            refine G_region ?_
            refine W_run 1 [(1, .int .i64 x4568), (2, .pointer (some ⟨b4570, 0, none⟩)), (6, .pointer (some ⟨b4718, 0, none⟩)), (7, .int .i64 r4695.2.1), (8, .bool r4695.2.2), (9, .pointer (some ⟨b4746, 0, none⟩)), (10, .pointer (some ⟨b5582, 0, none⟩)), (11, .int .i64 r5559.2.1), (12, .bool r5559.2.2), (13, .int .i64 1)] w5642 (by kernel_rfl) ?_
            refine W_nil ?_
            refine N_then ?_
            refine G_seq ?_
            refine G_region ?_
            refine W_val (.agg #[.slice p4725 r4723.Memory.length c4726, .slice p4730 r4723.Copy.length c4731, .slice p4735 r4723.Dirty.length c4736]) w5642 (by kernel_rfl) (E_load (e := 28) (fr := (0, 0)) _ _ true 3 b4746 0 [.slice p4725 r4723.Memory.length c4726, .slice p4730 r4723.Copy.length c4731, .slice p4735 r4723.Dirty.length c4736] (.agg #[.slice p4725 r4723.Memory.length c4726, .slice p4730 r4723.Copy.length c4731, .slice p4735 r4723.Dirty.length c4736]) rfl (by kernel_rfl) (by kernel_rfl) (by kernel_rfl) (M5644.blk 8 (b := b4746) (o := .cells ⟨[.slice p4725 r4723.Memory.length c4726, .slice p4730 r4723.Copy.length c4731, .slice p4735 r4723.Dirty.length c4736]⟩ 28 (0, 0)) (by kernel_rfl))) ?_
            refine W_run 1 [(1, .int .i64 x4568), (2, .pointer (some ⟨b4570, 0, none⟩)), (6, .pointer (some ⟨b4718, 0, none⟩)), (7, .int .i64 r4695.2.1), (8, .bool r4695.2.2), (10, .pointer (some ⟨b5582, 0, none⟩)), (11, .int .i64 r5559.2.1), (12, .bool r5559.2.2), (13, .int .i64 1), (60, .agg #[.slice p4725 r4723.Memory.length c4726, .slice p4730 r4723.Copy.length c4731, .slice p4735 r4723.Dirty.length c4736]), (61, .int .i64 1)] w5642 (by kernel_rfl) ?_
            obtain ⟨r5646, hr5646, hm⟩ := gx_bind hm
            refine W_call 23 #[.agg #[.slice p4725 r4723.Memory.length c4726, .slice p4730 r4723.Copy.length c4731, .slice p4735 r4723.Dirty.length c4736], .int .i64 1] (by kernel_rfl) (by kernel_rfl) ?_
            refine (c_l_markCopying w5642 r4723 p4725 c4726 sg4727 ho4728 p4730 c4731 sg4732 ho4733 p4735 c4736 sg4737 ho4738 1 (M5644.hasPick [5, 6, 7]) (M5644.nodupPick [5, 6, 7] (by kernel_rfl)) hr5646).mono ?_
            rintro e_ w5656 ⟨sg5647, sg5650, sg5653, rfl, ho5648, hl5649, ho5651, hl5652, ho5654, hl5655, K5657⟩
            have M5658 := M5644.callF' [5, 6, 7] [0, 1, 2, 3, 4, 8, 9, 10, 11, 12, 13, 14, 15] (by kernel_rfl) K5657
            refine ⟨_, rfl, ?_⟩
            refine W_conv 60 (.agg #[.slice p4725 r4723.Memory.length c4726, .slice p4730 r4723.Copy.length c4731, .slice p4735 r4723.Dirty.length c4736]) (.agg #[.slice p4725 r5646.2.1.length c4726, .slice p4730 r5646.2.2.1.length c4731, .slice p4735 r5646.2.2.2.length c4736]) (by kernel_rfl) (by first | rw [hl5649, hl5652, hl5655] | rw [hl5649] | rw [hl5652] | rw [hl5655]) ?_
            have M5659 : Mem [] w w5656 [[(b4570, .cells ⟨[.slice p4557 x4555.Memory.length c4558, .slice p4561 x4555.Copy.length c4562, .slice p4565 x4555.Dirty.length c4566]⟩ 25 (0, 0))], sg4699, sg4704, sg4709, [(b4718, .cells ⟨[.slice p4697 r4695.1.Memory.length c4698, .slice p4702 r4695.1.Copy.length c4703, .slice p4707 r4695.1.Dirty.length c4708]⟩ 28 (0, 0))], [(b4746, .cells ⟨[.slice p4725 r5646.2.1.length c4726, .slice p4730 r5646.2.2.1.length c4731, .slice p4735 r5646.2.2.2.length c4736]⟩ 28 (0, 0))], sg5563, sg5568, sg5573, [(b5582, .cells ⟨[.slice p5561 r5559.1.Memory.length c5562, .slice p5566 r5559.1.Copy.length c5567, .slice p5571 r5559.1.Dirty.length c5572]⟩ 28 (0, 0))], sg5613, sg5618, sg5623, sg5647, sg5650, sg5653] := by rw [hl5649, hl5652, hl5655]; exact M5658
            refine W_run 1 [(1, .int .i64 x4568), (2, .pointer (some ⟨b4570, 0, none⟩)), (6, .pointer (some ⟨b4718, 0, none⟩)), (7, .int .i64 r4695.2.1), (8, .bool r4695.2.2), (10, .pointer (some ⟨b5582, 0, none⟩)), (11, .int .i64 r5559.2.1), (12, .bool r5559.2.2), (13, .int .i64 r5646.1)] w5656 (by kernel_rfl) ?_
            refine W_nil ?_
            refine N_then ?_
            refine G_seq ?_
            refine G_seq ?_
            obtain ⟨o5667, ho5668, hm5669⟩ := gx_bind hm
            refine G_meet (fun a w' => Mem [] w w' [[(b4570, .cells ⟨[.slice p4557 x4555.Memory.length c4558, .slice p4561 x4555.Copy.length c4562, .slice p4565 x4555.Dirty.length c4566]⟩ 25 (0, 0))], sg4699, sg4704, sg4709, [(b4718, .cells ⟨[.slice p4697 r4695.1.Memory.length c4698, .slice p4702 r4695.1.Copy.length c4703, .slice p4707 r4695.1.Dirty.length c4708]⟩ 28 (0, 0))], sg5563, sg5568, sg5573, [(b5582, .cells ⟨[.slice p5561 r5559.1.Memory.length c5562, .slice p5566 r5559.1.Copy.length c5567, .slice p5571 r5559.1.Dirty.length c5572]⟩ 28 (0, 0))]] ∧ Sat Try.f8.ntmps [(1, .int .i64 x4568), (2, .pointer (some ⟨b4570, 0, none⟩)), (6, .pointer (some ⟨b4718, 0, none⟩)), (7, .int .i64 r4695.2.1), (8, .bool r4695.2.2), (10, .pointer (some ⟨b5582, 0, none⟩)), (80, .bool o5667)] a) ?_ ?_
            · have hm := ho5668
              refine G_region ?_
              refine W_run 3 [(1, .int .i64 x4568), (2, .pointer (some ⟨b4570, 0, none⟩)), (6, .pointer (some ⟨b4718, 0, none⟩)), (7, .int .i64 r4695.2.1), (8, .bool r4695.2.2), (10, .pointer (some ⟨b5582, 0, none⟩)), (11, .int .i64 r5559.2.1), (12, .bool r5559.2.2), (65, .bool (decide (r5646.1 < 0)))] w5656 (by kernel_rfl) ?_
              rcases gx_bif hm with ⟨hc5670, hm⟩ | ⟨hc5670, hm⟩
              · refine W_known 65 true (by kernel_rfl) hc5670 ?_
                refine W_run 15 [(1, .int .i64 x4568), (2, .pointer (some ⟨b4570, 0, none⟩)), (6, .pointer (some ⟨b4718, 0, none⟩)), (7, .int .i64 r4695.2.1), (8, .bool r4695.2.2), (10, .pointer (some ⟨b5582, 0, none⟩)), (80, .bool true)] w5656 (by kernel_rfl) ?_
                refine W_nil ?_
                obtain rfl := Option.some.inj hm
                exact N_meet fun a ha => ⟨M5659.pick [0, 1, 2, 3, 4, 6, 7, 8, 9] (by kernel_rfl), ha.sub (by kernel_rfl)⟩
              · refine W_known 65 false (by kernel_rfl) hc5670 ?_
                refine W_val (.agg #[.slice p5561 r5559.1.Memory.length c5562, .slice p5566 r5559.1.Copy.length c5567, .slice p5571 r5559.1.Dirty.length c5572]) w5656 (by kernel_rfl) (E_load (e := 28) (fr := (0, 0)) _ _ true 3 b5582 0 [.slice p5561 r5559.1.Memory.length c5562, .slice p5566 r5559.1.Copy.length c5567, .slice p5571 r5559.1.Dirty.length c5572] (.agg #[.slice p5561 r5559.1.Memory.length c5562, .slice p5566 r5559.1.Copy.length c5567, .slice p5571 r5559.1.Dirty.length c5572]) rfl (by kernel_rfl) (by kernel_rfl) (by kernel_rfl) (M5659.blk 9 (b := b5582) (o := .cells ⟨[.slice p5561 r5559.1.Memory.length c5562, .slice p5566 r5559.1.Copy.length c5567, .slice p5571 r5559.1.Dirty.length c5572]⟩ 28 (0, 0)) (by kernel_rfl))) ?_
                refine W_val (.agg #[.slice p4697 r4695.1.Memory.length c4698, .slice p4702 r4695.1.Copy.length c4703, .slice p4707 r4695.1.Dirty.length c4708]) w5656 (by kernel_rfl) (E_load (e := 28) (fr := (0, 0)) _ _ true 3 b4718 0 [.slice p4697 r4695.1.Memory.length c4698, .slice p4702 r4695.1.Copy.length c4703, .slice p4707 r4695.1.Dirty.length c4708] (.agg #[.slice p4697 r4695.1.Memory.length c4698, .slice p4702 r4695.1.Copy.length c4703, .slice p4707 r4695.1.Dirty.length c4708]) rfl (by kernel_rfl) (by kernel_rfl) (by kernel_rfl) (M5659.blk 4 (b := b4718) (o := .cells ⟨[.slice p4697 r4695.1.Memory.length c4698, .slice p4702 r4695.1.Copy.length c4703, .slice p4707 r4695.1.Dirty.length c4708]⟩ 28 (0, 0)) (by kernel_rfl))) ?_
                obtain ⟨r5671, hr5671, hm⟩ := gx_bind hm
                refine W_call 17 #[.agg #[.slice p5561 r5559.1.Memory.length c5562, .slice p5566 r5559.1.Copy.length c5567, .slice p5571 r5559.1.Dirty.length c5572], .agg #[.slice p4697 r4695.1.Memory.length c4698, .slice p4702 r4695.1.Copy.length c4703, .slice p4707 r4695.1.Dirty.length c4708]] (by kernel_rfl) (by kernel_rfl) ?_
                refine (c_l_eqCopying w5656 r5559.1 p5561 c5562 (ho5564.rd M5659 6 (by kernel_rfl)) p5566 c5567 (ho5569.rd M5659 7 (by kernel_rfl)) p5571 c5572 (ho5574.rd M5659 8 (by kernel_rfl)) r4695.1 p4697 c4698 (ho4700.rd M5659 1 (by kernel_rfl)) p4702 c4703 (ho4705.rd M5659 2 (by kernel_rfl)) p4707 c4708 (ho4710.rd M5659 3 (by kernel_rfl)) hr5671).mono ?_
                rintro e_ w5672 ⟨rfl, K5673⟩
                have M5674 := M5659.call0 K5673
                refine ⟨_, rfl, ?_⟩
                refine W_run 3 [(1, .int .i64 x4568), (2, .pointer (some ⟨b4570, 0, none⟩)), (6, .pointer (some ⟨b4718, 0, none⟩)), (7, .int .i64 r4695.2.1), (8, .bool r4695.2.2), (10, .pointer (some ⟨b5582, 0, none⟩)), (11, .int .i64 r5559.2.1), (12, .bool r5559.2.2), (71, .bool (!r5671))] w5672 (by kernel_rfl) ?_
                rcases gx_bif hm with ⟨hc5675, hm⟩ | ⟨hc5675, hm⟩
                · refine W_known 71 true (by kernel_rfl) hc5675 ?_
                  refine W_run 9 [(1, .int .i64 x4568), (2, .pointer (some ⟨b4570, 0, none⟩)), (6, .pointer (some ⟨b4718, 0, none⟩)), (7, .int .i64 r4695.2.1), (8, .bool r4695.2.2), (10, .pointer (some ⟨b5582, 0, none⟩)), (80, .bool true)] w5672 (by kernel_rfl) ?_
                  refine W_nil ?_
                  obtain rfl := Option.some.inj hm
                  exact N_meet fun a ha => ⟨M5674.pick [0, 1, 2, 3, 4, 6, 7, 8, 9] (by kernel_rfl), ha.sub (by kernel_rfl)⟩
                · refine W_known 71 false (by kernel_rfl) hc5675 ?_
                  refine W_run 5 [(1, .int .i64 x4568), (2, .pointer (some ⟨b4570, 0, none⟩)), (6, .pointer (some ⟨b4718, 0, none⟩)), (7, .int .i64 r4695.2.1), (8, .bool r4695.2.2), (10, .pointer (some ⟨b5582, 0, none⟩)), (12, .bool r5559.2.2), (76, .bool (r5559.2.1 != r4695.2.1))] w5672 (by kernel_rfl) ?_
                  rcases gx_bif hm with ⟨hc5676, hm⟩ | ⟨hc5676, hm⟩
                  · refine W_known 76 true (by kernel_rfl) hc5676 ?_
                    refine W_run 4 [(1, .int .i64 x4568), (2, .pointer (some ⟨b4570, 0, none⟩)), (6, .pointer (some ⟨b4718, 0, none⟩)), (7, .int .i64 r4695.2.1), (8, .bool r4695.2.2), (10, .pointer (some ⟨b5582, 0, none⟩)), (80, .bool true)] w5672 (by kernel_rfl) ?_
                    refine W_nil ?_
                    obtain rfl := Option.some.inj hm
                    exact N_meet fun a ha => ⟨M5674.pick [0, 1, 2, 3, 4, 6, 7, 8, 9] (by kernel_rfl), ha.sub (by kernel_rfl)⟩
                  · refine W_known 76 false (by kernel_rfl) hc5676 ?_
                    refine W_run 4 [(1, .int .i64 x4568), (2, .pointer (some ⟨b4570, 0, none⟩)), (6, .pointer (some ⟨b4718, 0, none⟩)), (7, .int .i64 r4695.2.1), (8, .bool r4695.2.2), (10, .pointer (some ⟨b5582, 0, none⟩)), (80, .bool (!(r5559.2.2 == r4695.2.2)))] w5672 (by kernel_rfl) ?_
                    refine W_nil ?_
                    obtain rfl := Option.some.inj hm
                    exact N_meet fun a ha => ⟨M5674.pick [0, 1, 2, 3, 4, 6, 7, 8, 9] (by kernel_rfl), ha.sub (by kernel_rfl)⟩
            · intro a5679 w5677 ⟨M5678, hS5680⟩
              refine N_use hS5680 ?_
              have hm := hm5669
              refine N_then ?_
              rcases gx_bif hm with ⟨hc5681, hm⟩ | ⟨hc5681, hm⟩
              · refine G_cond_t (b := o5667) hc5681 (by kernel_rfl) ?_
                refine G_seq ?_
                refine G_region ?_
                refine W_run 1 [(4, .bool false)] w5677 (by kernel_rfl) ?_
                refine W_nil ?_
                refine N_then ?_
                refine G_ret ?_
                refine N_then_ret ?_
                obtain rfl := Option.some.inj hm
                refine N_ret [.bool false] (RVs_cons (RV_tmp (by kernel_rfl)) RVs_nil) ?_
                exact ⟨rfl, M5678.pick [] (by kernel_rfl)⟩
              · refine G_cond_f (b := o5667) hc5681 (by kernel_rfl) ?_
                refine G_skip ?_
                refine N_then ?_
                refine G_seq ?_
                refine G_region ?_
                refine W_run 1 [(1, .int .i64 x4568), (2, .pointer (some ⟨b4570, 0, none⟩)), (6, .pointer (some ⟨b4718, 0, none⟩)), (7, .int .i64 r4695.2.1), (8, .bool r4695.2.2), (10, .pointer (some ⟨b5582, 0, none⟩)), (14, .int .i64 1)] w5677 (by kernel_rfl) ?_
                refine W_nil ?_
                refine N_then ?_
                refine G_seq ?_
                refine G_region ?_
                refine W_val (.agg #[.slice p5561 r5559.1.Memory.length c5562, .slice p5566 r5559.1.Copy.length c5567, .slice p5571 r5559.1.Dirty.length c5572]) w5677 (by kernel_rfl) (E_load (e := 28) (fr := (0, 0)) _ _ true 3 b5582 0 [.slice p5561 r5559.1.Memory.length c5562, .slice p5566 r5559.1.Copy.length c5567, .slice p5571 r5559.1.Dirty.length c5572] (.agg #[.slice p5561 r5559.1.Memory.length c5562, .slice p5566 r5559.1.Copy.length c5567, .slice p5571 r5559.1.Dirty.length c5572]) rfl (by kernel_rfl) (by kernel_rfl) (by kernel_rfl) (M5678.blk 8 (b := b5582) (o := .cells ⟨[.slice p5561 r5559.1.Memory.length c5562, .slice p5566 r5559.1.Copy.length c5567, .slice p5571 r5559.1.Dirty.length c5572]⟩ 28 (0, 0)) (by kernel_rfl))) ?_
                refine W_run 1 [(1, .int .i64 x4568), (2, .pointer (some ⟨b4570, 0, none⟩)), (6, .pointer (some ⟨b4718, 0, none⟩)), (7, .int .i64 r4695.2.1), (8, .bool r4695.2.2), (10, .pointer (some ⟨b5582, 0, none⟩)), (14, .int .i64 1), (81, .agg #[.slice p5561 r5559.1.Memory.length c5562, .slice p5566 r5559.1.Copy.length c5567, .slice p5571 r5559.1.Dirty.length c5572]), (82, .int .i64 1)] w5677 (by kernel_rfl) ?_
                obtain ⟨r5682, hr5682, hm⟩ := gx_bind hm
                refine W_call 23 #[.agg #[.slice p5561 r5559.1.Memory.length c5562, .slice p5566 r5559.1.Copy.length c5567, .slice p5571 r5559.1.Dirty.length c5572], .int .i64 1] (by kernel_rfl) (by kernel_rfl) ?_
                refine (c_l_markCopying w5677 r5559.1 p5561 c5562 sg5563 ho5564 p5566 c5567 sg5568 ho5569 p5571 c5572 sg5573 ho5574 1 (M5678.hasPick [5, 6, 7]) (M5678.nodupPick [5, 6, 7] (by kernel_rfl)) hr5682).mono ?_
                rintro e_ w5692 ⟨sg5683, sg5686, sg5689, rfl, ho5684, hl5685, ho5687, hl5688, ho5690, hl5691, K5693⟩
                have M5694 := M5678.callF' [5, 6, 7] [0, 1, 2, 3, 4, 8] (by kernel_rfl) K5693
                refine ⟨_, rfl, ?_⟩
                refine W_conv 81 (.agg #[.slice p5561 r5559.1.Memory.length c5562, .slice p5566 r5559.1.Copy.length c5567, .slice p5571 r5559.1.Dirty.length c5572]) (.agg #[.slice p5561 r5682.2.1.length c5562, .slice p5566 r5682.2.2.1.length c5567, .slice p5571 r5682.2.2.2.length c5572]) (by kernel_rfl) (by first | rw [hl5685, hl5688, hl5691] | rw [hl5685] | rw [hl5688] | rw [hl5691]) ?_
                have M5695 : Mem [] w w5692 [[(b4570, .cells ⟨[.slice p4557 x4555.Memory.length c4558, .slice p4561 x4555.Copy.length c4562, .slice p4565 x4555.Dirty.length c4566]⟩ 25 (0, 0))], sg4699, sg4704, sg4709, [(b4718, .cells ⟨[.slice p4697 r4695.1.Memory.length c4698, .slice p4702 r4695.1.Copy.length c4703, .slice p4707 r4695.1.Dirty.length c4708]⟩ 28 (0, 0))], [(b5582, .cells ⟨[.slice p5561 r5682.2.1.length c5562, .slice p5566 r5682.2.2.1.length c5567, .slice p5571 r5682.2.2.2.length c5572]⟩ 28 (0, 0))], sg5683, sg5686, sg5689] := by rw [hl5685, hl5688, hl5691]; exact M5694
                refine W_run 1 [(1, .int .i64 x4568), (2, .pointer (some ⟨b4570, 0, none⟩)), (6, .pointer (some ⟨b4718, 0, none⟩)), (7, .int .i64 r4695.2.1), (8, .bool r4695.2.2), (10, .pointer (some ⟨b5582, 0, none⟩)), (14, .int .i64 r5682.1)] w5692 (by kernel_rfl) ?_
                refine W_nil ?_
                refine N_then ?_
                refine G_seq ?_
                refine G_region ?_
                refine W_run 1 [(1, .int .i64 x4568), (2, .pointer (some ⟨b4570, 0, none⟩)), (6, .pointer (some ⟨b4718, 0, none⟩)), (7, .int .i64 r4695.2.1), (8, .bool r4695.2.2), (10, .pointer (some ⟨b5582, 0, none⟩)), (14, .int .i64 r5682.1), (15, .int .i64 1)] w5692 (by kernel_rfl) ?_
                refine W_nil ?_
                refine N_then ?_
                refine G_seq ?_
                refine G_region ?_
                refine W_val (.agg #[.slice p5561 r5682.2.1.length c5562, .slice p5566 r5682.2.2.1.length c5567, .slice p5571 r5682.2.2.2.length c5572]) w5692 (by kernel_rfl) (E_load (e := 28) (fr := (0, 0)) _ _ true 3 b5582 0 [.slice p5561 r5682.2.1.length c5562, .slice p5566 r5682.2.2.1.length c5567, .slice p5571 r5682.2.2.2.length c5572] (.agg #[.slice p5561 r5682.2.1.length c5562, .slice p5566 r5682.2.2.1.length c5567, .slice p5571 r5682.2.2.2.length c5572]) rfl (by kernel_rfl) (by kernel_rfl) (by kernel_rfl) (M5695.blk 5 (b := b5582) (o := .cells ⟨[.slice p5561 r5682.2.1.length c5562, .slice p5566 r5682.2.2.1.length c5567, .slice p5571 r5682.2.2.2.length c5572]⟩ 28 (0, 0)) (by kernel_rfl))) ?_
                refine W_run 1 [(1, .int .i64 x4568), (2, .pointer (some ⟨b4570, 0, none⟩)), (6, .pointer (some ⟨b4718, 0, none⟩)), (7, .int .i64 r4695.2.1), (8, .bool r4695.2.2), (10, .pointer (some ⟨b5582, 0, none⟩)), (14, .int .i64 r5682.1), (15, .int .i64 1), (84, .agg #[.slice p5561 r5682.2.1.length c5562, .slice p5566 r5682.2.2.1.length c5567, .slice p5571 r5682.2.2.2.length c5572]), (85, .int .i64 1)] w5692 (by kernel_rfl) ?_
                obtain ⟨r5696, hr5696, hm⟩ := gx_bind hm
                refine W_call 24 #[.agg #[.slice p5561 r5682.2.1.length c5562, .slice p5566 r5682.2.2.1.length c5567, .slice p5571 r5682.2.2.2.length c5572], .int .i64 1] (by kernel_rfl) (by kernel_rfl) ?_
                refine (c_l_heldCopying w5692 (⟨r5682.2.1, r5682.2.2.1, r5682.2.2.2⟩ : Copying) p5561 c5562 (ho5684.rd M5695 6 (by kernel_rfl)) p5566 c5567 (ho5687.rd M5695 7 (by kernel_rfl)) p5571 c5572 (ho5690.rd M5695 8 (by kernel_rfl)) 1 hr5696).mono ?_
                rintro e_ w5697 ⟨rfl, K5698⟩
                have M5699 := M5695.call0 K5698
                refine ⟨_, rfl, ?_⟩
                refine W_run 1 [(1, .int .i64 x4568), (2, .pointer (some ⟨b4570, 0, none⟩)), (6, .pointer (some ⟨b4718, 0, none⟩)), (7, .int .i64 r4695.2.1), (8, .bool r4695.2.2), (10, .pointer (some ⟨b5582, 0, none⟩)), (14, .int .i64 r5682.1), (15, .int .i64 r5696)] w5697 (by kernel_rfl) ?_
                refine W_nil ?_
                refine N_then ?_
                refine G_seq ?_
                refine G_seq ?_
                refine G_region ?_
                refine W_run 2 [(1, .int .i64 x4568), (2, .pointer (some ⟨b4570, 0, none⟩)), (6, .pointer (some ⟨b4718, 0, none⟩)), (7, .int .i64 r4695.2.1), (8, .bool r4695.2.2), (10, .pointer (some ⟨b5582, 0, none⟩)), (14, .int .i64 r5682.1), (15, .int .i64 r5696), (88, .bool (decide (r5696 < 0)))] w5697 (by kernel_rfl) ?_
                refine W_nil ?_
                refine N_then ?_
                rcases gx_bif hm with ⟨hc5700, hm⟩ | ⟨hc5700, hm⟩
                · refine G_cond_t (b := (decide (r5696 < 0))) hc5700 (by kernel_rfl) ?_
                  refine G_seq ?_
                  refine G_region ?_
                  refine W_run 1 [(4, .bool false)] w5697 (by kernel_rfl) ?_
                  refine W_nil ?_
                  refine N_then ?_
                  refine G_ret ?_
                  refine N_then_ret ?_
                  obtain rfl := Option.some.inj hm
                  refine N_ret [.bool false] (RVs_cons (RV_tmp (by kernel_rfl)) RVs_nil) ?_
                  exact ⟨rfl, M5699.pick [] (by kernel_rfl)⟩
                · refine G_cond_f (b := (decide (r5696 < 0))) hc5700 (by kernel_rfl) ?_
                  refine G_skip ?_
                  refine N_then ?_
                  refine G_seq ?_
                  refine G_seq ?_
                  refine G_region ?_
                  refine W_run 3 [(1, .int .i64 x4568), (2, .pointer (some ⟨b4570, 0, none⟩)), (6, .pointer (some ⟨b4718, 0, none⟩)), (7, .int .i64 r4695.2.1), (8, .bool r4695.2.2), (10, .pointer (some ⟨b5582, 0, none⟩)), (14, .int .i64 r5682.1), (91, .bool (r5696 != r5682.1))] w5697 (by kernel_rfl) ?_
                  refine W_nil ?_
                  refine N_then ?_
                  rcases gx_bif hm with ⟨hc5701, hm⟩ | ⟨hc5701, hm⟩
                  · refine G_cond_t (b := (r5696 != r5682.1)) hc5701 (by kernel_rfl) ?_
                    refine G_seq ?_
                    refine G_region ?_
                    refine W_run 1 [(4, .bool false)] w5697 (by kernel_rfl) ?_
                    refine W_nil ?_
                    refine N_then ?_
                    refine G_ret ?_
                    refine N_then_ret ?_
                    obtain rfl := Option.some.inj hm
                    refine N_ret [.bool false] (RVs_cons (RV_tmp (by kernel_rfl)) RVs_nil) ?_
                    exact ⟨rfl, M5699.pick [] (by kernel_rfl)⟩
                  · refine G_cond_f (b := (r5696 != r5682.1)) hc5701 (by kernel_rfl) ?_
                    refine G_skip ?_
                    refine N_then ?_
                    refine G_seq ?_
                    refine G_region ?_
                    refine W_val (.agg #[.slice p4557 x4555.Memory.length c4558, .slice p4561 x4555.Copy.length c4562, .slice p4565 x4555.Dirty.length c4566]) w5697 (by kernel_rfl) (E_load (e := 25) (fr := (0, 0)) _ _ true 3 b4570 0 [.slice p4557 x4555.Memory.length c4558, .slice p4561 x4555.Copy.length c4562, .slice p4565 x4555.Dirty.length c4566] (.agg #[.slice p4557 x4555.Memory.length c4558, .slice p4561 x4555.Copy.length c4562, .slice p4565 x4555.Dirty.length c4566]) rfl (by kernel_rfl) (by kernel_rfl) (by kernel_rfl) (M5699.blk 0 (b := b4570) (o := .cells ⟨[.slice p4557 x4555.Memory.length c4558, .slice p4561 x4555.Copy.length c4562, .slice p4565 x4555.Dirty.length c4566]⟩ 25 (0, 0)) (by kernel_rfl))) ?_
                    obtain ⟨r5702, hr5702, hm⟩ := gx_bind hm
                    refine W_call 15 #[.agg #[.slice p4557 x4555.Memory.length c4558, .slice p4561 x4555.Copy.length c4562, .slice p4565 x4555.Dirty.length c4566]] (by kernel_rfl) (by kernel_rfl) ?_
                    refine (c_l_toCopying w5697 x4555 p4557 c4558 (h4559.mem0 M5699) p4561 c4562 (h4563.mem0 M5699) p4565 c4566 (h4567.mem0 M5699) hr5702).mono ?_
                    rintro e_ w5718 ⟨p5704, c5705, sg5706, p5709, c5710, sg5711, p5714, c5715, sg5716, rfl, ho5707, ho5712, ho5717, K5719⟩
                    have M5720 := M5699.call K5719
                    refine ⟨_, rfl, ?_⟩
                    refine W_run 1 [(6, .pointer (some ⟨b4718, 0, none⟩)), (7, .int .i64 r4695.2.1), (8, .bool r4695.2.2), (10, .pointer (some ⟨b5582, 0, none⟩)), (14, .int .i64 r5682.1), (94, .agg #[.slice p5704 r5702.Memory.length c5705, .slice p5709 r5702.Copy.length c5710, .slice p5714 r5702.Dirty.length c5715]), (95, .int .i64 x4568)] w5718 (by kernel_rfl) ?_
                    obtain ⟨r5721, hr5721, hm⟩ := gx_bind hm
                    refine W_call 34 #[.agg #[.slice p5704 r5702.Memory.length c5705, .slice p5709 r5702.Copy.length c5710, .slice p5714 r5702.Dirty.length c5715], .int .i64 x4568] (by kernel_rfl) (by kernel_rfl) ?_
                    refine (c_i_CopyRound w5718 r5702 p5704 c5705 (ho5707.rd M5720 9 (by kernel_rfl)) p5709 c5710 (ho5712.rd M5720 10 (by kernel_rfl)) p5714 c5715 (ho5717.rd M5720 11 (by kernel_rfl)) x4568 hr5721).mono ?_
                    rintro e_ w5737 ⟨p5723, c5724, sg5725, p5728, c5729, sg5730, p5733, c5734, sg5735, rfl, ho5726, ho5731, ho5736, K5738⟩
                    have M5739 := M5720.call K5738
                    refine ⟨_, rfl, ?_⟩
                    refine W_run 4 [(6, .pointer (some ⟨b4718, 0, none⟩)), (7, .int .i64 r4695.2.1), (8, .bool r4695.2.2), (10, .pointer (some ⟨b5582, 0, none⟩)), (14, .int .i64 r5682.1), (97, .agg #[.slice p5723 r5721.1.Memory.length c5724, .slice p5728 r5721.1.Copy.length c5729, .slice p5733 r5721.1.Dirty.length c5734]), (98, .int .i64 r5721.2.1), (99, .bool r5721.2.2)] w5737 (by kernel_rfl) ?_
                    refine W_new (fun b => .pointer (some ⟨b, 0, none⟩)) (.cells ⟨[.slice none 0 0, .slice none 0 0, .slice none 0 0]⟩ 28 (0, 0)) M5739 rfl (by kernel_rfl) (by kernel_rfl) ?_
                    intro b5744 w5745 M5746
                    refine W_store _ _ _ true 3 b5744 0 [.slice none 0 0, .slice none 0 0, .slice none 0 0] 28 (.agg #[.slice p5723 r5721.1.Memory.length c5724, .slice p5728 r5721.1.Copy.length c5729, .slice p5733 r5721.1.Dirty.length c5734]) 15 [.slice p5723 r5721.1.Memory.length c5724, .slice p5728 r5721.1.Copy.length c5729, .slice p5733 r5721.1.Dirty.length c5734] M5746 (by kernel_rfl) rfl (by kernel_rfl) (by kernel_rfl) (by kernel_rfl) (by kernel_rfl) (by kernel_rfl) (by kernel_rfl) (by kernel_rfl) (by kernel_rfl) ?_
                    intro w5747 M5748
                    refine W_run 2 [(6, .pointer (some ⟨b4718, 0, none⟩)), (7, .int .i64 r4695.2.1), (8, .bool r4695.2.2), (10, .pointer (some ⟨b5582, 0, none⟩)), (14, .int .i64 r5682.1), (16, .pointer (some ⟨b5744, 0, none⟩)), (17, .int .i64 r5721.2.1), (18, .bool r5721.2.2)] w5747 (by kernel_rfl) ?_
                    refine W_nil ?_
                    refine N_then ?_
                    refine G_seq ?_
                    refine G_seq ?_
                    obtain ⟨o5755, ho5756, hm5757⟩ := gx_bind hm
                    refine G_meet (fun a w' => Mem [] w w' [[(b5582, .cells ⟨[.slice p5561 r5682.2.1.length c5562, .slice p5566 r5682.2.2.1.length c5567, .slice p5571 r5682.2.2.2.length c5572]⟩ 28 (0, 0))], sg5683, sg5686, sg5689] ∧ Sat Try.f8.ntmps [(10, .pointer (some ⟨b5582, 0, none⟩)), (14, .int .i64 r5682.1), (113, .bool o5755)] a) ?_ ?_
                    · have hm := ho5756
                      refine G_region ?_
                      refine W_val (.agg #[.slice p5723 r5721.1.Memory.length c5724, .slice p5728 r5721.1.Copy.length c5729, .slice p5733 r5721.1.Dirty.length c5734]) w5747 (by kernel_rfl) (E_load (e := 28) (fr := (0, 0)) _ _ true 3 b5744 0 [.slice p5723 r5721.1.Memory.length c5724, .slice p5728 r5721.1.Copy.length c5729, .slice p5733 r5721.1.Dirty.length c5734] (.agg #[.slice p5723 r5721.1.Memory.length c5724, .slice p5728 r5721.1.Copy.length c5729, .slice p5733 r5721.1.Dirty.length c5734]) rfl (by kernel_rfl) (by kernel_rfl) (by kernel_rfl) (M5748.blk 15 (b := b5744) (o := .cells ⟨[.slice p5723 r5721.1.Memory.length c5724, .slice p5728 r5721.1.Copy.length c5729, .slice p5733 r5721.1.Dirty.length c5734]⟩ 28 (0, 0)) (by kernel_rfl))) ?_
                      refine W_val (.agg #[.slice p4697 r4695.1.Memory.length c4698, .slice p4702 r4695.1.Copy.length c4703, .slice p4707 r4695.1.Dirty.length c4708]) w5747 (by kernel_rfl) (E_load (e := 28) (fr := (0, 0)) _ _ true 3 b4718 0 [.slice p4697 r4695.1.Memory.length c4698, .slice p4702 r4695.1.Copy.length c4703, .slice p4707 r4695.1.Dirty.length c4708] (.agg #[.slice p4697 r4695.1.Memory.length c4698, .slice p4702 r4695.1.Copy.length c4703, .slice p4707 r4695.1.Dirty.length c4708]) rfl (by kernel_rfl) (by kernel_rfl) (by kernel_rfl) (M5748.blk 4 (b := b4718) (o := .cells ⟨[.slice p4697 r4695.1.Memory.length c4698, .slice p4702 r4695.1.Copy.length c4703, .slice p4707 r4695.1.Dirty.length c4708]⟩ 28 (0, 0)) (by kernel_rfl))) ?_
                      obtain ⟨r5758, hr5758, hm⟩ := gx_bind hm
                      refine W_call 17 #[.agg #[.slice p5723 r5721.1.Memory.length c5724, .slice p5728 r5721.1.Copy.length c5729, .slice p5733 r5721.1.Dirty.length c5734], .agg #[.slice p4697 r4695.1.Memory.length c4698, .slice p4702 r4695.1.Copy.length c4703, .slice p4707 r4695.1.Dirty.length c4708]] (by kernel_rfl) (by kernel_rfl) ?_
                      refine (c_l_eqCopying w5747 r5721.1 p5723 c5724 (ho5726.rd M5748 12 (by kernel_rfl)) p5728 c5729 (ho5731.rd M5748 13 (by kernel_rfl)) p5733 c5734 (ho5736.rd M5748 14 (by kernel_rfl)) r4695.1 p4697 c4698 (ho4700.rd M5748 1 (by kernel_rfl)) p4702 c4703 (ho4705.rd M5748 2 (by kernel_rfl)) p4707 c4708 (ho4710.rd M5748 3 (by kernel_rfl)) hr5758).mono ?_
                      rintro e_ w5759 ⟨rfl, K5760⟩
                      have M5761 := M5748.call0 K5760
                      refine ⟨_, rfl, ?_⟩
                      refine W_run 2 [(7, .int .i64 r4695.2.1), (8, .bool r4695.2.2), (10, .pointer (some ⟨b5582, 0, none⟩)), (14, .int .i64 r5682.1), (17, .int .i64 r5721.2.1), (18, .bool r5721.2.2), (104, .bool (!r5758))] w5759 (by kernel_rfl) ?_
                      rcases gx_bif hm with ⟨hc5762, hm⟩ | ⟨hc5762, hm⟩
                      · refine W_known 104 true (by kernel_rfl) hc5762 ?_
                        refine W_run 9 [(10, .pointer (some ⟨b5582, 0, none⟩)), (14, .int .i64 r5682.1), (113, .bool true)] w5759 (by kernel_rfl) ?_
                        refine W_nil ?_
                        obtain rfl := Option.some.inj hm
                        exact N_meet fun a ha => ⟨M5761.pick [5, 6, 7, 8] (by kernel_rfl), ha.sub (by kernel_rfl)⟩
                      · refine W_known 104 false (by kernel_rfl) hc5762 ?_
                        refine W_run 5 [(8, .bool r4695.2.2), (10, .pointer (some ⟨b5582, 0, none⟩)), (14, .int .i64 r5682.1), (18, .bool r5721.2.2), (109, .bool (r5721.2.1 != r4695.2.1))] w5759 (by kernel_rfl) ?_
                        rcases gx_bif hm with ⟨hc5763, hm⟩ | ⟨hc5763, hm⟩
                        · refine W_known 109 true (by kernel_rfl) hc5763 ?_
                          refine W_run 4 [(10, .pointer (some ⟨b5582, 0, none⟩)), (14, .int .i64 r5682.1), (113, .bool true)] w5759 (by kernel_rfl) ?_
                          refine W_nil ?_
                          obtain rfl := Option.some.inj hm
                          exact N_meet fun a ha => ⟨M5761.pick [5, 6, 7, 8] (by kernel_rfl), ha.sub (by kernel_rfl)⟩
                        · refine W_known 109 false (by kernel_rfl) hc5763 ?_
                          refine W_run 4 [(10, .pointer (some ⟨b5582, 0, none⟩)), (14, .int .i64 r5682.1), (113, .bool (!(r5721.2.2 == r4695.2.2)))] w5759 (by kernel_rfl) ?_
                          refine W_nil ?_
                          obtain rfl := Option.some.inj hm
                          exact N_meet fun a ha => ⟨M5761.pick [5, 6, 7, 8] (by kernel_rfl), ha.sub (by kernel_rfl)⟩
                    · intro a5766 w5764 ⟨M5765, hS5767⟩
                      refine N_use hS5767 ?_
                      have hm := hm5757
                      refine N_then ?_
                      rcases gx_bif hm with ⟨hc5768, hm⟩ | ⟨hc5768, hm⟩
                      · refine G_cond_t (b := o5755) hc5768 (by kernel_rfl) ?_
                        refine G_seq ?_
                        refine G_region ?_
                        refine W_run 1 [(4, .bool false)] w5764 (by kernel_rfl) ?_
                        refine W_nil ?_
                        refine N_then ?_
                        refine G_ret ?_
                        refine N_then_ret ?_
                        obtain rfl := Option.some.inj hm
                        refine N_ret [.bool false] (RVs_cons (RV_tmp (by kernel_rfl)) RVs_nil) ?_
                        exact ⟨rfl, M5765.pick [] (by kernel_rfl)⟩
                      · refine G_cond_f (b := o5755) hc5768 (by kernel_rfl) ?_
                        refine G_skip ?_
                        refine N_then ?_
                        refine G_seq ?_
                        refine G_region ?_
                        refine W_run 1 [(10, .pointer (some ⟨b5582, 0, none⟩)), (14, .int .i64 r5682.1), (15, .int .i64 1)] w5764 (by kernel_rfl) ?_
                        refine W_nil ?_
                        refine N_then ?_
                        refine G_seq ?_
                        refine G_region ?_
                        refine W_val (.agg #[.slice p5561 r5682.2.1.length c5562, .slice p5566 r5682.2.2.1.length c5567, .slice p5571 r5682.2.2.2.length c5572]) w5764 (by kernel_rfl) (E_load (e := 28) (fr := (0, 0)) _ _ true 3 b5582 0 [.slice p5561 r5682.2.1.length c5562, .slice p5566 r5682.2.2.1.length c5567, .slice p5571 r5682.2.2.2.length c5572] (.agg #[.slice p5561 r5682.2.1.length c5562, .slice p5566 r5682.2.2.1.length c5567, .slice p5571 r5682.2.2.2.length c5572]) rfl (by kernel_rfl) (by kernel_rfl) (by kernel_rfl) (M5765.blk 0 (b := b5582) (o := .cells ⟨[.slice p5561 r5682.2.1.length c5562, .slice p5566 r5682.2.2.1.length c5567, .slice p5571 r5682.2.2.2.length c5572]⟩ 28 (0, 0)) (by kernel_rfl))) ?_
                        refine W_run 1 [(14, .int .i64 r5682.1), (15, .int .i64 1), (114, .agg #[.slice p5561 r5682.2.1.length c5562, .slice p5566 r5682.2.2.1.length c5567, .slice p5571 r5682.2.2.2.length c5572]), (115, .int .i64 1)] w5764 (by kernel_rfl) ?_
                        obtain ⟨r5769, hr5769, hm⟩ := gx_bind hm
                        refine W_call 24 #[.agg #[.slice p5561 r5682.2.1.length c5562, .slice p5566 r5682.2.2.1.length c5567, .slice p5571 r5682.2.2.2.length c5572], .int .i64 1] (by kernel_rfl) (by kernel_rfl) ?_
                        refine (c_l_heldCopying w5764 (⟨r5682.2.1, r5682.2.2.1, r5682.2.2.2⟩ : Copying) p5561 c5562 (ho5684.rd M5765 1 (by kernel_rfl)) p5566 c5567 (ho5687.rd M5765 2 (by kernel_rfl)) p5571 c5572 (ho5690.rd M5765 3 (by kernel_rfl)) 1 hr5769).mono ?_
                        rintro e_ w5770 ⟨rfl, K5771⟩
                        have M5772 := M5765.call0 K5771
                        refine ⟨_, rfl, ?_⟩
                        refine W_run 1 [(14, .int .i64 r5682.1), (15, .int .i64 r5769)] w5770 (by kernel_rfl) ?_
                        refine W_nil ?_
                        refine N_then ?_
                        refine G_seq ?_
                        refine G_seq ?_
                        refine G_region ?_
                        refine W_run 2 [(14, .int .i64 r5682.1), (15, .int .i64 r5769), (118, .bool (decide (r5769 < 0)))] w5770 (by kernel_rfl) ?_
                        refine W_nil ?_
                        refine N_then ?_
                        rcases gx_bif hm with ⟨hc5773, hm⟩ | ⟨hc5773, hm⟩
                        · refine G_cond_t (b := (decide (r5769 < 0))) hc5773 (by kernel_rfl) ?_
                          refine G_seq ?_
                          refine G_region ?_
                          refine W_run 1 [(4, .bool false)] w5770 (by kernel_rfl) ?_
                          refine W_nil ?_
                          refine N_then ?_
                          refine G_ret ?_
                          refine N_then_ret ?_
                          obtain rfl := Option.some.inj hm
                          refine N_ret [.bool false] (RVs_cons (RV_tmp (by kernel_rfl)) RVs_nil) ?_
                          exact ⟨rfl, M5772.pick [] (by kernel_rfl)⟩
                        · refine G_cond_f (b := (decide (r5769 < 0))) hc5773 (by kernel_rfl) ?_
                          refine G_skip ?_
                          refine N_then ?_
                          refine G_seq ?_
                          refine G_seq ?_
                          refine G_region ?_
                          refine W_run 3 [(121, .bool (r5769 != r5682.1))] w5770 (by kernel_rfl) ?_
                          refine W_nil ?_
                          refine N_then ?_
                          rcases gx_bif hm with ⟨hc5774, hm⟩ | ⟨hc5774, hm⟩
                          · refine G_cond_t (b := (r5769 != r5682.1)) hc5774 (by kernel_rfl) ?_
                            refine G_seq ?_
                            refine G_region ?_
                            refine W_run 1 [(4, .bool false)] w5770 (by kernel_rfl) ?_
                            refine W_nil ?_
                            refine N_then ?_
                            refine G_ret ?_
                            refine N_then_ret ?_
                            obtain rfl := Option.some.inj hm
                            refine N_ret [.bool false] (RVs_cons (RV_tmp (by kernel_rfl)) RVs_nil) ?_
                            exact ⟨rfl, M5772.pick [] (by kernel_rfl)⟩
                          · refine G_cond_f (b := (r5769 != r5682.1)) hc5774 (by kernel_rfl) ?_
                            refine G_skip ?_
                            refine N_then ?_
                            refine G_seq ?_
                            refine G_region ?_
                            refine W_run 1 [(4, .bool true)] w5770 (by kernel_rfl) ?_
                            refine W_nil ?_
                            refine N_then ?_
                            refine G_ret ?_
                            obtain rfl := Option.some.inj hm
                            refine N_ret [.bool true] (RVs_cons (RV_tmp (by kernel_rfl)) RVs_nil) ?_
                            exact ⟨rfl, M5772.pick [] (by kernel_rfl)⟩
theorem c_l_szStoreS (w : World) (x5820 : List Store) (p5822 : Option Addr) (c5823 : Nat) (h5824 : rdS encStore w x5820 p5822 c5823) (x5825 : Int) {r : Int} (hm : M.l_szStoreS x5820 x5825 = some r) :
    Calls Try.prog 76 #[.slice p5822 x5820.length c5823, .int .i64 x5825] w fun e w' => e = .returned (.int .i64 r) ∧ Mem [] w w' [] := by
  unfold M.l_szStoreS at hm
  refine C_enter Try.func76 rfl (by kernel_rfl) ?_
  have M0 := Mem.refl [] w
  refine G_seq ?_
  refine G_region ?_
  refine W_run 1 [(0, .slice p5822 x5820.length c5823), (1, .int .i64 x5825)] w (by kernel_rfl) ?_
  refine W_nil ?_
  refine N_then ?_
  refine G_seq ?_
  refine G_region ?_
  refine W_run 5 [(1, .int .i64 (w64 (x5825 - (x5820.length : Int))))] w (by kernel_rfl) ?_
  refine W_nil ?_
  refine N_then ?_
  refine G_seq ?_
  refine G_seq ?_
  refine G_region ?_
  refine W_run 2 [(1, .int .i64 (w64 (x5825 - (x5820.length : Int)))), (10, .bool (decide ((w64 (x5825 - (x5820.length : Int))) < 0)))] w (by kernel_rfl) ?_
  refine W_nil ?_
  refine N_then ?_
  rcases gx_bif hm with ⟨hc5826, hm⟩ | ⟨hc5826, hm⟩
  · refine G_cond_t (b := (decide ((w64 (x5825 - (x5820.length : Int))) < 0))) hc5826 (by kernel_rfl) ?_
    refine G_seq ?_
    refine G_region ?_
    refine W_run 1 [(4, .int .i64 (-1))] w (by kernel_rfl) ?_
    refine W_nil ?_
    refine N_then ?_
    refine G_ret ?_
    refine N_then_ret ?_
    obtain rfl := Option.some.inj hm
    refine N_ret [.int .i64 (-1)] (RVs_cons (RV_tmp (by kernel_rfl)) RVs_nil) ?_
    exact ⟨rfl, M0.pick [] (by kernel_rfl)⟩
  · refine G_cond_f (b := (decide ((w64 (x5825 - (x5820.length : Int))) < 0))) hc5826 (by kernel_rfl) ?_
    refine G_skip ?_
    refine N_then ?_
    refine G_seq ?_
    refine G_region ?_
    refine W_run 2 [(4, .int .i64 (w64 (x5825 - (x5820.length : Int))))] w (by kernel_rfl) ?_
    refine W_nil ?_
    refine N_then ?_
    refine G_ret ?_
    obtain rfl := Option.some.inj hm
    refine N_ret [.int .i64 (w64 (x5825 - (x5820.length : Int)))] (RVs_cons (RV_tmp (by kernel_rfl)) RVs_nil) ?_
    exact ⟨rfl, M0.pick [] (by kernel_rfl)⟩
theorem c_l_szStoreSS (w : World) (x5804 : List (List Store)) (p5806 : Option Addr) (c5807 : Nat) (h5808 : rdD (deepL encStore) w x5804 p5806 c5807) (x5809 : Int) {r : Int} (hm : M.l_szStoreSS x5804 x5809 = some r) :
    Calls Try.prog 35 #[.slice p5806 x5804.length c5807, .int .i64 x5809] w fun e w' => e = .returned (.int .i64 r) ∧ Mem [] w w' [] := by
  unfold M.l_szStoreSS at hm
  refine C_enter Try.func35 rfl (by kernel_rfl) ?_
  have M0 := Mem.refl [] w
  refine G_seq ?_
  refine G_region ?_
  refine W_run 1 [(0, .slice p5806 x5804.length c5807), (1, .int .i64 x5809)] w (by kernel_rfl) ?_
  refine W_nil ?_
  refine N_then ?_
  refine G_seq ?_
  refine G_region ?_
  refine W_run 5 [(0, .slice p5806 x5804.length c5807), (1, .int .i64 (w64 (x5809 - (x5804.length : Int))))] w (by kernel_rfl) ?_
  refine W_nil ?_
  refine N_then ?_
  refine G_seq ?_
  refine G_seq ?_
  refine G_region ?_
  refine W_run 2 [(0, .slice p5806 x5804.length c5807), (1, .int .i64 (w64 (x5809 - (x5804.length : Int)))), (11, .bool (decide ((w64 (x5809 - (x5804.length : Int))) < 0)))] w (by kernel_rfl) ?_
  refine W_nil ?_
  refine N_then ?_
  rcases gx_bif hm with ⟨hc5810, hm⟩ | ⟨hc5810, hm⟩
  · refine G_cond_t (b := (decide ((w64 (x5809 - (x5804.length : Int))) < 0))) hc5810 (by kernel_rfl) ?_
    refine G_seq ?_
    refine G_region ?_
    refine W_run 1 [(4, .int .i64 (-1))] w (by kernel_rfl) ?_
    refine W_nil ?_
    refine N_then ?_
    refine G_ret ?_
    refine N_then_ret ?_
    obtain rfl := Option.some.inj hm
    refine N_ret [.int .i64 (-1)] (RVs_cons (RV_tmp (by kernel_rfl)) RVs_nil) ?_
    exact ⟨rfl, M0.pick [] (by kernel_rfl)⟩
  · refine G_cond_f (b := (decide ((w64 (x5809 - (x5804.length : Int))) < 0))) hc5810 (by kernel_rfl) ?_
    refine G_skip ?_
    refine N_then ?_
    refine G_seq ?_
    refine G_seq ?_
    refine G_region ?_
    refine W_run 1 [(0, .slice p5806 x5804.length c5807), (1, .int .i64 (w64 (x5809 - (x5804.length : Int)))), (5, .int .i64 0)] w (by kernel_rfl) ?_
    refine W_nil ?_
    refine N_then ?_
    obtain ⟨out5853, hw5854, hmo5855⟩ := gx_bind hm
    refine G_meet (fun a w' => ∃ (o5856 : Int), out5853 = .inl o5856 ∧ Mem [] w w' [] ∧ Sat Try.f35.ntmps [(1, .int .i64 o5856)] a) ?_ ?_
    · refine G_block ?_
      refine G_while (σ := Int × Int) (ρ := (Int) ⊕ (Int)) (fun s5846 a w' => Mem [] w w' [] ∧ Sat Try.f35.ntmps [(0, .slice p5806 x5804.length c5807), (1, .int .i64 s5846.1), (5, .int .i64 s5846.2)] a) hw5854 (fun a ha => ⟨M0.pick [] (by kernel_rfl), ha.sub (by kernel_rfl)⟩) ?_
      clear hm
      intro s5846 x5847 hm hout5848 a5849 w5850 ⟨M5851, hS5852⟩
      refine G_use hS5852 ?_
      refine G_seq ?_
      refine G_seq ?_
      refine G_region ?_
      refine W_run 4 [(0, .slice p5806 x5804.length c5807), (1, .int .i64 s5846.1), (5, .int .i64 s5846.2), (15, .bool (decide (s5846.2 < (x5804.length : Int))))] w5850 (by kernel_rfl) ?_
      refine W_nil ?_
      refine N_then ?_
      rcases gx_bif hm with ⟨hc5857, hm⟩ | ⟨hc5857, hm⟩
      · refine G_cond_t (b := (decide (s5846.2 < (x5804.length : Int)))) hc5857 (by kernel_rfl) ?_
        refine G_skip ?_
        refine N_then ?_
        refine G_seq ?_
        refine G_block ?_
        refine G_seq ?_
        refine G_region ?_
        refine W_run 2 [(0, .slice p5806 x5804.length c5807), (1, .int .i64 s5846.1), (5, .int .i64 s5846.2), (18, .slice p5806 x5804.length c5807), (19, .int .i64 s5846.2)] w5850 (by kernel_rfl) ?_
        obtain ⟨y5858, hy5858, hm⟩ := gx_bind hm
        obtain ⟨zs5859, hz5860, hr5861, hi5862⟩ := id h5808
        obtain ⟨g5863, hg5864⟩ := gxIdx_fst hz5860 hy5858
        refine W_val (elemP p5806 (s5846.2.toNat * 1)) w5850 (by kernel_rfl) (E_index (E := (deepL encStore).E) _ _ _ x5804.length c5807 .i64 s5846.2 1 (y := (y5858, g5863)) rfl (by kernel_rfl) (by kernel_rfl) (by kernel_rfl) (hr5861.mem0 M5851) (len_fst hz5860) hg5864) ?_
        refine W_val (.slice ((g5863 0).1) y5858.length ((g5863 0).2)) w5850 (by kernel_rfl) (E_loadE (E := (deepL encStore).E) _ _ false 1 s5846.2 0 (s5846.2.toNat * 1) (y5858, g5863) (.slice ((g5863 0).1) y5858.length ((g5863 0).2)) rfl (by kernel_rfl) (by kernel_rfl) (by kernel_rfl) (hr5861.mem0 M5851) hg5864 rfl) ?_
        refine W_run 1 [(0, .slice p5806 x5804.length c5807), (1, .int .i64 s5846.1), (5, .int .i64 s5846.2), (21, .slice ((g5863 0).1) y5858.length ((g5863 0).2)), (22, .int .i64 s5846.1)] w5850 (by kernel_rfl) ?_
        obtain ⟨r5866, hr5866, hm⟩ := gx_bind hm
        refine W_call 76 #[.slice ((g5863 0).1) y5858.length ((g5863 0).2), .int .i64 s5846.1] (by kernel_rfl) (by kernel_rfl) ?_
        refine (c_l_szStoreS w5850 y5858 ((g5863 0).1) ((g5863 0).2) ((hi5862.mem0 M5851).at_ hg5864 0 ⟨Store, encStore, y5858, (g5863 0).1, (g5863 0).2⟩ (by kernel_rfl)) s5846.1 hr5866).mono ?_
        rintro e_ w5867 ⟨rfl, K5868⟩
        have M5869 := M5851.call0 K5868
        refine ⟨_, rfl, ?_⟩
        refine W_run 1 [(0, .slice p5806 x5804.length c5807), (1, .int .i64 r5866), (5, .int .i64 s5846.2)] w5867 (by kernel_rfl) ?_
        refine W_nil ?_
        refine N_then ?_
        refine G_seq ?_
        refine G_region ?_
        refine W_run 2 [(0, .slice p5806 x5804.length c5807), (1, .int .i64 r5866), (5, .int .i64 s5846.2), (25, .bool (decide (r5866 < 0)))] w5867 (by kernel_rfl) ?_
        refine W_nil ?_
        refine N_then ?_
        rcases gx_bif hm with ⟨hc5870, hm⟩ | ⟨hc5870, hm⟩
        · refine G_cond_t (b := (decide (r5866 < 0))) hc5870 (by kernel_rfl) ?_
          refine G_seq ?_
          refine G_region ?_
          refine W_run 1 [(4, .int .i64 (-1))] w5867 (by kernel_rfl) ?_
          refine W_nil ?_
          refine N_then ?_
          refine G_ret ?_
          refine N_block_ret ?_
          refine N_then_ret ?_
          refine N_then_ret ?_
          obtain rfl := Option.some.inj hm
          obtain rfl := hout5848 _ rfl
          have hm := hmo5855; simp only [Sum.elim_inr] at hm
          refine N_block_ret ?_
          refine N_meet_ret ?_
          refine N_then_ret ?_
          obtain rfl := Option.some.inj hm
          refine N_ret [.int .i64 (-1)] (RVs_cons (RV_tmp (by kernel_rfl)) RVs_nil) ?_
          exact ⟨rfl, M5869.pick [] (by kernel_rfl)⟩
        · refine G_cond_f (b := (decide (r5866 < 0))) hc5870 (by kernel_rfl) ?_
          refine G_skip ?_
          refine N_block ?_
          refine N_then ?_
          refine G_region ?_
          refine W_run 3 [(0, .slice p5806 x5804.length c5807), (1, .int .i64 r5866), (5, .int .i64 (w64 (s5846.2 + 1)))] w5867 (by kernel_rfl) ?_
          refine W_nil ?_
          obtain rfl := Option.some.inj hm
          exact N_loop fun a ha => ⟨_, rfl, M5869.pick [] (by kernel_rfl), ha.sub (by kernel_rfl)⟩
      · refine G_cond_f (b := (decide (s5846.2 < (x5804.length : Int)))) hc5857 (by kernel_rfl) ?_
        refine G_exit ?_
        refine N_then_exit ?_
        refine N_then_exit ?_
        refine N_block_eq ?_
        obtain rfl := Option.some.inj hm
        obtain rfl := hout5848 _ rfl
        exact N_meet fun a ha => ⟨_, rfl, M5851.pick [] (by kernel_rfl), ha.sub (by kernel_rfl)⟩
    · intro a5871 w5872 ⟨o5856, hout_, M5873, hS5874⟩
      refine N_use hS5874 ?_
      subst hout_
      have hm := hmo5855; simp only [Sum.elim_inl] at hm
      refine N_then ?_
      refine G_seq ?_
      refine G_region ?_
      refine W_run 2 [(4, .int .i64 o5856)] w5872 (by kernel_rfl) ?_
      refine W_nil ?_
      refine N_then ?_
      refine G_ret ?_
      obtain rfl := Option.some.inj hm
      refine N_ret [.int .i64 o5856] (RVs_cons (RV_tmp (by kernel_rfl)) RVs_nil) ?_
      exact ⟨rfl, M5873.pick [] (by kernel_rfl)⟩
theorem c_l_toStoreS (w : World) (x5930 : List Store) (p5932 : Option Addr) (c5933 : Nat) (h5934 : rdS encStore w x5930 p5932 c5933) {r : (List Store)} (hm : M.l_toStoreS x5930 = some r) :
    Calls Try.prog 79 #[.slice p5932 x5930.length c5933] w fun e w' => ∃ (p5936 : Option Addr) (c5937 : Nat) (sg5938 : Seg), e = .returned (.slice p5936 r.length c5937) ∧ ownS encStore r p5936 c5937 sg5938 ∧ Mem [] w w' [sg5938] := by
  unfold M.l_toStoreS at hm
  refine C_enter Try.func79 rfl (by kernel_rfl) ?_
  have M0 := Mem.refl [] w
  refine G_seq ?_
  refine G_region ?_
  refine W_run 1 [(0, .slice p5932 x5930.length c5933)] w (by kernel_rfl) ?_
  refine W_nil ?_
  refine N_then ?_
  refine G_seq ?_
  refine G_region ?_
  refine W_run 2 [(0, .slice p5932 x5930.length c5933), (6, .int .i64 (x5930.length : Int))] w (by kernel_rfl) ?_
  obtain ⟨mk5940, hmk5940, hm⟩ := gx_bind hm
  refine W_make (E := encStore) _ _ _ (x5930.length : Int) 16 [.int .i64 0, .int .i64 0] ((⟨0, 0⟩ : Store) : Store) M0 (by kernel_rfl) rfl (by kernel_rfl) (by kernel_rfl) (by kernel_rfl) (by kernel_rfl) (by kernel_rfl) hmk5940 ?_
  intro p5941 c5942 sg5943 w5944 ho5945 M5946
  refine W_run 1 [(0, .slice p5932 x5930.length c5933), (3, .slice p5941 mk5940.length c5942)] w5944 (by kernel_rfl) ?_
  refine W_nil ?_
  refine N_then ?_
  refine G_seq ?_
  refine G_seq ?_
  refine G_region ?_
  refine W_run 1 [(0, .slice p5932 x5930.length c5933), (3, .slice p5941 mk5940.length c5942), (4, .int .i64 0)] w5944 (by kernel_rfl) ?_
  refine W_nil ?_
  refine N_then ?_
  obtain ⟨out5979, hw5980, hmo5981⟩ := gx_bind hm
  refine G_meet (fun a w' => ∃ (sg5985 : Seg), ownS encStore out5979 p5941 c5942 sg5985 ∧ Mem [] w w' [sg5985] ∧ Sat Try.f79.ntmps [(3, .slice p5941 out5979.length c5942)] a) ?_ ?_
  · refine G_block ?_
    refine G_while (σ := Int × List Store) (ρ := List Store) (fun s5972 a w' => ∃ (sg5982 : Seg), ownS encStore s5972.2 p5941 c5942 sg5982 ∧ Mem [] w w' [sg5982] ∧ Sat Try.f79.ntmps [(0, .slice p5932 x5930.length c5933), (3, .slice p5941 s5972.2.length c5942), (4, .int .i64 s5972.1)] a) hw5980 (fun a ha => ⟨sg5943, ho5945, M5946.pick [0] (by kernel_rfl), ha.sub (by kernel_rfl)⟩) ?_
    clear hm
    intro s5972 x5973 hm hout5974 a5975 w5976 ⟨sg5982, ho5983, M5977, hS5978⟩
    refine G_use hS5978 ?_
    refine G_seq ?_
    refine G_seq ?_
    refine G_region ?_
    refine W_run 4 [(0, .slice p5932 x5930.length c5933), (3, .slice p5941 s5972.2.length c5942), (4, .int .i64 s5972.1), (11, .bool (decide (s5972.1 < (x5930.length : Int))))] w5976 (by kernel_rfl) ?_
    refine W_nil ?_
    refine N_then ?_
    rcases gx_bif hm with ⟨hc5987, hm⟩ | ⟨hc5987, hm⟩
    · refine G_cond_t (b := (decide (s5972.1 < (x5930.length : Int)))) hc5987 (by kernel_rfl) ?_
      refine G_skip ?_
      refine N_then ?_
      refine G_seq ?_
      refine G_block ?_
      refine G_region ?_
      refine W_run 4 [(0, .slice p5932 x5930.length c5933), (3, .slice p5941 s5972.2.length c5942), (4, .int .i64 s5972.1), (14, .slice p5941 s5972.2.length c5942), (15, .int .i64 s5972.1), (16, .slice p5932 x5930.length c5933), (17, .int .i64 s5972.1)] w5976 (by kernel_rfl) ?_
      obtain ⟨y5988, hy5988, hm⟩ := gx_bind hm
      refine W_val (elemP p5932 (s5972.1.toNat * 2)) w5976 (by kernel_rfl) (E_index (E := encStore) _ _ _ x5930.length c5933 .i64 s5972.1 2 (y := y5988) rfl (by kernel_rfl) (by kernel_rfl) (by kernel_rfl) (h5934.mem0 M5977) rfl hy5988) ?_
      refine W_val (.agg #[.int .i64 y5988.Word, .int .i64 y5988.Value]) w5976 (by kernel_rfl) (E_loadE (E := encStore) _ _ true 2 s5972.1 0 (s5972.1.toNat * 2) y5988 (.agg #[.int .i64 y5988.Word, .int .i64 y5988.Value]) rfl (by kernel_rfl) (by kernel_rfl) (by kernel_rfl) (h5934.mem0 M5977) hy5988 rfl) ?_
      obtain ⟨r5989, hr5989, hm⟩ := gx_bind hm
      refine W_call 31 #[.agg #[.int .i64 y5988.Word, .int .i64 y5988.Value]] (by kernel_rfl) (by kernel_rfl) ?_
      refine (c_l_toStore w5976 y5988 hr5989).mono ?_
      rintro e_ w5990 ⟨rfl, K5991⟩
      have M5992 := M5977.call0 K5991
      refine ⟨_, rfl, ?_⟩
      obtain ⟨y5993, hy5993, hm⟩ := gx_bind hm
      refine W_val (elemP p5941 (s5972.1.toNat * 2)) w5990 (by kernel_rfl) (E_index (E := encStore) _ _ _ s5972.2.length c5942 .i64 s5972.1 2 (y := y5993) rfl (by kernel_rfl) (by kernel_rfl) (by kernel_rfl) (ho5983.rd M5992 0 (by kernel_rfl)) rfl hy5993) ?_
      refine W_storeE (E := encStore) _ _ _ true 2 s5972.1.toNat 0 (s5972.1.toNat * 2) y5993 r5989 (.agg #[.int .i64 r5989.Word, .int .i64 r5989.Value]) 0 M5992 ho5983 (by kernel_rfl) (by kernel_rfl) rfl (by kernel_rfl) (by kernel_rfl) (by kernel_rfl) (by kernel_rfl) (by kernel_rfl) (by kernel_rfl) (by kernel_rfl) (gxIdx_spec hy5993).2 rfl ?_
      intro w5994 sg5996 ho5997 M5995
      refine W_conv 3 (.slice p5941 s5972.2.length c5942) (.slice p5941 (s5972.2.set s5972.1.toNat r5989).length c5942) (by kernel_rfl) (by rw [@List.length_set _ s5972.2 s5972.1.toNat r5989]) ?_
      refine W_conv 14 (.slice p5941 s5972.2.length c5942) (.slice p5941 (s5972.2.set s5972.1.toNat r5989).length c5942) (by kernel_rfl) (by rw [@List.length_set _ s5972.2 s5972.1.toNat r5989]) ?_
      refine W_nil ?_
      refine N_block ?_
      refine N_then ?_
      refine G_region ?_
      refine W_run 3 [(0, .slice p5932 x5930.length c5933), (3, .slice p5941 (s5972.2.set s5972.1.toNat r5989).length c5942), (4, .int .i64 (w64 (s5972.1 + 1)))] w5994 (by kernel_rfl) ?_
      refine W_nil ?_
      obtain rfl := Option.some.inj hm
      exact N_loop fun a ha => ⟨_, rfl, sg5996, ho5997, M5995.pick [0] (by kernel_rfl), ha.sub (by kernel_rfl)⟩
    · refine G_cond_f (b := (decide (s5972.1 < (x5930.length : Int)))) hc5987 (by kernel_rfl) ?_
      refine G_exit ?_
      refine N_then_exit ?_
      refine N_then_exit ?_
      refine N_block_eq ?_
      obtain rfl := Option.some.inj hm
      obtain rfl := hout5974 _ rfl
      exact N_meet fun a ha => ⟨sg5982, ho5983, M5977.pick [0] (by kernel_rfl), ha.sub (by kernel_rfl)⟩
  · intro a5998 w5999 ⟨sg5985, ho5986, M6000, hS6001⟩
    refine N_use hS6001 ?_
    have hm := hmo5981
    refine N_then ?_
    refine G_seq ?_
    refine G_region ?_
    refine W_run 2 [(2, .slice p5941 out5979.length c5942)] w5999 (by kernel_rfl) ?_
    refine W_nil ?_
    refine N_then ?_
    refine G_ret ?_
    obtain rfl := Option.some.inj hm
    refine N_ret [.slice p5941 out5979.length c5942] (RVs_cons (RV_tmp (by kernel_rfl)) RVs_nil) ?_
    exact ⟨p5941, c5942, sg5985, rfl, ho5986, M6000.pick [0] (by kernel_rfl)⟩
theorem c_l_toStoreSS (w : World) (x5899 : List (List Store)) (p5901 : Option Addr) (c5902 : Nat) (h5903 : rdD (deepL encStore) w x5899 p5901 c5902) {r : (List (List Store))} (hm : M.l_toStoreSS x5899 = some r) :
    Calls Try.prog 37 #[.slice p5901 x5899.length c5902] w fun e w' => ∃ (p5905 : Option Addr) (c5906 : Nat) (sg5907 : Seg) (sg5908 : Seg), e = .returned (.slice p5905 r.length c5906) ∧ ownD (deepL encStore) r p5905 c5906 sg5907 sg5908 ∧ Mem [] w w' [sg5907, sg5908] := by
  unfold M.l_toStoreSS at hm
  refine C_enter Try.func37 rfl (by kernel_rfl) ?_
  have M0 := Mem.refl [] w
  refine G_seq ?_
  refine G_region ?_
  refine W_run 1 [(0, .slice p5901 x5899.length c5902)] w (by kernel_rfl) ?_
  refine W_nil ?_
  refine N_then ?_
  refine G_seq ?_
  refine G_region ?_
  refine W_run 2 [(0, .slice p5901 x5899.length c5902), (6, .int .i64 (x5899.length : Int))] w (by kernel_rfl) ?_
  obtain ⟨mk5911, hmk5911, hm⟩ := gx_bind hm
  refine W_makeD (D := (deepL encStore)) _ _ _ (x5899.length : Int) 24 [.slice none 0 0] ([] : List Store) (plOf []) M0 (by kernel_rfl) rfl (by kernel_rfl) (by kernel_rfl) (by kernel_rfl) (by kernel_rfl) (by kernel_rfl) (by intro i hi; simp [deepL] at hi; first | (subst hi; exact ⟨rfl, rfl, rfl⟩) | (rcases hi with rfl | rfl | rfl <;> exact ⟨rfl, rfl, rfl⟩) | (rcases hi with rfl | rfl <;> exact ⟨rfl, rfl, rfl⟩)) hmk5911 ?_
  intro p5912 c5913 sg5914 w5915 ho5916 M5917
  have M5919 := M5917.addNil
  obtain ⟨n5918, n5918e⟩ : ∃ s : Seg, s = [] := ⟨_, rfl⟩
  rw [← n5918e] at ho5916 M5919
  refine W_run 1 [(0, .slice p5901 x5899.length c5902), (3, .slice p5912 mk5911.length c5913)] w5915 (by kernel_rfl) ?_
  refine W_nil ?_
  refine N_then ?_
  refine G_seq ?_
  refine G_seq ?_
  refine G_region ?_
  refine W_run 1 [(0, .slice p5901 x5899.length c5902), (3, .slice p5912 mk5911.length c5913), (4, .int .i64 0)] w5915 (by kernel_rfl) ?_
  refine W_nil ?_
  refine N_then ?_
  obtain ⟨out6083, hw6084, hmo6085⟩ := gx_bind hm
  refine G_meet (fun a w' => ∃ (sg6090 : Seg), ∃ (sg6091 : Seg), ownD (deepL encStore) out6083 p5912 c5913 sg6090 sg6091 ∧ Mem [] w w' [sg6090, sg6091] ∧ Sat Try.f37.ntmps [(3, .slice p5912 out6083.length c5913)] a) ?_ ?_
  · refine G_block ?_
    refine G_while (σ := Int × List (List Store)) (ρ := List (List Store)) (fun s6076 a w' => ∃ (sg6086 : Seg), ∃ (sg6087 : Seg), ownD (deepL encStore) s6076.2 p5912 c5913 sg6086 sg6087 ∧ Mem [] w w' [sg6086, sg6087] ∧ Sat Try.f37.ntmps [(0, .slice p5901 x5899.length c5902), (3, .slice p5912 s6076.2.length c5913), (4, .int .i64 s6076.1)] a) hw6084 (fun a ha => ⟨sg5914, n5918, ho5916, M5919.pick [0, 1] (by kernel_rfl), ha.sub (by kernel_rfl)⟩) ?_
    clear hm
    intro s6076 x6077 hm hout6078 a6079 w6080 ⟨sg6086, sg6087, ho6088, M6081, hS6082⟩
    refine G_use hS6082 ?_
    refine G_seq ?_
    refine G_seq ?_
    refine G_region ?_
    refine W_run 4 [(0, .slice p5901 x5899.length c5902), (3, .slice p5912 s6076.2.length c5913), (4, .int .i64 s6076.1), (11, .bool (decide (s6076.1 < (x5899.length : Int))))] w6080 (by kernel_rfl) ?_
    refine W_nil ?_
    refine N_then ?_
    rcases gx_bif hm with ⟨hc6093, hm⟩ | ⟨hc6093, hm⟩
    · refine G_cond_t (b := (decide (s6076.1 < (x5899.length : Int)))) hc6093 (by kernel_rfl) ?_
      refine G_skip ?_
      refine N_then ?_
      refine G_seq ?_
      refine G_block ?_
      refine G_region ?_
      refine W_run 4 [(0, .slice p5901 x5899.length c5902), (3, .slice p5912 s6076.2.length c5913), (4, .int .i64 s6076.1), (14, .slice p5912 s6076.2.length c5913), (15, .int .i64 s6076.1), (16, .slice p5901 x5899.length c5902), (17, .int .i64 s6076.1)] w6080 (by kernel_rfl) ?_
      obtain ⟨y6094, hy6094, hm⟩ := gx_bind hm
      obtain ⟨zs6095, hz6096, hr6097, hi6098⟩ := id h5903
      obtain ⟨g6099, hg6100⟩ := gxIdx_fst hz6096 hy6094
      refine W_val (elemP p5901 (s6076.1.toNat * 1)) w6080 (by kernel_rfl) (E_index (E := (deepL encStore).E) _ _ _ x5899.length c5902 .i64 s6076.1 1 (y := (y6094, g6099)) rfl (by kernel_rfl) (by kernel_rfl) (by kernel_rfl) (hr6097.mem0 M6081) (len_fst hz6096) hg6100) ?_
      refine W_val (.slice ((g6099 0).1) y6094.length ((g6099 0).2)) w6080 (by kernel_rfl) (E_loadE (E := (deepL encStore).E) _ _ false 1 s6076.1 0 (s6076.1.toNat * 1) (y6094, g6099) (.slice ((g6099 0).1) y6094.length ((g6099 0).2)) rfl (by kernel_rfl) (by kernel_rfl) (by kernel_rfl) (hr6097.mem0 M6081) hg6100 rfl) ?_
      obtain ⟨r6102, hr6102, hm⟩ := gx_bind hm
      refine W_call 79 #[.slice ((g6099 0).1) y6094.length ((g6099 0).2)] (by kernel_rfl) (by kernel_rfl) ?_
      refine (c_l_toStoreS w6080 y6094 ((g6099 0).1) ((g6099 0).2) ((hi6098.mem0 M6081).at_ hg6100 0 ⟨Store, encStore, y6094, (g6099 0).1, (g6099 0).2⟩ (by kernel_rfl)) hr6102).mono ?_
      rintro e_ w6108 ⟨p6104, c6105, sg6106, rfl, ho6107, K6109⟩
      have M6110 := M6081.call K6109
      refine ⟨_, rfl, ?_⟩
      obtain ⟨y6111, hy6111, hm⟩ := gx_bind hm
      obtain ⟨zs6112, hz6113, hr6114, hi6115⟩ := id ho6088
      obtain ⟨g6116, hg6117⟩ := gxIdx_fst hz6113 hy6111
      refine W_val (elemP p5912 (s6076.1.toNat * 1)) w6108 (by kernel_rfl) (E_index (E := (deepL encStore).E) _ _ _ s6076.2.length c5913 .i64 s6076.1 1 (y := (y6111, g6116)) rfl (by kernel_rfl) (by kernel_rfl) (by kernel_rfl) (hr6114.rd M6110 0 (by kernel_rfl)) (len_fst hz6113) hg6117) ?_
      obtain ⟨sa6119, sb6120, sc6121, hs6122, hb6123, hp6124⟩ := hi6115.lens (gxIdx_spec hg6117).2
      have M6125 := M6110.cut 1 (sa := sa6119) (sb := sb6120) (sc := sc6121) hs6122 (by kernel_rfl)
      refine W_storeE (E := (deepL encStore).E) _ _ _ false 1 s6076.1.toNat 0 (s6076.1.toNat * 1) (y6111, g6116) (r6102, (plOf [(p6104, c6105)])) (.slice p6104 r6102.length c6105) 0 M6125 hr6114 (by kernel_rfl) (by kernel_rfl) rfl (by kernel_rfl) (by kernel_rfl) (by kernel_rfl) (by kernel_rfl) (by kernel_rfl) (by kernel_rfl) (by kernel_rfl) (gxIdx_spec hg6117).2 rfl ?_
      intro w6126 sg6128 ho6129 M6127
      have M6130 : Mem [] w w6126 [sg6128, sa6119, sg6106, sc6121] := M6127.pick [0, 1, 2, 4] (by kernel_rfl)
      have M6131 : Mem [] w w6126 [sg6128, (sa6119 ++ ((sg6106 ++ []) ++ sc6121))] := M6130.regroup (by simp)
      have ho6132 : ownD (deepL encStore) (s6076.2.set s6076.1.toNat r6102) p5912 c5913 sg6128 (sa6119 ++ ((sg6106 ++ []) ++ sc6121)) := ⟨_, set_fst hz6113 s6076.1.toNat (r6102, (plOf [(p6104, c6105)])), ho6129, (hp6124 (r6102, (plOf [(p6104, c6105)])) _ (ownI_cons (i := ⟨Store, encStore, _, _, _⟩) ho6107 ownI_nil))⟩
      refine W_conv 3 (.slice p5912 s6076.2.length c5913) (.slice p5912 (s6076.2.set s6076.1.toNat r6102).length c5913) (by kernel_rfl) (by rw [@List.length_set _ s6076.2 s6076.1.toNat r6102]) ?_
      refine W_conv 14 (.slice p5912 s6076.2.length c5913) (.slice p5912 (s6076.2.set s6076.1.toNat r6102).length c5913) (by kernel_rfl) (by rw [@List.length_set _ s6076.2 s6076.1.toNat r6102]) ?_
      refine W_nil ?_
      refine N_block ?_
      refine N_then ?_
      refine G_region ?_
      refine W_run 3 [(0, .slice p5901 x5899.length c5902), (3, .slice p5912 (s6076.2.set s6076.1.toNat r6102).length c5913), (4, .int .i64 (w64 (s6076.1 + 1)))] w6126 (by kernel_rfl) ?_
      refine W_nil ?_
      obtain rfl := Option.some.inj hm
      exact N_loop fun a ha => ⟨_, rfl, sg6128, (sa6119 ++ ((sg6106 ++ []) ++ sc6121)), ho6132, M6131.pick [0, 1] (by kernel_rfl), ha.sub (by kernel_rfl)⟩
    · refine G_cond_f (b := (decide (s6076.1 < (x5899.length : Int)))) hc6093 (by kernel_rfl) ?_
      refine G_exit ?_
      refine N_then_exit ?_
      refine N_then_exit ?_
      refine N_block_eq ?_
      obtain rfl := Option.some.inj hm
      obtain rfl := hout6078 _ rfl
      exact N_meet fun a ha => ⟨sg6086, sg6087, ho6088, M6081.pick [0, 1] (by kernel_rfl), ha.sub (by kernel_rfl)⟩
  · intro a6133 w6134 ⟨sg6090, sg6091, ho6092, M6135, hS6136⟩
    refine N_use hS6136 ?_
    have hm := hmo6085
    refine N_then ?_
    refine G_seq ?_
    refine G_region ?_
    refine W_run 2 [(2, .slice p5912 out6083.length c5913)] w6134 (by kernel_rfl) ?_
    refine W_nil ?_
    refine N_then ?_
    refine G_ret ?_
    obtain rfl := Option.some.inj hm
    refine N_ret [.slice p5912 out6083.length c5913] (RVs_cons (RV_tmp (by kernel_rfl)) RVs_nil) ?_
    exact ⟨p5912, c5913, sg6090, sg6091, rfl, ho6092, M6135.pick [0, 1] (by kernel_rfl)⟩
theorem c_s_l19Stores (w : World) (x6176 : Copying) (p6178 : Option Addr) (c6179 : Nat) (h6180 : rdS encI w x6176.Memory p6178 c6179) (p6182 : Option Addr) (c6183 : Nat) (h6184 : rdS encI w x6176.Copy p6182 c6183) (p6186 : Option Addr) (c6187 : Nat) (h6188 : rdS encB w x6176.Dirty p6186 c6187) (x6189 : List (List Store)) (p6191 : Option Addr) (c6192 : Nat) (h6193 : rdD (deepL encStore) w x6189 p6191 c6192) {r : Bool} (hm : M.s_l19Stores x6176 x6189 = some r) :
    Calls Try.prog 77 #[.agg #[.slice p6178 x6176.Memory.length c6179, .slice p6182 x6176.Copy.length c6183, .slice p6186 x6176.Dirty.length c6187], .slice p6191 x6189.length c6192] w fun e w' => e = .returned (.bool r) ∧ Mem [] w w' [] := by
  unfold M.s_l19Stores at hm
  refine C_enter Try.func77 rfl (by kernel_rfl) ?_
  have M0 := Mem.refl [] w
  refine G_seq ?_
  refine G_region ?_
  refine W_new (fun b => .pointer (some ⟨b, 0, none⟩)) (.cells ⟨[.slice p6178 x6176.Memory.length c6179, .slice p6182 x6176.Copy.length c6183, .slice p6186 x6176.Dirty.length c6187]⟩ 28 (0, 0)) M0 rfl (by kernel_rfl) (by kernel_rfl) ?_
  intro b6195 w6196 M6197
  refine W_run 1 [(1, .slice p6191 x6189.length c6192), (2, .pointer (some ⟨b6195, 0, none⟩))] w6196 (by kernel_rfl) ?_
  refine W_nil ?_
  refine N_then ?_
  refine G_seq ?_
  refine G_seq ?_
  refine G_region ?_
  refine W_run 1 [(1, .slice p6191 x6189.length c6192), (2, .pointer (some ⟨b6195, 0, none⟩)), (5, .int .i64 0)] w6196 (by kernel_rfl) ?_
  refine W_nil ?_
  refine N_then ?_
  obtain ⟨out6381, hw6382, hmo6383⟩ := gx_bind hm
  refine G_meet (fun a w' => ∃ (o6384 : Unit), out6381 = .inl o6384 ∧ Mem [] w w' [] ∧ Sat Try.f77.ntmps [(1, .slice p6191 x6189.length c6192)] a) ?_ ?_
  · refine G_block ?_
    refine G_while (σ := Int) (ρ := (Unit) ⊕ (Bool)) (fun s6374 a w' => Mem [] w w' [[(b6195, .cells ⟨[.slice p6178 x6176.Memory.length c6179, .slice p6182 x6176.Copy.length c6183, .slice p6186 x6176.Dirty.length c6187]⟩ 28 (0, 0))]] ∧ Sat Try.f77.ntmps [(1, .slice p6191 x6189.length c6192), (2, .pointer (some ⟨b6195, 0, none⟩)), (5, .int .i64 s6374)] a) hw6382 (fun a ha => ⟨M6197.pick [0] (by kernel_rfl), ha.sub (by kernel_rfl)⟩) ?_
    clear hm
    intro s6374 x6375 hm hout6376 a6377 w6378 ⟨M6379, hS6380⟩
    refine G_use hS6380 ?_
    refine G_seq ?_
    refine G_seq ?_
    refine G_region ?_
    refine W_run 4 [(1, .slice p6191 x6189.length c6192), (2, .pointer (some ⟨b6195, 0, none⟩)), (5, .int .i64 s6374), (10, .bool (decide (s6374 < (x6189.length : Int))))] w6378 (by kernel_rfl) ?_
    refine W_nil ?_
    refine N_then ?_
    rcases gx_bif hm with ⟨hc6385, hm⟩ | ⟨hc6385, hm⟩
    · refine G_cond_t (b := (decide (s6374 < (x6189.length : Int)))) hc6385 (by kernel_rfl) ?_
      refine G_skip ?_
      refine N_then ?_
      refine G_seq ?_
      refine G_block ?_
      refine G_seq ?_
      refine G_seq ?_
      refine G_region ?_
      refine W_run 1 [(1, .slice p6191 x6189.length c6192), (2, .pointer (some ⟨b6195, 0, none⟩)), (5, .int .i64 s6374), (6, .int .i64 0)] w6378 (by kernel_rfl) ?_
      refine W_nil ?_
      refine N_then ?_
      obtain ⟨out6435, hw6436, hmo6437⟩ := gx_bind hm
      refine G_meet (fun a w' => ∃ (o6438 : Unit), out6435 = .inl o6438 ∧ Mem [] w w' [[(b6195, .cells ⟨[.slice p6178 x6176.Memory.length c6179, .slice p6182 x6176.Copy.length c6183, .slice p6186 x6176.Dirty.length c6187]⟩ 28 (0, 0))]] ∧ Sat Try.f77.ntmps [(1, .slice p6191 x6189.length c6192), (2, .pointer (some ⟨b6195, 0, none⟩)), (5, .int .i64 s6374)] a) ?_ ?_
      · refine G_block ?_
        refine G_while (σ := Int) (ρ := (Unit) ⊕ (Bool)) (fun s6428 a w' => Mem [] w w' [[(b6195, .cells ⟨[.slice p6178 x6176.Memory.length c6179, .slice p6182 x6176.Copy.length c6183, .slice p6186 x6176.Dirty.length c6187]⟩ 28 (0, 0))]] ∧ Sat Try.f77.ntmps [(1, .slice p6191 x6189.length c6192), (2, .pointer (some ⟨b6195, 0, none⟩)), (5, .int .i64 s6374), (6, .int .i64 s6428)] a) hw6436 (fun a ha => ⟨M6379.pick [0] (by kernel_rfl), ha.sub (by kernel_rfl)⟩) ?_
        clear hm
        intro s6428 x6429 hm hout6430 a6431 w6432 ⟨M6433, hS6434⟩
        refine G_use hS6434 ?_
        refine G_seq ?_
        refine G_seq ?_
        refine G_region ?_
        refine W_run 3 [(1, .slice p6191 x6189.length c6192), (2, .pointer (some ⟨b6195, 0, none⟩)), (5, .int .i64 s6374), (6, .int .i64 s6428), (13, .int .i64 s6428), (14, .slice p6191 x6189.length c6192), (15, .int .i64 s6374)] w6432 (by kernel_rfl) ?_
        obtain ⟨y6439, hy6439, hm⟩ := gx_bind hm
        obtain ⟨zs6440, hz6441, hr6442, hi6443⟩ := id h6193
        obtain ⟨g6444, hg6445⟩ := gxIdx_fst hz6441 hy6439
        refine W_val (elemP p6191 (s6374.toNat * 1)) w6432 (by kernel_rfl) (E_index (E := (deepL encStore).E) _ _ _ x6189.length c6192 .i64 s6374 1 (y := (y6439, g6444)) rfl (by kernel_rfl) (by kernel_rfl) (by kernel_rfl) (hr6442.mem0 M6433) (len_fst hz6441) hg6445) ?_
        refine W_val (.slice ((g6444 0).1) y6439.length ((g6444 0).2)) w6432 (by kernel_rfl) (E_loadE (E := (deepL encStore).E) _ _ false 1 s6374 0 (s6374.toNat * 1) (y6439, g6444) (.slice ((g6444 0).1) y6439.length ((g6444 0).2)) rfl (by kernel_rfl) (by kernel_rfl) (by kernel_rfl) (hr6442.mem0 M6433) hg6445 rfl) ?_
        refine W_run 2 [(1, .slice p6191 x6189.length c6192), (2, .pointer (some ⟨b6195, 0, none⟩)), (5, .int .i64 s6374), (6, .int .i64 s6428), (19, .bool (decide (s6428 < (y6439.length : Int))))] w6432 (by kernel_rfl) ?_
        refine W_nil ?_
        refine N_then ?_
        rcases gx_bif hm with ⟨hc6447, hm⟩ | ⟨hc6447, hm⟩
        · refine G_cond_t (b := (decide (s6428 < (y6439.length : Int)))) hc6447 (by kernel_rfl) ?_
          refine G_skip ?_
          refine N_then ?_
          refine G_seq ?_
          refine G_block ?_
          refine G_seq ?_
          refine G_quiet (by kernel_rfl) (by kernel_rfl) M6433 ?_
          refine Z_val (.agg #[.slice p6178 x6176.Memory.length c6179, .slice p6182 x6176.Copy.length c6183, .slice p6186 x6176.Dirty.length c6187]) (by kernel_rfl) (fun w_ M_ => (E_load (e := 28) (fr := (0, 0)) _ _ true 3 b6195 0 [.slice p6178 x6176.Memory.length c6179, .slice p6182 x6176.Copy.length c6183, .slice p6186 x6176.Dirty.length c6187] (.agg #[.slice p6178 x6176.Memory.length c6179, .slice p6182 x6176.Copy.length c6183, .slice p6186 x6176.Dirty.length c6187]) rfl (by kernel_rfl) (by kernel_rfl) (by kernel_rfl) (M_.blk 0 (b := b6195) (o := .cells ⟨[.slice p6178 x6176.Memory.length c6179, .slice p6182 x6176.Copy.length c6183, .slice p6186 x6176.Dirty.length c6187]⟩ 28 (0, 0)) (by kernel_rfl)))) ?_
          refine Z_runs [.slice p6191 x6189.length c6192, .int .i64 s6374] [(1, .slice p6191 x6189.length c6192), (2, .pointer (some ⟨b6195, 0, none⟩)), (5, .int .i64 s6374), (6, .int .i64 s6428), (22, .agg #[.slice p6178 x6176.Memory.length c6179, .slice p6182 x6176.Copy.length c6183, .slice p6186 x6176.Dirty.length c6187]), (23, .slice p6191 x6189.length c6192), (24, .int .i64 s6374)] (fun w_ => by kernel_rfl) (by kernel_rfl) ?_
          obtain ⟨y6448, hy6448, hm⟩ := gx_bind hm
          obtain ⟨g6449, hg6450⟩ := gxIdx_fst hz6441 hy6448
          refine Z_val (elemP p6191 (s6374.toNat * 1)) (by kernel_rfl) (fun w_ M_ => (E_index (E := (deepL encStore).E) _ _ _ x6189.length c6192 .i64 s6374 1 (y := (y6448, g6449)) rfl (by kernel_rfl) (by kernel_rfl) (by kernel_rfl) (hr6442.mem0 M_) (len_fst hz6441) hg6450)) ?_
          refine Z_val (.slice ((g6449 0).1) y6448.length ((g6449 0).2)) (by kernel_rfl) (fun w_ M_ => (E_loadE (E := (deepL encStore).E) _ _ false 1 s6374 0 (s6374.toNat * 1) (y6448, g6449) (.slice ((g6449 0).1) y6448.length ((g6449 0).2)) rfl (by kernel_rfl) (by kernel_rfl) (by kernel_rfl) (hr6442.mem0 M_) hg6450 rfl)) ?_
          refine Z_runs [.int .i64 s6428] [(1, .slice p6191 x6189.length c6192), (2, .pointer (some ⟨b6195, 0, none⟩)), (5, .int .i64 s6374), (6, .int .i64 s6428), (22, .agg #[.slice p6178 x6176.Memory.length c6179, .slice p6182 x6176.Copy.length c6183, .slice p6186 x6176.Dirty.length c6187]), (26, .slice ((g6449 0).1) y6448.length ((g6449 0).2)), (27, .int .i64 s6428)] (fun w_ => by kernel_rfl) (by kernel_rfl) ?_
          obtain ⟨y6452, hy6452, hm⟩ := gx_bind hm
          refine Z_val (elemP ((g6449 0).1) (s6428.toNat * 2)) (by kernel_rfl) (fun w_ M_ => (E_index (E := encStore) _ _ _ y6448.length ((g6449 0).2) .i64 s6428 2 (y := y6452) rfl (by kernel_rfl) (by kernel_rfl) (by kernel_rfl) ((hi6443.mem0 M_).at_ hg6450 0 ⟨Store, encStore, y6448, (g6449 0).1, (g6449 0).2⟩ (by kernel_rfl)) rfl hy6452)) ?_
          refine Z_val (.agg #[.int .i64 y6452.Word, .int .i64 y6452.Value]) (by kernel_rfl) (fun w_ M_ => (E_loadE (E := encStore) _ _ true 2 s6428 0 (s6428.toNat * 2) y6452 (.agg #[.int .i64 y6452.Word, .int .i64 y6452.Value]) rfl (by kernel_rfl) (by kernel_rfl) (by kernel_rfl) ((hi6443.mem0 M_).at_ hg6450 0 ⟨Store, encStore, y6448, (g6449 0).1, (g6449 0).2⟩ (by kernel_rfl)) hy6452 rfl)) ?_
          obtain ⟨r6453, hr6453, hm⟩ := gx_bind hm
          refine Z_call 68 #[.agg #[.slice p6178 x6176.Memory.length c6179, .slice p6182 x6176.Copy.length c6183, .slice p6186 x6176.Dirty.length c6187], .agg #[.int .i64 y6452.Word, .int .i64 y6452.Value]] (.bool r6453) (by kernel_rfl) (fun w_ => by kernel_rfl) (fun w_ M_ => (c_s_l19Store w_ x6176 p6178 c6179 (h6180.mem0 M_) p6182 c6183 (h6184.mem0 M_) p6186 c6187 (h6188.mem0 M_) y6452 hr6453).mono fun e w2_ h_ => ⟨h_.1, M_.call0 h_.2⟩) ?_
          refine Z_runs [.bool (!r6453)] [(1, .slice p6191 x6189.length c6192), (2, .pointer (some ⟨b6195, 0, none⟩)), (5, .int .i64 s6374), (6, .int .i64 s6428), (31, .bool (!r6453))] (fun w_ => by kernel_rfl) (by kernel_rfl) ?_
          refine Z_end fun w6457 M6458 => ?_
          refine N_then ?_
          rcases gx_bif hm with ⟨hc6459, hm⟩ | ⟨hc6459, hm⟩
          · refine G_cond_t (b := (!r6453)) hc6459 (by kernel_rfl) ?_
            refine G_seq ?_
            refine G_region ?_
            refine W_run 1 [(4, .bool false)] w6457 (by kernel_rfl) ?_
            refine W_nil ?_
            refine N_then ?_
            refine G_ret ?_
            refine N_block_ret ?_
            refine N_then_ret ?_
            refine N_then_ret ?_
            obtain rfl := Option.some.inj hm
            obtain rfl := hout6430 _ rfl
            have hm := hmo6437; simp only [Sum.elim_inr] at hm
            refine N_block_ret ?_
            refine N_meet_ret ?_
            refine N_then_ret ?_
            refine N_block_ret ?_
            refine N_then_ret ?_
            refine N_then_ret ?_
            obtain rfl := Option.some.inj hm
            obtain rfl := hout6376 _ rfl
            have hm := hmo6383; simp only [Sum.elim_inr] at hm
            refine N_block_ret ?_
            refine N_meet_ret ?_
            refine N_then_ret ?_
            obtain rfl := Option.some.inj hm
            refine N_ret [.bool false] (RVs_cons (RV_tmp (by kernel_rfl)) RVs_nil) ?_
            exact ⟨rfl, M6458.pick [] (by kernel_rfl)⟩
          · refine G_cond_f (b := (!r6453)) hc6459 (by kernel_rfl) ?_
            refine G_skip ?_
            refine N_block ?_
            refine N_then ?_
            refine G_region ?_
            refine W_run 3 [(1, .slice p6191 x6189.length c6192), (2, .pointer (some ⟨b6195, 0, none⟩)), (5, .int .i64 s6374), (6, .int .i64 (w64 (s6428 + 1)))] w6457 (by kernel_rfl) ?_
            refine W_nil ?_
            obtain rfl := Option.some.inj hm
            exact N_loop fun a ha => ⟨_, rfl, M6458.pick [0] (by kernel_rfl), ha.sub (by kernel_rfl)⟩
        · refine G_cond_f (b := (decide (s6428 < (y6439.length : Int)))) hc6447 (by kernel_rfl) ?_
          refine G_exit ?_
          refine N_then_exit ?_
          refine N_then_exit ?_
          refine N_block_eq ?_
          obtain rfl := Option.some.inj hm
          obtain rfl := hout6430 _ rfl
          exact N_meet fun a ha => ⟨_, rfl, M6433.pick [0] (by kernel_rfl), ha.sub (by kernel_rfl)⟩
      · intro a6460 w6461 ⟨o6438, hout_, M6462, hS6463⟩
        refine N_use hS6463 ?_
        subst hout_
        have hm := hmo6437; simp only [Sum.elim_inl] at hm
        refine N_then ?_
        refine G_seq ?_
        refine G_region ?_
        refine W_run 2 [(1, .slice p6191 x6189.length c6192), (2, .pointer (some ⟨b6195, 0, none⟩)), (5, .int .i64 s6374), (32, .slice p6191 x6189.length c6192), (33, .int .i64 s6374)] w6461 (by kernel_rfl) ?_
        obtain ⟨y6464, hy6464, hm⟩ := gx_bind hm
        obtain ⟨zs6465, hz6466, hr6467, hi6468⟩ := id h6193
        obtain ⟨g6469, hg6470⟩ := gxIdx_fst hz6466 hy6464
        refine W_val (elemP p6191 (s6374.toNat * 1)) w6461 (by kernel_rfl) (E_index (E := (deepL encStore).E) _ _ _ x6189.length c6192 .i64 s6374 1 (y := (y6464, g6469)) rfl (by kernel_rfl) (by kernel_rfl) (by kernel_rfl) (hr6467.mem0 M6462) (len_fst hz6466) hg6470) ?_
        refine W_val (.slice ((g6469 0).1) y6464.length ((g6469 0).2)) w6461 (by kernel_rfl) (E_loadE (E := (deepL encStore).E) _ _ false 1 s6374 0 (s6374.toNat * 1) (y6464, g6469) (.slice ((g6469 0).1) y6464.length ((g6469 0).2)) rfl (by kernel_rfl) (by kernel_rfl) (by kernel_rfl) (hr6467.mem0 M6462) hg6470 rfl) ?_
        refine W_run 2 [(1, .slice p6191 x6189.length c6192), (2, .pointer (some ⟨b6195, 0, none⟩)), (5, .int .i64 s6374), (37, .bool (decide ((y6464.length : Int) > 12)))] w6461 (by kernel_rfl) ?_
        refine W_nil ?_
        refine N_then ?_
        rcases gx_bif hm with ⟨hc6472, hm⟩ | ⟨hc6472, hm⟩
        · refine G_cond_t (b := (decide ((y6464.length : Int) > 12))) hc6472 (by kernel_rfl) ?_
          refine G_seq ?_
          refine G_region ?_
          refine W_run 1 [(4, .bool false)] w6461 (by kernel_rfl) ?_
          refine W_nil ?_
          refine N_then ?_
          refine G_ret ?_
          refine N_block_ret ?_
          refine N_then_ret ?_
          refine N_then_ret ?_
          obtain rfl := Option.some.inj hm
          obtain rfl := hout6376 _ rfl
          have hm := hmo6383; simp only [Sum.elim_inr] at hm
          refine N_block_ret ?_
          refine N_meet_ret ?_
          refine N_then_ret ?_
          obtain rfl := Option.some.inj hm
          refine N_ret [.bool false] (RVs_cons (RV_tmp (by kernel_rfl)) RVs_nil) ?_
          exact ⟨rfl, M6462.pick [] (by kernel_rfl)⟩
        · refine G_cond_f (b := (decide ((y6464.length : Int) > 12))) hc6472 (by kernel_rfl) ?_
          refine G_skip ?_
          refine N_block ?_
          refine N_then ?_
          refine G_region ?_
          refine W_run 3 [(1, .slice p6191 x6189.length c6192), (2, .pointer (some ⟨b6195, 0, none⟩)), (5, .int .i64 (w64 (s6374 + 1)))] w6461 (by kernel_rfl) ?_
          refine W_nil ?_
          obtain rfl := Option.some.inj hm
          exact N_loop fun a ha => ⟨_, rfl, M6462.pick [0] (by kernel_rfl), ha.sub (by kernel_rfl)⟩
    · refine G_cond_f (b := (decide (s6374 < (x6189.length : Int)))) hc6385 (by kernel_rfl) ?_
      refine G_exit ?_
      refine N_then_exit ?_
      refine N_then_exit ?_
      refine N_block_eq ?_
      obtain rfl := Option.some.inj hm
      obtain rfl := hout6376 _ rfl
      exact N_meet fun a ha => ⟨_, rfl, M6379.pick [] (by kernel_rfl), ha.sub (by kernel_rfl)⟩
  · intro a6473 w6474 ⟨o6384, hout_, M6475, hS6476⟩
    refine N_use hS6476 ?_
    subst hout_
    have hm := hmo6383; simp only [Sum.elim_inl] at hm
    refine N_then ?_
    refine G_seq ?_
    refine G_region ?_
    refine W_run 4 [(4, .bool (decide ((x6189.length : Int) ≤ 8)))] w6474 (by kernel_rfl) ?_
    refine W_nil ?_
    refine N_then ?_
    refine G_ret ?_
    obtain rfl := Option.some.inj hm
    refine N_ret [.bool (decide ((x6189.length : Int) ≤ 8))] (RVs_cons (RV_tmp (by kernel_rfl)) RVs_nil) ?_
    exact ⟨rfl, M6475.pick [] (by kernel_rfl)⟩
theorem c_s_l19Run (w : World) (x6523 : Copying) (p6525 : Option Addr) (c6526 : Nat) (h6527 : rdS encI w x6523.Memory p6525 c6526) (p6529 : Option Addr) (c6530 : Nat) (h6531 : rdS encI w x6523.Copy p6529 c6530) (p6533 : Option Addr) (c6534 : Nat) (h6535 : rdS encB w x6523.Dirty p6533 c6534) (x6536 : List (List Store)) (p6538 : Option Addr) (c6539 : Nat) (h6540 : rdD (deepL encStore) w x6536 p6538 c6539) (x6541 : Int) {r : Copying × Int} (hm : M.s_l19Run x6523 x6536 x6541 = some r) :
    Calls Try.prog 78 #[.agg #[.slice p6525 x6523.Memory.length c6526, .slice p6529 x6523.Copy.length c6530, .slice p6533 x6523.Dirty.length c6534], .slice p6538 x6536.length c6539, .int .i64 x6541] w fun e w' => ∃ (p6543 : Option Addr) (c6544 : Nat) (sg6545 : Seg), ∃ (p6547 : Option Addr) (c6548 : Nat) (sg6549 : Seg), ∃ (p6551 : Option Addr) (c6552 : Nat) (sg6553 : Seg), e = .returned (.tuple #[.agg #[.slice p6543 r.1.Memory.length c6544, .slice p6547 r.1.Copy.length c6548, .slice p6551 r.1.Dirty.length c6552], .int .i64 r.2]) ∧ ownS encI r.1.Memory p6543 c6544 sg6545 ∧ ownS encI r.1.Copy p6547 c6548 sg6549 ∧ ownS encB r.1.Dirty p6551 c6552 sg6553 ∧ Mem [] w w' [sg6545, sg6549, sg6553] := by
  unfold M.s_l19Run at hm
  refine C_enter Try.func78 rfl (by kernel_rfl) ?_
  have M0 := Mem.refl [] w
  refine G_seq ?_
  refine G_region ?_
  refine W_new (fun b => .pointer (some ⟨b, 0, none⟩)) (.cells ⟨[.slice p6525 x6523.Memory.length c6526, .slice p6529 x6523.Copy.length c6530, .slice p6533 x6523.Dirty.length c6534]⟩ 28 (0, 0)) M0 rfl (by kernel_rfl) (by kernel_rfl) ?_
  intro b6555 w6556 M6557
  refine W_new (fun b => .pointer (some ⟨b, 0, none⟩)) (.cells ⟨[.slice none 0 0, .slice none 0 0, .slice none 0 0]⟩ 28 (0, 0)) M6557 rfl (by kernel_rfl) (by kernel_rfl) ?_
  intro b6562 w6563 M6564
  refine W_run 1 [(1, .slice p6538 x6536.length c6539), (2, .int .i64 x6541), (3, .pointer (some ⟨b6555, 0, none⟩)), (6, .pointer (some ⟨b6562, 0, none⟩))] w6563 (by kernel_rfl) ?_
  refine W_nil ?_
  refine N_then ?_
  refine G_seq ?_
  refine G_region ?_
  refine W_val (.agg #[.slice p6525 x6523.Memory.length c6526, .slice p6529 x6523.Copy.length c6530, .slice p6533 x6523.Dirty.length c6534]) w6563 (by kernel_rfl) (E_load (e := 28) (fr := (0, 0)) _ _ true 3 b6555 0 [.slice p6525 x6523.Memory.length c6526, .slice p6529 x6523.Copy.length c6530, .slice p6533 x6523.Dirty.length c6534] (.agg #[.slice p6525 x6523.Memory.length c6526, .slice p6529 x6523.Copy.length c6530, .slice p6533 x6523.Dirty.length c6534]) rfl (by kernel_rfl) (by kernel_rfl) (by kernel_rfl) (M6564.blk 0 (b := b6555) (o := .cells ⟨[.slice p6525 x6523.Memory.length c6526, .slice p6529 x6523.Copy.length c6530, .slice p6533 x6523.Dirty.length c6534]⟩ 28 (0, 0)) (by kernel_rfl))) ?_
  obtain ⟨r6565, hr6565, hm⟩ := gx_bind hm
  refine W_call 96 #[.agg #[.slice p6525 x6523.Memory.length c6526, .slice p6529 x6523.Copy.length c6530, .slice p6533 x6523.Dirty.length c6534]] (by kernel_rfl) (by kernel_rfl) ?_
  refine (c_s_l19Own w6563 x6523 p6525 c6526 (h6527.mem0 M6564) p6529 c6530 (h6531.mem0 M6564) p6533 c6534 (h6535.mem0 M6564) hr6565).mono ?_
  rintro e_ w6581 ⟨p6567, c6568, sg6569, p6572, c6573, sg6574, p6577, c6578, sg6579, rfl, ho6570, ho6575, ho6580, K6582⟩
  have M6583 := M6564.call K6582
  refine ⟨_, rfl, ?_⟩
  refine W_new (fun b => .pointer (some ⟨b, 0, none⟩)) (.cells ⟨[.slice none 0 0, .slice none 0 0, .slice none 0 0]⟩ 28 (0, 0)) M6583 rfl (by kernel_rfl) (by kernel_rfl) ?_
  intro b6588 w6589 M6590
  refine W_store _ _ _ true 3 b6588 0 [.slice none 0 0, .slice none 0 0, .slice none 0 0] 28 (.agg #[.slice p6567 r6565.Memory.length c6568, .slice p6572 r6565.Copy.length c6573, .slice p6577 r6565.Dirty.length c6578]) 5 [.slice p6567 r6565.Memory.length c6568, .slice p6572 r6565.Copy.length c6573, .slice p6577 r6565.Dirty.length c6578] M6590 (by kernel_rfl) rfl (by kernel_rfl) (by kernel_rfl) (by kernel_rfl) (by kernel_rfl) (by kernel_rfl) (by kernel_rfl) (by kernel_rfl) (by kernel_rfl) ?_
  intro w6591 M6592
  refine W_run 1 [(1, .slice p6538 x6536.length c6539), (2, .int .i64 x6541), (6, .pointer (some ⟨b6562, 0, none⟩)), (8, .pointer (some ⟨b6588, 0, none⟩)), (9, .int .i64 0)] w6591 (by kernel_rfl) ?_
  refine W_nil ?_
  refine N_then ?_
  refine G_seq ?_
  refine G_seq ?_
  refine G_region ?_
  refine W_run 1 [(1, .slice p6538 x6536.length c6539), (2, .int .i64 x6541), (6, .pointer (some ⟨b6562, 0, none⟩)), (8, .pointer (some ⟨b6588, 0, none⟩)), (9, .int .i64 0), (10, .int .i64 0)] w6591 (by kernel_rfl) ?_
  refine W_nil ?_
  refine N_then ?_
  obtain ⟨out7229, hw7230, hmo7231⟩ := gx_bind hm
  refine G_meet (fun a w' => ∃ (p7248 : Option Addr), ∃ (c7249 : Nat), ∃ (sg7250 : Seg), ∃ (p7253 : Option Addr), ∃ (c7254 : Nat), ∃ (sg7255 : Seg), ∃ (p7258 : Option Addr), ∃ (c7259 : Nat), ∃ (sg7260 : Seg), ownS encI out7229.2.1 p7248 c7249 sg7250 ∧ ownS encI out7229.2.2.1 p7253 c7254 sg7255 ∧ ownS encB out7229.2.2.2 p7258 c7259 sg7260 ∧ Mem [] w w' [[(b6562, .cells ⟨[.slice none 0 0, .slice none 0 0, .slice none 0 0]⟩ 28 (0, 0))], [(b6588, .cells ⟨[.slice p7248 out7229.2.1.length c7249, .slice p7253 out7229.2.2.1.length c7254, .slice p7258 out7229.2.2.2.length c7259]⟩ 28 (0, 0))], sg7250, sg7255, sg7260] ∧ Sat Try.f78.ntmps [(6, .pointer (some ⟨b6562, 0, none⟩)), (8, .pointer (some ⟨b6588, 0, none⟩)), (9, .int .i64 out7229.1)] a) ?_ ?_
  · refine G_block ?_
    refine G_while (σ := Int × Int × List Int × List Int × List Bool) (ρ := Int × List Int × List Int × List Bool) (fun s7222 a w' => ∃ (p7232 : Option Addr), ∃ (c7233 : Nat), ∃ (sg7234 : Seg), ∃ (p7237 : Option Addr), ∃ (c7238 : Nat), ∃ (sg7239 : Seg), ∃ (p7242 : Option Addr), ∃ (c7243 : Nat), ∃ (sg7244 : Seg), ownS encI s7222.2.2.1 p7232 c7233 sg7234 ∧ ownS encI s7222.2.2.2.1 p7237 c7238 sg7239 ∧ ownS encB s7222.2.2.2.2 p7242 c7243 sg7244 ∧ Mem [] w w' [[(b6562, .cells ⟨[.slice none 0 0, .slice none 0 0, .slice none 0 0]⟩ 28 (0, 0))], [(b6588, .cells ⟨[.slice p7232 s7222.2.2.1.length c7233, .slice p7237 s7222.2.2.2.1.length c7238, .slice p7242 s7222.2.2.2.2.length c7243]⟩ 28 (0, 0))], sg7234, sg7239, sg7244] ∧ Sat Try.f78.ntmps [(1, .slice p6538 x6536.length c6539), (2, .int .i64 x6541), (6, .pointer (some ⟨b6562, 0, none⟩)), (8, .pointer (some ⟨b6588, 0, none⟩)), (9, .int .i64 s7222.1), (10, .int .i64 s7222.2.1)] a) hw7230 (fun a ha => ⟨p6567, c6568, sg6569, p6572, c6573, sg6574, p6577, c6578, sg6579, ho6570, ho6575, ho6580, M6592.pick [1, 5, 2, 3, 4] (by kernel_rfl), ha.sub (by kernel_rfl)⟩) ?_
    clear hm
    intro s7222 x7223 hm hout7224 a7225 w7226 ⟨p7232, c7233, sg7234, p7237, c7238, sg7239, p7242, c7243, sg7244, ho7235, ho7240, ho7245, M7227, hS7228⟩
    refine G_use hS7228 ?_
    refine G_seq ?_
    refine G_seq ?_
    refine G_region ?_
    refine W_run 4 [(1, .slice p6538 x6536.length c6539), (2, .int .i64 x6541), (6, .pointer (some ⟨b6562, 0, none⟩)), (8, .pointer (some ⟨b6588, 0, none⟩)), (9, .int .i64 s7222.1), (10, .int .i64 s7222.2.1), (19, .bool (decide (s7222.2.1 < (x6536.length : Int))))] w7226 (by kernel_rfl) ?_
    refine W_nil ?_
    refine N_then ?_
    rcases gx_bif hm with ⟨hc7263, hm⟩ | ⟨hc7263, hm⟩
    · refine G_cond_t (b := (decide (s7222.2.1 < (x6536.length : Int)))) hc7263 (by kernel_rfl) ?_
      refine G_skip ?_
      refine N_then ?_
      refine G_seq ?_
      refine G_block ?_
      refine G_seq ?_
      refine G_region ?_
      refine W_val (.agg #[.slice p7232 s7222.2.2.1.length c7233, .slice p7237 s7222.2.2.2.1.length c7238, .slice p7242 s7222.2.2.2.2.length c7243]) w7226 (by kernel_rfl) (E_load (e := 28) (fr := (0, 0)) _ _ true 3 b6588 0 [.slice p7232 s7222.2.2.1.length c7233, .slice p7237 s7222.2.2.2.1.length c7238, .slice p7242 s7222.2.2.2.2.length c7243] (.agg #[.slice p7232 s7222.2.2.1.length c7233, .slice p7237 s7222.2.2.2.1.length c7238, .slice p7242 s7222.2.2.2.2.length c7243]) rfl (by kernel_rfl) (by kernel_rfl) (by kernel_rfl) (M7227.blk 1 (b := b6588) (o := .cells ⟨[.slice p7232 s7222.2.2.1.length c7233, .slice p7237 s7222.2.2.2.1.length c7238, .slice p7242 s7222.2.2.2.2.length c7243]⟩ 28 (0, 0)) (by kernel_rfl))) ?_
      refine W_run 1 [(1, .slice p6538 x6536.length c6539), (2, .int .i64 x6541), (6, .pointer (some ⟨b6562, 0, none⟩)), (8, .pointer (some ⟨b6588, 0, none⟩)), (9, .int .i64 s7222.1), (10, .int .i64 s7222.2.1), (23, .agg #[.slice p7232 s7222.2.2.1.length c7233, .slice p7237 s7222.2.2.2.1.length c7238, .slice p7242 s7222.2.2.2.2.length c7243]), (24, .int .i64 x6541)] w7226 (by kernel_rfl) ?_
      obtain ⟨r7264, hr7264, hm⟩ := gx_bind hm
      refine W_call 67 #[.agg #[.slice p7232 s7222.2.2.1.length c7233, .slice p7237 s7222.2.2.2.1.length c7238, .slice p7242 s7222.2.2.2.2.length c7243], .int .i64 x6541] (by kernel_rfl) (by kernel_rfl) ?_
      refine (c_s_l19Round w7226 (⟨s7222.2.2.1, s7222.2.2.2.1, s7222.2.2.2.2⟩ : Copying) p7232 c7233 (ho7235.rd M7227 2 (by kernel_rfl)) p7237 c7238 (ho7240.rd M7227 3 (by kernel_rfl)) p7242 c7243 (ho7245.rd M7227 4 (by kernel_rfl)) x6541 hr7264).mono ?_
      rintro e_ w7280 ⟨p7266, c7267, sg7268, p7271, c7272, sg7273, p7276, c7277, sg7278, rfl, ho7269, ho7274, ho7279, K7281⟩
      have M7282 := M7227.call K7281
      refine ⟨_, rfl, ?_⟩
      refine W_run 3 [(1, .slice p6538 x6536.length c6539), (2, .int .i64 x6541), (6, .pointer (some ⟨b6562, 0, none⟩)), (8, .pointer (some ⟨b6588, 0, none⟩)), (9, .int .i64 s7222.1), (10, .int .i64 s7222.2.1), (26, .agg #[.slice p7266 r7264.1.Memory.length c7267, .slice p7271 r7264.1.Copy.length c7272, .slice p7276 r7264.1.Dirty.length c7277]), (27, .int .i64 r7264.2)] w7280 (by kernel_rfl) ?_
      refine W_new (fun b => .pointer (some ⟨b, 0, none⟩)) (.cells ⟨[.slice none 0 0, .slice none 0 0, .slice none 0 0]⟩ 28 (0, 0)) M7282 rfl (by kernel_rfl) (by kernel_rfl) ?_
      intro b7287 w7288 M7289
      refine W_store _ _ _ true 3 b7287 0 [.slice none 0 0, .slice none 0 0, .slice none 0 0] 28 (.agg #[.slice p7266 r7264.1.Memory.length c7267, .slice p7271 r7264.1.Copy.length c7272, .slice p7276 r7264.1.Dirty.length c7277]) 8 [.slice p7266 r7264.1.Memory.length c7267, .slice p7271 r7264.1.Copy.length c7272, .slice p7276 r7264.1.Dirty.length c7277] M7289 (by kernel_rfl) rfl (by kernel_rfl) (by kernel_rfl) (by kernel_rfl) (by kernel_rfl) (by kernel_rfl) (by kernel_rfl) (by kernel_rfl) (by kernel_rfl) ?_
      intro w7290 M7291
      refine W_run 1 [(1, .slice p6538 x6536.length c6539), (2, .int .i64 x6541), (6, .pointer (some ⟨b6562, 0, none⟩)), (8, .pointer (some ⟨b6588, 0, none⟩)), (9, .int .i64 s7222.1), (10, .int .i64 s7222.2.1), (11, .pointer (some ⟨b7287, 0, none⟩)), (12, .int .i64 r7264.2)] w7290 (by kernel_rfl) ?_
      refine W_nil ?_
      refine N_then ?_
      refine G_seq ?_
      refine G_region ?_
      refine W_run 4 [(1, .slice p6538 x6536.length c6539), (2, .int .i64 x6541), (6, .pointer (some ⟨b6562, 0, none⟩)), (8, .pointer (some ⟨b6588, 0, none⟩)), (9, .int .i64 (w64 (s7222.1 + r7264.2))), (10, .int .i64 s7222.2.1), (11, .pointer (some ⟨b7287, 0, none⟩))] w7290 (by kernel_rfl) ?_
      refine W_nil ?_
      refine N_then ?_
      refine G_seq ?_
      refine G_seq ?_
      refine G_region ?_
      refine W_run 1 [(1, .slice p6538 x6536.length c6539), (2, .int .i64 x6541), (6, .pointer (some ⟨b6562, 0, none⟩)), (8, .pointer (some ⟨b6588, 0, none⟩)), (9, .int .i64 (w64 (s7222.1 + r7264.2))), (10, .int .i64 s7222.2.1), (11, .pointer (some ⟨b7287, 0, none⟩)), (13, .int .i64 0)] w7290 (by kernel_rfl) ?_
      refine W_nil ?_
      refine N_then ?_
      obtain ⟨out7458, hw7459, hmo7460⟩ := gx_bind hm
      refine G_meet (fun a w' => ∃ (p7477 : Option Addr), ∃ (c7478 : Nat), ∃ (sg7479 : Seg), ∃ (p7482 : Option Addr), ∃ (c7483 : Nat), ∃ (sg7484 : Seg), ∃ (p7487 : Option Addr), ∃ (c7488 : Nat), ∃ (sg7489 : Seg), ownS encI out7458.1 p7477 c7478 sg7479 ∧ ownS encI out7458.2.1 p7482 c7483 sg7484 ∧ ownS encB out7458.2.2 p7487 c7488 sg7489 ∧ Mem [] w w' [[(b6562, .cells ⟨[.slice none 0 0, .slice none 0 0, .slice none 0 0]⟩ 28 (0, 0))], [(b6588, .cells ⟨[.slice p7232 s7222.2.2.1.length c7233, .slice p7237 s7222.2.2.2.1.length c7238, .slice p7242 s7222.2.2.2.2.length c7243]⟩ 28 (0, 0))], sg7234, sg7239, sg7244, [(b7287, .cells ⟨[.slice p7477 out7458.1.length c7478, .slice p7482 out7458.2.1.length c7483, .slice p7487 out7458.2.2.length c7488]⟩ 28 (0, 0))], sg7479, sg7484, sg7489] ∧ Sat Try.f78.ntmps [(1, .slice p6538 x6536.length c6539), (2, .int .i64 x6541), (6, .pointer (some ⟨b6562, 0, none⟩)), (8, .pointer (some ⟨b6588, 0, none⟩)), (9, .int .i64 (w64 (s7222.1 + r7264.2))), (10, .int .i64 s7222.2.1), (11, .pointer (some ⟨b7287, 0, none⟩))] a) ?_ ?_
      · refine G_block ?_
        refine G_while (σ := Int × List Int × List Int × List Bool) (ρ := List Int × List Int × List Bool) (fun s7451 a w' => ∃ (p7461 : Option Addr), ∃ (c7462 : Nat), ∃ (sg7463 : Seg), ∃ (p7466 : Option Addr), ∃ (c7467 : Nat), ∃ (sg7468 : Seg), ∃ (p7471 : Option Addr), ∃ (c7472 : Nat), ∃ (sg7473 : Seg), ownS encI s7451.2.1 p7461 c7462 sg7463 ∧ ownS encI s7451.2.2.1 p7466 c7467 sg7468 ∧ ownS encB s7451.2.2.2 p7471 c7472 sg7473 ∧ Mem [] w w' [[(b6562, .cells ⟨[.slice none 0 0, .slice none 0 0, .slice none 0 0]⟩ 28 (0, 0))], [(b6588, .cells ⟨[.slice p7232 s7222.2.2.1.length c7233, .slice p7237 s7222.2.2.2.1.length c7238, .slice p7242 s7222.2.2.2.2.length c7243]⟩ 28 (0, 0))], sg7234, sg7239, sg7244, [(b7287, .cells ⟨[.slice p7461 s7451.2.1.length c7462, .slice p7466 s7451.2.2.1.length c7467, .slice p7471 s7451.2.2.2.length c7472]⟩ 28 (0, 0))], sg7463, sg7468, sg7473] ∧ Sat Try.f78.ntmps [(1, .slice p6538 x6536.length c6539), (2, .int .i64 x6541), (6, .pointer (some ⟨b6562, 0, none⟩)), (8, .pointer (some ⟨b6588, 0, none⟩)), (9, .int .i64 (w64 (s7222.1 + r7264.2))), (10, .int .i64 s7222.2.1), (11, .pointer (some ⟨b7287, 0, none⟩)), (13, .int .i64 s7451.1)] a) hw7459 (fun a ha => ⟨p7266, c7267, sg7268, p7271, c7272, sg7273, p7276, c7277, sg7278, ho7269, ho7274, ho7279, M7291.pick [0, 1, 2, 3, 4, 8, 5, 6, 7] (by kernel_rfl), ha.sub (by kernel_rfl)⟩) ?_
        clear hm
        intro s7451 x7452 hm hout7453 a7454 w7455 ⟨p7461, c7462, sg7463, p7466, c7467, sg7468, p7471, c7472, sg7473, ho7464, ho7469, ho7474, M7456, hS7457⟩
        refine G_use hS7457 ?_
        refine G_seq ?_
        refine G_seq ?_
        refine G_region ?_
        refine W_run 3 [(1, .slice p6538 x6536.length c6539), (2, .int .i64 x6541), (6, .pointer (some ⟨b6562, 0, none⟩)), (8, .pointer (some ⟨b6588, 0, none⟩)), (9, .int .i64 (w64 (s7222.1 + r7264.2))), (10, .int .i64 s7222.2.1), (11, .pointer (some ⟨b7287, 0, none⟩)), (13, .int .i64 s7451.1), (31, .int .i64 s7451.1), (32, .slice p6538 x6536.length c6539), (33, .int .i64 s7222.2.1)] w7455 (by kernel_rfl) ?_
        obtain ⟨y7492, hy7492, hm⟩ := gx_bind hm
        obtain ⟨zs7493, hz7494, hr7495, hi7496⟩ := id h6540
        obtain ⟨g7497, hg7498⟩ := gxIdx_fst hz7494 hy7492
        refine W_val (elemP p6538 (s7222.2.1.toNat * 1)) w7455 (by kernel_rfl) (E_index (E := (deepL encStore).E) _ _ _ x6536.length c6539 .i64 s7222.2.1 1 (y := (y7492, g7497)) rfl (by kernel_rfl) (by kernel_rfl) (by kernel_rfl) (hr7495.mem0 M7456) (len_fst hz7494) hg7498) ?_
        refine W_val (.slice ((g7497 0).1) y7492.length ((g7497 0).2)) w7455 (by kernel_rfl) (E_loadE (E := (deepL encStore).E) _ _ false 1 s7222.2.1 0 (s7222.2.1.toNat * 1) (y7492, g7497) (.slice ((g7497 0).1) y7492.length ((g7497 0).2)) rfl (by kernel_rfl) (by kernel_rfl) (by kernel_rfl) (hr7495.mem0 M7456) hg7498 rfl) ?_
        refine W_run 2 [(1, .slice p6538 x6536.length c6539), (2, .int .i64 x6541), (6, .pointer (some ⟨b6562, 0, none⟩)), (8, .pointer (some ⟨b6588, 0, none⟩)), (9, .int .i64 (w64 (s7222.1 + r7264.2))), (10, .int .i64 s7222.2.1), (11, .pointer (some ⟨b7287, 0, none⟩)), (13, .int .i64 s7451.1), (37, .bool (decide (s7451.1 < (y7492.length : Int))))] w7455 (by kernel_rfl) ?_
        refine W_nil ?_
        refine N_then ?_
        rcases gx_bif hm with ⟨hc7500, hm⟩ | ⟨hc7500, hm⟩
        · refine G_cond_t (b := (decide (s7451.1 < (y7492.length : Int)))) hc7500 (by kernel_rfl) ?_
          refine G_skip ?_
          refine N_then ?_
          refine G_seq ?_
          refine G_block ?_
          obtain ⟨y7503, hy7503, hm⟩ := gx_bind hm
          obtain ⟨g7504, hg7505⟩ := gxIdx_fst hz7494 hy7503
          obtain ⟨y7507, hy7507, hm⟩ := gx_bind hm
          refine G_sub [(1, .slice p6538 x6536.length c6539), (2, .int .i64 x6541), (6, .pointer (some ⟨b6562, 0, none⟩)), (8, .pointer (some ⟨b6588, 0, none⟩)), (9, .int .i64 (w64 (s7222.1 + r7264.2))), (10, .int .i64 s7222.2.1), (11, .pointer (some ⟨b7287, 0, none⟩)), (13, .int .i64 s7451.1), (37, .bool (decide (s7451.1 < (y7492.length : Int))))] (by kernel_rfl) ?_
          refine G_dagL 8 [[], [], [], [1, 2], [3], [], [4, 5], [6]] [[], [], [], [], [], [], [], []] [[], [], [], [], [], [], [], []] [[], [], [], [], [], [], [], []] [[], [], [], [], [], [], [], []] [[], [], [], [], [], [], [], []] (fun _ => []) (fun i => ([fun f v s => v = (.agg #[.slice p7461 s7451.2.1.length c7462, .slice p7466 s7451.2.2.1.length c7467, .slice p7471 s7451.2.2.2.length c7472] : Value) ∧ s = [], fun f v s => v = (.slice p6538 x6536.length c6539 : Value) ∧ s = [], fun f v s => v = (.int .i64 s7222.2.1 : Value) ∧ s = [], fun f v s => v = (elemP p6538 (s7222.2.1.toNat * 1) : Value) ∧ s = [], fun f v s => v = (.slice ((g7504 0).1) y7503.length ((g7504 0).2) : Value) ∧ s = [], fun f v s => v = (.int .i64 s7451.1 : Value) ∧ s = [], fun f v s => v = (elemP ((g7504 0).1) (s7451.1.toNat * 2) : Value) ∧ s = [], fun f v s => v = (.agg #[.int .i64 y7507.Word, .int .i64 y7507.Value] : Value) ∧ s = []] : List ((Nat → Value) → Value → Seg → Prop)).getD i (fun _ _ _ => False)) (fun j f v => ∃ s, (fun i => ([fun f v s => v = (.agg #[.slice p7461 s7451.2.1.length c7462, .slice p7466 s7451.2.2.1.length c7467, .slice p7471 s7451.2.2.2.length c7472] : Value) ∧ s = [], fun f v s => v = (.slice p6538 x6536.length c6539 : Value) ∧ s = [], fun f v s => v = (.int .i64 s7222.2.1 : Value) ∧ s = [], fun f v s => v = (elemP p6538 (s7222.2.1.toNat * 1) : Value) ∧ s = [], fun f v s => v = (.slice ((g7504 0).1) y7503.length ((g7504 0).2) : Value) ∧ s = [], fun f v s => v = (.int .i64 s7451.1 : Value) ∧ s = [], fun f v s => v = (elemP ((g7504 0).1) (s7451.1.toNat * 2) : Value) ∧ s = [], fun f v s => v = (.agg #[.int .i64 y7507.Word, .int .i64 y7507.Value] : Value) ∧ s = []] : List ((Nat → Value) → Value → Seg → Prop)).getD i (fun _ _ _ => False)) j f v s) [] [0, 7] [] (fun _ _ _ s h => ⟨s, h⟩) (by kernel_rfl) (by kernel_rfl) (M7456.preNil 8) (by kernel_rfl) (by kernel_rfl) (by kernel_rfl) (by kernel_rfl) (allOb_cons ?_ (allOb_cons ?_ (allOb_cons ?_ (allOb_cons ?_ (allOb_cons ?_ (allOb_cons ?_ (allOb_cons ?_ (allOb_cons ?_ allOb_nil)))))))) ?_
          · intro g7501 f7502
            intro R w7508 M7509
            refine W_val (.agg #[.slice p7461 s7451.2.1.length c7462, .slice p7466 s7451.2.2.1.length c7467, .slice p7471 s7451.2.2.2.length c7472]) w7508 (by kernel_rfl) (E_load (e := 28) (fr := (0, 0)) _ _ true 3 b7287 0 [.slice p7461 s7451.2.1.length c7462, .slice p7466 s7451.2.2.1.length c7467, .slice p7471 s7451.2.2.2.length c7472] (.agg #[.slice p7461 s7451.2.1.length c7462, .slice p7466 s7451.2.2.1.length c7467, .slice p7471 s7451.2.2.2.length c7472]) rfl (by kernel_rfl) (by kernel_rfl) (by kernel_rfl) (M7509.blk 5 (b := b7287) (o := .cells ⟨[.slice p7461 s7451.2.1.length c7462, .slice p7466 s7451.2.2.1.length c7467, .slice p7471 s7451.2.2.2.length c7472]⟩ 28 (0, 0)) (by kernel_rfl))) ?_
            exact W_nil (ob_end (.agg #[.slice p7461 s7451.2.1.length c7462, .slice p7466 s7451.2.2.1.length c7467, .slice p7471 s7451.2.2.2.length c7472]) [] rfl (by kernel_rfl) ⟨by kernel_rfl, rfl⟩ M7509)
          · intro g7501 f7502
            intro R w7512 M7513
            refine W_run 1 [(41, .slice p6538 x6536.length c6539)] w7512 (by kernel_rfl) ?_
            exact W_nil (ob_end (.slice p6538 x6536.length c6539) [] rfl (by kernel_rfl) ⟨by kernel_rfl, rfl⟩ M7513)
          · intro g7501 f7502
            intro R w7516 M7517
            refine W_run 1 [(42, .int .i64 s7222.2.1)] w7516 (by kernel_rfl) ?_
            exact W_nil (ob_end (.int .i64 s7222.2.1) [] rfl (by kernel_rfl) ⟨by kernel_rfl, rfl⟩ M7517)
          · intro g7501 f7502
            intro v1_ hb1_
            obtain ⟨rfl, _⟩ := hb1_
            intro v2_ hb2_
            obtain ⟨rfl, _⟩ := hb2_
            intro R w7520 M7521
            refine W_val (elemP p6538 (s7222.2.1.toNat * 1)) w7520 (by kernel_rfl) (E_index (E := (deepL encStore).E) _ _ _ x6536.length c6539 .i64 s7222.2.1 1 (y := (y7503, g7504)) rfl (by kernel_rfl) (by kernel_rfl) (by kernel_rfl) (hr7495.mem0 M7521) (len_fst hz7494) hg7505) ?_
            exact W_nil (ob_end (elemP p6538 (s7222.2.1.toNat * 1)) [] rfl (by kernel_rfl) ⟨by kernel_rfl, rfl⟩ M7521)
          · intro g7501 f7502
            intro v3_ hb3_
            obtain ⟨rfl, _⟩ := hb3_
            intro R w7524 M7525
            refine W_val (.slice ((g7504 0).1) y7503.length ((g7504 0).2)) w7524 (by kernel_rfl) (E_loadE (E := (deepL encStore).E) _ _ false 1 s7222.2.1 0 (s7222.2.1.toNat * 1) (y7503, g7504) (.slice ((g7504 0).1) y7503.length ((g7504 0).2)) rfl (by kernel_rfl) (by kernel_rfl) (by kernel_rfl) (hr7495.mem0 M7525) hg7505 rfl) ?_
            exact W_nil (ob_end (.slice ((g7504 0).1) y7503.length ((g7504 0).2)) [] rfl (by kernel_rfl) ⟨by kernel_rfl, rfl⟩ M7525)
          · intro g7501 f7502
            intro R w7528 M7529
            refine W_run 1 [(45, .int .i64 s7451.1)] w7528 (by kernel_rfl) ?_
            exact W_nil (ob_end (.int .i64 s7451.1) [] rfl (by kernel_rfl) ⟨by kernel_rfl, rfl⟩ M7529)
          · intro g7501 f7502
            intro v4_ hb4_
            obtain ⟨rfl, _⟩ := hb4_
            intro v5_ hb5_
            obtain ⟨rfl, _⟩ := hb5_
            intro R w7532 M7533
            refine W_val (elemP ((g7504 0).1) (s7451.1.toNat * 2)) w7532 (by kernel_rfl) (E_index (E := encStore) _ _ _ y7503.length ((g7504 0).2) .i64 s7451.1 2 (y := y7507) rfl (by kernel_rfl) (by kernel_rfl) (by kernel_rfl) ((hi7496.mem0 M7533).at_ hg7505 0 ⟨Store, encStore, y7503, (g7504 0).1, (g7504 0).2⟩ (by kernel_rfl)) rfl hy7507) ?_
            exact W_nil (ob_end (elemP ((g7504 0).1) (s7451.1.toNat * 2)) [] rfl (by kernel_rfl) ⟨by kernel_rfl, rfl⟩ M7533)
          · intro g7501 f7502
            intro v6_ hb6_
            obtain ⟨rfl, _⟩ := hb6_
            intro R w7536 M7537
            refine W_val (.agg #[.int .i64 y7507.Word, .int .i64 y7507.Value]) w7536 (by kernel_rfl) (E_loadE (E := encStore) _ _ true 2 s7451.1 0 (s7451.1.toNat * 2) y7507 (.agg #[.int .i64 y7507.Word, .int .i64 y7507.Value]) rfl (by kernel_rfl) (by kernel_rfl) (by kernel_rfl) ((hi7496.mem0 M7537).at_ hg7505 0 ⟨Store, encStore, y7503, (g7504 0).1, (g7504 0).2⟩ (by kernel_rfl)) hy7507 rfl) ?_
            exact W_nil (ob_end (.agg #[.int .i64 y7507.Word, .int .i64 y7507.Value]) [] rfl (by kernel_rfl) ⟨by kernel_rfl, rfl⟩ M7537)
          · intro g7501 f7502
            intro v0_ hb0_
            obtain ⟨rfl, _⟩ := hb0_
            intro v7_ hb7_
            obtain ⟨rfl, _⟩ := hb7_
            intro w7540 M7541
            have M7542 : Mem [] w w7540 [[(b6562, .cells ⟨[.slice none 0 0, .slice none 0 0, .slice none 0 0]⟩ 28 (0, 0))], [(b6588, .cells ⟨[.slice p7232 s7222.2.2.1.length c7233, .slice p7237 s7222.2.2.2.1.length c7238, .slice p7242 s7222.2.2.2.2.length c7243]⟩ 28 (0, 0))], sg7234, sg7239, sg7244, [(b7287, .cells ⟨[.slice p7461 s7451.2.1.length c7462, .slice p7466 s7451.2.2.1.length c7467, .slice p7471 s7451.2.2.2.length c7472]⟩ 28 (0, 0))], sg7463, sg7468, sg7473] := M7541
            obtain ⟨r7543, hr7543, hm⟩ := gx_bind hm
            refine W_call 69 #[.agg #[.slice p7461 s7451.2.1.length c7462, .slice p7466 s7451.2.2.1.length c7467, .slice p7471 s7451.2.2.2.length c7472], .agg #[.int .i64 y7507.Word, .int .i64 y7507.Value]] (by kernel_rfl) (by kernel_rfl) ?_
            refine (c_s_l19Write w7540 (⟨s7451.2.1, s7451.2.2.1, s7451.2.2.2⟩ : Copying) p7461 c7462 (ho7464.rd M7542 6 (by kernel_rfl)) p7466 c7467 (ho7469.rd M7542 7 (by kernel_rfl)) p7471 c7472 (ho7474.rd M7542 8 (by kernel_rfl)) y7507 hr7543).mono ?_
            rintro e_ w7559 ⟨p7545, c7546, sg7547, p7550, c7551, sg7552, p7555, c7556, sg7557, rfl, ho7548, ho7553, ho7558, K7560⟩
            have M7561 := M7542.call K7560
            refine ⟨_, rfl, ?_⟩
            refine W_store _ _ _ true 3 b7287 0 [.slice p7461 s7451.2.1.length c7462, .slice p7466 s7451.2.2.1.length c7467, .slice p7471 s7451.2.2.2.length c7472] 28 (.agg #[.slice p7545 r7543.Memory.length c7546, .slice p7550 r7543.Copy.length c7551, .slice p7555 r7543.Dirty.length c7556]) 5 [.slice p7545 r7543.Memory.length c7546, .slice p7550 r7543.Copy.length c7551, .slice p7555 r7543.Dirty.length c7556] M7561 (by kernel_rfl) rfl (by kernel_rfl) (by kernel_rfl) (by kernel_rfl) (by kernel_rfl) (by kernel_rfl) (by kernel_rfl) (by kernel_rfl) (by kernel_rfl) ?_
            intro w7562 M7563
            refine W_nil ?_
            refine N_block ?_
            refine N_then ?_
            refine G_region ?_
            refine W_run 3 [(1, .slice p6538 x6536.length c6539), (2, .int .i64 x6541), (6, .pointer (some ⟨b6562, 0, none⟩)), (8, .pointer (some ⟨b6588, 0, none⟩)), (9, .int .i64 (w64 (s7222.1 + r7264.2))), (10, .int .i64 s7222.2.1), (11, .pointer (some ⟨b7287, 0, none⟩)), (13, .int .i64 (w64 (s7451.1 + 1)))] w7562 (by kernel_rfl) ?_
            refine W_nil ?_
            obtain rfl := Option.some.inj hm
            exact N_loop fun a ha => ⟨_, rfl, p7545, c7546, sg7547, p7550, c7551, sg7552, p7555, c7556, sg7557, ho7548, ho7553, ho7558, M7563.pick [0, 1, 2, 3, 4, 5, 9, 10, 11] (by kernel_rfl), ha.sub (by kernel_rfl)⟩
        · refine G_cond_f (b := (decide (s7451.1 < (y7492.length : Int)))) hc7500 (by kernel_rfl) ?_
          refine G_exit ?_
          refine N_then_exit ?_
          refine N_then_exit ?_
          refine N_block_eq ?_
          obtain rfl := Option.some.inj hm
          obtain rfl := hout7453 _ rfl
          exact N_meet fun a ha => ⟨p7461, c7462, sg7463, p7466, c7467, sg7468, p7471, c7472, sg7473, ho7464, ho7469, ho7474, M7456.pick [0, 1, 2, 3, 4, 5, 6, 7, 8] (by kernel_rfl), ha.sub (by kernel_rfl)⟩
      · intro a7564 w7565 ⟨p7477, c7478, sg7479, p7482, c7483, sg7484, p7487, c7488, sg7489, ho7480, ho7485, ho7490, M7566, hS7567⟩
        refine N_use hS7567 ?_
        have hm := hmo7460
        refine N_then ?_
        refine G_region ?_
        refine W_val (.agg #[.slice p7477 out7458.1.length c7478, .slice p7482 out7458.2.1.length c7483, .slice p7487 out7458.2.2.length c7488]) w7565 (by kernel_rfl) (E_load (e := 28) (fr := (0, 0)) _ _ true 3 b7287 0 [.slice p7477 out7458.1.length c7478, .slice p7482 out7458.2.1.length c7483, .slice p7487 out7458.2.2.length c7488] (.agg #[.slice p7477 out7458.1.length c7478, .slice p7482 out7458.2.1.length c7483, .slice p7487 out7458.2.2.length c7488]) rfl (by kernel_rfl) (by kernel_rfl) (by kernel_rfl) (M7566.blk 5 (b := b7287) (o := .cells ⟨[.slice p7477 out7458.1.length c7478, .slice p7482 out7458.2.1.length c7483, .slice p7487 out7458.2.2.length c7488]⟩ 28 (0, 0)) (by kernel_rfl))) ?_
        refine W_store _ _ _ true 3 b6588 0 [.slice p7232 s7222.2.2.1.length c7233, .slice p7237 s7222.2.2.2.1.length c7238, .slice p7242 s7222.2.2.2.2.length c7243] 28 (.agg #[.slice p7477 out7458.1.length c7478, .slice p7482 out7458.2.1.length c7483, .slice p7487 out7458.2.2.length c7488]) 1 [.slice p7477 out7458.1.length c7478, .slice p7482 out7458.2.1.length c7483, .slice p7487 out7458.2.2.length c7488] M7566 (by kernel_rfl) rfl (by kernel_rfl) (by kernel_rfl) (by kernel_rfl) (by kernel_rfl) (by kernel_rfl) (by kernel_rfl) (by kernel_rfl) (by kernel_rfl) ?_
        intro w7568 M7569
        refine W_nil ?_
        refine N_block ?_
        refine N_then ?_
        refine G_region ?_
        refine W_run 3 [(1, .slice p6538 x6536.length c6539), (2, .int .i64 x6541), (6, .pointer (some ⟨b6562, 0, none⟩)), (8, .pointer (some ⟨b6588, 0, none⟩)), (9, .int .i64 (w64 (s7222.1 + r7264.2))), (10, .int .i64 (w64 (s7222.2.1 + 1)))] w7568 (by kernel_rfl) ?_
        refine W_nil ?_
        obtain rfl := Option.some.inj hm
        exact N_loop fun a ha => ⟨_, rfl, p7477, c7478, sg7479, p7482, c7483, sg7484, p7487, c7488, sg7489, ho7480, ho7485, ho7490, M7569.pick [0, 1, 6, 7, 8] (by kernel_rfl), ha.sub (by kernel_rfl)⟩
    · refine G_cond_f (b := (decide (s7222.2.1 < (x6536.length : Int)))) hc7263 (by kernel_rfl) ?_
      refine G_exit ?_
      refine N_then_exit ?_
      refine N_then_exit ?_
      refine N_block_eq ?_
      obtain rfl := Option.some.inj hm
      obtain rfl := hout7224 _ rfl
      exact N_meet fun a ha => ⟨p7232, c7233, sg7234, p7237, c7238, sg7239, p7242, c7243, sg7244, ho7235, ho7240, ho7245, M7227.pick [0, 1, 2, 3, 4] (by kernel_rfl), ha.sub (by kernel_rfl)⟩
  · intro a7570 w7571 ⟨p7248, c7249, sg7250, p7253, c7254, sg7255, p7258, c7259, sg7260, ho7251, ho7256, ho7261, M7572, hS7573⟩
    refine N_use hS7573 ?_
    have hm := hmo7231
    refine N_then ?_
    refine G_seq ?_
    refine G_region ?_
    refine W_val (.agg #[.slice p7248 out7229.2.1.length c7249, .slice p7253 out7229.2.2.1.length c7254, .slice p7258 out7229.2.2.2.length c7259]) w7571 (by kernel_rfl) (E_load (e := 28) (fr := (0, 0)) _ _ true 3 b6588 0 [.slice p7248 out7229.2.1.length c7249, .slice p7253 out7229.2.2.1.length c7254, .slice p7258 out7229.2.2.2.length c7259] (.agg #[.slice p7248 out7229.2.1.length c7249, .slice p7253 out7229.2.2.1.length c7254, .slice p7258 out7229.2.2.2.length c7259]) rfl (by kernel_rfl) (by kernel_rfl) (by kernel_rfl) (M7572.blk 1 (b := b6588) (o := .cells ⟨[.slice p7248 out7229.2.1.length c7249, .slice p7253 out7229.2.2.1.length c7254, .slice p7258 out7229.2.2.2.length c7259]⟩ 28 (0, 0)) (by kernel_rfl))) ?_
    refine W_run 1 [(6, .pointer (some ⟨b6562, 0, none⟩)), (50, .agg #[.slice p7248 out7229.2.1.length c7249, .slice p7253 out7229.2.2.1.length c7254, .slice p7258 out7229.2.2.2.length c7259]), (51, .int .i64 out7229.1)] w7571 (by kernel_rfl) ?_
    refine W_store _ _ _ true 3 b6562 0 [.slice none 0 0, .slice none 0 0, .slice none 0 0] 28 (.agg #[.slice p7248 out7229.2.1.length c7249, .slice p7253 out7229.2.2.1.length c7254, .slice p7258 out7229.2.2.2.length c7259]) 0 [.slice p7248 out7229.2.1.length c7249, .slice p7253 out7229.2.2.1.length c7254, .slice p7258 out7229.2.2.2.length c7259] M7572 (by kernel_rfl) rfl (by kernel_rfl) (by kernel_rfl) (by kernel_rfl) (by kernel_rfl) (by kernel_rfl) (by kernel_rfl) (by kernel_rfl) (by kernel_rfl) ?_
    intro w7574 M7575
    refine W_run 1 [(6, .pointer (some ⟨b6562, 0, none⟩)), (7, .int .i64 out7229.1)] w7574 (by kernel_rfl) ?_
    refine W_nil ?_
    refine N_then ?_
    refine G_ret ?_
    obtain rfl := Option.some.inj hm
    refine N_ret [.agg #[.slice p7248 out7229.2.1.length c7249, .slice p7253 out7229.2.2.1.length c7254, .slice p7258 out7229.2.2.2.length c7259], .int .i64 out7229.1] (RVs_cons (RV_cell (g := true) (k := 3) (b := b6562) (off := 0) (cs := [.slice p7248 out7229.2.1.length c7249, .slice p7253 out7229.2.2.1.length c7254, .slice p7258 out7229.2.2.2.length c7259]) (e := 28) (fr := (0, 0)) (v := .agg #[.slice p7248 out7229.2.1.length c7249, .slice p7253 out7229.2.2.1.length c7254, .slice p7258 out7229.2.2.2.length c7259]) (M7575.blk 0 (b := b6562) (o := .cells ⟨[.slice p7248 out7229.2.1.length c7249, .slice p7253 out7229.2.2.1.length c7254, .slice p7258 out7229.2.2.2.length c7259]⟩ 28 (0, 0)) (by kernel_rfl)) (by kernel_rfl) (by kernel_rfl) (by kernel_rfl)) (RVs_cons (RV_tmp (by kernel_rfl)) RVs_nil)) ?_
    exact ⟨p7248, c7249, sg7250, p7253, c7254, sg7255, p7258, c7259, sg7260, rfl, ho7251, ho7256, ho7261, M7575.pick [2, 3, 4] (by kernel_rfl)⟩
theorem c_s_RoundsUntil (w : World) (x6147 : Copying) (p6149 : Option Addr) (c6150 : Nat) (h6151 : rdS encI w x6147.Memory p6149 c6150) (p6153 : Option Addr) (c6154 : Nat) (h6155 : rdS encI w x6147.Copy p6153 c6154) (p6157 : Option Addr) (c6158 : Nat) (h6159 : rdS encB w x6147.Dirty p6157 c6158) (x6160 : List (List Store)) (p6162 : Option Addr) (c6163 : Nat) (h6164 : rdD (deepL encStore) w x6160 p6162 c6163) (x6165 : Int) (x6166 : Int) {r : Int × Bool} (hm : M.s_RoundsUntil x6147 x6160 x6165 x6166 = some r) :
    Calls Try.prog 36 #[.agg #[.slice p6149 x6147.Memory.length c6150, .slice p6153 x6147.Copy.length c6154, .slice p6157 x6147.Dirty.length c6158], .slice p6162 x6160.length c6163, .int .i64 x6165, .int .i64 x6166] w fun e w' => e = .returned (.tuple #[.int .i64 r.1, .bool r.2]) ∧ Mem [] w w' [] := by
  unfold M.s_RoundsUntil at hm
  refine C_enter Try.func36 rfl (by kernel_rfl) ?_
  have M0 := Mem.refl [] w
  refine G_seq ?_
  refine G_region ?_
  refine W_new (fun b => .pointer (some ⟨b, 0, none⟩)) (.cells ⟨[.slice p6149 x6147.Memory.length c6150, .slice p6153 x6147.Copy.length c6154, .slice p6157 x6147.Dirty.length c6158]⟩ 28 (0, 0)) M0 rfl (by kernel_rfl) (by kernel_rfl) ?_
  intro b6168 w6169 M6170
  refine W_run 2 [(1, .slice p6162 x6160.length c6163), (2, .int .i64 x6165), (3, .int .i64 x6166), (4, .pointer (some ⟨b6168, 0, none⟩))] w6169 (by kernel_rfl) ?_
  refine W_nil ?_
  refine N_then ?_
  refine G_seq ?_
  refine G_seq ?_
  obtain ⟨o6487, ho6488, hm6489⟩ := gx_bind hm
  refine G_meet (fun a w' => Mem [] w w' [[(b6168, .cells ⟨[.slice p6149 x6147.Memory.length c6150, .slice p6153 x6147.Copy.length c6154, .slice p6157 x6147.Dirty.length c6158]⟩ 28 (0, 0))]] ∧ Sat Try.f36.ntmps [(1, .slice p6162 x6160.length c6163), (2, .int .i64 x6165), (3, .int .i64 x6166), (4, .pointer (some ⟨b6168, 0, none⟩)), (30, .bool o6487)] a) ?_ ?_
  · have hm := ho6488
    refine G_region ?_
    refine W_val (.agg #[.slice p6149 x6147.Memory.length c6150, .slice p6153 x6147.Copy.length c6154, .slice p6157 x6147.Dirty.length c6158]) w6169 (by kernel_rfl) (E_load (e := 28) (fr := (0, 0)) _ _ true 3 b6168 0 [.slice p6149 x6147.Memory.length c6150, .slice p6153 x6147.Copy.length c6154, .slice p6157 x6147.Dirty.length c6158] (.agg #[.slice p6149 x6147.Memory.length c6150, .slice p6153 x6147.Copy.length c6154, .slice p6157 x6147.Dirty.length c6158]) rfl (by kernel_rfl) (by kernel_rfl) (by kernel_rfl) (M6170.blk 0 (b := b6168) (o := .cells ⟨[.slice p6149 x6147.Memory.length c6150, .slice p6153 x6147.Copy.length c6154, .slice p6157 x6147.Dirty.length c6158]⟩ 28 (0, 0)) (by kernel_rfl))) ?_
    obtain ⟨r6490, hr6490, hm⟩ := gx_bind hm
    refine W_call 56 #[.agg #[.slice p6149 x6147.Memory.length c6150, .slice p6153 x6147.Copy.length c6154, .slice p6157 x6147.Dirty.length c6158]] (by kernel_rfl) (by kernel_rfl) ?_
    refine (c_s_l19Good w6169 x6147 p6149 c6150 (h6151.mem0 M6170) p6153 c6154 (h6155.mem0 M6170) p6157 c6158 (h6159.mem0 M6170) hr6490).mono ?_
    rintro e_ w6491 ⟨rfl, K6492⟩
    have M6493 := M6170.call0 K6492
    refine ⟨_, rfl, ?_⟩
    refine W_run 2 [(1, .slice p6162 x6160.length c6163), (2, .int .i64 x6165), (3, .int .i64 x6166), (4, .pointer (some ⟨b6168, 0, none⟩)), (16, .bool (!r6490))] w6491 (by kernel_rfl) ?_
    rcases gx_bif hm with ⟨hc6494, hm⟩ | ⟨hc6494, hm⟩
    · refine W_known 16 true (by kernel_rfl) hc6494 ?_
      refine W_run 14 [(1, .slice p6162 x6160.length c6163), (2, .int .i64 x6165), (3, .int .i64 x6166), (4, .pointer (some ⟨b6168, 0, none⟩)), (30, .bool true)] w6491 (by kernel_rfl) ?_
      refine W_nil ?_
      obtain rfl := Option.some.inj hm
      exact N_meet fun a ha => ⟨M6493.pick [0] (by kernel_rfl), ha.sub (by kernel_rfl)⟩
    · refine W_known 16 false (by kernel_rfl) hc6494 ?_
      refine W_val (.agg #[.slice p6149 x6147.Memory.length c6150, .slice p6153 x6147.Copy.length c6154, .slice p6157 x6147.Dirty.length c6158]) w6491 (by kernel_rfl) (E_load (e := 28) (fr := (0, 0)) _ _ true 3 b6168 0 [.slice p6149 x6147.Memory.length c6150, .slice p6153 x6147.Copy.length c6154, .slice p6157 x6147.Dirty.length c6158] (.agg #[.slice p6149 x6147.Memory.length c6150, .slice p6153 x6147.Copy.length c6154, .slice p6157 x6147.Dirty.length c6158]) rfl (by kernel_rfl) (by kernel_rfl) (by kernel_rfl) (M6493.blk 0 (b := b6168) (o := .cells ⟨[.slice p6149 x6147.Memory.length c6150, .slice p6153 x6147.Copy.length c6154, .slice p6157 x6147.Dirty.length c6158]⟩ 28 (0, 0)) (by kernel_rfl))) ?_
      refine W_run 1 [(1, .slice p6162 x6160.length c6163), (2, .int .i64 x6165), (3, .int .i64 x6166), (4, .pointer (some ⟨b6168, 0, none⟩)), (16, .bool false), (17, .agg #[.slice p6149 x6147.Memory.length c6150, .slice p6153 x6147.Copy.length c6154, .slice p6157 x6147.Dirty.length c6158]), (18, .slice p6162 x6160.length c6163)] w6491 (by kernel_rfl) ?_
      obtain ⟨r6495, hr6495, hm⟩ := gx_bind hm
      refine W_call 77 #[.agg #[.slice p6149 x6147.Memory.length c6150, .slice p6153 x6147.Copy.length c6154, .slice p6157 x6147.Dirty.length c6158], .slice p6162 x6160.length c6163] (by kernel_rfl) (by kernel_rfl) ?_
      refine (c_s_l19Stores w6491 x6147 p6149 c6150 (h6151.mem0 M6493) p6153 c6154 (h6155.mem0 M6493) p6157 c6158 (h6159.mem0 M6493) x6160 p6162 c6163 (h6164.mem0 M6493) hr6495).mono ?_
      rintro e_ w6496 ⟨rfl, K6497⟩
      have M6498 := M6493.call0 K6497
      refine ⟨_, rfl, ?_⟩
      refine W_run 3 [(1, .slice p6162 x6160.length c6163), (2, .int .i64 x6165), (3, .int .i64 x6166), (4, .pointer (some ⟨b6168, 0, none⟩)), (22, .bool (!r6495))] w6496 (by kernel_rfl) ?_
      rcases gx_bif hm with ⟨hc6499, hm⟩ | ⟨hc6499, hm⟩
      · refine W_known 22 true (by kernel_rfl) hc6499 ?_
        refine W_run 8 [(1, .slice p6162 x6160.length c6163), (2, .int .i64 x6165), (3, .int .i64 x6166), (4, .pointer (some ⟨b6168, 0, none⟩)), (30, .bool true)] w6496 (by kernel_rfl) ?_
        refine W_nil ?_
        obtain rfl := Option.some.inj hm
        exact N_meet fun a ha => ⟨M6498.pick [0] (by kernel_rfl), ha.sub (by kernel_rfl)⟩
      · refine W_known 22 false (by kernel_rfl) hc6499 ?_
        refine W_run 1 [(1, .slice p6162 x6160.length c6163), (2, .int .i64 x6165), (3, .int .i64 x6166), (4, .pointer (some ⟨b6168, 0, none⟩)), (22, .bool false), (23, .int .i64 x6165)] w6496 (by kernel_rfl) ?_
        obtain ⟨r6500, hr6500, hm⟩ := gx_bind hm
        refine W_call 73 #[.int .i64 x6165, .int .i64 0, .int .i64 12] (by kernel_rfl) (by kernel_rfl) ?_
        refine (c_s_l1In w6496 x6165 0 12 hr6500).mono ?_
        rintro e_ w6501 ⟨rfl, K6502⟩
        have M6503 := M6498.call0 K6502
        refine ⟨_, rfl, ?_⟩
        refine W_run 3 [(1, .slice p6162 x6160.length c6163), (2, .int .i64 x6165), (3, .int .i64 x6166), (4, .pointer (some ⟨b6168, 0, none⟩)), (27, .bool (!r6500))] w6501 (by kernel_rfl) ?_
        rcases gx_bif hm with ⟨hc6504, hm⟩ | ⟨hc6504, hm⟩
        · refine W_known 27 true (by kernel_rfl) hc6504 ?_
          refine W_run 3 [(1, .slice p6162 x6160.length c6163), (2, .int .i64 x6165), (3, .int .i64 x6166), (4, .pointer (some ⟨b6168, 0, none⟩)), (30, .bool true)] w6501 (by kernel_rfl) ?_
          refine W_nil ?_
          obtain rfl := Option.some.inj hm
          exact N_meet fun a ha => ⟨M6503.pick [0] (by kernel_rfl), ha.sub (by kernel_rfl)⟩
        · refine W_known 27 false (by kernel_rfl) hc6504 ?_
          refine W_run 3 [(1, .slice p6162 x6160.length c6163), (2, .int .i64 x6165), (3, .int .i64 x6166), (4, .pointer (some ⟨b6168, 0, none⟩)), (30, .bool (decide (x6166 < 0)))] w6501 (by kernel_rfl) ?_
          refine W_nil ?_
          obtain rfl := Option.some.inj hm
          exact N_meet fun a ha => ⟨M6503.pick [0] (by kernel_rfl), ha.sub (by kernel_rfl)⟩
  · intro a6507 w6505 ⟨M6506, hS6508⟩
    refine N_use hS6508 ?_
    have hm := hm6489
    refine N_then ?_
    rcases gx_bif hm with ⟨hc6509, hm⟩ | ⟨hc6509, hm⟩
    · refine G_cond_t (b := o6487) hc6509 (by kernel_rfl) ?_
      refine G_seq ?_
      refine G_region ?_
      refine W_run 2 [(8, .int .i64 0), (9, .bool false)] w6505 (by kernel_rfl) ?_
      refine W_nil ?_
      refine N_then ?_
      refine G_ret ?_
      refine N_then_ret ?_
      obtain rfl := Option.some.inj hm
      refine N_ret [.int .i64 0, .bool false] (RVs_cons (RV_tmp (by kernel_rfl)) (RVs_cons (RV_tmp (by kernel_rfl)) RVs_nil)) ?_
      exact ⟨rfl, M6506.pick [] (by kernel_rfl)⟩
    · refine G_cond_f (b := o6487) hc6509 (by kernel_rfl) ?_
      refine G_skip ?_
      refine N_then ?_
      refine G_seq ?_
      refine G_seq ?_
      refine G_region ?_
      refine W_run 1 [(1, .slice p6162 x6160.length c6163), (2, .int .i64 x6165), (3, .int .i64 x6166), (4, .pointer (some ⟨b6168, 0, none⟩)), (10, .int .i64 0)] w6505 (by kernel_rfl) ?_
      refine W_nil ?_
      refine N_then ?_
      obtain ⟨out7756, hw7757, hmo7758⟩ := gx_bind hm
      refine G_meet (fun a w' => ∃ (o7759 : Unit), out7756 = .inl o7759 ∧ Mem [] w w' [] ∧ Sat Try.f36.ntmps [] a) ?_ ?_
      · refine G_block ?_
        refine G_while (σ := Int) (ρ := (Unit) ⊕ (Int × Bool)) (fun s7749 a w' => Mem [] w w' [[(b6168, .cells ⟨[.slice p6149 x6147.Memory.length c6150, .slice p6153 x6147.Copy.length c6154, .slice p6157 x6147.Dirty.length c6158]⟩ 28 (0, 0))]] ∧ Sat Try.f36.ntmps [(1, .slice p6162 x6160.length c6163), (2, .int .i64 x6165), (3, .int .i64 x6166), (4, .pointer (some ⟨b6168, 0, none⟩)), (10, .int .i64 s7749)] a) hw7757 (fun a ha => ⟨M6506.pick [0] (by kernel_rfl), ha.sub (by kernel_rfl)⟩) ?_
        clear hm
        intro s7749 x7750 hm hout7751 a7752 w7753 ⟨M7754, hS7755⟩
        refine G_use hS7755 ?_
        refine G_seq ?_
        refine G_seq ?_
        refine G_region ?_
        refine W_run 4 [(1, .slice p6162 x6160.length c6163), (2, .int .i64 x6165), (3, .int .i64 x6166), (4, .pointer (some ⟨b6168, 0, none⟩)), (10, .int .i64 s7749), (34, .bool (decide (s7749 ≤ (x6160.length : Int))))] w7753 (by kernel_rfl) ?_
        refine W_nil ?_
        refine N_then ?_
        rcases gx_bif hm with ⟨hc7760, hm⟩ | ⟨hc7760, hm⟩
        · refine G_cond_t (b := (decide (s7749 ≤ (x6160.length : Int)))) hc7760 (by kernel_rfl) ?_
          refine G_skip ?_
          refine N_then ?_
          refine G_seq ?_
          refine G_block ?_
          refine G_seq ?_
          obtain ⟨ys7763, hys7763, hm⟩ := gx_bind hm
          obtain ⟨zs7765, hz7766, hr7767, hi7768⟩ := id h6164
          obtain ⟨us7769, hu7770, hg7771, hs7772⟩ := gxSlice_fst hz7766 hys7763
          obtain ⟨r7773, hr7773, hm⟩ := gx_bind hm
          refine G_sub [(1, .slice p6162 x6160.length c6163), (2, .int .i64 x6165), (3, .int .i64 x6166), (4, .pointer (some ⟨b6168, 0, none⟩)), (10, .int .i64 s7749), (34, .bool (decide (s7749 ≤ (x6160.length : Int))))] (by kernel_rfl) ?_
          refine G_dagL 11 [[], [], [], [1, 2], [], [0, 3, 4], [], [6], [6], [], [7, 9]] [[], [], [], [], [], [], [], [], [], [], [9]] [[], [], [], [], [], [], [], [], [], [], []] [[], [], [], [], [], [], [5], [5], [5], [], [5]] [[], [], [], [], [], [], [5], [5], [], [], [5, 9]] [[], [], [], [], [], [], [], [], [], [], []] (fun _ => []) (fun i => ([fun f v s => v = (.agg #[.slice p6149 x6147.Memory.length c6150, .slice p6153 x6147.Copy.length c6154, .slice p6157 x6147.Dirty.length c6158] : Value) ∧ s = [], fun f v s => v = (.slice p6162 x6160.length c6163 : Value) ∧ s = [], fun f v s => v = (.int .i64 s7749 : Value) ∧ s = [], fun f v s => v = (.slice (subP p6162 (0 : Int).toNat c6163 1) ys7763.length (c6163 - (0 : Int).toNat) : Value) ∧ s = [], fun f v s => v = (.int .i64 x6165 : Value) ∧ s = [], fun f v s => ∃ (p7775 : Option Addr) (c7776 : Nat) (sg7777 : Seg), ∃ (p7780 : Option Addr) (c7781 : Nat) (sg7782 : Seg), ∃ (p7785 : Option Addr) (c7786 : Nat) (sg7787 : Seg), v = (.tuple #[.agg #[.slice p7775 r7773.1.Memory.length c7776, .slice p7780 r7773.1.Copy.length c7781, .slice p7785 r7773.1.Dirty.length c7786], .int .i64 r7773.2] : Value) ∧ s = (sg7777 ++ (sg7782 ++ sg7787)) ∧ ownS encI r7773.1.Memory p7775 c7776 sg7777 ∧ ownS encI r7773.1.Copy p7780 c7781 sg7782 ∧ ownS encB r7773.1.Dirty p7785 c7786 sg7787, fun f v s => v = (.tuple #[.agg #[(atPath (f 5) [0, 0]), (atPath (f 5) [0, 1]), (atPath (f 5) [0, 2])], .int .i64 r7773.2] : Value) ∧ s = [], fun f v s => v = (.agg #[(atPath (f 5) [0, 0]), (atPath (f 5) [0, 1]), (atPath (f 5) [0, 2])] : Value) ∧ s = [], fun f v s => v = (.int .i64 r7773.2 : Value) ∧ s = [], fun f v s => ∃ (b7793 : Nat), v = (.pointer (some ⟨b7793, 0, none⟩) : Value) ∧ s = [(b7793, .cells ⟨[.slice none 0 0, .slice none 0 0, .slice none 0 0]⟩ 28 (0, 0))], fun f v s => v = undef ∧ s = [((blkOf (f 9)), .cells ⟨[(atPath (f 5) [0, 0]), (atPath (f 5) [0, 1]), (atPath (f 5) [0, 2])]⟩ 28 (0, 0))]] : List ((Nat → Value) → Value → Seg → Prop)).getD i (fun _ _ _ => False)) (fun j f v => ∃ s, (fun i => ([fun f v s => v = (.agg #[.slice p6149 x6147.Memory.length c6150, .slice p6153 x6147.Copy.length c6154, .slice p6157 x6147.Dirty.length c6158] : Value) ∧ s = [], fun f v s => v = (.slice p6162 x6160.length c6163 : Value) ∧ s = [], fun f v s => v = (.int .i64 s7749 : Value) ∧ s = [], fun f v s => v = (.slice (subP p6162 (0 : Int).toNat c6163 1) ys7763.length (c6163 - (0 : Int).toNat) : Value) ∧ s = [], fun f v s => v = (.int .i64 x6165 : Value) ∧ s = [], fun f v s => ∃ (p7775 : Option Addr) (c7776 : Nat) (sg7777 : Seg), ∃ (p7780 : Option Addr) (c7781 : Nat) (sg7782 : Seg), ∃ (p7785 : Option Addr) (c7786 : Nat) (sg7787 : Seg), v = (.tuple #[.agg #[.slice p7775 r7773.1.Memory.length c7776, .slice p7780 r7773.1.Copy.length c7781, .slice p7785 r7773.1.Dirty.length c7786], .int .i64 r7773.2] : Value) ∧ s = (sg7777 ++ (sg7782 ++ sg7787)) ∧ ownS encI r7773.1.Memory p7775 c7776 sg7777 ∧ ownS encI r7773.1.Copy p7780 c7781 sg7782 ∧ ownS encB r7773.1.Dirty p7785 c7786 sg7787, fun f v s => v = (.tuple #[.agg #[(atPath (f 5) [0, 0]), (atPath (f 5) [0, 1]), (atPath (f 5) [0, 2])], .int .i64 r7773.2] : Value) ∧ s = [], fun f v s => v = (.agg #[(atPath (f 5) [0, 0]), (atPath (f 5) [0, 1]), (atPath (f 5) [0, 2])] : Value) ∧ s = [], fun f v s => v = (.int .i64 r7773.2 : Value) ∧ s = [], fun f v s => ∃ (b7793 : Nat), v = (.pointer (some ⟨b7793, 0, none⟩) : Value) ∧ s = [(b7793, .cells ⟨[.slice none 0 0, .slice none 0 0, .slice none 0 0]⟩ 28 (0, 0))], fun f v s => v = undef ∧ s = [((blkOf (f 9)), .cells ⟨[(atPath (f 5) [0, 0]), (atPath (f 5) [0, 1]), (atPath (f 5) [0, 2])]⟩ 28 (0, 0))]] : List ((Nat → Value) → Value → Seg → Prop)).getD i (fun _ _ _ => False)) j f v s) [9] [5, 8, 10] [5, 10] (fun _ _ _ s h => ⟨s, h⟩) (by kernel_rfl) (by kernel_rfl) (M7754.preNil 11) (by kernel_rfl) (by kernel_rfl) (by kernel_rfl) (by kernel_rfl) (allOb_cons ?_ (allOb_cons ?_ (allOb_cons ?_ (allOb_cons ?_ (allOb_cons ?_ (allOb_cons ?_ (allOb_cons ?_ (allOb_cons ?_ (allOb_cons ?_ (allOb_cons ?_ (allOb_cons ?_ allOb_nil))))))))))) ?_
          · intro g7761 f7762
            intro R w7794 M7795
            refine W_val (.agg #[.slice p6149 x6147.Memory.length c6150, .slice p6153 x6147.Copy.length c6154, .slice p6157 x6147.Dirty.length c6158]) w7794 (by kernel_rfl) (E_load (e := 28) (fr := (0, 0)) _ _ true 3 b6168 0 [.slice p6149 x6147.Memory.length c6150, .slice p6153 x6147.Copy.length c6154, .slice p6157 x6147.Dirty.length c6158] (.agg #[.slice p6149 x6147.Memory.length c6150, .slice p6153 x6147.Copy.length c6154, .slice p6157 x6147.Dirty.length c6158]) rfl (by kernel_rfl) (by kernel_rfl) (by kernel_rfl) (M7795.blk 0 (b := b6168) (o := .cells ⟨[.slice p6149 x6147.Memory.length c6150, .slice p6153 x6147.Copy.length c6154, .slice p6157 x6147.Dirty.length c6158]⟩ 28 (0, 0)) (by kernel_rfl))) ?_
            exact W_nil (ob_end (.agg #[.slice p6149 x6147.Memory.length c6150, .slice p6153 x6147.Copy.length c6154, .slice p6157 x6147.Dirty.length c6158]) [] rfl (by kernel_rfl) ⟨by kernel_rfl, rfl⟩ M7795)
          · intro g7761 f7762
            intro R w7798 M7799
            refine W_run 1 [(39, .slice p6162 x6160.length c6163)] w7798 (by kernel_rfl) ?_
            exact W_nil (ob_end (.slice p6162 x6160.length c6163) [] rfl (by kernel_rfl) ⟨by kernel_rfl, rfl⟩ M7799)
          · intro g7761 f7762
            intro R w7802 M7803
            refine W_run 1 [(40, .int .i64 s7749)] w7802 (by kernel_rfl) ?_
            exact W_nil (ob_end (.int .i64 s7749) [] rfl (by kernel_rfl) ⟨by kernel_rfl, rfl⟩ M7803)
          · intro g7761 f7762
            intro v1_ hb1_
            obtain ⟨rfl, _⟩ := hb1_
            intro v2_ hb2_
            obtain ⟨rfl, _⟩ := hb2_
            intro R w7806 M7807
            refine W_val (.slice (subP p6162 (0 : Int).toNat c6163 1) ys7763.length (c6163 - (0 : Int).toNat)) w7806 (by kernel_rfl) (E_sliceD (D := (deepL encStore)) _ _ _ _ x6160.length 0 s7749 rfl (by kernel_rfl) (Or.inl ⟨rfl, rfl⟩) (Or.inr ⟨_, rfl, by kernel_rfl⟩) (by kernel_rfl) (hr7767.mem0 M7807) (len_fst hz7766) hg7771 hu7770) ?_
            exact W_nil (ob_end (.slice (subP p6162 (0 : Int).toNat c6163 1) ys7763.length (c6163 - (0 : Int).toNat)) [] rfl (by kernel_rfl) ⟨by kernel_rfl, rfl⟩ M7807)
          · intro g7761 f7762
            intro R w7810 M7811
            refine W_run 1 [(42, .int .i64 x6165)] w7810 (by kernel_rfl) ?_
            exact W_nil (ob_end (.int .i64 x6165) [] rfl (by kernel_rfl) ⟨by kernel_rfl, rfl⟩ M7811)
          · intro g7761 f7762
            intro v0_ hb0_
            obtain ⟨rfl, _⟩ := hb0_
            intro v3_ hb3_
            obtain ⟨rfl, _⟩ := hb3_
            intro v4_ hb4_
            obtain ⟨rfl, _⟩ := hb4_
            intro R w7814 M7815
            refine W_call 78 #[.agg #[.slice p6149 x6147.Memory.length c6150, .slice p6153 x6147.Copy.length c6154, .slice p6157 x6147.Dirty.length c6158], .slice (subP p6162 (0 : Int).toNat c6163 1) ys7763.length (c6163 - (0 : Int).toNat), .int .i64 x6165] (by kernel_rfl) (by kernel_rfl) ?_
            refine (c_s_l19Run w7814 x6147 p6149 c6150 (h6151.mem0 M7815) p6153 c6154 (h6155.mem0 M7815) p6157 c6158 (h6159.mem0 M7815) ys7763 (subP p6162 (0 : Int).toNat c6163 1) (c6163 - (0 : Int).toNat) ⟨us7769, hu7770, ((hr7767.mem0 M7815).sliceM hg7771), ((hi7768.mem0 M7815).sub (hs7772 _))⟩ x6165 hr7773).mono ?_
            rintro e_ w7816 ⟨p7775, c7776, sg7777, p7780, c7781, sg7782, p7785, c7786, sg7787, rfl, ho7778, ho7783, ho7788, K7818⟩
            refine ⟨_, rfl, ?_⟩
            exact W_nil (ob_end (.tuple #[.agg #[.slice p7775 r7773.1.Memory.length c7776, .slice p7780 r7773.1.Copy.length c7781, .slice p7785 r7773.1.Dirty.length c7786], .int .i64 r7773.2]) (sg7777 ++ (sg7782 ++ sg7787)) rfl (by kernel_rfl) ⟨p7775, c7776, sg7777, p7780, c7781, sg7782, p7785, c7786, sg7787, rfl, rfl, ho7778, ho7783, ho7788⟩ (Mem.callMid M7815 (K7818.permF (by simp))))
          · intro g7761 f7762
            intro v5_ hb5_
            obtain ⟨_, p7775, c7776, _, p7780, c7781, _, p7785, c7786, _, rfl, _⟩ := hb5_
            intro R w7819 M7820
            refine W_run 1 [(37, .tuple #[.agg #[.slice p7775 r7773.1.Memory.length c7776, .slice p7780 r7773.1.Copy.length c7781, .slice p7785 r7773.1.Dirty.length c7786], .int .i64 r7773.2])] w7819 (by kernel_rfl) ?_
            exact W_nil (ob_end (.tuple #[.agg #[.slice p7775 r7773.1.Memory.length c7776, .slice p7780 r7773.1.Copy.length c7781, .slice p7785 r7773.1.Dirty.length c7786], .int .i64 r7773.2]) [] rfl (by kernel_rfl) ⟨by kernel_rfl, rfl⟩ M7820)
          · intro g7761 f7762
            intro v5_ hb5_
            obtain ⟨_, p7775, c7776, _, p7780, c7781, _, p7785, c7786, _, rfl, _⟩ := hb5_
            intro v6_ hb6_
            obtain ⟨hv6_, _⟩ := hb6_
            obtain rfl : v6_ = (.tuple #[.agg #[.slice p7775 r7773.1.Memory.length c7776, .slice p7780 r7773.1.Copy.length c7781, .slice p7785 r7773.1.Dirty.length c7786], .int .i64 r7773.2] : Value) := hv6_.trans (by kernel_rfl)
            intro R w7823 M7824
            refine W_run 1 [(44, .agg #[.slice p7775 r7773.1.Memory.length c7776, .slice p7780 r7773.1.Copy.length c7781, .slice p7785 r7773.1.Dirty.length c7786])] w7823 (by kernel_rfl) ?_
            exact W_nil (ob_end (.agg #[.slice p7775 r7773.1.Memory.length c7776, .slice p7780 r7773.1.Copy.length c7781, .slice p7785 r7773.1.Dirty.length c7786]) [] rfl (by kernel_rfl) ⟨by kernel_rfl, rfl⟩ M7824)
          · intro g7761 f7762
            intro v5_ hb5_
            obtain ⟨_, p7775, c7776, _, p7780, c7781, _, p7785, c7786, _, rfl, _⟩ := hb5_
            intro v6_ hb6_
            obtain ⟨hv6_, _⟩ := hb6_
            obtain rfl : v6_ = (.tuple #[.agg #[.slice p7775 r7773.1.Memory.length c7776, .slice p7780 r7773.1.Copy.length c7781, .slice p7785 r7773.1.Dirty.length c7786], .int .i64 r7773.2] : Value) := hv6_.trans (by kernel_rfl)
            intro R w7827 M7828
            refine W_run 1 [(45, .int .i64 r7773.2)] w7827 (by kernel_rfl) ?_
            exact W_nil (ob_end (.int .i64 r7773.2) [] rfl (by kernel_rfl) ⟨by kernel_rfl, rfl⟩ M7828)
          · intro g7761 f7762
            intro R w7831 M7832
            refine W_new (fun b => .pointer (some ⟨b, 0, none⟩)) (.cells ⟨[.slice none 0 0, .slice none 0 0, .slice none 0 0]⟩ 28 (0, 0)) M7832 rfl (by kernel_rfl) (by kernel_rfl) ?_
            intro b7793 w7833 M7834
            exact W_nil (ob_end (.pointer (some ⟨b7793, 0, none⟩)) [(b7793, .cells ⟨[.slice none 0 0, .slice none 0 0, .slice none 0 0]⟩ 28 (0, 0))] rfl (by kernel_rfl) ⟨b7793, rfl, rfl⟩ (Mem.mid M7834))
          · intro g7761 f7762
            intro v5_ hb5_
            obtain ⟨_, p7775, c7776, _, p7780, c7781, _, p7785, c7786, _, rfl, _⟩ := hb5_
            intro v7_ hb7_
            obtain ⟨hv7_, _⟩ := hb7_
            obtain rfl : v7_ = (.agg #[.slice p7775 r7773.1.Memory.length c7776, .slice p7780 r7773.1.Copy.length c7781, .slice p7785 r7773.1.Dirty.length c7786] : Value) := hv7_.trans (by kernel_rfl)
            intro v9_ hb9_
            obtain ⟨b7793, rfl, hs9_⟩ := hb9_
            intro R w7835 M7836
            have M7837 : Mem [] w w7835 ([[(b6168, .cells ⟨[.slice p6149 x6147.Memory.length c6150, .slice p6153 x6147.Copy.length c6154, .slice p6157 x6147.Dirty.length c6158]⟩ 28 (0, 0))]] ++ ([[]] ++ ([(g7761 9)] ++ ([] ++ R)))) := M7836
            rw [hs9_] at M7837
            replace M7837 : Mem [] w w7835 ([[(b6168, .cells ⟨[.slice p6149 x6147.Memory.length c6150, .slice p6153 x6147.Copy.length c6154, .slice p6157 x6147.Dirty.length c6158]⟩ 28 (0, 0))]] ++ ([[]] ++ ([[(b7793, .cells ⟨[.slice none 0 0, .slice none 0 0, .slice none 0 0]⟩ 28 (0, 0))]] ++ ([] ++ R)))) := M7837.permF (by simp)
            refine W_store _ _ _ true 3 b7793 0 [.slice none 0 0, .slice none 0 0, .slice none 0 0] 28 (.agg #[.slice p7775 r7773.1.Memory.length c7776, .slice p7780 r7773.1.Copy.length c7781, .slice p7785 r7773.1.Dirty.length c7786]) 2 [.slice p7775 r7773.1.Memory.length c7776, .slice p7780 r7773.1.Copy.length c7781, .slice p7785 r7773.1.Dirty.length c7786] M7837 (by kernel_rfl) rfl (by kernel_rfl) (by kernel_rfl) (by kernel_rfl) (by kernel_rfl) (by kernel_rfl) (by kernel_rfl) (by kernel_rfl) (by kernel_rfl) ?_
            intro w7838 M7839
            exact W_nil (ob_none [(b7793, .cells ⟨[.slice p7775 r7773.1.Memory.length c7776, .slice p7780 r7773.1.Copy.length c7781, .slice p7785 r7773.1.Dirty.length c7786]⟩ 28 (0, 0))] rfl ⟨rfl, by kernel_rfl⟩ (Mem.takeOver M7839))
          · intro g7761 f7762
            intro v9_ hb9_
            obtain ⟨_, b7793, rfl, hs9_⟩ := hb9_
            intro v5_ hb5_
            obtain ⟨p7775, c7776, sg7777, p7780, c7781, sg7782, p7785, c7786, sg7787, rfl, hs5_, ho7778, ho7783, ho7788⟩ := hb5_
            intro v8_ hb8_
            obtain ⟨rfl, _⟩ := hb8_
            intro v10_ hb10_
            obtain ⟨rfl, hs10_⟩ := hb10_
            replace hs10_ := hs10_.trans (show _ = [(b7793, .cells ⟨[.slice p7775 r7773.1.Memory.length c7776, .slice p7780 r7773.1.Copy.length c7781, .slice p7785 r7773.1.Dirty.length c7786]⟩ 28 (0, 0))] by kernel_rfl)
            intro w7840 M7841
            have M7842 : Mem [] w w7840 [[(b6168, .cells ⟨[.slice p6149 x6147.Memory.length c6150, .slice p6153 x6147.Copy.length c6154, .slice p6157 x6147.Dirty.length c6158]⟩ 28 (0, 0))], (g7761 5), (g7761 10)] := M7841
            rw [hs5_] at M7842
            rw [hs10_] at M7842
            replace M7842 : Mem [] w w7840 [[(b6168, .cells ⟨[.slice p6149 x6147.Memory.length c6150, .slice p6153 x6147.Copy.length c6154, .slice p6157 x6147.Dirty.length c6158]⟩ 28 (0, 0))], sg7777, sg7782, sg7787, [(b7793, .cells ⟨[.slice p7775 r7773.1.Memory.length c7776, .slice p7780 r7773.1.Copy.length c7781, .slice p7785 r7773.1.Dirty.length c7786]⟩ 28 (0, 0))]] := M7842.permF (by simp)
            refine W_run 1 [(1, .slice p6162 x6160.length c6163), (2, .int .i64 x6165), (3, .int .i64 x6166), (4, .pointer (some ⟨b6168, 0, none⟩)), (10, .int .i64 s7749), (11, .pointer (some ⟨b7793, 0, none⟩))] w7840 (by kernel_rfl) ?_
            refine W_nil ?_
            refine N_then ?_
            refine G_seq ?_
            refine G_region ?_
            refine W_val (.agg #[.slice p7775 r7773.1.Memory.length c7776, .slice p7780 r7773.1.Copy.length c7781, .slice p7785 r7773.1.Dirty.length c7786]) w7840 (by kernel_rfl) (E_load (e := 28) (fr := (0, 0)) _ _ true 3 b7793 0 [.slice p7775 r7773.1.Memory.length c7776, .slice p7780 r7773.1.Copy.length c7781, .slice p7785 r7773.1.Dirty.length c7786] (.agg #[.slice p7775 r7773.1.Memory.length c7776, .slice p7780 r7773.1.Copy.length c7781, .slice p7785 r7773.1.Dirty.length c7786]) rfl (by kernel_rfl) (by kernel_rfl) (by kernel_rfl) (M7842.blk 4 (b := b7793) (o := .cells ⟨[.slice p7775 r7773.1.Memory.length c7776, .slice p7780 r7773.1.Copy.length c7781, .slice p7785 r7773.1.Dirty.length c7786]⟩ 28 (0, 0)) (by kernel_rfl))) ?_
            obtain ⟨r7843, hr7843, hm⟩ := gx_bind hm
            refine W_call 65 #[.agg #[.slice p7775 r7773.1.Memory.length c7776, .slice p7780 r7773.1.Copy.length c7781, .slice p7785 r7773.1.Dirty.length c7786]] (by kernel_rfl) (by kernel_rfl) ?_
            refine (c_s_l19Dirty w7840 r7773.1 p7775 c7776 (ho7778.rd M7842 1 (by kernel_rfl)) p7780 c7781 (ho7783.rd M7842 2 (by kernel_rfl)) p7785 c7786 (ho7788.rd M7842 3 (by kernel_rfl)) hr7843).mono ?_
            rintro e_ w7849 ⟨p7845, c7846, sg7847, rfl, ho7848, K7850⟩
            have M7851 := M7842.call K7850
            refine ⟨_, rfl, ?_⟩
            refine W_run 3 [(1, .slice p6162 x6160.length c6163), (2, .int .i64 x6165), (3, .int .i64 x6166), (4, .pointer (some ⟨b6168, 0, none⟩)), (10, .int .i64 s7749), (50, .bool (decide ((r7843.length : Int) ≤ x6166)))] w7849 (by kernel_rfl) ?_
            refine W_nil ?_
            refine N_then ?_
            rcases gx_bif hm with ⟨hc7852, hm⟩ | ⟨hc7852, hm⟩
            · refine G_cond_t (b := (decide ((r7843.length : Int) ≤ x6166))) hc7852 (by kernel_rfl) ?_
              refine G_seq ?_
              refine G_region ?_
              refine W_run 3 [(8, .int .i64 s7749), (9, .bool true)] w7849 (by kernel_rfl) ?_
              refine W_nil ?_
              refine N_then ?_
              refine G_ret ?_
              refine N_block_ret ?_
              refine N_then_ret ?_
              refine N_then_ret ?_
              obtain rfl := Option.some.inj hm
              obtain rfl := hout7751 _ rfl
              have hm := hmo7758; simp only [Sum.elim_inr] at hm
              refine N_block_ret ?_
              refine N_meet_ret ?_
              refine N_then_ret ?_
              obtain rfl := Option.some.inj hm
              refine N_ret [.int .i64 s7749, .bool true] (RVs_cons (RV_tmp (by kernel_rfl)) (RVs_cons (RV_tmp (by kernel_rfl)) RVs_nil)) ?_
              exact ⟨rfl, M7851.pick [] (by kernel_rfl)⟩
            · refine G_cond_f (b := (decide ((r7843.length : Int) ≤ x6166))) hc7852 (by kernel_rfl) ?_
              refine G_skip ?_
              refine N_block ?_
              refine N_then ?_
              refine G_region ?_
              refine W_run 3 [(1, .slice p6162 x6160.length c6163), (2, .int .i64 x6165), (3, .int .i64 x6166), (4, .pointer (some ⟨b6168, 0, none⟩)), (10, .int .i64 (w64 (s7749 + 1)))] w7849 (by kernel_rfl) ?_
              refine W_nil ?_
              obtain rfl := Option.some.inj hm
              exact N_loop fun a ha => ⟨_, rfl, M7851.pick [0] (by kernel_rfl), ha.sub (by kernel_rfl)⟩
        · refine G_cond_f (b := (decide (s7749 ≤ (x6160.length : Int)))) hc7760 (by kernel_rfl) ?_
          refine G_exit ?_
          refine N_then_exit ?_
          refine N_then_exit ?_
          refine N_block_eq ?_
          obtain rfl := Option.some.inj hm
          obtain rfl := hout7751 _ rfl
          exact N_meet fun a ha => ⟨_, rfl, M7754.pick [] (by kernel_rfl), ha.sub (by kernel_rfl)⟩
      · intro a7853 w7854 ⟨o7759, hout_, M7855, hS7856⟩
        refine N_use hS7856 ?_
        subst hout_
        have hm := hmo7758; simp only [Sum.elim_inl] at hm
        refine N_then ?_
        refine G_seq ?_
        refine G_region ?_
        refine W_run 2 [(8, .int .i64 0), (9, .bool false)] w7854 (by kernel_rfl) ?_
        refine W_nil ?_
        refine N_then ?_
        refine G_ret ?_
        obtain rfl := Option.some.inj hm
        refine N_ret [.int .i64 0, .bool false] (RVs_cons (RV_tmp (by kernel_rfl)) (RVs_cons (RV_tmp (by kernel_rfl)) RVs_nil)) ?_
        exact ⟨rfl, M7855.pick [] (by kernel_rfl)⟩
theorem c_i_areRounds_1_1 (w : World) (x8074 : Store) (x8075 : Copying) (p8077 : Option Addr) (c8078 : Nat) (h8079 : rdS encI w x8075.Memory p8077 c8078) (p8081 : Option Addr) (c8082 : Nat) (h8083 : rdS encI w x8075.Copy p8081 c8082) (p8085 : Option Addr) (c8086 : Nat) (h8087 : rdS encB w x8075.Dirty p8085 c8086) (b8088 : Nat) (hb8089 : w.heap[b8088]? = some (.cells ⟨[.slice p8077 x8075.Memory.length c8078, .slice p8081 x8075.Copy.length c8082, .slice p8085 x8075.Dirty.length c8086]⟩ 28 (0, 0))) {r : Bool} (hm : M.i_areRounds_1_1 x8074 x8075 = some r) :
    Calls Try.prog 100 #[.agg #[.int .i64 x8074.Word, .int .i64 x8074.Value], .pointer (some ⟨b8088, 0, none⟩)] w fun e w' => e = .returned (.bool r) ∧ Mem [] w w' [] := by
  unfold M.i_areRounds_1_1 at hm
  refine C_enter Try.func100 rfl (by kernel_rfl) ?_
  have M0 := Mem.refl [] w
  refine G_seq ?_
  refine G_region ?_
  refine W_new (fun b => .pointer (some ⟨b, 0, none⟩)) (.cells ⟨[.int .i64 x8074.Word, .int .i64 x8074.Value]⟩ 46 (0, 0)) M0 rfl (by kernel_rfl) (by kernel_rfl) ?_
  intro b8092 w8093 M8094
  refine W_run 1 [(1, .pointer (some ⟨b8088, 0, none⟩)), (2, .pointer (some ⟨b8092, 0, none⟩))] w8093 (by kernel_rfl) ?_
  refine W_nil ?_
  refine N_then ?_
  refine G_seq ?_
  refine G_region ?_
  refine W_val (.agg #[.slice p8077 x8075.Memory.length c8078, .slice p8081 x8075.Copy.length c8082, .slice p8085 x8075.Dirty.length c8086]) w8093 (by kernel_rfl) (E_load (e := 28) (fr := (0, 0)) _ _ true 3 b8088 0 [.slice p8077 x8075.Memory.length c8078, .slice p8081 x8075.Copy.length c8082, .slice p8085 x8075.Dirty.length c8086] (.agg #[.slice p8077 x8075.Memory.length c8078, .slice p8081 x8075.Copy.length c8082, .slice p8085 x8075.Dirty.length c8086]) rfl (by kernel_rfl) (by kernel_rfl) (by kernel_rfl) (M8094.ro hb8089)) ?_
  refine W_val (.agg #[.int .i64 x8074.Word, .int .i64 x8074.Value]) w8093 (by kernel_rfl) (E_load (e := 46) (fr := (0, 0)) _ _ true 2 b8092 0 [.int .i64 x8074.Word, .int .i64 x8074.Value] (.agg #[.int .i64 x8074.Word, .int .i64 x8074.Value]) rfl (by kernel_rfl) (by kernel_rfl) (by kernel_rfl) (M8094.blk 0 (b := b8092) (o := .cells ⟨[.int .i64 x8074.Word, .int .i64 x8074.Value]⟩ 46 (0, 0)) (by kernel_rfl))) ?_
  obtain ⟨r8095, hr8095, hm⟩ := gx_bind hm
  refine W_call 70 #[.agg #[.slice p8077 x8075.Memory.length c8078, .slice p8081 x8075.Copy.length c8082, .slice p8085 x8075.Dirty.length c8086], .agg #[.int .i64 x8074.Word, .int .i64 x8074.Value]] (by kernel_rfl) (by kernel_rfl) ?_
  refine (c_i_isStore w8093 x8075 p8077 c8078 (h8079.mem0 M8094) p8081 c8082 (h8083.mem0 M8094) p8085 c8086 (h8087.mem0 M8094) x8074 hr8095).mono ?_
  rintro e_ w8096 ⟨rfl, K8097⟩
  have M8098 := M8094.call0 K8097
  refine ⟨_, rfl, ?_⟩
  refine W_run 2 [(3, .bool (!r8095))] w8096 (by kernel_rfl) ?_
  refine W_nil ?_
  refine N_then ?_
  refine G_ret ?_
  obtain rfl := Option.some.inj hm
  refine N_ret [.bool (!r8095)] (RVs_cons (RV_tmp (by kernel_rfl)) RVs_nil) ?_
  exact ⟨rfl, M8098.pick [] (by kernel_rfl)⟩
theorem c_slices_IndexFunc_107__i_areRounds_1_1 (w : World) (x8051 : List Store) (p8053 : Option Addr) (c8054 : Nat) (h8055 : rdS encStore w x8051 p8053 c8054) (x8056 : Copying) (p8058 : Option Addr) (c8059 : Nat) (h8060 : rdS encI w x8056.Memory p8058 c8059) (p8062 : Option Addr) (c8063 : Nat) (h8064 : rdS encI w x8056.Copy p8062 c8063) (p8066 : Option Addr) (c8067 : Nat) (h8068 : rdS encB w x8056.Dirty p8066 c8067) (b8069 : Nat) (hb8070 : w.heap[b8069]? = some (.cells ⟨[.slice p8058 x8056.Memory.length c8059, .slice p8062 x8056.Copy.length c8063, .slice p8066 x8056.Dirty.length c8067]⟩ 28 (0, 0))) {r : Int} (hm : M.slices_IndexFunc_107__i_areRounds_1_1 x8051 x8056 = some r) :
    Calls Try.prog 107 #[.slice p8053 x8051.length c8054, .func (.func 100) #[] #[.pointer (some ⟨b8069, 0, none⟩)]] w fun e w' => e = .returned (.int .i64 r) ∧ Mem [] w w' [] := by
  unfold M.slices_IndexFunc_107__i_areRounds_1_1 at hm
  refine C_enter Try.func107 rfl (by kernel_rfl) ?_
  have M0 := Mem.refl [] w
  refine G_seq ?_
  refine G_region ?_
  refine W_run 1 [(0, .slice p8053 x8051.length c8054), (1, .func (.func 100) #[] #[.pointer (some ⟨b8069, 0, none⟩)])] w (by kernel_rfl) ?_
  refine W_nil ?_
  refine N_then ?_
  refine G_seq ?_
  refine G_seq ?_
  refine G_region ?_
  refine W_run 3 [(0, .slice p8053 x8051.length c8054), (1, .func (.func 100) #[] #[.pointer (some ⟨b8069, 0, none⟩)]), (7, .int .i64 (x8051.length : Int)), (8, .int .i64 0)] w (by kernel_rfl) ?_
  refine W_nil ?_
  refine N_then ?_
  obtain ⟨out8118, hw8119, hmo8120⟩ := gx_bind hm
  refine G_meet (fun a w' => ∃ (o8121 : Unit), out8118 = .inl o8121 ∧ Mem [] w w' [] ∧ Sat Try.f107.ntmps [] a) ?_ ?_
  · refine G_block ?_
    refine G_while (σ := Int) (ρ := (Unit) ⊕ (Int)) (fun s8111 a w' => Mem [] w w' [] ∧ Sat Try.f107.ntmps [(0, .slice p8053 x8051.length c8054), (1, .func (.func 100) #[] #[.pointer (some ⟨b8069, 0, none⟩)]), (7, .int .i64 (x8051.length : Int)), (8, .int .i64 s8111)] a) hw8119 (fun a ha => ⟨M0.pick [] (by kernel_rfl), ha.sub (by kernel_rfl)⟩) ?_
    clear hm
    intro s8111 x8112 hm hout8113 a8114 w8115 ⟨M8116, hS8117⟩
    refine G_use hS8117 ?_
    refine G_seq ?_
    refine G_region ?_
    refine W_run 1 [(0, .slice p8053 x8051.length c8054), (1, .func (.func 100) #[] #[.pointer (some ⟨b8069, 0, none⟩)]), (7, .int .i64 (x8051.length : Int)), (8, .int .i64 s8111), (9, .bool (decide (s8111 < (x8051.length : Int))))] w8115 (by kernel_rfl) ?_
    refine W_nil ?_
    refine N_then ?_
    refine G_seq ?_
    rcases gx_bif hm with ⟨hc8122, hm⟩ | ⟨hc8122, hm⟩
    · refine G_cond_t (b := (decide (s8111 < (x8051.length : Int)))) hc8122 (by kernel_rfl) ?_
      refine G_skip ?_
      refine N_then ?_
      refine G_seq ?_
      refine G_block ?_
      refine G_seq ?_
      refine G_region ?_
      refine W_run 2 [(0, .slice p8053 x8051.length c8054), (1, .func (.func 100) #[] #[.pointer (some ⟨b8069, 0, none⟩)]), (5, .int .i64 s8111), (7, .int .i64 (x8051.length : Int)), (8, .int .i64 s8111)] w8115 (by kernel_rfl) ?_
      refine W_nil ?_
      refine N_then ?_
      refine G_seq ?_
      refine G_region ?_
      refine W_run 3 [(0, .slice p8053 x8051.length c8054), (1, .func (.func 100) #[] #[.pointer (some ⟨b8069, 0, none⟩)]), (5, .int .i64 s8111), (7, .int .i64 (x8051.length : Int)), (8, .int .i64 s8111), (11, .func (.func 100) #[] #[.pointer (some ⟨b8069, 0, none⟩)]), (12, .slice p8053 x8051.length c8054), (13, .int .i64 s8111)] w8115 (by kernel_rfl) ?_
      obtain ⟨y8123, hy8123, hm⟩ := gx_bind hm
      refine W_val (elemP p8053 (s8111.toNat * 2)) w8115 (by kernel_rfl) (E_index (E := encStore) _ _ _ x8051.length c8054 .i64 s8111 2 (y := y8123) rfl (by kernel_rfl) (by kernel_rfl) (by kernel_rfl) (h8055.mem0 M8116) rfl hy8123) ?_
      refine W_val (.agg #[.int .i64 y8123.Word, .int .i64 y8123.Value]) w8115 (by kernel_rfl) (E_loadE (E := encStore) _ _ true 2 s8111 0 (s8111.toNat * 2) y8123 (.agg #[.int .i64 y8123.Word, .int .i64 y8123.Value]) rfl (by kernel_rfl) (by kernel_rfl) (by kernel_rfl) (h8055.mem0 M8116) hy8123 rfl) ?_
      obtain ⟨r8124, hr8124, hm⟩ := gx_bind hm
      refine W_call 100 #[.agg #[.int .i64 y8123.Word, .int .i64 y8123.Value], .pointer (some ⟨b8069, 0, none⟩)] (by kernel_rfl) (by kernel_rfl) ?_
      refine (c_i_areRounds_1_1 w8115 y8123 x8056 p8058 c8059 (h8060.mem0 M8116) p8062 c8063 (h8064.mem0 M8116) p8066 c8067 (h8068.mem0 M8116) b8069 (M8116.ro hb8070) hr8124).mono ?_
      rintro e_ w8125 ⟨rfl, K8126⟩
      have M8127 := M8116.call0 K8126
      refine ⟨_, rfl, ?_⟩
      refine W_nil ?_
      refine N_then ?_
      rcases gx_bif hm with ⟨hc8128, hm⟩ | ⟨hc8128, hm⟩
      · refine G_cond_t (b := r8124) hc8128 (by kernel_rfl) ?_
        refine G_seq ?_
        refine G_region ?_
        refine W_run 2 [(4, .int .i64 s8111)] w8125 (by kernel_rfl) ?_
        refine W_nil ?_
        refine N_then ?_
        refine G_ret ?_
        refine N_block_ret ?_
        refine N_then_ret ?_
        refine N_then_ret ?_
        obtain rfl := Option.some.inj hm
        obtain rfl := hout8113 _ rfl
        have hm := hmo8120; simp only [Sum.elim_inr] at hm
        refine N_block_ret ?_
        refine N_meet_ret ?_
        refine N_then_ret ?_
        obtain rfl := Option.some.inj hm
        refine N_ret [.int .i64 s8111] (RVs_cons (RV_tmp (by kernel_rfl)) RVs_nil) ?_
        exact ⟨rfl, M8127.pick [] (by kernel_rfl)⟩
      · refine G_cond_f (b := r8124) hc8128 (by kernel_rfl) ?_
        refine G_skip ?_
        refine N_block ?_
        refine N_then ?_
        refine G_region ?_
        refine W_run 2 [(0, .slice p8053 x8051.length c8054), (1, .func (.func 100) #[] #[.pointer (some ⟨b8069, 0, none⟩)]), (7, .int .i64 (x8051.length : Int)), (8, .int .i64 (w64 (s8111 + 1)))] w8125 (by kernel_rfl) ?_
        refine W_nil ?_
        obtain rfl := Option.some.inj hm
        exact N_loop fun a ha => ⟨_, rfl, M8127.pick [] (by kernel_rfl), ha.sub (by kernel_rfl)⟩
    · refine G_cond_f (b := (decide (s8111 < (x8051.length : Int)))) hc8122 (by kernel_rfl) ?_
      refine G_exit ?_
      refine N_then_exit ?_
      refine N_then_exit ?_
      refine N_block_eq ?_
      obtain rfl := Option.some.inj hm
      obtain rfl := hout8113 _ rfl
      exact N_meet fun a ha => ⟨_, rfl, M8116.pick [] (by kernel_rfl), ha.sub (by kernel_rfl)⟩
  · intro a8129 w8130 ⟨o8121, hout_, M8131, hS8132⟩
    refine N_use hS8132 ?_
    subst hout_
    have hm := hmo8120; simp only [Sum.elim_inl] at hm
    refine N_then ?_
    refine G_seq ?_
    refine G_region ?_
    refine W_run 1 [(4, .int .i64 (-1))] w8130 (by kernel_rfl) ?_
    refine W_nil ?_
    refine N_then ?_
    refine G_ret ?_
    obtain rfl := Option.some.inj hm
    refine N_ret [.int .i64 (-1)] (RVs_cons (RV_tmp (by kernel_rfl)) RVs_nil) ?_
    exact ⟨rfl, M8131.pick [] (by kernel_rfl)⟩
theorem c_slices_ContainsFunc_99__i_areRounds_1_1 (w : World) (x8030 : List Store) (p8032 : Option Addr) (c8033 : Nat) (h8034 : rdS encStore w x8030 p8032 c8033) (x8035 : Copying) (p8037 : Option Addr) (c8038 : Nat) (h8039 : rdS encI w x8035.Memory p8037 c8038) (p8041 : Option Addr) (c8042 : Nat) (h8043 : rdS encI w x8035.Copy p8041 c8042) (p8045 : Option Addr) (c8046 : Nat) (h8047 : rdS encB w x8035.Dirty p8045 c8046) (b8048 : Nat) (hb8049 : w.heap[b8048]? = some (.cells ⟨[.slice p8037 x8035.Memory.length c8038, .slice p8041 x8035.Copy.length c8042, .slice p8045 x8035.Dirty.length c8046]⟩ 28 (0, 0))) {r : Bool} (hm : M.slices_ContainsFunc_99__i_areRounds_1_1 x8030 x8035 = some r) :
    Calls Try.prog 99 #[.slice p8032 x8030.length c8033, .func (.func 100) #[] #[.pointer (some ⟨b8048, 0, none⟩)]] w fun e w' => e = .returned (.bool r) ∧ Mem [] w w' [] := by
  unfold M.slices_ContainsFunc_99__i_areRounds_1_1 at hm
  refine C_enter Try.func99 rfl (by kernel_rfl) ?_
  have M0 := Mem.refl [] w
  refine G_seq ?_
  refine G_region ?_
  refine W_run 1 [(0, .slice p8032 x8030.length c8033), (1, .func (.func 100) #[] #[.pointer (some ⟨b8048, 0, none⟩)])] w (by kernel_rfl) ?_
  refine W_nil ?_
  refine N_then ?_
  refine G_seq ?_
  refine G_region ?_
  refine W_run 2 [(5, .slice p8032 x8030.length c8033), (6, .func (.func 100) #[] #[.pointer (some ⟨b8048, 0, none⟩)])] w (by kernel_rfl) ?_
  obtain ⟨r8133, hr8133, hm⟩ := gx_bind hm
  refine W_call 107 #[.slice p8032 x8030.length c8033, .func (.func 100) #[] #[.pointer (some ⟨b8048, 0, none⟩)]] (by kernel_rfl) (by kernel_rfl) ?_
  refine (c_slices_IndexFunc_107__i_areRounds_1_1 w x8030 p8032 c8033 (h8034.mem0 M0) x8035 p8037 c8038 (h8039.mem0 M0) p8041 c8042 (h8043.mem0 M0) p8045 c8046 (h8047.mem0 M0) b8048 (M0.ro hb8049) hr8133).mono ?_
  rintro e_ w8134 ⟨rfl, K8135⟩
  have M8136 := M0.call0 K8135
  refine ⟨_, rfl, ?_⟩
  refine W_run 2 [(4, .bool (decide (r8133 ≥ 0)))] w8134 (by kernel_rfl) ?_
  refine W_nil ?_
  refine N_then ?_
  refine G_ret ?_
  obtain rfl := Option.some.inj hm
  refine N_ret [.bool (decide (r8133 ≥ 0))] (RVs_cons (RV_tmp (by kernel_rfl)) RVs_nil) ?_
  exact ⟨rfl, M8136.pick [] (by kernel_rfl)⟩
theorem c_i_areRounds_1 (w : World) (x8008 : List Store) (p8010 : Option Addr) (c8011 : Nat) (h8012 : rdS encStore w x8008 p8010 c8011) (x8013 : Copying) (p8015 : Option Addr) (c8016 : Nat) (h8017 : rdS encI w x8013.Memory p8015 c8016) (p8019 : Option Addr) (c8020 : Nat) (h8021 : rdS encI w x8013.Copy p8019 c8020) (p8023 : Option Addr) (c8024 : Nat) (h8025 : rdS encB w x8013.Dirty p8023 c8024) (b8026 : Nat) (hb8027 : w.heap[b8026]? = some (.cells ⟨[.slice p8015 x8013.Memory.length c8016, .slice p8019 x8013.Copy.length c8020, .slice p8023 x8013.Dirty.length c8024]⟩ 28 (0, 0))) {r : Bool} (hm : M.i_areRounds_1 x8008 x8013 = some r) :
    Calls Try.prog 98 #[.slice p8010 x8008.length c8011, .pointer (some ⟨b8026, 0, none⟩)] w fun e w' => e = .returned (.bool r) ∧ Mem [] w w' [] := by
  unfold M.i_areRounds_1 at hm
  refine C_enter Try.func98 rfl (by kernel_rfl) ?_
  have M0 := Mem.refl [] w
  refine G_seq ?_
  refine G_region ?_
  refine W_run 1 [(0, .slice p8010 x8008.length c8011), (1, .pointer (some ⟨b8026, 0, none⟩))] w (by kernel_rfl) ?_
  refine W_nil ?_
  refine N_then ?_
  refine G_seq ?_
  obtain ⟨o8141, ho8142, hm8143⟩ := gx_bind hm
  refine G_meet (fun a w' => Mem [] w w' [] ∧ Sat Try.f98.ntmps [(3, .bool o8141)] a) ?_ ?_
  · have hm := ho8142
    refine G_region ?_
    refine W_run 4 [(0, .slice p8010 x8008.length c8011), (1, .pointer (some ⟨b8026, 0, none⟩)), (7, .bool (decide ((x8008.length : Int) > 12)))] w (by kernel_rfl) ?_
    rcases gx_bif hm with ⟨hc8144, hm⟩ | ⟨hc8144, hm⟩
    · refine W_known 7 true (by kernel_rfl) hc8144 ?_
      refine W_run 5 [(3, .bool true)] w (by kernel_rfl) ?_
      refine W_nil ?_
      obtain rfl := Option.some.inj hm
      exact N_meet fun a ha => ⟨M0.pick [] (by kernel_rfl), ha.sub (by kernel_rfl)⟩
    · refine W_known 7 false (by kernel_rfl) hc8144 ?_
      refine W_run 2 [(7, .bool false), (8, .slice p8010 x8008.length c8011), (9, .func (.func 100) #[] #[.pointer (some ⟨b8026, 0, none⟩)])] w (by kernel_rfl) ?_
      obtain ⟨r8145, hr8145, hm⟩ := gx_bind hm
      refine W_call 99 #[.slice p8010 x8008.length c8011, .func (.func 100) #[] #[.pointer (some ⟨b8026, 0, none⟩)]] (by kernel_rfl) (by kernel_rfl) ?_
      refine (c_slices_ContainsFunc_99__i_areRounds_1_1 w x8008 p8010 c8011 (h8012.mem0 M0) x8013 p8015 c8016 (h8017.mem0 M0) p8019 c8020 (h8021.mem0 M0) p8023 c8024 (h8025.mem0 M0) b8026 (M0.ro hb8027) hr8145).mono ?_
      rintro e_ w8146 ⟨rfl, K8147⟩
      have M8148 := M0.call0 K8147
      refine ⟨_, rfl, ?_⟩
      refine W_run 2 [(3, .bool r8145)] w8146 (by kernel_rfl) ?_
      refine W_nil ?_
      obtain rfl := Option.some.inj hm
      exact N_meet fun a ha => ⟨M8148.pick [] (by kernel_rfl), ha.sub (by kernel_rfl)⟩
  · intro a8151 w8149 ⟨M8150, hS8152⟩
    refine N_use hS8152 ?_
    have hm := hm8143
    refine N_then ?_
    refine G_ret ?_
    obtain rfl := Option.some.inj hm
    refine N_ret [.bool o8141] (RVs_cons (RV_tmp (by kernel_rfl)) RVs_nil) ?_
    exact ⟨rfl, M8150.pick [] (by kernel_rfl)⟩
end Go.Proofs.Ytjbblcdajdpfkaa
