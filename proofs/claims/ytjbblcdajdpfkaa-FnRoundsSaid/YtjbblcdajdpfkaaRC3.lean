/- The walks, printed by program: whenever the model gives r, the call returns r. Part 3. -/
import Derived.Test.YtjbblcdajdpfkaaRM
import Derived.Test.YtjbblcdajdpfkaaProg
import Derived.Test.YtjbblcdajdpfkaaRC2
set_option linter.unusedVariables false
set_option maxRecDepth 100000
set_option maxHeartbeats 4000000
namespace Go.Proofs.Ytjbblcdajdpfkaa
open Go.Gx
theorem c_i_StartCopy (w : World) (x6753 : List Int) (p6755 : Option Addr) (c6756 : Nat) (h6757 : rdS encI w x6753 p6755 c6756) {r : Copying × Bool} (hm : M.i_StartCopy x6753 = some r) :
    Calls Try.prog 20 #[.slice p6755 x6753.length c6756] w fun e w' => ∃ (p6759 : Option Addr) (c6760 : Nat) (sg6761 : Seg), ∃ (p6763 : Option Addr) (c6764 : Nat) (sg6765 : Seg), ∃ (p6767 : Option Addr) (c6768 : Nat) (sg6769 : Seg), e = .returned (.tuple #[.agg #[.slice p6759 r.1.Memory.length c6760, .slice p6763 r.1.Copy.length c6764, .slice p6767 r.1.Dirty.length c6768], .bool r.2]) ∧ ownS encI r.1.Memory p6759 c6760 sg6761 ∧ ownS encI r.1.Copy p6763 c6764 sg6765 ∧ ownS encB r.1.Dirty p6767 c6768 sg6769 ∧ Mem [] w w' [sg6761, sg6765, sg6769] := by
  unfold M.i_StartCopy at hm
  refine C_enter Try.func20 rfl (by kernel_rfl) ?_
  have M0 := Mem.refl [] w
  refine G_seq ?_
  refine G_region ?_
  refine W_new (fun b => .pointer (some ⟨b, 0, none⟩)) (.cells ⟨[.slice none 0 0, .slice none 0 0, .slice none 0 0]⟩ 28 (0, 0)) M0 rfl (by kernel_rfl) (by kernel_rfl) ?_
  intro b6774 w6775 M6776
  refine W_run 1 [(0, .slice p6755 x6753.length c6756), (2, .pointer (some ⟨b6774, 0, none⟩))] w6775 (by kernel_rfl) ?_
  refine W_nil ?_
  refine N_then ?_
  refine G_seq ?_
  refine G_seq ?_
  refine G_region ?_
  refine W_run 1 [(0, .slice p6755 x6753.length c6756), (2, .pointer (some ⟨b6774, 0, none⟩)), (5, .slice p6755 x6753.length c6756)] w6775 (by kernel_rfl) ?_
  obtain ⟨r6777, hr6777, hm⟩ := gx_bind hm
  refine W_call 58 #[.slice p6755 x6753.length c6756] (by kernel_rfl) (by kernel_rfl) ?_
  refine (c_i_isMemory w6775 x6753 p6755 c6756 (h6757.mem0 M6776) hr6777).mono ?_
  rintro e_ w6778 ⟨rfl, K6779⟩
  have M6780 := M6776.call0 K6779
  refine ⟨_, rfl, ?_⟩
  refine W_run 1 [(0, .slice p6755 x6753.length c6756), (2, .pointer (some ⟨b6774, 0, none⟩)), (7, .bool (!r6777))] w6778 (by kernel_rfl) ?_
  refine W_nil ?_
  refine N_then ?_
  rcases gx_bif hm with ⟨hc6781, hm⟩ | ⟨hc6781, hm⟩
  · refine G_cond_t (b := (!r6777)) hc6781 (by kernel_rfl) ?_
    refine G_seq ?_
    refine G_region ?_
    refine W_run 1 [(2, .pointer (some ⟨b6774, 0, none⟩)), (8, .agg #[.slice none 0 0, .slice none 0 0, .slice none 0 0])] w6778 (by kernel_rfl) ?_
    refine W_store _ _ _ true 3 b6774 0 [.slice none 0 0, .slice none 0 0, .slice none 0 0] 28 (.agg #[.slice none 0 0, .slice none 0 0, .slice none 0 0]) 0 [.slice none 0 0, .slice none 0 0, .slice none 0 0] M6780 (by kernel_rfl) rfl (by kernel_rfl) (by kernel_rfl) (by kernel_rfl) (by kernel_rfl) (by kernel_rfl) (by kernel_rfl) (by kernel_rfl) (by kernel_rfl) ?_
    intro w6785 M6786
    refine W_run 1 [(2, .pointer (some ⟨b6774, 0, none⟩)), (3, .bool false)] w6785 (by kernel_rfl) ?_
    refine W_nil ?_
    refine N_then ?_
    refine G_ret ?_
    refine N_then_ret ?_
    obtain rfl := Option.some.inj hm
    refine N_ret [.agg #[.slice none 0 0, .slice none 0 0, .slice none 0 0], .bool false] (RVs_cons (RV_cell (g := true) (k := 3) (b := b6774) (off := 0) (cs := [.slice none 0 0, .slice none 0 0, .slice none 0 0]) (e := 28) (fr := (0, 0)) (v := .agg #[.slice none 0 0, .slice none 0 0, .slice none 0 0]) (M6786.blk 0 (b := b6774) (o := .cells ⟨[.slice none 0 0, .slice none 0 0, .slice none 0 0]⟩ 28 (0, 0)) (by kernel_rfl)) (by kernel_rfl) (by kernel_rfl) (by kernel_rfl)) (RVs_cons (RV_tmp (by kernel_rfl)) RVs_nil)) ?_
    exact ⟨none, 0, [], none, 0, [], none, 0, [], rfl, ownS_nil, ownS_nil, ownS_nil, M6786.pick [100000, 100001, 100002] (by kernel_rfl)⟩
  · refine G_cond_f (b := (!r6777)) hc6781 (by kernel_rfl) ?_
    refine G_skip ?_
    refine N_then ?_
    refine G_seq ?_
    obtain ⟨r6789, hr6789, hm⟩ := gx_bind hm
    obtain ⟨mk6795, hmk6795, hm⟩ := gx_bind hm
    refine G_sub [(0, .slice p6755 x6753.length c6756), (2, .pointer (some ⟨b6774, 0, none⟩)), (7, .bool (!r6777))] (by kernel_rfl) ?_
    refine G_dagL 8 [[], [0], [], [2], [3], [], [], []] [[], [], [], [], [], [], [], []] [[], [], [], [], [], [], [], []] [[], [], [], [], [], [], [1, 4, 5], []] [[], [], [], [], [], [], [1, 4, 5], []] [[], [], [], [], [], [], [], []] (fun _ => []) (fun i => ([fun f v s => v = (.slice p6755 x6753.length c6756 : Value) ∧ s = [], fun f v s => ∃ (p6791 : Option Addr) (c6792 : Nat), v = (.slice p6791 r6789.length c6792 : Value) ∧ ownS encI r6789 p6791 c6792 s, fun f v s => v = (.slice p6755 x6753.length c6756 : Value) ∧ s = [], fun f v s => v = (.int .i64 (x6753.length : Int) : Value) ∧ s = [], fun f v s => ∃ (p6797 : Option Addr) (c6798 : Nat), v = (.slice p6797 mk6795.length c6798 : Value) ∧ ownS encI mk6795 p6797 c6798 s, fun f v s => ∃ (p6802 : Option Addr) (c6803 : Nat), v = (.slice p6802 ([] : List Bool).length c6803 : Value) ∧ ownS encB ([] : List Bool) p6802 c6803 s, fun f v s => v = (.agg #[(atPath (f 1) []), (atPath (f 4) []), (atPath (f 5) [])] : Value) ∧ s = [], fun f v s => ∃ (b6813 : Nat), v = (.pointer (some ⟨b6813, 0, none⟩) : Value) ∧ s = [(b6813, .cells ⟨[.slice none 0 0, .slice none 0 0, .slice none 0 0]⟩ 28 (0, 0))]] : List ((Nat → Value) → Value → Seg → Prop)).getD i (fun _ _ _ => False)) (fun j f v => ∃ s, (fun i => ([fun f v s => v = (.slice p6755 x6753.length c6756 : Value) ∧ s = [], fun f v s => ∃ (p6791 : Option Addr) (c6792 : Nat), v = (.slice p6791 r6789.length c6792 : Value) ∧ ownS encI r6789 p6791 c6792 s, fun f v s => v = (.slice p6755 x6753.length c6756 : Value) ∧ s = [], fun f v s => v = (.int .i64 (x6753.length : Int) : Value) ∧ s = [], fun f v s => ∃ (p6797 : Option Addr) (c6798 : Nat), v = (.slice p6797 mk6795.length c6798 : Value) ∧ ownS encI mk6795 p6797 c6798 s, fun f v s => ∃ (p6802 : Option Addr) (c6803 : Nat), v = (.slice p6802 ([] : List Bool).length c6803 : Value) ∧ ownS encB ([] : List Bool) p6802 c6803 s, fun f v s => v = (.agg #[(atPath (f 1) []), (atPath (f 4) []), (atPath (f 5) [])] : Value) ∧ s = [], fun f v s => ∃ (b6813 : Nat), v = (.pointer (some ⟨b6813, 0, none⟩) : Value) ∧ s = [(b6813, .cells ⟨[.slice none 0 0, .slice none 0 0, .slice none 0 0]⟩ 28 (0, 0))]] : List ((Nat → Value) → Value → Seg → Prop)).getD i (fun _ _ _ => False)) j f v s) [] [1, 4, 5, 6, 7] [1, 4, 5, 7] (fun _ _ _ s h => ⟨s, h⟩) (by kernel_rfl) (by kernel_rfl) (M6780.preNil 8) (by kernel_rfl) (by kernel_rfl) (by kernel_rfl) (by kernel_rfl) (allOb_cons ?_ (allOb_cons ?_ (allOb_cons ?_ (allOb_cons ?_ (allOb_cons ?_ (allOb_cons ?_ (allOb_cons ?_ (allOb_cons ?_ allOb_nil)))))))) ?_
    · intro g6787 f6788
      intro R w6814 M6815
      refine W_run 1 [(9, .slice p6755 x6753.length c6756)] w6814 (by kernel_rfl) ?_
      exact W_nil (ob_end (.slice p6755 x6753.length c6756) [] rfl (by kernel_rfl) ⟨by kernel_rfl, rfl⟩ M6815)
    · intro g6787 f6788
      intro v0_ hb0_
      obtain ⟨rfl, _⟩ := hb0_
      intro R w6818 M6819
      refine W_call 62 #[.slice p6755 x6753.length c6756] (by kernel_rfl) (by kernel_rfl) ?_
      refine (c_i_copyInts w6818 x6753 p6755 c6756 (h6757.mem0 M6819) hr6789).mono ?_
      rintro e_ w6820 ⟨p6791, c6792, sg6793, rfl, ho6794, K6822⟩
      refine ⟨_, rfl, ?_⟩
      exact W_nil (ob_end (.slice p6791 r6789.length c6792) sg6793 rfl (by kernel_rfl) ⟨p6791, c6792, rfl, ho6794⟩ (Mem.callMid M6819 K6822))
    · intro g6787 f6788
      intro R w6823 M6824
      refine W_run 1 [(11, .slice p6755 x6753.length c6756)] w6823 (by kernel_rfl) ?_
      exact W_nil (ob_end (.slice p6755 x6753.length c6756) [] rfl (by kernel_rfl) ⟨by kernel_rfl, rfl⟩ M6824)
    · intro g6787 f6788
      intro v2_ hb2_
      obtain ⟨rfl, _⟩ := hb2_
      intro R w6827 M6828
      refine W_run 1 [(12, .int .i64 (x6753.length : Int))] w6827 (by kernel_rfl) ?_
      exact W_nil (ob_end (.int .i64 (x6753.length : Int)) [] rfl (by kernel_rfl) ⟨by kernel_rfl, rfl⟩ M6828)
    · intro g6787 f6788
      intro v3_ hb3_
      obtain ⟨rfl, _⟩ := hb3_
      intro R w6831 M6832
      refine W_make (E := encI) _ _ _ (x6753.length : Int) 8 [.int .i64 0] (0 : Int) M6832 (by kernel_rfl) rfl (by kernel_rfl) (by kernel_rfl) (by kernel_rfl) (by kernel_rfl) (by kernel_rfl) hmk6795 ?_
      intro p6797 c6798 sg6799 w6833 ho6800 M6834
      exact W_nil (ob_end (.slice p6797 mk6795.length c6798) sg6799 rfl (by kernel_rfl) ⟨p6797, c6798, rfl, ho6800⟩ (Mem.mid M6834))
    · intro g6787 f6788
      intro R w6835 M6836
      refine W_lit (E := encB) ([] : List Bool) 0 [] 4 M6836 (by kernel_rfl) (by kernel_rfl) (by kernel_rfl) (by kernel_rfl) (by kernel_rfl) ?_
      intro p6802 c6803 sg6804 w6837 ho6805 M6838
      exact W_nil (ob_end (.slice p6802 ([] : List Bool).length c6803) sg6804 rfl (by kernel_rfl) ⟨p6802, c6803, rfl, ho6805⟩ (Mem.mid M6838))
    · intro g6787 f6788
      intro v1_ hb1_
      obtain ⟨_, p6791, c6792, rfl, _⟩ := hb1_
      intro v4_ hb4_
      obtain ⟨_, p6797, c6798, rfl, _⟩ := hb4_
      intro v5_ hb5_
      obtain ⟨_, p6802, c6803, rfl, _⟩ := hb5_
      intro R w6839 M6840
      refine W_run 1 [(15, .agg #[.slice p6791 r6789.length c6792, .slice p6797 mk6795.length c6798, .slice p6802 ([] : List Bool).length c6803])] w6839 (by kernel_rfl) ?_
      exact W_nil (ob_end (.agg #[.slice p6791 r6789.length c6792, .slice p6797 mk6795.length c6798, .slice p6802 ([] : List Bool).length c6803]) [] rfl (by kernel_rfl) ⟨by kernel_rfl, rfl⟩ M6840)
    · intro g6787 f6788
      intro R w6843 M6844
      refine W_new (fun b => .pointer (some ⟨b, 0, none⟩)) (.cells ⟨[.slice none 0 0, .slice none 0 0, .slice none 0 0]⟩ 28 (0, 0)) M6844 rfl (by kernel_rfl) (by kernel_rfl) ?_
      intro b6813 w6845 M6846
      exact W_nil (ob_end (.pointer (some ⟨b6813, 0, none⟩)) [(b6813, .cells ⟨[.slice none 0 0, .slice none 0 0, .slice none 0 0]⟩ 28 (0, 0))] rfl (by kernel_rfl) ⟨b6813, rfl, rfl⟩ (Mem.mid M6846))
    · intro g6787 f6788
      intro v1_ hb1_
      obtain ⟨p6791, c6792, rfl, ho6794⟩ := hb1_
      intro v4_ hb4_
      obtain ⟨p6797, c6798, rfl, ho6800⟩ := hb4_
      intro v5_ hb5_
      obtain ⟨p6802, c6803, rfl, ho6805⟩ := hb5_
      intro v6_ hb6_
      obtain ⟨hv6_, _⟩ := hb6_
      obtain rfl : v6_ = (.agg #[.slice p6791 r6789.length c6792, .slice p6797 mk6795.length c6798, .slice p6802 ([] : List Bool).length c6803] : Value) := hv6_.trans (by kernel_rfl)
      intro v7_ hb7_
      obtain ⟨b6813, rfl, hs7_⟩ := hb7_
      intro w6847 M6848
      have M6849 : Mem [] w w6847 [[(b6774, .cells ⟨[.slice none 0 0, .slice none 0 0, .slice none 0 0]⟩ 28 (0, 0))], (g6787 1), (g6787 4), (g6787 5), (g6787 7)] := M6848
      rw [hs7_] at M6849
      refine W_store _ _ _ true 3 b6813 0 [.slice none 0 0, .slice none 0 0, .slice none 0 0] 28 (.agg #[.slice p6791 r6789.length c6792, .slice p6797 mk6795.length c6798, .slice p6802 ([] : List Bool).length c6803]) 4 [.slice p6791 r6789.length c6792, .slice p6797 mk6795.length c6798, .slice p6802 ([] : List Bool).length c6803] M6849 (by kernel_rfl) rfl (by kernel_rfl) (by kernel_rfl) (by kernel_rfl) (by kernel_rfl) (by kernel_rfl) (by kernel_rfl) (by kernel_rfl) (by kernel_rfl) ?_
      intro w6850 M6851
      refine W_nil ?_
      refine N_then ?_
      refine G_seq ?_
      refine G_seq ?_
      refine G_region ?_
      refine W_run 3 [(2, .pointer (some ⟨b6774, 0, none⟩)), (4, .pointer (some ⟨b6813, 0, none⟩)), (17, .int .i64 (x6753.length : Int)), (18, .int .i64 0)] w6850 (by kernel_rfl) ?_
      refine W_nil ?_
      refine N_then ?_
      obtain ⟨out6900, hw6901, hmo6902⟩ := gx_bind hm
      refine G_meet (fun a w' => ∃ (p6909 : Option Addr), ∃ (c6910 : Nat), ∃ (sg6911 : Seg), ownS encB out6900 p6909 c6910 sg6911 ∧ Mem [] w w' [[(b6774, .cells ⟨[.slice none 0 0, .slice none 0 0, .slice none 0 0]⟩ 28 (0, 0))], (g6787 1), (g6787 4), [(b6813, .cells ⟨[.slice p6791 r6789.length c6792, .slice p6797 mk6795.length c6798, .slice p6909 out6900.length c6910]⟩ 28 (0, 0))], sg6911] ∧ Sat Try.f20.ntmps [(2, .pointer (some ⟨b6774, 0, none⟩)), (4, .pointer (some ⟨b6813, 0, none⟩))] a) ?_ ?_
      · refine G_block ?_
        refine G_while (σ := Int × List Bool) (ρ := List Bool) (fun s6893 a w' => ∃ (p6903 : Option Addr), ∃ (c6904 : Nat), ∃ (sg6905 : Seg), ownS encB s6893.2 p6903 c6904 sg6905 ∧ Mem [] w w' [[(b6774, .cells ⟨[.slice none 0 0, .slice none 0 0, .slice none 0 0]⟩ 28 (0, 0))], (g6787 1), (g6787 4), [(b6813, .cells ⟨[.slice p6791 r6789.length c6792, .slice p6797 mk6795.length c6798, .slice p6903 s6893.2.length c6904]⟩ 28 (0, 0))], sg6905] ∧ Sat Try.f20.ntmps [(2, .pointer (some ⟨b6774, 0, none⟩)), (4, .pointer (some ⟨b6813, 0, none⟩)), (17, .int .i64 (x6753.length : Int)), (18, .int .i64 s6893.1)] a) hw6901 (fun a ha => ⟨p6802, c6803, (g6787 5), ho6805, M6851.pick [0, 1, 2, 4, 3] (by kernel_rfl), ha.sub (by kernel_rfl)⟩) ?_
        clear hm
        intro s6893 x6894 hm hout6895 a6896 w6897 ⟨p6903, c6904, sg6905, ho6906, M6898, hS6899⟩
        refine G_use hS6899 ?_
        refine G_seq ?_
        refine G_region ?_
        refine W_run 1 [(2, .pointer (some ⟨b6774, 0, none⟩)), (4, .pointer (some ⟨b6813, 0, none⟩)), (17, .int .i64 (x6753.length : Int)), (18, .int .i64 s6893.1), (19, .bool (decide (s6893.1 < (x6753.length : Int))))] w6897 (by kernel_rfl) ?_
        refine W_nil ?_
        refine N_then ?_
        refine G_seq ?_
        rcases gx_bif hm with ⟨hc6914, hm⟩ | ⟨hc6914, hm⟩
        · refine G_cond_t (b := (decide (s6893.1 < (x6753.length : Int)))) hc6914 (by kernel_rfl) ?_
          refine G_skip ?_
          refine N_then ?_
          refine G_seq ?_
          refine G_block ?_
          refine G_region ?_
          refine W_run 1 [(2, .pointer (some ⟨b6774, 0, none⟩)), (4, .pointer (some ⟨b6813, 0, none⟩)), (17, .int .i64 (x6753.length : Int)), (18, .int .i64 s6893.1), (20, .pointer (some ⟨b6813, 2, none⟩))] w6897 (by kernel_rfl) ?_
          refine W_val (.slice p6903 s6893.2.length c6904) w6897 (by kernel_rfl) (E_load (e := 28) (fr := (0, 0)) _ _ false 1 b6813 2 [.slice p6791 r6789.length c6792, .slice p6797 mk6795.length c6798, .slice p6903 s6893.2.length c6904] (.slice p6903 s6893.2.length c6904) rfl (by kernel_rfl) (by kernel_rfl) (by kernel_rfl) (M6898.blk 3 (b := b6813) (o := .cells ⟨[.slice p6791 r6789.length c6792, .slice p6797 mk6795.length c6798, .slice p6903 s6893.2.length c6904]⟩ 28 (0, 0)) (by kernel_rfl))) ?_
          refine W_lit (E := encB) [true] 1 [.bool true] 4 M6898 (by kernel_rfl) (by kernel_rfl) (by kernel_rfl) (by kernel_rfl) (by kernel_rfl) ?_
          intro p6915 c6916 sg6917 w6918 ho6919 M6920
          obtain ⟨ap6922, hap6922, hm⟩ := gx_bind hm
          refine W_append (E := encB) _ _ _ 1 [.bool false] 4 c6916 M6920 ho6906 (by kernel_rfl) (by kernel_rfl) (by kernel_rfl) rfl (by kernel_rfl) (by kernel_rfl) (by kernel_rfl) (by kernel_rfl) (by kernel_rfl) (by kernel_rfl) (ho6919.rd M6920 5 (by kernel_rfl)) hap6922 ?_
          intro p6923 c6924 sg6925 w6926 ho6927 M6928
          refine W_run 1 [(2, .pointer (some ⟨b6774, 0, none⟩)), (4, .pointer (some ⟨b6813, 0, none⟩)), (17, .int .i64 (x6753.length : Int)), (18, .int .i64 s6893.1), (23, .slice p6923 ap6922.length c6924), (24, .pointer (some ⟨b6813, 2, none⟩))] w6926 (by kernel_rfl) ?_
          refine W_store _ _ _ false 1 b6813 2 [.slice p6791 r6789.length c6792, .slice p6797 mk6795.length c6798, .slice p6903 s6893.2.length c6904] 28 (.slice p6923 ap6922.length c6924) 3 [.slice p6791 r6789.length c6792, .slice p6797 mk6795.length c6798, .slice p6923 ap6922.length c6924] M6928 (by kernel_rfl) rfl (by kernel_rfl) (by kernel_rfl) (by kernel_rfl) (by kernel_rfl) (by kernel_rfl) (by kernel_rfl) (by kernel_rfl) (by kernel_rfl) ?_
          intro w6930 M6931
          refine W_nil ?_
          refine N_block ?_
          refine N_then ?_
          refine G_region ?_
          refine W_run 2 [(2, .pointer (some ⟨b6774, 0, none⟩)), (4, .pointer (some ⟨b6813, 0, none⟩)), (17, .int .i64 (x6753.length : Int)), (18, .int .i64 (w64 (s6893.1 + 1)))] w6930 (by kernel_rfl) ?_
          refine W_nil ?_
          obtain rfl := Option.some.inj hm
          exact N_loop fun a ha => ⟨_, rfl, p6923, c6924, sg6925, ho6927, M6931.pick [0, 1, 2, 3, 4] (by kernel_rfl), ha.sub (by kernel_rfl)⟩
        · refine G_cond_f (b := (decide (s6893.1 < (x6753.length : Int)))) hc6914 (by kernel_rfl) ?_
          refine G_exit ?_
          refine N_then_exit ?_
          refine N_then_exit ?_
          refine N_block_eq ?_
          obtain rfl := Option.some.inj hm
          obtain rfl := hout6895 _ rfl
          exact N_meet fun a ha => ⟨p6903, c6904, sg6905, ho6906, M6898.pick [0, 1, 2, 3, 4] (by kernel_rfl), ha.sub (by kernel_rfl)⟩
      · intro a6932 w6933 ⟨p6909, c6910, sg6911, ho6912, M6934, hS6935⟩
        refine N_use hS6935 ?_
        have hm := hmo6902
        refine N_then ?_
        refine G_seq ?_
        refine G_region ?_
        refine W_val (.agg #[.slice p6791 r6789.length c6792, .slice p6797 mk6795.length c6798, .slice p6909 out6900.length c6910]) w6933 (by kernel_rfl) (E_load (e := 28) (fr := (0, 0)) _ _ true 3 b6813 0 [.slice p6791 r6789.length c6792, .slice p6797 mk6795.length c6798, .slice p6909 out6900.length c6910] (.agg #[.slice p6791 r6789.length c6792, .slice p6797 mk6795.length c6798, .slice p6909 out6900.length c6910]) rfl (by kernel_rfl) (by kernel_rfl) (by kernel_rfl) (M6934.blk 3 (b := b6813) (o := .cells ⟨[.slice p6791 r6789.length c6792, .slice p6797 mk6795.length c6798, .slice p6909 out6900.length c6910]⟩ 28 (0, 0)) (by kernel_rfl))) ?_
        refine W_store _ _ _ true 3 b6774 0 [.slice none 0 0, .slice none 0 0, .slice none 0 0] 28 (.agg #[.slice p6791 r6789.length c6792, .slice p6797 mk6795.length c6798, .slice p6909 out6900.length c6910]) 0 [.slice p6791 r6789.length c6792, .slice p6797 mk6795.length c6798, .slice p6909 out6900.length c6910] M6934 (by kernel_rfl) rfl (by kernel_rfl) (by kernel_rfl) (by kernel_rfl) (by kernel_rfl) (by kernel_rfl) (by kernel_rfl) (by kernel_rfl) (by kernel_rfl) ?_
        intro w6936 M6937
        refine W_run 1 [(2, .pointer (some ⟨b6774, 0, none⟩)), (3, .bool true)] w6936 (by kernel_rfl) ?_
        refine W_nil ?_
        refine N_then ?_
        refine G_ret ?_
        obtain rfl := Option.some.inj hm
        refine N_ret [.agg #[.slice p6791 r6789.length c6792, .slice p6797 mk6795.length c6798, .slice p6909 out6900.length c6910], .bool true] (RVs_cons (RV_cell (g := true) (k := 3) (b := b6774) (off := 0) (cs := [.slice p6791 r6789.length c6792, .slice p6797 mk6795.length c6798, .slice p6909 out6900.length c6910]) (e := 28) (fr := (0, 0)) (v := .agg #[.slice p6791 r6789.length c6792, .slice p6797 mk6795.length c6798, .slice p6909 out6900.length c6910]) (M6937.blk 0 (b := b6774) (o := .cells ⟨[.slice p6791 r6789.length c6792, .slice p6797 mk6795.length c6798, .slice p6909 out6900.length c6910]⟩ 28 (0, 0)) (by kernel_rfl)) (by kernel_rfl) (by kernel_rfl) (by kernel_rfl)) (RVs_cons (RV_tmp (by kernel_rfl)) RVs_nil)) ?_
        exact ⟨p6791, c6792, (g6787 1), p6797, c6798, (g6787 4), p6909, c6910, sg6911, rfl, ho6794, ho6800, ho6912, M6937.pick [1, 2, 4] (by kernel_rfl)⟩
theorem c_s_DrawIsCopying (w : World) (x7036 : List Int) (p7038 : Option Addr) (c7039 : Nat) (h7040 : rdS encU8 w x7036 p7038 c7039) {r : Copying} (hm : M.s_DrawIsCopying x7036 = some r) :
    Calls Try.prog 89 #[.slice p7038 x7036.length c7039] w fun e w' => ∃ (p7042 : Option Addr) (c7043 : Nat) (sg7044 : Seg), ∃ (p7046 : Option Addr) (c7047 : Nat) (sg7048 : Seg), ∃ (p7050 : Option Addr) (c7051 : Nat) (sg7052 : Seg), e = .returned (.agg #[.slice p7042 r.Memory.length c7043, .slice p7046 r.Copy.length c7047, .slice p7050 r.Dirty.length c7051]) ∧ ownS encI r.Memory p7042 c7043 sg7044 ∧ ownS encI r.Copy p7046 c7047 sg7048 ∧ ownS encB r.Dirty p7050 c7051 sg7052 ∧ Mem [] w w' [sg7044, sg7048, sg7052] := by
  unfold M.s_DrawIsCopying at hm
  refine C_enter Try.func89 rfl (by kernel_rfl) ?_
  have M0 := Mem.refl [] w
  refine G_seq ?_
  refine G_region ?_
  refine W_new (fun b => .pointer (some ⟨b, 0, none⟩)) (.cells ⟨[.slice none 0 0, .slice none 0 0, .slice none 0 0]⟩ 28 (0, 0)) M0 rfl (by kernel_rfl) (by kernel_rfl) ?_
  intro b7057 w7058 M7059
  refine W_nil ?_
  refine N_then ?_
  refine G_seq ?_
  refine G_region ?_
  refine W_run 2 [(2, .pointer (some ⟨b7057, 0, none⟩)), (5, .agg #[.slice p7038 x7036.length c7039, .int .i64 0, .int .u64 0])] w7058 (by kernel_rfl) ?_
  refine W_new (fun b => .pointer (some ⟨b, 0, none⟩)) (.cells ⟨[.slice p7038 x7036.length c7039, .int .i64 0, .int .u64 0]⟩ 99 (0, 0)) M7059 rfl (by kernel_rfl) (by kernel_rfl) ?_
  intro b7062 w7063 M7064
  refine W_run 1 [(2, .pointer (some ⟨b7057, 0, none⟩)), (3, .pointer (some ⟨b7062, 0, none⟩))] w7063 (by kernel_rfl) ?_
  refine W_nil ?_
  refine N_then ?_
  refine G_seq ?_
  refine G_region ?_
  refine W_run 1 [(2, .pointer (some ⟨b7057, 0, none⟩)), (7, .pointer (some ⟨b7062, 0, none⟩))] w7063 (by kernel_rfl) ?_
  obtain ⟨r7065, hr7065, hm⟩ := gx_bind hm
  refine W_call 84 #[.pointer (some ⟨b7062, 0, none⟩)] (by kernel_rfl) (by kernel_rfl) ?_
  refine (c_s_l1Cur_copying w7063 (⟨x7036, 0, 0⟩ : l1Cur) p7038 c7039 (h7040.mem0 M7064) b7062 (M7064.hasPick [1]) (M7064.nodupPick [1] (by kernel_rfl)) (apartX.old0 h7040 M7064 [1]) hr7065).mono ?_
  rintro e_ w7081 ⟨p7067, c7068, sg7069, p7072, c7073, sg7074, p7077, c7078, sg7079, rfl, ho7070, ho7075, ho7080, K7082⟩
  have M7083 := M7064.callF' [1] [0] (by kernel_rfl) K7082
  refine ⟨_, rfl, ?_⟩
  refine W_store _ _ _ true 3 b7057 0 [.slice none 0 0, .slice none 0 0, .slice none 0 0] 28 (.agg #[.slice p7067 r7065.1.Memory.length c7068, .slice p7072 r7065.1.Copy.length c7073, .slice p7077 r7065.1.Dirty.length c7078]) 0 [.slice p7067 r7065.1.Memory.length c7068, .slice p7072 r7065.1.Copy.length c7073, .slice p7077 r7065.1.Dirty.length c7078] M7083 (by kernel_rfl) rfl (by kernel_rfl) (by kernel_rfl) (by kernel_rfl) (by kernel_rfl) (by kernel_rfl) (by kernel_rfl) (by kernel_rfl) (by kernel_rfl) ?_
  intro w7084 M7085
  refine W_nil ?_
  refine N_then ?_
  refine G_ret ?_
  obtain rfl := Option.some.inj hm
  refine N_ret [.agg #[.slice p7067 r7065.1.Memory.length c7068, .slice p7072 r7065.1.Copy.length c7073, .slice p7077 r7065.1.Dirty.length c7078]] (RVs_cons (RV_cell (g := true) (k := 3) (b := b7057) (off := 0) (cs := [.slice p7067 r7065.1.Memory.length c7068, .slice p7072 r7065.1.Copy.length c7073, .slice p7077 r7065.1.Dirty.length c7078]) (e := 28) (fr := (0, 0)) (v := .agg #[.slice p7067 r7065.1.Memory.length c7068, .slice p7072 r7065.1.Copy.length c7073, .slice p7077 r7065.1.Dirty.length c7078]) (M7085.blk 0 (b := b7057) (o := .cells ⟨[.slice p7067 r7065.1.Memory.length c7068, .slice p7072 r7065.1.Copy.length c7073, .slice p7077 r7065.1.Dirty.length c7078]⟩ 28 (0, 0)) (by kernel_rfl)) (by kernel_rfl) (by kernel_rfl) (by kernel_rfl)) RVs_nil) ?_
  exact ⟨p7067, c7068, sg7069, p7072, c7073, sg7074, p7077, c7078, sg7079, rfl, ho7070, ho7075, ho7080, M7085.pick [2, 3, 4] (by kernel_rfl)⟩
theorem c_s_DrawDirtyWords (w : World) (x7012 : List Int) (p7014 : Option Addr) (c7015 : Nat) (h7016 : rdS encU8 w x7012 p7014 c7015) {r : Copying} (hm : M.s_DrawDirtyWords x7012 = some r) :
    Calls Try.prog 53 #[.slice p7014 x7012.length c7015] w fun e w' => ∃ (p7018 : Option Addr) (c7019 : Nat) (sg7020 : Seg), ∃ (p7022 : Option Addr) (c7023 : Nat) (sg7024 : Seg), ∃ (p7026 : Option Addr) (c7027 : Nat) (sg7028 : Seg), e = .returned (.agg #[.slice p7018 r.Memory.length c7019, .slice p7022 r.Copy.length c7023, .slice p7026 r.Dirty.length c7027]) ∧ ownS encI r.Memory p7018 c7019 sg7020 ∧ ownS encI r.Copy p7022 c7023 sg7024 ∧ ownS encB r.Dirty p7026 c7027 sg7028 ∧ Mem [] w w' [sg7020, sg7024, sg7028] := by
  unfold M.s_DrawDirtyWords at hm
  refine C_enter Try.func53 rfl (by kernel_rfl) ?_
  have M0 := Mem.refl [] w
  refine G_seq ?_
  refine G_region ?_
  refine W_new (fun b => .pointer (some ⟨b, 0, none⟩)) (.cells ⟨[.slice none 0 0, .slice none 0 0, .slice none 0 0]⟩ 28 (0, 0)) M0 rfl (by kernel_rfl) (by kernel_rfl) ?_
  intro b7033 w7034 M7035
  refine W_nil ?_
  refine N_then ?_
  refine G_seq ?_
  refine G_region ?_
  refine W_run 1 [(2, .pointer (some ⟨b7033, 0, none⟩)), (3, .slice p7014 x7012.length c7015)] w7034 (by kernel_rfl) ?_
  obtain ⟨r7086, hr7086, hm⟩ := gx_bind hm
  refine W_call 89 #[.slice p7014 x7012.length c7015] (by kernel_rfl) (by kernel_rfl) ?_
  refine (c_s_DrawIsCopying w7034 x7012 p7014 c7015 (h7016.mem0 M7035) hr7086).mono ?_
  rintro e_ w7102 ⟨p7088, c7089, sg7090, p7093, c7094, sg7095, p7098, c7099, sg7100, rfl, ho7091, ho7096, ho7101, K7103⟩
  have M7104 := M7035.call K7103
  refine ⟨_, rfl, ?_⟩
  refine W_store _ _ _ true 3 b7033 0 [.slice none 0 0, .slice none 0 0, .slice none 0 0] 28 (.agg #[.slice p7088 r7086.Memory.length c7089, .slice p7093 r7086.Copy.length c7094, .slice p7098 r7086.Dirty.length c7099]) 0 [.slice p7088 r7086.Memory.length c7089, .slice p7093 r7086.Copy.length c7094, .slice p7098 r7086.Dirty.length c7099] M7104 (by kernel_rfl) rfl (by kernel_rfl) (by kernel_rfl) (by kernel_rfl) (by kernel_rfl) (by kernel_rfl) (by kernel_rfl) (by kernel_rfl) (by kernel_rfl) ?_
  intro w7105 M7106
  refine W_nil ?_
  refine N_then ?_
  refine G_ret ?_
  obtain rfl := Option.some.inj hm
  refine N_ret [.agg #[.slice p7088 r7086.Memory.length c7089, .slice p7093 r7086.Copy.length c7094, .slice p7098 r7086.Dirty.length c7099]] (RVs_cons (RV_cell (g := true) (k := 3) (b := b7033) (off := 0) (cs := [.slice p7088 r7086.Memory.length c7089, .slice p7093 r7086.Copy.length c7094, .slice p7098 r7086.Dirty.length c7099]) (e := 28) (fr := (0, 0)) (v := .agg #[.slice p7088 r7086.Memory.length c7089, .slice p7093 r7086.Copy.length c7094, .slice p7098 r7086.Dirty.length c7099]) (M7106.blk 0 (b := b7033) (o := .cells ⟨[.slice p7088 r7086.Memory.length c7089, .slice p7093 r7086.Copy.length c7094, .slice p7098 r7086.Dirty.length c7099]⟩ 28 (0, 0)) (by kernel_rfl)) (by kernel_rfl) (by kernel_rfl) (by kernel_rfl)) RVs_nil) ?_
  exact ⟨p7088, c7089, sg7090, p7093, c7094, sg7095, p7098, c7099, sg7100, rfl, ho7091, ho7096, ho7101, M7106.pick [1, 2, 3] (by kernel_rfl)⟩
theorem c_s_l19Dirty (w : World) (x7178 : Copying) (p7180 : Option Addr) (c7181 : Nat) (h7182 : rdS encI w x7178.Memory p7180 c7181) (p7184 : Option Addr) (c7185 : Nat) (h7186 : rdS encI w x7178.Copy p7184 c7185) (p7188 : Option Addr) (c7189 : Nat) (h7190 : rdS encB w x7178.Dirty p7188 c7189) {r : (List Int)} (hm : M.s_l19Dirty x7178 = some r) :
    Calls Try.prog 65 #[.agg #[.slice p7180 x7178.Memory.length c7181, .slice p7184 x7178.Copy.length c7185, .slice p7188 x7178.Dirty.length c7189]] w fun e w' => ∃ (p7192 : Option Addr) (c7193 : Nat) (sg7194 : Seg), e = .returned (.slice p7192 r.length c7193) ∧ ownS encI r p7192 c7193 sg7194 ∧ Mem [] w w' [sg7194] := by
  unfold M.s_l19Dirty at hm
  refine C_enter Try.func65 rfl (by kernel_rfl) ?_
  have M0 := Mem.refl [] w
  refine G_seq ?_
  refine G_region ?_
  refine W_new (fun b => .pointer (some ⟨b, 0, none⟩)) (.cells ⟨[.slice p7180 x7178.Memory.length c7181, .slice p7184 x7178.Copy.length c7185, .slice p7188 x7178.Dirty.length c7189]⟩ 28 (0, 0)) M0 rfl (by kernel_rfl) (by kernel_rfl) ?_
  intro b7196 w7197 M7198
  refine W_run 1 [(1, .pointer (some ⟨b7196, 0, none⟩))] w7197 (by kernel_rfl) ?_
  refine W_nil ?_
  refine N_then ?_
  refine G_seq ?_
  refine G_region ?_
  refine W_lit (E := encI) ([] : List Int) 0 [] 3 M7198 (by kernel_rfl) (by kernel_rfl) (by kernel_rfl) (by kernel_rfl) (by kernel_rfl) ?_
  intro p7200 c7201 sg7202 w7203 ho7204 M7205
  refine W_run 1 [(1, .pointer (some ⟨b7196, 0, none⟩)), (3, .slice p7200 ([] : List Int).length c7201)] w7203 (by kernel_rfl) ?_
  refine W_nil ?_
  refine N_then ?_
  refine G_seq ?_
  refine G_seq ?_
  refine G_region ?_
  refine W_run 1 [(1, .pointer (some ⟨b7196, 0, none⟩)), (3, .slice p7200 ([] : List Int).length c7201), (4, .int .i64 0)] w7203 (by kernel_rfl) ?_
  refine W_nil ?_
  refine N_then ?_
  obtain ⟨out7311, hw7312, hmo7313⟩ := gx_bind hm
  refine G_meet (fun a w' => ∃ (p7320 : Option Addr), ∃ (c7321 : Nat), ∃ (sg7322 : Seg), ownS encI out7311 p7320 c7321 sg7322 ∧ Mem [] w w' [sg7322] ∧ Sat Try.f65.ntmps [(3, .slice p7320 out7311.length c7321)] a) ?_ ?_
  · refine G_block ?_
    refine G_while (σ := List Int × Int) (ρ := List Int) (fun s7304 a w' => ∃ (p7314 : Option Addr), ∃ (c7315 : Nat), ∃ (sg7316 : Seg), ownS encI s7304.1 p7314 c7315 sg7316 ∧ Mem [] w w' [[(b7196, .cells ⟨[.slice p7180 x7178.Memory.length c7181, .slice p7184 x7178.Copy.length c7185, .slice p7188 x7178.Dirty.length c7189]⟩ 28 (0, 0))], sg7316] ∧ Sat Try.f65.ntmps [(1, .pointer (some ⟨b7196, 0, none⟩)), (3, .slice p7314 s7304.1.length c7315), (4, .int .i64 s7304.2)] a) hw7312 (fun a ha => ⟨p7200, c7201, sg7202, ho7204, M7205.pick [0, 1] (by kernel_rfl), ha.sub (by kernel_rfl)⟩) ?_
    clear hm
    intro s7304 x7305 hm hout7306 a7307 w7308 ⟨p7314, c7315, sg7316, ho7317, M7309, hS7310⟩
    refine G_use hS7310 ?_
    refine G_seq ?_
    refine G_seq ?_
    refine G_region ?_
    refine W_run 2 [(1, .pointer (some ⟨b7196, 0, none⟩)), (3, .slice p7314 s7304.1.length c7315), (4, .int .i64 s7304.2), (6, .int .i64 s7304.2), (7, .pointer (some ⟨b7196, 2, none⟩))] w7308 (by kernel_rfl) ?_
    refine W_val (.slice p7188 x7178.Dirty.length c7189) w7308 (by kernel_rfl) (E_load (e := 28) (fr := (0, 0)) _ _ false 1 b7196 2 [.slice p7180 x7178.Memory.length c7181, .slice p7184 x7178.Copy.length c7185, .slice p7188 x7178.Dirty.length c7189] (.slice p7188 x7178.Dirty.length c7189) rfl (by kernel_rfl) (by kernel_rfl) (by kernel_rfl) (M7309.blk 0 (b := b7196) (o := .cells ⟨[.slice p7180 x7178.Memory.length c7181, .slice p7184 x7178.Copy.length c7185, .slice p7188 x7178.Dirty.length c7189]⟩ 28 (0, 0)) (by kernel_rfl))) ?_
    refine W_run 2 [(1, .pointer (some ⟨b7196, 0, none⟩)), (3, .slice p7314 s7304.1.length c7315), (4, .int .i64 s7304.2), (10, .bool (decide (s7304.2 < (x7178.Dirty.length : Int))))] w7308 (by kernel_rfl) ?_
    refine W_nil ?_
    refine N_then ?_
    rcases gx_bif hm with ⟨hc7325, hm⟩ | ⟨hc7325, hm⟩
    · refine G_cond_t (b := (decide (s7304.2 < (x7178.Dirty.length : Int)))) hc7325 (by kernel_rfl) ?_
      refine G_skip ?_
      refine N_then ?_
      refine G_seq ?_
      refine G_block ?_
      refine G_seq ?_
      refine G_region ?_
      refine W_run 1 [(1, .pointer (some ⟨b7196, 0, none⟩)), (3, .slice p7314 s7304.1.length c7315), (4, .int .i64 s7304.2), (13, .pointer (some ⟨b7196, 2, none⟩))] w7308 (by kernel_rfl) ?_
      refine W_val (.slice p7188 x7178.Dirty.length c7189) w7308 (by kernel_rfl) (E_load (e := 28) (fr := (0, 0)) _ _ false 1 b7196 2 [.slice p7180 x7178.Memory.length c7181, .slice p7184 x7178.Copy.length c7185, .slice p7188 x7178.Dirty.length c7189] (.slice p7188 x7178.Dirty.length c7189) rfl (by kernel_rfl) (by kernel_rfl) (by kernel_rfl) (M7309.blk 0 (b := b7196) (o := .cells ⟨[.slice p7180 x7178.Memory.length c7181, .slice p7184 x7178.Copy.length c7185, .slice p7188 x7178.Dirty.length c7189]⟩ 28 (0, 0)) (by kernel_rfl))) ?_
      refine W_run 1 [(1, .pointer (some ⟨b7196, 0, none⟩)), (3, .slice p7314 s7304.1.length c7315), (4, .int .i64 s7304.2), (14, .slice p7188 x7178.Dirty.length c7189), (15, .int .i64 s7304.2)] w7308 (by kernel_rfl) ?_
      obtain ⟨y7326, hy7326, hm⟩ := gx_bind hm
      refine W_val (elemP p7188 (s7304.2.toNat * 1)) w7308 (by kernel_rfl) (E_index (E := encB) _ _ _ x7178.Dirty.length c7189 .i64 s7304.2 1 (y := y7326) rfl (by kernel_rfl) (by kernel_rfl) (by kernel_rfl) (h7190.mem0 M7309) rfl hy7326) ?_
      refine W_val (.bool y7326) w7308 (by kernel_rfl) (E_loadE (E := encB) _ _ false 1 s7304.2 0 (s7304.2.toNat * 1) y7326 (.bool y7326) rfl (by kernel_rfl) (by kernel_rfl) (by kernel_rfl) (h7190.mem0 M7309) hy7326 rfl) ?_
      refine W_nil ?_
      refine N_then ?_
      obtain ⟨o7343, ho7344, hm7345⟩ := gx_bind hm
      refine G_meet (fun a w' => ∃ (p7346 : Option Addr), ∃ (c7347 : Nat), ∃ (sg7348 : Seg), ownS encI o7343 p7346 c7347 sg7348 ∧ Mem [] w w' [[(b7196, .cells ⟨[.slice p7180 x7178.Memory.length c7181, .slice p7184 x7178.Copy.length c7185, .slice p7188 x7178.Dirty.length c7189]⟩ 28 (0, 0))], sg7348] ∧ Sat Try.f65.ntmps [(1, .pointer (some ⟨b7196, 0, none⟩)), (3, .slice p7346 o7343.length c7347), (4, .int .i64 s7304.2)] a) ?_ ?_
      · have hm := ho7344
        rcases gx_bif hm with ⟨hc7351, hm⟩ | ⟨hc7351, hm⟩
        · refine G_cond_t (b := y7326) hc7351 (by kernel_rfl) ?_
          refine G_region ?_
          refine W_run 2 [(1, .pointer (some ⟨b7196, 0, none⟩)), (3, .slice p7314 s7304.1.length c7315), (4, .int .i64 s7304.2), (18, .slice p7314 s7304.1.length c7315), (19, .int .i64 s7304.2)] w7308 (by kernel_rfl) ?_
          refine W_lit (E := encI) [s7304.2] 1 [.int .i64 s7304.2] 3 M7309 (by kernel_rfl) (by kernel_rfl) (by kernel_rfl) (by kernel_rfl) (by kernel_rfl) ?_
          intro p7352 c7353 sg7354 w7355 ho7356 M7357
          obtain ⟨ap7359, hap7359, hm⟩ := gx_bind hm
          refine W_append (E := encI) _ _ _ 8 [.int .i64 0] 1 c7353 M7357 ho7317 (by kernel_rfl) (by kernel_rfl) (by kernel_rfl) rfl (by kernel_rfl) (by kernel_rfl) (by kernel_rfl) (by kernel_rfl) (by kernel_rfl) (by kernel_rfl) (ho7356.rd M7357 2 (by kernel_rfl)) hap7359 ?_
          intro p7360 c7361 sg7362 w7363 ho7364 M7365
          refine W_run 1 [(1, .pointer (some ⟨b7196, 0, none⟩)), (3, .slice p7360 ap7359.length c7361), (4, .int .i64 s7304.2)] w7363 (by kernel_rfl) ?_
          refine W_nil ?_
          obtain rfl := Option.some.inj hm
          exact N_meet fun a ha => ⟨p7360, c7361, sg7362, ho7364, M7365.pick [0, 1] (by kernel_rfl), ha.sub (by kernel_rfl)⟩
        · refine G_cond_f (b := y7326) hc7351 (by kernel_rfl) ?_
          refine G_skip ?_
          obtain rfl := Option.some.inj hm
          exact N_meet fun a ha => ⟨p7314, c7315, sg7316, ho7317, M7309.pick [0, 1] (by kernel_rfl), ha.sub (by kernel_rfl)⟩
      · intro a7369 w7367 ⟨p7346, c7347, sg7348, ho7349, M7368, hS7370⟩
        refine N_use hS7370 ?_
        have hm := hm7345
        refine N_block ?_
        refine N_then ?_
        refine G_region ?_
        refine W_run 3 [(1, .pointer (some ⟨b7196, 0, none⟩)), (3, .slice p7346 o7343.length c7347), (4, .int .i64 (w64 (s7304.2 + 1)))] w7367 (by kernel_rfl) ?_
        refine W_nil ?_
        obtain rfl := Option.some.inj hm
        exact N_loop fun a ha => ⟨_, rfl, p7346, c7347, sg7348, ho7349, M7368.pick [0, 1] (by kernel_rfl), ha.sub (by kernel_rfl)⟩
    · refine G_cond_f (b := (decide (s7304.2 < (x7178.Dirty.length : Int)))) hc7325 (by kernel_rfl) ?_
      refine G_exit ?_
      refine N_then_exit ?_
      refine N_then_exit ?_
      refine N_block_eq ?_
      obtain rfl := Option.some.inj hm
      obtain rfl := hout7306 _ rfl
      exact N_meet fun a ha => ⟨p7314, c7315, sg7316, ho7317, M7309.pick [1] (by kernel_rfl), ha.sub (by kernel_rfl)⟩
  · intro a7371 w7372 ⟨p7320, c7321, sg7322, ho7323, M7373, hS7374⟩
    refine N_use hS7374 ?_
    have hm := hmo7313
    refine N_then ?_
    refine G_seq ?_
    refine G_region ?_
    refine W_run 2 [(2, .slice p7320 out7311.length c7321)] w7372 (by kernel_rfl) ?_
    refine W_nil ?_
    refine N_then ?_
    refine G_ret ?_
    obtain rfl := Option.some.inj hm
    refine N_ret [.slice p7320 out7311.length c7321] (RVs_cons (RV_tmp (by kernel_rfl)) RVs_nil) ?_
    exact ⟨p7320, c7321, sg7322, rfl, ho7323, M7373.pick [0] (by kernel_rfl)⟩
theorem c_s_DirtyWords (w : World) (x7144 : Copying) (p7146 : Option Addr) (c7147 : Nat) (h7148 : rdS encI w x7144.Memory p7146 c7147) (p7150 : Option Addr) (c7151 : Nat) (h7152 : rdS encI w x7144.Copy p7150 c7151) (p7154 : Option Addr) (c7155 : Nat) (h7156 : rdS encB w x7144.Dirty p7154 c7155) {r : (List Int) × Bool} (hm : M.s_DirtyWords x7144 = some r) :
    Calls Try.prog 25 #[.agg #[.slice p7146 x7144.Memory.length c7147, .slice p7150 x7144.Copy.length c7151, .slice p7154 x7144.Dirty.length c7155]] w fun e w' => ∃ (p7158 : Option Addr) (c7159 : Nat) (sg7160 : Seg), e = .returned (.tuple #[.slice p7158 r.1.length c7159, .bool r.2]) ∧ ownS encI r.1 p7158 c7159 sg7160 ∧ Mem [] w w' [sg7160] := by
  unfold M.s_DirtyWords at hm
  refine C_enter Try.func25 rfl (by kernel_rfl) ?_
  have M0 := Mem.refl [] w
  refine G_seq ?_
  refine G_region ?_
  refine W_new (fun b => .pointer (some ⟨b, 0, none⟩)) (.cells ⟨[.slice p7146 x7144.Memory.length c7147, .slice p7150 x7144.Copy.length c7151, .slice p7154 x7144.Dirty.length c7155]⟩ 28 (0, 0)) M0 rfl (by kernel_rfl) (by kernel_rfl) ?_
  intro b7162 w7163 M7164
  refine W_run 2 [(1, .pointer (some ⟨b7162, 0, none⟩))] w7163 (by kernel_rfl) ?_
  refine W_nil ?_
  refine N_then ?_
  refine G_seq ?_
  refine G_seq ?_
  refine G_region ?_
  refine W_val (.agg #[.slice p7146 x7144.Memory.length c7147, .slice p7150 x7144.Copy.length c7151, .slice p7154 x7144.Dirty.length c7155]) w7163 (by kernel_rfl) (E_load (e := 28) (fr := (0, 0)) _ _ true 3 b7162 0 [.slice p7146 x7144.Memory.length c7147, .slice p7150 x7144.Copy.length c7151, .slice p7154 x7144.Dirty.length c7155] (.agg #[.slice p7146 x7144.Memory.length c7147, .slice p7150 x7144.Copy.length c7151, .slice p7154 x7144.Dirty.length c7155]) rfl (by kernel_rfl) (by kernel_rfl) (by kernel_rfl) (M7164.blk 0 (b := b7162) (o := .cells ⟨[.slice p7146 x7144.Memory.length c7147, .slice p7150 x7144.Copy.length c7151, .slice p7154 x7144.Dirty.length c7155]⟩ 28 (0, 0)) (by kernel_rfl))) ?_
  obtain ⟨r7166, hr7166, hm⟩ := gx_bind hm
  refine W_call 56 #[.agg #[.slice p7146 x7144.Memory.length c7147, .slice p7150 x7144.Copy.length c7151, .slice p7154 x7144.Dirty.length c7155]] (by kernel_rfl) (by kernel_rfl) ?_
  refine (c_s_l19Good w7163 x7144 p7146 c7147 (h7148.mem0 M7164) p7150 c7151 (h7152.mem0 M7164) p7154 c7155 (h7156.mem0 M7164) hr7166).mono ?_
  rintro e_ w7167 ⟨rfl, K7168⟩
  have M7169 := M7164.call0 K7168
  refine ⟨_, rfl, ?_⟩
  refine W_run 1 [(1, .pointer (some ⟨b7162, 0, none⟩)), (6, .bool (!r7166))] w7167 (by kernel_rfl) ?_
  refine W_nil ?_
  refine N_then ?_
  rcases gx_bif hm with ⟨hc7170, hm⟩ | ⟨hc7170, hm⟩
  · refine G_cond_t (b := (!r7166)) hc7170 (by kernel_rfl) ?_
    refine G_seq ?_
    refine G_region ?_
    refine W_lit (E := encI) ([] : List Int) 0 [] 3 M7169 (by kernel_rfl) (by kernel_rfl) (by kernel_rfl) (by kernel_rfl) (by kernel_rfl) ?_
    intro p7171 c7172 sg7173 w7174 ho7175 M7176
    refine W_run 2 [(2, .slice p7171 ([] : List Int).length c7172), (3, .bool false)] w7174 (by kernel_rfl) ?_
    refine W_nil ?_
    refine N_then ?_
    refine G_ret ?_
    refine N_then_ret ?_
    obtain rfl := Option.some.inj hm
    refine N_ret [.slice p7171 ([] : List Int).length c7172, .bool false] (RVs_cons (RV_tmp (by kernel_rfl)) (RVs_cons (RV_tmp (by kernel_rfl)) RVs_nil)) ?_
    exact ⟨p7171, c7172, sg7173, rfl, ho7175, M7176.pick [1] (by kernel_rfl)⟩
  · refine G_cond_f (b := (!r7166)) hc7170 (by kernel_rfl) ?_
    refine G_skip ?_
    refine N_then ?_
    refine G_seq ?_
    refine G_region ?_
    refine W_val (.agg #[.slice p7146 x7144.Memory.length c7147, .slice p7150 x7144.Copy.length c7151, .slice p7154 x7144.Dirty.length c7155]) w7167 (by kernel_rfl) (E_load (e := 28) (fr := (0, 0)) _ _ true 3 b7162 0 [.slice p7146 x7144.Memory.length c7147, .slice p7150 x7144.Copy.length c7151, .slice p7154 x7144.Dirty.length c7155] (.agg #[.slice p7146 x7144.Memory.length c7147, .slice p7150 x7144.Copy.length c7151, .slice p7154 x7144.Dirty.length c7155]) rfl (by kernel_rfl) (by kernel_rfl) (by kernel_rfl) (M7169.blk 0 (b := b7162) (o := .cells ⟨[.slice p7146 x7144.Memory.length c7147, .slice p7150 x7144.Copy.length c7151, .slice p7154 x7144.Dirty.length c7155]⟩ 28 (0, 0)) (by kernel_rfl))) ?_
    obtain ⟨r7375, hr7375, hm⟩ := gx_bind hm
    refine W_call 65 #[.agg #[.slice p7146 x7144.Memory.length c7147, .slice p7150 x7144.Copy.length c7151, .slice p7154 x7144.Dirty.length c7155]] (by kernel_rfl) (by kernel_rfl) ?_
    refine (c_s_l19Dirty w7167 x7144 p7146 c7147 (h7148.mem0 M7169) p7150 c7151 (h7152.mem0 M7169) p7154 c7155 (h7156.mem0 M7169) hr7375).mono ?_
    rintro e_ w7381 ⟨p7377, c7378, sg7379, rfl, ho7380, K7382⟩
    have M7383 := M7169.call K7382
    refine ⟨_, rfl, ?_⟩
    refine W_run 2 [(2, .slice p7377 r7375.length c7378), (3, .bool true)] w7381 (by kernel_rfl) ?_
    refine W_nil ?_
    refine N_then ?_
    refine G_ret ?_
    obtain rfl := Option.some.inj hm
    refine N_ret [.slice p7377 r7375.length c7378, .bool true] (RVs_cons (RV_tmp (by kernel_rfl)) (RVs_cons (RV_tmp (by kernel_rfl)) RVs_nil)) ?_
    exact ⟨p7377, c7378, sg7379, rfl, ho7380, M7383.pick [1] (by kernel_rfl)⟩
theorem c_l_FnRounds (w : World) (x1 : List Int) (p3 : Option Addr) (c4 : Nat) (h5 : rdS encU8 w x1 p3 c4) {r : Bool} (hm : M.l_FnRounds x1 = some r) :
    Calls Try.prog 12 #[.slice p3 x1.length c4] w fun e w' => e = .returned (.bool r) ∧ Mem [] w w' [] := by
  unfold M.l_FnRounds at hm
  refine C_enter Try.func12 rfl (by kernel_rfl) ?_
  have M0 := Mem.refl [] w
  refine G_seq ?_
  refine G_region ?_
  refine W_run 1 [(0, .slice p3 x1.length c4)] w (by kernel_rfl) ?_
  refine W_nil ?_
  refine N_then ?_
  refine G_seq ?_
  refine G_seq ?_
  refine G_region ?_
  refine W_run 1 [(0, .slice p3 x1.length c4), (33, .slice p3 x1.length c4)] w (by kernel_rfl) ?_
  obtain ⟨r11, hr11, hm⟩ := gx_bind hm
  refine W_call 43 #[.slice p3 x1.length c4] (by kernel_rfl) (by kernel_rfl) ?_
  refine (c_l_vBig w x1 p3 c4 (h5.mem0 M0) hr11).mono ?_
  rintro e_ w12 ⟨rfl, K13⟩
  have M14 := M0.call0 K13
  refine ⟨_, rfl, ?_⟩
  refine W_nil ?_
  refine N_then ?_
  rcases gx_bif hm with ⟨hc15, hm⟩ | ⟨hc15, hm⟩
  · refine G_cond_t (b := r11) hc15 (by kernel_rfl) ?_
    refine G_seq ?_
    refine G_region ?_
    refine W_run 1 [(2, .bool true)] w12 (by kernel_rfl) ?_
    refine W_nil ?_
    refine N_then ?_
    refine G_ret ?_
    refine N_then_ret ?_
    obtain rfl := Option.some.inj hm
    refine N_ret [.bool true] (RVs_cons (RV_tmp (by kernel_rfl)) RVs_nil) ?_
    exact ⟨rfl, M14.pick [] (by kernel_rfl)⟩
  · refine G_cond_f (b := r11) hc15 (by kernel_rfl) ?_
    refine G_skip ?_
    refine N_then ?_
    refine G_seq ?_
    refine G_region ?_
    refine W_run 1 [(0, .slice p3 x1.length c4), (36, .slice p3 x1.length c4)] w12 (by kernel_rfl) ?_
    obtain ⟨r3985, hr3985, hm⟩ := gx_bind hm
    refine W_call 49 #[.slice p3 x1.length c4] (by kernel_rfl) (by kernel_rfl) ?_
    refine (c_s_DrawCopyRound w12 x1 p3 c4 (h5.mem0 M14) hr3985).mono ?_
    rintro e_ w4001 ⟨p3987, c3988, sg3989, p3992, c3993, sg3994, p3997, c3998, sg3999, rfl, ho3990, ho3995, ho4000, K4002⟩
    have M4003 := M14.call K4002
    refine ⟨_, rfl, ?_⟩
    refine W_run 3 [(0, .slice p3 x1.length c4), (38, .agg #[.slice p3987 r3985.1.Memory.length c3988, .slice p3992 r3985.1.Copy.length c3993, .slice p3997 r3985.1.Dirty.length c3998]), (39, .int .i64 r3985.2)] w4001 (by kernel_rfl) ?_
    refine W_new (fun b => .pointer (some ⟨b, 0, none⟩)) (.cells ⟨[.slice none 0 0, .slice none 0 0, .slice none 0 0]⟩ 28 (0, 0)) M4003 rfl (by kernel_rfl) (by kernel_rfl) ?_
    intro b4008 w4009 M4010
    refine W_store _ _ _ true 3 b4008 0 [.slice none 0 0, .slice none 0 0, .slice none 0 0] 28 (.agg #[.slice p3987 r3985.1.Memory.length c3988, .slice p3992 r3985.1.Copy.length c3993, .slice p3997 r3985.1.Dirty.length c3998]) 3 [.slice p3987 r3985.1.Memory.length c3988, .slice p3992 r3985.1.Copy.length c3993, .slice p3997 r3985.1.Dirty.length c3998] M4010 (by kernel_rfl) rfl (by kernel_rfl) (by kernel_rfl) (by kernel_rfl) (by kernel_rfl) (by kernel_rfl) (by kernel_rfl) (by kernel_rfl) (by kernel_rfl) ?_
    intro w4011 M4012
    refine W_run 1 [(0, .slice p3 x1.length c4), (3, .pointer (some ⟨b4008, 0, none⟩)), (4, .int .i64 r3985.2)] w4011 (by kernel_rfl) ?_
    refine W_nil ?_
    refine N_then ?_
    refine G_seq ?_
    refine G_region ?_
    refine W_val (.agg #[.slice p3987 r3985.1.Memory.length c3988, .slice p3992 r3985.1.Copy.length c3993, .slice p3997 r3985.1.Dirty.length c3998]) w4011 (by kernel_rfl) (E_load (e := 28) (fr := (0, 0)) _ _ true 3 b4008 0 [.slice p3987 r3985.1.Memory.length c3988, .slice p3992 r3985.1.Copy.length c3993, .slice p3997 r3985.1.Dirty.length c3998] (.agg #[.slice p3987 r3985.1.Memory.length c3988, .slice p3992 r3985.1.Copy.length c3993, .slice p3997 r3985.1.Dirty.length c3998]) rfl (by kernel_rfl) (by kernel_rfl) (by kernel_rfl) (M4012.blk 3 (b := b4008) (o := .cells ⟨[.slice p3987 r3985.1.Memory.length c3988, .slice p3992 r3985.1.Copy.length c3993, .slice p3997 r3985.1.Dirty.length c3998]⟩ 28 (0, 0)) (by kernel_rfl))) ?_
    refine W_run 1 [(0, .slice p3 x1.length c4), (3, .pointer (some ⟨b4008, 0, none⟩)), (4, .int .i64 r3985.2), (41, .agg #[.slice p3987 r3985.1.Memory.length c3988, .slice p3992 r3985.1.Copy.length c3993, .slice p3997 r3985.1.Dirty.length c3998]), (42, .int .i64 r3985.2)] w4011 (by kernel_rfl) ?_
    obtain ⟨r5167, hr5167, hm⟩ := gx_bind hm
    refine W_call 34 #[.agg #[.slice p3987 r3985.1.Memory.length c3988, .slice p3992 r3985.1.Copy.length c3993, .slice p3997 r3985.1.Dirty.length c3998], .int .i64 r3985.2] (by kernel_rfl) (by kernel_rfl) ?_
    refine (c_i_CopyRound w4011 r3985.1 p3987 c3988 (ho3990.rd M4012 0 (by kernel_rfl)) p3992 c3993 (ho3995.rd M4012 1 (by kernel_rfl)) p3997 c3998 (ho4000.rd M4012 2 (by kernel_rfl)) r3985.2 hr5167).mono ?_
    rintro e_ w5183 ⟨p5169, c5170, sg5171, p5174, c5175, sg5176, p5179, c5180, sg5181, rfl, ho5172, ho5177, ho5182, K5184⟩
    have M5185 := M4012.call K5184
    refine ⟨_, rfl, ?_⟩
    refine W_run 4 [(0, .slice p3 x1.length c4), (3, .pointer (some ⟨b4008, 0, none⟩)), (4, .int .i64 r3985.2), (44, .agg #[.slice p5169 r5167.1.Memory.length c5170, .slice p5174 r5167.1.Copy.length c5175, .slice p5179 r5167.1.Dirty.length c5180]), (45, .int .i64 r5167.2.1), (46, .bool r5167.2.2)] w5183 (by kernel_rfl) ?_
    refine W_new (fun b => .pointer (some ⟨b, 0, none⟩)) (.cells ⟨[.slice none 0 0, .slice none 0 0, .slice none 0 0]⟩ 28 (0, 0)) M5185 rfl (by kernel_rfl) (by kernel_rfl) ?_
    intro b5190 w5191 M5192
    refine W_store _ _ _ true 3 b5190 0 [.slice none 0 0, .slice none 0 0, .slice none 0 0] 28 (.agg #[.slice p5169 r5167.1.Memory.length c5170, .slice p5174 r5167.1.Copy.length c5175, .slice p5179 r5167.1.Dirty.length c5180]) 7 [.slice p5169 r5167.1.Memory.length c5170, .slice p5174 r5167.1.Copy.length c5175, .slice p5179 r5167.1.Dirty.length c5180] M5192 (by kernel_rfl) rfl (by kernel_rfl) (by kernel_rfl) (by kernel_rfl) (by kernel_rfl) (by kernel_rfl) (by kernel_rfl) (by kernel_rfl) (by kernel_rfl) ?_
    intro w5193 M5194
    refine W_run 2 [(0, .slice p3 x1.length c4), (3, .pointer (some ⟨b4008, 0, none⟩)), (4, .int .i64 r3985.2), (5, .pointer (some ⟨b5190, 0, none⟩)), (6, .int .i64 r5167.2.1), (7, .bool r5167.2.2)] w5193 (by kernel_rfl) ?_
    refine W_nil ?_
    refine N_then ?_
    refine G_seq ?_
    refine G_seq ?_
    refine G_region ?_
    refine W_val (.agg #[.slice p3987 r3985.1.Memory.length c3988, .slice p3992 r3985.1.Copy.length c3993, .slice p3997 r3985.1.Dirty.length c3998]) w5193 (by kernel_rfl) (E_load (e := 28) (fr := (0, 0)) _ _ true 3 b4008 0 [.slice p3987 r3985.1.Memory.length c3988, .slice p3992 r3985.1.Copy.length c3993, .slice p3997 r3985.1.Dirty.length c3998] (.agg #[.slice p3987 r3985.1.Memory.length c3988, .slice p3992 r3985.1.Copy.length c3993, .slice p3997 r3985.1.Dirty.length c3998]) rfl (by kernel_rfl) (by kernel_rfl) (by kernel_rfl) (M5194.blk 3 (b := b4008) (o := .cells ⟨[.slice p3987 r3985.1.Memory.length c3988, .slice p3992 r3985.1.Copy.length c3993, .slice p3997 r3985.1.Dirty.length c3998]⟩ 28 (0, 0)) (by kernel_rfl))) ?_
    refine W_run 1 [(0, .slice p3 x1.length c4), (3, .pointer (some ⟨b4008, 0, none⟩)), (4, .int .i64 r3985.2), (5, .pointer (some ⟨b5190, 0, none⟩)), (6, .int .i64 r5167.2.1), (7, .bool r5167.2.2), (48, .agg #[.slice p3987 r3985.1.Memory.length c3988, .slice p3992 r3985.1.Copy.length c3993, .slice p3997 r3985.1.Dirty.length c3998]), (49, .int .i64 r3985.2)] w5193 (by kernel_rfl) ?_
    obtain ⟨r5430, hr5430, hm⟩ := gx_bind hm
    refine W_call 33 #[.agg #[.slice p3987 r3985.1.Memory.length c3988, .slice p3992 r3985.1.Copy.length c3993, .slice p3997 r3985.1.Dirty.length c3998], .int .i64 r3985.2] (by kernel_rfl) (by kernel_rfl) ?_
    refine (c_s_CopyRound w5193 r3985.1 p3987 c3988 (ho3990.rd M5194 0 (by kernel_rfl)) p3992 c3993 (ho3995.rd M5194 1 (by kernel_rfl)) p3997 c3998 (ho4000.rd M5194 2 (by kernel_rfl)) r3985.2 hr5430).mono ?_
    rintro e_ w5446 ⟨p5432, c5433, sg5434, p5437, c5438, sg5439, p5442, c5443, sg5444, rfl, ho5435, ho5440, ho5445, K5447⟩
    have M5448 := M5194.call K5447
    refine ⟨_, rfl, ?_⟩
    refine W_run 4 [(0, .slice p3 x1.length c4), (3, .pointer (some ⟨b4008, 0, none⟩)), (4, .int .i64 r3985.2), (5, .pointer (some ⟨b5190, 0, none⟩)), (6, .int .i64 r5167.2.1), (7, .bool r5167.2.2), (51, .agg #[.slice p5432 r5430.1.Memory.length c5433, .slice p5437 r5430.1.Copy.length c5438, .slice p5442 r5430.1.Dirty.length c5443]), (52, .int .i64 r5430.2.1), (53, .bool r5430.2.2)] w5446 (by kernel_rfl) ?_
    refine W_new (fun b => .pointer (some ⟨b, 0, none⟩)) (.cells ⟨[.slice none 0 0, .slice none 0 0, .slice none 0 0]⟩ 28 (0, 0)) M5448 rfl (by kernel_rfl) (by kernel_rfl) ?_
    intro b5453 w5454 M5455
    refine W_store _ _ _ true 3 b5453 0 [.slice none 0 0, .slice none 0 0, .slice none 0 0] 28 (.agg #[.slice p5432 r5430.1.Memory.length c5433, .slice p5437 r5430.1.Copy.length c5438, .slice p5442 r5430.1.Dirty.length c5443]) 11 [.slice p5432 r5430.1.Memory.length c5433, .slice p5437 r5430.1.Copy.length c5438, .slice p5442 r5430.1.Dirty.length c5443] M5455 (by kernel_rfl) rfl (by kernel_rfl) (by kernel_rfl) (by kernel_rfl) (by kernel_rfl) (by kernel_rfl) (by kernel_rfl) (by kernel_rfl) (by kernel_rfl) ?_
    intro w5456 M5457
    refine W_run 2 [(0, .slice p3 x1.length c4), (3, .pointer (some ⟨b4008, 0, none⟩)), (4, .int .i64 r3985.2), (5, .pointer (some ⟨b5190, 0, none⟩)), (6, .int .i64 r5167.2.1), (7, .bool r5167.2.2), (8, .pointer (some ⟨b5453, 0, none⟩)), (9, .int .i64 r5430.2.1), (10, .bool r5430.2.2)] w5456 (by kernel_rfl) ?_
    refine W_nil ?_
    refine N_then ?_
    refine G_seq ?_
    obtain ⟨o5621, ho5622, hm5623⟩ := gx_bind hm
    refine G_meet (fun a w' => Mem [] w w' [sg3989, sg3994, sg3999, [(b4008, .cells ⟨[.slice p3987 r3985.1.Memory.length c3988, .slice p3992 r3985.1.Copy.length c3993, .slice p3997 r3985.1.Dirty.length c3998]⟩ 28 (0, 0))], sg5171, sg5176, sg5181, [(b5190, .cells ⟨[.slice p5169 r5167.1.Memory.length c5170, .slice p5174 r5167.1.Copy.length c5175, .slice p5179 r5167.1.Dirty.length c5180]⟩ 28 (0, 0))]] ∧ Sat Try.f12.ntmps [(0, .slice p3 x1.length c4), (3, .pointer (some ⟨b4008, 0, none⟩)), (4, .int .i64 r3985.2), (5, .pointer (some ⟨b5190, 0, none⟩)), (6, .int .i64 r5167.2.1), (7, .bool r5167.2.2), (67, .bool o5621)] a) ?_ ?_
    · have hm := ho5622
      refine G_region ?_
      refine W_run 4 [(0, .slice p3 x1.length c4), (3, .pointer (some ⟨b4008, 0, none⟩)), (4, .int .i64 r3985.2), (5, .pointer (some ⟨b5190, 0, none⟩)), (6, .int .i64 r5167.2.1), (7, .bool r5167.2.2), (8, .pointer (some ⟨b5453, 0, none⟩)), (9, .int .i64 r5430.2.1), (57, .bool (!(r5167.2.2 == r5430.2.2)))] w5456 (by kernel_rfl) ?_
      rcases gx_bif hm with ⟨hc5624, hm⟩ | ⟨hc5624, hm⟩
      · refine W_known 57 true (by kernel_rfl) hc5624 ?_
        refine W_run 10 [(0, .slice p3 x1.length c4), (3, .pointer (some ⟨b4008, 0, none⟩)), (4, .int .i64 r3985.2), (5, .pointer (some ⟨b5190, 0, none⟩)), (6, .int .i64 r5167.2.1), (7, .bool r5167.2.2), (67, .bool true)] w5456 (by kernel_rfl) ?_
        refine W_nil ?_
        obtain rfl := Option.some.inj hm
        exact N_meet fun a ha => ⟨M5457.pick [0, 1, 2, 3, 4, 5, 6, 7] (by kernel_rfl), ha.sub (by kernel_rfl)⟩
      · refine W_known 57 false (by kernel_rfl) hc5624 ?_
        refine W_run 5 [(0, .slice p3 x1.length c4), (3, .pointer (some ⟨b4008, 0, none⟩)), (4, .int .i64 r3985.2), (5, .pointer (some ⟨b5190, 0, none⟩)), (6, .int .i64 r5167.2.1), (7, .bool r5167.2.2), (8, .pointer (some ⟨b5453, 0, none⟩)), (62, .bool (r5167.2.1 != r5430.2.1))] w5456 (by kernel_rfl) ?_
        rcases gx_bif hm with ⟨hc5625, hm⟩ | ⟨hc5625, hm⟩
        · refine W_known 62 true (by kernel_rfl) hc5625 ?_
          refine W_run 5 [(0, .slice p3 x1.length c4), (3, .pointer (some ⟨b4008, 0, none⟩)), (4, .int .i64 r3985.2), (5, .pointer (some ⟨b5190, 0, none⟩)), (6, .int .i64 r5167.2.1), (7, .bool r5167.2.2), (67, .bool true)] w5456 (by kernel_rfl) ?_
          refine W_nil ?_
          obtain rfl := Option.some.inj hm
          exact N_meet fun a ha => ⟨M5457.pick [0, 1, 2, 3, 4, 5, 6, 7] (by kernel_rfl), ha.sub (by kernel_rfl)⟩
        · refine W_known 62 false (by kernel_rfl) hc5625 ?_
          refine W_val (.agg #[.slice p5169 r5167.1.Memory.length c5170, .slice p5174 r5167.1.Copy.length c5175, .slice p5179 r5167.1.Dirty.length c5180]) w5456 (by kernel_rfl) (E_load (e := 28) (fr := (0, 0)) _ _ true 3 b5190 0 [.slice p5169 r5167.1.Memory.length c5170, .slice p5174 r5167.1.Copy.length c5175, .slice p5179 r5167.1.Dirty.length c5180] (.agg #[.slice p5169 r5167.1.Memory.length c5170, .slice p5174 r5167.1.Copy.length c5175, .slice p5179 r5167.1.Dirty.length c5180]) rfl (by kernel_rfl) (by kernel_rfl) (by kernel_rfl) (M5457.blk 7 (b := b5190) (o := .cells ⟨[.slice p5169 r5167.1.Memory.length c5170, .slice p5174 r5167.1.Copy.length c5175, .slice p5179 r5167.1.Dirty.length c5180]⟩ 28 (0, 0)) (by kernel_rfl))) ?_
          refine W_val (.agg #[.slice p5432 r5430.1.Memory.length c5433, .slice p5437 r5430.1.Copy.length c5438, .slice p5442 r5430.1.Dirty.length c5443]) w5456 (by kernel_rfl) (E_load (e := 28) (fr := (0, 0)) _ _ true 3 b5453 0 [.slice p5432 r5430.1.Memory.length c5433, .slice p5437 r5430.1.Copy.length c5438, .slice p5442 r5430.1.Dirty.length c5443] (.agg #[.slice p5432 r5430.1.Memory.length c5433, .slice p5437 r5430.1.Copy.length c5438, .slice p5442 r5430.1.Dirty.length c5443]) rfl (by kernel_rfl) (by kernel_rfl) (by kernel_rfl) (M5457.blk 11 (b := b5453) (o := .cells ⟨[.slice p5432 r5430.1.Memory.length c5433, .slice p5437 r5430.1.Copy.length c5438, .slice p5442 r5430.1.Dirty.length c5443]⟩ 28 (0, 0)) (by kernel_rfl))) ?_
          obtain ⟨r5626, hr5626, hm⟩ := gx_bind hm
          refine W_call 45 #[.agg #[.slice p5169 r5167.1.Memory.length c5170, .slice p5174 r5167.1.Copy.length c5175, .slice p5179 r5167.1.Dirty.length c5180], .agg #[.slice p5432 r5430.1.Memory.length c5433, .slice p5437 r5430.1.Copy.length c5438, .slice p5442 r5430.1.Dirty.length c5443]] (by kernel_rfl) (by kernel_rfl) ?_
          refine (c_l_vCopying w5456 r5167.1 p5169 c5170 (ho5172.rd M5457 4 (by kernel_rfl)) p5174 c5175 (ho5177.rd M5457 5 (by kernel_rfl)) p5179 c5180 (ho5182.rd M5457 6 (by kernel_rfl)) r5430.1 p5432 c5433 (ho5435.rd M5457 8 (by kernel_rfl)) p5437 c5438 (ho5440.rd M5457 9 (by kernel_rfl)) p5442 c5443 (ho5445.rd M5457 10 (by kernel_rfl)) hr5626).mono ?_
          rintro e_ w5627 ⟨rfl, K5628⟩
          have M5629 := M5457.call0 K5628
          refine ⟨_, rfl, ?_⟩
          refine W_run 2 [(0, .slice p3 x1.length c4), (3, .pointer (some ⟨b4008, 0, none⟩)), (4, .int .i64 r3985.2), (5, .pointer (some ⟨b5190, 0, none⟩)), (6, .int .i64 r5167.2.1), (7, .bool r5167.2.2), (67, .bool (!r5626))] w5627 (by kernel_rfl) ?_
          refine W_nil ?_
          obtain rfl := Option.some.inj hm
          exact N_meet fun a ha => ⟨M5629.pick [0, 1, 2, 3, 4, 5, 6, 7] (by kernel_rfl), ha.sub (by kernel_rfl)⟩
    · intro a5632 w5630 ⟨M5631, hS5633⟩
      refine N_use hS5633 ?_
      have hm := hm5623
      refine N_then ?_
      rcases gx_bif hm with ⟨hc5634, hm⟩ | ⟨hc5634, hm⟩
      · refine G_cond_t (b := o5621) hc5634 (by kernel_rfl) ?_
        refine G_seq ?_
        refine G_region ?_
        refine W_run 1 [(2, .bool false)] w5630 (by kernel_rfl) ?_
        refine W_nil ?_
        refine N_then ?_
        refine G_ret ?_
        refine N_then_ret ?_
        obtain rfl := Option.some.inj hm
        refine N_ret [.bool false] (RVs_cons (RV_tmp (by kernel_rfl)) RVs_nil) ?_
        exact ⟨rfl, M5631.pick [] (by kernel_rfl)⟩
      · refine G_cond_f (b := o5621) hc5634 (by kernel_rfl) ?_
        refine G_skip ?_
        refine N_then ?_
        refine G_seq ?_
        refine G_seq ?_
        refine G_region ?_
        refine W_run 1 [(0, .slice p3 x1.length c4), (3, .pointer (some ⟨b4008, 0, none⟩)), (4, .int .i64 r3985.2), (5, .pointer (some ⟨b5190, 0, none⟩)), (6, .int .i64 r5167.2.1), (68, .bool r5167.2.2)] w5630 (by kernel_rfl) ?_
        refine W_nil ?_
        refine N_then ?_
        obtain ⟨out5927, ho5925, hm5926⟩ := gx_bind hm
        refine G_meet (fun a w' => ∃ (o5924 : Unit), out5927 = .inl o5924 ∧ Mem [] w w' [] ∧ Sat Try.f12.ntmps [(0, .slice p3 x1.length c4)] a) ?_ ?_
        · have hm := ho5925
          rcases gx_bif hm with ⟨hc5928, hm⟩ | ⟨hc5928, hm⟩
          · refine G_cond_t (b := r5167.2.2) hc5928 (by kernel_rfl) ?_
            refine G_seq ?_
            refine G_region ?_
            refine W_val (.agg #[.slice p3987 r3985.1.Memory.length c3988, .slice p3992 r3985.1.Copy.length c3993, .slice p3997 r3985.1.Dirty.length c3998]) w5630 (by kernel_rfl) (E_load (e := 28) (fr := (0, 0)) _ _ true 3 b4008 0 [.slice p3987 r3985.1.Memory.length c3988, .slice p3992 r3985.1.Copy.length c3993, .slice p3997 r3985.1.Dirty.length c3998] (.agg #[.slice p3987 r3985.1.Memory.length c3988, .slice p3992 r3985.1.Copy.length c3993, .slice p3997 r3985.1.Dirty.length c3998]) rfl (by kernel_rfl) (by kernel_rfl) (by kernel_rfl) (M5631.blk 3 (b := b4008) (o := .cells ⟨[.slice p3987 r3985.1.Memory.length c3988, .slice p3992 r3985.1.Copy.length c3993, .slice p3997 r3985.1.Dirty.length c3998]⟩ 28 (0, 0)) (by kernel_rfl))) ?_
            obtain ⟨r5929, hr5929, hm⟩ := gx_bind hm
            refine W_call 26 #[.agg #[.slice p3987 r3985.1.Memory.length c3988, .slice p3992 r3985.1.Copy.length c3993, .slice p3997 r3985.1.Dirty.length c3998]] (by kernel_rfl) (by kernel_rfl) ?_
            refine (c_i_DirtyWords w5630 r3985.1 p3987 c3988 (ho3990.rd M5631 0 (by kernel_rfl)) p3992 c3993 (ho3995.rd M5631 1 (by kernel_rfl)) p3997 c3998 (ho4000.rd M5631 2 (by kernel_rfl)) hr5929).mono ?_
            rintro e_ w5935 ⟨p5931, c5932, sg5933, rfl, ho5934, K5936⟩
            have M5937 := M5631.call K5936
            refine ⟨_, rfl, ?_⟩
            refine W_run 5 [(0, .slice p3 x1.length c4), (3, .pointer (some ⟨b4008, 0, none⟩)), (4, .int .i64 r3985.2), (5, .pointer (some ⟨b5190, 0, none⟩)), (6, .int .i64 r5167.2.1), (11, .slice p5931 r5929.1.length c5932), (12, .bool r5929.2)] w5935 (by kernel_rfl) ?_
            refine W_nil ?_
            refine N_then ?_
            refine G_seq ?_
            refine G_region ?_
            refine W_val (.agg #[.slice p5169 r5167.1.Memory.length c5170, .slice p5174 r5167.1.Copy.length c5175, .slice p5179 r5167.1.Dirty.length c5180]) w5935 (by kernel_rfl) (E_load (e := 28) (fr := (0, 0)) _ _ true 3 b5190 0 [.slice p5169 r5167.1.Memory.length c5170, .slice p5174 r5167.1.Copy.length c5175, .slice p5179 r5167.1.Dirty.length c5180] (.agg #[.slice p5169 r5167.1.Memory.length c5170, .slice p5174 r5167.1.Copy.length c5175, .slice p5179 r5167.1.Dirty.length c5180]) rfl (by kernel_rfl) (by kernel_rfl) (by kernel_rfl) (M5937.blk 7 (b := b5190) (o := .cells ⟨[.slice p5169 r5167.1.Memory.length c5170, .slice p5174 r5167.1.Copy.length c5175, .slice p5179 r5167.1.Dirty.length c5180]⟩ 28 (0, 0)) (by kernel_rfl))) ?_
            obtain ⟨r5938, hr5938, hm⟩ := gx_bind hm
            refine W_call 26 #[.agg #[.slice p5169 r5167.1.Memory.length c5170, .slice p5174 r5167.1.Copy.length c5175, .slice p5179 r5167.1.Dirty.length c5180]] (by kernel_rfl) (by kernel_rfl) ?_
            refine (c_i_DirtyWords w5935 r5167.1 p5169 c5170 (ho5172.rd M5937 4 (by kernel_rfl)) p5174 c5175 (ho5177.rd M5937 5 (by kernel_rfl)) p5179 c5180 (ho5182.rd M5937 6 (by kernel_rfl)) hr5938).mono ?_
            rintro e_ w5944 ⟨p5940, c5941, sg5942, rfl, ho5943, K5945⟩
            have M5946 := M5937.call K5945
            refine ⟨_, rfl, ?_⟩
            refine W_run 5 [(0, .slice p3 x1.length c4), (3, .pointer (some ⟨b4008, 0, none⟩)), (4, .int .i64 r3985.2), (5, .pointer (some ⟨b5190, 0, none⟩)), (6, .int .i64 r5167.2.1), (11, .slice p5931 r5929.1.length c5932), (12, .bool r5929.2), (13, .slice p5940 r5938.1.length c5941), (14, .bool r5938.2)] w5944 (by kernel_rfl) ?_
            refine W_nil ?_
            refine N_then ?_
            refine G_seq ?_
            obtain ⟨o5961, ho5962, hm5963⟩ := gx_bind hm
            refine G_meet (fun a w' => Mem [] w w' [] ∧ Sat Try.f12.ntmps [(0, .slice p3 x1.length c4), (116, .bool o5961)] a) ?_ ?_
            · have hm := ho5962
              refine G_region ?_
              refine W_run 3 [(0, .slice p3 x1.length c4), (3, .pointer (some ⟨b4008, 0, none⟩)), (4, .int .i64 r3985.2), (5, .pointer (some ⟨b5190, 0, none⟩)), (6, .int .i64 r5167.2.1), (11, .slice p5931 r5929.1.length c5932), (13, .slice p5940 r5938.1.length c5941), (14, .bool r5938.2), (81, .bool (!r5929.2))] w5944 (by kernel_rfl) ?_
              rcases gx_bif hm with ⟨hc5964, hm⟩ | ⟨hc5964, hm⟩
              · refine W_known 81 true (by kernel_rfl) hc5964 ?_
                refine W_run 35 [(0, .slice p3 x1.length c4), (116, .bool true)] w5944 (by kernel_rfl) ?_
                refine W_nil ?_
                obtain rfl := Option.some.inj hm
                exact N_meet fun a ha => ⟨M5946.pick [] (by kernel_rfl), ha.sub (by kernel_rfl)⟩
              · refine W_known 81 false (by kernel_rfl) hc5964 ?_
                refine W_run 4 [(0, .slice p3 x1.length c4), (3, .pointer (some ⟨b4008, 0, none⟩)), (4, .int .i64 r3985.2), (5, .pointer (some ⟨b5190, 0, none⟩)), (6, .int .i64 r5167.2.1), (11, .slice p5931 r5929.1.length c5932), (13, .slice p5940 r5938.1.length c5941), (85, .bool (!r5938.2))] w5944 (by kernel_rfl) ?_
                rcases gx_bif hm with ⟨hc5965, hm⟩ | ⟨hc5965, hm⟩
                · refine W_known 85 true (by kernel_rfl) hc5965 ?_
                  refine W_run 31 [(0, .slice p3 x1.length c4), (116, .bool true)] w5944 (by kernel_rfl) ?_
                  refine W_nil ?_
                  obtain rfl := Option.some.inj hm
                  exact N_meet fun a ha => ⟨M5946.pick [] (by kernel_rfl), ha.sub (by kernel_rfl)⟩
                · refine W_known 85 false (by kernel_rfl) hc5965 ?_
                  refine W_run 9 [(0, .slice p3 x1.length c4), (3, .pointer (some ⟨b4008, 0, none⟩)), (4, .int .i64 r3985.2), (5, .pointer (some ⟨b5190, 0, none⟩)), (6, .int .i64 r5167.2.1), (13, .slice p5940 r5938.1.length c5941), (94, .bool ((r5938.1.length : Int) != (w64 ((r5929.1.length : Int) - r5167.2.1))))] w5944 (by kernel_rfl) ?_
                  rcases gx_bif hm with ⟨hc5966, hm⟩ | ⟨hc5966, hm⟩
                  · refine W_known 94 true (by kernel_rfl) hc5966 ?_
                    refine W_run 22 [(0, .slice p3 x1.length c4), (116, .bool true)] w5944 (by kernel_rfl) ?_
                    refine W_nil ?_
                    obtain rfl := Option.some.inj hm
                    exact N_meet fun a ha => ⟨M5946.pick [] (by kernel_rfl), ha.sub (by kernel_rfl)⟩
                  · refine W_known 94 false (by kernel_rfl) hc5966 ?_
                    refine W_run 5 [(0, .slice p3 x1.length c4), (3, .pointer (some ⟨b4008, 0, none⟩)), (4, .int .i64 r3985.2), (5, .pointer (some ⟨b5190, 0, none⟩)), (6, .int .i64 r5167.2.1), (13, .slice p5940 r5938.1.length c5941), (99, .bool (decide (r5167.2.1 > r3985.2)))] w5944 (by kernel_rfl) ?_
                    rcases gx_bif hm with ⟨hc5967, hm⟩ | ⟨hc5967, hm⟩
                    · refine W_known 99 true (by kernel_rfl) hc5967 ?_
                      refine W_run 17 [(0, .slice p3 x1.length c4), (116, .bool true)] w5944 (by kernel_rfl) ?_
                      refine W_nil ?_
                      obtain rfl := Option.some.inj hm
                      exact N_meet fun a ha => ⟨M5946.pick [] (by kernel_rfl), ha.sub (by kernel_rfl)⟩
                    · refine W_known 99 false (by kernel_rfl) hc5967 ?_
                      refine W_run 4 [(0, .slice p3 x1.length c4), (3, .pointer (some ⟨b4008, 0, none⟩)), (5, .pointer (some ⟨b5190, 0, none⟩)), (13, .slice p5940 r5938.1.length c5941), (99, .bool false), (103, .bool (decide (r5167.2.1 < r3985.2)))] w5944 (by kernel_rfl) ?_
                      rcases gx_bif hm with ⟨hc5968, hm⟩ | ⟨hc5968, hm⟩
                      · refine W_known 103 true (by kernel_rfl) hc5968 ?_
                        refine W_run 6 [(0, .slice p3 x1.length c4), (3, .pointer (some ⟨b4008, 0, none⟩)), (5, .pointer (some ⟨b5190, 0, none⟩)), (109, .bool ((r5938.1.length : Int) != 0))] w5944 (by kernel_rfl) ?_
                        rcases gx_bif hm with ⟨hc5969, hm⟩ | ⟨hc5969, hm⟩
                        · refine W_known 109 true (by kernel_rfl) hc5969 ?_
                          refine W_run 7 [(0, .slice p3 x1.length c4), (116, .bool true)] w5944 (by kernel_rfl) ?_
                          refine W_nil ?_
                          obtain rfl := Option.some.inj hm
                          exact N_meet fun a ha => ⟨M5946.pick [] (by kernel_rfl), ha.sub (by kernel_rfl)⟩
                        · refine W_known 109 false (by kernel_rfl) hc5969 ?_
                          refine W_run 1 [(0, .slice p3 x1.length c4), (3, .pointer (some ⟨b4008, 0, none⟩)), (109, .bool false), (110, .pointer (some ⟨b5190, 0, none⟩))] w5944 (by kernel_rfl) ?_
                          refine W_val (.slice p5169 r5167.1.Memory.length c5170) w5944 (by kernel_rfl) (E_load (e := 28) (fr := (0, 0)) _ _ false 1 b5190 0 [.slice p5169 r5167.1.Memory.length c5170, .slice p5174 r5167.1.Copy.length c5175, .slice p5179 r5167.1.Dirty.length c5180] (.slice p5169 r5167.1.Memory.length c5170) rfl (by kernel_rfl) (by kernel_rfl) (by kernel_rfl) (M5946.blk 7 (b := b5190) (o := .cells ⟨[.slice p5169 r5167.1.Memory.length c5170, .slice p5174 r5167.1.Copy.length c5175, .slice p5179 r5167.1.Dirty.length c5180]⟩ 28 (0, 0)) (by kernel_rfl))) ?_
                          refine W_run 1 [(0, .slice p3 x1.length c4), (109, .bool false), (111, .slice p5169 r5167.1.Memory.length c5170), (112, .pointer (some ⟨b4008, 0, none⟩))] w5944 (by kernel_rfl) ?_
                          refine W_val (.slice p3987 r3985.1.Memory.length c3988) w5944 (by kernel_rfl) (E_load (e := 28) (fr := (0, 0)) _ _ false 1 b4008 0 [.slice p3987 r3985.1.Memory.length c3988, .slice p3992 r3985.1.Copy.length c3993, .slice p3997 r3985.1.Dirty.length c3998] (.slice p3987 r3985.1.Memory.length c3988) rfl (by kernel_rfl) (by kernel_rfl) (by kernel_rfl) (M5946.blk 3 (b := b4008) (o := .cells ⟨[.slice p3987 r3985.1.Memory.length c3988, .slice p3992 r3985.1.Copy.length c3993, .slice p3997 r3985.1.Dirty.length c3998]⟩ 28 (0, 0)) (by kernel_rfl))) ?_
                          obtain ⟨r5970, hr5970, hm⟩ := gx_bind hm
                          refine W_call 46 #[.slice p5169 r5167.1.Memory.length c5170, .slice p3987 r3985.1.Memory.length c3988] (by kernel_rfl) (by kernel_rfl) ?_
                          refine (c_l_vInts w5944 r5167.1.Memory p5169 c5170 (ho5172.rd M5946 4 (by kernel_rfl)) r3985.1.Memory p3987 c3988 (ho3990.rd M5946 0 (by kernel_rfl)) hr5970).mono ?_
                          rintro e_ w5971 ⟨rfl, K5972⟩
                          have M5973 := M5946.call0 K5972
                          refine ⟨_, rfl, ?_⟩
                          refine W_run 2 [(0, .slice p3 x1.length c4), (116, .bool (!r5970))] w5971 (by kernel_rfl) ?_
                          refine W_nil ?_
                          obtain rfl := Option.some.inj hm
                          exact N_meet fun a ha => ⟨M5973.pick [] (by kernel_rfl), ha.sub (by kernel_rfl)⟩
                      · refine W_known 103 false (by kernel_rfl) hc5968 ?_
                        refine W_run 7 [(0, .slice p3 x1.length c4), (3, .pointer (some ⟨b4008, 0, none⟩)), (109, .bool false), (110, .pointer (some ⟨b5190, 0, none⟩))] w5944 (by kernel_rfl) ?_
                        refine W_val (.slice p5169 r5167.1.Memory.length c5170) w5944 (by kernel_rfl) (E_load (e := 28) (fr := (0, 0)) _ _ false 1 b5190 0 [.slice p5169 r5167.1.Memory.length c5170, .slice p5174 r5167.1.Copy.length c5175, .slice p5179 r5167.1.Dirty.length c5180] (.slice p5169 r5167.1.Memory.length c5170) rfl (by kernel_rfl) (by kernel_rfl) (by kernel_rfl) (M5946.blk 7 (b := b5190) (o := .cells ⟨[.slice p5169 r5167.1.Memory.length c5170, .slice p5174 r5167.1.Copy.length c5175, .slice p5179 r5167.1.Dirty.length c5180]⟩ 28 (0, 0)) (by kernel_rfl))) ?_
                        refine W_run 1 [(0, .slice p3 x1.length c4), (109, .bool false), (111, .slice p5169 r5167.1.Memory.length c5170), (112, .pointer (some ⟨b4008, 0, none⟩))] w5944 (by kernel_rfl) ?_
                        refine W_val (.slice p3987 r3985.1.Memory.length c3988) w5944 (by kernel_rfl) (E_load (e := 28) (fr := (0, 0)) _ _ false 1 b4008 0 [.slice p3987 r3985.1.Memory.length c3988, .slice p3992 r3985.1.Copy.length c3993, .slice p3997 r3985.1.Dirty.length c3998] (.slice p3987 r3985.1.Memory.length c3988) rfl (by kernel_rfl) (by kernel_rfl) (by kernel_rfl) (M5946.blk 3 (b := b4008) (o := .cells ⟨[.slice p3987 r3985.1.Memory.length c3988, .slice p3992 r3985.1.Copy.length c3993, .slice p3997 r3985.1.Dirty.length c3998]⟩ 28 (0, 0)) (by kernel_rfl))) ?_
                        obtain ⟨r5974, hr5974, hm⟩ := gx_bind hm
                        refine W_call 46 #[.slice p5169 r5167.1.Memory.length c5170, .slice p3987 r3985.1.Memory.length c3988] (by kernel_rfl) (by kernel_rfl) ?_
                        refine (c_l_vInts w5944 r5167.1.Memory p5169 c5170 (ho5172.rd M5946 4 (by kernel_rfl)) r3985.1.Memory p3987 c3988 (ho3990.rd M5946 0 (by kernel_rfl)) hr5974).mono ?_
                        rintro e_ w5975 ⟨rfl, K5976⟩
                        have M5977 := M5946.call0 K5976
                        refine ⟨_, rfl, ?_⟩
                        refine W_run 2 [(0, .slice p3 x1.length c4), (116, .bool (!r5974))] w5975 (by kernel_rfl) ?_
                        refine W_nil ?_
                        obtain rfl := Option.some.inj hm
                        exact N_meet fun a ha => ⟨M5977.pick [] (by kernel_rfl), ha.sub (by kernel_rfl)⟩
            · intro a5980 w5978 ⟨M5979, hS5981⟩
              refine N_use hS5981 ?_
              have hm := hm5963
              refine N_then ?_
              rcases gx_bif hm with ⟨hc5982, hm⟩ | ⟨hc5982, hm⟩
              · refine G_cond_t (b := o5961) hc5982 (by kernel_rfl) ?_
                refine G_seq ?_
                refine G_region ?_
                refine W_run 1 [(2, .bool false)] w5978 (by kernel_rfl) ?_
                refine W_nil ?_
                refine N_then ?_
                refine G_ret ?_
                refine N_meet_ret ?_
                obtain rfl := Option.some.inj hm
                have hm := hm5926
                simp only [Sum.elim_inr] at hm
                refine N_then_ret ?_
                obtain rfl := Option.some.inj hm
                refine N_ret [.bool false] (RVs_cons (RV_tmp (by kernel_rfl)) RVs_nil) ?_
                exact ⟨rfl, M5979.pick [] (by kernel_rfl)⟩
              · refine G_cond_f (b := o5961) hc5982 (by kernel_rfl) ?_
                refine G_skip ?_
                obtain rfl := Option.some.inj hm
                exact N_meet fun a ha => ⟨_, rfl, M5979.pick [] (by kernel_rfl), ha.sub (by kernel_rfl)⟩
          · refine G_cond_f (b := r5167.2.2) hc5928 (by kernel_rfl) ?_
            refine G_skip ?_
            obtain rfl := Option.some.inj hm
            exact N_meet fun a ha => ⟨_, rfl, M5631.pick [] (by kernel_rfl), ha.sub (by kernel_rfl)⟩
        · intro a5985 w5983 ⟨o5924, hout_, M5984, hS5986⟩
          refine N_use hS5986 ?_
          subst hout_
          have hm := hm5926
          simp only [Sum.elim_inl] at hm
          refine N_then ?_
          refine G_seq ?_
          refine G_region ?_
          refine W_run 1 [(0, .slice p3 x1.length c4), (118, .slice p3 x1.length c4)] w5983 (by kernel_rfl) ?_
          obtain ⟨r6084, hr6084, hm⟩ := gx_bind hm
          refine W_call 50 #[.slice p3 x1.length c4] (by kernel_rfl) (by kernel_rfl) ?_
          refine (c_s_DrawStoreWord w5983 x1 p3 c4 (h5.mem0 M5984) hr6084).mono ?_
          rintro e_ w6100 ⟨p6086, c6087, sg6088, p6091, c6092, sg6093, p6096, c6097, sg6098, rfl, ho6089, ho6094, ho6099, K6101⟩
          have M6102 := M5984.call K6101
          refine ⟨_, rfl, ?_⟩
          refine W_run 3 [(0, .slice p3 x1.length c4), (120, .agg #[.slice p6086 r6084.1.Memory.length c6087, .slice p6091 r6084.1.Copy.length c6092, .slice p6096 r6084.1.Dirty.length c6097]), (121, .agg #[.int .i64 r6084.2.Word, .int .i64 r6084.2.Value])] w6100 (by kernel_rfl) ?_
          refine W_new (fun b => .pointer (some ⟨b, 0, none⟩)) (.cells ⟨[.slice none 0 0, .slice none 0 0, .slice none 0 0]⟩ 28 (0, 0)) M6102 rfl (by kernel_rfl) (by kernel_rfl) ?_
          intro b6107 w6108 M6109
          refine W_new (fun b => .pointer (some ⟨b, 0, none⟩)) (.cells ⟨[.int .i64 0, .int .i64 0]⟩ 46 (0, 0)) M6109 rfl (by kernel_rfl) (by kernel_rfl) ?_
          intro b6111 w6112 M6113
          refine W_store _ _ _ true 3 b6107 0 [.slice none 0 0, .slice none 0 0, .slice none 0 0] 28 (.agg #[.slice p6086 r6084.1.Memory.length c6087, .slice p6091 r6084.1.Copy.length c6092, .slice p6096 r6084.1.Dirty.length c6097]) 3 [.slice p6086 r6084.1.Memory.length c6087, .slice p6091 r6084.1.Copy.length c6092, .slice p6096 r6084.1.Dirty.length c6097] M6113 (by kernel_rfl) rfl (by kernel_rfl) (by kernel_rfl) (by kernel_rfl) (by kernel_rfl) (by kernel_rfl) (by kernel_rfl) (by kernel_rfl) (by kernel_rfl) ?_
          intro w6114 M6115
          refine W_store _ _ _ true 2 b6111 0 [.int .i64 0, .int .i64 0] 46 (.agg #[.int .i64 r6084.2.Word, .int .i64 r6084.2.Value]) 4 [.int .i64 r6084.2.Word, .int .i64 r6084.2.Value] M6115 (by kernel_rfl) rfl (by kernel_rfl) (by kernel_rfl) (by kernel_rfl) (by kernel_rfl) (by kernel_rfl) (by kernel_rfl) (by kernel_rfl) (by kernel_rfl) ?_
          intro w6116 M6117
          refine W_nil ?_
          refine N_then ?_
          refine G_seq ?_
          refine G_region ?_
          refine W_val (.agg #[.slice p6086 r6084.1.Memory.length c6087, .slice p6091 r6084.1.Copy.length c6092, .slice p6096 r6084.1.Dirty.length c6097]) w6116 (by kernel_rfl) (E_load (e := 28) (fr := (0, 0)) _ _ true 3 b6107 0 [.slice p6086 r6084.1.Memory.length c6087, .slice p6091 r6084.1.Copy.length c6092, .slice p6096 r6084.1.Dirty.length c6097] (.agg #[.slice p6086 r6084.1.Memory.length c6087, .slice p6091 r6084.1.Copy.length c6092, .slice p6096 r6084.1.Dirty.length c6097]) rfl (by kernel_rfl) (by kernel_rfl) (by kernel_rfl) (M6117.blk 3 (b := b6107) (o := .cells ⟨[.slice p6086 r6084.1.Memory.length c6087, .slice p6091 r6084.1.Copy.length c6092, .slice p6096 r6084.1.Dirty.length c6097]⟩ 28 (0, 0)) (by kernel_rfl))) ?_
          refine W_val (.agg #[.int .i64 r6084.2.Word, .int .i64 r6084.2.Value]) w6116 (by kernel_rfl) (E_load (e := 46) (fr := (0, 0)) _ _ true 2 b6111 0 [.int .i64 r6084.2.Word, .int .i64 r6084.2.Value] (.agg #[.int .i64 r6084.2.Word, .int .i64 r6084.2.Value]) rfl (by kernel_rfl) (by kernel_rfl) (by kernel_rfl) (M6117.blk 4 (b := b6111) (o := .cells ⟨[.int .i64 r6084.2.Word, .int .i64 r6084.2.Value]⟩ 46 (0, 0)) (by kernel_rfl))) ?_
          obtain ⟨r6399, hr6399, hm⟩ := gx_bind hm
          refine W_call 32 #[.agg #[.slice p6086 r6084.1.Memory.length c6087, .slice p6091 r6084.1.Copy.length c6092, .slice p6096 r6084.1.Dirty.length c6097], .agg #[.int .i64 r6084.2.Word, .int .i64 r6084.2.Value]] (by kernel_rfl) (by kernel_rfl) ?_
          refine (c_i_StoreWord w6116 r6084.1 p6086 c6087 (ho6089.rd M6117 0 (by kernel_rfl)) p6091 c6092 (ho6094.rd M6117 1 (by kernel_rfl)) p6096 c6097 (ho6099.rd M6117 2 (by kernel_rfl)) r6084.2 hr6399).mono ?_
          rintro e_ w6415 ⟨p6401, c6402, sg6403, p6406, c6407, sg6408, p6411, c6412, sg6413, rfl, ho6404, ho6409, ho6414, K6416⟩
          have M6417 := M6117.call K6416
          refine ⟨_, rfl, ?_⟩
          refine W_run 3 [(0, .slice p3 x1.length c4), (15, .pointer (some ⟨b6107, 0, none⟩)), (16, .pointer (some ⟨b6111, 0, none⟩)), (126, .agg #[.slice p6401 r6399.1.Memory.length c6402, .slice p6406 r6399.1.Copy.length c6407, .slice p6411 r6399.1.Dirty.length c6412]), (127, .bool r6399.2)] w6415 (by kernel_rfl) ?_
          refine W_new (fun b => .pointer (some ⟨b, 0, none⟩)) (.cells ⟨[.slice none 0 0, .slice none 0 0, .slice none 0 0]⟩ 28 (0, 0)) M6417 rfl (by kernel_rfl) (by kernel_rfl) ?_
          intro b6422 w6423 M6424
          refine W_store _ _ _ true 3 b6422 0 [.slice none 0 0, .slice none 0 0, .slice none 0 0] 28 (.agg #[.slice p6401 r6399.1.Memory.length c6402, .slice p6406 r6399.1.Copy.length c6407, .slice p6411 r6399.1.Dirty.length c6412]) 8 [.slice p6401 r6399.1.Memory.length c6402, .slice p6406 r6399.1.Copy.length c6407, .slice p6411 r6399.1.Dirty.length c6412] M6424 (by kernel_rfl) rfl (by kernel_rfl) (by kernel_rfl) (by kernel_rfl) (by kernel_rfl) (by kernel_rfl) (by kernel_rfl) (by kernel_rfl) (by kernel_rfl) ?_
          intro w6425 M6426
          refine W_run 1 [(0, .slice p3 x1.length c4), (15, .pointer (some ⟨b6107, 0, none⟩)), (16, .pointer (some ⟨b6111, 0, none⟩)), (17, .pointer (some ⟨b6422, 0, none⟩)), (18, .bool r6399.2)] w6425 (by kernel_rfl) ?_
          refine W_nil ?_
          refine N_then ?_
          refine G_seq ?_
          refine G_seq ?_
          refine G_region ?_
          refine W_val (.agg #[.slice p6086 r6084.1.Memory.length c6087, .slice p6091 r6084.1.Copy.length c6092, .slice p6096 r6084.1.Dirty.length c6097]) w6425 (by kernel_rfl) (E_load (e := 28) (fr := (0, 0)) _ _ true 3 b6107 0 [.slice p6086 r6084.1.Memory.length c6087, .slice p6091 r6084.1.Copy.length c6092, .slice p6096 r6084.1.Dirty.length c6097] (.agg #[.slice p6086 r6084.1.Memory.length c6087, .slice p6091 r6084.1.Copy.length c6092, .slice p6096 r6084.1.Dirty.length c6097]) rfl (by kernel_rfl) (by kernel_rfl) (by kernel_rfl) (M6426.blk 3 (b := b6107) (o := .cells ⟨[.slice p6086 r6084.1.Memory.length c6087, .slice p6091 r6084.1.Copy.length c6092, .slice p6096 r6084.1.Dirty.length c6097]⟩ 28 (0, 0)) (by kernel_rfl))) ?_
          refine W_val (.agg #[.int .i64 r6084.2.Word, .int .i64 r6084.2.Value]) w6425 (by kernel_rfl) (E_load (e := 46) (fr := (0, 0)) _ _ true 2 b6111 0 [.int .i64 r6084.2.Word, .int .i64 r6084.2.Value] (.agg #[.int .i64 r6084.2.Word, .int .i64 r6084.2.Value]) rfl (by kernel_rfl) (by kernel_rfl) (by kernel_rfl) (M6426.blk 4 (b := b6111) (o := .cells ⟨[.int .i64 r6084.2.Word, .int .i64 r6084.2.Value]⟩ 46 (0, 0)) (by kernel_rfl))) ?_
          obtain ⟨r6520, hr6520, hm⟩ := gx_bind hm
          refine W_call 30 #[.agg #[.slice p6086 r6084.1.Memory.length c6087, .slice p6091 r6084.1.Copy.length c6092, .slice p6096 r6084.1.Dirty.length c6097], .agg #[.int .i64 r6084.2.Word, .int .i64 r6084.2.Value]] (by kernel_rfl) (by kernel_rfl) ?_
          refine (c_s_StoreWord w6425 r6084.1 p6086 c6087 (ho6089.rd M6426 0 (by kernel_rfl)) p6091 c6092 (ho6094.rd M6426 1 (by kernel_rfl)) p6096 c6097 (ho6099.rd M6426 2 (by kernel_rfl)) r6084.2 hr6520).mono ?_
          rintro e_ w6536 ⟨p6522, c6523, sg6524, p6527, c6528, sg6529, p6532, c6533, sg6534, rfl, ho6525, ho6530, ho6535, K6537⟩
          have M6538 := M6426.call K6537
          refine ⟨_, rfl, ?_⟩
          refine W_run 3 [(0, .slice p3 x1.length c4), (15, .pointer (some ⟨b6107, 0, none⟩)), (16, .pointer (some ⟨b6111, 0, none⟩)), (17, .pointer (some ⟨b6422, 0, none⟩)), (18, .bool r6399.2), (132, .agg #[.slice p6522 r6520.1.Memory.length c6523, .slice p6527 r6520.1.Copy.length c6528, .slice p6532 r6520.1.Dirty.length c6533]), (133, .bool r6520.2)] w6536 (by kernel_rfl) ?_
          refine W_new (fun b => .pointer (some ⟨b, 0, none⟩)) (.cells ⟨[.slice none 0 0, .slice none 0 0, .slice none 0 0]⟩ 28 (0, 0)) M6538 rfl (by kernel_rfl) (by kernel_rfl) ?_
          intro b6543 w6544 M6545
          refine W_store _ _ _ true 3 b6543 0 [.slice none 0 0, .slice none 0 0, .slice none 0 0] 28 (.agg #[.slice p6522 r6520.1.Memory.length c6523, .slice p6527 r6520.1.Copy.length c6528, .slice p6532 r6520.1.Dirty.length c6533]) 12 [.slice p6522 r6520.1.Memory.length c6523, .slice p6527 r6520.1.Copy.length c6528, .slice p6532 r6520.1.Dirty.length c6533] M6545 (by kernel_rfl) rfl (by kernel_rfl) (by kernel_rfl) (by kernel_rfl) (by kernel_rfl) (by kernel_rfl) (by kernel_rfl) (by kernel_rfl) (by kernel_rfl) ?_
          intro w6546 M6547
          refine W_run 1 [(0, .slice p3 x1.length c4), (15, .pointer (some ⟨b6107, 0, none⟩)), (16, .pointer (some ⟨b6111, 0, none⟩)), (17, .pointer (some ⟨b6422, 0, none⟩)), (18, .bool r6399.2), (19, .pointer (some ⟨b6543, 0, none⟩)), (20, .bool r6520.2)] w6546 (by kernel_rfl) ?_
          refine W_nil ?_
          refine N_then ?_
          refine G_seq ?_
          obtain ⟨o6553, ho6554, hm6555⟩ := gx_bind hm
          refine G_meet (fun a w' => Mem [] w w' [sg6088, sg6093, sg6098, [(b6107, .cells ⟨[.slice p6086 r6084.1.Memory.length c6087, .slice p6091 r6084.1.Copy.length c6092, .slice p6096 r6084.1.Dirty.length c6097]⟩ 28 (0, 0))], [(b6111, .cells ⟨[.int .i64 r6084.2.Word, .int .i64 r6084.2.Value]⟩ 46 (0, 0))], sg6403, sg6408, sg6413, [(b6422, .cells ⟨[.slice p6401 r6399.1.Memory.length c6402, .slice p6406 r6399.1.Copy.length c6407, .slice p6411 r6399.1.Dirty.length c6412]⟩ 28 (0, 0))]] ∧ Sat Try.f12.ntmps [(0, .slice p3 x1.length c4), (15, .pointer (some ⟨b6107, 0, none⟩)), (16, .pointer (some ⟨b6111, 0, none⟩)), (17, .pointer (some ⟨b6422, 0, none⟩)), (18, .bool r6399.2), (142, .bool o6553)] a) ?_ ?_
          · have hm := ho6554
            refine G_region ?_
            refine W_run 4 [(0, .slice p3 x1.length c4), (15, .pointer (some ⟨b6107, 0, none⟩)), (16, .pointer (some ⟨b6111, 0, none⟩)), (17, .pointer (some ⟨b6422, 0, none⟩)), (18, .bool r6399.2), (19, .pointer (some ⟨b6543, 0, none⟩)), (137, .bool (!(r6399.2 == r6520.2)))] w6546 (by kernel_rfl) ?_
            rcases gx_bif hm with ⟨hc6556, hm⟩ | ⟨hc6556, hm⟩
            · refine W_known 137 true (by kernel_rfl) hc6556 ?_
              refine W_run 5 [(0, .slice p3 x1.length c4), (15, .pointer (some ⟨b6107, 0, none⟩)), (16, .pointer (some ⟨b6111, 0, none⟩)), (17, .pointer (some ⟨b6422, 0, none⟩)), (18, .bool r6399.2), (142, .bool true)] w6546 (by kernel_rfl) ?_
              refine W_nil ?_
              obtain rfl := Option.some.inj hm
              exact N_meet fun a ha => ⟨M6547.pick [0, 1, 2, 3, 4, 5, 6, 7, 8] (by kernel_rfl), ha.sub (by kernel_rfl)⟩
            · refine W_known 137 false (by kernel_rfl) hc6556 ?_
              refine W_val (.agg #[.slice p6401 r6399.1.Memory.length c6402, .slice p6406 r6399.1.Copy.length c6407, .slice p6411 r6399.1.Dirty.length c6412]) w6546 (by kernel_rfl) (E_load (e := 28) (fr := (0, 0)) _ _ true 3 b6422 0 [.slice p6401 r6399.1.Memory.length c6402, .slice p6406 r6399.1.Copy.length c6407, .slice p6411 r6399.1.Dirty.length c6412] (.agg #[.slice p6401 r6399.1.Memory.length c6402, .slice p6406 r6399.1.Copy.length c6407, .slice p6411 r6399.1.Dirty.length c6412]) rfl (by kernel_rfl) (by kernel_rfl) (by kernel_rfl) (M6547.blk 8 (b := b6422) (o := .cells ⟨[.slice p6401 r6399.1.Memory.length c6402, .slice p6406 r6399.1.Copy.length c6407, .slice p6411 r6399.1.Dirty.length c6412]⟩ 28 (0, 0)) (by kernel_rfl))) ?_
              refine W_val (.agg #[.slice p6522 r6520.1.Memory.length c6523, .slice p6527 r6520.1.Copy.length c6528, .slice p6532 r6520.1.Dirty.length c6533]) w6546 (by kernel_rfl) (E_load (e := 28) (fr := (0, 0)) _ _ true 3 b6543 0 [.slice p6522 r6520.1.Memory.length c6523, .slice p6527 r6520.1.Copy.length c6528, .slice p6532 r6520.1.Dirty.length c6533] (.agg #[.slice p6522 r6520.1.Memory.length c6523, .slice p6527 r6520.1.Copy.length c6528, .slice p6532 r6520.1.Dirty.length c6533]) rfl (by kernel_rfl) (by kernel_rfl) (by kernel_rfl) (M6547.blk 12 (b := b6543) (o := .cells ⟨[.slice p6522 r6520.1.Memory.length c6523, .slice p6527 r6520.1.Copy.length c6528, .slice p6532 r6520.1.Dirty.length c6533]⟩ 28 (0, 0)) (by kernel_rfl))) ?_
              obtain ⟨r6557, hr6557, hm⟩ := gx_bind hm
              refine W_call 45 #[.agg #[.slice p6401 r6399.1.Memory.length c6402, .slice p6406 r6399.1.Copy.length c6407, .slice p6411 r6399.1.Dirty.length c6412], .agg #[.slice p6522 r6520.1.Memory.length c6523, .slice p6527 r6520.1.Copy.length c6528, .slice p6532 r6520.1.Dirty.length c6533]] (by kernel_rfl) (by kernel_rfl) ?_
              refine (c_l_vCopying w6546 r6399.1 p6401 c6402 (ho6404.rd M6547 5 (by kernel_rfl)) p6406 c6407 (ho6409.rd M6547 6 (by kernel_rfl)) p6411 c6412 (ho6414.rd M6547 7 (by kernel_rfl)) r6520.1 p6522 c6523 (ho6525.rd M6547 9 (by kernel_rfl)) p6527 c6528 (ho6530.rd M6547 10 (by kernel_rfl)) p6532 c6533 (ho6535.rd M6547 11 (by kernel_rfl)) hr6557).mono ?_
              rintro e_ w6558 ⟨rfl, K6559⟩
              have M6560 := M6547.call0 K6559
              refine ⟨_, rfl, ?_⟩
              refine W_run 2 [(0, .slice p3 x1.length c4), (15, .pointer (some ⟨b6107, 0, none⟩)), (16, .pointer (some ⟨b6111, 0, none⟩)), (17, .pointer (some ⟨b6422, 0, none⟩)), (18, .bool r6399.2), (142, .bool (!r6557))] w6558 (by kernel_rfl) ?_
              refine W_nil ?_
              obtain rfl := Option.some.inj hm
              exact N_meet fun a ha => ⟨M6560.pick [0, 1, 2, 3, 4, 5, 6, 7, 8] (by kernel_rfl), ha.sub (by kernel_rfl)⟩
          · intro a6563 w6561 ⟨M6562, hS6564⟩
            refine N_use hS6564 ?_
            have hm := hm6555
            refine N_then ?_
            rcases gx_bif hm with ⟨hc6565, hm⟩ | ⟨hc6565, hm⟩
            · refine G_cond_t (b := o6553) hc6565 (by kernel_rfl) ?_
              refine G_seq ?_
              refine G_region ?_
              refine W_run 1 [(2, .bool false)] w6561 (by kernel_rfl) ?_
              refine W_nil ?_
              refine N_then ?_
              refine G_ret ?_
              refine N_then_ret ?_
              obtain rfl := Option.some.inj hm
              refine N_ret [.bool false] (RVs_cons (RV_tmp (by kernel_rfl)) RVs_nil) ?_
              exact ⟨rfl, M6562.pick [] (by kernel_rfl)⟩
            · refine G_cond_f (b := o6553) hc6565 (by kernel_rfl) ?_
              refine G_skip ?_
              refine N_then ?_
              refine G_seq ?_
              refine G_seq ?_
              refine G_region ?_
              refine W_run 1 [(0, .slice p3 x1.length c4), (15, .pointer (some ⟨b6107, 0, none⟩)), (16, .pointer (some ⟨b6111, 0, none⟩)), (17, .pointer (some ⟨b6422, 0, none⟩)), (143, .bool r6399.2)] w6561 (by kernel_rfl) ?_
              refine W_nil ?_
              refine N_then ?_
              obtain ⟨out6657, ho6655, hm6656⟩ := gx_bind hm
              refine G_meet (fun a w' => ∃ (o6654 : Unit), out6657 = .inl o6654 ∧ Mem [] w w' [] ∧ Sat Try.f12.ntmps [(0, .slice p3 x1.length c4)] a) ?_ ?_
              · have hm := ho6655
                rcases gx_bif hm with ⟨hc6658, hm⟩ | ⟨hc6658, hm⟩
                · refine G_cond_t (b := r6399.2) hc6658 (by kernel_rfl) ?_
                  refine G_seq ?_
                  refine G_region ?_
                  refine W_val (.agg #[.slice p6401 r6399.1.Memory.length c6402, .slice p6406 r6399.1.Copy.length c6407, .slice p6411 r6399.1.Dirty.length c6412]) w6561 (by kernel_rfl) (E_load (e := 28) (fr := (0, 0)) _ _ true 3 b6422 0 [.slice p6401 r6399.1.Memory.length c6402, .slice p6406 r6399.1.Copy.length c6407, .slice p6411 r6399.1.Dirty.length c6412] (.agg #[.slice p6401 r6399.1.Memory.length c6402, .slice p6406 r6399.1.Copy.length c6407, .slice p6411 r6399.1.Dirty.length c6412]) rfl (by kernel_rfl) (by kernel_rfl) (by kernel_rfl) (M6562.blk 8 (b := b6422) (o := .cells ⟨[.slice p6401 r6399.1.Memory.length c6402, .slice p6406 r6399.1.Copy.length c6407, .slice p6411 r6399.1.Dirty.length c6412]⟩ 28 (0, 0)) (by kernel_rfl))) ?_
                  obtain ⟨r6659, hr6659, hm⟩ := gx_bind hm
                  refine W_call 26 #[.agg #[.slice p6401 r6399.1.Memory.length c6402, .slice p6406 r6399.1.Copy.length c6407, .slice p6411 r6399.1.Dirty.length c6412]] (by kernel_rfl) (by kernel_rfl) ?_
                  refine (c_i_DirtyWords w6561 r6399.1 p6401 c6402 (ho6404.rd M6562 5 (by kernel_rfl)) p6406 c6407 (ho6409.rd M6562 6 (by kernel_rfl)) p6411 c6412 (ho6414.rd M6562 7 (by kernel_rfl)) hr6659).mono ?_
                  rintro e_ w6665 ⟨p6661, c6662, sg6663, rfl, ho6664, K6666⟩
                  have M6667 := M6562.call K6666
                  refine ⟨_, rfl, ?_⟩
                  refine W_run 5 [(0, .slice p3 x1.length c4), (15, .pointer (some ⟨b6107, 0, none⟩)), (16, .pointer (some ⟨b6111, 0, none⟩)), (17, .pointer (some ⟨b6422, 0, none⟩)), (21, .slice p6661 r6659.1.length c6662), (22, .bool r6659.2)] w6665 (by kernel_rfl) ?_
                  refine W_nil ?_
                  refine N_then ?_
                  refine G_seq ?_
                  obtain ⟨o6688, ho6689, hm6690⟩ := gx_bind hm
                  refine G_meet (fun a w' => Mem [] w w' [] ∧ Sat Try.f12.ntmps [(0, .slice p3 x1.length c4), (176, .bool o6688)] a) ?_ ?_
                  · have hm := ho6689
                    refine G_quiet (by kernel_rfl) (by kernel_rfl) M6667 ?_
                    refine Z_runs [.bool r6659.2, .bool (!r6659.2), .bool (!r6659.2)] [(0, .slice p3 x1.length c4), (15, .pointer (some ⟨b6107, 0, none⟩)), (16, .pointer (some ⟨b6111, 0, none⟩)), (17, .pointer (some ⟨b6422, 0, none⟩)), (21, .slice p6661 r6659.1.length c6662), (151, .bool (!r6659.2))] (fun w_ => by kernel_rfl) (by kernel_rfl) ?_
                    rcases gx_bif hm with ⟨hc6691, hm⟩ | ⟨hc6691, hm⟩
                    · refine Z_known 151 true (by kernel_rfl) hc6691 ?_
                      refine Z_runs [undef, undef, undef, undef, undef, .bool true, .bool true, undef, undef, undef, undef, undef, undef, undef, undef, undef, .bool true, .bool true, undef, undef, undef, undef, undef, undef, .bool true] [(0, .slice p3 x1.length c4), (176, .bool true)] (fun w_ => by kernel_rfl) (by kernel_rfl) ?_
                      refine Z_end fun w6692 M6693 => ?_
                      obtain rfl := Option.some.inj hm
                      exact N_meet fun a ha => ⟨M6693.pick [] (by kernel_rfl), ha.sub (by kernel_rfl)⟩
                    · refine Z_known 151 false (by kernel_rfl) hc6691 ?_
                      refine Z_runs [.slice p6661 r6659.1.length c6662, .pointer (some ⟨b6111, 0, none⟩)] [(0, .slice p3 x1.length c4), (15, .pointer (some ⟨b6107, 0, none⟩)), (16, .pointer (some ⟨b6111, 0, none⟩)), (17, .pointer (some ⟨b6422, 0, none⟩)), (151, .bool false), (152, .slice p6661 r6659.1.length c6662), (153, .pointer (some ⟨b6111, 0, none⟩))] (fun w_ => by kernel_rfl) (by kernel_rfl) ?_
                      refine Z_val (.int .i64 r6084.2.Word) (by kernel_rfl) (fun w_ M_ => (E_load (e := 46) (fr := (0, 0)) _ _ false 1 b6111 0 [.int .i64 r6084.2.Word, .int .i64 r6084.2.Value] (.int .i64 r6084.2.Word) rfl (by kernel_rfl) (by kernel_rfl) (by kernel_rfl) (M_.blk 4 (b := b6111) (o := .cells ⟨[.int .i64 r6084.2.Word, .int .i64 r6084.2.Value]⟩ 46 (0, 0)) (by kernel_rfl)))) ?_
                      obtain ⟨r6694, hr6694, hm⟩ := gx_bind hm
                      refine Z_call 51 #[.slice p6661 r6659.1.length c6662, .int .i64 r6084.2.Word] (.bool r6694) (by kernel_rfl) (fun w_ => by kernel_rfl) (fun w_ M_ => (c_l_vHas w_ r6659.1 p6661 c6662 (ho6664.rd M_ 9 (by kernel_rfl)) r6084.2.Word hr6694).mono fun e w2_ h_ => ⟨h_.1, M_.call0 h_.2⟩) ?_
                      refine Z_runs [.bool (!r6694), .bool (!r6694), .bool (!r6694)] [(0, .slice p3 x1.length c4), (15, .pointer (some ⟨b6107, 0, none⟩)), (16, .pointer (some ⟨b6111, 0, none⟩)), (17, .pointer (some ⟨b6422, 0, none⟩)), (158, .bool (!r6694))] (fun w_ => by kernel_rfl) (by kernel_rfl) ?_
                      rcases gx_bif hm with ⟨hc6698, hm⟩ | ⟨hc6698, hm⟩
                      · refine Z_known 158 true (by kernel_rfl) hc6698 ?_
                        refine Z_runs [undef, undef, undef, undef, undef, undef, undef, undef, undef, .bool true, .bool true, undef, undef, undef, undef, undef, undef, .bool true] [(0, .slice p3 x1.length c4), (176, .bool true)] (fun w_ => by kernel_rfl) (by kernel_rfl) ?_
                        refine Z_end fun w6699 M6700 => ?_
                        obtain rfl := Option.some.inj hm
                        exact N_meet fun a ha => ⟨M6700.pick [] (by kernel_rfl), ha.sub (by kernel_rfl)⟩
                      · refine Z_known 158 false (by kernel_rfl) hc6698 ?_
                        refine Z_runs [.pointer (some ⟨b6422, 0, none⟩)] [(0, .slice p3 x1.length c4), (15, .pointer (some ⟨b6107, 0, none⟩)), (16, .pointer (some ⟨b6111, 0, none⟩)), (17, .pointer (some ⟨b6422, 0, none⟩)), (158, .bool false), (159, .pointer (some ⟨b6422, 0, none⟩))] (fun w_ => by kernel_rfl) (by kernel_rfl) ?_
                        refine Z_val (.slice p6401 r6399.1.Memory.length c6402) (by kernel_rfl) (fun w_ M_ => (E_load (e := 28) (fr := (0, 0)) _ _ false 1 b6422 0 [.slice p6401 r6399.1.Memory.length c6402, .slice p6406 r6399.1.Copy.length c6407, .slice p6411 r6399.1.Dirty.length c6412] (.slice p6401 r6399.1.Memory.length c6402) rfl (by kernel_rfl) (by kernel_rfl) (by kernel_rfl) (M_.blk 8 (b := b6422) (o := .cells ⟨[.slice p6401 r6399.1.Memory.length c6402, .slice p6406 r6399.1.Copy.length c6407, .slice p6411 r6399.1.Dirty.length c6412]⟩ 28 (0, 0)) (by kernel_rfl)))) ?_
                        refine Z_runs [.pointer (some ⟨b6111, 0, none⟩)] [(0, .slice p3 x1.length c4), (15, .pointer (some ⟨b6107, 0, none⟩)), (16, .pointer (some ⟨b6111, 0, none⟩)), (17, .pointer (some ⟨b6422, 0, none⟩)), (158, .bool false), (160, .slice p6401 r6399.1.Memory.length c6402), (161, .pointer (some ⟨b6111, 0, none⟩))] (fun w_ => by kernel_rfl) (by kernel_rfl) ?_
                        refine Z_val (.int .i64 r6084.2.Word) (by kernel_rfl) (fun w_ M_ => (E_load (e := 46) (fr := (0, 0)) _ _ false 1 b6111 0 [.int .i64 r6084.2.Word, .int .i64 r6084.2.Value] (.int .i64 r6084.2.Word) rfl (by kernel_rfl) (by kernel_rfl) (by kernel_rfl) (M_.blk 4 (b := b6111) (o := .cells ⟨[.int .i64 r6084.2.Word, .int .i64 r6084.2.Value]⟩ 46 (0, 0)) (by kernel_rfl)))) ?_
                        obtain ⟨y6701, hy6701, hm⟩ := gx_bind hm
                        refine Z_val (elemP p6401 (r6084.2.Word.toNat * 1)) (by kernel_rfl) (fun w_ M_ => (E_index (E := encI) _ _ _ r6399.1.Memory.length c6402 .i64 r6084.2.Word 1 (y := y6701) rfl (by kernel_rfl) (by kernel_rfl) (by kernel_rfl) (ho6404.rd M_ 5 (by kernel_rfl)) rfl hy6701)) ?_
                        refine Z_val (.int .i64 y6701) (by kernel_rfl) (fun w_ M_ => (E_loadE (E := encI) _ _ false 1 r6084.2.Word 0 (r6084.2.Word.toNat * 1) y6701 (.int .i64 y6701) rfl (by kernel_rfl) (by kernel_rfl) (by kernel_rfl) (ho6404.rd M_ 5 (by kernel_rfl)) hy6701 rfl)) ?_
                        refine Z_runs [.pointer (some ⟨b6111, 1, none⟩)] [(0, .slice p3 x1.length c4), (15, .pointer (some ⟨b6107, 0, none⟩)), (17, .pointer (some ⟨b6422, 0, none⟩)), (158, .bool false), (164, .int .i64 y6701), (165, .pointer (some ⟨b6111, 1, none⟩))] (fun w_ => by kernel_rfl) (by kernel_rfl) ?_
                        refine Z_val (.int .i64 r6084.2.Value) (by kernel_rfl) (fun w_ M_ => (E_load (e := 46) (fr := (0, 0)) _ _ false 1 b6111 1 [.int .i64 r6084.2.Word, .int .i64 r6084.2.Value] (.int .i64 r6084.2.Value) rfl (by kernel_rfl) (by kernel_rfl) (by kernel_rfl) (M_.blk 4 (b := b6111) (o := .cells ⟨[.int .i64 r6084.2.Word, .int .i64 r6084.2.Value]⟩ 46 (0, 0)) (by kernel_rfl)))) ?_
                        refine Z_runs [.bool (y6701 != r6084.2.Value), .bool (y6701 != r6084.2.Value), .bool (y6701 != r6084.2.Value)] [(0, .slice p3 x1.length c4), (15, .pointer (some ⟨b6107, 0, none⟩)), (17, .pointer (some ⟨b6422, 0, none⟩)), (169, .bool (y6701 != r6084.2.Value))] (fun w_ => by kernel_rfl) (by kernel_rfl) ?_
                        rcases gx_bif hm with ⟨hc6702, hm⟩ | ⟨hc6702, hm⟩
                        · refine Z_known 169 true (by kernel_rfl) hc6702 ?_
                          refine Z_runs [undef, undef, undef, undef, undef, undef, .bool true] [(0, .slice p3 x1.length c4), (176, .bool true)] (fun w_ => by kernel_rfl) (by kernel_rfl) ?_
                          refine Z_end fun w6703 M6704 => ?_
                          obtain rfl := Option.some.inj hm
                          exact N_meet fun a ha => ⟨M6704.pick [] (by kernel_rfl), ha.sub (by kernel_rfl)⟩
                        · refine Z_known 169 false (by kernel_rfl) hc6702 ?_
                          refine Z_runs [.pointer (some ⟨b6422, 1, none⟩)] [(0, .slice p3 x1.length c4), (15, .pointer (some ⟨b6107, 0, none⟩)), (169, .bool false), (170, .pointer (some ⟨b6422, 1, none⟩))] (fun w_ => by kernel_rfl) (by kernel_rfl) ?_
                          refine Z_val (.slice p6406 r6399.1.Copy.length c6407) (by kernel_rfl) (fun w_ M_ => (E_load (e := 28) (fr := (0, 0)) _ _ false 1 b6422 1 [.slice p6401 r6399.1.Memory.length c6402, .slice p6406 r6399.1.Copy.length c6407, .slice p6411 r6399.1.Dirty.length c6412] (.slice p6406 r6399.1.Copy.length c6407) rfl (by kernel_rfl) (by kernel_rfl) (by kernel_rfl) (M_.blk 8 (b := b6422) (o := .cells ⟨[.slice p6401 r6399.1.Memory.length c6402, .slice p6406 r6399.1.Copy.length c6407, .slice p6411 r6399.1.Dirty.length c6412]⟩ 28 (0, 0)) (by kernel_rfl)))) ?_
                          refine Z_runs [.pointer (some ⟨b6107, 1, none⟩)] [(0, .slice p3 x1.length c4), (169, .bool false), (171, .slice p6406 r6399.1.Copy.length c6407), (172, .pointer (some ⟨b6107, 1, none⟩))] (fun w_ => by kernel_rfl) (by kernel_rfl) ?_
                          refine Z_val (.slice p6091 r6084.1.Copy.length c6092) (by kernel_rfl) (fun w_ M_ => (E_load (e := 28) (fr := (0, 0)) _ _ false 1 b6107 1 [.slice p6086 r6084.1.Memory.length c6087, .slice p6091 r6084.1.Copy.length c6092, .slice p6096 r6084.1.Dirty.length c6097] (.slice p6091 r6084.1.Copy.length c6092) rfl (by kernel_rfl) (by kernel_rfl) (by kernel_rfl) (M_.blk 3 (b := b6107) (o := .cells ⟨[.slice p6086 r6084.1.Memory.length c6087, .slice p6091 r6084.1.Copy.length c6092, .slice p6096 r6084.1.Dirty.length c6097]⟩ 28 (0, 0)) (by kernel_rfl)))) ?_
                          obtain ⟨r6705, hr6705, hm⟩ := gx_bind hm
                          refine Z_call 46 #[.slice p6406 r6399.1.Copy.length c6407, .slice p6091 r6084.1.Copy.length c6092] (.bool r6705) (by kernel_rfl) (fun w_ => by kernel_rfl) (fun w_ M_ => (c_l_vInts w_ r6399.1.Copy p6406 c6407 (ho6409.rd M_ 6 (by kernel_rfl)) r6084.1.Copy p6091 c6092 (ho6094.rd M_ 1 (by kernel_rfl)) hr6705).mono fun e w2_ h_ => ⟨h_.1, M_.call0 h_.2⟩) ?_
                          refine Z_runs [.bool (!r6705), .bool (!r6705)] [(0, .slice p3 x1.length c4), (176, .bool (!r6705))] (fun w_ => by kernel_rfl) (by kernel_rfl) ?_
                          refine Z_end fun w6709 M6710 => ?_
                          obtain rfl := Option.some.inj hm
                          exact N_meet fun a ha => ⟨M6710.pick [] (by kernel_rfl), ha.sub (by kernel_rfl)⟩
                  · intro a6713 w6711 ⟨M6712, hS6714⟩
                    refine N_use hS6714 ?_
                    have hm := hm6690
                    refine N_then ?_
                    rcases gx_bif hm with ⟨hc6715, hm⟩ | ⟨hc6715, hm⟩
                    · refine G_cond_t (b := o6688) hc6715 (by kernel_rfl) ?_
                      refine G_seq ?_
                      refine G_region ?_
                      refine W_run 1 [(2, .bool false)] w6711 (by kernel_rfl) ?_
                      refine W_nil ?_
                      refine N_then ?_
                      refine G_ret ?_
                      refine N_meet_ret ?_
                      obtain rfl := Option.some.inj hm
                      have hm := hm6656
                      simp only [Sum.elim_inr] at hm
                      refine N_then_ret ?_
                      obtain rfl := Option.some.inj hm
                      refine N_ret [.bool false] (RVs_cons (RV_tmp (by kernel_rfl)) RVs_nil) ?_
                      exact ⟨rfl, M6712.pick [] (by kernel_rfl)⟩
                    · refine G_cond_f (b := o6688) hc6715 (by kernel_rfl) ?_
                      refine G_skip ?_
                      obtain rfl := Option.some.inj hm
                      exact N_meet fun a ha => ⟨_, rfl, M6712.pick [] (by kernel_rfl), ha.sub (by kernel_rfl)⟩
                · refine G_cond_f (b := r6399.2) hc6658 (by kernel_rfl) ?_
                  refine G_skip ?_
                  obtain rfl := Option.some.inj hm
                  exact N_meet fun a ha => ⟨_, rfl, M6562.pick [] (by kernel_rfl), ha.sub (by kernel_rfl)⟩
              · intro a6718 w6716 ⟨o6654, hout_, M6717, hS6719⟩
                refine N_use hS6719 ?_
                subst hout_
                have hm := hm6656
                simp only [Sum.elim_inl] at hm
                refine N_then ?_
                refine G_seq ?_
                refine G_region ?_
                refine W_run 1 [(0, .slice p3 x1.length c4), (177, .slice p3 x1.length c4)] w6716 (by kernel_rfl) ?_
                obtain ⟨r6744, hr6744, hm⟩ := gx_bind hm
                refine W_call 52 #[.slice p3 x1.length c4] (by kernel_rfl) (by kernel_rfl) ?_
                refine (c_s_DrawStartCopy w6716 x1 p3 c4 (h5.mem0 M6717) hr6744).mono ?_
                rintro e_ w6750 ⟨p6746, c6747, sg6748, rfl, ho6749, K6751⟩
                have M6752 := M6717.call K6751
                refine ⟨_, rfl, ?_⟩
                refine W_run 1 [(0, .slice p3 x1.length c4), (23, .slice p6746 r6744.length c6747)] w6750 (by kernel_rfl) ?_
                refine W_nil ?_
                refine N_then ?_
                refine G_seq ?_
                refine G_region ?_
                refine W_run 1 [(0, .slice p3 x1.length c4), (23, .slice p6746 r6744.length c6747), (180, .slice p6746 r6744.length c6747)] w6750 (by kernel_rfl) ?_
                obtain ⟨r6938, hr6938, hm⟩ := gx_bind hm
                refine W_call 20 #[.slice p6746 r6744.length c6747] (by kernel_rfl) (by kernel_rfl) ?_
                refine (c_i_StartCopy w6750 r6744 p6746 c6747 (ho6749.rd M6752 0 (by kernel_rfl)) hr6938).mono ?_
                rintro e_ w6954 ⟨p6940, c6941, sg6942, p6945, c6946, sg6947, p6950, c6951, sg6952, rfl, ho6943, ho6948, ho6953, K6955⟩
                have M6956 := M6752.call K6955
                refine ⟨_, rfl, ?_⟩
                refine W_run 3 [(0, .slice p3 x1.length c4), (23, .slice p6746 r6744.length c6747), (182, .agg #[.slice p6940 r6938.1.Memory.length c6941, .slice p6945 r6938.1.Copy.length c6946, .slice p6950 r6938.1.Dirty.length c6951]), (183, .bool r6938.2)] w6954 (by kernel_rfl) ?_
                refine W_new (fun b => .pointer (some ⟨b, 0, none⟩)) (.cells ⟨[.slice none 0 0, .slice none 0 0, .slice none 0 0]⟩ 28 (0, 0)) M6956 rfl (by kernel_rfl) (by kernel_rfl) ?_
                intro b6961 w6962 M6963
                refine W_store _ _ _ true 3 b6961 0 [.slice none 0 0, .slice none 0 0, .slice none 0 0] 28 (.agg #[.slice p6940 r6938.1.Memory.length c6941, .slice p6945 r6938.1.Copy.length c6946, .slice p6950 r6938.1.Dirty.length c6951]) 4 [.slice p6940 r6938.1.Memory.length c6941, .slice p6945 r6938.1.Copy.length c6946, .slice p6950 r6938.1.Dirty.length c6951] M6963 (by kernel_rfl) rfl (by kernel_rfl) (by kernel_rfl) (by kernel_rfl) (by kernel_rfl) (by kernel_rfl) (by kernel_rfl) (by kernel_rfl) (by kernel_rfl) ?_
                intro w6964 M6965
                refine W_run 1 [(0, .slice p3 x1.length c4), (23, .slice p6746 r6744.length c6747), (24, .pointer (some ⟨b6961, 0, none⟩)), (25, .bool r6938.2)] w6964 (by kernel_rfl) ?_
                refine W_nil ?_
                refine N_then ?_
                refine G_seq ?_
                refine G_seq ?_
                refine G_region ?_
                refine W_run 1 [(0, .slice p3 x1.length c4), (24, .pointer (some ⟨b6961, 0, none⟩)), (25, .bool r6938.2), (185, .slice p6746 r6744.length c6747)] w6964 (by kernel_rfl) ?_
                obtain ⟨r6966, hr6966, hm⟩ := gx_bind hm
                refine W_call 18 #[.slice p6746 r6744.length c6747] (by kernel_rfl) (by kernel_rfl) ?_
                refine (c_s_StartCopy w6964 r6744 p6746 c6747 (ho6749.rd M6965 0 (by kernel_rfl)) hr6966).mono ?_
                rintro e_ w6982 ⟨p6968, c6969, sg6970, p6973, c6974, sg6975, p6978, c6979, sg6980, rfl, ho6971, ho6976, ho6981, K6983⟩
                have M6984 := M6965.call K6983
                refine ⟨_, rfl, ?_⟩
                refine W_run 3 [(0, .slice p3 x1.length c4), (24, .pointer (some ⟨b6961, 0, none⟩)), (25, .bool r6938.2), (187, .agg #[.slice p6968 r6966.1.Memory.length c6969, .slice p6973 r6966.1.Copy.length c6974, .slice p6978 r6966.1.Dirty.length c6979]), (188, .bool r6966.2)] w6982 (by kernel_rfl) ?_
                refine W_new (fun b => .pointer (some ⟨b, 0, none⟩)) (.cells ⟨[.slice none 0 0, .slice none 0 0, .slice none 0 0]⟩ 28 (0, 0)) M6984 rfl (by kernel_rfl) (by kernel_rfl) ?_
                intro b6989 w6990 M6991
                refine W_store _ _ _ true 3 b6989 0 [.slice none 0 0, .slice none 0 0, .slice none 0 0] 28 (.agg #[.slice p6968 r6966.1.Memory.length c6969, .slice p6973 r6966.1.Copy.length c6974, .slice p6978 r6966.1.Dirty.length c6979]) 8 [.slice p6968 r6966.1.Memory.length c6969, .slice p6973 r6966.1.Copy.length c6974, .slice p6978 r6966.1.Dirty.length c6979] M6991 (by kernel_rfl) rfl (by kernel_rfl) (by kernel_rfl) (by kernel_rfl) (by kernel_rfl) (by kernel_rfl) (by kernel_rfl) (by kernel_rfl) (by kernel_rfl) ?_
                intro w6992 M6993
                refine W_run 1 [(0, .slice p3 x1.length c4), (24, .pointer (some ⟨b6961, 0, none⟩)), (25, .bool r6938.2), (26, .pointer (some ⟨b6989, 0, none⟩)), (27, .bool r6966.2)] w6992 (by kernel_rfl) ?_
                refine W_nil ?_
                refine N_then ?_
                refine G_seq ?_
                obtain ⟨o6999, ho7000, hm7001⟩ := gx_bind hm
                refine G_meet (fun a w' => Mem [] w w' [] ∧ Sat Try.f12.ntmps [(0, .slice p3 x1.length c4), (197, .bool o6999)] a) ?_ ?_
                · have hm := ho7000
                  refine G_region ?_
                  refine W_run 4 [(0, .slice p3 x1.length c4), (24, .pointer (some ⟨b6961, 0, none⟩)), (26, .pointer (some ⟨b6989, 0, none⟩)), (192, .bool (!(r6938.2 == r6966.2)))] w6992 (by kernel_rfl) ?_
                  rcases gx_bif hm with ⟨hc7002, hm⟩ | ⟨hc7002, hm⟩
                  · refine W_known 192 true (by kernel_rfl) hc7002 ?_
                    refine W_run 5 [(0, .slice p3 x1.length c4), (197, .bool true)] w6992 (by kernel_rfl) ?_
                    refine W_nil ?_
                    obtain rfl := Option.some.inj hm
                    exact N_meet fun a ha => ⟨M6993.pick [] (by kernel_rfl), ha.sub (by kernel_rfl)⟩
                  · refine W_known 192 false (by kernel_rfl) hc7002 ?_
                    refine W_val (.agg #[.slice p6940 r6938.1.Memory.length c6941, .slice p6945 r6938.1.Copy.length c6946, .slice p6950 r6938.1.Dirty.length c6951]) w6992 (by kernel_rfl) (E_load (e := 28) (fr := (0, 0)) _ _ true 3 b6961 0 [.slice p6940 r6938.1.Memory.length c6941, .slice p6945 r6938.1.Copy.length c6946, .slice p6950 r6938.1.Dirty.length c6951] (.agg #[.slice p6940 r6938.1.Memory.length c6941, .slice p6945 r6938.1.Copy.length c6946, .slice p6950 r6938.1.Dirty.length c6951]) rfl (by kernel_rfl) (by kernel_rfl) (by kernel_rfl) (M6993.blk 4 (b := b6961) (o := .cells ⟨[.slice p6940 r6938.1.Memory.length c6941, .slice p6945 r6938.1.Copy.length c6946, .slice p6950 r6938.1.Dirty.length c6951]⟩ 28 (0, 0)) (by kernel_rfl))) ?_
                    refine W_val (.agg #[.slice p6968 r6966.1.Memory.length c6969, .slice p6973 r6966.1.Copy.length c6974, .slice p6978 r6966.1.Dirty.length c6979]) w6992 (by kernel_rfl) (E_load (e := 28) (fr := (0, 0)) _ _ true 3 b6989 0 [.slice p6968 r6966.1.Memory.length c6969, .slice p6973 r6966.1.Copy.length c6974, .slice p6978 r6966.1.Dirty.length c6979] (.agg #[.slice p6968 r6966.1.Memory.length c6969, .slice p6973 r6966.1.Copy.length c6974, .slice p6978 r6966.1.Dirty.length c6979]) rfl (by kernel_rfl) (by kernel_rfl) (by kernel_rfl) (M6993.blk 8 (b := b6989) (o := .cells ⟨[.slice p6968 r6966.1.Memory.length c6969, .slice p6973 r6966.1.Copy.length c6974, .slice p6978 r6966.1.Dirty.length c6979]⟩ 28 (0, 0)) (by kernel_rfl))) ?_
                    obtain ⟨r7003, hr7003, hm⟩ := gx_bind hm
                    refine W_call 45 #[.agg #[.slice p6940 r6938.1.Memory.length c6941, .slice p6945 r6938.1.Copy.length c6946, .slice p6950 r6938.1.Dirty.length c6951], .agg #[.slice p6968 r6966.1.Memory.length c6969, .slice p6973 r6966.1.Copy.length c6974, .slice p6978 r6966.1.Dirty.length c6979]] (by kernel_rfl) (by kernel_rfl) ?_
                    refine (c_l_vCopying w6992 r6938.1 p6940 c6941 (ho6943.rd M6993 1 (by kernel_rfl)) p6945 c6946 (ho6948.rd M6993 2 (by kernel_rfl)) p6950 c6951 (ho6953.rd M6993 3 (by kernel_rfl)) r6966.1 p6968 c6969 (ho6971.rd M6993 5 (by kernel_rfl)) p6973 c6974 (ho6976.rd M6993 6 (by kernel_rfl)) p6978 c6979 (ho6981.rd M6993 7 (by kernel_rfl)) hr7003).mono ?_
                    rintro e_ w7004 ⟨rfl, K7005⟩
                    have M7006 := M6993.call0 K7005
                    refine ⟨_, rfl, ?_⟩
                    refine W_run 2 [(0, .slice p3 x1.length c4), (197, .bool (!r7003))] w7004 (by kernel_rfl) ?_
                    refine W_nil ?_
                    obtain rfl := Option.some.inj hm
                    exact N_meet fun a ha => ⟨M7006.pick [] (by kernel_rfl), ha.sub (by kernel_rfl)⟩
                · intro a7009 w7007 ⟨M7008, hS7010⟩
                  refine N_use hS7010 ?_
                  have hm := hm7001
                  refine N_then ?_
                  rcases gx_bif hm with ⟨hc7011, hm⟩ | ⟨hc7011, hm⟩
                  · refine G_cond_t (b := o6999) hc7011 (by kernel_rfl) ?_
                    refine G_seq ?_
                    refine G_region ?_
                    refine W_run 1 [(2, .bool false)] w7007 (by kernel_rfl) ?_
                    refine W_nil ?_
                    refine N_then ?_
                    refine G_ret ?_
                    refine N_then_ret ?_
                    obtain rfl := Option.some.inj hm
                    refine N_ret [.bool false] (RVs_cons (RV_tmp (by kernel_rfl)) RVs_nil) ?_
                    exact ⟨rfl, M7008.pick [] (by kernel_rfl)⟩
                  · refine G_cond_f (b := o6999) hc7011 (by kernel_rfl) ?_
                    refine G_skip ?_
                    refine N_then ?_
                    refine G_seq ?_
                    refine G_region ?_
                    refine W_run 1 [(198, .slice p3 x1.length c4)] w7007 (by kernel_rfl) ?_
                    obtain ⟨r7107, hr7107, hm⟩ := gx_bind hm
                    refine W_call 53 #[.slice p3 x1.length c4] (by kernel_rfl) (by kernel_rfl) ?_
                    refine (c_s_DrawDirtyWords w7007 x1 p3 c4 (h5.mem0 M7008) hr7107).mono ?_
                    rintro e_ w7123 ⟨p7109, c7110, sg7111, p7114, c7115, sg7116, p7119, c7120, sg7121, rfl, ho7112, ho7117, ho7122, K7124⟩
                    have M7125 := M7008.call K7124
                    refine ⟨_, rfl, ?_⟩
                    refine W_new (fun b => .pointer (some ⟨b, 0, none⟩)) (.cells ⟨[.slice none 0 0, .slice none 0 0, .slice none 0 0]⟩ 28 (0, 0)) M7125 rfl (by kernel_rfl) (by kernel_rfl) ?_
                    intro b7130 w7131 M7132
                    refine W_store _ _ _ true 3 b7130 0 [.slice none 0 0, .slice none 0 0, .slice none 0 0] 28 (.agg #[.slice p7109 r7107.Memory.length c7110, .slice p7114 r7107.Copy.length c7115, .slice p7119 r7107.Dirty.length c7120]) 3 [.slice p7109 r7107.Memory.length c7110, .slice p7114 r7107.Copy.length c7115, .slice p7119 r7107.Dirty.length c7120] M7132 (by kernel_rfl) rfl (by kernel_rfl) (by kernel_rfl) (by kernel_rfl) (by kernel_rfl) (by kernel_rfl) (by kernel_rfl) (by kernel_rfl) (by kernel_rfl) ?_
                    intro w7133 M7134
                    refine W_nil ?_
                    refine N_then ?_
                    refine G_seq ?_
                    refine G_region ?_
                    refine W_val (.agg #[.slice p7109 r7107.Memory.length c7110, .slice p7114 r7107.Copy.length c7115, .slice p7119 r7107.Dirty.length c7120]) w7133 (by kernel_rfl) (E_load (e := 28) (fr := (0, 0)) _ _ true 3 b7130 0 [.slice p7109 r7107.Memory.length c7110, .slice p7114 r7107.Copy.length c7115, .slice p7119 r7107.Dirty.length c7120] (.agg #[.slice p7109 r7107.Memory.length c7110, .slice p7114 r7107.Copy.length c7115, .slice p7119 r7107.Dirty.length c7120]) rfl (by kernel_rfl) (by kernel_rfl) (by kernel_rfl) (M7134.blk 3 (b := b7130) (o := .cells ⟨[.slice p7109 r7107.Memory.length c7110, .slice p7114 r7107.Copy.length c7115, .slice p7119 r7107.Dirty.length c7120]⟩ 28 (0, 0)) (by kernel_rfl))) ?_
                    obtain ⟨r7135, hr7135, hm⟩ := gx_bind hm
                    refine W_call 26 #[.agg #[.slice p7109 r7107.Memory.length c7110, .slice p7114 r7107.Copy.length c7115, .slice p7119 r7107.Dirty.length c7120]] (by kernel_rfl) (by kernel_rfl) ?_
                    refine (c_i_DirtyWords w7133 r7107 p7109 c7110 (ho7112.rd M7134 0 (by kernel_rfl)) p7114 c7115 (ho7117.rd M7134 1 (by kernel_rfl)) p7119 c7120 (ho7122.rd M7134 2 (by kernel_rfl)) hr7135).mono ?_
                    rintro e_ w7141 ⟨p7137, c7138, sg7139, rfl, ho7140, K7142⟩
                    have M7143 := M7134.call K7142
                    refine ⟨_, rfl, ?_⟩
                    refine W_run 5 [(28, .pointer (some ⟨b7130, 0, none⟩)), (29, .slice p7137 r7135.1.length c7138), (30, .bool r7135.2)] w7141 (by kernel_rfl) ?_
                    refine W_nil ?_
                    refine N_then ?_
                    refine G_seq ?_
                    refine G_region ?_
                    refine W_val (.agg #[.slice p7109 r7107.Memory.length c7110, .slice p7114 r7107.Copy.length c7115, .slice p7119 r7107.Dirty.length c7120]) w7141 (by kernel_rfl) (E_load (e := 28) (fr := (0, 0)) _ _ true 3 b7130 0 [.slice p7109 r7107.Memory.length c7110, .slice p7114 r7107.Copy.length c7115, .slice p7119 r7107.Dirty.length c7120] (.agg #[.slice p7109 r7107.Memory.length c7110, .slice p7114 r7107.Copy.length c7115, .slice p7119 r7107.Dirty.length c7120]) rfl (by kernel_rfl) (by kernel_rfl) (by kernel_rfl) (M7143.blk 3 (b := b7130) (o := .cells ⟨[.slice p7109 r7107.Memory.length c7110, .slice p7114 r7107.Copy.length c7115, .slice p7119 r7107.Dirty.length c7120]⟩ 28 (0, 0)) (by kernel_rfl))) ?_
                    obtain ⟨r7384, hr7384, hm⟩ := gx_bind hm
                    refine W_call 25 #[.agg #[.slice p7109 r7107.Memory.length c7110, .slice p7114 r7107.Copy.length c7115, .slice p7119 r7107.Dirty.length c7120]] (by kernel_rfl) (by kernel_rfl) ?_
                    refine (c_s_DirtyWords w7141 r7107 p7109 c7110 (ho7112.rd M7143 0 (by kernel_rfl)) p7114 c7115 (ho7117.rd M7143 1 (by kernel_rfl)) p7119 c7120 (ho7122.rd M7143 2 (by kernel_rfl)) hr7384).mono ?_
                    rintro e_ w7390 ⟨p7386, c7387, sg7388, rfl, ho7389, K7391⟩
                    have M7392 := M7143.call K7391
                    refine ⟨_, rfl, ?_⟩
                    refine W_run 5 [(29, .slice p7137 r7135.1.length c7138), (30, .bool r7135.2), (31, .slice p7386 r7384.1.length c7387), (32, .bool r7384.2)] w7390 (by kernel_rfl) ?_
                    refine W_nil ?_
                    refine N_then ?_
                    refine G_seq ?_
                    obtain ⟨o7398, ho7399, hm7400⟩ := gx_bind hm
                    refine G_meet (fun a w' => Mem [] w w' [] ∧ Sat Try.f12.ntmps [(2, .bool o7398)] a) ?_ ?_
                    · have hm := ho7399
                      refine G_region ?_
                      refine W_run 4 [(29, .slice p7137 r7135.1.length c7138), (31, .slice p7386 r7384.1.length c7387), (213, .bool (r7135.2 == r7384.2))] w7390 (by kernel_rfl) ?_
                      rcases gx_bif hm with ⟨hc7401, hm⟩ | ⟨hc7401, hm⟩
                      · refine W_known 213 true (by kernel_rfl) hc7401 ?_
                        refine W_run 2 [(213, .bool true), (214, .slice p7137 r7135.1.length c7138), (215, .slice p7386 r7384.1.length c7387)] w7390 (by kernel_rfl) ?_
                        obtain ⟨r7402, hr7402, hm⟩ := gx_bind hm
                        refine W_call 46 #[.slice p7137 r7135.1.length c7138, .slice p7386 r7384.1.length c7387] (by kernel_rfl) (by kernel_rfl) ?_
                        refine (c_l_vInts w7390 r7135.1 p7137 c7138 (ho7140.rd M7392 4 (by kernel_rfl)) r7384.1 p7386 c7387 (ho7389.rd M7392 5 (by kernel_rfl)) hr7402).mono ?_
                        rintro e_ w7403 ⟨rfl, K7404⟩
                        have M7405 := M7392.call0 K7404
                        refine ⟨_, rfl, ?_⟩
                        refine W_run 2 [(2, .bool r7402)] w7403 (by kernel_rfl) ?_
                        refine W_nil ?_
                        obtain rfl := Option.some.inj hm
                        exact N_meet fun a ha => ⟨M7405.pick [] (by kernel_rfl), ha.sub (by kernel_rfl)⟩
                      · refine W_known 213 false (by kernel_rfl) hc7401 ?_
                        refine W_run 5 [(2, .bool false)] w7390 (by kernel_rfl) ?_
                        refine W_nil ?_
                        obtain rfl := Option.some.inj hm
                        exact N_meet fun a ha => ⟨M7392.pick [] (by kernel_rfl), ha.sub (by kernel_rfl)⟩
                    · intro a7408 w7406 ⟨M7407, hS7409⟩
                      refine N_use hS7409 ?_
                      have hm := hm7400
                      refine N_then ?_
                      refine G_ret ?_
                      obtain rfl := Option.some.inj hm
                      refine N_ret [.bool o7398] (RVs_cons (RV_tmp (by kernel_rfl)) RVs_nil) ?_
                      exact ⟨rfl, M7407.pick [] (by kernel_rfl)⟩
end Go.Proofs.Ytjbblcdajdpfkaa
