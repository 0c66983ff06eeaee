/- The walks, printed by program: whenever the model gives r, the call returns r. Part 2. -/
import Derived.Test.YtopnablbecepjaaRM
import Derived.Test.YtopnablbecepjaaProg
import Derived.Test.YtopnablbecepjaaRC1
set_option linter.unusedVariables false
set_option maxRecDepth 100000
set_option maxHeartbeats 4000000
namespace Go.Proofs.Ytopnablbecepjaa
open Go.Gx
theorem c_i_ringOf (w : World) (x2801 : Int) (x2802 : Int) (x2803 : List Int) (p2805 : Option Addr) (c2806 : Nat) (h2807 : rdS encI w x2803 p2805 c2806) {r : Ring} (hm : M.i_ringOf x2801 x2802 x2803 = some r) :
    Calls Try.prog 65 #[.int .i64 x2801, .int .i64 x2802, .slice p2805 x2803.length c2806] w fun e w' => ∃ (p2809 : Option Addr) (c2810 : Nat) (sg2811 : Seg), e = .returned (.agg #[.slice p2809 r.Items.length c2810, .int .i64 r.Head, .int .i64 r.Tail]) ∧ ownS encI r.Items p2809 c2810 sg2811 ∧ Mem [] w w' [sg2811] := by
  unfold M.i_ringOf at hm
  refine C_enter Try.func65 rfl (by kernel_rfl) ?_
  have M0 := Mem.refl [] w
  refine G_seq ?_
  refine G_region ?_
  refine W_new (fun b => .pointer (some ⟨b, 0, none⟩)) (.cells ⟨[.slice none 0 0, .int .i64 0, .int .i64 0]⟩ 27 (0, 0)) M0 rfl (by kernel_rfl) (by kernel_rfl) ?_
  intro b2814 w2815 M2816
  refine W_nil ?_
  refine N_then ?_
  refine G_seq ?_
  refine G_region ?_
  refine W_run 1 [(0, .int .i64 x2801), (1, .int .i64 x2802), (2, .slice p2805 x2803.length c2806), (6, .pointer (some ⟨b2814, 0, none⟩)), (10, .int .i64 x2801)] w2815 (by kernel_rfl) ?_
  obtain ⟨mk2817, hmk2817, hm⟩ := gx_bind hm
  refine W_make (E := encI) _ _ _ x2801 8 [.int .i64 0] (0 : Int) M2816 (by kernel_rfl) rfl (by kernel_rfl) (by kernel_rfl) (by kernel_rfl) (by kernel_rfl) (by kernel_rfl) hmk2817 ?_
  intro p2818 c2819 sg2820 w2821 ho2822 M2823
  refine W_run 7 [(0, .int .i64 x2801), (1, .int .i64 x2802), (2, .slice p2805 x2803.length c2806), (6, .pointer (some ⟨b2814, 0, none⟩)), (18, .agg #[.slice p2818 mk2817.length c2819, .int .i64 x2802, .int .i64 (gxAnd .i64 (w64 (x2802 + (x2803.length : Int))) 65535)])] w2821 (by kernel_rfl) ?_
  refine W_new (fun b => .pointer (some ⟨b, 0, none⟩)) (.cells ⟨[.slice none 0 0, .int .i64 0, .int .i64 0]⟩ 27 (0, 0)) M2823 rfl (by kernel_rfl) (by kernel_rfl) ?_
  intro b2828 w2829 M2830
  refine W_store _ _ _ true 3 b2828 0 [.slice none 0 0, .int .i64 0, .int .i64 0] 27 (.agg #[.slice p2818 mk2817.length c2819, .int .i64 x2802, .int .i64 (gxAnd .i64 (w64 (x2802 + (x2803.length : Int))) 65535)]) 2 [.slice p2818 mk2817.length c2819, .int .i64 x2802, .int .i64 (gxAnd .i64 (w64 (x2802 + (x2803.length : Int))) 65535)] M2830 (by kernel_rfl) rfl (by kernel_rfl) (by kernel_rfl) (by kernel_rfl) (by kernel_rfl) (by kernel_rfl) (by kernel_rfl) (by kernel_rfl) (by kernel_rfl) ?_
  intro w2831 M2832
  refine W_nil ?_
  refine N_then ?_
  refine G_seq ?_
  refine G_seq ?_
  refine G_region ?_
  refine W_run 3 [(0, .int .i64 x2801), (1, .int .i64 x2802), (6, .pointer (some ⟨b2814, 0, none⟩)), (7, .pointer (some ⟨b2828, 0, none⟩)), (19, .slice p2805 x2803.length c2806), (20, .int .i64 (x2803.length : Int)), (21, .int .i64 0)] w2831 (by kernel_rfl) ?_
  refine W_nil ?_
  refine N_then ?_
  obtain ⟨out2934, hw2935, hmo2936⟩ := gx_bind hm
  refine G_meet (fun a w' => ∃ (sg2940 : Seg), ownS encI out2934 p2818 c2819 sg2940 ∧ Mem [] w w' [[(b2814, .cells ⟨[.slice none 0 0, .int .i64 0, .int .i64 0]⟩ 27 (0, 0))], [(b2828, .cells ⟨[.slice p2818 out2934.length c2819, .int .i64 x2802, .int .i64 (gxAnd .i64 (w64 (x2802 + (x2803.length : Int))) 65535)]⟩ 27 (0, 0))], sg2940] ∧ Sat Try.f65.ntmps [(6, .pointer (some ⟨b2814, 0, none⟩)), (7, .pointer (some ⟨b2828, 0, none⟩))] a) ?_ ?_
  · refine G_block ?_
    refine G_while (σ := Int × List Int) (ρ := List Int) (fun s2927 a w' => ∃ (sg2937 : Seg), ownS encI s2927.2 p2818 c2819 sg2937 ∧ Mem [] w w' [[(b2814, .cells ⟨[.slice none 0 0, .int .i64 0, .int .i64 0]⟩ 27 (0, 0))], [(b2828, .cells ⟨[.slice p2818 s2927.2.length c2819, .int .i64 x2802, .int .i64 (gxAnd .i64 (w64 (x2802 + (x2803.length : Int))) 65535)]⟩ 27 (0, 0))], sg2937] ∧ Sat Try.f65.ntmps [(0, .int .i64 x2801), (1, .int .i64 x2802), (6, .pointer (some ⟨b2814, 0, none⟩)), (7, .pointer (some ⟨b2828, 0, none⟩)), (19, .slice p2805 x2803.length c2806), (20, .int .i64 (x2803.length : Int)), (21, .int .i64 s2927.1)] a) hw2935 (fun a ha => ⟨sg2820, ho2822, M2832.pick [0, 2, 1] (by kernel_rfl), ha.sub (by kernel_rfl)⟩) ?_
    clear hm
    intro s2927 x2928 hm hout2929 a2930 w2931 ⟨sg2937, ho2938, M2932, hS2933⟩
    refine G_use hS2933 ?_
    refine G_seq ?_
    refine G_region ?_
    refine W_run 1 [(0, .int .i64 x2801), (1, .int .i64 x2802), (6, .pointer (some ⟨b2814, 0, none⟩)), (7, .pointer (some ⟨b2828, 0, none⟩)), (19, .slice p2805 x2803.length c2806), (20, .int .i64 (x2803.length : Int)), (21, .int .i64 s2927.1), (22, .bool (decide (s2927.1 < (x2803.length : Int))))] w2931 (by kernel_rfl) ?_
    refine W_nil ?_
    refine N_then ?_
    refine G_seq ?_
    rcases gx_bif hm with ⟨hc2942, hm⟩ | ⟨hc2942, hm⟩
    · refine G_cond_t (b := (decide (s2927.1 < (x2803.length : Int)))) hc2942 (by kernel_rfl) ?_
      refine G_skip ?_
      refine N_then ?_
      refine G_seq ?_
      refine G_block ?_
      refine G_seq ?_
      refine G_region ?_
      refine W_run 1 [(0, .int .i64 x2801), (1, .int .i64 x2802), (6, .pointer (some ⟨b2814, 0, none⟩)), (7, .pointer (some ⟨b2828, 0, none⟩)), (19, .slice p2805 x2803.length c2806), (20, .int .i64 (x2803.length : Int)), (21, .int .i64 s2927.1), (23, .int .i64 s2927.1)] w2931 (by kernel_rfl) ?_
      obtain ⟨y2943, hy2943, hm⟩ := gx_bind hm
      refine W_val (elemP p2805 (s2927.1.toNat * 1)) w2931 (by kernel_rfl) (E_index (E := encI) _ _ _ x2803.length c2806 .i64 s2927.1 1 (y := y2943) rfl (by kernel_rfl) (by kernel_rfl) (by kernel_rfl) (h2807.mem0 M2932) rfl hy2943) ?_
      refine W_val (.int .i64 y2943) w2931 (by kernel_rfl) (E_loadE (E := encI) _ _ false 1 s2927.1 0 (s2927.1.toNat * 1) y2943 (.int .i64 y2943) rfl (by kernel_rfl) (by kernel_rfl) (by kernel_rfl) (h2807.mem0 M2932) hy2943 rfl) ?_
      refine W_run 2 [(0, .int .i64 x2801), (1, .int .i64 x2802), (6, .pointer (some ⟨b2814, 0, none⟩)), (7, .pointer (some ⟨b2828, 0, none⟩)), (8, .int .i64 s2927.1), (9, .int .i64 y2943), (19, .slice p2805 x2803.length c2806), (20, .int .i64 (x2803.length : Int)), (21, .int .i64 s2927.1)] w2931 (by kernel_rfl) ?_
      refine W_nil ?_
      refine N_then ?_
      obtain ⟨q2946, hq2946, hm⟩ := gx_bind hm
      refine G_sub [(0, .int .i64 x2801), (1, .int .i64 x2802), (6, .pointer (some ⟨b2814, 0, none⟩)), (7, .pointer (some ⟨b2828, 0, none⟩)), (8, .int .i64 s2927.1), (9, .int .i64 y2943), (19, .slice p2805 x2803.length c2806), (20, .int .i64 (x2803.length : Int)), (21, .int .i64 s2927.1)] (by kernel_rfl) ?_
      refine G_dagL 8 [[], [0], [], [], [2, 3], [], [4, 5], []] [[], [], [], [], [], [], [], []] [[], [], [], [], [], [], [], []] [[], [], [], [], [], [], [], []] [[], [], [], [], [], [], [], []] [[], [], [], [], [], [], [], []] (fun _ => []) (fun i => ([fun f v s => v = (.pointer (some ⟨b2828, 0, none⟩) : Value) ∧ s = [], fun f v s => v = (.slice p2818 s2927.2.length c2819 : Value) ∧ s = [], fun f v s => v = (.int .i64 x2802 : Value) ∧ s = [], fun f v s => v = (.int .i64 s2927.1 : Value) ∧ s = [], fun f v s => v = (.int .i64 (w64 (x2802 + s2927.1)) : Value) ∧ s = [], fun f v s => v = (.int .i64 x2801 : Value) ∧ s = [], fun f v s => v = (.int .i64 q2946 : Value) ∧ s = [], fun f v s => v = (.int .i64 y2943 : Value) ∧ s = []] : List ((Nat → Value) → Value → Seg → Prop)).getD i (fun _ _ _ => False)) (fun j f v => ∃ s, (fun i => ([fun f v s => v = (.pointer (some ⟨b2828, 0, none⟩) : Value) ∧ s = [], fun f v s => v = (.slice p2818 s2927.2.length c2819 : Value) ∧ s = [], fun f v s => v = (.int .i64 x2802 : Value) ∧ s = [], fun f v s => v = (.int .i64 s2927.1 : Value) ∧ s = [], fun f v s => v = (.int .i64 (w64 (x2802 + s2927.1)) : Value) ∧ s = [], fun f v s => v = (.int .i64 x2801 : Value) ∧ s = [], fun f v s => v = (.int .i64 q2946 : Value) ∧ s = [], fun f v s => v = (.int .i64 y2943 : Value) ∧ s = []] : List ((Nat → Value) → Value → Seg → Prop)).getD i (fun _ _ _ => False)) j f v s) [] [1, 6, 7] [] (fun _ _ _ s h => ⟨s, h⟩) (by kernel_rfl) (by kernel_rfl) (M2932.preNil 8) (by kernel_rfl) (by kernel_rfl) (by kernel_rfl) (by kernel_rfl) (allOb_cons ?_ (allOb_cons ?_ (allOb_cons ?_ (allOb_cons ?_ (allOb_cons ?_ (allOb_cons ?_ (allOb_cons ?_ (allOb_cons ?_ allOb_nil)))))))) ?_
      · intro g2944 f2945
        intro R w2947 M2948
        refine W_run 1 [(26, .pointer (some ⟨b2828, 0, none⟩))] w2947 (by kernel_rfl) ?_
        exact W_nil (ob_end (.pointer (some ⟨b2828, 0, none⟩)) [] rfl (by kernel_rfl) ⟨by kernel_rfl, rfl⟩ M2948)
      · intro g2944 f2945
        intro v0_ hb0_
        obtain ⟨rfl, _⟩ := hb0_
        intro R w2951 M2952
        refine W_val (.slice p2818 s2927.2.length c2819) w2951 (by kernel_rfl) (E_load (e := 27) (fr := (0, 0)) _ _ false 1 b2828 0 [.slice p2818 s2927.2.length c2819, .int .i64 x2802, .int .i64 (gxAnd .i64 (w64 (x2802 + (x2803.length : Int))) 65535)] (.slice p2818 s2927.2.length c2819) rfl (by kernel_rfl) (by kernel_rfl) (by kernel_rfl) (M2952.blk 1 (b := b2828) (o := .cells ⟨[.slice p2818 s2927.2.length c2819, .int .i64 x2802, .int .i64 (gxAnd .i64 (w64 (x2802 + (x2803.length : Int))) 65535)]⟩ 27 (0, 0)) (by kernel_rfl))) ?_
        exact W_nil (ob_end (.slice p2818 s2927.2.length c2819) [] rfl (by kernel_rfl) ⟨by kernel_rfl, rfl⟩ M2952)
      · intro g2944 f2945
        intro R w2955 M2956
        refine W_run 1 [(28, .int .i64 x2802)] w2955 (by kernel_rfl) ?_
        exact W_nil (ob_end (.int .i64 x2802) [] rfl (by kernel_rfl) ⟨by kernel_rfl, rfl⟩ M2956)
      · intro g2944 f2945
        intro R w2959 M2960
        refine W_run 1 [(29, .int .i64 s2927.1)] w2959 (by kernel_rfl) ?_
        exact W_nil (ob_end (.int .i64 s2927.1) [] rfl (by kernel_rfl) ⟨by kernel_rfl, rfl⟩ M2960)
      · intro g2944 f2945
        intro v2_ hb2_
        obtain ⟨rfl, _⟩ := hb2_
        intro v3_ hb3_
        obtain ⟨rfl, _⟩ := hb3_
        intro R w2963 M2964
        refine W_run 1 [(30, .int .i64 (w64 (x2802 + s2927.1)))] w2963 (by kernel_rfl) ?_
        exact W_nil (ob_end (.int .i64 (w64 (x2802 + s2927.1))) [] rfl (by kernel_rfl) ⟨by kernel_rfl, rfl⟩ M2964)
      · intro g2944 f2945
        intro R w2967 M2968
        refine W_run 1 [(31, .int .i64 x2801)] w2967 (by kernel_rfl) ?_
        exact W_nil (ob_end (.int .i64 x2801) [] rfl (by kernel_rfl) ⟨by kernel_rfl, rfl⟩ M2968)
      · intro g2944 f2945
        intro v4_ hb4_
        obtain ⟨rfl, _⟩ := hb4_
        intro v5_ hb5_
        obtain ⟨rfl, _⟩ := hb5_
        intro R w2971 M2972
        refine W_val (.int .i64 q2946) w2971 (by kernel_rfl) (E_rem _ _ _ _ (w64 (x2802 + s2927.1)) x2801 q2946 rfl (by kernel_rfl) (by kernel_rfl) hq2946) ?_
        exact W_nil (ob_end (.int .i64 q2946) [] rfl (by kernel_rfl) ⟨by kernel_rfl, rfl⟩ M2972)
      · intro g2944 f2945
        intro R w2975 M2976
        refine W_run 1 [(33, .int .i64 y2943)] w2975 (by kernel_rfl) ?_
        exact W_nil (ob_end (.int .i64 y2943) [] rfl (by kernel_rfl) ⟨by kernel_rfl, rfl⟩ M2976)
      · intro g2944 f2945
        intro v1_ hb1_
        obtain ⟨rfl, _⟩ := hb1_
        intro v6_ hb6_
        obtain ⟨rfl, _⟩ := hb6_
        intro v7_ hb7_
        obtain ⟨rfl, _⟩ := hb7_
        intro w2979 M2980
        have M2981 : Mem [] w w2979 [[(b2814, .cells ⟨[.slice none 0 0, .int .i64 0, .int .i64 0]⟩ 27 (0, 0))], [(b2828, .cells ⟨[.slice p2818 s2927.2.length c2819, .int .i64 x2802, .int .i64 (gxAnd .i64 (w64 (x2802 + (x2803.length : Int))) 65535)]⟩ 27 (0, 0))], sg2937] := M2980
        obtain ⟨y2982, hy2982, hm⟩ := gx_bind hm
        refine W_val (elemP p2818 (q2946.toNat * 1)) w2979 (by kernel_rfl) (E_index (E := encI) _ _ _ s2927.2.length c2819 .i64 q2946 1 (y := y2982) rfl (by kernel_rfl) (by kernel_rfl) (by kernel_rfl) (ho2938.rd M2981 2 (by kernel_rfl)) rfl hy2982) ?_
        refine W_storeE (E := encI) _ _ _ false 1 q2946.toNat 0 (q2946.toNat * 1) y2982 y2943 (.int .i64 y2943) 2 M2981 ho2938 (by kernel_rfl) (by kernel_rfl) rfl (by kernel_rfl) (by kernel_rfl) (by kernel_rfl) (by kernel_rfl) (by kernel_rfl) (by kernel_rfl) (by kernel_rfl) (gxIdx_spec hy2982).2 rfl ?_
        intro w2983 sg2985 ho2986 M2984
        refine W_conv 27 (.slice p2818 s2927.2.length c2819) (.slice p2818 (s2927.2.set q2946.toNat y2943).length c2819) (by kernel_rfl) (by rw [@List.length_set _ s2927.2 q2946.toNat y2943]) ?_
        have M2987 : Mem [] w w2983 [[(b2814, .cells ⟨[.slice none 0 0, .int .i64 0, .int .i64 0]⟩ 27 (0, 0))], [(b2828, .cells ⟨[.slice p2818 (s2927.2.set q2946.toNat y2943).length c2819, .int .i64 x2802, .int .i64 (gxAnd .i64 (w64 (x2802 + (x2803.length : Int))) 65535)]⟩ 27 (0, 0))], sg2985] := by rw [@List.length_set _ s2927.2 q2946.toNat y2943]; exact M2984
        refine W_nil ?_
        refine N_block ?_
        refine N_then ?_
        refine G_region ?_
        refine W_run 2 [(0, .int .i64 x2801), (1, .int .i64 x2802), (6, .pointer (some ⟨b2814, 0, none⟩)), (7, .pointer (some ⟨b2828, 0, none⟩)), (19, .slice p2805 x2803.length c2806), (20, .int .i64 (x2803.length : Int)), (21, .int .i64 (w64 (s2927.1 + 1)))] w2983 (by kernel_rfl) ?_
        refine W_nil ?_
        obtain rfl := Option.some.inj hm
        exact N_loop fun a ha => ⟨_, rfl, sg2985, ho2986, M2987.pick [0, 1, 2] (by kernel_rfl), ha.sub (by kernel_rfl)⟩
    · refine G_cond_f (b := (decide (s2927.1 < (x2803.length : Int)))) hc2942 (by kernel_rfl) ?_
      refine G_exit ?_
      refine N_then_exit ?_
      refine N_then_exit ?_
      refine N_block_eq ?_
      obtain rfl := Option.some.inj hm
      obtain rfl := hout2929 _ rfl
      exact N_meet fun a ha => ⟨sg2937, ho2938, M2932.pick [0, 1, 2] (by kernel_rfl), ha.sub (by kernel_rfl)⟩
  · intro a2988 w2989 ⟨sg2940, ho2941, M2990, hS2991⟩
    refine N_use hS2991 ?_
    have hm := hmo2936
    refine N_then ?_
    refine G_seq ?_
    refine G_region ?_
    refine W_val (.agg #[.slice p2818 out2934.length c2819, .int .i64 x2802, .int .i64 (gxAnd .i64 (w64 (x2802 + (x2803.length : Int))) 65535)]) w2989 (by kernel_rfl) (E_load (e := 27) (fr := (0, 0)) _ _ true 3 b2828 0 [.slice p2818 out2934.length c2819, .int .i64 x2802, .int .i64 (gxAnd .i64 (w64 (x2802 + (x2803.length : Int))) 65535)] (.agg #[.slice p2818 out2934.length c2819, .int .i64 x2802, .int .i64 (gxAnd .i64 (w64 (x2802 + (x2803.length : Int))) 65535)]) rfl (by kernel_rfl) (by kernel_rfl) (by kernel_rfl) (M2990.blk 1 (b := b2828) (o := .cells ⟨[.slice p2818 out2934.length c2819, .int .i64 x2802, .int .i64 (gxAnd .i64 (w64 (x2802 + (x2803.length : Int))) 65535)]⟩ 27 (0, 0)) (by kernel_rfl))) ?_
    refine W_store _ _ _ true 3 b2814 0 [.slice none 0 0, .int .i64 0, .int .i64 0] 27 (.agg #[.slice p2818 out2934.length c2819, .int .i64 x2802, .int .i64 (gxAnd .i64 (w64 (x2802 + (x2803.length : Int))) 65535)]) 0 [.slice p2818 out2934.length c2819, .int .i64 x2802, .int .i64 (gxAnd .i64 (w64 (x2802 + (x2803.length : Int))) 65535)] M2990 (by kernel_rfl) rfl (by kernel_rfl) (by kernel_rfl) (by kernel_rfl) (by kernel_rfl) (by kernel_rfl) (by kernel_rfl) (by kernel_rfl) (by kernel_rfl) ?_
    intro w2992 M2993
    refine W_nil ?_
    refine N_then ?_
    refine G_ret ?_
    obtain rfl := Option.some.inj hm
    refine N_ret [.agg #[.slice p2818 out2934.length c2819, .int .i64 x2802, .int .i64 (gxAnd .i64 (w64 (x2802 + (x2803.length : Int))) 65535)]] (RVs_cons (RV_cell (g := true) (k := 3) (b := b2814) (off := 0) (cs := [.slice p2818 out2934.length c2819, .int .i64 x2802, .int .i64 (gxAnd .i64 (w64 (x2802 + (x2803.length : Int))) 65535)]) (e := 27) (fr := (0, 0)) (v := .agg #[.slice p2818 out2934.length c2819, .int .i64 x2802, .int .i64 (gxAnd .i64 (w64 (x2802 + (x2803.length : Int))) 65535)]) (M2993.blk 0 (b := b2814) (o := .cells ⟨[.slice p2818 out2934.length c2819, .int .i64 x2802, .int .i64 (gxAnd .i64 (w64 (x2802 + (x2803.length : Int))) 65535)]⟩ 27 (0, 0)) (by kernel_rfl)) (by kernel_rfl) (by kernel_rfl) (by kernel_rfl)) RVs_nil) ?_
    exact ⟨p2818, c2819, sg2940, rfl, ho2941, M2993.pick [2] (by kernel_rfl)⟩
theorem c_i_ResizeRing (w : World) (x2152 : Ring) (p2154 : Option Addr) (c2155 : Nat) (h2156 : rdS encI w x2152.Items p2154 c2155) (x2157 : Int) {r : Ring × Bool} (hm : M.i_ResizeRing x2152 x2157 = some r) :
    Calls Try.prog 35 #[.agg #[.slice p2154 x2152.Items.length c2155, .int .i64 x2152.Head, .int .i64 x2152.Tail], .int .i64 x2157] w fun e w' => ∃ (p2159 : Option Addr) (c2160 : Nat) (sg2161 : Seg), e = .returned (.tuple #[.agg #[.slice p2159 r.1.Items.length c2160, .int .i64 r.1.Head, .int .i64 r.1.Tail], .bool r.2]) ∧ ownS encI r.1.Items p2159 c2160 sg2161 ∧ Mem [] w w' [sg2161] := by
  unfold M.i_ResizeRing at hm
  refine C_enter Try.func35 rfl (by kernel_rfl) ?_
  have M0 := Mem.refl [] w
  refine G_seq ?_
  refine G_region ?_
  refine W_new (fun b => .pointer (some ⟨b, 0, none⟩)) (.cells ⟨[.slice p2154 x2152.Items.length c2155, .int .i64 x2152.Head, .int .i64 x2152.Tail]⟩ 27 (0, 0)) M0 rfl (by kernel_rfl) (by kernel_rfl) ?_
  intro b2163 w2164 M2165
  refine W_new (fun b => .pointer (some ⟨b, 0, none⟩)) (.cells ⟨[.slice none 0 0, .int .i64 0, .int .i64 0]⟩ 27 (0, 0)) M2165 rfl (by kernel_rfl) (by kernel_rfl) ?_
  intro b2168 w2169 M2170
  refine W_run 1 [(1, .int .i64 x2157), (2, .pointer (some ⟨b2163, 0, none⟩)), (4, .pointer (some ⟨b2168, 0, none⟩))] w2169 (by kernel_rfl) ?_
  refine W_nil ?_
  refine N_then ?_
  refine G_seq ?_
  refine G_seq ?_
  obtain ⟨o2458, ho2459, hm2460⟩ := gx_bind hm
  refine G_meet (fun a w' => Mem [] w w' [[(b2163, .cells ⟨[.slice p2154 x2152.Items.length c2155, .int .i64 x2152.Head, .int .i64 x2152.Tail]⟩ 27 (0, 0))], [(b2168, .cells ⟨[.slice none 0 0, .int .i64 0, .int .i64 0]⟩ 27 (0, 0))]] ∧ Sat Try.f35.ntmps [(1, .int .i64 x2157), (2, .pointer (some ⟨b2163, 0, none⟩)), (4, .pointer (some ⟨b2168, 0, none⟩)), (19, .bool o2458)] a) ?_ ?_
  · have hm := ho2459
    refine G_region ?_
    refine W_val (.agg #[.slice p2154 x2152.Items.length c2155, .int .i64 x2152.Head, .int .i64 x2152.Tail]) w2169 (by kernel_rfl) (E_load (e := 27) (fr := (0, 0)) _ _ true 3 b2163 0 [.slice p2154 x2152.Items.length c2155, .int .i64 x2152.Head, .int .i64 x2152.Tail] (.agg #[.slice p2154 x2152.Items.length c2155, .int .i64 x2152.Head, .int .i64 x2152.Tail]) rfl (by kernel_rfl) (by kernel_rfl) (by kernel_rfl) (M2170.blk 0 (b := b2163) (o := .cells ⟨[.slice p2154 x2152.Items.length c2155, .int .i64 x2152.Head, .int .i64 x2152.Tail]⟩ 27 (0, 0)) (by kernel_rfl))) ?_
    obtain ⟨r2461, hr2461, hm⟩ := gx_bind hm
    refine W_call 24 #[.agg #[.slice p2154 x2152.Items.length c2155, .int .i64 x2152.Head, .int .i64 x2152.Tail]] (by kernel_rfl) (by kernel_rfl) ?_
    refine (c_i_IsRing w2169 x2152 p2154 c2155 (h2156.mem0 M2170) hr2461).mono ?_
    rintro e_ w2462 ⟨rfl, K2463⟩
    have M2464 := M2170.call0 K2463
    refine ⟨_, rfl, ?_⟩
    refine W_run 2 [(1, .int .i64 x2157), (2, .pointer (some ⟨b2163, 0, none⟩)), (4, .pointer (some ⟨b2168, 0, none⟩)), (9, .bool (!r2461))] w2462 (by kernel_rfl) ?_
    rcases gx_bif hm with ⟨hc2465, hm⟩ | ⟨hc2465, hm⟩
    · refine W_known 9 true (by kernel_rfl) hc2465 ?_
      refine W_run 10 [(1, .int .i64 x2157), (2, .pointer (some ⟨b2163, 0, none⟩)), (4, .pointer (some ⟨b2168, 0, none⟩)), (19, .bool true)] w2462 (by kernel_rfl) ?_
      refine W_nil ?_
      obtain rfl := Option.some.inj hm
      exact N_meet fun a ha => ⟨M2464.pick [0, 1] (by kernel_rfl), ha.sub (by kernel_rfl)⟩
    · refine W_known 9 false (by kernel_rfl) hc2465 ?_
      refine W_run 1 [(1, .int .i64 x2157), (2, .pointer (some ⟨b2163, 0, none⟩)), (4, .pointer (some ⟨b2168, 0, none⟩)), (9, .bool false), (10, .int .i64 x2157)] w2462 (by kernel_rfl) ?_
      obtain ⟨r2466, hr2466, hm⟩ := gx_bind hm
      refine W_call 56 #[.int .i64 x2157] (by kernel_rfl) (by kernel_rfl) ?_
      refine (c_i_arePlaces w2462 x2157 hr2466).mono ?_
      rintro e_ w2467 ⟨rfl, K2468⟩
      have M2469 := M2464.call0 K2468
      refine ⟨_, rfl, ?_⟩
      refine W_run 3 [(1, .int .i64 x2157), (2, .pointer (some ⟨b2163, 0, none⟩)), (4, .pointer (some ⟨b2168, 0, none⟩)), (14, .bool (!r2466))] w2467 (by kernel_rfl) ?_
      rcases gx_bif hm with ⟨hc2470, hm⟩ | ⟨hc2470, hm⟩
      · refine W_known 14 true (by kernel_rfl) hc2470 ?_
        refine W_run 5 [(1, .int .i64 x2157), (2, .pointer (some ⟨b2163, 0, none⟩)), (4, .pointer (some ⟨b2168, 0, none⟩)), (19, .bool true)] w2467 (by kernel_rfl) ?_
        refine W_nil ?_
        obtain rfl := Option.some.inj hm
        exact N_meet fun a ha => ⟨M2469.pick [0, 1] (by kernel_rfl), ha.sub (by kernel_rfl)⟩
      · refine W_known 14 false (by kernel_rfl) hc2470 ?_
        refine W_val (.agg #[.slice p2154 x2152.Items.length c2155, .int .i64 x2152.Head, .int .i64 x2152.Tail]) w2467 (by kernel_rfl) (E_load (e := 27) (fr := (0, 0)) _ _ true 3 b2163 0 [.slice p2154 x2152.Items.length c2155, .int .i64 x2152.Head, .int .i64 x2152.Tail] (.agg #[.slice p2154 x2152.Items.length c2155, .int .i64 x2152.Head, .int .i64 x2152.Tail]) rfl (by kernel_rfl) (by kernel_rfl) (by kernel_rfl) (M2469.blk 0 (b := b2163) (o := .cells ⟨[.slice p2154 x2152.Items.length c2155, .int .i64 x2152.Head, .int .i64 x2152.Tail]⟩ 27 (0, 0)) (by kernel_rfl))) ?_
        obtain ⟨r2471, hr2471, hm⟩ := gx_bind hm
        refine W_call 59 #[.agg #[.slice p2154 x2152.Items.length c2155, .int .i64 x2152.Head, .int .i64 x2152.Tail]] (by kernel_rfl) (by kernel_rfl) ?_
        refine (c_i_Ring_count w2467 x2152 p2154 c2155 (h2156.mem0 M2469) hr2471).mono ?_
        rintro e_ w2472 ⟨rfl, K2473⟩
        have M2474 := M2469.call0 K2473
        refine ⟨_, rfl, ?_⟩
        refine W_run 3 [(1, .int .i64 x2157), (2, .pointer (some ⟨b2163, 0, none⟩)), (4, .pointer (some ⟨b2168, 0, none⟩)), (19, .bool (decide (r2471 > x2157)))] w2472 (by kernel_rfl) ?_
        refine W_nil ?_
        obtain rfl := Option.some.inj hm
        exact N_meet fun a ha => ⟨M2474.pick [0, 1] (by kernel_rfl), ha.sub (by kernel_rfl)⟩
  · intro a2477 w2475 ⟨M2476, hS2478⟩
    refine N_use hS2478 ?_
    have hm := hm2460
    refine N_then ?_
    rcases gx_bif hm with ⟨hc2479, hm⟩ | ⟨hc2479, hm⟩
    · refine G_cond_t (b := o2458) hc2479 (by kernel_rfl) ?_
      refine G_seq ?_
      refine G_region ?_
      refine W_run 1 [(4, .pointer (some ⟨b2168, 0, none⟩)), (20, .agg #[.slice none 0 0, .int .i64 0, .int .i64 0])] w2475 (by kernel_rfl) ?_
      refine W_store _ _ _ true 3 b2168 0 [.slice none 0 0, .int .i64 0, .int .i64 0] 27 (.agg #[.slice none 0 0, .int .i64 0, .int .i64 0]) 1 [.slice none 0 0, .int .i64 0, .int .i64 0] M2476 (by kernel_rfl) rfl (by kernel_rfl) (by kernel_rfl) (by kernel_rfl) (by kernel_rfl) (by kernel_rfl) (by kernel_rfl) (by kernel_rfl) (by kernel_rfl) ?_
      intro w2481 M2482
      refine W_run 1 [(4, .pointer (some ⟨b2168, 0, none⟩)), (5, .bool false)] w2481 (by kernel_rfl) ?_
      refine W_nil ?_
      refine N_then ?_
      refine G_ret ?_
      refine N_then_ret ?_
      obtain rfl := Option.some.inj hm
      refine N_ret [.agg #[.slice none 0 0, .int .i64 0, .int .i64 0], .bool false] (RVs_cons (RV_cell (g := true) (k := 3) (b := b2168) (off := 0) (cs := [.slice none 0 0, .int .i64 0, .int .i64 0]) (e := 27) (fr := (0, 0)) (v := .agg #[.slice none 0 0, .int .i64 0, .int .i64 0]) (M2482.blk 1 (b := b2168) (o := .cells ⟨[.slice none 0 0, .int .i64 0, .int .i64 0]⟩ 27 (0, 0)) (by kernel_rfl)) (by kernel_rfl) (by kernel_rfl) (by kernel_rfl)) (RVs_cons (RV_tmp (by kernel_rfl)) RVs_nil)) ?_
      exact ⟨none, 0, [], rfl, ownS_nil, M2482.pick [100000] (by kernel_rfl)⟩
    · refine G_cond_f (b := o2458) hc2479 (by kernel_rfl) ?_
      refine G_skip ?_
      refine N_then ?_
      refine G_seq ?_
      obtain ⟨r2771, hr2771, hm⟩ := gx_bind hm
      refine G_sub [(1, .int .i64 x2157), (2, .pointer (some ⟨b2163, 0, none⟩)), (4, .pointer (some ⟨b2168, 0, none⟩)), (19, .bool o2458)] (by kernel_rfl) ?_
      refine G_dagL 5 [[], [], [1], [], [3]] [[], [], [], [], []] [[], [], [], [], []] [[], [], [], [], []] [[], [], [], [], []] [[], [], [], [], []] (fun _ => []) (fun i => ([fun f v s => v = (.int .i64 x2157 : Value) ∧ s = [], fun f v s => v = (.pointer (some ⟨b2163, 1, none⟩) : Value) ∧ s = [], fun f v s => v = (.int .i64 x2152.Head : Value) ∧ s = [], fun f v s => v = (.agg #[.slice p2154 x2152.Items.length c2155, .int .i64 x2152.Head, .int .i64 x2152.Tail] : Value) ∧ s = [], fun f v s => ∃ (p2773 : Option Addr) (c2774 : Nat), v = (.slice p2773 r2771.length c2774 : Value) ∧ ownS encI r2771 p2773 c2774 s] : List ((Nat → Value) → Value → Seg → Prop)).getD i (fun _ _ _ => False)) (fun j f v => ∃ s, (fun i => ([fun f v s => v = (.int .i64 x2157 : Value) ∧ s = [], fun f v s => v = (.pointer (some ⟨b2163, 1, none⟩) : Value) ∧ s = [], fun f v s => v = (.int .i64 x2152.Head : Value) ∧ s = [], fun f v s => v = (.agg #[.slice p2154 x2152.Items.length c2155, .int .i64 x2152.Head, .int .i64 x2152.Tail] : Value) ∧ s = [], fun f v s => ∃ (p2773 : Option Addr) (c2774 : Nat), v = (.slice p2773 r2771.length c2774 : Value) ∧ ownS encI r2771 p2773 c2774 s] : List ((Nat → Value) → Value → Seg → Prop)).getD i (fun _ _ _ => False)) j f v s) [] [0, 2, 4] [4] (fun _ _ _ s h => ⟨s, h⟩) (by kernel_rfl) (by kernel_rfl) (M2476.preNil 5) (by kernel_rfl) (by kernel_rfl) (by kernel_rfl) (by kernel_rfl) (allOb_cons ?_ (allOb_cons ?_ (allOb_cons ?_ (allOb_cons ?_ (allOb_cons ?_ allOb_nil))))) ?_
      · intro g2483 f2484
        intro R w2777 M2778
        refine W_run 1 [(21, .int .i64 x2157)] w2777 (by kernel_rfl) ?_
        exact W_nil (ob_end (.int .i64 x2157) [] rfl (by kernel_rfl) ⟨by kernel_rfl, rfl⟩ M2778)
      · intro g2483 f2484
        intro R w2781 M2782
        refine W_run 1 [(22, .pointer (some ⟨b2163, 1, none⟩))] w2781 (by kernel_rfl) ?_
        exact W_nil (ob_end (.pointer (some ⟨b2163, 1, none⟩)) [] rfl (by kernel_rfl) ⟨by kernel_rfl, rfl⟩ M2782)
      · intro g2483 f2484
        intro v1_ hb1_
        obtain ⟨rfl, _⟩ := hb1_
        intro R w2785 M2786
        refine W_val (.int .i64 x2152.Head) w2785 (by kernel_rfl) (E_load (e := 27) (fr := (0, 0)) _ _ false 1 b2163 1 [.slice p2154 x2152.Items.length c2155, .int .i64 x2152.Head, .int .i64 x2152.Tail] (.int .i64 x2152.Head) rfl (by kernel_rfl) (by kernel_rfl) (by kernel_rfl) (M2786.blk 0 (b := b2163) (o := .cells ⟨[.slice p2154 x2152.Items.length c2155, .int .i64 x2152.Head, .int .i64 x2152.Tail]⟩ 27 (0, 0)) (by kernel_rfl))) ?_
        exact W_nil (ob_end (.int .i64 x2152.Head) [] rfl (by kernel_rfl) ⟨by kernel_rfl, rfl⟩ M2786)
      · intro g2483 f2484
        intro R w2789 M2790
        refine W_val (.agg #[.slice p2154 x2152.Items.length c2155, .int .i64 x2152.Head, .int .i64 x2152.Tail]) w2789 (by kernel_rfl) (E_load (e := 27) (fr := (0, 0)) _ _ true 3 b2163 0 [.slice p2154 x2152.Items.length c2155, .int .i64 x2152.Head, .int .i64 x2152.Tail] (.agg #[.slice p2154 x2152.Items.length c2155, .int .i64 x2152.Head, .int .i64 x2152.Tail]) rfl (by kernel_rfl) (by kernel_rfl) (by kernel_rfl) (M2790.blk 0 (b := b2163) (o := .cells ⟨[.slice p2154 x2152.Items.length c2155, .int .i64 x2152.Head, .int .i64 x2152.Tail]⟩ 27 (0, 0)) (by kernel_rfl))) ?_
        exact W_nil (ob_end (.agg #[.slice p2154 x2152.Items.length c2155, .int .i64 x2152.Head, .int .i64 x2152.Tail]) [] rfl (by kernel_rfl) ⟨by kernel_rfl, rfl⟩ M2790)
      · intro g2483 f2484
        intro v3_ hb3_
        obtain ⟨rfl, _⟩ := hb3_
        intro R w2793 M2794
        refine W_call 61 #[.agg #[.slice p2154 x2152.Items.length c2155, .int .i64 x2152.Head, .int .i64 x2152.Tail]] (by kernel_rfl) (by kernel_rfl) ?_
        refine (c_i_ringWords w2793 x2152 p2154 c2155 (h2156.mem0 M2794) hr2771).mono ?_
        rintro e_ w2795 ⟨p2773, c2774, sg2775, rfl, ho2776, K2797⟩
        refine ⟨_, rfl, ?_⟩
        exact W_nil (ob_end (.slice p2773 r2771.length c2774) sg2775 rfl (by kernel_rfl) ⟨p2773, c2774, rfl, ho2776⟩ (Mem.callMid M2794 K2797))
      · intro g2483 f2484
        intro v0_ hb0_
        obtain ⟨rfl, _⟩ := hb0_
        intro v2_ hb2_
        obtain ⟨rfl, _⟩ := hb2_
        intro v4_ hb4_
        obtain ⟨p2773, c2774, rfl, ho2776⟩ := hb4_
        intro w2798 M2799
        have M2800 : Mem [] w w2798 [[(b2163, .cells ⟨[.slice p2154 x2152.Items.length c2155, .int .i64 x2152.Head, .int .i64 x2152.Tail]⟩ 27 (0, 0))], [(b2168, .cells ⟨[.slice none 0 0, .int .i64 0, .int .i64 0]⟩ 27 (0, 0))], (g2483 4)] := M2799
        obtain ⟨r2994, hr2994, hm⟩ := gx_bind hm
        refine W_call 65 #[.int .i64 x2157, .int .i64 x2152.Head, .slice p2773 r2771.length c2774] (by kernel_rfl) (by kernel_rfl) ?_
        refine (c_i_ringOf w2798 x2157 x2152.Head r2771 p2773 c2774 (ho2776.rd M2800 2 (by kernel_rfl)) hr2994).mono ?_
        rintro e_ w3000 ⟨p2996, c2997, sg2998, rfl, ho2999, K3001⟩
        have M3002 := M2800.call K3001
        refine ⟨_, rfl, ?_⟩
        refine W_store _ _ _ true 3 b2168 0 [.slice none 0 0, .int .i64 0, .int .i64 0] 27 (.agg #[.slice p2996 r2994.Items.length c2997, .int .i64 r2994.Head, .int .i64 r2994.Tail]) 1 [.slice p2996 r2994.Items.length c2997, .int .i64 r2994.Head, .int .i64 r2994.Tail] M3002 (by kernel_rfl) rfl (by kernel_rfl) (by kernel_rfl) (by kernel_rfl) (by kernel_rfl) (by kernel_rfl) (by kernel_rfl) (by kernel_rfl) (by kernel_rfl) ?_
        intro w3003 M3004
        refine W_run 1 [(4, .pointer (some ⟨b2168, 0, none⟩)), (5, .bool true)] w3003 (by kernel_rfl) ?_
        refine W_nil ?_
        refine N_then ?_
        refine G_ret ?_
        obtain rfl := Option.some.inj hm
        refine N_ret [.agg #[.slice p2996 r2994.Items.length c2997, .int .i64 r2994.Head, .int .i64 r2994.Tail], .bool true] (RVs_cons (RV_cell (g := true) (k := 3) (b := b2168) (off := 0) (cs := [.slice p2996 r2994.Items.length c2997, .int .i64 r2994.Head, .int .i64 r2994.Tail]) (e := 27) (fr := (0, 0)) (v := .agg #[.slice p2996 r2994.Items.length c2997, .int .i64 r2994.Head, .int .i64 r2994.Tail]) (M3004.blk 1 (b := b2168) (o := .cells ⟨[.slice p2996 r2994.Items.length c2997, .int .i64 r2994.Head, .int .i64 r2994.Tail]⟩ 27 (0, 0)) (by kernel_rfl)) (by kernel_rfl) (by kernel_rfl) (by kernel_rfl)) (RVs_cons (RV_tmp (by kernel_rfl)) RVs_nil)) ?_
        exact ⟨p2996, c2997, sg2998, rfl, ho2999, M3004.pick [3] (by kernel_rfl)⟩
theorem c_s_l20Good (w : World) (x3040 : Ring) (p3042 : Option Addr) (c3043 : Nat) (h3044 : rdS encI w x3040.Items p3042 c3043) {r : Bool} (hm : M.s_l20Good x3040 = some r) :
    Calls Try.prog 58 #[.agg #[.slice p3042 x3040.Items.length c3043, .int .i64 x3040.Head, .int .i64 x3040.Tail]] w fun e w' => e = .returned (.bool r) ∧ Mem [] w w' [] := by
  unfold M.s_l20Good at hm
  refine C_enter Try.func58 rfl (by kernel_rfl) ?_
  have M0 := Mem.refl [] w
  refine G_seq ?_
  refine G_region ?_
  refine W_new (fun b => .pointer (some ⟨b, 0, none⟩)) (.cells ⟨[.slice p3042 x3040.Items.length c3043, .int .i64 x3040.Head, .int .i64 x3040.Tail]⟩ 27 (0, 0)) M0 rfl (by kernel_rfl) (by kernel_rfl) ?_
  intro b3046 w3047 M3048
  refine W_run 1 [(1, .pointer (some ⟨b3046, 0, none⟩))] w3047 (by kernel_rfl) ?_
  refine W_nil ?_
  refine N_then ?_
  refine G_seq ?_
  refine G_region ?_
  refine W_run 1 [(1, .pointer (some ⟨b3046, 0, none⟩)), (6, .pointer (some ⟨b3046, 0, none⟩))] w3047 (by kernel_rfl) ?_
  refine W_val (.slice p3042 x3040.Items.length c3043) w3047 (by kernel_rfl) (E_load (e := 27) (fr := (0, 0)) _ _ false 1 b3046 0 [.slice p3042 x3040.Items.length c3043, .int .i64 x3040.Head, .int .i64 x3040.Tail] (.slice p3042 x3040.Items.length c3043) rfl (by kernel_rfl) (by kernel_rfl) (by kernel_rfl) (M3048.blk 0 (b := b3046) (o := .cells ⟨[.slice p3042 x3040.Items.length c3043, .int .i64 x3040.Head, .int .i64 x3040.Tail]⟩ 27 (0, 0)) (by kernel_rfl))) ?_
  refine W_run 2 [(1, .pointer (some ⟨b3046, 0, none⟩)), (3, .int .i64 (x3040.Items.length : Int))] w3047 (by kernel_rfl) ?_
  refine W_nil ?_
  refine N_then ?_
  refine G_seq ?_
  refine G_seq ?_
  obtain ⟨o3068, ho3069, hm3070⟩ := gx_bind hm
  refine G_meet (fun a w' => Mem [] w w' [[(b3046, .cells ⟨[.slice p3042 x3040.Items.length c3043, .int .i64 x3040.Head, .int .i64 x3040.Tail]⟩ 27 (0, 0))]] ∧ Sat Try.f58.ntmps [(1, .pointer (some ⟨b3046, 0, none⟩)), (3, .int .i64 (x3040.Items.length : Int)), (29, .bool o3068)] a) ?_ ?_
  · have hm := ho3069
    refine G_region ?_
    refine W_run 1 [(1, .pointer (some ⟨b3046, 0, none⟩)), (3, .int .i64 (x3040.Items.length : Int)), (9, .int .i64 (x3040.Items.length : Int))] w3047 (by kernel_rfl) ?_
    obtain ⟨r3071, hr3071, hm⟩ := gx_bind hm
    refine W_call 55 #[.int .i64 (x3040.Items.length : Int)] (by kernel_rfl) (by kernel_rfl) ?_
    refine (c_s_l20Places w3047 (x3040.Items.length : Int) hr3071).mono ?_
    rintro e_ w3072 ⟨rfl, K3073⟩
    have M3074 := M3048.call0 K3073
    refine ⟨_, rfl, ?_⟩
    refine W_run 2 [(1, .pointer (some ⟨b3046, 0, none⟩)), (3, .int .i64 (x3040.Items.length : Int)), (12, .bool (!r3071))] w3072 (by kernel_rfl) ?_
    rcases gx_bif hm with ⟨hc3075, hm⟩ | ⟨hc3075, hm⟩
    · refine W_known 12 true (by kernel_rfl) hc3075 ?_
      refine W_run 17 [(1, .pointer (some ⟨b3046, 0, none⟩)), (3, .int .i64 (x3040.Items.length : Int)), (29, .bool true)] w3072 (by kernel_rfl) ?_
      refine W_nil ?_
      obtain rfl := Option.some.inj hm
      exact N_meet fun a ha => ⟨M3074.pick [0] (by kernel_rfl), ha.sub (by kernel_rfl)⟩
    · refine W_known 12 false (by kernel_rfl) hc3075 ?_
      refine W_run 1 [(1, .pointer (some ⟨b3046, 0, none⟩)), (3, .int .i64 (x3040.Items.length : Int)), (12, .bool false), (13, .pointer (some ⟨b3046, 1, none⟩))] w3072 (by kernel_rfl) ?_
      refine W_val (.int .i64 x3040.Head) w3072 (by kernel_rfl) (E_load (e := 27) (fr := (0, 0)) _ _ false 1 b3046 1 [.slice p3042 x3040.Items.length c3043, .int .i64 x3040.Head, .int .i64 x3040.Tail] (.int .i64 x3040.Head) rfl (by kernel_rfl) (by kernel_rfl) (by kernel_rfl) (M3074.blk 0 (b := b3046) (o := .cells ⟨[.slice p3042 x3040.Items.length c3043, .int .i64 x3040.Head, .int .i64 x3040.Tail]⟩ 27 (0, 0)) (by kernel_rfl))) ?_
      obtain ⟨r3076, hr3076, hm⟩ := gx_bind hm
      refine W_call 52 #[.int .i64 x3040.Head] (by kernel_rfl) (by kernel_rfl) ?_
      refine (c_s_l2Word16 w3072 x3040.Head hr3076).mono ?_
      rintro e_ w3077 ⟨rfl, K3078⟩
      have M3079 := M3074.call0 K3078
      refine ⟨_, rfl, ?_⟩
      refine W_run 3 [(1, .pointer (some ⟨b3046, 0, none⟩)), (3, .int .i64 (x3040.Items.length : Int)), (18, .bool (!r3076))] w3077 (by kernel_rfl) ?_
      rcases gx_bif hm with ⟨hc3080, hm⟩ | ⟨hc3080, hm⟩
      · refine W_known 18 true (by kernel_rfl) hc3080 ?_
        refine W_run 11 [(1, .pointer (some ⟨b3046, 0, none⟩)), (3, .int .i64 (x3040.Items.length : Int)), (29, .bool true)] w3077 (by kernel_rfl) ?_
        refine W_nil ?_
        obtain rfl := Option.some.inj hm
        exact N_meet fun a ha => ⟨M3079.pick [0] (by kernel_rfl), ha.sub (by kernel_rfl)⟩
      · refine W_known 18 false (by kernel_rfl) hc3080 ?_
        refine W_run 1 [(1, .pointer (some ⟨b3046, 0, none⟩)), (3, .int .i64 (x3040.Items.length : Int)), (18, .bool false), (19, .pointer (some ⟨b3046, 2, none⟩))] w3077 (by kernel_rfl) ?_
        refine W_val (.int .i64 x3040.Tail) w3077 (by kernel_rfl) (E_load (e := 27) (fr := (0, 0)) _ _ false 1 b3046 2 [.slice p3042 x3040.Items.length c3043, .int .i64 x3040.Head, .int .i64 x3040.Tail] (.int .i64 x3040.Tail) rfl (by kernel_rfl) (by kernel_rfl) (by kernel_rfl) (M3079.blk 0 (b := b3046) (o := .cells ⟨[.slice p3042 x3040.Items.length c3043, .int .i64 x3040.Head, .int .i64 x3040.Tail]⟩ 27 (0, 0)) (by kernel_rfl))) ?_
        obtain ⟨r3081, hr3081, hm⟩ := gx_bind hm
        refine W_call 52 #[.int .i64 x3040.Tail] (by kernel_rfl) (by kernel_rfl) ?_
        refine (c_s_l2Word16 w3077 x3040.Tail hr3081).mono ?_
        rintro e_ w3082 ⟨rfl, K3083⟩
        have M3084 := M3079.call0 K3083
        refine ⟨_, rfl, ?_⟩
        refine W_run 3 [(1, .pointer (some ⟨b3046, 0, none⟩)), (3, .int .i64 (x3040.Items.length : Int)), (24, .bool (!r3081))] w3082 (by kernel_rfl) ?_
        rcases gx_bif hm with ⟨hc3085, hm⟩ | ⟨hc3085, hm⟩
        · refine W_known 24 true (by kernel_rfl) hc3085 ?_
          refine W_run 5 [(1, .pointer (some ⟨b3046, 0, none⟩)), (3, .int .i64 (x3040.Items.length : Int)), (29, .bool true)] w3082 (by kernel_rfl) ?_
          refine W_nil ?_
          obtain rfl := Option.some.inj hm
          exact N_meet fun a ha => ⟨M3084.pick [0] (by kernel_rfl), ha.sub (by kernel_rfl)⟩
        · refine W_known 24 false (by kernel_rfl) hc3085 ?_
          refine W_val (.agg #[.slice p3042 x3040.Items.length c3043, .int .i64 x3040.Head, .int .i64 x3040.Tail]) w3082 (by kernel_rfl) (E_load (e := 27) (fr := (0, 0)) _ _ true 3 b3046 0 [.slice p3042 x3040.Items.length c3043, .int .i64 x3040.Head, .int .i64 x3040.Tail] (.agg #[.slice p3042 x3040.Items.length c3043, .int .i64 x3040.Head, .int .i64 x3040.Tail]) rfl (by kernel_rfl) (by kernel_rfl) (by kernel_rfl) (M3084.blk 0 (b := b3046) (o := .cells ⟨[.slice p3042 x3040.Items.length c3043, .int .i64 x3040.Head, .int .i64 x3040.Tail]⟩ 27 (0, 0)) (by kernel_rfl))) ?_
          obtain ⟨r3086, hr3086, hm⟩ := gx_bind hm
          refine W_call 63 #[.agg #[.slice p3042 x3040.Items.length c3043, .int .i64 x3040.Head, .int .i64 x3040.Tail]] (by kernel_rfl) (by kernel_rfl) ?_
          refine (c_s_l20Count w3082 x3040 p3042 c3043 (h3044.mem0 M3084) hr3086).mono ?_
          rintro e_ w3087 ⟨rfl, K3088⟩
          have M3089 := M3084.call0 K3088
          refine ⟨_, rfl, ?_⟩
          refine W_run 3 [(1, .pointer (some ⟨b3046, 0, none⟩)), (3, .int .i64 (x3040.Items.length : Int)), (29, .bool (decide (r3086 > (x3040.Items.length : Int))))] w3087 (by kernel_rfl) ?_
          refine W_nil ?_
          obtain rfl := Option.some.inj hm
          exact N_meet fun a ha => ⟨M3089.pick [0] (by kernel_rfl), ha.sub (by kernel_rfl)⟩
  · intro a3092 w3090 ⟨M3091, hS3093⟩
    refine N_use hS3093 ?_
    have hm := hm3070
    refine N_then ?_
    rcases gx_bif hm with ⟨hc3094, hm⟩ | ⟨hc3094, hm⟩
    · refine G_cond_t (b := o3068) hc3094 (by kernel_rfl) ?_
      refine G_seq ?_
      refine G_region ?_
      refine W_run 1 [(2, .bool false)] w3090 (by kernel_rfl) ?_
      refine W_nil ?_
      refine N_then ?_
      refine G_ret ?_
      refine N_then_ret ?_
      obtain rfl := Option.some.inj hm
      refine N_ret [.bool false] (RVs_cons (RV_tmp (by kernel_rfl)) RVs_nil) ?_
      exact ⟨rfl, M3091.pick [] (by kernel_rfl)⟩
    · refine G_cond_f (b := o3068) hc3094 (by kernel_rfl) ?_
      refine G_skip ?_
      refine N_then ?_
      refine G_seq ?_
      refine G_seq ?_
      refine G_region ?_
      refine W_run 1 [(1, .pointer (some ⟨b3046, 0, none⟩)), (3, .int .i64 (x3040.Items.length : Int)), (4, .int .i64 0)] w3090 (by kernel_rfl) ?_
      refine W_nil ?_
      refine N_then ?_
      obtain ⟨out3168, hw3169, hmo3170⟩ := gx_bind hm
      refine G_meet (fun a w' => ∃ (o3171 : Unit), out3168 = .inl o3171 ∧ Mem [] w w' [] ∧ Sat Try.f58.ntmps [] a) ?_ ?_
      · refine G_block ?_
        refine G_while (σ := Int) (ρ := (Unit) ⊕ (Bool)) (fun s3161 a w' => Mem [] w w' [[(b3046, .cells ⟨[.slice p3042 x3040.Items.length c3043, .int .i64 x3040.Head, .int .i64 x3040.Tail]⟩ 27 (0, 0))]] ∧ Sat Try.f58.ntmps [(1, .pointer (some ⟨b3046, 0, none⟩)), (3, .int .i64 (x3040.Items.length : Int)), (4, .int .i64 s3161)] a) hw3169 (fun a ha => ⟨M3091.pick [0] (by kernel_rfl), ha.sub (by kernel_rfl)⟩) ?_
        clear hm
        intro s3161 x3162 hm hout3163 a3164 w3165 ⟨M3166, hS3167⟩
        refine G_use hS3167 ?_
        refine G_seq ?_
        refine G_seq ?_
        refine G_region ?_
        refine W_run 3 [(1, .pointer (some ⟨b3046, 0, none⟩)), (3, .int .i64 (x3040.Items.length : Int)), (4, .int .i64 s3161), (32, .bool (decide (s3161 < (x3040.Items.length : Int))))] w3165 (by kernel_rfl) ?_
        refine W_nil ?_
        refine N_then ?_
        rcases gx_bif hm with ⟨hc3172, hm⟩ | ⟨hc3172, hm⟩
        · refine G_cond_t (b := (decide (s3161 < (x3040.Items.length : Int)))) hc3172 (by kernel_rfl) ?_
          refine G_skip ?_
          refine N_then ?_
          refine G_seq ?_
          refine G_block ?_
          refine G_seq ?_
          refine G_quiet (by kernel_rfl) (by kernel_rfl) M3166 ?_
          refine Z_runs [.pointer (some ⟨b3046, 0, none⟩)] [(1, .pointer (some ⟨b3046, 0, none⟩)), (3, .int .i64 (x3040.Items.length : Int)), (4, .int .i64 s3161), (35, .pointer (some ⟨b3046, 0, none⟩))] (fun w_ => by kernel_rfl) (by kernel_rfl) ?_
          refine Z_val (.slice p3042 x3040.Items.length c3043) (by kernel_rfl) (fun w_ M_ => (E_load (e := 27) (fr := (0, 0)) _ _ false 1 b3046 0 [.slice p3042 x3040.Items.length c3043, .int .i64 x3040.Head, .int .i64 x3040.Tail] (.slice p3042 x3040.Items.length c3043) rfl (by kernel_rfl) (by kernel_rfl) (by kernel_rfl) (M_.blk 0 (b := b3046) (o := .cells ⟨[.slice p3042 x3040.Items.length c3043, .int .i64 x3040.Head, .int .i64 x3040.Tail]⟩ 27 (0, 0)) (by kernel_rfl)))) ?_
          refine Z_runs [.pointer (some ⟨b3046, 1, none⟩)] [(1, .pointer (some ⟨b3046, 0, none⟩)), (3, .int .i64 (x3040.Items.length : Int)), (4, .int .i64 s3161), (36, .slice p3042 x3040.Items.length c3043), (37, .pointer (some ⟨b3046, 1, none⟩))] (fun w_ => by kernel_rfl) (by kernel_rfl) ?_
          refine Z_val (.int .i64 x3040.Head) (by kernel_rfl) (fun w_ M_ => (E_load (e := 27) (fr := (0, 0)) _ _ false 1 b3046 1 [.slice p3042 x3040.Items.length c3043, .int .i64 x3040.Head, .int .i64 x3040.Tail] (.int .i64 x3040.Head) rfl (by kernel_rfl) (by kernel_rfl) (by kernel_rfl) (M_.blk 0 (b := b3046) (o := .cells ⟨[.slice p3042 x3040.Items.length c3043, .int .i64 x3040.Head, .int .i64 x3040.Tail]⟩ 27 (0, 0)) (by kernel_rfl)))) ?_
          refine Z_runs [.int .i64 s3161, .int .i64 (w64 (x3040.Head + s3161)), .int .i64 (x3040.Items.length : Int)] [(1, .pointer (some ⟨b3046, 0, none⟩)), (3, .int .i64 (x3040.Items.length : Int)), (4, .int .i64 s3161), (36, .slice p3042 x3040.Items.length c3043), (40, .int .i64 (w64 (x3040.Head + s3161))), (41, .int .i64 (x3040.Items.length : Int))] (fun w_ => by kernel_rfl) (by kernel_rfl) ?_
          obtain ⟨q3173, hq3173, hm⟩ := gx_bind hm
          refine Z_val (.int .i64 q3173) (by kernel_rfl) (fun w_ M_ => (E_rem _ _ _ _ (w64 (x3040.Head + s3161)) (x3040.Items.length : Int) q3173 rfl (by kernel_rfl) (by kernel_rfl) hq3173)) ?_
          obtain ⟨y3174, hy3174, hm⟩ := gx_bind hm
          refine Z_val (elemP p3042 (q3173.toNat * 1)) (by kernel_rfl) (fun w_ M_ => (E_index (E := encI) _ _ _ x3040.Items.length c3043 .i64 q3173 1 (y := y3174) rfl (by kernel_rfl) (by kernel_rfl) (by kernel_rfl) (h3044.mem0 M_) rfl hy3174)) ?_
          refine Z_val (.int .i64 y3174) (by kernel_rfl) (fun w_ M_ => (E_loadE (E := encI) _ _ false 1 q3173 0 (q3173.toNat * 1) y3174 (.int .i64 y3174) rfl (by kernel_rfl) (by kernel_rfl) (by kernel_rfl) (h3044.mem0 M_) hy3174 rfl)) ?_
          refine Z_runs [.int .i64 y3174] [(1, .pointer (some ⟨b3046, 0, none⟩)), (3, .int .i64 (x3040.Items.length : Int)), (4, .int .i64 s3161), (5, .int .i64 y3174)] (fun w_ => by kernel_rfl) (by kernel_rfl) ?_
          refine Z_end fun w3175 M3176 => ?_
          refine N_then ?_
          refine G_seq ?_
          obtain ⟨o3187, ho3188, hm3189⟩ := gx_bind hm
          refine G_meet (fun a w' => Mem [] w w' [[(b3046, .cells ⟨[.slice p3042 x3040.Items.length c3043, .int .i64 x3040.Head, .int .i64 x3040.Tail]⟩ 27 (0, 0))]] ∧ Sat Try.f58.ntmps [(1, .pointer (some ⟨b3046, 0, none⟩)), (3, .int .i64 (x3040.Items.length : Int)), (4, .int .i64 s3161), (57, .bool o3187)] a) ?_ ?_
          · have hm := ho3188
            refine G_region ?_
            refine W_run 1 [(1, .pointer (some ⟨b3046, 0, none⟩)), (3, .int .i64 (x3040.Items.length : Int)), (4, .int .i64 s3161), (5, .int .i64 y3174), (45, .int .i64 y3174)] w3175 (by kernel_rfl) ?_
            obtain ⟨r3190, hr3190, hm⟩ := gx_bind hm
            refine W_call 52 #[.int .i64 y3174] (by kernel_rfl) (by kernel_rfl) ?_
            refine (c_s_l2Word16 w3175 y3174 hr3190).mono ?_
            rintro e_ w3191 ⟨rfl, K3192⟩
            have M3193 := M3176.call0 K3192
            refine ⟨_, rfl, ?_⟩
            refine W_run 2 [(1, .pointer (some ⟨b3046, 0, none⟩)), (3, .int .i64 (x3040.Items.length : Int)), (4, .int .i64 s3161), (5, .int .i64 y3174), (48, .bool (!r3190))] w3191 (by kernel_rfl) ?_
            rcases gx_bif hm with ⟨hc3194, hm⟩ | ⟨hc3194, hm⟩
            · refine W_known 48 true (by kernel_rfl) hc3194 ?_
              refine W_run 9 [(1, .pointer (some ⟨b3046, 0, none⟩)), (3, .int .i64 (x3040.Items.length : Int)), (4, .int .i64 s3161), (57, .bool true)] w3191 (by kernel_rfl) ?_
              refine W_nil ?_
              obtain rfl := Option.some.inj hm
              exact N_meet fun a ha => ⟨M3193.pick [0] (by kernel_rfl), ha.sub (by kernel_rfl)⟩
            · refine W_known 48 false (by kernel_rfl) hc3194 ?_
              refine W_run 1 [(1, .pointer (some ⟨b3046, 0, none⟩)), (3, .int .i64 (x3040.Items.length : Int)), (4, .int .i64 s3161), (5, .int .i64 y3174), (48, .bool false), (49, .int .i64 s3161)] w3191 (by kernel_rfl) ?_
              refine W_val (.agg #[.slice p3042 x3040.Items.length c3043, .int .i64 x3040.Head, .int .i64 x3040.Tail]) w3191 (by kernel_rfl) (E_load (e := 27) (fr := (0, 0)) _ _ true 3 b3046 0 [.slice p3042 x3040.Items.length c3043, .int .i64 x3040.Head, .int .i64 x3040.Tail] (.agg #[.slice p3042 x3040.Items.length c3043, .int .i64 x3040.Head, .int .i64 x3040.Tail]) rfl (by kernel_rfl) (by kernel_rfl) (by kernel_rfl) (M3193.blk 0 (b := b3046) (o := .cells ⟨[.slice p3042 x3040.Items.length c3043, .int .i64 x3040.Head, .int .i64 x3040.Tail]⟩ 27 (0, 0)) (by kernel_rfl))) ?_
              obtain ⟨r3195, hr3195, hm⟩ := gx_bind hm
              refine W_call 63 #[.agg #[.slice p3042 x3040.Items.length c3043, .int .i64 x3040.Head, .int .i64 x3040.Tail]] (by kernel_rfl) (by kernel_rfl) ?_
              refine (c_s_l20Count w3191 x3040 p3042 c3043 (h3044.mem0 M3193) hr3195).mono ?_
              rintro e_ w3196 ⟨rfl, K3197⟩
              have M3198 := M3193.call0 K3197
              refine ⟨_, rfl, ?_⟩
              refine W_run 2 [(1, .pointer (some ⟨b3046, 0, none⟩)), (3, .int .i64 (x3040.Items.length : Int)), (4, .int .i64 s3161), (5, .int .i64 y3174), (48, .bool false), (53, .bool (decide (s3161 ≥ r3195)))] w3196 (by kernel_rfl) ?_
              rcases gx_bif hm with ⟨hc3199, hm⟩ | ⟨hc3199, hm⟩
              · refine W_known 53 true (by kernel_rfl) hc3199 ?_
                refine W_run 4 [(1, .pointer (some ⟨b3046, 0, none⟩)), (3, .int .i64 (x3040.Items.length : Int)), (4, .int .i64 s3161), (57, .bool (y3174 != 0))] w3196 (by kernel_rfl) ?_
                refine W_nil ?_
                obtain rfl := Option.some.inj hm
                exact N_meet fun a ha => ⟨M3198.pick [0] (by kernel_rfl), ha.sub (by kernel_rfl)⟩
              · refine W_known 53 false (by kernel_rfl) hc3199 ?_
                refine W_run 4 [(1, .pointer (some ⟨b3046, 0, none⟩)), (3, .int .i64 (x3040.Items.length : Int)), (4, .int .i64 s3161), (57, .bool false)] w3196 (by kernel_rfl) ?_
                refine W_nil ?_
                obtain rfl := Option.some.inj hm
                exact N_meet fun a ha => ⟨M3198.pick [0] (by kernel_rfl), ha.sub (by kernel_rfl)⟩
          · intro a3202 w3200 ⟨M3201, hS3203⟩
            refine N_use hS3203 ?_
            have hm := hm3189
            refine N_then ?_
            rcases gx_bif hm with ⟨hc3204, hm⟩ | ⟨hc3204, hm⟩
            · refine G_cond_t (b := o3187) hc3204 (by kernel_rfl) ?_
              refine G_seq ?_
              refine G_region ?_
              refine W_run 1 [(2, .bool false)] w3200 (by kernel_rfl) ?_
              refine W_nil ?_
              refine N_then ?_
              refine G_ret ?_
              refine N_block_ret ?_
              refine N_then_ret ?_
              refine N_then_ret ?_
              obtain rfl := Option.some.inj hm
              obtain rfl := hout3163 _ rfl
              have hm := hmo3170; simp only [Sum.elim_inr] at hm
              refine N_block_ret ?_
              refine N_meet_ret ?_
              refine N_then_ret ?_
              obtain rfl := Option.some.inj hm
              refine N_ret [.bool false] (RVs_cons (RV_tmp (by kernel_rfl)) RVs_nil) ?_
              exact ⟨rfl, M3201.pick [] (by kernel_rfl)⟩
            · refine G_cond_f (b := o3187) hc3204 (by kernel_rfl) ?_
              refine G_skip ?_
              refine N_block ?_
              refine N_then ?_
              refine G_region ?_
              refine W_run 3 [(1, .pointer (some ⟨b3046, 0, none⟩)), (3, .int .i64 (x3040.Items.length : Int)), (4, .int .i64 (w64 (s3161 + 1)))] w3200 (by kernel_rfl) ?_
              refine W_nil ?_
              obtain rfl := Option.some.inj hm
              exact N_loop fun a ha => ⟨_, rfl, M3201.pick [0] (by kernel_rfl), ha.sub (by kernel_rfl)⟩
        · refine G_cond_f (b := (decide (s3161 < (x3040.Items.length : Int)))) hc3172 (by kernel_rfl) ?_
          refine G_exit ?_
          refine N_then_exit ?_
          refine N_then_exit ?_
          refine N_block_eq ?_
          obtain rfl := Option.some.inj hm
          obtain rfl := hout3163 _ rfl
          exact N_meet fun a ha => ⟨_, rfl, M3166.pick [] (by kernel_rfl), ha.sub (by kernel_rfl)⟩
      · intro a3205 w3206 ⟨o3171, hout_, M3207, hS3208⟩
        refine N_use hS3208 ?_
        subst hout_
        have hm := hmo3170; simp only [Sum.elim_inl] at hm
        refine N_then ?_
        refine G_seq ?_
        refine G_region ?_
        refine W_run 1 [(2, .bool true)] w3206 (by kernel_rfl) ?_
        refine W_nil ?_
        refine N_then ?_
        refine G_ret ?_
        obtain rfl := Option.some.inj hm
        refine N_ret [.bool true] (RVs_cons (RV_tmp (by kernel_rfl)) RVs_nil) ?_
        exact ⟨rfl, M3207.pick [] (by kernel_rfl)⟩
theorem c_s_l20Words (w : World) (x3297 : Ring) (p3299 : Option Addr) (c3300 : Nat) (h3301 : rdS encI w x3297.Items p3299 c3300) {r : (List Int)} (hm : M.s_l20Words x3297 = some r) :
    Calls Try.prog 60 #[.agg #[.slice p3299 x3297.Items.length c3300, .int .i64 x3297.Head, .int .i64 x3297.Tail]] w fun e w' => ∃ (p3303 : Option Addr) (c3304 : Nat) (sg3305 : Seg), e = .returned (.slice p3303 r.length c3304) ∧ ownS encI r p3303 c3304 sg3305 ∧ Mem [] w w' [sg3305] := by
  unfold M.s_l20Words at hm
  refine C_enter Try.func60 rfl (by kernel_rfl) ?_
  have M0 := Mem.refl [] w
  refine G_seq ?_
  refine G_region ?_
  refine W_new (fun b => .pointer (some ⟨b, 0, none⟩)) (.cells ⟨[.slice p3299 x3297.Items.length c3300, .int .i64 x3297.Head, .int .i64 x3297.Tail]⟩ 27 (0, 0)) M0 rfl (by kernel_rfl) (by kernel_rfl) ?_
  intro b3307 w3308 M3309
  refine W_run 1 [(1, .pointer (some ⟨b3307, 0, none⟩))] w3308 (by kernel_rfl) ?_
  refine W_nil ?_
  refine N_then ?_
  refine G_seq ?_
  refine G_region ?_
  refine W_lit (E := encI) ([] : List Int) 0 [] 3 M3309 (by kernel_rfl) (by kernel_rfl) (by kernel_rfl) (by kernel_rfl) (by kernel_rfl) ?_
  intro p3311 c3312 sg3313 w3314 ho3315 M3316
  refine W_run 1 [(1, .pointer (some ⟨b3307, 0, none⟩)), (3, .slice p3311 ([] : List Int).length c3312)] w3314 (by kernel_rfl) ?_
  refine W_nil ?_
  refine N_then ?_
  refine G_seq ?_
  refine G_seq ?_
  refine G_region ?_
  refine W_run 1 [(1, .pointer (some ⟨b3307, 0, none⟩)), (3, .slice p3311 ([] : List Int).length c3312), (4, .int .i64 0)] w3314 (by kernel_rfl) ?_
  refine W_nil ?_
  refine N_then ?_
  obtain ⟨out3492, hw3493, hmo3494⟩ := gx_bind hm
  refine G_meet (fun a w' => ∃ (p3501 : Option Addr), ∃ (c3502 : Nat), ∃ (sg3503 : Seg), ownS encI out3492 p3501 c3502 sg3503 ∧ Mem [] w w' [sg3503] ∧ Sat Try.f60.ntmps [(3, .slice p3501 out3492.length c3502)] a) ?_ ?_
  · refine G_block ?_
    refine G_while (σ := List Int × Int) (ρ := List Int) (fun s3485 a w' => ∃ (p3495 : Option Addr), ∃ (c3496 : Nat), ∃ (sg3497 : Seg), ownS encI s3485.1 p3495 c3496 sg3497 ∧ Mem [] w w' [[(b3307, .cells ⟨[.slice p3299 x3297.Items.length c3300, .int .i64 x3297.Head, .int .i64 x3297.Tail]⟩ 27 (0, 0))], sg3497] ∧ Sat Try.f60.ntmps [(1, .pointer (some ⟨b3307, 0, none⟩)), (3, .slice p3495 s3485.1.length c3496), (4, .int .i64 s3485.2)] a) hw3493 (fun a ha => ⟨p3311, c3312, sg3313, ho3315, M3316.pick [0, 1] (by kernel_rfl), ha.sub (by kernel_rfl)⟩) ?_
    clear hm
    intro s3485 x3486 hm hout3487 a3488 w3489 ⟨p3495, c3496, sg3497, ho3498, M3490, hS3491⟩
    refine G_use hS3491 ?_
    refine G_seq ?_
    refine G_seq ?_
    refine G_region ?_
    refine W_run 1 [(1, .pointer (some ⟨b3307, 0, none⟩)), (3, .slice p3495 s3485.1.length c3496), (4, .int .i64 s3485.2), (6, .int .i64 s3485.2)] w3489 (by kernel_rfl) ?_
    refine W_val (.agg #[.slice p3299 x3297.Items.length c3300, .int .i64 x3297.Head, .int .i64 x3297.Tail]) w3489 (by kernel_rfl) (E_load (e := 27) (fr := (0, 0)) _ _ true 3 b3307 0 [.slice p3299 x3297.Items.length c3300, .int .i64 x3297.Head, .int .i64 x3297.Tail] (.agg #[.slice p3299 x3297.Items.length c3300, .int .i64 x3297.Head, .int .i64 x3297.Tail]) rfl (by kernel_rfl) (by kernel_rfl) (by kernel_rfl) (M3490.blk 0 (b := b3307) (o := .cells ⟨[.slice p3299 x3297.Items.length c3300, .int .i64 x3297.Head, .int .i64 x3297.Tail]⟩ 27 (0, 0)) (by kernel_rfl))) ?_
    obtain ⟨r3506, hr3506, hm⟩ := gx_bind hm
    refine W_call 63 #[.agg #[.slice p3299 x3297.Items.length c3300, .int .i64 x3297.Head, .int .i64 x3297.Tail]] (by kernel_rfl) (by kernel_rfl) ?_
    refine (c_s_l20Count w3489 x3297 p3299 c3300 (h3301.mem0 M3490) hr3506).mono ?_
    rintro e_ w3507 ⟨rfl, K3508⟩
    have M3509 := M3490.call0 K3508
    refine ⟨_, rfl, ?_⟩
    refine W_run 1 [(1, .pointer (some ⟨b3307, 0, none⟩)), (3, .slice p3495 s3485.1.length c3496), (4, .int .i64 s3485.2), (9, .bool (decide (s3485.2 < r3506)))] w3507 (by kernel_rfl) ?_
    refine W_nil ?_
    refine N_then ?_
    rcases gx_bif hm with ⟨hc3510, hm⟩ | ⟨hc3510, hm⟩
    · refine G_cond_t (b := (decide (s3485.2 < r3506))) hc3510 (by kernel_rfl) ?_
      refine G_skip ?_
      refine N_then ?_
      refine G_seq ?_
      refine G_block ?_
      obtain ⟨q3513, hq3513, hm⟩ := gx_bind hm
      obtain ⟨y3514, hy3514, hm⟩ := gx_bind hm
      refine G_sub [(1, .pointer (some ⟨b3307, 0, none⟩)), (3, .slice p3495 s3485.1.length c3496), (4, .int .i64 s3485.2), (9, .bool (decide (s3485.2 < r3506)))] (by kernel_rfl) ?_
      refine G_dagL 14 [[], [], [1], [], [3], [], [4, 5], [], [7], [8], [6, 9], [2, 10], [11], [12]] [[], [], [], [], [], [], [], [], [], [], [], [], [], []] [[], [], [], [], [], [], [], [], [], [], [], [], [], []] [[], [], [], [], [], [], [], [], [], [], [], [], [], []] [[], [], [], [], [], [], [], [], [], [], [], [], [], []] [[], [], [], [], [], [], [], [], [], [], [], [], [], []] (fun _ => []) (fun i => ([fun f v s => v = (.slice p3495 s3485.1.length c3496 : Value) ∧ s = [], fun f v s => v = (.pointer (some ⟨b3307, 0, none⟩) : Value) ∧ s = [], fun f v s => v = (.slice p3299 x3297.Items.length c3300 : Value) ∧ s = [], fun f v s => v = (.pointer (some ⟨b3307, 1, none⟩) : Value) ∧ s = [], fun f v s => v = (.int .i64 x3297.Head : Value) ∧ s = [], fun f v s => v = (.int .i64 s3485.2 : Value) ∧ s = [], fun f v s => v = (.int .i64 (w64 (x3297.Head + s3485.2)) : Value) ∧ s = [], fun f v s => v = (.pointer (some ⟨b3307, 0, none⟩) : Value) ∧ s = [], fun f v s => v = (.slice p3299 x3297.Items.length c3300 : Value) ∧ s = [], fun f v s => v = (.int .i64 (x3297.Items.length : Int) : Value) ∧ s = [], fun f v s => v = (.int .i64 q3513 : Value) ∧ s = [], fun f v s => v = (elemP p3299 (q3513.toNat * 1) : Value) ∧ s = [], fun f v s => v = (.int .i64 y3514 : Value) ∧ s = [], fun f v s => ∃ (p3516 : Option Addr) (c3517 : Nat), v = (.slice p3516 [y3514].length c3517 : Value) ∧ ownS encI [y3514] p3516 c3517 s] : List ((Nat → Value) → Value → Seg → Prop)).getD i (fun _ _ _ => False)) (fun j f v => ∃ s, (fun i => ([fun f v s => v = (.slice p3495 s3485.1.length c3496 : Value) ∧ s = [], fun f v s => v = (.pointer (some ⟨b3307, 0, none⟩) : Value) ∧ s = [], fun f v s => v = (.slice p3299 x3297.Items.length c3300 : Value) ∧ s = [], fun f v s => v = (.pointer (some ⟨b3307, 1, none⟩) : Value) ∧ s = [], fun f v s => v = (.int .i64 x3297.Head : Value) ∧ s = [], fun f v s => v = (.int .i64 s3485.2 : Value) ∧ s = [], fun f v s => v = (.int .i64 (w64 (x3297.Head + s3485.2)) : Value) ∧ s = [], fun f v s => v = (.pointer (some ⟨b3307, 0, none⟩) : Value) ∧ s = [], fun f v s => v = (.slice p3299 x3297.Items.length c3300 : Value) ∧ s = [], fun f v s => v = (.int .i64 (x3297.Items.length : Int) : Value) ∧ s = [], fun f v s => v = (.int .i64 q3513 : Value) ∧ s = [], fun f v s => v = (elemP p3299 (q3513.toNat * 1) : Value) ∧ s = [], fun f v s => v = (.int .i64 y3514 : Value) ∧ s = [], fun f v s => ∃ (p3516 : Option Addr) (c3517 : Nat), v = (.slice p3516 [y3514].length c3517 : Value) ∧ ownS encI [y3514] p3516 c3517 s] : List ((Nat → Value) → Value → Seg → Prop)).getD i (fun _ _ _ => False)) j f v s) [] [0, 13] [13] (fun _ _ _ s h => ⟨s, h⟩) (by kernel_rfl) (by kernel_rfl) (M3509.preNil 14) (by kernel_rfl) (by kernel_rfl) (by kernel_rfl) (by kernel_rfl) (allOb_cons ?_ (allOb_cons ?_ (allOb_cons ?_ (allOb_cons ?_ (allOb_cons ?_ (allOb_cons ?_ (allOb_cons ?_ (allOb_cons ?_ (allOb_cons ?_ (allOb_cons ?_ (allOb_cons ?_ (allOb_cons ?_ (allOb_cons ?_ (allOb_cons ?_ allOb_nil)))))))))))))) ?_
      · intro g3511 f3512
        intro R w3520 M3521
        refine W_run 1 [(12, .slice p3495 s3485.1.length c3496)] w3520 (by kernel_rfl) ?_
        exact W_nil (ob_end (.slice p3495 s3485.1.length c3496) [] rfl (by kernel_rfl) ⟨by kernel_rfl, rfl⟩ M3521)
      · intro g3511 f3512
        intro R w3524 M3525
        refine W_run 1 [(13, .pointer (some ⟨b3307, 0, none⟩))] w3524 (by kernel_rfl) ?_
        exact W_nil (ob_end (.pointer (some ⟨b3307, 0, none⟩)) [] rfl (by kernel_rfl) ⟨by kernel_rfl, rfl⟩ M3525)
      · intro g3511 f3512
        intro v1_ hb1_
        obtain ⟨rfl, _⟩ := hb1_
        intro R w3528 M3529
        refine W_val (.slice p3299 x3297.Items.length c3300) w3528 (by kernel_rfl) (E_load (e := 27) (fr := (0, 0)) _ _ false 1 b3307 0 [.slice p3299 x3297.Items.length c3300, .int .i64 x3297.Head, .int .i64 x3297.Tail] (.slice p3299 x3297.Items.length c3300) rfl (by kernel_rfl) (by kernel_rfl) (by kernel_rfl) (M3529.blk 0 (b := b3307) (o := .cells ⟨[.slice p3299 x3297.Items.length c3300, .int .i64 x3297.Head, .int .i64 x3297.Tail]⟩ 27 (0, 0)) (by kernel_rfl))) ?_
        exact W_nil (ob_end (.slice p3299 x3297.Items.length c3300) [] rfl (by kernel_rfl) ⟨by kernel_rfl, rfl⟩ M3529)
      · intro g3511 f3512
        intro R w3532 M3533
        refine W_run 1 [(15, .pointer (some ⟨b3307, 1, none⟩))] w3532 (by kernel_rfl) ?_
        exact W_nil (ob_end (.pointer (some ⟨b3307, 1, none⟩)) [] rfl (by kernel_rfl) ⟨by kernel_rfl, rfl⟩ M3533)
      · intro g3511 f3512
        intro v3_ hb3_
        obtain ⟨rfl, _⟩ := hb3_
        intro R w3536 M3537
        refine W_val (.int .i64 x3297.Head) w3536 (by kernel_rfl) (E_load (e := 27) (fr := (0, 0)) _ _ false 1 b3307 1 [.slice p3299 x3297.Items.length c3300, .int .i64 x3297.Head, .int .i64 x3297.Tail] (.int .i64 x3297.Head) rfl (by kernel_rfl) (by kernel_rfl) (by kernel_rfl) (M3537.blk 0 (b := b3307) (o := .cells ⟨[.slice p3299 x3297.Items.length c3300, .int .i64 x3297.Head, .int .i64 x3297.Tail]⟩ 27 (0, 0)) (by kernel_rfl))) ?_
        exact W_nil (ob_end (.int .i64 x3297.Head) [] rfl (by kernel_rfl) ⟨by kernel_rfl, rfl⟩ M3537)
      · intro g3511 f3512
        intro R w3540 M3541
        refine W_run 1 [(17, .int .i64 s3485.2)] w3540 (by kernel_rfl) ?_
        exact W_nil (ob_end (.int .i64 s3485.2) [] rfl (by kernel_rfl) ⟨by kernel_rfl, rfl⟩ M3541)
      · intro g3511 f3512
        intro v4_ hb4_
        obtain ⟨rfl, _⟩ := hb4_
        intro v5_ hb5_
        obtain ⟨rfl, _⟩ := hb5_
        intro R w3544 M3545
        refine W_run 1 [(18, .int .i64 (w64 (x3297.Head + s3485.2)))] w3544 (by kernel_rfl) ?_
        exact W_nil (ob_end (.int .i64 (w64 (x3297.Head + s3485.2))) [] rfl (by kernel_rfl) ⟨by kernel_rfl, rfl⟩ M3545)
      · intro g3511 f3512
        intro R w3548 M3549
        refine W_run 1 [(19, .pointer (some ⟨b3307, 0, none⟩))] w3548 (by kernel_rfl) ?_
        exact W_nil (ob_end (.pointer (some ⟨b3307, 0, none⟩)) [] rfl (by kernel_rfl) ⟨by kernel_rfl, rfl⟩ M3549)
      · intro g3511 f3512
        intro v7_ hb7_
        obtain ⟨rfl, _⟩ := hb7_
        intro R w3552 M3553
        refine W_val (.slice p3299 x3297.Items.length c3300) w3552 (by kernel_rfl) (E_load (e := 27) (fr := (0, 0)) _ _ false 1 b3307 0 [.slice p3299 x3297.Items.length c3300, .int .i64 x3297.Head, .int .i64 x3297.Tail] (.slice p3299 x3297.Items.length c3300) rfl (by kernel_rfl) (by kernel_rfl) (by kernel_rfl) (M3553.blk 0 (b := b3307) (o := .cells ⟨[.slice p3299 x3297.Items.length c3300, .int .i64 x3297.Head, .int .i64 x3297.Tail]⟩ 27 (0, 0)) (by kernel_rfl))) ?_
        exact W_nil (ob_end (.slice p3299 x3297.Items.length c3300) [] rfl (by kernel_rfl) ⟨by kernel_rfl, rfl⟩ M3553)
      · intro g3511 f3512
        intro v8_ hb8_
        obtain ⟨rfl, _⟩ := hb8_
        intro R w3556 M3557
        refine W_run 1 [(21, .int .i64 (x3297.Items.length : Int))] w3556 (by kernel_rfl) ?_
        exact W_nil (ob_end (.int .i64 (x3297.Items.length : Int)) [] rfl (by kernel_rfl) ⟨by kernel_rfl, rfl⟩ M3557)
      · intro g3511 f3512
        intro v6_ hb6_
        obtain ⟨rfl, _⟩ := hb6_
        intro v9_ hb9_
        obtain ⟨rfl, _⟩ := hb9_
        intro R w3560 M3561
        refine W_val (.int .i64 q3513) w3560 (by kernel_rfl) (E_rem _ _ _ _ (w64 (x3297.Head + s3485.2)) (x3297.Items.length : Int) q3513 rfl (by kernel_rfl) (by kernel_rfl) hq3513) ?_
        exact W_nil (ob_end (.int .i64 q3513) [] rfl (by kernel_rfl) ⟨by kernel_rfl, rfl⟩ M3561)
      · intro g3511 f3512
        intro v2_ hb2_
        obtain ⟨rfl, _⟩ := hb2_
        intro v10_ hb10_
        obtain ⟨rfl, _⟩ := hb10_
        intro R w3564 M3565
        refine W_val (elemP p3299 (q3513.toNat * 1)) w3564 (by kernel_rfl) (E_index (E := encI) _ _ _ x3297.Items.length c3300 .i64 q3513 1 (y := y3514) rfl (by kernel_rfl) (by kernel_rfl) (by kernel_rfl) (h3301.mem0 M3565) rfl hy3514) ?_
        exact W_nil (ob_end (elemP p3299 (q3513.toNat * 1)) [] rfl (by kernel_rfl) ⟨by kernel_rfl, rfl⟩ M3565)
      · intro g3511 f3512
        intro v11_ hb11_
        obtain ⟨rfl, _⟩ := hb11_
        intro R w3568 M3569
        refine W_val (.int .i64 y3514) w3568 (by kernel_rfl) (E_loadE (E := encI) _ _ false 1 q3513 0 (q3513.toNat * 1) y3514 (.int .i64 y3514) rfl (by kernel_rfl) (by kernel_rfl) (by kernel_rfl) (h3301.mem0 M3569) hy3514 rfl) ?_
        exact W_nil (ob_end (.int .i64 y3514) [] rfl (by kernel_rfl) ⟨by kernel_rfl, rfl⟩ M3569)
      · intro g3511 f3512
        intro v12_ hb12_
        obtain ⟨rfl, _⟩ := hb12_
        intro R w3572 M3573
        refine W_lit (E := encI) [y3514] 1 [.int .i64 y3514] 3 M3573 (by kernel_rfl) (by kernel_rfl) (by kernel_rfl) (by kernel_rfl) (by kernel_rfl) ?_
        intro p3516 c3517 sg3518 w3574 ho3519 M3575
        exact W_nil (ob_end (.slice p3516 [y3514].length c3517) sg3518 rfl (by kernel_rfl) ⟨p3516, c3517, rfl, ho3519⟩ (Mem.mid M3575))
      · intro g3511 f3512
        intro v0_ hb0_
        obtain ⟨rfl, _⟩ := hb0_
        intro v13_ hb13_
        obtain ⟨p3516, c3517, rfl, ho3519⟩ := hb13_
        intro w3576 M3577
        have M3578 : Mem [] w w3576 [[(b3307, .cells ⟨[.slice p3299 x3297.Items.length c3300, .int .i64 x3297.Head, .int .i64 x3297.Tail]⟩ 27 (0, 0))], sg3497, (g3511 13)] := M3577
        obtain ⟨ap3579, hap3579, hm⟩ := gx_bind hm
        refine W_append (E := encI) _ _ _ 8 [.int .i64 0] 1 c3517 M3578 ho3498 (by kernel_rfl) (by kernel_rfl) (by kernel_rfl) rfl (by kernel_rfl) (by kernel_rfl) (by kernel_rfl) (by kernel_rfl) (by kernel_rfl) (by kernel_rfl) (ho3519.rd M3578 2 (by kernel_rfl)) hap3579 ?_
        intro p3580 c3581 sg3582 w3583 ho3584 M3585
        refine W_run 1 [(1, .pointer (some ⟨b3307, 0, none⟩)), (3, .slice p3580 ap3579.length c3581), (4, .int .i64 s3485.2)] w3583 (by kernel_rfl) ?_
        refine W_nil ?_
        refine N_block ?_
        refine N_then ?_
        refine G_region ?_
        refine W_run 3 [(1, .pointer (some ⟨b3307, 0, none⟩)), (3, .slice p3580 ap3579.length c3581), (4, .int .i64 (w64 (s3485.2 + 1)))] w3583 (by kernel_rfl) ?_
        refine W_nil ?_
        obtain rfl := Option.some.inj hm
        exact N_loop fun a ha => ⟨_, rfl, p3580, c3581, sg3582, ho3584, M3585.pick [0, 1] (by kernel_rfl), ha.sub (by kernel_rfl)⟩
    · refine G_cond_f (b := (decide (s3485.2 < r3506))) hc3510 (by kernel_rfl) ?_
      refine G_exit ?_
      refine N_then_exit ?_
      refine N_then_exit ?_
      refine N_block_eq ?_
      obtain rfl := Option.some.inj hm
      obtain rfl := hout3487 _ rfl
      exact N_meet fun a ha => ⟨p3495, c3496, sg3497, ho3498, M3509.pick [1] (by kernel_rfl), ha.sub (by kernel_rfl)⟩
  · intro a3587 w3588 ⟨p3501, c3502, sg3503, ho3504, M3589, hS3590⟩
    refine N_use hS3590 ?_
    have hm := hmo3494
    refine N_then ?_
    refine G_seq ?_
    refine G_region ?_
    refine W_run 2 [(2, .slice p3501 out3492.length c3502)] w3588 (by kernel_rfl) ?_
    refine W_nil ?_
    refine N_then ?_
    refine G_ret ?_
    obtain rfl := Option.some.inj hm
    refine N_ret [.slice p3501 out3492.length c3502] (RVs_cons (RV_tmp (by kernel_rfl)) RVs_nil) ?_
    exact ⟨p3501, c3502, sg3503, rfl, ho3504, M3589.pick [0] (by kernel_rfl)⟩
theorem c_s_ResizeRing (w : World) (x3021 : Ring) (p3023 : Option Addr) (c3024 : Nat) (h3025 : rdS encI w x3021.Items p3023 c3024) (x3026 : Int) {r : Ring × Bool} (hm : M.s_ResizeRing x3021 x3026 = some r) :
    Calls Try.prog 34 #[.agg #[.slice p3023 x3021.Items.length c3024, .int .i64 x3021.Head, .int .i64 x3021.Tail], .int .i64 x3026] w fun e w' => ∃ (p3028 : Option Addr) (c3029 : Nat) (sg3030 : Seg), e = .returned (.tuple #[.agg #[.slice p3028 r.1.Items.length c3029, .int .i64 r.1.Head, .int .i64 r.1.Tail], .bool r.2]) ∧ ownS encI r.1.Items p3028 c3029 sg3030 ∧ Mem [] w w' [sg3030] := by
  unfold M.s_ResizeRing at hm
  refine C_enter Try.func34 rfl (by kernel_rfl) ?_
  have M0 := Mem.refl [] w
  refine G_seq ?_
  refine G_region ?_
  refine W_new (fun b => .pointer (some ⟨b, 0, none⟩)) (.cells ⟨[.slice p3023 x3021.Items.length c3024, .int .i64 x3021.Head, .int .i64 x3021.Tail]⟩ 27 (0, 0)) M0 rfl (by kernel_rfl) (by kernel_rfl) ?_
  intro b3032 w3033 M3034
  refine W_new (fun b => .pointer (some ⟨b, 0, none⟩)) (.cells ⟨[.slice none 0 0, .int .i64 0, .int .i64 0]⟩ 27 (0, 0)) M3034 rfl (by kernel_rfl) (by kernel_rfl) ?_
  intro b3037 w3038 M3039
  refine W_run 1 [(1, .int .i64 x3026), (2, .pointer (some ⟨b3032, 0, none⟩)), (4, .pointer (some ⟨b3037, 0, none⟩))] w3038 (by kernel_rfl) ?_
  refine W_nil ?_
  refine N_then ?_
  refine G_seq ?_
  refine G_seq ?_
  obtain ⟨o3223, ho3224, hm3225⟩ := gx_bind hm
  refine G_meet (fun a w' => Mem [] w w' [[(b3032, .cells ⟨[.slice p3023 x3021.Items.length c3024, .int .i64 x3021.Head, .int .i64 x3021.Tail]⟩ 27 (0, 0))], [(b3037, .cells ⟨[.slice none 0 0, .int .i64 0, .int .i64 0]⟩ 27 (0, 0))]] ∧ Sat Try.f34.ntmps [(1, .int .i64 x3026), (2, .pointer (some ⟨b3032, 0, none⟩)), (4, .pointer (some ⟨b3037, 0, none⟩)), (22, .bool o3223)] a) ?_ ?_
  · have hm := ho3224
    refine G_region ?_
    refine W_val (.agg #[.slice p3023 x3021.Items.length c3024, .int .i64 x3021.Head, .int .i64 x3021.Tail]) w3038 (by kernel_rfl) (E_load (e := 27) (fr := (0, 0)) _ _ true 3 b3032 0 [.slice p3023 x3021.Items.length c3024, .int .i64 x3021.Head, .int .i64 x3021.Tail] (.agg #[.slice p3023 x3021.Items.length c3024, .int .i64 x3021.Head, .int .i64 x3021.Tail]) rfl (by kernel_rfl) (by kernel_rfl) (by kernel_rfl) (M3039.blk 0 (b := b3032) (o := .cells ⟨[.slice p3023 x3021.Items.length c3024, .int .i64 x3021.Head, .int .i64 x3021.Tail]⟩ 27 (0, 0)) (by kernel_rfl))) ?_
    obtain ⟨r3226, hr3226, hm⟩ := gx_bind hm
    refine W_call 58 #[.agg #[.slice p3023 x3021.Items.length c3024, .int .i64 x3021.Head, .int .i64 x3021.Tail]] (by kernel_rfl) (by kernel_rfl) ?_
    refine (c_s_l20Good w3038 x3021 p3023 c3024 (h3025.mem0 M3039) hr3226).mono ?_
    rintro e_ w3227 ⟨rfl, K3228⟩
    have M3229 := M3039.call0 K3228
    refine ⟨_, rfl, ?_⟩
    refine W_run 2 [(1, .int .i64 x3026), (2, .pointer (some ⟨b3032, 0, none⟩)), (4, .pointer (some ⟨b3037, 0, none⟩)), (12, .bool (!r3226))] w3227 (by kernel_rfl) ?_
    rcases gx_bif hm with ⟨hc3230, hm⟩ | ⟨hc3230, hm⟩
    · refine W_known 12 true (by kernel_rfl) hc3230 ?_
      refine W_run 10 [(1, .int .i64 x3026), (2, .pointer (some ⟨b3032, 0, none⟩)), (4, .pointer (some ⟨b3037, 0, none⟩)), (22, .bool true)] w3227 (by kernel_rfl) ?_
      refine W_nil ?_
      obtain rfl := Option.some.inj hm
      exact N_meet fun a ha => ⟨M3229.pick [0, 1] (by kernel_rfl), ha.sub (by kernel_rfl)⟩
    · refine W_known 12 false (by kernel_rfl) hc3230 ?_
      refine W_run 1 [(1, .int .i64 x3026), (2, .pointer (some ⟨b3032, 0, none⟩)), (4, .pointer (some ⟨b3037, 0, none⟩)), (12, .bool false), (13, .int .i64 x3026)] w3227 (by kernel_rfl) ?_
      obtain ⟨r3231, hr3231, hm⟩ := gx_bind hm
      refine W_call 55 #[.int .i64 x3026] (by kernel_rfl) (by kernel_rfl) ?_
      refine (c_s_l20Places w3227 x3026 hr3231).mono ?_
      rintro e_ w3232 ⟨rfl, K3233⟩
      have M3234 := M3229.call0 K3233
      refine ⟨_, rfl, ?_⟩
      refine W_run 3 [(1, .int .i64 x3026), (2, .pointer (some ⟨b3032, 0, none⟩)), (4, .pointer (some ⟨b3037, 0, none⟩)), (17, .bool (!r3231))] w3232 (by kernel_rfl) ?_
      rcases gx_bif hm with ⟨hc3235, hm⟩ | ⟨hc3235, hm⟩
      · refine W_known 17 true (by kernel_rfl) hc3235 ?_
        refine W_run 5 [(1, .int .i64 x3026), (2, .pointer (some ⟨b3032, 0, none⟩)), (4, .pointer (some ⟨b3037, 0, none⟩)), (22, .bool true)] w3232 (by kernel_rfl) ?_
        refine W_nil ?_
        obtain rfl := Option.some.inj hm
        exact N_meet fun a ha => ⟨M3234.pick [0, 1] (by kernel_rfl), ha.sub (by kernel_rfl)⟩
      · refine W_known 17 false (by kernel_rfl) hc3235 ?_
        refine W_val (.agg #[.slice p3023 x3021.Items.length c3024, .int .i64 x3021.Head, .int .i64 x3021.Tail]) w3232 (by kernel_rfl) (E_load (e := 27) (fr := (0, 0)) _ _ true 3 b3032 0 [.slice p3023 x3021.Items.length c3024, .int .i64 x3021.Head, .int .i64 x3021.Tail] (.agg #[.slice p3023 x3021.Items.length c3024, .int .i64 x3021.Head, .int .i64 x3021.Tail]) rfl (by kernel_rfl) (by kernel_rfl) (by kernel_rfl) (M3234.blk 0 (b := b3032) (o := .cells ⟨[.slice p3023 x3021.Items.length c3024, .int .i64 x3021.Head, .int .i64 x3021.Tail]⟩ 27 (0, 0)) (by kernel_rfl))) ?_
        obtain ⟨r3236, hr3236, hm⟩ := gx_bind hm
        refine W_call 63 #[.agg #[.slice p3023 x3021.Items.length c3024, .int .i64 x3021.Head, .int .i64 x3021.Tail]] (by kernel_rfl) (by kernel_rfl) ?_
        refine (c_s_l20Count w3232 x3021 p3023 c3024 (h3025.mem0 M3234) hr3236).mono ?_
        rintro e_ w3237 ⟨rfl, K3238⟩
        have M3239 := M3234.call0 K3238
        refine ⟨_, rfl, ?_⟩
        refine W_run 3 [(1, .int .i64 x3026), (2, .pointer (some ⟨b3032, 0, none⟩)), (4, .pointer (some ⟨b3037, 0, none⟩)), (22, .bool (decide (r3236 > x3026)))] w3237 (by kernel_rfl) ?_
        refine W_nil ?_
        obtain rfl := Option.some.inj hm
        exact N_meet fun a ha => ⟨M3239.pick [0, 1] (by kernel_rfl), ha.sub (by kernel_rfl)⟩
  · intro a3242 w3240 ⟨M3241, hS3243⟩
    refine N_use hS3243 ?_
    have hm := hm3225
    refine N_then ?_
    rcases gx_bif hm with ⟨hc3244, hm⟩ | ⟨hc3244, hm⟩
    · refine G_cond_t (b := o3223) hc3244 (by kernel_rfl) ?_
      refine G_seq ?_
      refine G_region ?_
      refine W_run 1 [(4, .pointer (some ⟨b3037, 0, none⟩)), (23, .agg #[.slice none 0 0, .int .i64 0, .int .i64 0])] w3240 (by kernel_rfl) ?_
      refine W_store _ _ _ true 3 b3037 0 [.slice none 0 0, .int .i64 0, .int .i64 0] 27 (.agg #[.slice none 0 0, .int .i64 0, .int .i64 0]) 1 [.slice none 0 0, .int .i64 0, .int .i64 0] M3241 (by kernel_rfl) rfl (by kernel_rfl) (by kernel_rfl) (by kernel_rfl) (by kernel_rfl) (by kernel_rfl) (by kernel_rfl) (by kernel_rfl) (by kernel_rfl) ?_
      intro w3246 M3247
      refine W_run 1 [(4, .pointer (some ⟨b3037, 0, none⟩)), (5, .bool false)] w3246 (by kernel_rfl) ?_
      refine W_nil ?_
      refine N_then ?_
      refine G_ret ?_
      refine N_then_ret ?_
      obtain rfl := Option.some.inj hm
      refine N_ret [.agg #[.slice none 0 0, .int .i64 0, .int .i64 0], .bool false] (RVs_cons (RV_cell (g := true) (k := 3) (b := b3037) (off := 0) (cs := [.slice none 0 0, .int .i64 0, .int .i64 0]) (e := 27) (fr := (0, 0)) (v := .agg #[.slice none 0 0, .int .i64 0, .int .i64 0]) (M3247.blk 1 (b := b3037) (o := .cells ⟨[.slice none 0 0, .int .i64 0, .int .i64 0]⟩ 27 (0, 0)) (by kernel_rfl)) (by kernel_rfl) (by kernel_rfl) (by kernel_rfl)) (RVs_cons (RV_tmp (by kernel_rfl)) RVs_nil)) ?_
      exact ⟨none, 0, [], rfl, ownS_nil, M3247.pick [100000] (by kernel_rfl)⟩
    · refine G_cond_f (b := o3223) hc3244 (by kernel_rfl) ?_
      refine G_skip ?_
      refine N_then ?_
      refine G_seq ?_
      obtain ⟨mk3250, hmk3250, hm⟩ := gx_bind hm
      refine G_sub [(1, .int .i64 x3026), (2, .pointer (some ⟨b3032, 0, none⟩)), (4, .pointer (some ⟨b3037, 0, none⟩)), (22, .bool o3223)] (by kernel_rfl) ?_
      refine G_dagL 8 [[], [0], [], [2], [], [4], [3, 5], []] [[], [], [], [], [], [], [], []] [[], [], [], [], [], [], [], []] [[], [], [], [], [], [], [1], []] [[], [], [], [], [], [], [1], []] [[], [], [], [], [], [], [], []] (fun _ => []) (fun i => ([fun f v s => v = (.int .i64 x3026 : Value) ∧ s = [], fun f v s => ∃ (p3252 : Option Addr) (c3253 : Nat), v = (.slice p3252 mk3250.length c3253 : Value) ∧ ownS encI mk3250 p3252 c3253 s, fun f v s => v = (.pointer (some ⟨b3032, 1, none⟩) : Value) ∧ s = [], fun f v s => v = (.int .i64 x3021.Head : Value) ∧ s = [], fun f v s => v = (.pointer (some ⟨b3032, 1, none⟩) : Value) ∧ s = [], fun f v s => v = (.int .i64 x3021.Head : Value) ∧ s = [], fun f v s => v = (.agg #[(atPath (f 1) []), .int .i64 x3021.Head, .int .i64 x3021.Head] : Value) ∧ s = [], fun f v s => ∃ (b3259 : Nat), v = (.pointer (some ⟨b3259, 0, none⟩) : Value) ∧ s = [(b3259, .cells ⟨[.slice none 0 0, .int .i64 0, .int .i64 0]⟩ 27 (0, 0))]] : List ((Nat → Value) → Value → Seg → Prop)).getD i (fun _ _ _ => False)) (fun j f v => ∃ s, (fun i => ([fun f v s => v = (.int .i64 x3026 : Value) ∧ s = [], fun f v s => ∃ (p3252 : Option Addr) (c3253 : Nat), v = (.slice p3252 mk3250.length c3253 : Value) ∧ ownS encI mk3250 p3252 c3253 s, fun f v s => v = (.pointer (some ⟨b3032, 1, none⟩) : Value) ∧ s = [], fun f v s => v = (.int .i64 x3021.Head : Value) ∧ s = [], fun f v s => v = (.pointer (some ⟨b3032, 1, none⟩) : Value) ∧ s = [], fun f v s => v = (.int .i64 x3021.Head : Value) ∧ s = [], fun f v s => v = (.agg #[(atPath (f 1) []), .int .i64 x3021.Head, .int .i64 x3021.Head] : Value) ∧ s = [], fun f v s => ∃ (b3259 : Nat), v = (.pointer (some ⟨b3259, 0, none⟩) : Value) ∧ s = [(b3259, .cells ⟨[.slice none 0 0, .int .i64 0, .int .i64 0]⟩ 27 (0, 0))]] : List ((Nat → Value) → Value → Seg → Prop)).getD i (fun _ _ _ => False)) j f v s) [] [1, 6, 7] [1, 7] (fun _ _ _ s h => ⟨s, h⟩) (by kernel_rfl) (by kernel_rfl) (M3241.preNil 8) (by kernel_rfl) (by kernel_rfl) (by kernel_rfl) (by kernel_rfl) (allOb_cons ?_ (allOb_cons ?_ (allOb_cons ?_ (allOb_cons ?_ (allOb_cons ?_ (allOb_cons ?_ (allOb_cons ?_ (allOb_cons ?_ allOb_nil)))))))) ?_
      · intro g3248 f3249
        intro R w3260 M3261
        refine W_run 1 [(24, .int .i64 x3026)] w3260 (by kernel_rfl) ?_
        exact W_nil (ob_end (.int .i64 x3026) [] rfl (by kernel_rfl) ⟨by kernel_rfl, rfl⟩ M3261)
      · intro g3248 f3249
        intro v0_ hb0_
        obtain ⟨rfl, _⟩ := hb0_
        intro R w3264 M3265
        refine W_make (E := encI) _ _ _ x3026 8 [.int .i64 0] (0 : Int) M3265 (by kernel_rfl) rfl (by kernel_rfl) (by kernel_rfl) (by kernel_rfl) (by kernel_rfl) (by kernel_rfl) hmk3250 ?_
        intro p3252 c3253 sg3254 w3266 ho3255 M3267
        exact W_nil (ob_end (.slice p3252 mk3250.length c3253) sg3254 rfl (by kernel_rfl) ⟨p3252, c3253, rfl, ho3255⟩ (Mem.mid M3267))
      · intro g3248 f3249
        intro R w3268 M3269
        refine W_run 1 [(26, .pointer (some ⟨b3032, 1, none⟩))] w3268 (by kernel_rfl) ?_
        exact W_nil (ob_end (.pointer (some ⟨b3032, 1, none⟩)) [] rfl (by kernel_rfl) ⟨by kernel_rfl, rfl⟩ M3269)
      · intro g3248 f3249
        intro v2_ hb2_
        obtain ⟨rfl, _⟩ := hb2_
        intro R w3272 M3273
        refine W_val (.int .i64 x3021.Head) w3272 (by kernel_rfl) (E_load (e := 27) (fr := (0, 0)) _ _ false 1 b3032 1 [.slice p3023 x3021.Items.length c3024, .int .i64 x3021.Head, .int .i64 x3021.Tail] (.int .i64 x3021.Head) rfl (by kernel_rfl) (by kernel_rfl) (by kernel_rfl) (M3273.blk 0 (b := b3032) (o := .cells ⟨[.slice p3023 x3021.Items.length c3024, .int .i64 x3021.Head, .int .i64 x3021.Tail]⟩ 27 (0, 0)) (by kernel_rfl))) ?_
        exact W_nil (ob_end (.int .i64 x3021.Head) [] rfl (by kernel_rfl) ⟨by kernel_rfl, rfl⟩ M3273)
      · intro g3248 f3249
        intro R w3276 M3277
        refine W_run 1 [(28, .pointer (some ⟨b3032, 1, none⟩))] w3276 (by kernel_rfl) ?_
        exact W_nil (ob_end (.pointer (some ⟨b3032, 1, none⟩)) [] rfl (by kernel_rfl) ⟨by kernel_rfl, rfl⟩ M3277)
      · intro g3248 f3249
        intro v4_ hb4_
        obtain ⟨rfl, _⟩ := hb4_
        intro R w3280 M3281
        refine W_val (.int .i64 x3021.Head) w3280 (by kernel_rfl) (E_load (e := 27) (fr := (0, 0)) _ _ false 1 b3032 1 [.slice p3023 x3021.Items.length c3024, .int .i64 x3021.Head, .int .i64 x3021.Tail] (.int .i64 x3021.Head) rfl (by kernel_rfl) (by kernel_rfl) (by kernel_rfl) (M3281.blk 0 (b := b3032) (o := .cells ⟨[.slice p3023 x3021.Items.length c3024, .int .i64 x3021.Head, .int .i64 x3021.Tail]⟩ 27 (0, 0)) (by kernel_rfl))) ?_
        exact W_nil (ob_end (.int .i64 x3021.Head) [] rfl (by kernel_rfl) ⟨by kernel_rfl, rfl⟩ M3281)
      · intro g3248 f3249
        intro v1_ hb1_
        obtain ⟨_, p3252, c3253, rfl, _⟩ := hb1_
        intro v3_ hb3_
        obtain ⟨rfl, _⟩ := hb3_
        intro v5_ hb5_
        obtain ⟨rfl, _⟩ := hb5_
        intro R w3284 M3285
        refine W_run 1 [(30, .agg #[.slice p3252 mk3250.length c3253, .int .i64 x3021.Head, .int .i64 x3021.Head])] w3284 (by kernel_rfl) ?_
        exact W_nil (ob_end (.agg #[.slice p3252 mk3250.length c3253, .int .i64 x3021.Head, .int .i64 x3021.Head]) [] rfl (by kernel_rfl) ⟨by kernel_rfl, rfl⟩ M3285)
      · intro g3248 f3249
        intro R w3288 M3289
        refine W_new (fun b => .pointer (some ⟨b, 0, none⟩)) (.cells ⟨[.slice none 0 0, .int .i64 0, .int .i64 0]⟩ 27 (0, 0)) M3289 rfl (by kernel_rfl) (by kernel_rfl) ?_
        intro b3259 w3290 M3291
        exact W_nil (ob_end (.pointer (some ⟨b3259, 0, none⟩)) [(b3259, .cells ⟨[.slice none 0 0, .int .i64 0, .int .i64 0]⟩ 27 (0, 0))] rfl (by kernel_rfl) ⟨b3259, rfl, rfl⟩ (Mem.mid M3291))
      · intro g3248 f3249
        intro v1_ hb1_
        obtain ⟨p3252, c3253, rfl, ho3255⟩ := hb1_
        intro v6_ hb6_
        obtain ⟨hv6_, _⟩ := hb6_
        obtain rfl : v6_ = (.agg #[.slice p3252 mk3250.length c3253, .int .i64 x3021.Head, .int .i64 x3021.Head] : Value) := hv6_.trans (by kernel_rfl)
        intro v7_ hb7_
        obtain ⟨b3259, rfl, hs7_⟩ := hb7_
        intro w3292 M3293
        have M3294 : Mem [] w w3292 [[(b3032, .cells ⟨[.slice p3023 x3021.Items.length c3024, .int .i64 x3021.Head, .int .i64 x3021.Tail]⟩ 27 (0, 0))], [(b3037, .cells ⟨[.slice none 0 0, .int .i64 0, .int .i64 0]⟩ 27 (0, 0))], (g3248 1), (g3248 7)] := M3293
        rw [hs7_] at M3294
        refine W_store _ _ _ true 3 b3259 0 [.slice none 0 0, .int .i64 0, .int .i64 0] 27 (.agg #[.slice p3252 mk3250.length c3253, .int .i64 x3021.Head, .int .i64 x3021.Head]) 3 [.slice p3252 mk3250.length c3253, .int .i64 x3021.Head, .int .i64 x3021.Head] M3294 (by kernel_rfl) rfl (by kernel_rfl) (by kernel_rfl) (by kernel_rfl) (by kernel_rfl) (by kernel_rfl) (by kernel_rfl) (by kernel_rfl) (by kernel_rfl) ?_
        intro w3295 M3296
        refine W_nil ?_
        refine N_then ?_
        refine G_seq ?_
        refine G_region ?_
        refine W_val (.agg #[.slice p3023 x3021.Items.length c3024, .int .i64 x3021.Head, .int .i64 x3021.Tail]) w3295 (by kernel_rfl) (E_load (e := 27) (fr := (0, 0)) _ _ true 3 b3032 0 [.slice p3023 x3021.Items.length c3024, .int .i64 x3021.Head, .int .i64 x3021.Tail] (.agg #[.slice p3023 x3021.Items.length c3024, .int .i64 x3021.Head, .int .i64 x3021.Tail]) rfl (by kernel_rfl) (by kernel_rfl) (by kernel_rfl) (M3296.blk 0 (b := b3032) (o := .cells ⟨[.slice p3023 x3021.Items.length c3024, .int .i64 x3021.Head, .int .i64 x3021.Tail]⟩ 27 (0, 0)) (by kernel_rfl))) ?_
        obtain ⟨r3591, hr3591, hm⟩ := gx_bind hm
        refine W_call 60 #[.agg #[.slice p3023 x3021.Items.length c3024, .int .i64 x3021.Head, .int .i64 x3021.Tail]] (by kernel_rfl) (by kernel_rfl) ?_
        refine (c_s_l20Words w3295 x3021 p3023 c3024 (h3025.mem0 M3296) hr3591).mono ?_
        rintro e_ w3597 ⟨p3593, c3594, sg3595, rfl, ho3596, K3598⟩
        have M3599 := M3296.call K3598
        refine ⟨_, rfl, ?_⟩
        refine W_run 1 [(4, .pointer (some ⟨b3037, 0, none⟩)), (6, .pointer (some ⟨b3259, 0, none⟩)), (7, .slice p3593 r3591.length c3594)] w3597 (by kernel_rfl) ?_
        refine W_nil ?_
        refine N_then ?_
        refine G_seq ?_
        refine G_seq ?_
        refine G_region ?_
        refine W_run 1 [(4, .pointer (some ⟨b3037, 0, none⟩)), (6, .pointer (some ⟨b3259, 0, none⟩)), (7, .slice p3593 r3591.length c3594), (8, .int .i64 0)] w3597 (by kernel_rfl) ?_
        refine W_nil ?_
        refine N_then ?_
        obtain ⟨out3722, hw3723, hmo3724⟩ := gx_bind hm
        refine G_meet (fun a w' => ∃ (p3731 : Option Addr), ∃ (c3732 : Nat), ∃ (sg3733 : Seg), ownS encI out3722.1 p3731 c3732 sg3733 ∧ Mem [] w w' [[(b3037, .cells ⟨[.slice none 0 0, .int .i64 0, .int .i64 0]⟩ 27 (0, 0))], [(b3259, .cells ⟨[.slice p3731 out3722.1.length c3732, .int .i64 out3722.2.1, .int .i64 out3722.2.2]⟩ 27 (0, 0))], sg3733] ∧ Sat Try.f34.ntmps [(4, .pointer (some ⟨b3037, 0, none⟩)), (6, .pointer (some ⟨b3259, 0, none⟩))] a) ?_ ?_
        · refine G_block ?_
          refine G_while (σ := Int × List Int × Int × Int) (ρ := List Int × Int × Int) (fun s3715 a w' => ∃ (p3725 : Option Addr), ∃ (c3726 : Nat), ∃ (sg3727 : Seg), ownS encI s3715.2.1 p3725 c3726 sg3727 ∧ Mem [] w w' [[(b3037, .cells ⟨[.slice none 0 0, .int .i64 0, .int .i64 0]⟩ 27 (0, 0))], [(b3259, .cells ⟨[.slice p3725 s3715.2.1.length c3726, .int .i64 s3715.2.2.1, .int .i64 s3715.2.2.2]⟩ 27 (0, 0))], sg3595, sg3727] ∧ Sat Try.f34.ntmps [(4, .pointer (some ⟨b3037, 0, none⟩)), (6, .pointer (some ⟨b3259, 0, none⟩)), (7, .slice p3593 r3591.length c3594), (8, .int .i64 s3715.1)] a) hw3723 (fun a ha => ⟨p3252, c3253, (g3248 1), ho3255, M3599.pick [1, 3, 4, 2] (by kernel_rfl), ha.sub (by kernel_rfl)⟩) ?_
          clear hm
          intro s3715 x3716 hm hout3717 a3718 w3719 ⟨p3725, c3726, sg3727, ho3728, M3720, hS3721⟩
          refine G_use hS3721 ?_
          refine G_seq ?_
          refine G_seq ?_
          refine G_region ?_
          refine W_run 4 [(4, .pointer (some ⟨b3037, 0, none⟩)), (6, .pointer (some ⟨b3259, 0, none⟩)), (7, .slice p3593 r3591.length c3594), (8, .int .i64 s3715.1), (36, .bool (decide (s3715.1 < (r3591.length : Int))))] w3719 (by kernel_rfl) ?_
          refine W_nil ?_
          refine N_then ?_
          rcases gx_bif hm with ⟨hc3736, hm⟩ | ⟨hc3736, hm⟩
          · refine G_cond_t (b := (decide (s3715.1 < (r3591.length : Int)))) hc3736 (by kernel_rfl) ?_
            refine G_skip ?_
            refine N_then ?_
            refine G_seq ?_
            refine G_block ?_
            obtain ⟨y3739, hy3739, hm⟩ := gx_bind hm
            obtain ⟨r3740, hr3740, hm⟩ := gx_bind hm
            have M3746 : Mem [] w w3719 ([[(b3037, .cells ⟨[.slice none 0 0, .int .i64 0, .int .i64 0]⟩ 27 (0, 0))], sg3595, sg3727] ++ (List.range 10).map (fun i => ([[], [], [], [], [], [], [], [], [], [(b3259, .cells ⟨[.slice p3725 s3715.2.1.length c3726, .int .i64 s3715.2.2.1, .int .i64 s3715.2.2.2]⟩ 27 (0, 0))]] : List Seg).getD i [])) := M3720.pick [0, 2, 3, 300000, 300001, 300002, 300003, 300004, 300005, 300006, 300007, 300008, 1] (by kernel_rfl)
            refine G_sub [(4, .pointer (some ⟨b3037, 0, none⟩)), (6, .pointer (some ⟨b3259, 0, none⟩)), (7, .slice p3593 r3591.length c3594), (8, .int .i64 s3715.1), (36, .bool (decide (s3715.1 < (r3591.length : Int))))] (by kernel_rfl) ?_
            refine G_dagL 10 [[], [], [], [1, 2], [3], [0, 4], [], [6], [6], [7]] [[], [], [], [], [], [], [], [], [], []] [[], [], [], [], [], [], [], [], [], []] [[], [], [], [], [], [], [5], [5], [5], [5]] [[], [], [], [], [], [], [5], [5], [], [5]] [[9], [], [], [], [], [], [], [], [], []] (fun i => ([[], [], [], [], [], [], [], [], [], [(b3259, .cells ⟨[.slice p3725 s3715.2.1.length c3726, .int .i64 s3715.2.2.1, .int .i64 s3715.2.2.2]⟩ 27 (0, 0))]] : List Seg).getD i []) (fun i => ([fun f v s => v = (.agg #[.slice p3725 s3715.2.1.length c3726, .int .i64 s3715.2.2.1, .int .i64 s3715.2.2.2] : Value) ∧ s = [], fun f v s => v = (.slice p3593 r3591.length c3594 : Value) ∧ s = [], fun f v s => v = (.int .i64 s3715.1 : Value) ∧ s = [], fun f v s => v = (elemP p3593 (s3715.1.toNat * 1) : Value) ∧ s = [], fun f v s => v = (.int .i64 y3739 : Value) ∧ s = [], fun f v s => ∃ (p3742 : Option Addr) (c3743 : Nat), v = (.tuple #[.agg #[.slice p3742 r3740.1.Items.length c3743, .int .i64 r3740.1.Head, .int .i64 r3740.1.Tail], .bool r3740.2] : Value) ∧ ownS encI r3740.1.Items p3742 c3743 s, fun f v s => v = (.tuple #[.agg #[(atPath (f 5) [0, 0]), .int .i64 r3740.1.Head, .int .i64 r3740.1.Tail], .bool r3740.2] : Value) ∧ s = [], fun f v s => v = (.agg #[(atPath (f 5) [0, 0]), .int .i64 r3740.1.Head, .int .i64 r3740.1.Tail] : Value) ∧ s = [], fun f v s => v = (.bool r3740.2 : Value) ∧ s = [], fun f v s => v = undef ∧ s = [(b3259, .cells ⟨[(atPath (f 5) [0, 0]), .int .i64 r3740.1.Head, .int .i64 r3740.1.Tail]⟩ 27 (0, 0))]] : List ((Nat → Value) → Value → Seg → Prop)).getD i (fun _ _ _ => False)) (fun j f v => ∃ s, (fun i => ([fun f v s => v = (.agg #[.slice p3725 s3715.2.1.length c3726, .int .i64 s3715.2.2.1, .int .i64 s3715.2.2.2] : Value) ∧ s = [], fun f v s => v = (.slice p3593 r3591.length c3594 : Value) ∧ s = [], fun f v s => v = (.int .i64 s3715.1 : Value) ∧ s = [], fun f v s => v = (elemP p3593 (s3715.1.toNat * 1) : Value) ∧ s = [], fun f v s => v = (.int .i64 y3739 : Value) ∧ s = [], fun f v s => ∃ (p3742 : Option Addr) (c3743 : Nat), v = (.tuple #[.agg #[.slice p3742 r3740.1.Items.length c3743, .int .i64 r3740.1.Head, .int .i64 r3740.1.Tail], .bool r3740.2] : Value) ∧ ownS encI r3740.1.Items p3742 c3743 s, fun f v s => v = (.tuple #[.agg #[(atPath (f 5) [0, 0]), .int .i64 r3740.1.Head, .int .i64 r3740.1.Tail], .bool r3740.2] : Value) ∧ s = [], fun f v s => v = (.agg #[(atPath (f 5) [0, 0]), .int .i64 r3740.1.Head, .int .i64 r3740.1.Tail] : Value) ∧ s = [], fun f v s => v = (.bool r3740.2 : Value) ∧ s = [], fun f v s => v = undef ∧ s = [(b3259, .cells ⟨[(atPath (f 5) [0, 0]), .int .i64 r3740.1.Head, .int .i64 r3740.1.Tail]⟩ 27 (0, 0))]] : List ((Nat → Value) → Value → Seg → Prop)).getD i (fun _ _ _ => False)) j f v s) [] [5, 9] [5, 9] (fun _ _ _ s h => ⟨s, h⟩) (by kernel_rfl) (by kernel_rfl) M3746 (by kernel_rfl) (by kernel_rfl) (by kernel_rfl) (by kernel_rfl) (allOb_cons ?_ (allOb_cons ?_ (allOb_cons ?_ (allOb_cons ?_ (allOb_cons ?_ (allOb_cons ?_ (allOb_cons ?_ (allOb_cons ?_ (allOb_cons ?_ (allOb_cons ?_ allOb_nil)))))))))) ?_
            · intro g3737 f3738
              intro R w3747 M3748
              refine W_val (.agg #[.slice p3725 s3715.2.1.length c3726, .int .i64 s3715.2.2.1, .int .i64 s3715.2.2.2]) w3747 (by kernel_rfl) (E_load (e := 27) (fr := (0, 0)) _ _ true 3 b3259 0 [.slice p3725 s3715.2.1.length c3726, .int .i64 s3715.2.2.1, .int .i64 s3715.2.2.2] (.agg #[.slice p3725 s3715.2.1.length c3726, .int .i64 s3715.2.2.1, .int .i64 s3715.2.2.2]) rfl (by kernel_rfl) (by kernel_rfl) (by kernel_rfl) (M3748.blk 4 (b := b3259) (o := .cells ⟨[.slice p3725 s3715.2.1.length c3726, .int .i64 s3715.2.2.1, .int .i64 s3715.2.2.2]⟩ 27 (0, 0)) (by kernel_rfl))) ?_
              exact W_nil (ob_end (.agg #[.slice p3725 s3715.2.1.length c3726, .int .i64 s3715.2.2.1, .int .i64 s3715.2.2.2]) [] rfl (by kernel_rfl) ⟨by kernel_rfl, rfl⟩ M3748)
            · intro g3737 f3738
              intro R w3751 M3752
              refine W_run 1 [(41, .slice p3593 r3591.length c3594)] w3751 (by kernel_rfl) ?_
              exact W_nil (ob_end (.slice p3593 r3591.length c3594) [] rfl (by kernel_rfl) ⟨by kernel_rfl, rfl⟩ M3752)
            · intro g3737 f3738
              intro R w3755 M3756
              refine W_run 1 [(42, .int .i64 s3715.1)] w3755 (by kernel_rfl) ?_
              exact W_nil (ob_end (.int .i64 s3715.1) [] rfl (by kernel_rfl) ⟨by kernel_rfl, rfl⟩ M3756)
            · intro g3737 f3738
              intro v1_ hb1_
              obtain ⟨rfl, _⟩ := hb1_
              intro v2_ hb2_
              obtain ⟨rfl, _⟩ := hb2_
              intro R w3759 M3760
              refine W_val (elemP p3593 (s3715.1.toNat * 1)) w3759 (by kernel_rfl) (E_index (E := encI) _ _ _ r3591.length c3594 .i64 s3715.1 1 (y := y3739) rfl (by kernel_rfl) (by kernel_rfl) (by kernel_rfl) (ho3596.rd M3760 1 (by kernel_rfl)) rfl hy3739) ?_
              exact W_nil (ob_end (elemP p3593 (s3715.1.toNat * 1)) [] rfl (by kernel_rfl) ⟨by kernel_rfl, rfl⟩ M3760)
            · intro g3737 f3738
              intro v3_ hb3_
              obtain ⟨rfl, _⟩ := hb3_
              intro R w3763 M3764
              refine W_val (.int .i64 y3739) w3763 (by kernel_rfl) (E_loadE (E := encI) _ _ false 1 s3715.1 0 (s3715.1.toNat * 1) y3739 (.int .i64 y3739) rfl (by kernel_rfl) (by kernel_rfl) (by kernel_rfl) (ho3596.rd M3764 1 (by kernel_rfl)) hy3739 rfl) ?_
              exact W_nil (ob_end (.int .i64 y3739) [] rfl (by kernel_rfl) ⟨by kernel_rfl, rfl⟩ M3764)
            · intro g3737 f3738
              intro v0_ hb0_
              obtain ⟨rfl, _⟩ := hb0_
              intro v4_ hb4_
              obtain ⟨rfl, _⟩ := hb4_
              intro R w3767 M3768
              refine W_call 67 #[.agg #[.slice p3725 s3715.2.1.length c3726, .int .i64 s3715.2.2.1, .int .i64 s3715.2.2.2], .int .i64 y3739] (by kernel_rfl) (by kernel_rfl) ?_
              refine (c_s_l20Put w3767 (⟨s3715.2.1, s3715.2.2.1, s3715.2.2.2⟩ : Ring) p3725 c3726 (ho3728.rd M3768 2 (by kernel_rfl)) y3739 hr3740).mono ?_
              rintro e_ w3769 ⟨p3742, c3743, sg3744, rfl, ho3745, K3771⟩
              refine ⟨_, rfl, ?_⟩
              exact W_nil (ob_end (.tuple #[.agg #[.slice p3742 r3740.1.Items.length c3743, .int .i64 r3740.1.Head, .int .i64 r3740.1.Tail], .bool r3740.2]) sg3744 rfl (by kernel_rfl) ⟨p3742, c3743, rfl, ho3745⟩ (Mem.callMid M3768 K3771))
            · intro g3737 f3738
              intro v5_ hb5_
              obtain ⟨_, p3742, c3743, rfl, _⟩ := hb5_
              intro R w3772 M3773
              refine W_run 1 [(39, .tuple #[.agg #[.slice p3742 r3740.1.Items.length c3743, .int .i64 r3740.1.Head, .int .i64 r3740.1.Tail], .bool r3740.2])] w3772 (by kernel_rfl) ?_
              exact W_nil (ob_end (.tuple #[.agg #[.slice p3742 r3740.1.Items.length c3743, .int .i64 r3740.1.Head, .int .i64 r3740.1.Tail], .bool r3740.2]) [] rfl (by kernel_rfl) ⟨by kernel_rfl, rfl⟩ M3773)
            · intro g3737 f3738
              intro v5_ hb5_
              obtain ⟨_, p3742, c3743, rfl, _⟩ := hb5_
              intro v6_ hb6_
              obtain ⟨hv6_, _⟩ := hb6_
              obtain rfl : v6_ = (.tuple #[.agg #[.slice p3742 r3740.1.Items.length c3743, .int .i64 r3740.1.Head, .int .i64 r3740.1.Tail], .bool r3740.2] : Value) := hv6_.trans (by kernel_rfl)
              intro R w3776 M3777
              refine W_run 1 [(46, .agg #[.slice p3742 r3740.1.Items.length c3743, .int .i64 r3740.1.Head, .int .i64 r3740.1.Tail])] w3776 (by kernel_rfl) ?_
              exact W_nil (ob_end (.agg #[.slice p3742 r3740.1.Items.length c3743, .int .i64 r3740.1.Head, .int .i64 r3740.1.Tail]) [] rfl (by kernel_rfl) ⟨by kernel_rfl, rfl⟩ M3777)
            · intro g3737 f3738
              intro v5_ hb5_
              obtain ⟨_, p3742, c3743, rfl, _⟩ := hb5_
              intro v6_ hb6_
              obtain ⟨hv6_, _⟩ := hb6_
              obtain rfl : v6_ = (.tuple #[.agg #[.slice p3742 r3740.1.Items.length c3743, .int .i64 r3740.1.Head, .int .i64 r3740.1.Tail], .bool r3740.2] : Value) := hv6_.trans (by kernel_rfl)
              intro R w3780 M3781
              refine W_run 1 [(47, .bool r3740.2)] w3780 (by kernel_rfl) ?_
              exact W_nil (ob_end (.bool r3740.2) [] rfl (by kernel_rfl) ⟨by kernel_rfl, rfl⟩ M3781)
            · intro g3737 f3738
              intro v5_ hb5_
              obtain ⟨_, p3742, c3743, rfl, _⟩ := hb5_
              intro v7_ hb7_
              obtain ⟨hv7_, _⟩ := hb7_
              obtain rfl : v7_ = (.agg #[.slice p3742 r3740.1.Items.length c3743, .int .i64 r3740.1.Head, .int .i64 r3740.1.Tail] : Value) := hv7_.trans (by kernel_rfl)
              intro R w3784 M3785
              refine W_store _ _ _ true 3 b3259 0 [.slice p3725 s3715.2.1.length c3726, .int .i64 s3715.2.2.1, .int .i64 s3715.2.2.2] 27 (.agg #[.slice p3742 r3740.1.Items.length c3743, .int .i64 r3740.1.Head, .int .i64 r3740.1.Tail]) 3 [.slice p3742 r3740.1.Items.length c3743, .int .i64 r3740.1.Head, .int .i64 r3740.1.Tail] M3785 (by kernel_rfl) rfl (by kernel_rfl) (by kernel_rfl) (by kernel_rfl) (by kernel_rfl) (by kernel_rfl) (by kernel_rfl) (by kernel_rfl) (by kernel_rfl) ?_
              intro w3786 M3787
              exact W_nil (ob_none [(b3259, .cells ⟨[.slice p3742 r3740.1.Items.length c3743, .int .i64 r3740.1.Head, .int .i64 r3740.1.Tail]⟩ 27 (0, 0))] rfl ⟨rfl, by kernel_rfl⟩ M3787)
            · intro g3737 f3738
              intro v5_ hb5_
              obtain ⟨p3742, c3743, rfl, ho3745⟩ := hb5_
              intro v9_ hb9_
              obtain ⟨rfl, hs9_⟩ := hb9_
              replace hs9_ := hs9_.trans (show _ = [(b3259, .cells ⟨[.slice p3742 r3740.1.Items.length c3743, .int .i64 r3740.1.Head, .int .i64 r3740.1.Tail]⟩ 27 (0, 0))] by kernel_rfl)
              intro w3788 M3789
              have M3790 : Mem [] w w3788 [[(b3037, .cells ⟨[.slice none 0 0, .int .i64 0, .int .i64 0]⟩ 27 (0, 0))], sg3595, sg3727, (g3737 5), (g3737 9)] := M3789
              rw [hs9_] at M3790
              refine W_nil ?_
              refine N_block ?_
              refine N_then ?_
              refine G_region ?_
              refine W_run 3 [(4, .pointer (some ⟨b3037, 0, none⟩)), (6, .pointer (some ⟨b3259, 0, none⟩)), (7, .slice p3593 r3591.length c3594), (8, .int .i64 (w64 (s3715.1 + 1)))] w3788 (by kernel_rfl) ?_
              refine W_nil ?_
              obtain rfl := Option.some.inj hm
              exact N_loop fun a ha => ⟨_, rfl, p3742, c3743, (g3737 5), ho3745, M3790.pick [0, 4, 1, 3] (by kernel_rfl), ha.sub (by kernel_rfl)⟩
          · refine G_cond_f (b := (decide (s3715.1 < (r3591.length : Int)))) hc3736 (by kernel_rfl) ?_
            refine G_exit ?_
            refine N_then_exit ?_
            refine N_then_exit ?_
            refine N_block_eq ?_
            obtain rfl := Option.some.inj hm
            obtain rfl := hout3717 _ rfl
            exact N_meet fun a ha => ⟨p3725, c3726, sg3727, ho3728, M3720.pick [0, 1, 3] (by kernel_rfl), ha.sub (by kernel_rfl)⟩
        · intro a3791 w3792 ⟨p3731, c3732, sg3733, ho3734, M3793, hS3794⟩
          refine N_use hS3794 ?_
          have hm := hmo3724
          refine N_then ?_
          refine G_seq ?_
          refine G_region ?_
          refine W_val (.agg #[.slice p3731 out3722.1.length c3732, .int .i64 out3722.2.1, .int .i64 out3722.2.2]) w3792 (by kernel_rfl) (E_load (e := 27) (fr := (0, 0)) _ _ true 3 b3259 0 [.slice p3731 out3722.1.length c3732, .int .i64 out3722.2.1, .int .i64 out3722.2.2] (.agg #[.slice p3731 out3722.1.length c3732, .int .i64 out3722.2.1, .int .i64 out3722.2.2]) rfl (by kernel_rfl) (by kernel_rfl) (by kernel_rfl) (M3793.blk 1 (b := b3259) (o := .cells ⟨[.slice p3731 out3722.1.length c3732, .int .i64 out3722.2.1, .int .i64 out3722.2.2]⟩ 27 (0, 0)) (by kernel_rfl))) ?_
          refine W_store _ _ _ true 3 b3037 0 [.slice none 0 0, .int .i64 0, .int .i64 0] 27 (.agg #[.slice p3731 out3722.1.length c3732, .int .i64 out3722.2.1, .int .i64 out3722.2.2]) 0 [.slice p3731 out3722.1.length c3732, .int .i64 out3722.2.1, .int .i64 out3722.2.2] M3793 (by kernel_rfl) rfl (by kernel_rfl) (by kernel_rfl) (by kernel_rfl) (by kernel_rfl) (by kernel_rfl) (by kernel_rfl) (by kernel_rfl) (by kernel_rfl) ?_
          intro w3795 M3796
          refine W_run 1 [(4, .pointer (some ⟨b3037, 0, none⟩)), (5, .bool true)] w3795 (by kernel_rfl) ?_
          refine W_nil ?_
          refine N_then ?_
          refine G_ret ?_
          obtain rfl := Option.some.inj hm
          refine N_ret [.agg #[.slice p3731 out3722.1.length c3732, .int .i64 out3722.2.1, .int .i64 out3722.2.2], .bool true] (RVs_cons (RV_cell (g := true) (k := 3) (b := b3037) (off := 0) (cs := [.slice p3731 out3722.1.length c3732, .int .i64 out3722.2.1, .int .i64 out3722.2.2]) (e := 27) (fr := (0, 0)) (v := .agg #[.slice p3731 out3722.1.length c3732, .int .i64 out3722.2.1, .int .i64 out3722.2.2]) (M3796.blk 0 (b := b3037) (o := .cells ⟨[.slice p3731 out3722.1.length c3732, .int .i64 out3722.2.1, .int .i64 out3722.2.2]⟩ 27 (0, 0)) (by kernel_rfl)) (by kernel_rfl) (by kernel_rfl) (by kernel_rfl)) (RVs_cons (RV_tmp (by kernel_rfl)) RVs_nil)) ?_
          exact ⟨p3731, c3732, sg3733, rfl, ho3734, M3796.pick [2] (by kernel_rfl)⟩
theorem c_l_vInts (w : World) (x3832 : List Int) (p3834 : Option Addr) (c3835 : Nat) (h3836 : rdS encI w x3832 p3834 c3835) (x3837 : List Int) (p3839 : Option Addr) (c3840 : Nat) (h3841 : rdS encI w x3837 p3839 c3840) {r : Bool} (hm : M.l_vInts x3832 x3837 = some r) :
    Calls Try.prog 45 #[.slice p3834 x3832.length c3835, .slice p3839 x3837.length c3840] w fun e w' => e = .returned (.bool r) ∧ Mem [] w w' [] := by
  unfold M.l_vInts at hm
  refine C_enter Try.func45 rfl (by kernel_rfl) ?_
  have M0 := Mem.refl [] w
  refine G_seq ?_
  refine G_region ?_
  refine W_run 1 [(0, .slice p3834 x3832.length c3835), (1, .slice p3839 x3837.length c3840)] w (by kernel_rfl) ?_
  refine W_nil ?_
  refine N_then ?_
  refine G_seq ?_
  refine G_seq ?_
  refine G_region ?_
  refine W_run 5 [(0, .slice p3834 x3832.length c3835), (1, .slice p3839 x3837.length c3840), (10, .bool ((x3832.length : Int) != (x3837.length : Int)))] w (by kernel_rfl) ?_
  refine W_nil ?_
  refine N_then ?_
  rcases gx_bif hm with ⟨hc3842, hm⟩ | ⟨hc3842, hm⟩
  · refine G_cond_t (b := ((x3832.length : Int) != (x3837.length : Int))) hc3842 (by kernel_rfl) ?_
    refine G_seq ?_
    refine G_region ?_
    refine W_run 1 [(4, .bool false)] w (by kernel_rfl) ?_
    refine W_nil ?_
    refine N_then ?_
    refine G_ret ?_
    refine N_then_ret ?_
    obtain rfl := Option.some.inj hm
    refine N_ret [.bool false] (RVs_cons (RV_tmp (by kernel_rfl)) RVs_nil) ?_
    exact ⟨rfl, M0.pick [] (by kernel_rfl)⟩
  · refine G_cond_f (b := ((x3832.length : Int) != (x3837.length : Int))) hc3842 (by kernel_rfl) ?_
    refine G_skip ?_
    refine N_then ?_
    refine G_seq ?_
    refine G_seq ?_
    refine G_region ?_
    refine W_run 1 [(0, .slice p3834 x3832.length c3835), (1, .slice p3839 x3837.length c3840), (5, .int .i64 0)] w (by kernel_rfl) ?_
    refine W_nil ?_
    refine N_then ?_
    obtain ⟨out3862, hw3863, hmo3864⟩ := gx_bind hm
    refine G_meet (fun a w' => ∃ (o3865 : Unit), out3862 = .inl o3865 ∧ Mem [] w w' [] ∧ Sat Try.f45.ntmps [] a) ?_ ?_
    · refine G_block ?_
      refine G_while (σ := Int) (ρ := (Unit) ⊕ (Bool)) (fun s3855 a w' => Mem [] w w' [] ∧ Sat Try.f45.ntmps [(0, .slice p3834 x3832.length c3835), (1, .slice p3839 x3837.length c3840), (5, .int .i64 s3855)] a) hw3863 (fun a ha => ⟨M0.pick [] (by kernel_rfl), ha.sub (by kernel_rfl)⟩) ?_
      clear hm
      intro s3855 x3856 hm hout3857 a3858 w3859 ⟨M3860, hS3861⟩
      refine G_use hS3861 ?_
      refine G_seq ?_
      refine G_seq ?_
      refine G_region ?_
      refine W_run 4 [(0, .slice p3834 x3832.length c3835), (1, .slice p3839 x3837.length c3840), (5, .int .i64 s3855), (14, .bool (decide (s3855 < (x3832.length : Int))))] w3859 (by kernel_rfl) ?_
      refine W_nil ?_
      refine N_then ?_
      rcases gx_bif hm with ⟨hc3866, hm⟩ | ⟨hc3866, hm⟩
      · refine G_cond_t (b := (decide (s3855 < (x3832.length : Int)))) hc3866 (by kernel_rfl) ?_
        refine G_skip ?_
        refine N_then ?_
        refine G_seq ?_
        refine G_block ?_
        refine G_seq ?_
        refine G_quiet (by kernel_rfl) (by kernel_rfl) M3860 ?_
        refine Z_runs [.slice p3834 x3832.length c3835, .int .i64 s3855] [(0, .slice p3834 x3832.length c3835), (1, .slice p3839 x3837.length c3840), (5, .int .i64 s3855), (17, .slice p3834 x3832.length c3835), (18, .int .i64 s3855)] (fun w_ => by kernel_rfl) (by kernel_rfl) ?_
        obtain ⟨y3867, hy3867, hm⟩ := gx_bind hm
        refine Z_val (elemP p3834 (s3855.toNat * 1)) (by kernel_rfl) (fun w_ M_ => (E_index (E := encI) _ _ _ x3832.length c3835 .i64 s3855 1 (y := y3867) rfl (by kernel_rfl) (by kernel_rfl) (by kernel_rfl) (h3836.mem0 M_) rfl hy3867)) ?_
        refine Z_val (.int .i64 y3867) (by kernel_rfl) (fun w_ M_ => (E_loadE (E := encI) _ _ false 1 s3855 0 (s3855.toNat * 1) y3867 (.int .i64 y3867) rfl (by kernel_rfl) (by kernel_rfl) (by kernel_rfl) (h3836.mem0 M_) hy3867 rfl)) ?_
        refine Z_runs [.slice p3839 x3837.length c3840, .int .i64 s3855] [(0, .slice p3834 x3832.length c3835), (1, .slice p3839 x3837.length c3840), (5, .int .i64 s3855), (20, .int .i64 y3867), (21, .slice p3839 x3837.length c3840), (22, .int .i64 s3855)] (fun w_ => by kernel_rfl) (by kernel_rfl) ?_
        obtain ⟨y3868, hy3868, hm⟩ := gx_bind hm
        refine Z_val (elemP p3839 (s3855.toNat * 1)) (by kernel_rfl) (fun w_ M_ => (E_index (E := encI) _ _ _ x3837.length c3840 .i64 s3855 1 (y := y3868) rfl (by kernel_rfl) (by kernel_rfl) (by kernel_rfl) (h3841.mem0 M_) rfl hy3868)) ?_
        refine Z_val (.int .i64 y3868) (by kernel_rfl) (fun w_ M_ => (E_loadE (E := encI) _ _ false 1 s3855 0 (s3855.toNat * 1) y3868 (.int .i64 y3868) rfl (by kernel_rfl) (by kernel_rfl) (by kernel_rfl) (h3841.mem0 M_) hy3868 rfl)) ?_
        refine Z_runs [.bool (y3867 != y3868)] [(0, .slice p3834 x3832.length c3835), (1, .slice p3839 x3837.length c3840), (5, .int .i64 s3855), (25, .bool (y3867 != y3868))] (fun w_ => by kernel_rfl) (by kernel_rfl) ?_
        refine Z_end fun w3869 M3870 => ?_
        refine N_then ?_
        rcases gx_bif hm with ⟨hc3871, hm⟩ | ⟨hc3871, hm⟩
        · refine G_cond_t (b := (y3867 != y3868)) hc3871 (by kernel_rfl) ?_
          refine G_seq ?_
          refine G_region ?_
          refine W_run 1 [(4, .bool false)] w3869 (by kernel_rfl) ?_
          refine W_nil ?_
          refine N_then ?_
          refine G_ret ?_
          refine N_block_ret ?_
          refine N_then_ret ?_
          refine N_then_ret ?_
          obtain rfl := Option.some.inj hm
          obtain rfl := hout3857 _ rfl
          have hm := hmo3864; simp only [Sum.elim_inr] at hm
          refine N_block_ret ?_
          refine N_meet_ret ?_
          refine N_then_ret ?_
          obtain rfl := Option.some.inj hm
          refine N_ret [.bool false] (RVs_cons (RV_tmp (by kernel_rfl)) RVs_nil) ?_
          exact ⟨rfl, M3870.pick [] (by kernel_rfl)⟩
        · refine G_cond_f (b := (y3867 != y3868)) hc3871 (by kernel_rfl) ?_
          refine G_skip ?_
          refine N_block ?_
          refine N_then ?_
          refine G_region ?_
          refine W_run 3 [(0, .slice p3834 x3832.length c3835), (1, .slice p3839 x3837.length c3840), (5, .int .i64 (w64 (s3855 + 1)))] w3869 (by kernel_rfl) ?_
          refine W_nil ?_
          obtain rfl := Option.some.inj hm
          exact N_loop fun a ha => ⟨_, rfl, M3870.pick [] (by kernel_rfl), ha.sub (by kernel_rfl)⟩
      · refine G_cond_f (b := (decide (s3855 < (x3832.length : Int)))) hc3866 (by kernel_rfl) ?_
        refine G_exit ?_
        refine N_then_exit ?_
        refine N_then_exit ?_
        refine N_block_eq ?_
        obtain rfl := Option.some.inj hm
        obtain rfl := hout3857 _ rfl
        exact N_meet fun a ha => ⟨_, rfl, M3860.pick [] (by kernel_rfl), ha.sub (by kernel_rfl)⟩
    · intro a3872 w3873 ⟨o3865, hout_, M3874, hS3875⟩
      refine N_use hS3875 ?_
      subst hout_
      have hm := hmo3864; simp only [Sum.elim_inl] at hm
      refine N_then ?_
      refine G_seq ?_
      refine G_region ?_
      refine W_run 1 [(4, .bool true)] w3873 (by kernel_rfl) ?_
      refine W_nil ?_
      refine N_then ?_
      refine G_ret ?_
      obtain rfl := Option.some.inj hm
      refine N_ret [.bool true] (RVs_cons (RV_tmp (by kernel_rfl)) RVs_nil) ?_
      exact ⟨rfl, M3874.pick [] (by kernel_rfl)⟩
theorem c_l_vRing (w : World) (x3814 : Ring) (p3816 : Option Addr) (c3817 : Nat) (h3818 : rdS encI w x3814.Items p3816 c3817) (x3819 : Ring) (p3821 : Option Addr) (c3822 : Nat) (h3823 : rdS encI w x3819.Items p3821 c3822) {r : Bool} (hm : M.l_vRing x3814 x3819 = some r) :
    Calls Try.prog 44 #[.agg #[.slice p3816 x3814.Items.length c3817, .int .i64 x3814.Head, .int .i64 x3814.Tail], .agg #[.slice p3821 x3819.Items.length c3822, .int .i64 x3819.Head, .int .i64 x3819.Tail]] w fun e w' => e = .returned (.bool r) ∧ Mem [] w w' [] := by
  unfold M.l_vRing at hm
  refine C_enter Try.func44 rfl (by kernel_rfl) ?_
  have M0 := Mem.refl [] w
  refine G_seq ?_
  refine G_region ?_
  refine W_new (fun b => .pointer (some ⟨b, 0, none⟩)) (.cells ⟨[.slice p3816 x3814.Items.length c3817, .int .i64 x3814.Head, .int .i64 x3814.Tail]⟩ 27 (0, 0)) M0 rfl (by kernel_rfl) (by kernel_rfl) ?_
  intro b3825 w3826 M3827
  refine W_new (fun b => .pointer (some ⟨b, 0, none⟩)) (.cells ⟨[.slice p3821 x3819.Items.length c3822, .int .i64 x3819.Head, .int .i64 x3819.Tail]⟩ 27 (0, 0)) M3827 rfl (by kernel_rfl) (by kernel_rfl) ?_
  intro b3829 w3830 M3831
  refine W_run 1 [(2, .pointer (some ⟨b3825, 0, none⟩)), (3, .pointer (some ⟨b3829, 0, none⟩))] w3830 (by kernel_rfl) ?_
  refine W_nil ?_
  refine N_then ?_
  refine G_seq ?_
  obtain ⟨o3882, ho3883, hm3884⟩ := gx_bind hm
  refine G_meet (fun a w' => Mem [] w w' [] ∧ Sat Try.f44.ntmps [(4, .bool o3882)] a) ?_ ?_
  · have hm := ho3883
    refine G_region ?_
    refine W_run 1 [(2, .pointer (some ⟨b3825, 0, none⟩)), (3, .pointer (some ⟨b3829, 0, none⟩)), (5, .pointer (some ⟨b3825, 0, none⟩))] w3830 (by kernel_rfl) ?_
    refine W_val (.slice p3816 x3814.Items.length c3817) w3830 (by kernel_rfl) (E_load (e := 27) (fr := (0, 0)) _ _ false 1 b3825 0 [.slice p3816 x3814.Items.length c3817, .int .i64 x3814.Head, .int .i64 x3814.Tail] (.slice p3816 x3814.Items.length c3817) rfl (by kernel_rfl) (by kernel_rfl) (by kernel_rfl) (M3831.blk 0 (b := b3825) (o := .cells ⟨[.slice p3816 x3814.Items.length c3817, .int .i64 x3814.Head, .int .i64 x3814.Tail]⟩ 27 (0, 0)) (by kernel_rfl))) ?_
    refine W_run 1 [(2, .pointer (some ⟨b3825, 0, none⟩)), (3, .pointer (some ⟨b3829, 0, none⟩)), (6, .slice p3816 x3814.Items.length c3817), (7, .pointer (some ⟨b3829, 0, none⟩))] w3830 (by kernel_rfl) ?_
    refine W_val (.slice p3821 x3819.Items.length c3822) w3830 (by kernel_rfl) (E_load (e := 27) (fr := (0, 0)) _ _ false 1 b3829 0 [.slice p3821 x3819.Items.length c3822, .int .i64 x3819.Head, .int .i64 x3819.Tail] (.slice p3821 x3819.Items.length c3822) rfl (by kernel_rfl) (by kernel_rfl) (by kernel_rfl) (M3831.blk 1 (b := b3829) (o := .cells ⟨[.slice p3821 x3819.Items.length c3822, .int .i64 x3819.Head, .int .i64 x3819.Tail]⟩ 27 (0, 0)) (by kernel_rfl))) ?_
    obtain ⟨r3885, hr3885, hm⟩ := gx_bind hm
    refine W_call 45 #[.slice p3816 x3814.Items.length c3817, .slice p3821 x3819.Items.length c3822] (by kernel_rfl) (by kernel_rfl) ?_
    refine (c_l_vInts w3830 x3814.Items p3816 c3817 (h3818.mem0 M3831) x3819.Items p3821 c3822 (h3823.mem0 M3831) hr3885).mono ?_
    rintro e_ w3886 ⟨rfl, K3887⟩
    have M3888 := M3831.call0 K3887
    refine ⟨_, rfl, ?_⟩
    refine W_run 1 [(2, .pointer (some ⟨b3825, 0, none⟩)), (3, .pointer (some ⟨b3829, 0, none⟩)), (10, .bool r3885)] w3886 (by kernel_rfl) ?_
    rcases gx_bif hm with ⟨hc3889, hm⟩ | ⟨hc3889, hm⟩
    · refine W_known 10 true (by kernel_rfl) hc3889 ?_
      refine W_run 1 [(2, .pointer (some ⟨b3825, 0, none⟩)), (3, .pointer (some ⟨b3829, 0, none⟩)), (10, .bool true), (11, .pointer (some ⟨b3825, 1, none⟩))] w3886 (by kernel_rfl) ?_
      refine W_val (.int .i64 x3814.Head) w3886 (by kernel_rfl) (E_load (e := 27) (fr := (0, 0)) _ _ false 1 b3825 1 [.slice p3816 x3814.Items.length c3817, .int .i64 x3814.Head, .int .i64 x3814.Tail] (.int .i64 x3814.Head) rfl (by kernel_rfl) (by kernel_rfl) (by kernel_rfl) (M3888.blk 0 (b := b3825) (o := .cells ⟨[.slice p3816 x3814.Items.length c3817, .int .i64 x3814.Head, .int .i64 x3814.Tail]⟩ 27 (0, 0)) (by kernel_rfl))) ?_
      refine W_run 1 [(2, .pointer (some ⟨b3825, 0, none⟩)), (3, .pointer (some ⟨b3829, 0, none⟩)), (10, .bool true), (12, .int .i64 x3814.Head), (13, .pointer (some ⟨b3829, 1, none⟩))] w3886 (by kernel_rfl) ?_
      refine W_val (.int .i64 x3819.Head) w3886 (by kernel_rfl) (E_load (e := 27) (fr := (0, 0)) _ _ false 1 b3829 1 [.slice p3821 x3819.Items.length c3822, .int .i64 x3819.Head, .int .i64 x3819.Tail] (.int .i64 x3819.Head) rfl (by kernel_rfl) (by kernel_rfl) (by kernel_rfl) (M3888.blk 1 (b := b3829) (o := .cells ⟨[.slice p3821 x3819.Items.length c3822, .int .i64 x3819.Head, .int .i64 x3819.Tail]⟩ 27 (0, 0)) (by kernel_rfl))) ?_
      refine W_run 3 [(2, .pointer (some ⟨b3825, 0, none⟩)), (3, .pointer (some ⟨b3829, 0, none⟩)), (17, .bool (x3814.Head == x3819.Head))] w3886 (by kernel_rfl) ?_
      rcases gx_bif hm with ⟨hc3890, hm⟩ | ⟨hc3890, hm⟩
      · refine W_known 17 true (by kernel_rfl) hc3890 ?_
        refine W_run 1 [(3, .pointer (some ⟨b3829, 0, none⟩)), (17, .bool true), (18, .pointer (some ⟨b3825, 2, none⟩))] w3886 (by kernel_rfl) ?_
        refine W_val (.int .i64 x3814.Tail) w3886 (by kernel_rfl) (E_load (e := 27) (fr := (0, 0)) _ _ false 1 b3825 2 [.slice p3816 x3814.Items.length c3817, .int .i64 x3814.Head, .int .i64 x3814.Tail] (.int .i64 x3814.Tail) rfl (by kernel_rfl) (by kernel_rfl) (by kernel_rfl) (M3888.blk 0 (b := b3825) (o := .cells ⟨[.slice p3816 x3814.Items.length c3817, .int .i64 x3814.Head, .int .i64 x3814.Tail]⟩ 27 (0, 0)) (by kernel_rfl))) ?_
        refine W_run 1 [(17, .bool true), (19, .int .i64 x3814.Tail), (20, .pointer (some ⟨b3829, 2, none⟩))] w3886 (by kernel_rfl) ?_
        refine W_val (.int .i64 x3819.Tail) w3886 (by kernel_rfl) (E_load (e := 27) (fr := (0, 0)) _ _ false 1 b3829 2 [.slice p3821 x3819.Items.length c3822, .int .i64 x3819.Head, .int .i64 x3819.Tail] (.int .i64 x3819.Tail) rfl (by kernel_rfl) (by kernel_rfl) (by kernel_rfl) (M3888.blk 1 (b := b3829) (o := .cells ⟨[.slice p3821 x3819.Items.length c3822, .int .i64 x3819.Head, .int .i64 x3819.Tail]⟩ 27 (0, 0)) (by kernel_rfl))) ?_
        refine W_run 3 [(4, .bool (x3814.Tail == x3819.Tail))] w3886 (by kernel_rfl) ?_
        refine W_nil ?_
        obtain rfl := Option.some.inj hm
        exact N_meet fun a ha => ⟨M3888.pick [] (by kernel_rfl), ha.sub (by kernel_rfl)⟩
      · refine W_known 17 false (by kernel_rfl) hc3890 ?_
        refine W_run 7 [(4, .bool false)] w3886 (by kernel_rfl) ?_
        refine W_nil ?_
        obtain rfl := Option.some.inj hm
        exact N_meet fun a ha => ⟨M3888.pick [] (by kernel_rfl), ha.sub (by kernel_rfl)⟩
    · refine W_known 10 false (by kernel_rfl) hc3889 ?_
      refine W_run 14 [(4, .bool false)] w3886 (by kernel_rfl) ?_
      refine W_nil ?_
      obtain rfl := Option.some.inj hm
      exact N_meet fun a ha => ⟨M3888.pick [] (by kernel_rfl), ha.sub (by kernel_rfl)⟩
  · intro a3893 w3891 ⟨M3892, hS3894⟩
    refine N_use hS3894 ?_
    have hm := hm3884
    refine N_then ?_
    refine G_ret ?_
    obtain rfl := Option.some.inj hm
    refine N_ret [.bool o3882] (RVs_cons (RV_tmp (by kernel_rfl)) RVs_nil) ?_
    exact ⟨rfl, M3892.pick [] (by kernel_rfl)⟩
theorem c_i_RingWords (w : World) (x3913 : Ring) (p3915 : Option Addr) (c3916 : Nat) (h3917 : rdS encI w x3913.Items p3915 c3916) {r : (List Int) × Bool} (hm : M.i_RingWords x3913 = some r) :
    Calls Try.prog 26 #[.agg #[.slice p3915 x3913.Items.length c3916, .int .i64 x3913.Head, .int .i64 x3913.Tail]] w fun e w' => ∃ (p3919 : Option Addr) (c3920 : Nat) (sg3921 : Seg), e = .returned (.tuple #[.slice p3919 r.1.length c3920, .bool r.2]) ∧ ownS encI r.1 p3919 c3920 sg3921 ∧ Mem [] w w' [sg3921] := by
  unfold M.i_RingWords at hm
  refine C_enter Try.func26 rfl (by kernel_rfl) ?_
  have M0 := Mem.refl [] w
  refine G_seq ?_
  refine G_region ?_
  refine W_new (fun b => .pointer (some ⟨b, 0, none⟩)) (.cells ⟨[.slice p3915 x3913.Items.length c3916, .int .i64 x3913.Head, .int .i64 x3913.Tail]⟩ 27 (0, 0)) M0 rfl (by kernel_rfl) (by kernel_rfl) ?_
  intro b3923 w3924 M3925
  refine W_run 2 [(1, .pointer (some ⟨b3923, 0, none⟩))] w3924 (by kernel_rfl) ?_
  refine W_nil ?_
  refine N_then ?_
  refine G_seq ?_
  refine G_seq ?_
  refine G_region ?_
  refine W_val (.agg #[.slice p3915 x3913.Items.length c3916, .int .i64 x3913.Head, .int .i64 x3913.Tail]) w3924 (by kernel_rfl) (E_load (e := 27) (fr := (0, 0)) _ _ true 3 b3923 0 [.slice p3915 x3913.Items.length c3916, .int .i64 x3913.Head, .int .i64 x3913.Tail] (.agg #[.slice p3915 x3913.Items.length c3916, .int .i64 x3913.Head, .int .i64 x3913.Tail]) rfl (by kernel_rfl) (by kernel_rfl) (by kernel_rfl) (M3925.blk 0 (b := b3923) (o := .cells ⟨[.slice p3915 x3913.Items.length c3916, .int .i64 x3913.Head, .int .i64 x3913.Tail]⟩ 27 (0, 0)) (by kernel_rfl))) ?_
  obtain ⟨r3927, hr3927, hm⟩ := gx_bind hm
  refine W_call 24 #[.agg #[.slice p3915 x3913.Items.length c3916, .int .i64 x3913.Head, .int .i64 x3913.Tail]] (by kernel_rfl) (by kernel_rfl) ?_
  refine (c_i_IsRing w3924 x3913 p3915 c3916 (h3917.mem0 M3925) hr3927).mono ?_
  rintro e_ w3928 ⟨rfl, K3929⟩
  have M3930 := M3925.call0 K3929
  refine ⟨_, rfl, ?_⟩
  refine W_run 1 [(1, .pointer (some ⟨b3923, 0, none⟩)), (6, .bool (!r3927))] w3928 (by kernel_rfl) ?_
  refine W_nil ?_
  refine N_then ?_
  rcases gx_bif hm with ⟨hc3931, hm⟩ | ⟨hc3931, hm⟩
  · refine G_cond_t (b := (!r3927)) hc3931 (by kernel_rfl) ?_
    refine G_seq ?_
    refine G_region ?_
    refine W_run 2 [(2, .slice none 0 0), (3, .bool false)] w3928 (by kernel_rfl) ?_
    refine W_nil ?_
    refine N_then ?_
    refine G_ret ?_
    refine N_then_ret ?_
    obtain rfl := Option.some.inj hm
    refine N_ret [.slice none 0 0, .bool false] (RVs_cons (RV_tmp (by kernel_rfl)) (RVs_cons (RV_tmp (by kernel_rfl)) RVs_nil)) ?_
    exact ⟨none, 0, [], rfl, ownS_nil, M3930.pick [100000] (by kernel_rfl)⟩
  · refine G_cond_f (b := (!r3927)) hc3931 (by kernel_rfl) ?_
    refine G_skip ?_
    refine N_then ?_
    refine G_seq ?_
    refine G_region ?_
    refine W_val (.agg #[.slice p3915 x3913.Items.length c3916, .int .i64 x3913.Head, .int .i64 x3913.Tail]) w3928 (by kernel_rfl) (E_load (e := 27) (fr := (0, 0)) _ _ true 3 b3923 0 [.slice p3915 x3913.Items.length c3916, .int .i64 x3913.Head, .int .i64 x3913.Tail] (.agg #[.slice p3915 x3913.Items.length c3916, .int .i64 x3913.Head, .int .i64 x3913.Tail]) rfl (by kernel_rfl) (by kernel_rfl) (by kernel_rfl) (M3930.blk 0 (b := b3923) (o := .cells ⟨[.slice p3915 x3913.Items.length c3916, .int .i64 x3913.Head, .int .i64 x3913.Tail]⟩ 27 (0, 0)) (by kernel_rfl))) ?_
    obtain ⟨r3933, hr3933, hm⟩ := gx_bind hm
    refine W_call 61 #[.agg #[.slice p3915 x3913.Items.length c3916, .int .i64 x3913.Head, .int .i64 x3913.Tail]] (by kernel_rfl) (by kernel_rfl) ?_
    refine (c_i_ringWords w3928 x3913 p3915 c3916 (h3917.mem0 M3930) hr3933).mono ?_
    rintro e_ w3939 ⟨p3935, c3936, sg3937, rfl, ho3938, K3940⟩
    have M3941 := M3930.call K3940
    refine ⟨_, rfl, ?_⟩
    refine W_run 2 [(2, .slice p3935 r3933.length c3936), (3, .bool true)] w3939 (by kernel_rfl) ?_
    refine W_nil ?_
    refine N_then ?_
    refine G_ret ?_
    obtain rfl := Option.some.inj hm
    refine N_ret [.slice p3935 r3933.length c3936, .bool true] (RVs_cons (RV_tmp (by kernel_rfl)) (RVs_cons (RV_tmp (by kernel_rfl)) RVs_nil)) ?_
    exact ⟨p3935, c3936, sg3937, rfl, ho3938, M3941.pick [1] (by kernel_rfl)⟩
theorem c_s_DrawMakeRing (w : World) (x4083 : List Int) (p4085 : Option Addr) (c4086 : Nat) (h4087 : rdS encU8 w x4083 p4085 c4086) {r : Int × Int} (hm : M.s_DrawMakeRing x4083 = some r) :
    Calls Try.prog 46 #[.slice p4085 x4083.length c4086] w fun e w' => e = .returned (.tuple #[.int .i64 r.1, .int .i64 r.2]) ∧ Mem [] w w' [] := by
  unfold M.s_DrawMakeRing at hm
  refine C_enter Try.func46 rfl (by kernel_rfl) ?_
  have M0 := Mem.refl [] w
  refine G_seq ?_
  refine G_region ?_
  refine W_run 2 [(0, .slice p4085 x4083.length c4086)] w (by kernel_rfl) ?_
  refine W_nil ?_
  refine N_then ?_
  refine G_seq ?_
  refine G_region ?_
  refine W_run 2 [(6, .agg #[.slice p4085 x4083.length c4086, .int .i64 0, .int .u64 0])] w (by kernel_rfl) ?_
  refine W_new (fun b => .pointer (some ⟨b, 0, none⟩)) (.cells ⟨[.slice p4085 x4083.length c4086, .int .i64 0, .int .u64 0]⟩ 73 (0, 0)) M0 rfl (by kernel_rfl) (by kernel_rfl) ?_
  intro b4090 w4091 M4092
  refine W_run 1 [(4, .pointer (some ⟨b4090, 0, none⟩))] w4091 (by kernel_rfl) ?_
  refine W_nil ?_
  refine N_then ?_
  refine G_seq ?_
  refine G_region ?_
  refine W_run 1 [(4, .pointer (some ⟨b4090, 0, none⟩)), (8, .pointer (some ⟨b4090, 0, none⟩))] w4091 (by kernel_rfl) ?_
  refine W_lit (E := encI) [1, 2, 4, 8, 0, 3, 16, 4] 8 [.int .i64 1, .int .i64 2, .int .i64 4, .int .i64 8, .int .i64 0, .int .i64 3, .int .i64 16, .int .i64 4] 3 M4092 (by kernel_rfl) (by kernel_rfl) (by kernel_rfl) (by kernel_rfl) (by kernel_rfl) ?_
  intro p4093 c4094 sg4095 w4096 ho4097 M4098
  obtain ⟨r4100, hr4100, hm⟩ := gx_bind hm
  refine W_call 75 #[.pointer (some ⟨b4090, 0, none⟩), .slice p4093 [1, 2, 4, 8, 0, 3, 16, 4].length c4094] (by kernel_rfl) (by kernel_rfl) ?_
  refine (c_s_l1Cur_among w4096 (⟨x4083, 0, 0⟩ : l1Cur) p4085 c4086 (h4087.mem0 M4098) b4090 [1, 2, 4, 8, 0, 3, 16, 4] p4093 c4094 (ho4097.rd M4098 1 (by kernel_rfl)) (M4098.hasPick [0]) (M4098.nodupPick [0] (by kernel_rfl)) (apartX.old0 h4087 M4098 [0]) (apartX.own ho4097 M4098 1 (by kernel_rfl) [0] (by kernel_rfl)) hr4100).mono ?_
  rintro e_ w4101 ⟨rfl, K4102⟩
  have M4103 := M4098.callF' [0] [1] (by kernel_rfl) K4102
  refine ⟨_, rfl, ?_⟩
  refine W_run 1 [(10, .int .i64 r4100.1), (11, .pointer (some ⟨b4090, 0, none⟩))] w4101 (by kernel_rfl) ?_
  obtain ⟨r4104, hr4104, hm⟩ := gx_bind hm
  refine W_call 70 #[.pointer (some ⟨b4090, 0, none⟩)] (by kernel_rfl) (by kernel_rfl) ?_
  refine (c_s_l1Cur_word16 w4101 (⟨x4083, r4100.2.1, r4100.2.2⟩ : l1Cur) p4085 c4086 (h4087.mem0 M4103) b4090 (M4103.hasPick [1]) (M4103.nodupPick [1] (by kernel_rfl)) (apartX.old0 h4087 M4103 [1]) hr4104).mono ?_
  rintro e_ w4105 ⟨rfl, K4106⟩
  have M4107 := M4103.callF' [1] [0] (by kernel_rfl) K4106
  refine ⟨_, rfl, ?_⟩
  refine W_run 2 [(2, .int .i64 r4100.1), (3, .int .i64 r4104.1)] w4105 (by kernel_rfl) ?_
  refine W_nil ?_
  refine N_then ?_
  refine G_ret ?_
  obtain rfl := Option.some.inj hm
  refine N_ret [.int .i64 r4100.1, .int .i64 r4104.1] (RVs_cons (RV_tmp (by kernel_rfl)) (RVs_cons (RV_tmp (by kernel_rfl)) RVs_nil)) ?_
  exact ⟨rfl, M4107.pick [] (by kernel_rfl)⟩
theorem c_i_MakeRing (w : World) (x4112 : Int) (x4113 : Int) {r : Ring × Bool} (hm : M.i_MakeRing x4112 x4113 = some r) :
    Calls Try.prog 17 #[.int .i64 x4112, .int .i64 x4113] w fun e w' => ∃ (p4115 : Option Addr) (c4116 : Nat) (sg4117 : Seg), e = .returned (.tuple #[.agg #[.slice p4115 r.1.Items.length c4116, .int .i64 r.1.Head, .int .i64 r.1.Tail], .bool r.2]) ∧ ownS encI r.1.Items p4115 c4116 sg4117 ∧ Mem [] w w' [sg4117] := by
  unfold M.i_MakeRing at hm
  refine C_enter Try.func17 rfl (by kernel_rfl) ?_
  have M0 := Mem.refl [] w
  refine G_seq ?_
  refine G_region ?_
  refine W_new (fun b => .pointer (some ⟨b, 0, none⟩)) (.cells ⟨[.slice none 0 0, .int .i64 0, .int .i64 0]⟩ 27 (0, 0)) M0 rfl (by kernel_rfl) (by kernel_rfl) ?_
  intro b4120 w4121 M4122
  refine W_run 1 [(0, .int .i64 x4112), (1, .int .i64 x4113), (4, .pointer (some ⟨b4120, 0, none⟩))] w4121 (by kernel_rfl) ?_
  refine W_nil ?_
  refine N_then ?_
  refine G_seq ?_
  refine G_seq ?_
  obtain ⟨o4132, ho4133, hm4134⟩ := gx_bind hm
  refine G_meet (fun a w' => Mem [] w w' [[(b4120, .cells ⟨[.slice none 0 0, .int .i64 0, .int .i64 0]⟩ 27 (0, 0))]] ∧ Sat Try.f17.ntmps [(0, .int .i64 x4112), (1, .int .i64 x4113), (4, .pointer (some ⟨b4120, 0, none⟩)), (13, .bool o4132)] a) ?_ ?_
  · have hm := ho4133
    refine G_region ?_
    refine W_run 1 [(0, .int .i64 x4112), (1, .int .i64 x4113), (4, .pointer (some ⟨b4120, 0, none⟩)), (6, .int .i64 x4112)] w4121 (by kernel_rfl) ?_
    obtain ⟨r4135, hr4135, hm⟩ := gx_bind hm
    refine W_call 56 #[.int .i64 x4112] (by kernel_rfl) (by kernel_rfl) ?_
    refine (c_i_arePlaces w4121 x4112 hr4135).mono ?_
    rintro e_ w4136 ⟨rfl, K4137⟩
    have M4138 := M4122.call0 K4137
    refine ⟨_, rfl, ?_⟩
    refine W_run 2 [(0, .int .i64 x4112), (1, .int .i64 x4113), (4, .pointer (some ⟨b4120, 0, none⟩)), (9, .bool (!r4135))] w4136 (by kernel_rfl) ?_
    rcases gx_bif hm with ⟨hc4139, hm⟩ | ⟨hc4139, hm⟩
    · refine W_known 9 true (by kernel_rfl) hc4139 ?_
      refine W_run 4 [(0, .int .i64 x4112), (1, .int .i64 x4113), (4, .pointer (some ⟨b4120, 0, none⟩)), (13, .bool true)] w4136 (by kernel_rfl) ?_
      refine W_nil ?_
      obtain rfl := Option.some.inj hm
      exact N_meet fun a ha => ⟨M4138.pick [0] (by kernel_rfl), ha.sub (by kernel_rfl)⟩
    · refine W_known 9 false (by kernel_rfl) hc4139 ?_
      refine W_run 1 [(0, .int .i64 x4112), (1, .int .i64 x4113), (4, .pointer (some ⟨b4120, 0, none⟩)), (9, .bool false), (10, .int .i64 x4113)] w4136 (by kernel_rfl) ?_
      obtain ⟨r4140, hr4140, hm⟩ := gx_bind hm
      refine W_call 53 #[.int .i64 x4113] (by kernel_rfl) (by kernel_rfl) ?_
      refine (c_i_isWord16 w4136 x4113 hr4140).mono ?_
      rintro e_ w4141 ⟨rfl, K4142⟩
      have M4143 := M4138.call0 K4142
      refine ⟨_, rfl, ?_⟩
      refine W_run 2 [(0, .int .i64 x4112), (1, .int .i64 x4113), (4, .pointer (some ⟨b4120, 0, none⟩)), (13, .bool (!r4140))] w4141 (by kernel_rfl) ?_
      refine W_nil ?_
      obtain rfl := Option.some.inj hm
      exact N_meet fun a ha => ⟨M4143.pick [0] (by kernel_rfl), ha.sub (by kernel_rfl)⟩
  · intro a4146 w4144 ⟨M4145, hS4147⟩
    refine N_use hS4147 ?_
    have hm := hm4134
    refine N_then ?_
    rcases gx_bif hm with ⟨hc4148, hm⟩ | ⟨hc4148, hm⟩
    · refine G_cond_t (b := o4132) hc4148 (by kernel_rfl) ?_
      refine G_seq ?_
      refine G_region ?_
      refine W_run 1 [(4, .pointer (some ⟨b4120, 0, none⟩)), (14, .agg #[.slice none 0 0, .int .i64 0, .int .i64 0])] w4144 (by kernel_rfl) ?_
      refine W_store _ _ _ true 3 b4120 0 [.slice none 0 0, .int .i64 0, .int .i64 0] 27 (.agg #[.slice none 0 0, .int .i64 0, .int .i64 0]) 0 [.slice none 0 0, .int .i64 0, .int .i64 0] M4145 (by kernel_rfl) rfl (by kernel_rfl) (by kernel_rfl) (by kernel_rfl) (by kernel_rfl) (by kernel_rfl) (by kernel_rfl) (by kernel_rfl) (by kernel_rfl) ?_
      intro w4150 M4151
      refine W_run 1 [(4, .pointer (some ⟨b4120, 0, none⟩)), (5, .bool false)] w4150 (by kernel_rfl) ?_
      refine W_nil ?_
      refine N_then ?_
      refine G_ret ?_
      refine N_then_ret ?_
      obtain rfl := Option.some.inj hm
      refine N_ret [.agg #[.slice none 0 0, .int .i64 0, .int .i64 0], .bool false] (RVs_cons (RV_cell (g := true) (k := 3) (b := b4120) (off := 0) (cs := [.slice none 0 0, .int .i64 0, .int .i64 0]) (e := 27) (fr := (0, 0)) (v := .agg #[.slice none 0 0, .int .i64 0, .int .i64 0]) (M4151.blk 0 (b := b4120) (o := .cells ⟨[.slice none 0 0, .int .i64 0, .int .i64 0]⟩ 27 (0, 0)) (by kernel_rfl)) (by kernel_rfl) (by kernel_rfl) (by kernel_rfl)) (RVs_cons (RV_tmp (by kernel_rfl)) RVs_nil)) ?_
      exact ⟨none, 0, [], rfl, ownS_nil, M4151.pick [100000] (by kernel_rfl)⟩
    · refine G_cond_f (b := o4132) hc4148 (by kernel_rfl) ?_
      refine G_skip ?_
      refine N_then ?_
      refine G_seq ?_
      refine G_region ?_
      refine W_run 1 [(1, .int .i64 x4113), (4, .pointer (some ⟨b4120, 0, none⟩)), (15, .int .i64 x4112)] w4144 (by kernel_rfl) ?_
      obtain ⟨mk4152, hmk4152, hm⟩ := gx_bind hm
      refine W_make (E := encI) _ _ _ x4112 8 [.int .i64 0] (0 : Int) M4145 (by kernel_rfl) rfl (by kernel_rfl) (by kernel_rfl) (by kernel_rfl) (by kernel_rfl) (by kernel_rfl) hmk4152 ?_
      intro p4153 c4154 sg4155 w4156 ho4157 M4158
      refine W_run 3 [(4, .pointer (some ⟨b4120, 0, none⟩)), (19, .agg #[.slice p4153 mk4152.length c4154, .int .i64 x4113, .int .i64 x4113])] w4156 (by kernel_rfl) ?_
      refine W_store _ _ _ true 3 b4120 0 [.slice none 0 0, .int .i64 0, .int .i64 0] 27 (.agg #[.slice p4153 mk4152.length c4154, .int .i64 x4113, .int .i64 x4113]) 0 [.slice p4153 mk4152.length c4154, .int .i64 x4113, .int .i64 x4113] M4158 (by kernel_rfl) rfl (by kernel_rfl) (by kernel_rfl) (by kernel_rfl) (by kernel_rfl) (by kernel_rfl) (by kernel_rfl) (by kernel_rfl) (by kernel_rfl) ?_
      intro w4161 M4162
      refine W_run 1 [(4, .pointer (some ⟨b4120, 0, none⟩)), (5, .bool true)] w4161 (by kernel_rfl) ?_
      refine W_nil ?_
      refine N_then ?_
      refine G_ret ?_
      obtain rfl := Option.some.inj hm
      refine N_ret [.agg #[.slice p4153 mk4152.length c4154, .int .i64 x4113, .int .i64 x4113], .bool true] (RVs_cons (RV_cell (g := true) (k := 3) (b := b4120) (off := 0) (cs := [.slice p4153 mk4152.length c4154, .int .i64 x4113, .int .i64 x4113]) (e := 27) (fr := (0, 0)) (v := .agg #[.slice p4153 mk4152.length c4154, .int .i64 x4113, .int .i64 x4113]) (M4162.blk 0 (b := b4120) (o := .cells ⟨[.slice p4153 mk4152.length c4154, .int .i64 x4113, .int .i64 x4113]⟩ 27 (0, 0)) (by kernel_rfl)) (by kernel_rfl) (by kernel_rfl) (by kernel_rfl)) (RVs_cons (RV_tmp (by kernel_rfl)) RVs_nil)) ?_
      exact ⟨p4153, c4154, sg4155, rfl, ho4157, M4162.pick [1] (by kernel_rfl)⟩
theorem c_s_DrawIsRing (w : World) (x4227 : List Int) (p4229 : Option Addr) (c4230 : Nat) (h4231 : rdS encU8 w x4227 p4229 c4230) {r : Ring} (hm : M.s_DrawIsRing x4227 = some r) :
    Calls Try.prog 76 #[.slice p4229 x4227.length c4230] w fun e w' => ∃ (p4233 : Option Addr) (c4234 : Nat) (sg4235 : Seg), e = .returned (.agg #[.slice p4233 r.Items.length c4234, .int .i64 r.Head, .int .i64 r.Tail]) ∧ ownS encI r.Items p4233 c4234 sg4235 ∧ Mem [] w w' [sg4235] := by
  unfold M.s_DrawIsRing at hm
  refine C_enter Try.func76 rfl (by kernel_rfl) ?_
  have M0 := Mem.refl [] w
  refine G_seq ?_
  refine G_region ?_
  refine W_new (fun b => .pointer (some ⟨b, 0, none⟩)) (.cells ⟨[.slice none 0 0, .int .i64 0, .int .i64 0]⟩ 27 (0, 0)) M0 rfl (by kernel_rfl) (by kernel_rfl) ?_
  intro b4238 w4239 M4240
  refine W_nil ?_
  refine N_then ?_
  refine G_seq ?_
  refine G_region ?_
  refine W_run 2 [(2, .pointer (some ⟨b4238, 0, none⟩)), (5, .agg #[.slice p4229 x4227.length c4230, .int .i64 0, .int .u64 0])] w4239 (by kernel_rfl) ?_
  refine W_new (fun b => .pointer (some ⟨b, 0, none⟩)) (.cells ⟨[.slice p4229 x4227.length c4230, .int .i64 0, .int .u64 0]⟩ 73 (0, 0)) M4240 rfl (by kernel_rfl) (by kernel_rfl) ?_
  intro b4243 w4244 M4245
  refine W_run 1 [(2, .pointer (some ⟨b4238, 0, none⟩)), (3, .pointer (some ⟨b4243, 0, none⟩))] w4244 (by kernel_rfl) ?_
  refine W_nil ?_
  refine N_then ?_
  refine G_seq ?_
  refine G_region ?_
  refine W_run 1 [(2, .pointer (some ⟨b4238, 0, none⟩)), (7, .pointer (some ⟨b4243, 0, none⟩))] w4244 (by kernel_rfl) ?_
  obtain ⟨r4246, hr4246, hm⟩ := gx_bind hm
  refine W_call 74 #[.pointer (some ⟨b4243, 0, none⟩)] (by kernel_rfl) (by kernel_rfl) ?_
  refine (c_s_l1Cur_ring w4244 (⟨x4227, 0, 0⟩ : l1Cur) p4229 c4230 (h4231.mem0 M4245) b4243 (M4245.hasPick [1]) (M4245.nodupPick [1] (by kernel_rfl)) (apartX.old0 h4231 M4245 [1]) hr4246).mono ?_
  rintro e_ w4252 ⟨p4248, c4249, sg4250, rfl, ho4251, K4253⟩
  have M4254 := M4245.callF' [1] [0] (by kernel_rfl) K4253
  refine ⟨_, rfl, ?_⟩
  refine W_store _ _ _ true 3 b4238 0 [.slice none 0 0, .int .i64 0, .int .i64 0] 27 (.agg #[.slice p4248 r4246.1.Items.length c4249, .int .i64 r4246.1.Head, .int .i64 r4246.1.Tail]) 0 [.slice p4248 r4246.1.Items.length c4249, .int .i64 r4246.1.Head, .int .i64 r4246.1.Tail] M4254 (by kernel_rfl) rfl (by kernel_rfl) (by kernel_rfl) (by kernel_rfl) (by kernel_rfl) (by kernel_rfl) (by kernel_rfl) (by kernel_rfl) (by kernel_rfl) ?_
  intro w4255 M4256
  refine W_nil ?_
  refine N_then ?_
  refine G_ret ?_
  obtain rfl := Option.some.inj hm
  refine N_ret [.agg #[.slice p4248 r4246.1.Items.length c4249, .int .i64 r4246.1.Head, .int .i64 r4246.1.Tail]] (RVs_cons (RV_cell (g := true) (k := 3) (b := b4238) (off := 0) (cs := [.slice p4248 r4246.1.Items.length c4249, .int .i64 r4246.1.Head, .int .i64 r4246.1.Tail]) (e := 27) (fr := (0, 0)) (v := .agg #[.slice p4248 r4246.1.Items.length c4249, .int .i64 r4246.1.Head, .int .i64 r4246.1.Tail]) (M4256.blk 0 (b := b4238) (o := .cells ⟨[.slice p4248 r4246.1.Items.length c4249, .int .i64 r4246.1.Head, .int .i64 r4246.1.Tail]⟩ 27 (0, 0)) (by kernel_rfl)) (by kernel_rfl) (by kernel_rfl) (by kernel_rfl)) RVs_nil) ?_
  exact ⟨p4248, c4249, sg4250, rfl, ho4251, M4256.pick [2] (by kernel_rfl)⟩
theorem c_s_DrawRingWords (w : World) (x4213 : List Int) (p4215 : Option Addr) (c4216 : Nat) (h4217 : rdS encU8 w x4213 p4215 c4216) {r : Ring} (hm : M.s_DrawRingWords x4213 = some r) :
    Calls Try.prog 47 #[.slice p4215 x4213.length c4216] w fun e w' => ∃ (p4219 : Option Addr) (c4220 : Nat) (sg4221 : Seg), e = .returned (.agg #[.slice p4219 r.Items.length c4220, .int .i64 r.Head, .int .i64 r.Tail]) ∧ ownS encI r.Items p4219 c4220 sg4221 ∧ Mem [] w w' [sg4221] := by
  unfold M.s_DrawRingWords at hm
  refine C_enter Try.func47 rfl (by kernel_rfl) ?_
  have M0 := Mem.refl [] w
  refine G_seq ?_
  refine G_region ?_
  refine W_new (fun b => .pointer (some ⟨b, 0, none⟩)) (.cells ⟨[.slice none 0 0, .int .i64 0, .int .i64 0]⟩ 27 (0, 0)) M0 rfl (by kernel_rfl) (by kernel_rfl) ?_
  intro b4224 w4225 M4226
  refine W_nil ?_
  refine N_then ?_
  refine G_seq ?_
  refine G_region ?_
  refine W_run 1 [(2, .pointer (some ⟨b4224, 0, none⟩)), (3, .slice p4215 x4213.length c4216)] w4225 (by kernel_rfl) ?_
  obtain ⟨r4257, hr4257, hm⟩ := gx_bind hm
  refine W_call 76 #[.slice p4215 x4213.length c4216] (by kernel_rfl) (by kernel_rfl) ?_
  refine (c_s_DrawIsRing w4225 x4213 p4215 c4216 (h4217.mem0 M4226) hr4257).mono ?_
  rintro e_ w4263 ⟨p4259, c4260, sg4261, rfl, ho4262, K4264⟩
  have M4265 := M4226.call K4264
  refine ⟨_, rfl, ?_⟩
  refine W_store _ _ _ true 3 b4224 0 [.slice none 0 0, .int .i64 0, .int .i64 0] 27 (.agg #[.slice p4259 r4257.Items.length c4260, .int .i64 r4257.Head, .int .i64 r4257.Tail]) 0 [.slice p4259 r4257.Items.length c4260, .int .i64 r4257.Head, .int .i64 r4257.Tail] M4265 (by kernel_rfl) rfl (by kernel_rfl) (by kernel_rfl) (by kernel_rfl) (by kernel_rfl) (by kernel_rfl) (by kernel_rfl) (by kernel_rfl) (by kernel_rfl) ?_
  intro w4266 M4267
  refine W_nil ?_
  refine N_then ?_
  refine G_ret ?_
  obtain rfl := Option.some.inj hm
  refine N_ret [.agg #[.slice p4259 r4257.Items.length c4260, .int .i64 r4257.Head, .int .i64 r4257.Tail]] (RVs_cons (RV_cell (g := true) (k := 3) (b := b4224) (off := 0) (cs := [.slice p4259 r4257.Items.length c4260, .int .i64 r4257.Head, .int .i64 r4257.Tail]) (e := 27) (fr := (0, 0)) (v := .agg #[.slice p4259 r4257.Items.length c4260, .int .i64 r4257.Head, .int .i64 r4257.Tail]) (M4267.blk 0 (b := b4224) (o := .cells ⟨[.slice p4259 r4257.Items.length c4260, .int .i64 r4257.Head, .int .i64 r4257.Tail]⟩ 27 (0, 0)) (by kernel_rfl)) (by kernel_rfl) (by kernel_rfl) (by kernel_rfl)) RVs_nil) ?_
  exact ⟨p4259, c4260, sg4261, rfl, ho4262, M4267.pick [1] (by kernel_rfl)⟩
theorem c_s_RingWords (w : World) (x4293 : Ring) (p4295 : Option Addr) (c4296 : Nat) (h4297 : rdS encI w x4293.Items p4295 c4296) {r : (List Int) × Bool} (hm : M.s_RingWords x4293 = some r) :
    Calls Try.prog 25 #[.agg #[.slice p4295 x4293.Items.length c4296, .int .i64 x4293.Head, .int .i64 x4293.Tail]] w fun e w' => ∃ (p4299 : Option Addr) (c4300 : Nat) (sg4301 : Seg), e = .returned (.tuple #[.slice p4299 r.1.length c4300, .bool r.2]) ∧ ownS encI r.1 p4299 c4300 sg4301 ∧ Mem [] w w' [sg4301] := by
  unfold M.s_RingWords at hm
  refine C_enter Try.func25 rfl (by kernel_rfl) ?_
  have M0 := Mem.refl [] w
  refine G_seq ?_
  refine G_region ?_
  refine W_new (fun b => .pointer (some ⟨b, 0, none⟩)) (.cells ⟨[.slice p4295 x4293.Items.length c4296, .int .i64 x4293.Head, .int .i64 x4293.Tail]⟩ 27 (0, 0)) M0 rfl (by kernel_rfl) (by kernel_rfl) ?_
  intro b4303 w4304 M4305
  refine W_run 2 [(1, .pointer (some ⟨b4303, 0, none⟩))] w4304 (by kernel_rfl) ?_
  refine W_nil ?_
  refine N_then ?_
  refine G_seq ?_
  refine G_seq ?_
  refine G_region ?_
  refine W_val (.agg #[.slice p4295 x4293.Items.length c4296, .int .i64 x4293.Head, .int .i64 x4293.Tail]) w4304 (by kernel_rfl) (E_load (e := 27) (fr := (0, 0)) _ _ true 3 b4303 0 [.slice p4295 x4293.Items.length c4296, .int .i64 x4293.Head, .int .i64 x4293.Tail] (.agg #[.slice p4295 x4293.Items.length c4296, .int .i64 x4293.Head, .int .i64 x4293.Tail]) rfl (by kernel_rfl) (by kernel_rfl) (by kernel_rfl) (M4305.blk 0 (b := b4303) (o := .cells ⟨[.slice p4295 x4293.Items.length c4296, .int .i64 x4293.Head, .int .i64 x4293.Tail]⟩ 27 (0, 0)) (by kernel_rfl))) ?_
  obtain ⟨r4307, hr4307, hm⟩ := gx_bind hm
  refine W_call 58 #[.agg #[.slice p4295 x4293.Items.length c4296, .int .i64 x4293.Head, .int .i64 x4293.Tail]] (by kernel_rfl) (by kernel_rfl) ?_
  refine (c_s_l20Good w4304 x4293 p4295 c4296 (h4297.mem0 M4305) hr4307).mono ?_
  rintro e_ w4308 ⟨rfl, K4309⟩
  have M4310 := M4305.call0 K4309
  refine ⟨_, rfl, ?_⟩
  refine W_run 1 [(1, .pointer (some ⟨b4303, 0, none⟩)), (6, .bool (!r4307))] w4308 (by kernel_rfl) ?_
  refine W_nil ?_
  refine N_then ?_
  rcases gx_bif hm with ⟨hc4311, hm⟩ | ⟨hc4311, hm⟩
  · refine G_cond_t (b := (!r4307)) hc4311 (by kernel_rfl) ?_
    refine G_seq ?_
    refine G_region ?_
    refine W_lit (E := encI) ([] : List Int) 0 [] 3 M4310 (by kernel_rfl) (by kernel_rfl) (by kernel_rfl) (by kernel_rfl) (by kernel_rfl) ?_
    intro p4312 c4313 sg4314 w4315 ho4316 M4317
    refine W_run 2 [(2, .slice p4312 ([] : List Int).length c4313), (3, .bool false)] w4315 (by kernel_rfl) ?_
    refine W_nil ?_
    refine N_then ?_
    refine G_ret ?_
    refine N_then_ret ?_
    obtain rfl := Option.some.inj hm
    refine N_ret [.slice p4312 ([] : List Int).length c4313, .bool false] (RVs_cons (RV_tmp (by kernel_rfl)) (RVs_cons (RV_tmp (by kernel_rfl)) RVs_nil)) ?_
    exact ⟨p4312, c4313, sg4314, rfl, ho4316, M4317.pick [1] (by kernel_rfl)⟩
  · refine G_cond_f (b := (!r4307)) hc4311 (by kernel_rfl) ?_
    refine G_skip ?_
    refine N_then ?_
    refine G_seq ?_
    refine G_region ?_
    refine W_val (.agg #[.slice p4295 x4293.Items.length c4296, .int .i64 x4293.Head, .int .i64 x4293.Tail]) w4308 (by kernel_rfl) (E_load (e := 27) (fr := (0, 0)) _ _ true 3 b4303 0 [.slice p4295 x4293.Items.length c4296, .int .i64 x4293.Head, .int .i64 x4293.Tail] (.agg #[.slice p4295 x4293.Items.length c4296, .int .i64 x4293.Head, .int .i64 x4293.Tail]) rfl (by kernel_rfl) (by kernel_rfl) (by kernel_rfl) (M4310.blk 0 (b := b4303) (o := .cells ⟨[.slice p4295 x4293.Items.length c4296, .int .i64 x4293.Head, .int .i64 x4293.Tail]⟩ 27 (0, 0)) (by kernel_rfl))) ?_
    obtain ⟨r4319, hr4319, hm⟩ := gx_bind hm
    refine W_call 60 #[.agg #[.slice p4295 x4293.Items.length c4296, .int .i64 x4293.Head, .int .i64 x4293.Tail]] (by kernel_rfl) (by kernel_rfl) ?_
    refine (c_s_l20Words w4308 x4293 p4295 c4296 (h4297.mem0 M4310) hr4319).mono ?_
    rintro e_ w4325 ⟨p4321, c4322, sg4323, rfl, ho4324, K4326⟩
    have M4327 := M4310.call K4326
    refine ⟨_, rfl, ?_⟩
    refine W_run 2 [(2, .slice p4321 r4319.length c4322), (3, .bool true)] w4325 (by kernel_rfl) ?_
    refine W_nil ?_
    refine N_then ?_
    refine G_ret ?_
    obtain rfl := Option.some.inj hm
    refine N_ret [.slice p4321 r4319.length c4322, .bool true] (RVs_cons (RV_tmp (by kernel_rfl)) (RVs_cons (RV_tmp (by kernel_rfl)) RVs_nil)) ?_
    exact ⟨p4321, c4322, sg4323, rfl, ho4324, M4327.pick [1] (by kernel_rfl)⟩
theorem c_l_FnSignals (w : World) (x1 : List Int) (p3 : Option Addr) (c4 : Nat) (h5 : rdS encU8 w x1 p3 c4) {r : Bool} (hm : M.l_FnSignals x1 = some r) :
    Calls Try.prog 12 #[.slice p3 x1.length c4] w fun e w' => e = .returned (.bool r) ∧ Mem [] w w' [] := by
  unfold M.l_FnSignals at hm
  refine C_enter Try.func12 rfl (by kernel_rfl) ?_
  have M0 := Mem.refl [] w
  refine G_seq ?_
  refine G_region ?_
  refine W_run 1 [(0, .slice p3 x1.length c4)] w (by kernel_rfl) ?_
  refine W_nil ?_
  refine N_then ?_
  refine G_seq ?_
  refine G_seq ?_
  refine G_region ?_
  refine W_run 1 [(0, .slice p3 x1.length c4), (36, .slice p3 x1.length c4)] w (by kernel_rfl) ?_
  obtain ⟨r11, hr11, hm⟩ := gx_bind hm
  refine W_call 41 #[.slice p3 x1.length c4] (by kernel_rfl) (by kernel_rfl) ?_
  refine (c_l_vBig w x1 p3 c4 (h5.mem0 M0) hr11).mono ?_
  rintro e_ w12 ⟨rfl, K13⟩
  have M14 := M0.call0 K13
  refine ⟨_, rfl, ?_⟩
  refine W_nil ?_
  refine N_then ?_
  rcases gx_bif hm with ⟨hc15, hm⟩ | ⟨hc15, hm⟩
  · refine G_cond_t (b := r11) hc15 (by kernel_rfl) ?_
    refine G_seq ?_
    refine G_region ?_
    refine W_run 1 [(2, .bool true)] w12 (by kernel_rfl) ?_
    refine W_nil ?_
    refine N_then ?_
    refine G_ret ?_
    refine N_then_ret ?_
    obtain rfl := Option.some.inj hm
    refine N_ret [.bool true] (RVs_cons (RV_tmp (by kernel_rfl)) RVs_nil) ?_
    exact ⟨rfl, M14.pick [] (by kernel_rfl)⟩
  · refine G_cond_f (b := r11) hc15 (by kernel_rfl) ?_
    refine G_skip ?_
    refine N_then ?_
    refine G_seq ?_
    refine G_region ?_
    refine W_run 1 [(0, .slice p3 x1.length c4), (39, .slice p3 x1.length c4)] w12 (by kernel_rfl) ?_
    obtain ⟨r189, hr189, hm⟩ := gx_bind hm
    refine W_call 42 #[.slice p3 x1.length c4] (by kernel_rfl) (by kernel_rfl) ?_
    refine (c_s_DrawNeedsSignal w12 x1 p3 c4 (h5.mem0 M14) hr189).mono ?_
    rintro e_ w190 ⟨rfl, K191⟩
    have M192 := M14.call0 K191
    refine ⟨_, rfl, ?_⟩
    refine W_run 7 [(0, .slice p3 x1.length c4), (3, .int .i64 r189.1), (4, .int .i64 r189.2.1), (5, .int .i64 r189.2.2)] w190 (by kernel_rfl) ?_
    refine W_nil ?_
    refine N_then ?_
    refine G_seq ?_
    refine G_region ?_
    refine W_run 3 [(0, .slice p3 x1.length c4), (3, .int .i64 r189.1), (4, .int .i64 r189.2.1), (5, .int .i64 r189.2.2), (45, .int .i64 r189.1), (46, .int .i64 r189.2.1), (47, .int .i64 r189.2.2)] w190 (by kernel_rfl) ?_
    obtain ⟨r259, hr259, hm⟩ := gx_bind hm
    refine W_call 15 #[.int .i64 r189.1, .int .i64 r189.2.1, .int .i64 r189.2.2] (by kernel_rfl) (by kernel_rfl) ?_
    refine (c_i_NeedsSignal w190 r189.1 r189.2.1 r189.2.2 hr259).mono ?_
    rintro e_ w260 ⟨rfl, K261⟩
    have M262 := M192.call0 K261
    refine ⟨_, rfl, ?_⟩
    refine W_run 5 [(0, .slice p3 x1.length c4), (3, .int .i64 r189.1), (4, .int .i64 r189.2.1), (5, .int .i64 r189.2.2), (6, .bool r259.1), (7, .bool r259.2)] w260 (by kernel_rfl) ?_
    refine W_nil ?_
    refine N_then ?_
    refine G_seq ?_
    refine G_seq ?_
    refine G_region ?_
    refine W_run 3 [(0, .slice p3 x1.length c4), (3, .int .i64 r189.1), (4, .int .i64 r189.2.1), (5, .int .i64 r189.2.2), (6, .bool r259.1), (7, .bool r259.2), (52, .int .i64 r189.1), (53, .int .i64 r189.2.1), (54, .int .i64 r189.2.2)] w260 (by kernel_rfl) ?_
    obtain ⟨r319, hr319, hm⟩ := gx_bind hm
    refine W_call 14 #[.int .i64 r189.1, .int .i64 r189.2.1, .int .i64 r189.2.2] (by kernel_rfl) (by kernel_rfl) ?_
    refine (c_s_NeedsSignal w260 r189.1 r189.2.1 r189.2.2 hr319).mono ?_
    rintro e_ w320 ⟨rfl, K321⟩
    have M322 := M262.call0 K321
    refine ⟨_, rfl, ?_⟩
    refine W_run 5 [(0, .slice p3 x1.length c4), (3, .int .i64 r189.1), (4, .int .i64 r189.2.1), (5, .int .i64 r189.2.2), (6, .bool r259.1), (7, .bool r259.2), (8, .bool r319.1), (9, .bool r319.2)] w320 (by kernel_rfl) ?_
    refine W_nil ?_
    refine N_then ?_
    refine G_seq ?_
    obtain ⟨o324, ho325, hm326⟩ := gx_bind hm
    refine G_meet (fun a w' => Mem [] w w' [] ∧ Sat Try.f12.ntmps [(0, .slice p3 x1.length c4), (3, .int .i64 r189.1), (4, .int .i64 r189.2.1), (5, .int .i64 r189.2.2), (6, .bool r259.1), (7, .bool r259.2), (65, .bool o324)] a) ?_ ?_
    · have hm := ho325
      refine G_region ?_
      refine W_run 4 [(0, .slice p3 x1.length c4), (3, .int .i64 r189.1), (4, .int .i64 r189.2.1), (5, .int .i64 r189.2.2), (6, .bool r259.1), (7, .bool r259.2), (9, .bool r319.2), (61, .bool (!(r259.1 == r319.1)))] w320 (by kernel_rfl) ?_
      rcases gx_bif hm with ⟨hc327, hm⟩ | ⟨hc327, hm⟩
      · refine W_known 61 true (by kernel_rfl) hc327 ?_
        refine W_run 4 [(0, .slice p3 x1.length c4), (3, .int .i64 r189.1), (4, .int .i64 r189.2.1), (5, .int .i64 r189.2.2), (6, .bool r259.1), (7, .bool r259.2), (65, .bool true)] w320 (by kernel_rfl) ?_
        refine W_nil ?_
        obtain rfl := Option.some.inj hm
        exact N_meet fun a ha => ⟨M322.pick [] (by kernel_rfl), ha.sub (by kernel_rfl)⟩
      · refine W_known 61 false (by kernel_rfl) hc327 ?_
        refine W_run 4 [(0, .slice p3 x1.length c4), (3, .int .i64 r189.1), (4, .int .i64 r189.2.1), (5, .int .i64 r189.2.2), (6, .bool r259.1), (7, .bool r259.2), (65, .bool (!(r259.2 == r319.2)))] w320 (by kernel_rfl) ?_
        refine W_nil ?_
        obtain rfl := Option.some.inj hm
        exact N_meet fun a ha => ⟨M322.pick [] (by kernel_rfl), ha.sub (by kernel_rfl)⟩
    · intro a330 w328 ⟨M329, hS331⟩
      refine N_use hS331 ?_
      have hm := hm326
      refine N_then ?_
      rcases gx_bif hm with ⟨hc332, hm⟩ | ⟨hc332, hm⟩
      · refine G_cond_t (b := o324) hc332 (by kernel_rfl) ?_
        refine G_seq ?_
        refine G_region ?_
        refine W_run 1 [(2, .bool false)] w328 (by kernel_rfl) ?_
        refine W_nil ?_
        refine N_then ?_
        refine G_ret ?_
        refine N_then_ret ?_
        obtain rfl := Option.some.inj hm
        refine N_ret [.bool false] (RVs_cons (RV_tmp (by kernel_rfl)) RVs_nil) ?_
        exact ⟨rfl, M329.pick [] (by kernel_rfl)⟩
      · refine G_cond_f (b := o324) hc332 (by kernel_rfl) ?_
        refine G_skip ?_
        refine N_then ?_
        refine G_seq ?_
        refine G_seq ?_
        refine G_region ?_
        refine W_run 1 [(0, .slice p3 x1.length c4), (3, .int .i64 r189.1), (4, .int .i64 r189.2.1), (5, .int .i64 r189.2.2), (6, .bool r259.1), (66, .bool r259.2)] w328 (by kernel_rfl) ?_
        refine W_nil ?_
        refine N_then ?_
        obtain ⟨out423, ho421, hm422⟩ := gx_bind hm
        refine G_meet (fun a w' => ∃ (o420 : Unit), out423 = .inl o420 ∧ Mem [] w w' [] ∧ Sat Try.f12.ntmps [(0, .slice p3 x1.length c4)] a) ?_ ?_
        · have hm := ho421
          rcases gx_bif hm with ⟨hc424, hm⟩ | ⟨hc424, hm⟩
          · refine G_cond_t (b := r259.2) hc424 (by kernel_rfl) ?_
            refine G_seq ?_
            refine G_region ?_
            refine W_run 6 [(0, .slice p3 x1.length c4), (3, .int .i64 r189.1), (5, .int .i64 r189.2.2), (6, .bool r259.1), (10, .int .i64 ((w64 ((w64 (r189.2.1 - r189.1)) + 65536)).tmod 65536))] w328 (by kernel_rfl) ?_
            refine W_nil ?_
            refine N_then ?_
            refine G_seq ?_
            refine G_region ?_
            refine W_run 1 [(0, .slice p3 x1.length c4), (3, .int .i64 r189.1), (5, .int .i64 r189.2.2), (6, .bool r259.1), (10, .int .i64 ((w64 ((w64 (r189.2.1 - r189.1)) + 65536)).tmod 65536)), (11, .bool false)] w328 (by kernel_rfl) ?_
            refine W_nil ?_
            refine N_then ?_
            refine G_seq ?_
            refine G_seq ?_
            refine G_region ?_
            refine W_run 1 [(0, .slice p3 x1.length c4), (3, .int .i64 r189.1), (5, .int .i64 r189.2.2), (6, .bool r259.1), (10, .int .i64 ((w64 ((w64 (r189.2.1 - r189.1)) + 65536)).tmod 65536)), (11, .bool false), (12, .int .i64 0)] w328 (by kernel_rfl) ?_
            refine W_nil ?_
            refine N_then ?_
            obtain ⟨out468, hw469, hmo470⟩ := gx_bind hm
            refine G_meet (fun a w' => Mem [] w w' [] ∧ Sat Try.f12.ntmps [(0, .slice p3 x1.length c4), (6, .bool r259.1), (10, .int .i64 ((w64 ((w64 (r189.2.1 - r189.1)) + 65536)).tmod 65536)), (11, .bool out468)] a) ?_ ?_
            · refine G_block ?_
              refine G_while (σ := Bool × Int) (ρ := Bool) (fun s461 a w' => Mem [] w w' [] ∧ Sat Try.f12.ntmps [(0, .slice p3 x1.length c4), (3, .int .i64 r189.1), (5, .int .i64 r189.2.2), (6, .bool r259.1), (10, .int .i64 ((w64 ((w64 (r189.2.1 - r189.1)) + 65536)).tmod 65536)), (11, .bool s461.1), (12, .int .i64 s461.2)] a) hw469 (fun a ha => ⟨M329.pick [] (by kernel_rfl), ha.sub (by kernel_rfl)⟩) ?_
              clear hm
              intro s461 x462 hm hout463 a464 w465 ⟨M466, hS467⟩
              refine G_use hS467 ?_
              refine G_seq ?_
              refine G_seq ?_
              obtain ⟨o473, ho474, hm475⟩ := gx_bind hm
              refine G_meet (fun a w' => Mem [] w w' [] ∧ Sat Try.f12.ntmps [(0, .slice p3 x1.length c4), (3, .int .i64 r189.1), (5, .int .i64 r189.2.2), (6, .bool r259.1), (10, .int .i64 ((w64 ((w64 (r189.2.1 - r189.1)) + 65536)).tmod 65536)), (11, .bool s461.1), (12, .int .i64 s461.2), (78, .bool o473)] a) ?_ ?_
              · have hm := ho474
                refine G_region ?_
                refine W_run 4 [(0, .slice p3 x1.length c4), (3, .int .i64 r189.1), (5, .int .i64 r189.2.2), (6, .bool r259.1), (10, .int .i64 ((w64 ((w64 (r189.2.1 - r189.1)) + 65536)).tmod 65536)), (11, .bool s461.1), (12, .int .i64 s461.2), (75, .bool (decide (s461.2 < ((w64 ((w64 (r189.2.1 - r189.1)) + 65536)).tmod 65536))))] w465 (by kernel_rfl) ?_
                rcases gx_bif hm with ⟨hc476, hm⟩ | ⟨hc476, hm⟩
                · refine W_known 75 true (by kernel_rfl) hc476 ?_
                  refine W_run 3 [(0, .slice p3 x1.length c4), (3, .int .i64 r189.1), (5, .int .i64 r189.2.2), (6, .bool r259.1), (10, .int .i64 ((w64 ((w64 (r189.2.1 - r189.1)) + 65536)).tmod 65536)), (11, .bool s461.1), (12, .int .i64 s461.2), (78, .bool (decide (s461.2 < 64)))] w465 (by kernel_rfl) ?_
                  refine W_nil ?_
                  obtain rfl := Option.some.inj hm
                  exact N_meet fun a ha => ⟨M466.pick [] (by kernel_rfl), ha.sub (by kernel_rfl)⟩
                · refine W_known 75 false (by kernel_rfl) hc476 ?_
                  refine W_run 3 [(0, .slice p3 x1.length c4), (3, .int .i64 r189.1), (5, .int .i64 r189.2.2), (6, .bool r259.1), (10, .int .i64 ((w64 ((w64 (r189.2.1 - r189.1)) + 65536)).tmod 65536)), (11, .bool s461.1), (12, .int .i64 s461.2), (78, .bool false)] w465 (by kernel_rfl) ?_
                  refine W_nil ?_
                  obtain rfl := Option.some.inj hm
                  exact N_meet fun a ha => ⟨M466.pick [] (by kernel_rfl), ha.sub (by kernel_rfl)⟩
              · intro a479 w477 ⟨M478, hS480⟩
                refine N_use hS480 ?_
                have hm := hm475
                refine N_then ?_
                rcases gx_bif hm with ⟨hc481, hm⟩ | ⟨hc481, hm⟩
                · refine G_cond_t (b := o473) hc481 (by kernel_rfl) ?_
                  refine G_skip ?_
                  refine N_then ?_
                  refine G_seq ?_
                  refine G_block ?_
                  obtain ⟨o483, ho484, hm485⟩ := gx_bind hm
                  refine G_meet (fun a w' => Mem [] w w' [] ∧ Sat Try.f12.ntmps [(0, .slice p3 x1.length c4), (3, .int .i64 r189.1), (5, .int .i64 r189.2.2), (6, .bool r259.1), (10, .int .i64 ((w64 ((w64 (r189.2.1 - r189.1)) + 65536)).tmod 65536)), (11, .bool o483), (12, .int .i64 s461.2)] a) ?_ ?_
                  · have hm := ho484
                    refine G_region ?_
                    refine W_run 2 [(0, .slice p3 x1.length c4), (3, .int .i64 r189.1), (5, .int .i64 r189.2.2), (6, .bool r259.1), (10, .int .i64 ((w64 ((w64 (r189.2.1 - r189.1)) + 65536)).tmod 65536)), (11, .bool s461.1), (12, .int .i64 s461.2), (82, .bool s461.1)] w477 (by kernel_rfl) ?_
                    rcases gx_bif hm with ⟨hc486, hm⟩ | ⟨hc486, hm⟩
                    · refine W_known 82 true (by kernel_rfl) hc486 ?_
                      refine W_run 8 [(0, .slice p3 x1.length c4), (3, .int .i64 r189.1), (5, .int .i64 r189.2.2), (6, .bool r259.1), (10, .int .i64 ((w64 ((w64 (r189.2.1 - r189.1)) + 65536)).tmod 65536)), (11, .bool true), (12, .int .i64 s461.2)] w477 (by kernel_rfl) ?_
                      refine W_nil ?_
                      obtain rfl := Option.some.inj hm
                      exact N_meet fun a ha => ⟨M478.pick [] (by kernel_rfl), ha.sub (by kernel_rfl)⟩
                    · refine W_known 82 false (by kernel_rfl) hc486 ?_
                      refine W_run 8 [(0, .slice p3 x1.length c4), (3, .int .i64 r189.1), (5, .int .i64 r189.2.2), (6, .bool r259.1), (10, .int .i64 ((w64 ((w64 (r189.2.1 - r189.1)) + 65536)).tmod 65536)), (11, .bool (((w64 (r189.1 + s461.2)).tmod 65536) == r189.2.2)), (12, .int .i64 s461.2)] w477 (by kernel_rfl) ?_
                      refine W_nil ?_
                      obtain rfl := Option.some.inj hm
                      exact N_meet fun a ha => ⟨M478.pick [] (by kernel_rfl), ha.sub (by kernel_rfl)⟩
                  · intro a489 w487 ⟨M488, hS490⟩
                    refine N_use hS490 ?_
                    have hm := hm485
                    refine N_block ?_
                    refine N_then ?_
                    refine G_region ?_
                    refine W_run 3 [(0, .slice p3 x1.length c4), (3, .int .i64 r189.1), (5, .int .i64 r189.2.2), (6, .bool r259.1), (10, .int .i64 ((w64 ((w64 (r189.2.1 - r189.1)) + 65536)).tmod 65536)), (11, .bool o483), (12, .int .i64 (w64 (s461.2 + 1)))] w487 (by kernel_rfl) ?_
                    refine W_nil ?_
                    obtain rfl := Option.some.inj hm
                    exact N_loop fun a ha => ⟨_, rfl, M488.pick [] (by kernel_rfl), ha.sub (by kernel_rfl)⟩
                · refine G_cond_f (b := o473) hc481 (by kernel_rfl) ?_
                  refine G_exit ?_
                  refine N_then_exit ?_
                  refine N_then_exit ?_
                  refine N_block_eq ?_
                  obtain rfl := Option.some.inj hm
                  obtain rfl := hout463 _ rfl
                  exact N_meet fun a ha => ⟨M478.pick [] (by kernel_rfl), ha.sub (by kernel_rfl)⟩
            · intro a491 w492 ⟨M493, hS494⟩
              refine N_use hS494 ?_
              have hm := hmo470
              refine N_then ?_
              refine G_seq ?_
              obtain ⟨o499, ho500, hm501⟩ := gx_bind hm
              refine G_meet (fun a w' => Mem [] w w' [] ∧ Sat Try.f12.ntmps [(0, .slice p3 x1.length c4), (103, .bool o499)] a) ?_ ?_
              · have hm := ho500
                refine G_region ?_
                refine W_run 3 [(0, .slice p3 x1.length c4), (6, .bool r259.1), (11, .bool out468), (92, .bool (decide (((w64 ((w64 (r189.2.1 - r189.1)) + 65536)).tmod 65536) ≤ 64)))] w492 (by kernel_rfl) ?_
                rcases gx_bif hm with ⟨hc502, hm⟩ | ⟨hc502, hm⟩
                · refine W_known 92 true (by kernel_rfl) hc502 ?_
                  refine W_run 5 [(0, .slice p3 x1.length c4), (6, .bool r259.1), (11, .bool out468), (97, .bool (!(out468 == r259.1)))] w492 (by kernel_rfl) ?_
                  rcases gx_bif hm with ⟨hc503, hm⟩ | ⟨hc503, hm⟩
                  · refine W_known 97 true (by kernel_rfl) hc503 ?_
                    refine W_run 6 [(0, .slice p3 x1.length c4), (103, .bool true)] w492 (by kernel_rfl) ?_
                    refine W_nil ?_
                    obtain rfl := Option.some.inj hm
                    exact N_meet fun a ha => ⟨M493.pick [] (by kernel_rfl), ha.sub (by kernel_rfl)⟩
                  · refine W_known 97 false (by kernel_rfl) hc503 ?_
                    refine W_run 2 [(0, .slice p3 x1.length c4), (6, .bool r259.1), (97, .bool false), (99, .bool out468)] w492 (by kernel_rfl) ?_
                    rcases gx_bif hm with ⟨hc504, hm⟩ | ⟨hc504, hm⟩
                    · refine W_known 99 true (by kernel_rfl) hc504 ?_
                      refine W_run 4 [(0, .slice p3 x1.length c4), (103, .bool (!r259.1))] w492 (by kernel_rfl) ?_
                      refine W_nil ?_
                      obtain rfl := Option.some.inj hm
                      exact N_meet fun a ha => ⟨M493.pick [] (by kernel_rfl), ha.sub (by kernel_rfl)⟩
                    · refine W_known 99 false (by kernel_rfl) hc504 ?_
                      refine W_run 4 [(0, .slice p3 x1.length c4), (103, .bool false)] w492 (by kernel_rfl) ?_
                      refine W_nil ?_
                      obtain rfl := Option.some.inj hm
                      exact N_meet fun a ha => ⟨M493.pick [] (by kernel_rfl), ha.sub (by kernel_rfl)⟩
                · refine W_known 92 false (by kernel_rfl) hc502 ?_
                  refine W_run 7 [(0, .slice p3 x1.length c4), (6, .bool r259.1), (97, .bool false), (99, .bool out468)] w492 (by kernel_rfl) ?_
                  rcases gx_bif hm with ⟨hc505, hm⟩ | ⟨hc505, hm⟩
                  · refine W_known 99 true (by kernel_rfl) hc505 ?_
                    refine W_run 4 [(0, .slice p3 x1.length c4), (103, .bool (!r259.1))] w492 (by kernel_rfl) ?_
                    refine W_nil ?_
                    obtain rfl := Option.some.inj hm
                    exact N_meet fun a ha => ⟨M493.pick [] (by kernel_rfl), ha.sub (by kernel_rfl)⟩
                  · refine W_known 99 false (by kernel_rfl) hc505 ?_
                    refine W_run 4 [(0, .slice p3 x1.length c4), (103, .bool false)] w492 (by kernel_rfl) ?_
                    refine W_nil ?_
                    obtain rfl := Option.some.inj hm
                    exact N_meet fun a ha => ⟨M493.pick [] (by kernel_rfl), ha.sub (by kernel_rfl)⟩
              · intro a508 w506 ⟨M507, hS509⟩
                refine N_use hS509 ?_
                have hm := hm501
                refine N_then ?_
                rcases gx_bif hm with ⟨hc510, hm⟩ | ⟨hc510, hm⟩
                · refine G_cond_t (b := o499) hc510 (by kernel_rfl) ?_
                  refine G_seq ?_
                  refine G_region ?_
                  refine W_run 1 [(2, .bool false)] w506 (by kernel_rfl) ?_
                  refine W_nil ?_
                  refine N_then ?_
                  refine G_ret ?_
                  refine N_meet_ret ?_
                  obtain rfl := Option.some.inj hm
                  have hm := hm422
                  simp only [Sum.elim_inr] at hm
                  refine N_then_ret ?_
                  obtain rfl := Option.some.inj hm
                  refine N_ret [.bool false] (RVs_cons (RV_tmp (by kernel_rfl)) RVs_nil) ?_
                  exact ⟨rfl, M507.pick [] (by kernel_rfl)⟩
                · refine G_cond_f (b := o499) hc510 (by kernel_rfl) ?_
                  refine G_skip ?_
                  obtain rfl := Option.some.inj hm
                  exact N_meet fun a ha => ⟨_, rfl, M507.pick [] (by kernel_rfl), ha.sub (by kernel_rfl)⟩
          · refine G_cond_f (b := r259.2) hc424 (by kernel_rfl) ?_
            refine G_skip ?_
            obtain rfl := Option.some.inj hm
            exact N_meet fun a ha => ⟨_, rfl, M329.pick [] (by kernel_rfl), ha.sub (by kernel_rfl)⟩
        · intro a513 w511 ⟨o420, hout_, M512, hS514⟩
          refine N_use hS514 ?_
          subst hout_
          have hm := hm422
          simp only [Sum.elim_inl] at hm
          refine N_then ?_
          refine G_seq ?_
          refine G_region ?_
          refine W_run 1 [(0, .slice p3 x1.length c4), (105, .slice p3 x1.length c4)] w511 (by kernel_rfl) ?_
          obtain ⟨r2136, hr2136, hm⟩ := gx_bind hm
          refine W_call 43 #[.slice p3 x1.length c4] (by kernel_rfl) (by kernel_rfl) ?_
          refine (c_s_DrawResizeRing w511 x1 p3 c4 (h5.mem0 M512) hr2136).mono ?_
          rintro e_ w2142 ⟨p2138, c2139, sg2140, rfl, ho2141, K2143⟩
          have M2144 := M512.call K2143
          refine ⟨_, rfl, ?_⟩
          refine W_run 3 [(0, .slice p3 x1.length c4), (107, .agg #[.slice p2138 r2136.1.Items.length c2139, .int .i64 r2136.1.Head, .int .i64 r2136.1.Tail]), (108, .int .i64 r2136.2)] w2142 (by kernel_rfl) ?_
          refine W_new (fun b => .pointer (some ⟨b, 0, none⟩)) (.cells ⟨[.slice none 0 0, .int .i64 0, .int .i64 0]⟩ 27 (0, 0)) M2144 rfl (by kernel_rfl) (by kernel_rfl) ?_
          intro b2147 w2148 M2149
          refine W_store _ _ _ true 3 b2147 0 [.slice none 0 0, .int .i64 0, .int .i64 0] 27 (.agg #[.slice p2138 r2136.1.Items.length c2139, .int .i64 r2136.1.Head, .int .i64 r2136.1.Tail]) 1 [.slice p2138 r2136.1.Items.length c2139, .int .i64 r2136.1.Head, .int .i64 r2136.1.Tail] M2149 (by kernel_rfl) rfl (by kernel_rfl) (by kernel_rfl) (by kernel_rfl) (by kernel_rfl) (by kernel_rfl) (by kernel_rfl) (by kernel_rfl) (by kernel_rfl) ?_
          intro w2150 M2151
          refine W_run 1 [(0, .slice p3 x1.length c4), (13, .pointer (some ⟨b2147, 0, none⟩)), (14, .int .i64 r2136.2)] w2150 (by kernel_rfl) ?_
          refine W_nil ?_
          refine N_then ?_
          refine G_seq ?_
          refine G_region ?_
          refine W_val (.agg #[.slice p2138 r2136.1.Items.length c2139, .int .i64 r2136.1.Head, .int .i64 r2136.1.Tail]) w2150 (by kernel_rfl) (E_load (e := 27) (fr := (0, 0)) _ _ true 3 b2147 0 [.slice p2138 r2136.1.Items.length c2139, .int .i64 r2136.1.Head, .int .i64 r2136.1.Tail] (.agg #[.slice p2138 r2136.1.Items.length c2139, .int .i64 r2136.1.Head, .int .i64 r2136.1.Tail]) rfl (by kernel_rfl) (by kernel_rfl) (by kernel_rfl) (M2151.blk 1 (b := b2147) (o := .cells ⟨[.slice p2138 r2136.1.Items.length c2139, .int .i64 r2136.1.Head, .int .i64 r2136.1.Tail]⟩ 27 (0, 0)) (by kernel_rfl))) ?_
          refine W_run 1 [(0, .slice p3 x1.length c4), (13, .pointer (some ⟨b2147, 0, none⟩)), (14, .int .i64 r2136.2), (110, .agg #[.slice p2138 r2136.1.Items.length c2139, .int .i64 r2136.1.Head, .int .i64 r2136.1.Tail]), (111, .int .i64 r2136.2)] w2150 (by kernel_rfl) ?_
          obtain ⟨r3005, hr3005, hm⟩ := gx_bind hm
          refine W_call 35 #[.agg #[.slice p2138 r2136.1.Items.length c2139, .int .i64 r2136.1.Head, .int .i64 r2136.1.Tail], .int .i64 r2136.2] (by kernel_rfl) (by kernel_rfl) ?_
          refine (c_i_ResizeRing w2150 r2136.1 p2138 c2139 (ho2141.rd M2151 0 (by kernel_rfl)) r2136.2 hr3005).mono ?_
          rintro e_ w3011 ⟨p3007, c3008, sg3009, rfl, ho3010, K3012⟩
          have M3013 := M2151.call K3012
          refine ⟨_, rfl, ?_⟩
          refine W_run 3 [(0, .slice p3 x1.length c4), (13, .pointer (some ⟨b2147, 0, none⟩)), (14, .int .i64 r2136.2), (113, .agg #[.slice p3007 r3005.1.Items.length c3008, .int .i64 r3005.1.Head, .int .i64 r3005.1.Tail]), (114, .bool r3005.2)] w3011 (by kernel_rfl) ?_
          refine W_new (fun b => .pointer (some ⟨b, 0, none⟩)) (.cells ⟨[.slice none 0 0, .int .i64 0, .int .i64 0]⟩ 27 (0, 0)) M3013 rfl (by kernel_rfl) (by kernel_rfl) ?_
          intro b3016 w3017 M3018
          refine W_store _ _ _ true 3 b3016 0 [.slice none 0 0, .int .i64 0, .int .i64 0] 27 (.agg #[.slice p3007 r3005.1.Items.length c3008, .int .i64 r3005.1.Head, .int .i64 r3005.1.Tail]) 3 [.slice p3007 r3005.1.Items.length c3008, .int .i64 r3005.1.Head, .int .i64 r3005.1.Tail] M3018 (by kernel_rfl) rfl (by kernel_rfl) (by kernel_rfl) (by kernel_rfl) (by kernel_rfl) (by kernel_rfl) (by kernel_rfl) (by kernel_rfl) (by kernel_rfl) ?_
          intro w3019 M3020
          refine W_run 1 [(0, .slice p3 x1.length c4), (13, .pointer (some ⟨b2147, 0, none⟩)), (14, .int .i64 r2136.2), (15, .pointer (some ⟨b3016, 0, none⟩)), (16, .bool r3005.2)] w3019 (by kernel_rfl) ?_
          refine W_nil ?_
          refine N_then ?_
          refine G_seq ?_
          refine G_seq ?_
          refine G_region ?_
          refine W_val (.agg #[.slice p2138 r2136.1.Items.length c2139, .int .i64 r2136.1.Head, .int .i64 r2136.1.Tail]) w3019 (by kernel_rfl) (E_load (e := 27) (fr := (0, 0)) _ _ true 3 b2147 0 [.slice p2138 r2136.1.Items.length c2139, .int .i64 r2136.1.Head, .int .i64 r2136.1.Tail] (.agg #[.slice p2138 r2136.1.Items.length c2139, .int .i64 r2136.1.Head, .int .i64 r2136.1.Tail]) rfl (by kernel_rfl) (by kernel_rfl) (by kernel_rfl) (M3020.blk 1 (b := b2147) (o := .cells ⟨[.slice p2138 r2136.1.Items.length c2139, .int .i64 r2136.1.Head, .int .i64 r2136.1.Tail]⟩ 27 (0, 0)) (by kernel_rfl))) ?_
          refine W_run 1 [(0, .slice p3 x1.length c4), (13, .pointer (some ⟨b2147, 0, none⟩)), (15, .pointer (some ⟨b3016, 0, none⟩)), (16, .bool r3005.2), (116, .agg #[.slice p2138 r2136.1.Items.length c2139, .int .i64 r2136.1.Head, .int .i64 r2136.1.Tail]), (117, .int .i64 r2136.2)] w3019 (by kernel_rfl) ?_
          obtain ⟨r3797, hr3797, hm⟩ := gx_bind hm
          refine W_call 34 #[.agg #[.slice p2138 r2136.1.Items.length c2139, .int .i64 r2136.1.Head, .int .i64 r2136.1.Tail], .int .i64 r2136.2] (by kernel_rfl) (by kernel_rfl) ?_
          refine (c_s_ResizeRing w3019 r2136.1 p2138 c2139 (ho2141.rd M3020 0 (by kernel_rfl)) r2136.2 hr3797).mono ?_
          rintro e_ w3803 ⟨p3799, c3800, sg3801, rfl, ho3802, K3804⟩
          have M3805 := M3020.call K3804
          refine ⟨_, rfl, ?_⟩
          refine W_run 3 [(0, .slice p3 x1.length c4), (13, .pointer (some ⟨b2147, 0, none⟩)), (15, .pointer (some ⟨b3016, 0, none⟩)), (16, .bool r3005.2), (119, .agg #[.slice p3799 r3797.1.Items.length c3800, .int .i64 r3797.1.Head, .int .i64 r3797.1.Tail]), (120, .bool r3797.2)] w3803 (by kernel_rfl) ?_
          refine W_new (fun b => .pointer (some ⟨b, 0, none⟩)) (.cells ⟨[.slice none 0 0, .int .i64 0, .int .i64 0]⟩ 27 (0, 0)) M3805 rfl (by kernel_rfl) (by kernel_rfl) ?_
          intro b3808 w3809 M3810
          refine W_store _ _ _ true 3 b3808 0 [.slice none 0 0, .int .i64 0, .int .i64 0] 27 (.agg #[.slice p3799 r3797.1.Items.length c3800, .int .i64 r3797.1.Head, .int .i64 r3797.1.Tail]) 5 [.slice p3799 r3797.1.Items.length c3800, .int .i64 r3797.1.Head, .int .i64 r3797.1.Tail] M3810 (by kernel_rfl) rfl (by kernel_rfl) (by kernel_rfl) (by kernel_rfl) (by kernel_rfl) (by kernel_rfl) (by kernel_rfl) (by kernel_rfl) (by kernel_rfl) ?_
          intro w3811 M3812
          refine W_run 1 [(0, .slice p3 x1.length c4), (13, .pointer (some ⟨b2147, 0, none⟩)), (15, .pointer (some ⟨b3016, 0, none⟩)), (16, .bool r3005.2), (17, .pointer (some ⟨b3808, 0, none⟩)), (18, .bool r3797.2)] w3811 (by kernel_rfl) ?_
          refine W_nil ?_
          refine N_then ?_
          refine G_seq ?_
          obtain ⟨o3899, ho3900, hm3901⟩ := gx_bind hm
          refine G_meet (fun a w' => Mem [] w w' [sg2140, [(b2147, .cells ⟨[.slice p2138 r2136.1.Items.length c2139, .int .i64 r2136.1.Head, .int .i64 r2136.1.Tail]⟩ 27 (0, 0))], sg3009, [(b3016, .cells ⟨[.slice p3007 r3005.1.Items.length c3008, .int .i64 r3005.1.Head, .int .i64 r3005.1.Tail]⟩ 27 (0, 0))]] ∧ Sat Try.f12.ntmps [(0, .slice p3 x1.length c4), (13, .pointer (some ⟨b2147, 0, none⟩)), (15, .pointer (some ⟨b3016, 0, none⟩)), (16, .bool r3005.2), (129, .bool o3899)] a) ?_ ?_
          · have hm := ho3900
            refine G_region ?_
            refine W_run 4 [(0, .slice p3 x1.length c4), (13, .pointer (some ⟨b2147, 0, none⟩)), (15, .pointer (some ⟨b3016, 0, none⟩)), (16, .bool r3005.2), (17, .pointer (some ⟨b3808, 0, none⟩)), (124, .bool (!(r3005.2 == r3797.2)))] w3811 (by kernel_rfl) ?_
            rcases gx_bif hm with ⟨hc3902, hm⟩ | ⟨hc3902, hm⟩
            · refine W_known 124 true (by kernel_rfl) hc3902 ?_
              refine W_run 5 [(0, .slice p3 x1.length c4), (13, .pointer (some ⟨b2147, 0, none⟩)), (15, .pointer (some ⟨b3016, 0, none⟩)), (16, .bool r3005.2), (129, .bool true)] w3811 (by kernel_rfl) ?_
              refine W_nil ?_
              obtain rfl := Option.some.inj hm
              exact N_meet fun a ha => ⟨M3812.pick [0, 1, 2, 3] (by kernel_rfl), ha.sub (by kernel_rfl)⟩
            · refine W_known 124 false (by kernel_rfl) hc3902 ?_
              refine W_val (.agg #[.slice p3007 r3005.1.Items.length c3008, .int .i64 r3005.1.Head, .int .i64 r3005.1.Tail]) w3811 (by kernel_rfl) (E_load (e := 27) (fr := (0, 0)) _ _ true 3 b3016 0 [.slice p3007 r3005.1.Items.length c3008, .int .i64 r3005.1.Head, .int .i64 r3005.1.Tail] (.agg #[.slice p3007 r3005.1.Items.length c3008, .int .i64 r3005.1.Head, .int .i64 r3005.1.Tail]) rfl (by kernel_rfl) (by kernel_rfl) (by kernel_rfl) (M3812.blk 3 (b := b3016) (o := .cells ⟨[.slice p3007 r3005.1.Items.length c3008, .int .i64 r3005.1.Head, .int .i64 r3005.1.Tail]⟩ 27 (0, 0)) (by kernel_rfl))) ?_
              refine W_val (.agg #[.slice p3799 r3797.1.Items.length c3800, .int .i64 r3797.1.Head, .int .i64 r3797.1.Tail]) w3811 (by kernel_rfl) (E_load (e := 27) (fr := (0, 0)) _ _ true 3 b3808 0 [.slice p3799 r3797.1.Items.length c3800, .int .i64 r3797.1.Head, .int .i64 r3797.1.Tail] (.agg #[.slice p3799 r3797.1.Items.length c3800, .int .i64 r3797.1.Head, .int .i64 r3797.1.Tail]) rfl (by kernel_rfl) (by kernel_rfl) (by kernel_rfl) (M3812.blk 5 (b := b3808) (o := .cells ⟨[.slice p3799 r3797.1.Items.length c3800, .int .i64 r3797.1.Head, .int .i64 r3797.1.Tail]⟩ 27 (0, 0)) (by kernel_rfl))) ?_
              obtain ⟨r3903, hr3903, hm⟩ := gx_bind hm
              refine W_call 44 #[.agg #[.slice p3007 r3005.1.Items.length c3008, .int .i64 r3005.1.Head, .int .i64 r3005.1.Tail], .agg #[.slice p3799 r3797.1.Items.length c3800, .int .i64 r3797.1.Head, .int .i64 r3797.1.Tail]] (by kernel_rfl) (by kernel_rfl) ?_
              refine (c_l_vRing w3811 r3005.1 p3007 c3008 (ho3010.rd M3812 2 (by kernel_rfl)) r3797.1 p3799 c3800 (ho3802.rd M3812 4 (by kernel_rfl)) hr3903).mono ?_
              rintro e_ w3904 ⟨rfl, K3905⟩
              have M3906 := M3812.call0 K3905
              refine ⟨_, rfl, ?_⟩
              refine W_run 2 [(0, .slice p3 x1.length c4), (13, .pointer (some ⟨b2147, 0, none⟩)), (15, .pointer (some ⟨b3016, 0, none⟩)), (16, .bool r3005.2), (129, .bool (!r3903))] w3904 (by kernel_rfl) ?_
              refine W_nil ?_
              obtain rfl := Option.some.inj hm
              exact N_meet fun a ha => ⟨M3906.pick [0, 1, 2, 3] (by kernel_rfl), ha.sub (by kernel_rfl)⟩
          · intro a3909 w3907 ⟨M3908, hS3910⟩
            refine N_use hS3910 ?_
            have hm := hm3901
            refine N_then ?_
            rcases gx_bif hm with ⟨hc3911, hm⟩ | ⟨hc3911, hm⟩
            · refine G_cond_t (b := o3899) hc3911 (by kernel_rfl) ?_
              refine G_seq ?_
              refine G_region ?_
              refine W_run 1 [(2, .bool false)] w3907 (by kernel_rfl) ?_
              refine W_nil ?_
              refine N_then ?_
              refine G_ret ?_
              refine N_then_ret ?_
              obtain rfl := Option.some.inj hm
              refine N_ret [.bool false] (RVs_cons (RV_tmp (by kernel_rfl)) RVs_nil) ?_
              exact ⟨rfl, M3908.pick [] (by kernel_rfl)⟩
            · refine G_cond_f (b := o3899) hc3911 (by kernel_rfl) ?_
              refine G_skip ?_
              refine N_then ?_
              refine G_seq ?_
              refine G_seq ?_
              refine G_region ?_
              refine W_run 1 [(0, .slice p3 x1.length c4), (13, .pointer (some ⟨b2147, 0, none⟩)), (15, .pointer (some ⟨b3016, 0, none⟩)), (130, .bool r3005.2)] w3907 (by kernel_rfl) ?_
              refine W_nil ?_
              refine N_then ?_
              obtain ⟨out4011, ho4009, hm4010⟩ := gx_bind hm
              refine G_meet (fun a w' => ∃ (o4008 : Unit), out4011 = .inl o4008 ∧ Mem [] w w' [] ∧ Sat Try.f12.ntmps [(0, .slice p3 x1.length c4)] a) ?_ ?_
              · have hm := ho4009
                rcases gx_bif hm with ⟨hc4012, hm⟩ | ⟨hc4012, hm⟩
                · refine G_cond_t (b := r3005.2) hc4012 (by kernel_rfl) ?_
                  refine G_seq ?_
                  refine G_region ?_
                  refine W_val (.agg #[.slice p2138 r2136.1.Items.length c2139, .int .i64 r2136.1.Head, .int .i64 r2136.1.Tail]) w3907 (by kernel_rfl) (E_load (e := 27) (fr := (0, 0)) _ _ true 3 b2147 0 [.slice p2138 r2136.1.Items.length c2139, .int .i64 r2136.1.Head, .int .i64 r2136.1.Tail] (.agg #[.slice p2138 r2136.1.Items.length c2139, .int .i64 r2136.1.Head, .int .i64 r2136.1.Tail]) rfl (by kernel_rfl) (by kernel_rfl) (by kernel_rfl) (M3908.blk 1 (b := b2147) (o := .cells ⟨[.slice p2138 r2136.1.Items.length c2139, .int .i64 r2136.1.Head, .int .i64 r2136.1.Tail]⟩ 27 (0, 0)) (by kernel_rfl))) ?_
                  obtain ⟨r4013, hr4013, hm⟩ := gx_bind hm
                  refine W_call 26 #[.agg #[.slice p2138 r2136.1.Items.length c2139, .int .i64 r2136.1.Head, .int .i64 r2136.1.Tail]] (by kernel_rfl) (by kernel_rfl) ?_
                  refine (c_i_RingWords w3907 r2136.1 p2138 c2139 (ho2141.rd M3908 0 (by kernel_rfl)) hr4013).mono ?_
                  rintro e_ w4019 ⟨p4015, c4016, sg4017, rfl, ho4018, K4020⟩
                  have M4021 := M3908.call K4020
                  refine ⟨_, rfl, ?_⟩
                  refine W_run 5 [(0, .slice p3 x1.length c4), (13, .pointer (some ⟨b2147, 0, none⟩)), (15, .pointer (some ⟨b3016, 0, none⟩)), (19, .slice p4015 r4013.1.length c4016), (20, .bool r4013.2)] w4019 (by kernel_rfl) ?_
                  refine W_nil ?_
                  refine N_then ?_
                  refine G_seq ?_
                  refine G_region ?_
                  refine W_val (.agg #[.slice p3007 r3005.1.Items.length c3008, .int .i64 r3005.1.Head, .int .i64 r3005.1.Tail]) w4019 (by kernel_rfl) (E_load (e := 27) (fr := (0, 0)) _ _ true 3 b3016 0 [.slice p3007 r3005.1.Items.length c3008, .int .i64 r3005.1.Head, .int .i64 r3005.1.Tail] (.agg #[.slice p3007 r3005.1.Items.length c3008, .int .i64 r3005.1.Head, .int .i64 r3005.1.Tail]) rfl (by kernel_rfl) (by kernel_rfl) (by kernel_rfl) (M4021.blk 3 (b := b3016) (o := .cells ⟨[.slice p3007 r3005.1.Items.length c3008, .int .i64 r3005.1.Head, .int .i64 r3005.1.Tail]⟩ 27 (0, 0)) (by kernel_rfl))) ?_
                  obtain ⟨r4022, hr4022, hm⟩ := gx_bind hm
                  refine W_call 26 #[.agg #[.slice p3007 r3005.1.Items.length c3008, .int .i64 r3005.1.Head, .int .i64 r3005.1.Tail]] (by kernel_rfl) (by kernel_rfl) ?_
                  refine (c_i_RingWords w4019 r3005.1 p3007 c3008 (ho3010.rd M4021 2 (by kernel_rfl)) hr4022).mono ?_
                  rintro e_ w4028 ⟨p4024, c4025, sg4026, rfl, ho4027, K4029⟩
                  have M4030 := M4021.call K4029
                  refine ⟨_, rfl, ?_⟩
                  refine W_run 5 [(0, .slice p3 x1.length c4), (13, .pointer (some ⟨b2147, 0, none⟩)), (15, .pointer (some ⟨b3016, 0, none⟩)), (19, .slice p4015 r4013.1.length c4016), (20, .bool r4013.2), (21, .slice p4024 r4022.1.length c4025), (22, .bool r4022.2)] w4028 (by kernel_rfl) ?_
                  refine W_nil ?_
                  refine N_then ?_
                  refine G_seq ?_
                  refine G_region ?_
                  refine W_val (.agg #[.slice p3007 r3005.1.Items.length c3008, .int .i64 r3005.1.Head, .int .i64 r3005.1.Tail]) w4028 (by kernel_rfl) (E_load (e := 27) (fr := (0, 0)) _ _ true 3 b3016 0 [.slice p3007 r3005.1.Items.length c3008, .int .i64 r3005.1.Head, .int .i64 r3005.1.Tail] (.agg #[.slice p3007 r3005.1.Items.length c3008, .int .i64 r3005.1.Head, .int .i64 r3005.1.Tail]) rfl (by kernel_rfl) (by kernel_rfl) (by kernel_rfl) (M4030.blk 3 (b := b3016) (o := .cells ⟨[.slice p3007 r3005.1.Items.length c3008, .int .i64 r3005.1.Head, .int .i64 r3005.1.Tail]⟩ 27 (0, 0)) (by kernel_rfl))) ?_
                  refine W_run 1 [(0, .slice p3 x1.length c4), (13, .pointer (some ⟨b2147, 0, none⟩)), (19, .slice p4015 r4013.1.length c4016), (20, .bool r4013.2), (21, .slice p4024 r4022.1.length c4025), (22, .bool r4022.2), (142, .agg #[.slice p3007 r3005.1.Items.length c3008, .int .i64 r3005.1.Head, .int .i64 r3005.1.Tail]), (143, .pointer (some ⟨b2147, 0, none⟩))] w4028 (by kernel_rfl) ?_
                  refine W_val (.slice p2138 r2136.1.Items.length c2139) w4028 (by kernel_rfl) (E_load (e := 27) (fr := (0, 0)) _ _ false 1 b2147 0 [.slice p2138 r2136.1.Items.length c2139, .int .i64 r2136.1.Head, .int .i64 r2136.1.Tail] (.slice p2138 r2136.1.Items.length c2139) rfl (by kernel_rfl) (by kernel_rfl) (by kernel_rfl) (M4030.blk 1 (b := b2147) (o := .cells ⟨[.slice p2138 r2136.1.Items.length c2139, .int .i64 r2136.1.Head, .int .i64 r2136.1.Tail]⟩ 27 (0, 0)) (by kernel_rfl))) ?_
                  refine W_run 1 [(0, .slice p3 x1.length c4), (13, .pointer (some ⟨b2147, 0, none⟩)), (19, .slice p4015 r4013.1.length c4016), (20, .bool r4013.2), (21, .slice p4024 r4022.1.length c4025), (22, .bool r4022.2), (142, .agg #[.slice p3007 r3005.1.Items.length c3008, .int .i64 r3005.1.Head, .int .i64 r3005.1.Tail]), (145, .int .i64 (r2136.1.Items.length : Int))] w4028 (by kernel_rfl) ?_
                  obtain ⟨r4031, hr4031, hm⟩ := gx_bind hm
                  refine W_call 35 #[.agg #[.slice p3007 r3005.1.Items.length c3008, .int .i64 r3005.1.Head, .int .i64 r3005.1.Tail], .int .i64 (r2136.1.Items.length : Int)] (by kernel_rfl) (by kernel_rfl) ?_
                  refine (c_i_ResizeRing w4028 r3005.1 p3007 c3008 (ho3010.rd M4030 2 (by kernel_rfl)) (r2136.1.Items.length : Int) hr4031).mono ?_
                  rintro e_ w4037 ⟨p4033, c4034, sg4035, rfl, ho4036, K4038⟩
                  have M4039 := M4030.call K4038
                  refine ⟨_, rfl, ?_⟩
                  refine W_run 3 [(0, .slice p3 x1.length c4), (13, .pointer (some ⟨b2147, 0, none⟩)), (19, .slice p4015 r4013.1.length c4016), (20, .bool r4013.2), (21, .slice p4024 r4022.1.length c4025), (22, .bool r4022.2), (147, .agg #[.slice p4033 r4031.1.Items.length c4034, .int .i64 r4031.1.Head, .int .i64 r4031.1.Tail]), (148, .bool r4031.2)] w4037 (by kernel_rfl) ?_
                  refine W_new (fun b => .pointer (some ⟨b, 0, none⟩)) (.cells ⟨[.slice none 0 0, .int .i64 0, .int .i64 0]⟩ 27 (0, 0)) M4039 rfl (by kernel_rfl) (by kernel_rfl) ?_
                  intro b4042 w4043 M4044
                  refine W_store _ _ _ true 3 b4042 0 [.slice none 0 0, .int .i64 0, .int .i64 0] 27 (.agg #[.slice p4033 r4031.1.Items.length c4034, .int .i64 r4031.1.Head, .int .i64 r4031.1.Tail]) 7 [.slice p4033 r4031.1.Items.length c4034, .int .i64 r4031.1.Head, .int .i64 r4031.1.Tail] M4044 (by kernel_rfl) rfl (by kernel_rfl) (by kernel_rfl) (by kernel_rfl) (by kernel_rfl) (by kernel_rfl) (by kernel_rfl) (by kernel_rfl) (by kernel_rfl) ?_
                  intro w4045 M4046
                  refine W_run 1 [(0, .slice p3 x1.length c4), (13, .pointer (some ⟨b2147, 0, none⟩)), (19, .slice p4015 r4013.1.length c4016), (20, .bool r4013.2), (21, .slice p4024 r4022.1.length c4025), (22, .bool r4022.2), (23, .pointer (some ⟨b4042, 0, none⟩)), (24, .bool r4031.2)] w4045 (by kernel_rfl) ?_
                  refine W_nil ?_
                  refine N_then ?_
                  refine G_seq ?_
                  obtain ⟨o4059, ho4060, hm4061⟩ := gx_bind hm
                  refine G_meet (fun a w' => Mem [] w w' [] ∧ Sat Try.f12.ntmps [(0, .slice p3 x1.length c4), (170, .bool o4059)] a) ?_ ?_
                  · have hm := ho4060
                    refine G_region ?_
                    refine W_run 3 [(0, .slice p3 x1.length c4), (13, .pointer (some ⟨b2147, 0, none⟩)), (19, .slice p4015 r4013.1.length c4016), (21, .slice p4024 r4022.1.length c4025), (22, .bool r4022.2), (23, .pointer (some ⟨b4042, 0, none⟩)), (24, .bool r4031.2), (151, .bool (!r4013.2))] w4045 (by kernel_rfl) ?_
                    rcases gx_bif hm with ⟨hc4062, hm⟩ | ⟨hc4062, hm⟩
                    · refine W_known 151 true (by kernel_rfl) hc4062 ?_
                      refine W_run 19 [(0, .slice p3 x1.length c4), (170, .bool true)] w4045 (by kernel_rfl) ?_
                      refine W_nil ?_
                      obtain rfl := Option.some.inj hm
                      exact N_meet fun a ha => ⟨M4046.pick [] (by kernel_rfl), ha.sub (by kernel_rfl)⟩
                    · refine W_known 151 false (by kernel_rfl) hc4062 ?_
                      refine W_run 4 [(0, .slice p3 x1.length c4), (13, .pointer (some ⟨b2147, 0, none⟩)), (19, .slice p4015 r4013.1.length c4016), (21, .slice p4024 r4022.1.length c4025), (23, .pointer (some ⟨b4042, 0, none⟩)), (24, .bool r4031.2), (155, .bool (!r4022.2))] w4045 (by kernel_rfl) ?_
                      rcases gx_bif hm with ⟨hc4063, hm⟩ | ⟨hc4063, hm⟩
                      · refine W_known 155 true (by kernel_rfl) hc4063 ?_
                        refine W_run 15 [(0, .slice p3 x1.length c4), (170, .bool true)] w4045 (by kernel_rfl) ?_
                        refine W_nil ?_
                        obtain rfl := Option.some.inj hm
                        exact N_meet fun a ha => ⟨M4046.pick [] (by kernel_rfl), ha.sub (by kernel_rfl)⟩
                      · refine W_known 155 false (by kernel_rfl) hc4063 ?_
                        refine W_run 2 [(0, .slice p3 x1.length c4), (13, .pointer (some ⟨b2147, 0, none⟩)), (23, .pointer (some ⟨b4042, 0, none⟩)), (24, .bool r4031.2), (155, .bool false), (156, .slice p4015 r4013.1.length c4016), (157, .slice p4024 r4022.1.length c4025)] w4045 (by kernel_rfl) ?_
                        obtain ⟨r4064, hr4064, hm⟩ := gx_bind hm
                        refine W_call 45 #[.slice p4015 r4013.1.length c4016, .slice p4024 r4022.1.length c4025] (by kernel_rfl) (by kernel_rfl) ?_
                        refine (c_l_vInts w4045 r4013.1 p4015 c4016 (ho4018.rd M4046 4 (by kernel_rfl)) r4022.1 p4024 c4025 (ho4027.rd M4046 5 (by kernel_rfl)) hr4064).mono ?_
                        rintro e_ w4065 ⟨rfl, K4066⟩
                        have M4067 := M4046.call0 K4066
                        refine ⟨_, rfl, ?_⟩
                        refine W_run 3 [(0, .slice p3 x1.length c4), (13, .pointer (some ⟨b2147, 0, none⟩)), (23, .pointer (some ⟨b4042, 0, none⟩)), (24, .bool r4031.2), (161, .bool (!r4064))] w4065 (by kernel_rfl) ?_
                        rcases gx_bif hm with ⟨hc4068, hm⟩ | ⟨hc4068, hm⟩
                        · refine W_known 161 true (by kernel_rfl) hc4068 ?_
                          refine W_run 9 [(0, .slice p3 x1.length c4), (170, .bool true)] w4065 (by kernel_rfl) ?_
                          refine W_nil ?_
                          obtain rfl := Option.some.inj hm
                          exact N_meet fun a ha => ⟨M4067.pick [] (by kernel_rfl), ha.sub (by kernel_rfl)⟩
                        · refine W_known 161 false (by kernel_rfl) hc4068 ?_
                          refine W_run 4 [(0, .slice p3 x1.length c4), (13, .pointer (some ⟨b2147, 0, none⟩)), (23, .pointer (some ⟨b4042, 0, none⟩)), (165, .bool (!r4031.2))] w4065 (by kernel_rfl) ?_
                          rcases gx_bif hm with ⟨hc4069, hm⟩ | ⟨hc4069, hm⟩
                          · refine W_known 165 true (by kernel_rfl) hc4069 ?_
                            refine W_run 5 [(0, .slice p3 x1.length c4), (170, .bool true)] w4065 (by kernel_rfl) ?_
                            refine W_nil ?_
                            obtain rfl := Option.some.inj hm
                            exact N_meet fun a ha => ⟨M4067.pick [] (by kernel_rfl), ha.sub (by kernel_rfl)⟩
                          · refine W_known 165 false (by kernel_rfl) hc4069 ?_
                            refine W_val (.agg #[.slice p4033 r4031.1.Items.length c4034, .int .i64 r4031.1.Head, .int .i64 r4031.1.Tail]) w4065 (by kernel_rfl) (E_load (e := 27) (fr := (0, 0)) _ _ true 3 b4042 0 [.slice p4033 r4031.1.Items.length c4034, .int .i64 r4031.1.Head, .int .i64 r4031.1.Tail] (.agg #[.slice p4033 r4031.1.Items.length c4034, .int .i64 r4031.1.Head, .int .i64 r4031.1.Tail]) rfl (by kernel_rfl) (by kernel_rfl) (by kernel_rfl) (M4067.blk 7 (b := b4042) (o := .cells ⟨[.slice p4033 r4031.1.Items.length c4034, .int .i64 r4031.1.Head, .int .i64 r4031.1.Tail]⟩ 27 (0, 0)) (by kernel_rfl))) ?_
                            refine W_val (.agg #[.slice p2138 r2136.1.Items.length c2139, .int .i64 r2136.1.Head, .int .i64 r2136.1.Tail]) w4065 (by kernel_rfl) (E_load (e := 27) (fr := (0, 0)) _ _ true 3 b2147 0 [.slice p2138 r2136.1.Items.length c2139, .int .i64 r2136.1.Head, .int .i64 r2136.1.Tail] (.agg #[.slice p2138 r2136.1.Items.length c2139, .int .i64 r2136.1.Head, .int .i64 r2136.1.Tail]) rfl (by kernel_rfl) (by kernel_rfl) (by kernel_rfl) (M4067.blk 1 (b := b2147) (o := .cells ⟨[.slice p2138 r2136.1.Items.length c2139, .int .i64 r2136.1.Head, .int .i64 r2136.1.Tail]⟩ 27 (0, 0)) (by kernel_rfl))) ?_
                            obtain ⟨r4070, hr4070, hm⟩ := gx_bind hm
                            refine W_call 44 #[.agg #[.slice p4033 r4031.1.Items.length c4034, .int .i64 r4031.1.Head, .int .i64 r4031.1.Tail], .agg #[.slice p2138 r2136.1.Items.length c2139, .int .i64 r2136.1.Head, .int .i64 r2136.1.Tail]] (by kernel_rfl) (by kernel_rfl) ?_
                            refine (c_l_vRing w4065 r4031.1 p4033 c4034 (ho4036.rd M4067 6 (by kernel_rfl)) r2136.1 p2138 c2139 (ho2141.rd M4067 0 (by kernel_rfl)) hr4070).mono ?_
                            rintro e_ w4071 ⟨rfl, K4072⟩
                            have M4073 := M4067.call0 K4072
                            refine ⟨_, rfl, ?_⟩
                            refine W_run 2 [(0, .slice p3 x1.length c4), (170, .bool (!r4070))] w4071 (by kernel_rfl) ?_
                            refine W_nil ?_
                            obtain rfl := Option.some.inj hm
                            exact N_meet fun a ha => ⟨M4073.pick [] (by kernel_rfl), ha.sub (by kernel_rfl)⟩
                  · intro a4076 w4074 ⟨M4075, hS4077⟩
                    refine N_use hS4077 ?_
                    have hm := hm4061
                    refine N_then ?_
                    rcases gx_bif hm with ⟨hc4078, hm⟩ | ⟨hc4078, hm⟩
                    · refine G_cond_t (b := o4059) hc4078 (by kernel_rfl) ?_
                      refine G_seq ?_
                      refine G_region ?_
                      refine W_run 1 [(2, .bool false)] w4074 (by kernel_rfl) ?_
                      refine W_nil ?_
                      refine N_then ?_
                      refine G_ret ?_
                      refine N_meet_ret ?_
                      obtain rfl := Option.some.inj hm
                      have hm := hm4010
                      simp only [Sum.elim_inr] at hm
                      refine N_then_ret ?_
                      obtain rfl := Option.some.inj hm
                      refine N_ret [.bool false] (RVs_cons (RV_tmp (by kernel_rfl)) RVs_nil) ?_
                      exact ⟨rfl, M4075.pick [] (by kernel_rfl)⟩
                    · refine G_cond_f (b := o4059) hc4078 (by kernel_rfl) ?_
                      refine G_skip ?_
                      obtain rfl := Option.some.inj hm
                      exact N_meet fun a ha => ⟨_, rfl, M4075.pick [] (by kernel_rfl), ha.sub (by kernel_rfl)⟩
                · refine G_cond_f (b := r3005.2) hc4012 (by kernel_rfl) ?_
                  refine G_skip ?_
                  obtain rfl := Option.some.inj hm
                  exact N_meet fun a ha => ⟨_, rfl, M3908.pick [] (by kernel_rfl), ha.sub (by kernel_rfl)⟩
              · intro a4081 w4079 ⟨o4008, hout_, M4080, hS4082⟩
                refine N_use hS4082 ?_
                subst hout_
                have hm := hm4010
                simp only [Sum.elim_inl] at hm
                refine N_then ?_
                refine G_seq ?_
                refine G_region ?_
                refine W_run 1 [(0, .slice p3 x1.length c4), (172, .slice p3 x1.length c4)] w4079 (by kernel_rfl) ?_
                obtain ⟨r4108, hr4108, hm⟩ := gx_bind hm
                refine W_call 46 #[.slice p3 x1.length c4] (by kernel_rfl) (by kernel_rfl) ?_
                refine (c_s_DrawMakeRing w4079 x1 p3 c4 (h5.mem0 M4080) hr4108).mono ?_
                rintro e_ w4109 ⟨rfl, K4110⟩
                have M4111 := M4080.call0 K4110
                refine ⟨_, rfl, ?_⟩
                refine W_run 5 [(0, .slice p3 x1.length c4), (25, .int .i64 r4108.1), (26, .int .i64 r4108.2)] w4109 (by kernel_rfl) ?_
                refine W_nil ?_
                refine N_then ?_
                refine G_seq ?_
                refine G_region ?_
                refine W_run 2 [(0, .slice p3 x1.length c4), (25, .int .i64 r4108.1), (26, .int .i64 r4108.2), (177, .int .i64 r4108.1), (178, .int .i64 r4108.2)] w4109 (by kernel_rfl) ?_
                obtain ⟨r4163, hr4163, hm⟩ := gx_bind hm
                refine W_call 17 #[.int .i64 r4108.1, .int .i64 r4108.2] (by kernel_rfl) (by kernel_rfl) ?_
                refine (c_i_MakeRing w4109 r4108.1 r4108.2 hr4163).mono ?_
                rintro e_ w4169 ⟨p4165, c4166, sg4167, rfl, ho4168, K4170⟩
                have M4171 := M4111.call K4170
                refine ⟨_, rfl, ?_⟩
                refine W_run 3 [(0, .slice p3 x1.length c4), (25, .int .i64 r4108.1), (26, .int .i64 r4108.2), (180, .agg #[.slice p4165 r4163.1.Items.length c4166, .int .i64 r4163.1.Head, .int .i64 r4163.1.Tail]), (181, .bool r4163.2)] w4169 (by kernel_rfl) ?_
                refine W_new (fun b => .pointer (some ⟨b, 0, none⟩)) (.cells ⟨[.slice none 0 0, .int .i64 0, .int .i64 0]⟩ 27 (0, 0)) M4171 rfl (by kernel_rfl) (by kernel_rfl) ?_
                intro b4174 w4175 M4176
                refine W_store _ _ _ true 3 b4174 0 [.slice none 0 0, .int .i64 0, .int .i64 0] 27 (.agg #[.slice p4165 r4163.1.Items.length c4166, .int .i64 r4163.1.Head, .int .i64 r4163.1.Tail]) 1 [.slice p4165 r4163.1.Items.length c4166, .int .i64 r4163.1.Head, .int .i64 r4163.1.Tail] M4176 (by kernel_rfl) rfl (by kernel_rfl) (by kernel_rfl) (by kernel_rfl) (by kernel_rfl) (by kernel_rfl) (by kernel_rfl) (by kernel_rfl) (by kernel_rfl) ?_
                intro w4177 M4178
                refine W_run 1 [(0, .slice p3 x1.length c4), (25, .int .i64 r4108.1), (26, .int .i64 r4108.2), (27, .pointer (some ⟨b4174, 0, none⟩)), (28, .bool r4163.2)] w4177 (by kernel_rfl) ?_
                refine W_nil ?_
                refine N_then ?_
                refine G_seq ?_
                refine G_seq ?_
                refine G_region ?_
                refine W_run 2 [(0, .slice p3 x1.length c4), (27, .pointer (some ⟨b4174, 0, none⟩)), (28, .bool r4163.2), (183, .int .i64 r4108.1), (184, .int .i64 r4108.2)] w4177 (by kernel_rfl) ?_
                obtain ⟨r4179, hr4179, hm⟩ := gx_bind hm
                refine W_call 16 #[.int .i64 r4108.1, .int .i64 r4108.2] (by kernel_rfl) (by kernel_rfl) ?_
                refine (c_s_MakeRing w4177 r4108.1 r4108.2 hr4179).mono ?_
                rintro e_ w4185 ⟨p4181, c4182, sg4183, rfl, ho4184, K4186⟩
                have M4187 := M4178.call K4186
                refine ⟨_, rfl, ?_⟩
                refine W_run 3 [(0, .slice p3 x1.length c4), (27, .pointer (some ⟨b4174, 0, none⟩)), (28, .bool r4163.2), (186, .agg #[.slice p4181 r4179.1.Items.length c4182, .int .i64 r4179.1.Head, .int .i64 r4179.1.Tail]), (187, .bool r4179.2)] w4185 (by kernel_rfl) ?_
                refine W_new (fun b => .pointer (some ⟨b, 0, none⟩)) (.cells ⟨[.slice none 0 0, .int .i64 0, .int .i64 0]⟩ 27 (0, 0)) M4187 rfl (by kernel_rfl) (by kernel_rfl) ?_
                intro b4190 w4191 M4192
                refine W_store _ _ _ true 3 b4190 0 [.slice none 0 0, .int .i64 0, .int .i64 0] 27 (.agg #[.slice p4181 r4179.1.Items.length c4182, .int .i64 r4179.1.Head, .int .i64 r4179.1.Tail]) 3 [.slice p4181 r4179.1.Items.length c4182, .int .i64 r4179.1.Head, .int .i64 r4179.1.Tail] M4192 (by kernel_rfl) rfl (by kernel_rfl) (by kernel_rfl) (by kernel_rfl) (by kernel_rfl) (by kernel_rfl) (by kernel_rfl) (by kernel_rfl) (by kernel_rfl) ?_
                intro w4193 M4194
                refine W_run 1 [(0, .slice p3 x1.length c4), (27, .pointer (some ⟨b4174, 0, none⟩)), (28, .bool r4163.2), (29, .pointer (some ⟨b4190, 0, none⟩)), (30, .bool r4179.2)] w4193 (by kernel_rfl) ?_
                refine W_nil ?_
                refine N_then ?_
                refine G_seq ?_
                obtain ⟨o4200, ho4201, hm4202⟩ := gx_bind hm
                refine G_meet (fun a w' => Mem [] w w' [] ∧ Sat Try.f12.ntmps [(0, .slice p3 x1.length c4), (196, .bool o4200)] a) ?_ ?_
                · have hm := ho4201
                  refine G_region ?_
                  refine W_run 4 [(0, .slice p3 x1.length c4), (27, .pointer (some ⟨b4174, 0, none⟩)), (29, .pointer (some ⟨b4190, 0, none⟩)), (191, .bool (!(r4163.2 == r4179.2)))] w4193 (by kernel_rfl) ?_
                  rcases gx_bif hm with ⟨hc4203, hm⟩ | ⟨hc4203, hm⟩
                  · refine W_known 191 true (by kernel_rfl) hc4203 ?_
                    refine W_run 5 [(0, .slice p3 x1.length c4), (196, .bool true)] w4193 (by kernel_rfl) ?_
                    refine W_nil ?_
                    obtain rfl := Option.some.inj hm
                    exact N_meet fun a ha => ⟨M4194.pick [] (by kernel_rfl), ha.sub (by kernel_rfl)⟩
                  · refine W_known 191 false (by kernel_rfl) hc4203 ?_
                    refine W_val (.agg #[.slice p4165 r4163.1.Items.length c4166, .int .i64 r4163.1.Head, .int .i64 r4163.1.Tail]) w4193 (by kernel_rfl) (E_load (e := 27) (fr := (0, 0)) _ _ true 3 b4174 0 [.slice p4165 r4163.1.Items.length c4166, .int .i64 r4163.1.Head, .int .i64 r4163.1.Tail] (.agg #[.slice p4165 r4163.1.Items.length c4166, .int .i64 r4163.1.Head, .int .i64 r4163.1.Tail]) rfl (by kernel_rfl) (by kernel_rfl) (by kernel_rfl) (M4194.blk 1 (b := b4174) (o := .cells ⟨[.slice p4165 r4163.1.Items.length c4166, .int .i64 r4163.1.Head, .int .i64 r4163.1.Tail]⟩ 27 (0, 0)) (by kernel_rfl))) ?_
                    refine W_val (.agg #[.slice p4181 r4179.1.Items.length c4182, .int .i64 r4179.1.Head, .int .i64 r4179.1.Tail]) w4193 (by kernel_rfl) (E_load (e := 27) (fr := (0, 0)) _ _ true 3 b4190 0 [.slice p4181 r4179.1.Items.length c4182, .int .i64 r4179.1.Head, .int .i64 r4179.1.Tail] (.agg #[.slice p4181 r4179.1.Items.length c4182, .int .i64 r4179.1.Head, .int .i64 r4179.1.Tail]) rfl (by kernel_rfl) (by kernel_rfl) (by kernel_rfl) (M4194.blk 3 (b := b4190) (o := .cells ⟨[.slice p4181 r4179.1.Items.length c4182, .int .i64 r4179.1.Head, .int .i64 r4179.1.Tail]⟩ 27 (0, 0)) (by kernel_rfl))) ?_
                    obtain ⟨r4204, hr4204, hm⟩ := gx_bind hm
                    refine W_call 44 #[.agg #[.slice p4165 r4163.1.Items.length c4166, .int .i64 r4163.1.Head, .int .i64 r4163.1.Tail], .agg #[.slice p4181 r4179.1.Items.length c4182, .int .i64 r4179.1.Head, .int .i64 r4179.1.Tail]] (by kernel_rfl) (by kernel_rfl) ?_
                    refine (c_l_vRing w4193 r4163.1 p4165 c4166 (ho4168.rd M4194 0 (by kernel_rfl)) r4179.1 p4181 c4182 (ho4184.rd M4194 2 (by kernel_rfl)) hr4204).mono ?_
                    rintro e_ w4205 ⟨rfl, K4206⟩
                    have M4207 := M4194.call0 K4206
                    refine ⟨_, rfl, ?_⟩
                    refine W_run 2 [(0, .slice p3 x1.length c4), (196, .bool (!r4204))] w4205 (by kernel_rfl) ?_
                    refine W_nil ?_
                    obtain rfl := Option.some.inj hm
                    exact N_meet fun a ha => ⟨M4207.pick [] (by kernel_rfl), ha.sub (by kernel_rfl)⟩
                · intro a4210 w4208 ⟨M4209, hS4211⟩
                  refine N_use hS4211 ?_
                  have hm := hm4202
                  refine N_then ?_
                  rcases gx_bif hm with ⟨hc4212, hm⟩ | ⟨hc4212, hm⟩
                  · refine G_cond_t (b := o4200) hc4212 (by kernel_rfl) ?_
                    refine G_seq ?_
                    refine G_region ?_
                    refine W_run 1 [(2, .bool false)] w4208 (by kernel_rfl) ?_
                    refine W_nil ?_
                    refine N_then ?_
                    refine G_ret ?_
                    refine N_then_ret ?_
                    obtain rfl := Option.some.inj hm
                    refine N_ret [.bool false] (RVs_cons (RV_tmp (by kernel_rfl)) RVs_nil) ?_
                    exact ⟨rfl, M4209.pick [] (by kernel_rfl)⟩
                  · refine G_cond_f (b := o4200) hc4212 (by kernel_rfl) ?_
                    refine G_skip ?_
                    refine N_then ?_
                    refine G_seq ?_
                    refine G_region ?_
                    refine W_run 1 [(197, .slice p3 x1.length c4)] w4208 (by kernel_rfl) ?_
                    obtain ⟨r4268, hr4268, hm⟩ := gx_bind hm
                    refine W_call 47 #[.slice p3 x1.length c4] (by kernel_rfl) (by kernel_rfl) ?_
                    refine (c_s_DrawRingWords w4208 x1 p3 c4 (h5.mem0 M4209) hr4268).mono ?_
                    rintro e_ w4274 ⟨p4270, c4271, sg4272, rfl, ho4273, K4275⟩
                    have M4276 := M4209.call K4275
                    refine ⟨_, rfl, ?_⟩
                    refine W_new (fun b => .pointer (some ⟨b, 0, none⟩)) (.cells ⟨[.slice none 0 0, .int .i64 0, .int .i64 0]⟩ 27 (0, 0)) M4276 rfl (by kernel_rfl) (by kernel_rfl) ?_
                    intro b4279 w4280 M4281
                    refine W_store _ _ _ true 3 b4279 0 [.slice none 0 0, .int .i64 0, .int .i64 0] 27 (.agg #[.slice p4270 r4268.Items.length c4271, .int .i64 r4268.Head, .int .i64 r4268.Tail]) 1 [.slice p4270 r4268.Items.length c4271, .int .i64 r4268.Head, .int .i64 r4268.Tail] M4281 (by kernel_rfl) rfl (by kernel_rfl) (by kernel_rfl) (by kernel_rfl) (by kernel_rfl) (by kernel_rfl) (by kernel_rfl) (by kernel_rfl) (by kernel_rfl) ?_
                    intro w4282 M4283
                    refine W_nil ?_
                    refine N_then ?_
                    refine G_seq ?_
                    refine G_region ?_
                    refine W_val (.agg #[.slice p4270 r4268.Items.length c4271, .int .i64 r4268.Head, .int .i64 r4268.Tail]) w4282 (by kernel_rfl) (E_load (e := 27) (fr := (0, 0)) _ _ true 3 b4279 0 [.slice p4270 r4268.Items.length c4271, .int .i64 r4268.Head, .int .i64 r4268.Tail] (.agg #[.slice p4270 r4268.Items.length c4271, .int .i64 r4268.Head, .int .i64 r4268.Tail]) rfl (by kernel_rfl) (by kernel_rfl) (by kernel_rfl) (M4283.blk 1 (b := b4279) (o := .cells ⟨[.slice p4270 r4268.Items.length c4271, .int .i64 r4268.Head, .int .i64 r4268.Tail]⟩ 27 (0, 0)) (by kernel_rfl))) ?_
                    obtain ⟨r4284, hr4284, hm⟩ := gx_bind hm
                    refine W_call 26 #[.agg #[.slice p4270 r4268.Items.length c4271, .int .i64 r4268.Head, .int .i64 r4268.Tail]] (by kernel_rfl) (by kernel_rfl) ?_
                    refine (c_i_RingWords w4282 r4268 p4270 c4271 (ho4273.rd M4283 0 (by kernel_rfl)) hr4284).mono ?_
                    rintro e_ w4290 ⟨p4286, c4287, sg4288, rfl, ho4289, K4291⟩
                    have M4292 := M4283.call K4291
                    refine ⟨_, rfl, ?_⟩
                    refine W_run 5 [(31, .pointer (some ⟨b4279, 0, none⟩)), (32, .slice p4286 r4284.1.length c4287), (33, .bool r4284.2)] w4290 (by kernel_rfl) ?_
                    refine W_nil ?_
                    refine N_then ?_
                    refine G_seq ?_
                    refine G_region ?_
                    refine W_val (.agg #[.slice p4270 r4268.Items.length c4271, .int .i64 r4268.Head, .int .i64 r4268.Tail]) w4290 (by kernel_rfl) (E_load (e := 27) (fr := (0, 0)) _ _ true 3 b4279 0 [.slice p4270 r4268.Items.length c4271, .int .i64 r4268.Head, .int .i64 r4268.Tail] (.agg #[.slice p4270 r4268.Items.length c4271, .int .i64 r4268.Head, .int .i64 r4268.Tail]) rfl (by kernel_rfl) (by kernel_rfl) (by kernel_rfl) (M4292.blk 1 (b := b4279) (o := .cells ⟨[.slice p4270 r4268.Items.length c4271, .int .i64 r4268.Head, .int .i64 r4268.Tail]⟩ 27 (0, 0)) (by kernel_rfl))) ?_
                    obtain ⟨r4328, hr4328, hm⟩ := gx_bind hm
                    refine W_call 25 #[.agg #[.slice p4270 r4268.Items.length c4271, .int .i64 r4268.Head, .int .i64 r4268.Tail]] (by kernel_rfl) (by kernel_rfl) ?_
                    refine (c_s_RingWords w4290 r4268 p4270 c4271 (ho4273.rd M4292 0 (by kernel_rfl)) hr4328).mono ?_
                    rintro e_ w4334 ⟨p4330, c4331, sg4332, rfl, ho4333, K4335⟩
                    have M4336 := M4292.call K4335
                    refine ⟨_, rfl, ?_⟩
                    refine W_run 5 [(32, .slice p4286 r4284.1.length c4287), (33, .bool r4284.2), (34, .slice p4330 r4328.1.length c4331), (35, .bool r4328.2)] w4334 (by kernel_rfl) ?_
                    refine W_nil ?_
                    refine N_then ?_
                    refine G_seq ?_
                    obtain ⟨o4342, ho4343, hm4344⟩ := gx_bind hm
                    refine G_meet (fun a w' => Mem [] w w' [] ∧ Sat Try.f12.ntmps [(2, .bool o4342)] a) ?_ ?_
                    · have hm := ho4343
                      refine G_region ?_
                      refine W_run 4 [(32, .slice p4286 r4284.1.length c4287), (34, .slice p4330 r4328.1.length c4331), (212, .bool (r4284.2 == r4328.2))] w4334 (by kernel_rfl) ?_
                      rcases gx_bif hm with ⟨hc4345, hm⟩ | ⟨hc4345, hm⟩
                      · refine W_known 212 true (by kernel_rfl) hc4345 ?_
                        refine W_run 2 [(212, .bool true), (213, .slice p4286 r4284.1.length c4287), (214, .slice p4330 r4328.1.length c4331)] w4334 (by kernel_rfl) ?_
                        obtain ⟨r4346, hr4346, hm⟩ := gx_bind hm
                        refine W_call 45 #[.slice p4286 r4284.1.length c4287, .slice p4330 r4328.1.length c4331] (by kernel_rfl) (by kernel_rfl) ?_
                        refine (c_l_vInts w4334 r4284.1 p4286 c4287 (ho4289.rd M4336 2 (by kernel_rfl)) r4328.1 p4330 c4331 (ho4333.rd M4336 3 (by kernel_rfl)) hr4346).mono ?_
                        rintro e_ w4347 ⟨rfl, K4348⟩
                        have M4349 := M4336.call0 K4348
                        refine ⟨_, rfl, ?_⟩
                        refine W_run 2 [(2, .bool r4346)] w4347 (by kernel_rfl) ?_
                        refine W_nil ?_
                        obtain rfl := Option.some.inj hm
                        exact N_meet fun a ha => ⟨M4349.pick [] (by kernel_rfl), ha.sub (by kernel_rfl)⟩
                      · refine W_known 212 false (by kernel_rfl) hc4345 ?_
                        refine W_run 5 [(2, .bool false)] w4334 (by kernel_rfl) ?_
                        refine W_nil ?_
                        obtain rfl := Option.some.inj hm
                        exact N_meet fun a ha => ⟨M4336.pick [] (by kernel_rfl), ha.sub (by kernel_rfl)⟩
                    · intro a4352 w4350 ⟨M4351, hS4353⟩
                      refine N_use hS4353 ?_
                      have hm := hm4344
                      refine N_then ?_
                      refine G_ret ?_
                      obtain rfl := Option.some.inj hm
                      refine N_ret [.bool o4342] (RVs_cons (RV_tmp (by kernel_rfl)) RVs_nil) ?_
                      exact ⟨rfl, M4351.pick [] (by kernel_rfl)⟩
theorem c_s_DrawPutWord (w : World) (x4364 : List Int) (p4366 : Option Addr) (c4367 : Nat) (h4368 : rdS encU8 w x4364 p4366 c4367) {r : Ring × Int} (hm : M.s_DrawPutWord x4364 = some r) :
    Calls Try.prog 48 #[.slice p4366 x4364.length c4367] w fun e w' => ∃ (p4370 : Option Addr) (c4371 : Nat) (sg4372 : Seg), e = .returned (.tuple #[.agg #[.slice p4370 r.1.Items.length c4371, .int .i64 r.1.Head, .int .i64 r.1.Tail], .int .i64 r.2]) ∧ ownS encI r.1.Items p4370 c4371 sg4372 ∧ Mem [] w w' [sg4372] := by
  unfold M.s_DrawPutWord at hm
  refine C_enter Try.func48 rfl (by kernel_rfl) ?_
  have M0 := Mem.refl [] w
  refine G_seq ?_
  refine G_region ?_
  refine W_new (fun b => .pointer (some ⟨b, 0, none⟩)) (.cells ⟨[.slice none 0 0, .int .i64 0, .int .i64 0]⟩ 27 (0, 0)) M0 rfl (by kernel_rfl) (by kernel_rfl) ?_
  intro b4375 w4376 M4377
  refine W_run 1 [(0, .slice p4366 x4364.length c4367), (2, .pointer (some ⟨b4375, 0, none⟩))] w4376 (by kernel_rfl) ?_
  refine W_nil ?_
  refine N_then ?_
  refine G_seq ?_
  refine G_region ?_
  refine W_run 2 [(2, .pointer (some ⟨b4375, 0, none⟩)), (6, .agg #[.slice p4366 x4364.length c4367, .int .i64 0, .int .u64 0])] w4376 (by kernel_rfl) ?_
  refine W_new (fun b => .pointer (some ⟨b, 0, none⟩)) (.cells ⟨[.slice p4366 x4364.length c4367, .int .i64 0, .int .u64 0]⟩ 73 (0, 0)) M4377 rfl (by kernel_rfl) (by kernel_rfl) ?_
  intro b4380 w4381 M4382
  refine W_run 1 [(2, .pointer (some ⟨b4375, 0, none⟩)), (4, .pointer (some ⟨b4380, 0, none⟩))] w4381 (by kernel_rfl) ?_
  refine W_nil ?_
  refine N_then ?_
  refine G_seq ?_
  refine G_region ?_
  refine W_run 1 [(2, .pointer (some ⟨b4375, 0, none⟩)), (4, .pointer (some ⟨b4380, 0, none⟩)), (8, .pointer (some ⟨b4380, 0, none⟩))] w4381 (by kernel_rfl) ?_
  obtain ⟨r4383, hr4383, hm⟩ := gx_bind hm
  refine W_call 74 #[.pointer (some ⟨b4380, 0, none⟩)] (by kernel_rfl) (by kernel_rfl) ?_
  refine (c_s_l1Cur_ring w4381 (⟨x4364, 0, 0⟩ : l1Cur) p4366 c4367 (h4368.mem0 M4382) b4380 (M4382.hasPick [1]) (M4382.nodupPick [1] (by kernel_rfl)) (apartX.old0 h4368 M4382 [1]) hr4383).mono ?_
  rintro e_ w4389 ⟨p4385, c4386, sg4387, rfl, ho4388, K4390⟩
  have M4391 := M4382.callF' [1] [0] (by kernel_rfl) K4390
  refine ⟨_, rfl, ?_⟩
  refine W_run 1 [(2, .pointer (some ⟨b4375, 0, none⟩)), (9, .agg #[.slice p4385 r4383.1.Items.length c4386, .int .i64 r4383.1.Head, .int .i64 r4383.1.Tail]), (10, .pointer (some ⟨b4380, 0, none⟩))] w4389 (by kernel_rfl) ?_
  obtain ⟨r4392, hr4392, hm⟩ := gx_bind hm
  refine W_call 70 #[.pointer (some ⟨b4380, 0, none⟩)] (by kernel_rfl) (by kernel_rfl) ?_
  refine (c_s_l1Cur_word16 w4389 (⟨x4364, r4383.2.1, r4383.2.2⟩ : l1Cur) p4366 c4367 (h4368.mem0 M4391) b4380 (M4391.hasPick [1]) (M4391.nodupPick [1] (by kernel_rfl)) (apartX.old0 h4368 M4391 [1]) hr4392).mono ?_
  rintro e_ w4393 ⟨rfl, K4394⟩
  have M4395 := M4391.callF' [1] [0, 2] (by kernel_rfl) K4394
  refine ⟨_, rfl, ?_⟩
  refine W_store _ _ _ true 3 b4375 0 [.slice none 0 0, .int .i64 0, .int .i64 0] 27 (.agg #[.slice p4385 r4383.1.Items.length c4386, .int .i64 r4383.1.Head, .int .i64 r4383.1.Tail]) 0 [.slice p4385 r4383.1.Items.length c4386, .int .i64 r4383.1.Head, .int .i64 r4383.1.Tail] M4395 (by kernel_rfl) rfl (by kernel_rfl) (by kernel_rfl) (by kernel_rfl) (by kernel_rfl) (by kernel_rfl) (by kernel_rfl) (by kernel_rfl) (by kernel_rfl) ?_
  intro w4396 M4397
  refine W_run 1 [(2, .pointer (some ⟨b4375, 0, none⟩)), (3, .int .i64 r4392.1)] w4396 (by kernel_rfl) ?_
  refine W_nil ?_
  refine N_then ?_
  refine G_ret ?_
  obtain rfl := Option.some.inj hm
  refine N_ret [.agg #[.slice p4385 r4383.1.Items.length c4386, .int .i64 r4383.1.Head, .int .i64 r4383.1.Tail], .int .i64 r4392.1] (RVs_cons (RV_cell (g := true) (k := 3) (b := b4375) (off := 0) (cs := [.slice p4385 r4383.1.Items.length c4386, .int .i64 r4383.1.Head, .int .i64 r4383.1.Tail]) (e := 27) (fr := (0, 0)) (v := .agg #[.slice p4385 r4383.1.Items.length c4386, .int .i64 r4383.1.Head, .int .i64 r4383.1.Tail]) (M4397.blk 0 (b := b4375) (o := .cells ⟨[.slice p4385 r4383.1.Items.length c4386, .int .i64 r4383.1.Head, .int .i64 r4383.1.Tail]⟩ 27 (0, 0)) (by kernel_rfl)) (by kernel_rfl) (by kernel_rfl) (by kernel_rfl)) (RVs_cons (RV_tmp (by kernel_rfl)) RVs_nil)) ?_
  exact ⟨p4385, c4386, sg4387, rfl, ho4388, M4397.pick [1] (by kernel_rfl)⟩
theorem c_i_PutWords_1 (w : World) (x4480 : Int) {r : Bool} (hm : M.i_PutWords_1 x4480 = some r) :
    Calls Try.prog 69 #[.int .i64 x4480] w fun e w' => e = .returned (.bool r) ∧ Mem [] w w' [] := by
  unfold M.i_PutWords_1 at hm
  refine C_enter Try.func69 rfl (by kernel_rfl) ?_
  have M0 := Mem.refl [] w
  refine G_seq ?_
  refine G_region ?_
  refine W_run 1 [(0, .int .i64 x4480)] w (by kernel_rfl) ?_
  refine W_nil ?_
  refine N_then ?_
  refine G_seq ?_
  refine G_region ?_
  refine W_run 1 [(3, .int .i64 x4480)] w (by kernel_rfl) ?_
  obtain ⟨r4481, hr4481, hm⟩ := gx_bind hm
  refine W_call 53 #[.int .i64 x4480] (by kernel_rfl) (by kernel_rfl) ?_
  refine (c_i_isWord16 w x4480 hr4481).mono ?_
  rintro e_ w4482 ⟨rfl, K4483⟩
  have M4484 := M0.call0 K4483
  refine ⟨_, rfl, ?_⟩
  refine W_run 2 [(2, .bool (!r4481))] w4482 (by kernel_rfl) ?_
  refine W_nil ?_
  refine N_then ?_
  refine G_ret ?_
  obtain rfl := Option.some.inj hm
  refine N_ret [.bool (!r4481)] (RVs_cons (RV_tmp (by kernel_rfl)) RVs_nil) ?_
  exact ⟨rfl, M4484.pick [] (by kernel_rfl)⟩
theorem c_slices_IndexFunc_79__i_PutWords_1 (w : World) (x4473 : List Int) (p4475 : Option Addr) (c4476 : Nat) (h4477 : rdS encI w x4473 p4475 c4476) {r : Int} (hm : M.slices_IndexFunc_79__i_PutWords_1 x4473 = some r) :
    Calls Try.prog 79 #[.slice p4475 x4473.length c4476, .func (.func 69) #[] #[]] w fun e w' => e = .returned (.int .i64 r) ∧ Mem [] w w' [] := by
  unfold M.slices_IndexFunc_79__i_PutWords_1 at hm
  refine C_enter Try.func79 rfl (by kernel_rfl) ?_
  have M0 := Mem.refl [] w
  refine G_seq ?_
  refine G_region ?_
  refine W_run 1 [(0, .slice p4475 x4473.length c4476), (1, .func (.func 69) #[] #[])] w (by kernel_rfl) ?_
  refine W_nil ?_
  refine N_then ?_
  refine G_seq ?_
  refine G_seq ?_
  refine G_region ?_
  refine W_run 3 [(0, .slice p4475 x4473.length c4476), (1, .func (.func 69) #[] #[]), (7, .int .i64 (x4473.length : Int)), (8, .int .i64 0)] w (by kernel_rfl) ?_
  refine W_nil ?_
  refine N_then ?_
  obtain ⟨out4504, hw4505, hmo4506⟩ := gx_bind hm
  refine G_meet (fun a w' => ∃ (o4507 : Unit), out4504 = .inl o4507 ∧ Mem [] w w' [] ∧ Sat Try.f79.ntmps [] a) ?_ ?_
  · refine G_block ?_
    refine G_while (σ := Int) (ρ := (Unit) ⊕ (Int)) (fun s4497 a w' => Mem [] w w' [] ∧ Sat Try.f79.ntmps [(0, .slice p4475 x4473.length c4476), (1, .func (.func 69) #[] #[]), (7, .int .i64 (x4473.length : Int)), (8, .int .i64 s4497)] a) hw4505 (fun a ha => ⟨M0.pick [] (by kernel_rfl), ha.sub (by kernel_rfl)⟩) ?_
    clear hm
    intro s4497 x4498 hm hout4499 a4500 w4501 ⟨M4502, hS4503⟩
    refine G_use hS4503 ?_
    refine G_seq ?_
    refine G_region ?_
    refine W_run 1 [(0, .slice p4475 x4473.length c4476), (1, .func (.func 69) #[] #[]), (7, .int .i64 (x4473.length : Int)), (8, .int .i64 s4497), (9, .bool (decide (s4497 < (x4473.length : Int))))] w4501 (by kernel_rfl) ?_
    refine W_nil ?_
    refine N_then ?_
    refine G_seq ?_
    rcases gx_bif hm with ⟨hc4508, hm⟩ | ⟨hc4508, hm⟩
    · refine G_cond_t (b := (decide (s4497 < (x4473.length : Int)))) hc4508 (by kernel_rfl) ?_
      refine G_skip ?_
      refine N_then ?_
      refine G_seq ?_
      refine G_block ?_
      refine G_seq ?_
      refine G_region ?_
      refine W_run 2 [(0, .slice p4475 x4473.length c4476), (1, .func (.func 69) #[] #[]), (5, .int .i64 s4497), (7, .int .i64 (x4473.length : Int)), (8, .int .i64 s4497)] w4501 (by kernel_rfl) ?_
      refine W_nil ?_
      refine N_then ?_
      refine G_seq ?_
      refine G_region ?_
      refine W_run 3 [(0, .slice p4475 x4473.length c4476), (1, .func (.func 69) #[] #[]), (5, .int .i64 s4497), (7, .int .i64 (x4473.length : Int)), (8, .int .i64 s4497), (11, .func (.func 69) #[] #[]), (12, .slice p4475 x4473.length c4476), (13, .int .i64 s4497)] w4501 (by kernel_rfl) ?_
      obtain ⟨y4509, hy4509, hm⟩ := gx_bind hm
      refine W_val (elemP p4475 (s4497.toNat * 1)) w4501 (by kernel_rfl) (E_index (E := encI) _ _ _ x4473.length c4476 .i64 s4497 1 (y := y4509) rfl (by kernel_rfl) (by kernel_rfl) (by kernel_rfl) (h4477.mem0 M4502) rfl hy4509) ?_
      refine W_val (.int .i64 y4509) w4501 (by kernel_rfl) (E_loadE (E := encI) _ _ false 1 s4497 0 (s4497.toNat * 1) y4509 (.int .i64 y4509) rfl (by kernel_rfl) (by kernel_rfl) (by kernel_rfl) (h4477.mem0 M4502) hy4509 rfl) ?_
      obtain ⟨r4510, hr4510, hm⟩ := gx_bind hm
      refine W_call 69 #[.int .i64 y4509] (by kernel_rfl) (by kernel_rfl) ?_
      refine (c_i_PutWords_1 w4501 y4509 hr4510).mono ?_
      rintro e_ w4511 ⟨rfl, K4512⟩
      have M4513 := M4502.call0 K4512
      refine ⟨_, rfl, ?_⟩
      refine W_nil ?_
      refine N_then ?_
      rcases gx_bif hm with ⟨hc4514, hm⟩ | ⟨hc4514, hm⟩
      · refine G_cond_t (b := r4510) hc4514 (by kernel_rfl) ?_
        refine G_seq ?_
        refine G_region ?_
        refine W_run 2 [(4, .int .i64 s4497)] w4511 (by kernel_rfl) ?_
        refine W_nil ?_
        refine N_then ?_
        refine G_ret ?_
        refine N_block_ret ?_
        refine N_then_ret ?_
        refine N_then_ret ?_
        obtain rfl := Option.some.inj hm
        obtain rfl := hout4499 _ rfl
        have hm := hmo4506; simp only [Sum.elim_inr] at hm
        refine N_block_ret ?_
        refine N_meet_ret ?_
        refine N_then_ret ?_
        obtain rfl := Option.some.inj hm
        refine N_ret [.int .i64 s4497] (RVs_cons (RV_tmp (by kernel_rfl)) RVs_nil) ?_
        exact ⟨rfl, M4513.pick [] (by kernel_rfl)⟩
      · refine G_cond_f (b := r4510) hc4514 (by kernel_rfl) ?_
        refine G_skip ?_
        refine N_block ?_
        refine N_then ?_
        refine G_region ?_
        refine W_run 2 [(0, .slice p4475 x4473.length c4476), (1, .func (.func 69) #[] #[]), (7, .int .i64 (x4473.length : Int)), (8, .int .i64 (w64 (s4497 + 1)))] w4511 (by kernel_rfl) ?_
        refine W_nil ?_
        obtain rfl := Option.some.inj hm
        exact N_loop fun a ha => ⟨_, rfl, M4513.pick [] (by kernel_rfl), ha.sub (by kernel_rfl)⟩
    · refine G_cond_f (b := (decide (s4497 < (x4473.length : Int)))) hc4508 (by kernel_rfl) ?_
      refine G_exit ?_
      refine N_then_exit ?_
      refine N_then_exit ?_
      refine N_block_eq ?_
      obtain rfl := Option.some.inj hm
      obtain rfl := hout4499 _ rfl
      exact N_meet fun a ha => ⟨_, rfl, M4502.pick [] (by kernel_rfl), ha.sub (by kernel_rfl)⟩
  · intro a4515 w4516 ⟨o4507, hout_, M4517, hS4518⟩
    refine N_use hS4518 ?_
    subst hout_
    have hm := hmo4506; simp only [Sum.elim_inl] at hm
    refine N_then ?_
    refine G_seq ?_
    refine G_region ?_
    refine W_run 1 [(4, .int .i64 (-1))] w4516 (by kernel_rfl) ?_
    refine W_nil ?_
    refine N_then ?_
    refine G_ret ?_
    obtain rfl := Option.some.inj hm
    refine N_ret [.int .i64 (-1)] (RVs_cons (RV_tmp (by kernel_rfl)) RVs_nil) ?_
    exact ⟨rfl, M4517.pick [] (by kernel_rfl)⟩
theorem c_slices_ContainsFunc_68__i_PutWords_1 (w : World) (x4468 : List Int) (p4470 : Option Addr) (c4471 : Nat) (h4472 : rdS encI w x4468 p4470 c4471) {r : Bool} (hm : M.slices_ContainsFunc_68__i_PutWords_1 x4468 = some r) :
    Calls Try.prog 68 #[.slice p4470 x4468.length c4471, .func (.func 69) #[] #[]] w fun e w' => e = .returned (.bool r) ∧ Mem [] w w' [] := by
  unfold M.slices_ContainsFunc_68__i_PutWords_1 at hm
  refine C_enter Try.func68 rfl (by kernel_rfl) ?_
  have M0 := Mem.refl [] w
  refine G_seq ?_
  refine G_region ?_
  refine W_run 1 [(0, .slice p4470 x4468.length c4471), (1, .func (.func 69) #[] #[])] w (by kernel_rfl) ?_
  refine W_nil ?_
  refine N_then ?_
  refine G_seq ?_
  refine G_region ?_
  refine W_run 2 [(5, .slice p4470 x4468.length c4471), (6, .func (.func 69) #[] #[])] w (by kernel_rfl) ?_
  obtain ⟨r4519, hr4519, hm⟩ := gx_bind hm
  refine W_call 79 #[.slice p4470 x4468.length c4471, .func (.func 69) #[] #[]] (by kernel_rfl) (by kernel_rfl) ?_
  refine (c_slices_IndexFunc_79__i_PutWords_1 w x4468 p4470 c4471 (h4472.mem0 M0) hr4519).mono ?_
  rintro e_ w4520 ⟨rfl, K4521⟩
  have M4522 := M0.call0 K4521
  refine ⟨_, rfl, ?_⟩
  refine W_run 2 [(4, .bool (decide (r4519 ≥ 0)))] w4520 (by kernel_rfl) ?_
  refine W_nil ?_
  refine N_then ?_
  refine G_ret ?_
  obtain rfl := Option.some.inj hm
  refine N_ret [.bool (decide (r4519 ≥ 0))] (RVs_cons (RV_tmp (by kernel_rfl)) RVs_nil) ?_
  exact ⟨rfl, M4522.pick [] (by kernel_rfl)⟩
end Go.Proofs.Ytopnablbecepjaa
