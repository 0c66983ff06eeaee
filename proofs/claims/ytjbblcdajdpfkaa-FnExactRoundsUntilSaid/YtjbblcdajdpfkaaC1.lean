/- The walks, printed by program: whenever the model gives r, the call returns r. Part 1. -/
import Derived.Test.YtjbblcdajdpfkaaM
import Derived.Test.YtjbblcdajdpfkaaProg
set_option linter.unusedVariables false
set_option maxRecDepth 100000
set_option maxHeartbeats 4000000
namespace Go.Proofs.Ytjbblcdajdpfkaa
open Go.Gx
theorem c_l_szIntS (w : World) (x36 : List Int) (p38 : Option Addr) (c39 : Nat) (h40 : rdS encI w x36 p38 c39) (x41 : Int) {r : Int} (hm : M.l_szIntS x36 x41 = some r) :
    Calls Try.prog 54 #[.slice p38 x36.length c39, .int .i64 x41] w fun e w' => e = .returned (.int .i64 r) ∧ Mem [] w w' [] := by
  unfold M.l_szIntS at hm
  refine C_enter Try.func54 rfl (by kernel_rfl) ?_
  have M0 := Mem.refl [] w
  refine G_seq ?_
  refine G_region ?_
  refine W_run 1 [(0, .slice p38 x36.length c39), (1, .int .i64 x41)] w (by kernel_rfl) ?_
  refine W_nil ?_
  refine N_then ?_
  refine G_seq ?_
  refine G_region ?_
  refine W_run 5 [(1, .int .i64 (w64 (x41 - (x36.length : Int))))] w (by kernel_rfl) ?_
  refine W_nil ?_
  refine N_then ?_
  refine G_seq ?_
  refine G_seq ?_
  refine G_region ?_
  refine W_run 2 [(1, .int .i64 (w64 (x41 - (x36.length : Int)))), (10, .bool (decide ((w64 (x41 - (x36.length : Int))) < 0)))] w (by kernel_rfl) ?_
  refine W_nil ?_
  refine N_then ?_
  rcases gx_bif hm with ⟨hc42, hm⟩ | ⟨hc42, hm⟩
  · refine G_cond_t (b := (decide ((w64 (x41 - (x36.length : Int))) < 0))) hc42 (by kernel_rfl) ?_
    refine G_seq ?_
    refine G_region ?_
    refine W_run 1 [(4, .int .i64 (-1))] w (by kernel_rfl) ?_
    refine W_nil ?_
    refine N_then ?_
    refine G_ret ?_
    refine N_then_ret ?_
    obtain rfl := Option.some.inj hm
    refine N_ret [.int .i64 (-1)] (RVs_cons (RV_tmp (by kernel_rfl)) RVs_nil) ?_
    exact ⟨rfl, M0.pick [] (by kernel_rfl)⟩
  · refine G_cond_f (b := (decide ((w64 (x41 - (x36.length : Int))) < 0))) hc42 (by kernel_rfl) ?_
    refine G_skip ?_
    refine N_then ?_
    refine G_seq ?_
    refine G_region ?_
    refine W_run 2 [(4, .int .i64 (w64 (x41 - (x36.length : Int))))] w (by kernel_rfl) ?_
    refine W_nil ?_
    refine N_then ?_
    refine G_ret ?_
    obtain rfl := Option.some.inj hm
    refine N_ret [.int .i64 (w64 (x41 - (x36.length : Int)))] (RVs_cons (RV_tmp (by kernel_rfl)) RVs_nil) ?_
    exact ⟨rfl, M0.pick [] (by kernel_rfl)⟩
theorem c_l_szBoolS (w : World) (x53 : List Bool) (p55 : Option Addr) (c56 : Nat) (h57 : rdS encB w x53 p55 c56) (x58 : Int) {r : Int} (hm : M.l_szBoolS x53 x58 = some r) :
    Calls Try.prog 55 #[.slice p55 x53.length c56, .int .i64 x58] w fun e w' => e = .returned (.int .i64 r) ∧ Mem [] w w' [] := by
  unfold M.l_szBoolS at hm
  refine C_enter Try.func55 rfl (by kernel_rfl) ?_
  have M0 := Mem.refl [] w
  refine G_seq ?_
  refine G_region ?_
  refine W_run 1 [(0, .slice p55 x53.length c56), (1, .int .i64 x58)] w (by kernel_rfl) ?_
  refine W_nil ?_
  refine N_then ?_
  refine G_seq ?_
  refine G_region ?_
  refine W_run 5 [(1, .int .i64 (w64 (x58 - (x53.length : Int))))] w (by kernel_rfl) ?_
  refine W_nil ?_
  refine N_then ?_
  refine G_seq ?_
  refine G_seq ?_
  refine G_region ?_
  refine W_run 2 [(1, .int .i64 (w64 (x58 - (x53.length : Int)))), (10, .bool (decide ((w64 (x58 - (x53.length : Int))) < 0)))] w (by kernel_rfl) ?_
  refine W_nil ?_
  refine N_then ?_
  rcases gx_bif hm with ⟨hc59, hm⟩ | ⟨hc59, hm⟩
  · refine G_cond_t (b := (decide ((w64 (x58 - (x53.length : Int))) < 0))) hc59 (by kernel_rfl) ?_
    refine G_seq ?_
    refine G_region ?_
    refine W_run 1 [(4, .int .i64 (-1))] w (by kernel_rfl) ?_
    refine W_nil ?_
    refine N_then ?_
    refine G_ret ?_
    refine N_then_ret ?_
    obtain rfl := Option.some.inj hm
    refine N_ret [.int .i64 (-1)] (RVs_cons (RV_tmp (by kernel_rfl)) RVs_nil) ?_
    exact ⟨rfl, M0.pick [] (by kernel_rfl)⟩
  · refine G_cond_f (b := (decide ((w64 (x58 - (x53.length : Int))) < 0))) hc59 (by kernel_rfl) ?_
    refine G_skip ?_
    refine N_then ?_
    refine G_seq ?_
    refine G_region ?_
    refine W_run 2 [(4, .int .i64 (w64 (x58 - (x53.length : Int))))] w (by kernel_rfl) ?_
    refine W_nil ?_
    refine N_then ?_
    refine G_ret ?_
    obtain rfl := Option.some.inj hm
    refine N_ret [.int .i64 (w64 (x58 - (x53.length : Int)))] (RVs_cons (RV_tmp (by kernel_rfl)) RVs_nil) ?_
    exact ⟨rfl, M0.pick [] (by kernel_rfl)⟩
theorem c_l_szCopying (w : World) (x18 : Copying) (p20 : Option Addr) (c21 : Nat) (h22 : rdS encI w x18.Memory p20 c21) (p24 : Option Addr) (c25 : Nat) (h26 : rdS encI w x18.Copy p24 c25) (p28 : Option Addr) (c29 : Nat) (h30 : rdS encB w x18.Dirty p28 c29) (x31 : Int) {r : Int} (hm : M.l_szCopying x18 x31 = some r) :
    Calls Try.prog 13 #[.agg #[.slice p20 x18.Memory.length c21, .slice p24 x18.Copy.length c25, .slice p28 x18.Dirty.length c29], .int .i64 x31] w fun e w' => e = .returned (.int .i64 r) ∧ Mem [] w w' [] := by
  unfold M.l_szCopying at hm
  refine C_enter Try.func13 rfl (by kernel_rfl) ?_
  have M0 := Mem.refl [] w
  refine G_seq ?_
  refine G_region ?_
  refine W_new (fun b => .pointer (some ⟨b, 0, none⟩)) (.cells ⟨[.slice p20 x18.Memory.length c21, .slice p24 x18.Copy.length c25, .slice p28 x18.Dirty.length c29]⟩ 25 (0, 0)) M0 rfl (by kernel_rfl) (by kernel_rfl) ?_
  intro b33 w34 M35
  refine W_run 1 [(1, .int .i64 x31), (2, .pointer (some ⟨b33, 0, none⟩))] w34 (by kernel_rfl) ?_
  refine W_nil ?_
  refine N_then ?_
  refine G_seq ?_
  refine G_region ?_
  refine W_run 1 [(1, .int .i64 x31), (2, .pointer (some ⟨b33, 0, none⟩)), (5, .pointer (some ⟨b33, 0, none⟩))] w34 (by kernel_rfl) ?_
  refine W_val (.slice p20 x18.Memory.length c21) w34 (by kernel_rfl) (E_load (e := 25) (fr := (0, 0)) _ _ false 1 b33 0 [.slice p20 x18.Memory.length c21, .slice p24 x18.Copy.length c25, .slice p28 x18.Dirty.length c29] (.slice p20 x18.Memory.length c21) rfl (by kernel_rfl) (by kernel_rfl) (by kernel_rfl) (M35.blk 0 (b := b33) (o := .cells ⟨[.slice p20 x18.Memory.length c21, .slice p24 x18.Copy.length c25, .slice p28 x18.Dirty.length c29]⟩ 25 (0, 0)) (by kernel_rfl))) ?_
  refine W_run 1 [(1, .int .i64 x31), (2, .pointer (some ⟨b33, 0, none⟩)), (6, .slice p20 x18.Memory.length c21), (7, .int .i64 x31)] w34 (by kernel_rfl) ?_
  obtain ⟨r43, hr43, hm⟩ := gx_bind hm
  refine W_call 54 #[.slice p20 x18.Memory.length c21, .int .i64 x31] (by kernel_rfl) (by kernel_rfl) ?_
  refine (c_l_szIntS w34 x18.Memory p20 c21 (h22.mem0 M35) x31 hr43).mono ?_
  rintro e_ w44 ⟨rfl, K45⟩
  have M46 := M35.call0 K45
  refine ⟨_, rfl, ?_⟩
  refine W_run 1 [(1, .int .i64 r43), (2, .pointer (some ⟨b33, 0, none⟩))] w44 (by kernel_rfl) ?_
  refine W_nil ?_
  refine N_then ?_
  refine G_seq ?_
  refine G_seq ?_
  refine G_region ?_
  refine W_run 2 [(1, .int .i64 r43), (2, .pointer (some ⟨b33, 0, none⟩)), (10, .bool (decide (r43 < 0)))] w44 (by kernel_rfl) ?_
  refine W_nil ?_
  refine N_then ?_
  rcases gx_bif hm with ⟨hc47, hm⟩ | ⟨hc47, hm⟩
  · refine G_cond_t (b := (decide (r43 < 0))) hc47 (by kernel_rfl) ?_
    refine G_seq ?_
    refine G_region ?_
    refine W_run 1 [(4, .int .i64 (-1))] w44 (by kernel_rfl) ?_
    refine W_nil ?_
    refine N_then ?_
    refine G_ret ?_
    refine N_then_ret ?_
    obtain rfl := Option.some.inj hm
    refine N_ret [.int .i64 (-1)] (RVs_cons (RV_tmp (by kernel_rfl)) RVs_nil) ?_
    exact ⟨rfl, M46.pick [] (by kernel_rfl)⟩
  · refine G_cond_f (b := (decide (r43 < 0))) hc47 (by kernel_rfl) ?_
    refine G_skip ?_
    refine N_then ?_
    refine G_seq ?_
    refine G_region ?_
    refine W_run 1 [(1, .int .i64 r43), (2, .pointer (some ⟨b33, 0, none⟩)), (11, .pointer (some ⟨b33, 1, none⟩))] w44 (by kernel_rfl) ?_
    refine W_val (.slice p24 x18.Copy.length c25) w44 (by kernel_rfl) (E_load (e := 25) (fr := (0, 0)) _ _ false 1 b33 1 [.slice p20 x18.Memory.length c21, .slice p24 x18.Copy.length c25, .slice p28 x18.Dirty.length c29] (.slice p24 x18.Copy.length c25) rfl (by kernel_rfl) (by kernel_rfl) (by kernel_rfl) (M46.blk 0 (b := b33) (o := .cells ⟨[.slice p20 x18.Memory.length c21, .slice p24 x18.Copy.length c25, .slice p28 x18.Dirty.length c29]⟩ 25 (0, 0)) (by kernel_rfl))) ?_
    refine W_run 1 [(1, .int .i64 r43), (2, .pointer (some ⟨b33, 0, none⟩)), (12, .slice p24 x18.Copy.length c25), (13, .int .i64 r43)] w44 (by kernel_rfl) ?_
    obtain ⟨r48, hr48, hm⟩ := gx_bind hm
    refine W_call 54 #[.slice p24 x18.Copy.length c25, .int .i64 r43] (by kernel_rfl) (by kernel_rfl) ?_
    refine (c_l_szIntS w44 x18.Copy p24 c25 (h26.mem0 M46) r43 hr48).mono ?_
    rintro e_ w49 ⟨rfl, K50⟩
    have M51 := M46.call0 K50
    refine ⟨_, rfl, ?_⟩
    refine W_run 1 [(1, .int .i64 r48), (2, .pointer (some ⟨b33, 0, none⟩))] w49 (by kernel_rfl) ?_
    refine W_nil ?_
    refine N_then ?_
    refine G_seq ?_
    refine G_seq ?_
    refine G_region ?_
    refine W_run 2 [(1, .int .i64 r48), (2, .pointer (some ⟨b33, 0, none⟩)), (16, .bool (decide (r48 < 0)))] w49 (by kernel_rfl) ?_
    refine W_nil ?_
    refine N_then ?_
    rcases gx_bif hm with ⟨hc52, hm⟩ | ⟨hc52, hm⟩
    · refine G_cond_t (b := (decide (r48 < 0))) hc52 (by kernel_rfl) ?_
      refine G_seq ?_
      refine G_region ?_
      refine W_run 1 [(4, .int .i64 (-1))] w49 (by kernel_rfl) ?_
      refine W_nil ?_
      refine N_then ?_
      refine G_ret ?_
      refine N_then_ret ?_
      obtain rfl := Option.some.inj hm
      refine N_ret [.int .i64 (-1)] (RVs_cons (RV_tmp (by kernel_rfl)) RVs_nil) ?_
      exact ⟨rfl, M51.pick [] (by kernel_rfl)⟩
    · refine G_cond_f (b := (decide (r48 < 0))) hc52 (by kernel_rfl) ?_
      refine G_skip ?_
      refine N_then ?_
      refine G_seq ?_
      refine G_region ?_
      refine W_run 1 [(1, .int .i64 r48), (17, .pointer (some ⟨b33, 2, none⟩))] w49 (by kernel_rfl) ?_
      refine W_val (.slice p28 x18.Dirty.length c29) w49 (by kernel_rfl) (E_load (e := 25) (fr := (0, 0)) _ _ false 1 b33 2 [.slice p20 x18.Memory.length c21, .slice p24 x18.Copy.length c25, .slice p28 x18.Dirty.length c29] (.slice p28 x18.Dirty.length c29) rfl (by kernel_rfl) (by kernel_rfl) (by kernel_rfl) (M51.blk 0 (b := b33) (o := .cells ⟨[.slice p20 x18.Memory.length c21, .slice p24 x18.Copy.length c25, .slice p28 x18.Dirty.length c29]⟩ 25 (0, 0)) (by kernel_rfl))) ?_
      refine W_run 1 [(1, .int .i64 r48), (18, .slice p28 x18.Dirty.length c29), (19, .int .i64 r48)] w49 (by kernel_rfl) ?_
      obtain ⟨r60, hr60, hm⟩ := gx_bind hm
      refine W_call 55 #[.slice p28 x18.Dirty.length c29, .int .i64 r48] (by kernel_rfl) (by kernel_rfl) ?_
      refine (c_l_szBoolS w49 x18.Dirty p28 c29 (h30.mem0 M51) r48 hr60).mono ?_
      rintro e_ w61 ⟨rfl, K62⟩
      have M63 := M51.call0 K62
      refine ⟨_, rfl, ?_⟩
      refine W_run 1 [(1, .int .i64 r60)] w61 (by kernel_rfl) ?_
      refine W_nil ?_
      refine N_then ?_
      refine G_seq ?_
      refine G_seq ?_
      refine G_region ?_
      refine W_run 2 [(1, .int .i64 r60), (22, .bool (decide (r60 < 0)))] w61 (by kernel_rfl) ?_
      refine W_nil ?_
      refine N_then ?_
      rcases gx_bif hm with ⟨hc64, hm⟩ | ⟨hc64, hm⟩
      · refine G_cond_t (b := (decide (r60 < 0))) hc64 (by kernel_rfl) ?_
        refine G_seq ?_
        refine G_region ?_
        refine W_run 1 [(4, .int .i64 (-1))] w61 (by kernel_rfl) ?_
        refine W_nil ?_
        refine N_then ?_
        refine G_ret ?_
        refine N_then_ret ?_
        obtain rfl := Option.some.inj hm
        refine N_ret [.int .i64 (-1)] (RVs_cons (RV_tmp (by kernel_rfl)) RVs_nil) ?_
        exact ⟨rfl, M63.pick [] (by kernel_rfl)⟩
      · refine G_cond_f (b := (decide (r60 < 0))) hc64 (by kernel_rfl) ?_
        refine G_skip ?_
        refine N_then ?_
        refine G_seq ?_
        refine G_region ?_
        refine W_run 2 [(4, .int .i64 r60)] w61 (by kernel_rfl) ?_
        refine W_nil ?_
        refine N_then ?_
        refine G_ret ?_
        obtain rfl := Option.some.inj hm
        refine N_ret [.int .i64 r60] (RVs_cons (RV_tmp (by kernel_rfl)) RVs_nil) ?_
        exact ⟨rfl, M63.pick [] (by kernel_rfl)⟩
theorem c_l_toIntS (w : World) (x113 : List Int) (p115 : Option Addr) (c116 : Nat) (h117 : rdS encI w x113 p115 c116) {r : (List Int)} (hm : M.l_toIntS x113 = some r) :
    Calls Try.prog 19 #[.slice p115 x113.length c116] w fun e w' => ∃ (p119 : Option Addr) (c120 : Nat) (sg121 : Seg), e = .returned (.slice p119 r.length c120) ∧ ownS encI r p119 c120 sg121 ∧ Mem [] w w' [sg121] := by
  unfold M.l_toIntS at hm
  refine C_enter Try.func19 rfl (by kernel_rfl) ?_
  have M0 := Mem.refl [] w
  refine G_seq ?_
  refine G_region ?_
  refine W_run 1 [(0, .slice p115 x113.length c116)] w (by kernel_rfl) ?_
  refine W_nil ?_
  refine N_then ?_
  refine G_seq ?_
  refine G_region ?_
  refine W_run 2 [(0, .slice p115 x113.length c116), (6, .int .i64 (x113.length : Int))] w (by kernel_rfl) ?_
  obtain ⟨mk123, hmk123, hm⟩ := gx_bind hm
  refine W_make (E := encI) _ _ _ (x113.length : Int) 8 [.int .i64 0] (0 : Int) M0 (by kernel_rfl) rfl (by kernel_rfl) (by kernel_rfl) (by kernel_rfl) (by kernel_rfl) (by kernel_rfl) hmk123 ?_
  intro p124 c125 sg126 w127 ho128 M129
  refine W_run 1 [(0, .slice p115 x113.length c116), (3, .slice p124 mk123.length c125)] w127 (by kernel_rfl) ?_
  refine W_nil ?_
  refine N_then ?_
  refine G_seq ?_
  refine G_seq ?_
  refine G_region ?_
  refine W_run 1 [(0, .slice p115 x113.length c116), (3, .slice p124 mk123.length c125), (4, .int .i64 0)] w127 (by kernel_rfl) ?_
  refine W_nil ?_
  refine N_then ?_
  obtain ⟨out154, hw155, hmo156⟩ := gx_bind hm
  refine G_meet (fun a w' => ∃ (sg160 : Seg), ownS encI out154 p124 c125 sg160 ∧ Mem [] w w' [sg160] ∧ Sat Try.f19.ntmps [(3, .slice p124 out154.length c125)] a) ?_ ?_
  · refine G_block ?_
    refine G_while (σ := Int × List Int) (ρ := List Int) (fun s147 a w' => ∃ (sg157 : Seg), ownS encI s147.2 p124 c125 sg157 ∧ Mem [] w w' [sg157] ∧ Sat Try.f19.ntmps [(0, .slice p115 x113.length c116), (3, .slice p124 s147.2.length c125), (4, .int .i64 s147.1)] a) hw155 (fun a ha => ⟨sg126, ho128, M129.pick [0] (by kernel_rfl), ha.sub (by kernel_rfl)⟩) ?_
    clear hm
    intro s147 x148 hm hout149 a150 w151 ⟨sg157, ho158, M152, hS153⟩
    refine G_use hS153 ?_
    refine G_seq ?_
    refine G_seq ?_
    refine G_region ?_
    refine W_run 4 [(0, .slice p115 x113.length c116), (3, .slice p124 s147.2.length c125), (4, .int .i64 s147.1), (11, .bool (decide (s147.1 < (x113.length : Int))))] w151 (by kernel_rfl) ?_
    refine W_nil ?_
    refine N_then ?_
    rcases gx_bif hm with ⟨hc162, hm⟩ | ⟨hc162, hm⟩
    · refine G_cond_t (b := (decide (s147.1 < (x113.length : Int)))) hc162 (by kernel_rfl) ?_
      refine G_skip ?_
      refine N_then ?_
      refine G_seq ?_
      refine G_block ?_
      refine G_region ?_
      refine W_run 4 [(0, .slice p115 x113.length c116), (3, .slice p124 s147.2.length c125), (4, .int .i64 s147.1), (14, .slice p124 s147.2.length c125), (15, .int .i64 s147.1), (16, .slice p115 x113.length c116), (17, .int .i64 s147.1)] w151 (by kernel_rfl) ?_
      obtain ⟨y163, hy163, hm⟩ := gx_bind hm
      refine W_val (elemP p115 (s147.1.toNat * 1)) w151 (by kernel_rfl) (E_index (E := encI) _ _ _ x113.length c116 .i64 s147.1 1 (y := y163) rfl (by kernel_rfl) (by kernel_rfl) (by kernel_rfl) (h117.mem0 M152) rfl hy163) ?_
      refine W_val (.int .i64 y163) w151 (by kernel_rfl) (E_loadE (E := encI) _ _ false 1 s147.1 0 (s147.1.toNat * 1) y163 (.int .i64 y163) rfl (by kernel_rfl) (by kernel_rfl) (by kernel_rfl) (h117.mem0 M152) hy163 rfl) ?_
      obtain ⟨y164, hy164, hm⟩ := gx_bind hm
      refine W_val (elemP p124 (s147.1.toNat * 1)) w151 (by kernel_rfl) (E_index (E := encI) _ _ _ s147.2.length c125 .i64 s147.1 1 (y := y164) rfl (by kernel_rfl) (by kernel_rfl) (by kernel_rfl) (ho158.rd M152 0 (by kernel_rfl)) rfl hy164) ?_
      refine W_storeE (E := encI) _ _ _ false 1 s147.1.toNat 0 (s147.1.toNat * 1) y164 y163 (.int .i64 y163) 0 M152 ho158 (by kernel_rfl) (by kernel_rfl) rfl (by kernel_rfl) (by kernel_rfl) (by kernel_rfl) (by kernel_rfl) (by kernel_rfl) (by kernel_rfl) (by kernel_rfl) (gxIdx_spec hy164).2 rfl ?_
      intro w165 sg167 ho168 M166
      refine W_conv 3 (.slice p124 s147.2.length c125) (.slice p124 (s147.2.set s147.1.toNat y163).length c125) (by kernel_rfl) (by rw [@List.length_set _ s147.2 s147.1.toNat y163]) ?_
      refine W_conv 14 (.slice p124 s147.2.length c125) (.slice p124 (s147.2.set s147.1.toNat y163).length c125) (by kernel_rfl) (by rw [@List.length_set _ s147.2 s147.1.toNat y163]) ?_
      refine W_nil ?_
      refine N_block ?_
      refine N_then ?_
      refine G_region ?_
      refine W_run 3 [(0, .slice p115 x113.length c116), (3, .slice p124 (s147.2.set s147.1.toNat y163).length c125), (4, .int .i64 (w64 (s147.1 + 1)))] w165 (by kernel_rfl) ?_
      refine W_nil ?_
      obtain rfl := Option.some.inj hm
      exact N_loop fun a ha => ⟨_, rfl, sg167, ho168, M166.pick [0] (by kernel_rfl), ha.sub (by kernel_rfl)⟩
    · refine G_cond_f (b := (decide (s147.1 < (x113.length : Int)))) hc162 (by kernel_rfl) ?_
      refine G_exit ?_
      refine N_then_exit ?_
      refine N_then_exit ?_
      refine N_block_eq ?_
      obtain rfl := Option.some.inj hm
      obtain rfl := hout149 _ rfl
      exact N_meet fun a ha => ⟨sg157, ho158, M152.pick [0] (by kernel_rfl), ha.sub (by kernel_rfl)⟩
  · intro a169 w170 ⟨sg160, ho161, M171, hS172⟩
    refine N_use hS172 ?_
    have hm := hmo156
    refine N_then ?_
    refine G_seq ?_
    refine G_region ?_
    refine W_run 2 [(2, .slice p124 out154.length c125)] w170 (by kernel_rfl) ?_
    refine W_nil ?_
    refine N_then ?_
    refine G_ret ?_
    obtain rfl := Option.some.inj hm
    refine N_ret [.slice p124 out154.length c125] (RVs_cons (RV_tmp (by kernel_rfl)) RVs_nil) ?_
    exact ⟨p124, c125, sg160, rfl, ho161, M171.pick [0] (by kernel_rfl)⟩
theorem c_l_toBoolS (w : World) (x195 : List Bool) (p197 : Option Addr) (c198 : Nat) (h199 : rdS encB w x195 p197 c198) {r : (List Bool)} (hm : M.l_toBoolS x195 = some r) :
    Calls Try.prog 57 #[.slice p197 x195.length c198] w fun e w' => ∃ (p201 : Option Addr) (c202 : Nat) (sg203 : Seg), e = .returned (.slice p201 r.length c202) ∧ ownS encB r p201 c202 sg203 ∧ Mem [] w w' [sg203] := by
  unfold M.l_toBoolS at hm
  refine C_enter Try.func57 rfl (by kernel_rfl) ?_
  have M0 := Mem.refl [] w
  refine G_seq ?_
  refine G_region ?_
  refine W_run 1 [(0, .slice p197 x195.length c198)] w (by kernel_rfl) ?_
  refine W_nil ?_
  refine N_then ?_
  refine G_seq ?_
  refine G_region ?_
  refine W_run 2 [(0, .slice p197 x195.length c198), (6, .int .i64 (x195.length : Int))] w (by kernel_rfl) ?_
  obtain ⟨mk205, hmk205, hm⟩ := gx_bind hm
  refine W_make (E := encB) _ _ _ (x195.length : Int) 1 [.bool false] (false : Bool) M0 (by kernel_rfl) rfl (by kernel_rfl) (by kernel_rfl) (by kernel_rfl) (by kernel_rfl) (by kernel_rfl) hmk205 ?_
  intro p206 c207 sg208 w209 ho210 M211
  refine W_run 1 [(0, .slice p197 x195.length c198), (3, .slice p206 mk205.length c207)] w209 (by kernel_rfl) ?_
  refine W_nil ?_
  refine N_then ?_
  refine G_seq ?_
  refine G_seq ?_
  refine G_region ?_
  refine W_run 1 [(0, .slice p197 x195.length c198), (3, .slice p206 mk205.length c207), (4, .int .i64 0)] w209 (by kernel_rfl) ?_
  refine W_nil ?_
  refine N_then ?_
  obtain ⟨out236, hw237, hmo238⟩ := gx_bind hm
  refine G_meet (fun a w' => ∃ (sg242 : Seg), ownS encB out236 p206 c207 sg242 ∧ Mem [] w w' [sg242] ∧ Sat Try.f57.ntmps [(3, .slice p206 out236.length c207)] a) ?_ ?_
  · refine G_block ?_
    refine G_while (σ := Int × List Bool) (ρ := List Bool) (fun s229 a w' => ∃ (sg239 : Seg), ownS encB s229.2 p206 c207 sg239 ∧ Mem [] w w' [sg239] ∧ Sat Try.f57.ntmps [(0, .slice p197 x195.length c198), (3, .slice p206 s229.2.length c207), (4, .int .i64 s229.1)] a) hw237 (fun a ha => ⟨sg208, ho210, M211.pick [0] (by kernel_rfl), ha.sub (by kernel_rfl)⟩) ?_
    clear hm
    intro s229 x230 hm hout231 a232 w233 ⟨sg239, ho240, M234, hS235⟩
    refine G_use hS235 ?_
    refine G_seq ?_
    refine G_seq ?_
    refine G_region ?_
    refine W_run 4 [(0, .slice p197 x195.length c198), (3, .slice p206 s229.2.length c207), (4, .int .i64 s229.1), (11, .bool (decide (s229.1 < (x195.length : Int))))] w233 (by kernel_rfl) ?_
    refine W_nil ?_
    refine N_then ?_
    rcases gx_bif hm with ⟨hc244, hm⟩ | ⟨hc244, hm⟩
    · refine G_cond_t (b := (decide (s229.1 < (x195.length : Int)))) hc244 (by kernel_rfl) ?_
      refine G_skip ?_
      refine N_then ?_
      refine G_seq ?_
      refine G_block ?_
      refine G_region ?_
      refine W_run 4 [(0, .slice p197 x195.length c198), (3, .slice p206 s229.2.length c207), (4, .int .i64 s229.1), (14, .slice p206 s229.2.length c207), (15, .int .i64 s229.1), (16, .slice p197 x195.length c198), (17, .int .i64 s229.1)] w233 (by kernel_rfl) ?_
      obtain ⟨y245, hy245, hm⟩ := gx_bind hm
      refine W_val (elemP p197 (s229.1.toNat * 1)) w233 (by kernel_rfl) (E_index (E := encB) _ _ _ x195.length c198 .i64 s229.1 1 (y := y245) rfl (by kernel_rfl) (by kernel_rfl) (by kernel_rfl) (h199.mem0 M234) rfl hy245) ?_
      refine W_val (.bool y245) w233 (by kernel_rfl) (E_loadE (E := encB) _ _ false 1 s229.1 0 (s229.1.toNat * 1) y245 (.bool y245) rfl (by kernel_rfl) (by kernel_rfl) (by kernel_rfl) (h199.mem0 M234) hy245 rfl) ?_
      obtain ⟨y246, hy246, hm⟩ := gx_bind hm
      refine W_val (elemP p206 (s229.1.toNat * 1)) w233 (by kernel_rfl) (E_index (E := encB) _ _ _ s229.2.length c207 .i64 s229.1 1 (y := y246) rfl (by kernel_rfl) (by kernel_rfl) (by kernel_rfl) (ho240.rd M234 0 (by kernel_rfl)) rfl hy246) ?_
      refine W_storeE (E := encB) _ _ _ false 1 s229.1.toNat 0 (s229.1.toNat * 1) y246 y245 (.bool y245) 0 M234 ho240 (by kernel_rfl) (by kernel_rfl) rfl (by kernel_rfl) (by kernel_rfl) (by kernel_rfl) (by kernel_rfl) (by kernel_rfl) (by kernel_rfl) (by kernel_rfl) (gxIdx_spec hy246).2 rfl ?_
      intro w247 sg249 ho250 M248
      refine W_conv 3 (.slice p206 s229.2.length c207) (.slice p206 (s229.2.set s229.1.toNat y245).length c207) (by kernel_rfl) (by rw [@List.length_set _ s229.2 s229.1.toNat y245]) ?_
      refine W_conv 14 (.slice p206 s229.2.length c207) (.slice p206 (s229.2.set s229.1.toNat y245).length c207) (by kernel_rfl) (by rw [@List.length_set _ s229.2 s229.1.toNat y245]) ?_
      refine W_nil ?_
      refine N_block ?_
      refine N_then ?_
      refine G_region ?_
      refine W_run 3 [(0, .slice p197 x195.length c198), (3, .slice p206 (s229.2.set s229.1.toNat y245).length c207), (4, .int .i64 (w64 (s229.1 + 1)))] w247 (by kernel_rfl) ?_
      refine W_nil ?_
      obtain rfl := Option.some.inj hm
      exact N_loop fun a ha => ⟨_, rfl, sg249, ho250, M248.pick [0] (by kernel_rfl), ha.sub (by kernel_rfl)⟩
    · refine G_cond_f (b := (decide (s229.1 < (x195.length : Int)))) hc244 (by kernel_rfl) ?_
      refine G_exit ?_
      refine N_then_exit ?_
      refine N_then_exit ?_
      refine N_block_eq ?_
      obtain rfl := Option.some.inj hm
      obtain rfl := hout231 _ rfl
      exact N_meet fun a ha => ⟨sg239, ho240, M234.pick [0] (by kernel_rfl), ha.sub (by kernel_rfl)⟩
  · intro a251 w252 ⟨sg242, ho243, M253, hS254⟩
    refine N_use hS254 ?_
    have hm := hmo238
    refine N_then ?_
    refine G_seq ?_
    refine G_region ?_
    refine W_run 2 [(2, .slice p206 out236.length c207)] w252 (by kernel_rfl) ?_
    refine W_nil ?_
    refine N_then ?_
    refine G_ret ?_
    obtain rfl := Option.some.inj hm
    refine N_ret [.slice p206 out236.length c207] (RVs_cons (RV_tmp (by kernel_rfl)) RVs_nil) ?_
    exact ⟨p206, c207, sg242, rfl, ho243, M253.pick [0] (by kernel_rfl)⟩
theorem c_l_toCopying (w : World) (x70 : Copying) (p72 : Option Addr) (c73 : Nat) (h74 : rdS encI w x70.Memory p72 c73) (p76 : Option Addr) (c77 : Nat) (h78 : rdS encI w x70.Copy p76 c77) (p80 : Option Addr) (c81 : Nat) (h82 : rdS encB w x70.Dirty p80 c81) {r : Copying} (hm : M.l_toCopying x70 = some r) :
    Calls Try.prog 15 #[.agg #[.slice p72 x70.Memory.length c73, .slice p76 x70.Copy.length c77, .slice p80 x70.Dirty.length c81]] w fun e w' => ∃ (p84 : Option Addr) (c85 : Nat) (sg86 : Seg), ∃ (p88 : Option Addr) (c89 : Nat) (sg90 : Seg), ∃ (p92 : Option Addr) (c93 : Nat) (sg94 : Seg), e = .returned (.agg #[.slice p84 r.Memory.length c85, .slice p88 r.Copy.length c89, .slice p92 r.Dirty.length c93]) ∧ ownS encI r.Memory p84 c85 sg86 ∧ ownS encI r.Copy p88 c89 sg90 ∧ ownS encB r.Dirty p92 c93 sg94 ∧ Mem [] w w' [sg86, sg90, sg94] := by
  unfold M.l_toCopying at hm
  refine C_enter Try.func15 rfl (by kernel_rfl) ?_
  have M0 := Mem.refl [] w
  refine G_seq ?_
  refine G_region ?_
  refine W_new (fun b => .pointer (some ⟨b, 0, none⟩)) (.cells ⟨[.slice p72 x70.Memory.length c73, .slice p76 x70.Copy.length c77, .slice p80 x70.Dirty.length c81]⟩ 25 (0, 0)) M0 rfl (by kernel_rfl) (by kernel_rfl) ?_
  intro b96 w97 M98
  refine W_new (fun b => .pointer (some ⟨b, 0, none⟩)) (.cells ⟨[.slice none 0 0, .slice none 0 0, .slice none 0 0]⟩ 28 (0, 0)) M98 rfl (by kernel_rfl) (by kernel_rfl) ?_
  intro b103 w104 M105
  refine W_nil ?_
  refine N_then ?_
  refine G_seq ?_
  refine G_region ?_
  refine W_new (fun b => .pointer (some ⟨b, 0, none⟩)) (.cells ⟨[.slice none 0 0, .slice none 0 0, .slice none 0 0]⟩ 28 (0, 0)) M105 rfl (by kernel_rfl) (by kernel_rfl) ?_
  intro b110 w111 M112
  refine W_nil ?_
  refine N_then ?_
  refine G_seq ?_
  refine G_region ?_
  refine W_run 1 [(1, .pointer (some ⟨b96, 0, none⟩)), (2, .pointer (some ⟨b103, 0, none⟩)), (3, .pointer (some ⟨b110, 0, none⟩)), (4, .pointer (some ⟨b96, 0, none⟩))] w111 (by kernel_rfl) ?_
  refine W_val (.slice p72 x70.Memory.length c73) w111 (by kernel_rfl) (E_load (e := 25) (fr := (0, 0)) _ _ false 1 b96 0 [.slice p72 x70.Memory.length c73, .slice p76 x70.Copy.length c77, .slice p80 x70.Dirty.length c81] (.slice p72 x70.Memory.length c73) rfl (by kernel_rfl) (by kernel_rfl) (by kernel_rfl) (M112.blk 0 (b := b96) (o := .cells ⟨[.slice p72 x70.Memory.length c73, .slice p76 x70.Copy.length c77, .slice p80 x70.Dirty.length c81]⟩ 25 (0, 0)) (by kernel_rfl))) ?_
  obtain ⟨r173, hr173, hm⟩ := gx_bind hm
  refine W_call 19 #[.slice p72 x70.Memory.length c73] (by kernel_rfl) (by kernel_rfl) ?_
  refine (c_l_toIntS w111 x70.Memory p72 c73 (h74.mem0 M112) hr173).mono ?_
  rintro e_ w179 ⟨p175, c176, sg177, rfl, ho178, K180⟩
  have M181 := M112.call K180
  refine ⟨_, rfl, ?_⟩
  refine W_run 1 [(1, .pointer (some ⟨b96, 0, none⟩)), (2, .pointer (some ⟨b103, 0, none⟩)), (3, .pointer (some ⟨b110, 0, none⟩)), (6, .slice p175 r173.length c176), (7, .pointer (some ⟨b110, 0, none⟩))] w179 (by kernel_rfl) ?_
  refine W_store _ _ _ false 1 b110 0 [.slice none 0 0, .slice none 0 0, .slice none 0 0] 28 (.slice p175 r173.length c176) 2 [.slice p175 r173.length c176, .slice none 0 0, .slice none 0 0] M181 (by kernel_rfl) rfl (by kernel_rfl) (by kernel_rfl) (by kernel_rfl) (by kernel_rfl) (by kernel_rfl) (by kernel_rfl) (by kernel_rfl) (by kernel_rfl) ?_
  intro w182 M183
  refine W_nil ?_
  refine N_then ?_
  refine G_seq ?_
  refine G_region ?_
  refine W_run 1 [(1, .pointer (some ⟨b96, 0, none⟩)), (2, .pointer (some ⟨b103, 0, none⟩)), (3, .pointer (some ⟨b110, 0, none⟩)), (8, .pointer (some ⟨b96, 1, none⟩))] w182 (by kernel_rfl) ?_
  refine W_val (.slice p76 x70.Copy.length c77) w182 (by kernel_rfl) (E_load (e := 25) (fr := (0, 0)) _ _ false 1 b96 1 [.slice p72 x70.Memory.length c73, .slice p76 x70.Copy.length c77, .slice p80 x70.Dirty.length c81] (.slice p76 x70.Copy.length c77) rfl (by kernel_rfl) (by kernel_rfl) (by kernel_rfl) (M183.blk 0 (b := b96) (o := .cells ⟨[.slice p72 x70.Memory.length c73, .slice p76 x70.Copy.length c77, .slice p80 x70.Dirty.length c81]⟩ 25 (0, 0)) (by kernel_rfl))) ?_
  obtain ⟨r184, hr184, hm⟩ := gx_bind hm
  refine W_call 19 #[.slice p76 x70.Copy.length c77] (by kernel_rfl) (by kernel_rfl) ?_
  refine (c_l_toIntS w182 x70.Copy p76 c77 (h78.mem0 M183) hr184).mono ?_
  rintro e_ w190 ⟨p186, c187, sg188, rfl, ho189, K191⟩
  have M192 := M183.call K191
  refine ⟨_, rfl, ?_⟩
  refine W_run 1 [(1, .pointer (some ⟨b96, 0, none⟩)), (2, .pointer (some ⟨b103, 0, none⟩)), (3, .pointer (some ⟨b110, 0, none⟩)), (10, .slice p186 r184.length c187), (11, .pointer (some ⟨b110, 1, none⟩))] w190 (by kernel_rfl) ?_
  refine W_store _ _ _ false 1 b110 1 [.slice p175 r173.length c176, .slice none 0 0, .slice none 0 0] 28 (.slice p186 r184.length c187) 2 [.slice p175 r173.length c176, .slice p186 r184.length c187, .slice none 0 0] M192 (by kernel_rfl) rfl (by kernel_rfl) (by kernel_rfl) (by kernel_rfl) (by kernel_rfl) (by kernel_rfl) (by kernel_rfl) (by kernel_rfl) (by kernel_rfl) ?_
  intro w193 M194
  refine W_nil ?_
  refine N_then ?_
  refine G_seq ?_
  refine G_region ?_
  refine W_run 1 [(2, .pointer (some ⟨b103, 0, none⟩)), (3, .pointer (some ⟨b110, 0, none⟩)), (12, .pointer (some ⟨b96, 2, none⟩))] w193 (by kernel_rfl) ?_
  refine W_val (.slice p80 x70.Dirty.length c81) w193 (by kernel_rfl) (E_load (e := 25) (fr := (0, 0)) _ _ false 1 b96 2 [.slice p72 x70.Memory.length c73, .slice p76 x70.Copy.length c77, .slice p80 x70.Dirty.length c81] (.slice p80 x70.Dirty.length c81) rfl (by kernel_rfl) (by kernel_rfl) (by kernel_rfl) (M194.blk 0 (b := b96) (o := .cells ⟨[.slice p72 x70.Memory.length c73, .slice p76 x70.Copy.length c77, .slice p80 x70.Dirty.length c81]⟩ 25 (0, 0)) (by kernel_rfl))) ?_
  obtain ⟨r255, hr255, hm⟩ := gx_bind hm
  refine W_call 57 #[.slice p80 x70.Dirty.length c81] (by kernel_rfl) (by kernel_rfl) ?_
  refine (c_l_toBoolS w193 x70.Dirty p80 c81 (h82.mem0 M194) hr255).mono ?_
  rintro e_ w261 ⟨p257, c258, sg259, rfl, ho260, K262⟩
  have M263 := M194.call K262
  refine ⟨_, rfl, ?_⟩
  refine W_run 1 [(2, .pointer (some ⟨b103, 0, none⟩)), (3, .pointer (some ⟨b110, 0, none⟩)), (14, .slice p257 r255.length c258), (15, .pointer (some ⟨b110, 2, none⟩))] w261 (by kernel_rfl) ?_
  refine W_store _ _ _ false 1 b110 2 [.slice p175 r173.length c176, .slice p186 r184.length c187, .slice none 0 0] 28 (.slice p257 r255.length c258) 2 [.slice p175 r173.length c176, .slice p186 r184.length c187, .slice p257 r255.length c258] M263 (by kernel_rfl) rfl (by kernel_rfl) (by kernel_rfl) (by kernel_rfl) (by kernel_rfl) (by kernel_rfl) (by kernel_rfl) (by kernel_rfl) (by kernel_rfl) ?_
  intro w264 M265
  refine W_nil ?_
  refine N_then ?_
  refine G_seq ?_
  refine G_region ?_
  refine W_val (.agg #[.slice p175 r173.length c176, .slice p186 r184.length c187, .slice p257 r255.length c258]) w264 (by kernel_rfl) (E_load (e := 28) (fr := (0, 0)) _ _ true 3 b110 0 [.slice p175 r173.length c176, .slice p186 r184.length c187, .slice p257 r255.length c258] (.agg #[.slice p175 r173.length c176, .slice p186 r184.length c187, .slice p257 r255.length c258]) rfl (by kernel_rfl) (by kernel_rfl) (by kernel_rfl) (M265.blk 2 (b := b110) (o := .cells ⟨[.slice p175 r173.length c176, .slice p186 r184.length c187, .slice p257 r255.length c258]⟩ 28 (0, 0)) (by kernel_rfl))) ?_
  refine W_store _ _ _ true 3 b103 0 [.slice none 0 0, .slice none 0 0, .slice none 0 0] 28 (.agg #[.slice p175 r173.length c176, .slice p186 r184.length c187, .slice p257 r255.length c258]) 1 [.slice p175 r173.length c176, .slice p186 r184.length c187, .slice p257 r255.length c258] M265 (by kernel_rfl) rfl (by kernel_rfl) (by kernel_rfl) (by kernel_rfl) (by kernel_rfl) (by kernel_rfl) (by kernel_rfl) (by kernel_rfl) (by kernel_rfl) ?_
  intro w266 M267
  refine W_nil ?_
  refine N_then ?_
  refine G_ret ?_
  obtain rfl := Option.some.inj hm
  refine N_ret [.agg #[.slice p175 r173.length c176, .slice p186 r184.length c187, .slice p257 r255.length c258]] (RVs_cons (RV_cell (g := true) (k := 3) (b := b103) (off := 0) (cs := [.slice p175 r173.length c176, .slice p186 r184.length c187, .slice p257 r255.length c258]) (e := 28) (fr := (0, 0)) (v := .agg #[.slice p175 r173.length c176, .slice p186 r184.length c187, .slice p257 r255.length c258]) (M267.blk 1 (b := b103) (o := .cells ⟨[.slice p175 r173.length c176, .slice p186 r184.length c187, .slice p257 r255.length c258]⟩ 28 (0, 0)) (by kernel_rfl)) (by kernel_rfl) (by kernel_rfl) (by kernel_rfl)) RVs_nil) ?_
  exact ⟨p175, c176, sg177, p186, c187, sg188, p257, c258, sg259, rfl, ho178, ho189, ho260, M267.pick [3, 4, 5] (by kernel_rfl)⟩
theorem c_s_l1In (w : World) (x329 : Int) (x330 : Int) (x331 : Int) {r : Bool} (hm : M.s_l1In x329 x330 x331 = some r) :
    Calls Try.prog 73 #[.int .i64 x329, .int .i64 x330, .int .i64 x331] w fun e w' => e = .returned (.bool r) ∧ Mem [] w w' [] := by
  unfold M.s_l1In at hm
  refine C_enter Try.func73 rfl (by kernel_rfl) ?_
  have M0 := Mem.refl [] w
  refine G_seq ?_
  refine G_region ?_
  refine W_run 1 [(0, .int .i64 x329), (1, .int .i64 x330), (2, .int .i64 x331)] w (by kernel_rfl) ?_
  refine W_nil ?_
  refine N_then ?_
  refine G_seq ?_
  obtain ⟨o333, ho334, hm335⟩ := gx_bind hm
  refine G_meet (fun a w' => Mem [] w w' [] ∧ Sat Try.f73.ntmps [(6, .bool o333)] a) ?_ ?_
  · have hm := ho334
    refine G_region ?_
    refine W_run 4 [(0, .int .i64 x329), (2, .int .i64 x331), (10, .bool (decide (x329 ≥ x330)))] w (by kernel_rfl) ?_
    rcases gx_bif hm with ⟨hc336, hm⟩ | ⟨hc336, hm⟩
    · refine W_known 10 true (by kernel_rfl) hc336 ?_
      refine W_run 5 [(6, .bool (decide (x329 ≤ x331)))] w (by kernel_rfl) ?_
      refine W_nil ?_
      obtain rfl := Option.some.inj hm
      exact N_meet fun a ha => ⟨M0.pick [] (by kernel_rfl), ha.sub (by kernel_rfl)⟩
    · refine W_known 10 false (by kernel_rfl) hc336 ?_
      refine W_run 5 [(6, .bool false)] w (by kernel_rfl) ?_
      refine W_nil ?_
      obtain rfl := Option.some.inj hm
      exact N_meet fun a ha => ⟨M0.pick [] (by kernel_rfl), ha.sub (by kernel_rfl)⟩
  · intro a339 w337 ⟨M338, hS340⟩
    refine N_use hS340 ?_
    have hm := hm335
    refine N_then ?_
    refine G_ret ?_
    obtain rfl := Option.some.inj hm
    refine N_ret [.bool o333] (RVs_cons (RV_tmp (by kernel_rfl)) RVs_nil) ?_
    exact ⟨rfl, M338.pick [] (by kernel_rfl)⟩
theorem c_s_l2Word16 (w : World) (x328 : Int) {r : Bool} (hm : M.s_l2Word16 x328 = some r) :
    Calls Try.prog 95 #[.int .i64 x328] w fun e w' => e = .returned (.bool r) ∧ Mem [] w w' [] := by
  unfold M.s_l2Word16 at hm
  refine C_enter Try.func95 rfl (by kernel_rfl) ?_
  have M0 := Mem.refl [] w
  refine G_seq ?_
  refine G_region ?_
  refine W_run 1 [(0, .int .i64 x328)] w (by kernel_rfl) ?_
  refine W_nil ?_
  refine N_then ?_
  refine G_seq ?_
  refine G_region ?_
  refine W_run 1 [(3, .int .i64 x328)] w (by kernel_rfl) ?_
  obtain ⟨r341, hr341, hm⟩ := gx_bind hm
  refine W_call 73 #[.int .i64 x328, .int .i64 0, .int .i64 65535] (by kernel_rfl) (by kernel_rfl) ?_
  refine (c_s_l1In w x328 0 65535 hr341).mono ?_
  rintro e_ w342 ⟨rfl, K343⟩
  have M344 := M0.call0 K343
  refine ⟨_, rfl, ?_⟩
  refine W_run 1 [(2, .bool r341)] w342 (by kernel_rfl) ?_
  refine W_nil ?_
  refine N_then ?_
  refine G_ret ?_
  obtain rfl := Option.some.inj hm
  refine N_ret [.bool r341] (RVs_cons (RV_tmp (by kernel_rfl)) RVs_nil) ?_
  exact ⟨rfl, M344.pick [] (by kernel_rfl)⟩
theorem c_s_l19Memory (w : World) (x321 : List Int) (p323 : Option Addr) (c324 : Nat) (h325 : rdS encI w x321 p323 c324) {r : Bool} (hm : M.s_l19Memory x321 = some r) :
    Calls Try.prog 60 #[.slice p323 x321.length c324] w fun e w' => e = .returned (.bool r) ∧ Mem [] w w' [] := by
  unfold M.s_l19Memory at hm
  refine C_enter Try.func60 rfl (by kernel_rfl) ?_
  have M0 := Mem.refl [] w
  refine G_seq ?_
  refine G_region ?_
  refine W_run 1 [(0, .slice p323 x321.length c324)] w (by kernel_rfl) ?_
  refine W_nil ?_
  refine N_then ?_
  refine G_seq ?_
  refine G_seq ?_
  refine G_region ?_
  refine W_run 1 [(0, .slice p323 x321.length c324), (3, .int .i64 0)] w (by kernel_rfl) ?_
  refine W_nil ?_
  refine N_then ?_
  obtain ⟨out364, hw365, hmo366⟩ := gx_bind hm
  refine G_meet (fun a w' => ∃ (o367 : Unit), out364 = .inl o367 ∧ Mem [] w w' [] ∧ Sat Try.f60.ntmps [(0, .slice p323 x321.length c324)] a) ?_ ?_
  · refine G_block ?_
    refine G_while (σ := Int) (ρ := (Unit) ⊕ (Bool)) (fun s357 a w' => Mem [] w w' [] ∧ Sat Try.f60.ntmps [(0, .slice p323 x321.length c324), (3, .int .i64 s357)] a) hw365 (fun a ha => ⟨M0.pick [] (by kernel_rfl), ha.sub (by kernel_rfl)⟩) ?_
    clear hm
    intro s357 x358 hm hout359 a360 w361 ⟨M362, hS363⟩
    refine G_use hS363 ?_
    refine G_seq ?_
    refine G_seq ?_
    refine G_region ?_
    refine W_run 4 [(0, .slice p323 x321.length c324), (3, .int .i64 s357), (7, .bool (decide (s357 < (x321.length : Int))))] w361 (by kernel_rfl) ?_
    refine W_nil ?_
    refine N_then ?_
    rcases gx_bif hm with ⟨hc368, hm⟩ | ⟨hc368, hm⟩
    · refine G_cond_t (b := (decide (s357 < (x321.length : Int)))) hc368 (by kernel_rfl) ?_
      refine G_skip ?_
      refine N_then ?_
      refine G_seq ?_
      refine G_block ?_
      refine G_seq ?_
      refine G_region ?_
      refine W_run 2 [(0, .slice p323 x321.length c324), (3, .int .i64 s357), (10, .slice p323 x321.length c324), (11, .int .i64 s357)] w361 (by kernel_rfl) ?_
      obtain ⟨y369, hy369, hm⟩ := gx_bind hm
      refine W_val (elemP p323 (s357.toNat * 1)) w361 (by kernel_rfl) (E_index (E := encI) _ _ _ x321.length c324 .i64 s357 1 (y := y369) rfl (by kernel_rfl) (by kernel_rfl) (by kernel_rfl) (h325.mem0 M362) rfl hy369) ?_
      refine W_val (.int .i64 y369) w361 (by kernel_rfl) (E_loadE (E := encI) _ _ false 1 s357 0 (s357.toNat * 1) y369 (.int .i64 y369) rfl (by kernel_rfl) (by kernel_rfl) (by kernel_rfl) (h325.mem0 M362) hy369 rfl) ?_
      obtain ⟨r370, hr370, hm⟩ := gx_bind hm
      refine W_call 95 #[.int .i64 y369] (by kernel_rfl) (by kernel_rfl) ?_
      refine (c_s_l2Word16 w361 y369 hr370).mono ?_
      rintro e_ w371 ⟨rfl, K372⟩
      have M373 := M362.call0 K372
      refine ⟨_, rfl, ?_⟩
      refine W_run 1 [(0, .slice p323 x321.length c324), (3, .int .i64 s357), (15, .bool (!r370))] w371 (by kernel_rfl) ?_
      refine W_nil ?_
      refine N_then ?_
      rcases gx_bif hm with ⟨hc374, hm⟩ | ⟨hc374, hm⟩
      · refine G_cond_t (b := (!r370)) hc374 (by kernel_rfl) ?_
        refine G_seq ?_
        refine G_region ?_
        refine W_run 1 [(2, .bool false)] w371 (by kernel_rfl) ?_
        refine W_nil ?_
        refine N_then ?_
        refine G_ret ?_
        refine N_block_ret ?_
        refine N_then_ret ?_
        refine N_then_ret ?_
        obtain rfl := Option.some.inj hm
        obtain rfl := hout359 _ rfl
        have hm := hmo366; simp only [Sum.elim_inr] at hm
        refine N_block_ret ?_
        refine N_meet_ret ?_
        refine N_then_ret ?_
        obtain rfl := Option.some.inj hm
        refine N_ret [.bool false] (RVs_cons (RV_tmp (by kernel_rfl)) RVs_nil) ?_
        exact ⟨rfl, M373.pick [] (by kernel_rfl)⟩
      · refine G_cond_f (b := (!r370)) hc374 (by kernel_rfl) ?_
        refine G_skip ?_
        refine N_block ?_
        refine N_then ?_
        refine G_region ?_
        refine W_run 3 [(0, .slice p323 x321.length c324), (3, .int .i64 (w64 (s357 + 1)))] w371 (by kernel_rfl) ?_
        refine W_nil ?_
        obtain rfl := Option.some.inj hm
        exact N_loop fun a ha => ⟨_, rfl, M373.pick [] (by kernel_rfl), ha.sub (by kernel_rfl)⟩
    · refine G_cond_f (b := (decide (s357 < (x321.length : Int)))) hc368 (by kernel_rfl) ?_
      refine G_exit ?_
      refine N_then_exit ?_
      refine N_then_exit ?_
      refine N_block_eq ?_
      obtain rfl := Option.some.inj hm
      obtain rfl := hout359 _ rfl
      exact N_meet fun a ha => ⟨_, rfl, M362.pick [] (by kernel_rfl), ha.sub (by kernel_rfl)⟩
  · intro a375 w376 ⟨o367, hout_, M377, hS378⟩
    refine N_use hS378 ?_
    subst hout_
    have hm := hmo366; simp only [Sum.elim_inl] at hm
    refine N_then ?_
    refine G_seq ?_
    refine G_region ?_
    refine W_run 2 [(17, .int .i64 (x321.length : Int))] w376 (by kernel_rfl) ?_
    obtain ⟨r379, hr379, hm⟩ := gx_bind hm
    refine W_call 73 #[.int .i64 (x321.length : Int), .int .i64 1, .int .i64 12] (by kernel_rfl) (by kernel_rfl) ?_
    refine (c_s_l1In w376 (x321.length : Int) 1 12 hr379).mono ?_
    rintro e_ w380 ⟨rfl, K381⟩
    have M382 := M377.call0 K381
    refine ⟨_, rfl, ?_⟩
    refine W_run 1 [(2, .bool r379)] w380 (by kernel_rfl) ?_
    refine W_nil ?_
    refine N_then ?_
    refine G_ret ?_
    obtain rfl := Option.some.inj hm
    refine N_ret [.bool r379] (RVs_cons (RV_tmp (by kernel_rfl)) RVs_nil) ?_
    exact ⟨rfl, M382.pick [] (by kernel_rfl)⟩
theorem c_s_l19Good (w : World) (x304 : Copying) (p306 : Option Addr) (c307 : Nat) (h308 : rdS encI w x304.Memory p306 c307) (p310 : Option Addr) (c311 : Nat) (h312 : rdS encI w x304.Copy p310 c311) (p314 : Option Addr) (c315 : Nat) (h316 : rdS encB w x304.Dirty p314 c315) {r : Bool} (hm : M.s_l19Good x304 = some r) :
    Calls Try.prog 56 #[.agg #[.slice p306 x304.Memory.length c307, .slice p310 x304.Copy.length c311, .slice p314 x304.Dirty.length c315]] w fun e w' => e = .returned (.bool r) ∧ Mem [] w w' [] := by
  unfold M.s_l19Good at hm
  refine C_enter Try.func56 rfl (by kernel_rfl) ?_
  have M0 := Mem.refl [] w
  refine G_seq ?_
  refine G_region ?_
  refine W_new (fun b => .pointer (some ⟨b, 0, none⟩)) (.cells ⟨[.slice p306 x304.Memory.length c307, .slice p310 x304.Copy.length c311, .slice p314 x304.Dirty.length c315]⟩ 28 (0, 0)) M0 rfl (by kernel_rfl) (by kernel_rfl) ?_
  intro b318 w319 M320
  refine W_run 1 [(1, .pointer (some ⟨b318, 0, none⟩))] w319 (by kernel_rfl) ?_
  refine W_nil ?_
  refine N_then ?_
  refine G_seq ?_
  refine G_seq ?_
  obtain ⟨o394, ho395, hm396⟩ := gx_bind hm
  refine G_meet (fun a w' => Mem [] w w' [[(b318, .cells ⟨[.slice p306 x304.Memory.length c307, .slice p310 x304.Copy.length c311, .slice p314 x304.Dirty.length c315]⟩ 28 (0, 0))]] ∧ Sat Try.f56.ntmps [(1, .pointer (some ⟨b318, 0, none⟩)), (31, .bool o394)] a) ?_ ?_
  · have hm := ho395
    refine G_region ?_
    refine W_run 1 [(1, .pointer (some ⟨b318, 0, none⟩)), (4, .pointer (some ⟨b318, 0, none⟩))] w319 (by kernel_rfl) ?_
    refine W_val (.slice p306 x304.Memory.length c307) w319 (by kernel_rfl) (E_load (e := 28) (fr := (0, 0)) _ _ false 1 b318 0 [.slice p306 x304.Memory.length c307, .slice p310 x304.Copy.length c311, .slice p314 x304.Dirty.length c315] (.slice p306 x304.Memory.length c307) rfl (by kernel_rfl) (by kernel_rfl) (by kernel_rfl) (M320.blk 0 (b := b318) (o := .cells ⟨[.slice p306 x304.Memory.length c307, .slice p310 x304.Copy.length c311, .slice p314 x304.Dirty.length c315]⟩ 28 (0, 0)) (by kernel_rfl))) ?_
    obtain ⟨r397, hr397, hm⟩ := gx_bind hm
    refine W_call 60 #[.slice p306 x304.Memory.length c307] (by kernel_rfl) (by kernel_rfl) ?_
    refine (c_s_l19Memory w319 x304.Memory p306 c307 (h308.mem0 M320) hr397).mono ?_
    rintro e_ w398 ⟨rfl, K399⟩
    have M400 := M320.call0 K399
    refine ⟨_, rfl, ?_⟩
    refine W_run 2 [(1, .pointer (some ⟨b318, 0, none⟩)), (8, .bool (!r397))] w398 (by kernel_rfl) ?_
    rcases gx_bif hm with ⟨hc401, hm⟩ | ⟨hc401, hm⟩
    · refine W_known 8 true (by kernel_rfl) hc401 ?_
      refine W_run 23 [(1, .pointer (some ⟨b318, 0, none⟩)), (31, .bool true)] w398 (by kernel_rfl) ?_
      refine W_nil ?_
      obtain rfl := Option.some.inj hm
      exact N_meet fun a ha => ⟨M400.pick [0] (by kernel_rfl), ha.sub (by kernel_rfl)⟩
    · refine W_known 8 false (by kernel_rfl) hc401 ?_
      refine W_run 1 [(1, .pointer (some ⟨b318, 0, none⟩)), (8, .bool false), (9, .pointer (some ⟨b318, 1, none⟩))] w398 (by kernel_rfl) ?_
      refine W_val (.slice p310 x304.Copy.length c311) w398 (by kernel_rfl) (E_load (e := 28) (fr := (0, 0)) _ _ false 1 b318 1 [.slice p306 x304.Memory.length c307, .slice p310 x304.Copy.length c311, .slice p314 x304.Dirty.length c315] (.slice p310 x304.Copy.length c311) rfl (by kernel_rfl) (by kernel_rfl) (by kernel_rfl) (M400.blk 0 (b := b318) (o := .cells ⟨[.slice p306 x304.Memory.length c307, .slice p310 x304.Copy.length c311, .slice p314 x304.Dirty.length c315]⟩ 28 (0, 0)) (by kernel_rfl))) ?_
      obtain ⟨r402, hr402, hm⟩ := gx_bind hm
      refine W_call 60 #[.slice p310 x304.Copy.length c311] (by kernel_rfl) (by kernel_rfl) ?_
      refine (c_s_l19Memory w398 x304.Copy p310 c311 (h312.mem0 M400) hr402).mono ?_
      rintro e_ w403 ⟨rfl, K404⟩
      have M405 := M400.call0 K404
      refine ⟨_, rfl, ?_⟩
      refine W_run 3 [(1, .pointer (some ⟨b318, 0, none⟩)), (14, .bool (!r402))] w403 (by kernel_rfl) ?_
      rcases gx_bif hm with ⟨hc406, hm⟩ | ⟨hc406, hm⟩
      · refine W_known 14 true (by kernel_rfl) hc406 ?_
        refine W_run 17 [(1, .pointer (some ⟨b318, 0, none⟩)), (31, .bool true)] w403 (by kernel_rfl) ?_
        refine W_nil ?_
        obtain rfl := Option.some.inj hm
        exact N_meet fun a ha => ⟨M405.pick [0] (by kernel_rfl), ha.sub (by kernel_rfl)⟩
      · refine W_known 14 false (by kernel_rfl) hc406 ?_
        refine W_run 1 [(1, .pointer (some ⟨b318, 0, none⟩)), (14, .bool false), (15, .pointer (some ⟨b318, 1, none⟩))] w403 (by kernel_rfl) ?_
        refine W_val (.slice p310 x304.Copy.length c311) w403 (by kernel_rfl) (E_load (e := 28) (fr := (0, 0)) _ _ false 1 b318 1 [.slice p306 x304.Memory.length c307, .slice p310 x304.Copy.length c311, .slice p314 x304.Dirty.length c315] (.slice p310 x304.Copy.length c311) rfl (by kernel_rfl) (by kernel_rfl) (by kernel_rfl) (M405.blk 0 (b := b318) (o := .cells ⟨[.slice p306 x304.Memory.length c307, .slice p310 x304.Copy.length c311, .slice p314 x304.Dirty.length c315]⟩ 28 (0, 0)) (by kernel_rfl))) ?_
        refine W_run 2 [(1, .pointer (some ⟨b318, 0, none⟩)), (14, .bool false), (17, .int .i64 (x304.Copy.length : Int)), (18, .pointer (some ⟨b318, 0, none⟩))] w403 (by kernel_rfl) ?_
        refine W_val (.slice p306 x304.Memory.length c307) w403 (by kernel_rfl) (E_load (e := 28) (fr := (0, 0)) _ _ false 1 b318 0 [.slice p306 x304.Memory.length c307, .slice p310 x304.Copy.length c311, .slice p314 x304.Dirty.length c315] (.slice p306 x304.Memory.length c307) rfl (by kernel_rfl) (by kernel_rfl) (by kernel_rfl) (M405.blk 0 (b := b318) (o := .cells ⟨[.slice p306 x304.Memory.length c307, .slice p310 x304.Copy.length c311, .slice p314 x304.Dirty.length c315]⟩ 28 (0, 0)) (by kernel_rfl))) ?_
        refine W_run 4 [(1, .pointer (some ⟨b318, 0, none⟩)), (23, .bool ((x304.Copy.length : Int) != (x304.Memory.length : Int)))] w403 (by kernel_rfl) ?_
        rcases gx_bif hm with ⟨hc407, hm⟩ | ⟨hc407, hm⟩
        · refine W_known 23 true (by kernel_rfl) hc407 ?_
          refine W_run 8 [(1, .pointer (some ⟨b318, 0, none⟩)), (31, .bool true)] w403 (by kernel_rfl) ?_
          refine W_nil ?_
          obtain rfl := Option.some.inj hm
          exact N_meet fun a ha => ⟨M405.pick [0] (by kernel_rfl), ha.sub (by kernel_rfl)⟩
        · refine W_known 23 false (by kernel_rfl) hc407 ?_
          refine W_run 1 [(1, .pointer (some ⟨b318, 0, none⟩)), (23, .bool false), (24, .pointer (some ⟨b318, 2, none⟩))] w403 (by kernel_rfl) ?_
          refine W_val (.slice p314 x304.Dirty.length c315) w403 (by kernel_rfl) (E_load (e := 28) (fr := (0, 0)) _ _ false 1 b318 2 [.slice p306 x304.Memory.length c307, .slice p310 x304.Copy.length c311, .slice p314 x304.Dirty.length c315] (.slice p314 x304.Dirty.length c315) rfl (by kernel_rfl) (by kernel_rfl) (by kernel_rfl) (M405.blk 0 (b := b318) (o := .cells ⟨[.slice p306 x304.Memory.length c307, .slice p310 x304.Copy.length c311, .slice p314 x304.Dirty.length c315]⟩ 28 (0, 0)) (by kernel_rfl))) ?_
          refine W_run 2 [(1, .pointer (some ⟨b318, 0, none⟩)), (23, .bool false), (26, .int .i64 (x304.Dirty.length : Int)), (27, .pointer (some ⟨b318, 0, none⟩))] w403 (by kernel_rfl) ?_
          refine W_val (.slice p306 x304.Memory.length c307) w403 (by kernel_rfl) (E_load (e := 28) (fr := (0, 0)) _ _ false 1 b318 0 [.slice p306 x304.Memory.length c307, .slice p310 x304.Copy.length c311, .slice p314 x304.Dirty.length c315] (.slice p306 x304.Memory.length c307) rfl (by kernel_rfl) (by kernel_rfl) (by kernel_rfl) (M405.blk 0 (b := b318) (o := .cells ⟨[.slice p306 x304.Memory.length c307, .slice p310 x304.Copy.length c311, .slice p314 x304.Dirty.length c315]⟩ 28 (0, 0)) (by kernel_rfl))) ?_
          refine W_run 3 [(1, .pointer (some ⟨b318, 0, none⟩)), (31, .bool ((x304.Dirty.length : Int) != (x304.Memory.length : Int)))] w403 (by kernel_rfl) ?_
          refine W_nil ?_
          obtain rfl := Option.some.inj hm
          exact N_meet fun a ha => ⟨M405.pick [0] (by kernel_rfl), ha.sub (by kernel_rfl)⟩
  · intro a410 w408 ⟨M409, hS411⟩
    refine N_use hS411 ?_
    have hm := hm396
    refine N_then ?_
    rcases gx_bif hm with ⟨hc412, hm⟩ | ⟨hc412, hm⟩
    · refine G_cond_t (b := o394) hc412 (by kernel_rfl) ?_
      refine G_seq ?_
      refine G_region ?_
      refine W_run 1 [(2, .bool false)] w408 (by kernel_rfl) ?_
      refine W_nil ?_
      refine N_then ?_
      refine G_ret ?_
      refine N_then_ret ?_
      obtain rfl := Option.some.inj hm
      refine N_ret [.bool false] (RVs_cons (RV_tmp (by kernel_rfl)) RVs_nil) ?_
      exact ⟨rfl, M409.pick [] (by kernel_rfl)⟩
    · refine G_cond_f (b := o394) hc412 (by kernel_rfl) ?_
      refine G_skip ?_
      refine N_then ?_
      refine G_seq ?_
      refine G_seq ?_
      refine G_region ?_
      refine W_run 1 [(1, .pointer (some ⟨b318, 0, none⟩)), (3, .int .i64 0)] w408 (by kernel_rfl) ?_
      refine W_nil ?_
      refine N_then ?_
      obtain ⟨out470, hw471, hmo472⟩ := gx_bind hm
      refine G_meet (fun a w' => ∃ (o473 : Unit), out470 = .inl o473 ∧ Mem [] w w' [] ∧ Sat Try.f56.ntmps [] a) ?_ ?_
      · refine G_block ?_
        refine G_while (σ := Int) (ρ := (Unit) ⊕ (Bool)) (fun s463 a w' => Mem [] w w' [[(b318, .cells ⟨[.slice p306 x304.Memory.length c307, .slice p310 x304.Copy.length c311, .slice p314 x304.Dirty.length c315]⟩ 28 (0, 0))]] ∧ Sat Try.f56.ntmps [(1, .pointer (some ⟨b318, 0, none⟩)), (3, .int .i64 s463)] a) hw471 (fun a ha => ⟨M409.pick [0] (by kernel_rfl), ha.sub (by kernel_rfl)⟩) ?_
        clear hm
        intro s463 x464 hm hout465 a466 w467 ⟨M468, hS469⟩
        refine G_use hS469 ?_
        refine G_seq ?_
        refine G_seq ?_
        refine G_region ?_
        refine W_run 2 [(1, .pointer (some ⟨b318, 0, none⟩)), (3, .int .i64 s463), (32, .int .i64 s463), (33, .pointer (some ⟨b318, 0, none⟩))] w467 (by kernel_rfl) ?_
        refine W_val (.slice p306 x304.Memory.length c307) w467 (by kernel_rfl) (E_load (e := 28) (fr := (0, 0)) _ _ false 1 b318 0 [.slice p306 x304.Memory.length c307, .slice p310 x304.Copy.length c311, .slice p314 x304.Dirty.length c315] (.slice p306 x304.Memory.length c307) rfl (by kernel_rfl) (by kernel_rfl) (by kernel_rfl) (M468.blk 0 (b := b318) (o := .cells ⟨[.slice p306 x304.Memory.length c307, .slice p310 x304.Copy.length c311, .slice p314 x304.Dirty.length c315]⟩ 28 (0, 0)) (by kernel_rfl))) ?_
        refine W_run 2 [(1, .pointer (some ⟨b318, 0, none⟩)), (3, .int .i64 s463), (36, .bool (decide (s463 < (x304.Memory.length : Int))))] w467 (by kernel_rfl) ?_
        refine W_nil ?_
        refine N_then ?_
        rcases gx_bif hm with ⟨hc474, hm⟩ | ⟨hc474, hm⟩
        · refine G_cond_t (b := (decide (s463 < (x304.Memory.length : Int)))) hc474 (by kernel_rfl) ?_
          refine G_skip ?_
          refine N_then ?_
          refine G_seq ?_
          refine G_block ?_
          refine G_seq ?_
          obtain ⟨o483, ho484, hm485⟩ := gx_bind hm
          refine G_meet (fun a w' => Mem [] w w' [[(b318, .cells ⟨[.slice p306 x304.Memory.length c307, .slice p310 x304.Copy.length c311, .slice p314 x304.Dirty.length c315]⟩ 28 (0, 0))]] ∧ Sat Try.f56.ntmps [(1, .pointer (some ⟨b318, 0, none⟩)), (3, .int .i64 s463), (57, .bool o483)] a) ?_ ?_
          · have hm := ho484
            refine G_quiet (by kernel_rfl) (by kernel_rfl) M468 ?_
            refine Z_runs [.pointer (some ⟨b318, 0, none⟩)] [(1, .pointer (some ⟨b318, 0, none⟩)), (3, .int .i64 s463), (39, .pointer (some ⟨b318, 0, none⟩))] (fun w_ => by kernel_rfl) (by kernel_rfl) ?_
            refine Z_val (.slice p306 x304.Memory.length c307) (by kernel_rfl) (fun w_ M_ => (E_load (e := 28) (fr := (0, 0)) _ _ false 1 b318 0 [.slice p306 x304.Memory.length c307, .slice p310 x304.Copy.length c311, .slice p314 x304.Dirty.length c315] (.slice p306 x304.Memory.length c307) rfl (by kernel_rfl) (by kernel_rfl) (by kernel_rfl) (M_.blk 0 (b := b318) (o := .cells ⟨[.slice p306 x304.Memory.length c307, .slice p310 x304.Copy.length c311, .slice p314 x304.Dirty.length c315]⟩ 28 (0, 0)) (by kernel_rfl)))) ?_
            refine Z_runs [.int .i64 s463] [(1, .pointer (some ⟨b318, 0, none⟩)), (3, .int .i64 s463), (40, .slice p306 x304.Memory.length c307), (41, .int .i64 s463)] (fun w_ => by kernel_rfl) (by kernel_rfl) ?_
            obtain ⟨y486, hy486, hm⟩ := gx_bind hm
            refine Z_val (elemP p306 (s463.toNat * 1)) (by kernel_rfl) (fun w_ M_ => (E_index (E := encI) _ _ _ x304.Memory.length c307 .i64 s463 1 (y := y486) rfl (by kernel_rfl) (by kernel_rfl) (by kernel_rfl) (h308.mem0 M_) rfl hy486)) ?_
            refine Z_val (.int .i64 y486) (by kernel_rfl) (fun w_ M_ => (E_loadE (E := encI) _ _ false 1 s463 0 (s463.toNat * 1) y486 (.int .i64 y486) rfl (by kernel_rfl) (by kernel_rfl) (by kernel_rfl) (h308.mem0 M_) hy486 rfl)) ?_
            refine Z_runs [.pointer (some ⟨b318, 1, none⟩)] [(1, .pointer (some ⟨b318, 0, none⟩)), (3, .int .i64 s463), (43, .int .i64 y486), (44, .pointer (some ⟨b318, 1, none⟩))] (fun w_ => by kernel_rfl) (by kernel_rfl) ?_
            refine Z_val (.slice p310 x304.Copy.length c311) (by kernel_rfl) (fun w_ M_ => (E_load (e := 28) (fr := (0, 0)) _ _ false 1 b318 1 [.slice p306 x304.Memory.length c307, .slice p310 x304.Copy.length c311, .slice p314 x304.Dirty.length c315] (.slice p310 x304.Copy.length c311) rfl (by kernel_rfl) (by kernel_rfl) (by kernel_rfl) (M_.blk 0 (b := b318) (o := .cells ⟨[.slice p306 x304.Memory.length c307, .slice p310 x304.Copy.length c311, .slice p314 x304.Dirty.length c315]⟩ 28 (0, 0)) (by kernel_rfl)))) ?_
            refine Z_runs [.int .i64 s463] [(1, .pointer (some ⟨b318, 0, none⟩)), (3, .int .i64 s463), (43, .int .i64 y486), (45, .slice p310 x304.Copy.length c311), (46, .int .i64 s463)] (fun w_ => by kernel_rfl) (by kernel_rfl) ?_
            obtain ⟨y487, hy487, hm⟩ := gx_bind hm
            refine Z_val (elemP p310 (s463.toNat * 1)) (by kernel_rfl) (fun w_ M_ => (E_index (E := encI) _ _ _ x304.Copy.length c311 .i64 s463 1 (y := y487) rfl (by kernel_rfl) (by kernel_rfl) (by kernel_rfl) (h312.mem0 M_) rfl hy487)) ?_
            refine Z_val (.int .i64 y487) (by kernel_rfl) (fun w_ M_ => (E_loadE (E := encI) _ _ false 1 s463 0 (s463.toNat * 1) y487 (.int .i64 y487) rfl (by kernel_rfl) (by kernel_rfl) (by kernel_rfl) (h312.mem0 M_) hy487 rfl)) ?_
            refine Z_runs [.bool (y486 != y487), .bool (y486 != y487)] [(1, .pointer (some ⟨b318, 0, none⟩)), (3, .int .i64 s463), (50, .bool (y486 != y487))] (fun w_ => by kernel_rfl) (by kernel_rfl) ?_
            rcases gx_bif hm with ⟨hc488, hm⟩ | ⟨hc488, hm⟩
            · refine Z_known 50 true (by kernel_rfl) hc488 ?_
              refine Z_runs [.pointer (some ⟨b318, 2, none⟩)] [(1, .pointer (some ⟨b318, 0, none⟩)), (3, .int .i64 s463), (50, .bool true), (51, .pointer (some ⟨b318, 2, none⟩))] (fun w_ => by kernel_rfl) (by kernel_rfl) ?_
              refine Z_val (.slice p314 x304.Dirty.length c315) (by kernel_rfl) (fun w_ M_ => (E_load (e := 28) (fr := (0, 0)) _ _ false 1 b318 2 [.slice p306 x304.Memory.length c307, .slice p310 x304.Copy.length c311, .slice p314 x304.Dirty.length c315] (.slice p314 x304.Dirty.length c315) rfl (by kernel_rfl) (by kernel_rfl) (by kernel_rfl) (M_.blk 0 (b := b318) (o := .cells ⟨[.slice p306 x304.Memory.length c307, .slice p310 x304.Copy.length c311, .slice p314 x304.Dirty.length c315]⟩ 28 (0, 0)) (by kernel_rfl)))) ?_
              refine Z_runs [.int .i64 s463] [(1, .pointer (some ⟨b318, 0, none⟩)), (3, .int .i64 s463), (50, .bool true), (52, .slice p314 x304.Dirty.length c315), (53, .int .i64 s463)] (fun w_ => by kernel_rfl) (by kernel_rfl) ?_
              obtain ⟨y489, hy489, hm⟩ := gx_bind hm
              refine Z_val (elemP p314 (s463.toNat * 1)) (by kernel_rfl) (fun w_ M_ => (E_index (E := encB) _ _ _ x304.Dirty.length c315 .i64 s463 1 (y := y489) rfl (by kernel_rfl) (by kernel_rfl) (by kernel_rfl) (h316.mem0 M_) rfl hy489)) ?_
              refine Z_val (.bool y489) (by kernel_rfl) (fun w_ M_ => (E_loadE (E := encB) _ _ false 1 s463 0 (s463.toNat * 1) y489 (.bool y489) rfl (by kernel_rfl) (by kernel_rfl) (by kernel_rfl) (h316.mem0 M_) hy489 rfl)) ?_
              refine Z_runs [.bool (!y489), .bool (!y489)] [(1, .pointer (some ⟨b318, 0, none⟩)), (3, .int .i64 s463), (57, .bool (!y489))] (fun w_ => by kernel_rfl) (by kernel_rfl) ?_
              refine Z_end fun w490 M491 => ?_
              obtain rfl := Option.some.inj hm
              exact N_meet fun a ha => ⟨M491.pick [0] (by kernel_rfl), ha.sub (by kernel_rfl)⟩
            · refine Z_known 50 false (by kernel_rfl) hc488 ?_
              refine Z_runs [undef, undef, undef, undef, undef, undef, .bool false] [(1, .pointer (some ⟨b318, 0, none⟩)), (3, .int .i64 s463), (57, .bool false)] (fun w_ => by kernel_rfl) (by kernel_rfl) ?_
              refine Z_end fun w492 M493 => ?_
              obtain rfl := Option.some.inj hm
              exact N_meet fun a ha => ⟨M493.pick [0] (by kernel_rfl), ha.sub (by kernel_rfl)⟩
          · intro a496 w494 ⟨M495, hS497⟩
            refine N_use hS497 ?_
            have hm := hm485
            refine N_then ?_
            rcases gx_bif hm with ⟨hc498, hm⟩ | ⟨hc498, hm⟩
            · refine G_cond_t (b := o483) hc498 (by kernel_rfl) ?_
              refine G_seq ?_
              refine G_region ?_
              refine W_run 1 [(2, .bool false)] w494 (by kernel_rfl) ?_
              refine W_nil ?_
              refine N_then ?_
              refine G_ret ?_
              refine N_block_ret ?_
              refine N_then_ret ?_
              refine N_then_ret ?_
              obtain rfl := Option.some.inj hm
              obtain rfl := hout465 _ rfl
              have hm := hmo472; simp only [Sum.elim_inr] at hm
              refine N_block_ret ?_
              refine N_meet_ret ?_
              refine N_then_ret ?_
              obtain rfl := Option.some.inj hm
              refine N_ret [.bool false] (RVs_cons (RV_tmp (by kernel_rfl)) RVs_nil) ?_
              exact ⟨rfl, M495.pick [] (by kernel_rfl)⟩
            · refine G_cond_f (b := o483) hc498 (by kernel_rfl) ?_
              refine G_skip ?_
              refine N_block ?_
              refine N_then ?_
              refine G_region ?_
              refine W_run 3 [(1, .pointer (some ⟨b318, 0, none⟩)), (3, .int .i64 (w64 (s463 + 1)))] w494 (by kernel_rfl) ?_
              refine W_nil ?_
              obtain rfl := Option.some.inj hm
              exact N_loop fun a ha => ⟨_, rfl, M495.pick [0] (by kernel_rfl), ha.sub (by kernel_rfl)⟩
        · refine G_cond_f (b := (decide (s463 < (x304.Memory.length : Int)))) hc474 (by kernel_rfl) ?_
          refine G_exit ?_
          refine N_then_exit ?_
          refine N_then_exit ?_
          refine N_block_eq ?_
          obtain rfl := Option.some.inj hm
          obtain rfl := hout465 _ rfl
          exact N_meet fun a ha => ⟨_, rfl, M468.pick [] (by kernel_rfl), ha.sub (by kernel_rfl)⟩
      · intro a499 w500 ⟨o473, hout_, M501, hS502⟩
        refine N_use hS502 ?_
        subst hout_
        have hm := hmo472; simp only [Sum.elim_inl] at hm
        refine N_then ?_
        refine G_seq ?_
        refine G_region ?_
        refine W_run 1 [(2, .bool true)] w500 (by kernel_rfl) ?_
        refine W_nil ?_
        refine N_then ?_
        refine G_ret ?_
        obtain rfl := Option.some.inj hm
        refine N_ret [.bool true] (RVs_cons (RV_tmp (by kernel_rfl)) RVs_nil) ?_
        exact ⟨rfl, M501.pick [] (by kernel_rfl)⟩
theorem c_s_IsCopying (w : World) (x287 : Copying) (p289 : Option Addr) (c290 : Nat) (h291 : rdS encI w x287.Memory p289 c290) (p293 : Option Addr) (c294 : Nat) (h295 : rdS encI w x287.Copy p293 c294) (p297 : Option Addr) (c298 : Nat) (h299 : rdS encB w x287.Dirty p297 c298) {r : Bool} (hm : M.s_IsCopying x287 = some r) :
    Calls Try.prog 14 #[.agg #[.slice p289 x287.Memory.length c290, .slice p293 x287.Copy.length c294, .slice p297 x287.Dirty.length c298]] w fun e w' => e = .returned (.bool r) ∧ Mem [] w w' [] := by
  unfold M.s_IsCopying at hm
  refine C_enter Try.func14 rfl (by kernel_rfl) ?_
  have M0 := Mem.refl [] w
  refine G_seq ?_
  refine G_region ?_
  refine W_new (fun b => .pointer (some ⟨b, 0, none⟩)) (.cells ⟨[.slice p289 x287.Memory.length c290, .slice p293 x287.Copy.length c294, .slice p297 x287.Dirty.length c298]⟩ 28 (0, 0)) M0 rfl (by kernel_rfl) (by kernel_rfl) ?_
  intro b301 w302 M303
  refine W_run 1 [(1, .pointer (some ⟨b301, 0, none⟩))] w302 (by kernel_rfl) ?_
  refine W_nil ?_
  refine N_then ?_
  refine G_seq ?_
  refine G_region ?_
  refine W_val (.agg #[.slice p289 x287.Memory.length c290, .slice p293 x287.Copy.length c294, .slice p297 x287.Dirty.length c298]) w302 (by kernel_rfl) (E_load (e := 28) (fr := (0, 0)) _ _ true 3 b301 0 [.slice p289 x287.Memory.length c290, .slice p293 x287.Copy.length c294, .slice p297 x287.Dirty.length c298] (.agg #[.slice p289 x287.Memory.length c290, .slice p293 x287.Copy.length c294, .slice p297 x287.Dirty.length c298]) rfl (by kernel_rfl) (by kernel_rfl) (by kernel_rfl) (M303.blk 0 (b := b301) (o := .cells ⟨[.slice p289 x287.Memory.length c290, .slice p293 x287.Copy.length c294, .slice p297 x287.Dirty.length c298]⟩ 28 (0, 0)) (by kernel_rfl))) ?_
  obtain ⟨r503, hr503, hm⟩ := gx_bind hm
  refine W_call 56 #[.agg #[.slice p289 x287.Memory.length c290, .slice p293 x287.Copy.length c294, .slice p297 x287.Dirty.length c298]] (by kernel_rfl) (by kernel_rfl) ?_
  refine (c_s_l19Good w302 x287 p289 c290 (h291.mem0 M303) p293 c294 (h295.mem0 M303) p297 c298 (h299.mem0 M303) hr503).mono ?_
  rintro e_ w504 ⟨rfl, K505⟩
  have M506 := M303.call0 K505
  refine ⟨_, rfl, ?_⟩
  refine W_run 1 [(2, .bool r503)] w504 (by kernel_rfl) ?_
  refine W_nil ?_
  refine N_then ?_
  refine G_ret ?_
  obtain rfl := Option.some.inj hm
  refine N_ret [.bool r503] (RVs_cons (RV_tmp (by kernel_rfl)) RVs_nil) ?_
  exact ⟨rfl, M506.pick [] (by kernel_rfl)⟩
theorem c_i_inside (w : World) (x561 : Int) (x562 : Int) (x563 : Int) {r : Bool} (hm : M.i_inside x561 x562 x563 = some r) :
    Calls Try.prog 74 #[.int .i64 x561, .int .i64 x562, .int .i64 x563] w fun e w' => e = .returned (.bool r) ∧ Mem [] w w' [] := by
  unfold M.i_inside at hm
  refine C_enter Try.func74 rfl (by kernel_rfl) ?_
  have M0 := Mem.refl [] w
  refine G_seq ?_
  refine G_region ?_
  refine W_run 1 [(0, .int .i64 x561), (1, .int .i64 x562), (2, .int .i64 x563)] w (by kernel_rfl) ?_
  refine W_nil ?_
  refine N_then ?_
  refine G_seq ?_
  obtain ⟨o565, ho566, hm567⟩ := gx_bind hm
  refine G_meet (fun a w' => Mem [] w w' [] ∧ Sat Try.f74.ntmps [(6, .bool o565)] a) ?_ ?_
  · have hm := ho566
    refine G_region ?_
    refine W_run 4 [(0, .int .i64 x561), (2, .int .i64 x563), (10, .bool (decide (x561 ≥ x562)))] w (by kernel_rfl) ?_
    rcases gx_bif hm with ⟨hc568, hm⟩ | ⟨hc568, hm⟩
    · refine W_known 10 true (by kernel_rfl) hc568 ?_
      refine W_run 5 [(6, .bool (decide (x561 ≤ x563)))] w (by kernel_rfl) ?_
      refine W_nil ?_
      obtain rfl := Option.some.inj hm
      exact N_meet fun a ha => ⟨M0.pick [] (by kernel_rfl), ha.sub (by kernel_rfl)⟩
    · refine W_known 10 false (by kernel_rfl) hc568 ?_
      refine W_run 5 [(6, .bool false)] w (by kernel_rfl) ?_
      refine W_nil ?_
      obtain rfl := Option.some.inj hm
      exact N_meet fun a ha => ⟨M0.pick [] (by kernel_rfl), ha.sub (by kernel_rfl)⟩
  · intro a571 w569 ⟨M570, hS572⟩
    refine N_use hS572 ?_
    have hm := hm567
    refine N_then ?_
    refine G_ret ?_
    obtain rfl := Option.some.inj hm
    refine N_ret [.bool o565] (RVs_cons (RV_tmp (by kernel_rfl)) RVs_nil) ?_
    exact ⟨rfl, M570.pick [] (by kernel_rfl)⟩
theorem c_i_isWord16 (w : World) (x591 : Int) {r : Bool} (hm : M.i_isWord16 x591 = some r) :
    Calls Try.prog 94 #[.int .i64 x591] w fun e w' => e = .returned (.bool r) ∧ Mem [] w w' [] := by
  unfold M.i_isWord16 at hm
  refine C_enter Try.func94 rfl (by kernel_rfl) ?_
  have M0 := Mem.refl [] w
  refine G_seq ?_
  refine G_region ?_
  refine W_run 1 [(0, .int .i64 x591)] w (by kernel_rfl) ?_
  refine W_nil ?_
  refine N_then ?_
  refine G_seq ?_
  refine G_region ?_
  refine W_run 1 [(3, .int .i64 x591)] w (by kernel_rfl) ?_
  obtain ⟨r592, hr592, hm⟩ := gx_bind hm
  refine W_call 74 #[.int .i64 x591, .int .i64 0, .int .i64 65535] (by kernel_rfl) (by kernel_rfl) ?_
  refine (c_i_inside w x591 0 65535 hr592).mono ?_
  rintro e_ w593 ⟨rfl, K594⟩
  have M595 := M0.call0 K594
  refine ⟨_, rfl, ?_⟩
  refine W_run 1 [(2, .bool r592)] w593 (by kernel_rfl) ?_
  refine W_nil ?_
  refine N_then ?_
  refine G_ret ?_
  obtain rfl := Option.some.inj hm
  refine N_ret [.bool r592] (RVs_cons (RV_tmp (by kernel_rfl)) RVs_nil) ?_
  exact ⟨rfl, M595.pick [] (by kernel_rfl)⟩
theorem c_i_isMemory_1 (w : World) (x590 : Int) {r : Bool} (hm : M.i_isMemory_1 x590 = some r) :
    Calls Try.prog 93 #[.int .i64 x590] w fun e w' => e = .returned (.bool r) ∧ Mem [] w w' [] := by
  unfold M.i_isMemory_1 at hm
  refine C_enter Try.func93 rfl (by kernel_rfl) ?_
  have M0 := Mem.refl [] w
  refine G_seq ?_
  refine G_region ?_
  refine W_run 1 [(0, .int .i64 x590)] w (by kernel_rfl) ?_
  refine W_nil ?_
  refine N_then ?_
  refine G_seq ?_
  refine G_region ?_
  refine W_run 1 [(3, .int .i64 x590)] w (by kernel_rfl) ?_
  obtain ⟨r596, hr596, hm⟩ := gx_bind hm
  refine W_call 94 #[.int .i64 x590] (by kernel_rfl) (by kernel_rfl) ?_
  refine (c_i_isWord16 w x590 hr596).mono ?_
  rintro e_ w597 ⟨rfl, K598⟩
  have M599 := M0.call0 K598
  refine ⟨_, rfl, ?_⟩
  refine W_run 2 [(2, .bool (!r596))] w597 (by kernel_rfl) ?_
  refine W_nil ?_
  refine N_then ?_
  refine G_ret ?_
  obtain rfl := Option.some.inj hm
  refine N_ret [.bool (!r596)] (RVs_cons (RV_tmp (by kernel_rfl)) RVs_nil) ?_
  exact ⟨rfl, M599.pick [] (by kernel_rfl)⟩
theorem c_slices_IndexFunc_105__i_isMemory_1 (w : World) (x583 : List Int) (p585 : Option Addr) (c586 : Nat) (h587 : rdS encI w x583 p585 c586) {r : Int} (hm : M.slices_IndexFunc_105__i_isMemory_1 x583 = some r) :
    Calls Try.prog 105 #[.slice p585 x583.length c586, .func (.func 93) #[] #[]] w fun e w' => e = .returned (.int .i64 r) ∧ Mem [] w w' [] := by
  unfold M.slices_IndexFunc_105__i_isMemory_1 at hm
  refine C_enter Try.func105 rfl (by kernel_rfl) ?_
  have M0 := Mem.refl [] w
  refine G_seq ?_
  refine G_region ?_
  refine W_run 1 [(0, .slice p585 x583.length c586), (1, .func (.func 93) #[] #[])] w (by kernel_rfl) ?_
  refine W_nil ?_
  refine N_then ?_
  refine G_seq ?_
  refine G_seq ?_
  refine G_region ?_
  refine W_run 3 [(0, .slice p585 x583.length c586), (1, .func (.func 93) #[] #[]), (7, .int .i64 (x583.length : Int)), (8, .int .i64 0)] w (by kernel_rfl) ?_
  refine W_nil ?_
  refine N_then ?_
  obtain ⟨out619, hw620, hmo621⟩ := gx_bind hm
  refine G_meet (fun a w' => ∃ (o622 : Unit), out619 = .inl o622 ∧ Mem [] w w' [] ∧ Sat Try.f105.ntmps [] a) ?_ ?_
  · refine G_block ?_
    refine G_while (σ := Int) (ρ := (Unit) ⊕ (Int)) (fun s612 a w' => Mem [] w w' [] ∧ Sat Try.f105.ntmps [(0, .slice p585 x583.length c586), (1, .func (.func 93) #[] #[]), (7, .int .i64 (x583.length : Int)), (8, .int .i64 s612)] a) hw620 (fun a ha => ⟨M0.pick [] (by kernel_rfl), ha.sub (by kernel_rfl)⟩) ?_
    clear hm
    intro s612 x613 hm hout614 a615 w616 ⟨M617, hS618⟩
    refine G_use hS618 ?_
    refine G_seq ?_
    refine G_region ?_
    refine W_run 1 [(0, .slice p585 x583.length c586), (1, .func (.func 93) #[] #[]), (7, .int .i64 (x583.length : Int)), (8, .int .i64 s612), (9, .bool (decide (s612 < (x583.length : Int))))] w616 (by kernel_rfl) ?_
    refine W_nil ?_
    refine N_then ?_
    refine G_seq ?_
    rcases gx_bif hm with ⟨hc623, hm⟩ | ⟨hc623, hm⟩
    · refine G_cond_t (b := (decide (s612 < (x583.length : Int)))) hc623 (by kernel_rfl) ?_
      refine G_skip ?_
      refine N_then ?_
      refine G_seq ?_
      refine G_block ?_
      refine G_seq ?_
      refine G_region ?_
      refine W_run 2 [(0, .slice p585 x583.length c586), (1, .func (.func 93) #[] #[]), (5, .int .i64 s612), (7, .int .i64 (x583.length : Int)), (8, .int .i64 s612)] w616 (by kernel_rfl) ?_
      refine W_nil ?_
      refine N_then ?_
      refine G_seq ?_
      refine G_region ?_
      refine W_run 3 [(0, .slice p585 x583.length c586), (1, .func (.func 93) #[] #[]), (5, .int .i64 s612), (7, .int .i64 (x583.length : Int)), (8, .int .i64 s612), (11, .func (.func 93) #[] #[]), (12, .slice p585 x583.length c586), (13, .int .i64 s612)] w616 (by kernel_rfl) ?_
      obtain ⟨y624, hy624, hm⟩ := gx_bind hm
      refine W_val (elemP p585 (s612.toNat * 1)) w616 (by kernel_rfl) (E_index (E := encI) _ _ _ x583.length c586 .i64 s612 1 (y := y624) rfl (by kernel_rfl) (by kernel_rfl) (by kernel_rfl) (h587.mem0 M617) rfl hy624) ?_
      refine W_val (.int .i64 y624) w616 (by kernel_rfl) (E_loadE (E := encI) _ _ false 1 s612 0 (s612.toNat * 1) y624 (.int .i64 y624) rfl (by kernel_rfl) (by kernel_rfl) (by kernel_rfl) (h587.mem0 M617) hy624 rfl) ?_
      obtain ⟨r625, hr625, hm⟩ := gx_bind hm
      refine W_call 93 #[.int .i64 y624] (by kernel_rfl) (by kernel_rfl) ?_
      refine (c_i_isMemory_1 w616 y624 hr625).mono ?_
      rintro e_ w626 ⟨rfl, K627⟩
      have M628 := M617.call0 K627
      refine ⟨_, rfl, ?_⟩
      refine W_nil ?_
      refine N_then ?_
      rcases gx_bif hm with ⟨hc629, hm⟩ | ⟨hc629, hm⟩
      · refine G_cond_t (b := r625) hc629 (by kernel_rfl) ?_
        refine G_seq ?_
        refine G_region ?_
        refine W_run 2 [(4, .int .i64 s612)] w626 (by kernel_rfl) ?_
        refine W_nil ?_
        refine N_then ?_
        refine G_ret ?_
        refine N_block_ret ?_
        refine N_then_ret ?_
        refine N_then_ret ?_
        obtain rfl := Option.some.inj hm
        obtain rfl := hout614 _ rfl
        have hm := hmo621; simp only [Sum.elim_inr] at hm
        refine N_block_ret ?_
        refine N_meet_ret ?_
        refine N_then_ret ?_
        obtain rfl := Option.some.inj hm
        refine N_ret [.int .i64 s612] (RVs_cons (RV_tmp (by kernel_rfl)) RVs_nil) ?_
        exact ⟨rfl, M628.pick [] (by kernel_rfl)⟩
      · refine G_cond_f (b := r625) hc629 (by kernel_rfl) ?_
        refine G_skip ?_
        refine N_block ?_
        refine N_then ?_
        refine G_region ?_
        refine W_run 2 [(0, .slice p585 x583.length c586), (1, .func (.func 93) #[] #[]), (7, .int .i64 (x583.length : Int)), (8, .int .i64 (w64 (s612 + 1)))] w626 (by kernel_rfl) ?_
        refine W_nil ?_
        obtain rfl := Option.some.inj hm
        exact N_loop fun a ha => ⟨_, rfl, M628.pick [] (by kernel_rfl), ha.sub (by kernel_rfl)⟩
    · refine G_cond_f (b := (decide (s612 < (x583.length : Int)))) hc623 (by kernel_rfl) ?_
      refine G_exit ?_
      refine N_then_exit ?_
      refine N_then_exit ?_
      refine N_block_eq ?_
      obtain rfl := Option.some.inj hm
      obtain rfl := hout614 _ rfl
      exact N_meet fun a ha => ⟨_, rfl, M617.pick [] (by kernel_rfl), ha.sub (by kernel_rfl)⟩
  · intro a630 w631 ⟨o622, hout_, M632, hS633⟩
    refine N_use hS633 ?_
    subst hout_
    have hm := hmo621; simp only [Sum.elim_inl] at hm
    refine N_then ?_
    refine G_seq ?_
    refine G_region ?_
    refine W_run 1 [(4, .int .i64 (-1))] w631 (by kernel_rfl) ?_
    refine W_nil ?_
    refine N_then ?_
    refine G_ret ?_
    obtain rfl := Option.some.inj hm
    refine N_ret [.int .i64 (-1)] (RVs_cons (RV_tmp (by kernel_rfl)) RVs_nil) ?_
    exact ⟨rfl, M632.pick [] (by kernel_rfl)⟩
theorem c_slices_ContainsFunc_92__i_isMemory_1 (w : World) (x578 : List Int) (p580 : Option Addr) (c581 : Nat) (h582 : rdS encI w x578 p580 c581) {r : Bool} (hm : M.slices_ContainsFunc_92__i_isMemory_1 x578 = some r) :
    Calls Try.prog 92 #[.slice p580 x578.length c581, .func (.func 93) #[] #[]] w fun e w' => e = .returned (.bool r) ∧ Mem [] w w' [] := by
  unfold M.slices_ContainsFunc_92__i_isMemory_1 at hm
  refine C_enter Try.func92 rfl (by kernel_rfl) ?_
  have M0 := Mem.refl [] w
  refine G_seq ?_
  refine G_region ?_
  refine W_run 1 [(0, .slice p580 x578.length c581), (1, .func (.func 93) #[] #[])] w (by kernel_rfl) ?_
  refine W_nil ?_
  refine N_then ?_
  refine G_seq ?_
  refine G_region ?_
  refine W_run 2 [(5, .slice p580 x578.length c581), (6, .func (.func 93) #[] #[])] w (by kernel_rfl) ?_
  obtain ⟨r634, hr634, hm⟩ := gx_bind hm
  refine W_call 105 #[.slice p580 x578.length c581, .func (.func 93) #[] #[]] (by kernel_rfl) (by kernel_rfl) ?_
  refine (c_slices_IndexFunc_105__i_isMemory_1 w x578 p580 c581 (h582.mem0 M0) hr634).mono ?_
  rintro e_ w635 ⟨rfl, K636⟩
  have M637 := M0.call0 K636
  refine ⟨_, rfl, ?_⟩
  refine W_run 2 [(4, .bool (decide (r634 ≥ 0)))] w635 (by kernel_rfl) ?_
  refine W_nil ?_
  refine N_then ?_
  refine G_ret ?_
  obtain rfl := Option.some.inj hm
  refine N_ret [.bool (decide (r634 ≥ 0))] (RVs_cons (RV_tmp (by kernel_rfl)) RVs_nil) ?_
  exact ⟨rfl, M637.pick [] (by kernel_rfl)⟩
theorem c_i_isMemory (w : World) (x556 : List Int) (p558 : Option Addr) (c559 : Nat) (h560 : rdS encI w x556 p558 c559) {r : Bool} (hm : M.i_isMemory x556 = some r) :
    Calls Try.prog 58 #[.slice p558 x556.length c559] w fun e w' => e = .returned (.bool r) ∧ Mem [] w w' [] := by
  unfold M.i_isMemory at hm
  refine C_enter Try.func58 rfl (by kernel_rfl) ?_
  have M0 := Mem.refl [] w
  refine G_seq ?_
  refine G_region ?_
  refine W_run 1 [(0, .slice p558 x556.length c559)] w (by kernel_rfl) ?_
  refine W_nil ?_
  refine N_then ?_
  refine G_seq ?_
  obtain ⟨o642, ho643, hm644⟩ := gx_bind hm
  refine G_meet (fun a w' => Mem [] w w' [] ∧ Sat Try.f58.ntmps [(2, .bool o642)] a) ?_ ?_
  · have hm := ho643
    refine G_region ?_
    refine W_run 2 [(0, .slice p558 x556.length c559), (4, .int .i64 (x556.length : Int))] w (by kernel_rfl) ?_
    obtain ⟨r645, hr645, hm⟩ := gx_bind hm
    refine W_call 74 #[.int .i64 (x556.length : Int), .int .i64 1, .int .i64 12] (by kernel_rfl) (by kernel_rfl) ?_
    refine (c_i_inside w (x556.length : Int) 1 12 hr645).mono ?_
    rintro e_ w646 ⟨rfl, K647⟩
    have M648 := M0.call0 K647
    refine ⟨_, rfl, ?_⟩
    refine W_run 1 [(0, .slice p558 x556.length c559), (6, .bool r645)] w646 (by kernel_rfl) ?_
    rcases gx_bif hm with ⟨hc649, hm⟩ | ⟨hc649, hm⟩
    · refine W_known 6 true (by kernel_rfl) hc649 ?_
      refine W_run 1 [(6, .bool true), (7, .slice p558 x556.length c559)] w646 (by kernel_rfl) ?_
      obtain ⟨r650, hr650, hm⟩ := gx_bind hm
      refine W_call 92 #[.slice p558 x556.length c559, .func (.func 93) #[] #[]] (by kernel_rfl) (by kernel_rfl) ?_
      refine (c_slices_ContainsFunc_92__i_isMemory_1 w646 x556 p558 c559 (h560.mem0 M648) hr650).mono ?_
      rintro e_ w651 ⟨rfl, K652⟩
      have M653 := M648.call0 K652
      refine ⟨_, rfl, ?_⟩
      refine W_run 3 [(2, .bool (!r650))] w651 (by kernel_rfl) ?_
      refine W_nil ?_
      obtain rfl := Option.some.inj hm
      exact N_meet fun a ha => ⟨M653.pick [] (by kernel_rfl), ha.sub (by kernel_rfl)⟩
    · refine W_known 6 false (by kernel_rfl) hc649 ?_
      refine W_run 5 [(2, .bool false)] w646 (by kernel_rfl) ?_
      refine W_nil ?_
      obtain rfl := Option.some.inj hm
      exact N_meet fun a ha => ⟨M648.pick [] (by kernel_rfl), ha.sub (by kernel_rfl)⟩
  · intro a656 w654 ⟨M655, hS657⟩
    refine N_use hS657 ?_
    have hm := hm644
    refine N_then ?_
    refine G_ret ?_
    obtain rfl := Option.some.inj hm
    refine N_ret [.bool o642] (RVs_cons (RV_tmp (by kernel_rfl)) RVs_nil) ?_
    exact ⟨rfl, M655.pick [] (by kernel_rfl)⟩
theorem c_i_IsCopying (w : World) (x539 : Copying) (p541 : Option Addr) (c542 : Nat) (h543 : rdS encI w x539.Memory p541 c542) (p545 : Option Addr) (c546 : Nat) (h547 : rdS encI w x539.Copy p545 c546) (p549 : Option Addr) (c550 : Nat) (h551 : rdS encB w x539.Dirty p549 c550) {r : Bool} (hm : M.i_IsCopying x539 = some r) :
    Calls Try.prog 16 #[.agg #[.slice p541 x539.Memory.length c542, .slice p545 x539.Copy.length c546, .slice p549 x539.Dirty.length c550]] w fun e w' => e = .returned (.bool r) ∧ Mem [] w w' [] := by
  unfold M.i_IsCopying at hm
  refine C_enter Try.func16 rfl (by kernel_rfl) ?_
  have M0 := Mem.refl [] w
  refine G_seq ?_
  refine G_region ?_
  refine W_new (fun b => .pointer (some ⟨b, 0, none⟩)) (.cells ⟨[.slice p541 x539.Memory.length c542, .slice p545 x539.Copy.length c546, .slice p549 x539.Dirty.length c550]⟩ 28 (0, 0)) M0 rfl (by kernel_rfl) (by kernel_rfl) ?_
  intro b553 w554 M555
  refine W_run 1 [(1, .pointer (some ⟨b553, 0, none⟩))] w554 (by kernel_rfl) ?_
  refine W_nil ?_
  refine N_then ?_
  refine G_seq ?_
  refine G_seq ?_
  obtain ⟨o669, ho670, hm671⟩ := gx_bind hm
  refine G_meet (fun a w' => Mem [] w w' [[(b553, .cells ⟨[.slice p541 x539.Memory.length c542, .slice p545 x539.Copy.length c546, .slice p549 x539.Dirty.length c550]⟩ 28 (0, 0))]] ∧ Sat Try.f16.ntmps [(1, .pointer (some ⟨b553, 0, none⟩)), (32, .bool o669)] a) ?_ ?_
  · have hm := ho670
    refine G_region ?_
    refine W_run 1 [(1, .pointer (some ⟨b553, 0, none⟩)), (5, .pointer (some ⟨b553, 0, none⟩))] w554 (by kernel_rfl) ?_
    refine W_val (.slice p541 x539.Memory.length c542) w554 (by kernel_rfl) (E_load (e := 28) (fr := (0, 0)) _ _ false 1 b553 0 [.slice p541 x539.Memory.length c542, .slice p545 x539.Copy.length c546, .slice p549 x539.Dirty.length c550] (.slice p541 x539.Memory.length c542) rfl (by kernel_rfl) (by kernel_rfl) (by kernel_rfl) (M555.blk 0 (b := b553) (o := .cells ⟨[.slice p541 x539.Memory.length c542, .slice p545 x539.Copy.length c546, .slice p549 x539.Dirty.length c550]⟩ 28 (0, 0)) (by kernel_rfl))) ?_
    obtain ⟨r672, hr672, hm⟩ := gx_bind hm
    refine W_call 58 #[.slice p541 x539.Memory.length c542] (by kernel_rfl) (by kernel_rfl) ?_
    refine (c_i_isMemory w554 x539.Memory p541 c542 (h543.mem0 M555) hr672).mono ?_
    rintro e_ w673 ⟨rfl, K674⟩
    have M675 := M555.call0 K674
    refine ⟨_, rfl, ?_⟩
    refine W_run 2 [(1, .pointer (some ⟨b553, 0, none⟩)), (9, .bool (!r672))] w673 (by kernel_rfl) ?_
    rcases gx_bif hm with ⟨hc676, hm⟩ | ⟨hc676, hm⟩
    · refine W_known 9 true (by kernel_rfl) hc676 ?_
      refine W_run 23 [(1, .pointer (some ⟨b553, 0, none⟩)), (32, .bool true)] w673 (by kernel_rfl) ?_
      refine W_nil ?_
      obtain rfl := Option.some.inj hm
      exact N_meet fun a ha => ⟨M675.pick [0] (by kernel_rfl), ha.sub (by kernel_rfl)⟩
    · refine W_known 9 false (by kernel_rfl) hc676 ?_
      refine W_run 1 [(1, .pointer (some ⟨b553, 0, none⟩)), (9, .bool false), (10, .pointer (some ⟨b553, 1, none⟩))] w673 (by kernel_rfl) ?_
      refine W_val (.slice p545 x539.Copy.length c546) w673 (by kernel_rfl) (E_load (e := 28) (fr := (0, 0)) _ _ false 1 b553 1 [.slice p541 x539.Memory.length c542, .slice p545 x539.Copy.length c546, .slice p549 x539.Dirty.length c550] (.slice p545 x539.Copy.length c546) rfl (by kernel_rfl) (by kernel_rfl) (by kernel_rfl) (M675.blk 0 (b := b553) (o := .cells ⟨[.slice p541 x539.Memory.length c542, .slice p545 x539.Copy.length c546, .slice p549 x539.Dirty.length c550]⟩ 28 (0, 0)) (by kernel_rfl))) ?_
      obtain ⟨r677, hr677, hm⟩ := gx_bind hm
      refine W_call 58 #[.slice p545 x539.Copy.length c546] (by kernel_rfl) (by kernel_rfl) ?_
      refine (c_i_isMemory w673 x539.Copy p545 c546 (h547.mem0 M675) hr677).mono ?_
      rintro e_ w678 ⟨rfl, K679⟩
      have M680 := M675.call0 K679
      refine ⟨_, rfl, ?_⟩
      refine W_run 3 [(1, .pointer (some ⟨b553, 0, none⟩)), (15, .bool (!r677))] w678 (by kernel_rfl) ?_
      rcases gx_bif hm with ⟨hc681, hm⟩ | ⟨hc681, hm⟩
      · refine W_known 15 true (by kernel_rfl) hc681 ?_
        refine W_run 17 [(1, .pointer (some ⟨b553, 0, none⟩)), (32, .bool true)] w678 (by kernel_rfl) ?_
        refine W_nil ?_
        obtain rfl := Option.some.inj hm
        exact N_meet fun a ha => ⟨M680.pick [0] (by kernel_rfl), ha.sub (by kernel_rfl)⟩
      · refine W_known 15 false (by kernel_rfl) hc681 ?_
        refine W_run 1 [(1, .pointer (some ⟨b553, 0, none⟩)), (15, .bool false), (16, .pointer (some ⟨b553, 1, none⟩))] w678 (by kernel_rfl) ?_
        refine W_val (.slice p545 x539.Copy.length c546) w678 (by kernel_rfl) (E_load (e := 28) (fr := (0, 0)) _ _ false 1 b553 1 [.slice p541 x539.Memory.length c542, .slice p545 x539.Copy.length c546, .slice p549 x539.Dirty.length c550] (.slice p545 x539.Copy.length c546) rfl (by kernel_rfl) (by kernel_rfl) (by kernel_rfl) (M680.blk 0 (b := b553) (o := .cells ⟨[.slice p541 x539.Memory.length c542, .slice p545 x539.Copy.length c546, .slice p549 x539.Dirty.length c550]⟩ 28 (0, 0)) (by kernel_rfl))) ?_
        refine W_run 2 [(1, .pointer (some ⟨b553, 0, none⟩)), (15, .bool false), (18, .int .i64 (x539.Copy.length : Int)), (19, .pointer (some ⟨b553, 0, none⟩))] w678 (by kernel_rfl) ?_
        refine W_val (.slice p541 x539.Memory.length c542) w678 (by kernel_rfl) (E_load (e := 28) (fr := (0, 0)) _ _ false 1 b553 0 [.slice p541 x539.Memory.length c542, .slice p545 x539.Copy.length c546, .slice p549 x539.Dirty.length c550] (.slice p541 x539.Memory.length c542) rfl (by kernel_rfl) (by kernel_rfl) (by kernel_rfl) (M680.blk 0 (b := b553) (o := .cells ⟨[.slice p541 x539.Memory.length c542, .slice p545 x539.Copy.length c546, .slice p549 x539.Dirty.length c550]⟩ 28 (0, 0)) (by kernel_rfl))) ?_
        refine W_run 4 [(1, .pointer (some ⟨b553, 0, none⟩)), (24, .bool ((x539.Copy.length : Int) != (x539.Memory.length : Int)))] w678 (by kernel_rfl) ?_
        rcases gx_bif hm with ⟨hc682, hm⟩ | ⟨hc682, hm⟩
        · refine W_known 24 true (by kernel_rfl) hc682 ?_
          refine W_run 8 [(1, .pointer (some ⟨b553, 0, none⟩)), (32, .bool true)] w678 (by kernel_rfl) ?_
          refine W_nil ?_
          obtain rfl := Option.some.inj hm
          exact N_meet fun a ha => ⟨M680.pick [0] (by kernel_rfl), ha.sub (by kernel_rfl)⟩
        · refine W_known 24 false (by kernel_rfl) hc682 ?_
          refine W_run 1 [(1, .pointer (some ⟨b553, 0, none⟩)), (24, .bool false), (25, .pointer (some ⟨b553, 2, none⟩))] w678 (by kernel_rfl) ?_
          refine W_val (.slice p549 x539.Dirty.length c550) w678 (by kernel_rfl) (E_load (e := 28) (fr := (0, 0)) _ _ false 1 b553 2 [.slice p541 x539.Memory.length c542, .slice p545 x539.Copy.length c546, .slice p549 x539.Dirty.length c550] (.slice p549 x539.Dirty.length c550) rfl (by kernel_rfl) (by kernel_rfl) (by kernel_rfl) (M680.blk 0 (b := b553) (o := .cells ⟨[.slice p541 x539.Memory.length c542, .slice p545 x539.Copy.length c546, .slice p549 x539.Dirty.length c550]⟩ 28 (0, 0)) (by kernel_rfl))) ?_
          refine W_run 2 [(1, .pointer (some ⟨b553, 0, none⟩)), (24, .bool false), (27, .int .i64 (x539.Dirty.length : Int)), (28, .pointer (some ⟨b553, 0, none⟩))] w678 (by kernel_rfl) ?_
          refine W_val (.slice p541 x539.Memory.length c542) w678 (by kernel_rfl) (E_load (e := 28) (fr := (0, 0)) _ _ false 1 b553 0 [.slice p541 x539.Memory.length c542, .slice p545 x539.Copy.length c546, .slice p549 x539.Dirty.length c550] (.slice p541 x539.Memory.length c542) rfl (by kernel_rfl) (by kernel_rfl) (by kernel_rfl) (M680.blk 0 (b := b553) (o := .cells ⟨[.slice p541 x539.Memory.length c542, .slice p545 x539.Copy.length c546, .slice p549 x539.Dirty.length c550]⟩ 28 (0, 0)) (by kernel_rfl))) ?_
          refine W_run 3 [(1, .pointer (some ⟨b553, 0, none⟩)), (32, .bool ((x539.Dirty.length : Int) != (x539.Memory.length : Int)))] w678 (by kernel_rfl) ?_
          refine W_nil ?_
          obtain rfl := Option.some.inj hm
          exact N_meet fun a ha => ⟨M680.pick [0] (by kernel_rfl), ha.sub (by kernel_rfl)⟩
  · intro a685 w683 ⟨M684, hS686⟩
    refine N_use hS686 ?_
    have hm := hm671
    refine N_then ?_
    rcases gx_bif hm with ⟨hc687, hm⟩ | ⟨hc687, hm⟩
    · refine G_cond_t (b := o669) hc687 (by kernel_rfl) ?_
      refine G_seq ?_
      refine G_region ?_
      refine W_run 1 [(2, .bool false)] w683 (by kernel_rfl) ?_
      refine W_nil ?_
      refine N_then ?_
      refine G_ret ?_
      refine N_then_ret ?_
      obtain rfl := Option.some.inj hm
      refine N_ret [.bool false] (RVs_cons (RV_tmp (by kernel_rfl)) RVs_nil) ?_
      exact ⟨rfl, M684.pick [] (by kernel_rfl)⟩
    · refine G_cond_f (b := o669) hc687 (by kernel_rfl) ?_
      refine G_skip ?_
      refine N_then ?_
      refine G_seq ?_
      refine G_seq ?_
      refine G_region ?_
      refine W_run 1 [(1, .pointer (some ⟨b553, 0, none⟩)), (33, .pointer (some ⟨b553, 0, none⟩))] w683 (by kernel_rfl) ?_
      refine W_val (.slice p541 x539.Memory.length c542) w683 (by kernel_rfl) (E_load (e := 28) (fr := (0, 0)) _ _ false 1 b553 0 [.slice p541 x539.Memory.length c542, .slice p545 x539.Copy.length c546, .slice p549 x539.Dirty.length c550] (.slice p541 x539.Memory.length c542) rfl (by kernel_rfl) (by kernel_rfl) (by kernel_rfl) (M684.blk 0 (b := b553) (o := .cells ⟨[.slice p541 x539.Memory.length c542, .slice p545 x539.Copy.length c546, .slice p549 x539.Dirty.length c550]⟩ 28 (0, 0)) (by kernel_rfl))) ?_
      refine W_run 2 [(1, .pointer (some ⟨b553, 0, none⟩)), (34, .slice p541 x539.Memory.length c542), (35, .int .i64 (x539.Memory.length : Int)), (36, .int .i64 0)] w683 (by kernel_rfl) ?_
      refine W_nil ?_
      refine N_then ?_
      obtain ⟨out727, hw728, hmo729⟩ := gx_bind hm
      refine G_meet (fun a w' => ∃ (o730 : Unit), out727 = .inl o730 ∧ Mem [] w w' [] ∧ Sat Try.f16.ntmps [] a) ?_ ?_
      · refine G_block ?_
        refine G_while (σ := Int) (ρ := (Unit) ⊕ (Bool)) (fun s720 a w' => Mem [] w w' [[(b553, .cells ⟨[.slice p541 x539.Memory.length c542, .slice p545 x539.Copy.length c546, .slice p549 x539.Dirty.length c550]⟩ 28 (0, 0))]] ∧ Sat Try.f16.ntmps [(1, .pointer (some ⟨b553, 0, none⟩)), (34, .slice p541 x539.Memory.length c542), (35, .int .i64 (x539.Memory.length : Int)), (36, .int .i64 s720)] a) hw728 (fun a ha => ⟨M684.pick [0] (by kernel_rfl), ha.sub (by kernel_rfl)⟩) ?_
        clear hm
        intro s720 x721 hm hout722 a723 w724 ⟨M725, hS726⟩
        refine G_use hS726 ?_
        refine G_seq ?_
        refine G_region ?_
        refine W_run 1 [(1, .pointer (some ⟨b553, 0, none⟩)), (34, .slice p541 x539.Memory.length c542), (35, .int .i64 (x539.Memory.length : Int)), (36, .int .i64 s720), (37, .bool (decide (s720 < (x539.Memory.length : Int))))] w724 (by kernel_rfl) ?_
        refine W_nil ?_
        refine N_then ?_
        refine G_seq ?_
        rcases gx_bif hm with ⟨hc731, hm⟩ | ⟨hc731, hm⟩
        · refine G_cond_t (b := (decide (s720 < (x539.Memory.length : Int)))) hc731 (by kernel_rfl) ?_
          refine G_skip ?_
          refine N_then ?_
          refine G_seq ?_
          refine G_block ?_
          refine G_seq ?_
          refine G_region ?_
          refine W_run 1 [(1, .pointer (some ⟨b553, 0, none⟩)), (34, .slice p541 x539.Memory.length c542), (35, .int .i64 (x539.Memory.length : Int)), (36, .int .i64 s720), (38, .int .i64 s720)] w724 (by kernel_rfl) ?_
          obtain ⟨y732, hy732, hm⟩ := gx_bind hm
          refine W_val (elemP p541 (s720.toNat * 1)) w724 (by kernel_rfl) (E_index (E := encI) _ _ _ x539.Memory.length c542 .i64 s720 1 (y := y732) rfl (by kernel_rfl) (by kernel_rfl) (by kernel_rfl) (h543.mem0 M725) rfl hy732) ?_
          refine W_val (.int .i64 y732) w724 (by kernel_rfl) (E_loadE (E := encI) _ _ false 1 s720 0 (s720.toNat * 1) y732 (.int .i64 y732) rfl (by kernel_rfl) (by kernel_rfl) (by kernel_rfl) (h543.mem0 M725) hy732 rfl) ?_
          refine W_run 2 [(1, .pointer (some ⟨b553, 0, none⟩)), (3, .int .i64 s720), (4, .int .i64 y732), (34, .slice p541 x539.Memory.length c542), (35, .int .i64 (x539.Memory.length : Int)), (36, .int .i64 s720)] w724 (by kernel_rfl) ?_
          refine W_nil ?_
          refine N_then ?_
          refine G_seq ?_
          obtain ⟨o736, ho737, hm738⟩ := gx_bind hm
          refine G_meet (fun a w' => Mem [] w w' [[(b553, .cells ⟨[.slice p541 x539.Memory.length c542, .slice p545 x539.Copy.length c546, .slice p549 x539.Dirty.length c550]⟩ 28 (0, 0))]] ∧ Sat Try.f16.ntmps [(1, .pointer (some ⟨b553, 0, none⟩)), (34, .slice p541 x539.Memory.length c542), (35, .int .i64 (x539.Memory.length : Int)), (36, .int .i64 s720), (55, .bool o736)] a) ?_ ?_
          · have hm := ho737
            refine G_region ?_
            refine W_run 1 [(1, .pointer (some ⟨b553, 0, none⟩)), (3, .int .i64 s720), (4, .int .i64 y732), (34, .slice p541 x539.Memory.length c542), (35, .int .i64 (x539.Memory.length : Int)), (36, .int .i64 s720), (41, .pointer (some ⟨b553, 1, none⟩))] w724 (by kernel_rfl) ?_
            refine W_val (.slice p545 x539.Copy.length c546) w724 (by kernel_rfl) (E_load (e := 28) (fr := (0, 0)) _ _ false 1 b553 1 [.slice p541 x539.Memory.length c542, .slice p545 x539.Copy.length c546, .slice p549 x539.Dirty.length c550] (.slice p545 x539.Copy.length c546) rfl (by kernel_rfl) (by kernel_rfl) (by kernel_rfl) (M725.blk 0 (b := b553) (o := .cells ⟨[.slice p541 x539.Memory.length c542, .slice p545 x539.Copy.length c546, .slice p549 x539.Dirty.length c550]⟩ 28 (0, 0)) (by kernel_rfl))) ?_
            refine W_run 1 [(1, .pointer (some ⟨b553, 0, none⟩)), (3, .int .i64 s720), (4, .int .i64 y732), (34, .slice p541 x539.Memory.length c542), (35, .int .i64 (x539.Memory.length : Int)), (36, .int .i64 s720), (42, .slice p545 x539.Copy.length c546), (43, .int .i64 s720)] w724 (by kernel_rfl) ?_
            obtain ⟨y739, hy739, hm⟩ := gx_bind hm
            refine W_val (elemP p545 (s720.toNat * 1)) w724 (by kernel_rfl) (E_index (E := encI) _ _ _ x539.Copy.length c546 .i64 s720 1 (y := y739) rfl (by kernel_rfl) (by kernel_rfl) (by kernel_rfl) (h547.mem0 M725) rfl hy739) ?_
            refine W_val (.int .i64 y739) w724 (by kernel_rfl) (E_loadE (E := encI) _ _ false 1 s720 0 (s720.toNat * 1) y739 (.int .i64 y739) rfl (by kernel_rfl) (by kernel_rfl) (by kernel_rfl) (h547.mem0 M725) hy739 rfl) ?_
            refine W_run 3 [(1, .pointer (some ⟨b553, 0, none⟩)), (3, .int .i64 s720), (34, .slice p541 x539.Memory.length c542), (35, .int .i64 (x539.Memory.length : Int)), (36, .int .i64 s720), (48, .bool (y739 != y732))] w724 (by kernel_rfl) ?_
            rcases gx_bif hm with ⟨hc740, hm⟩ | ⟨hc740, hm⟩
            · refine W_known 48 true (by kernel_rfl) hc740 ?_
              refine W_run 1 [(1, .pointer (some ⟨b553, 0, none⟩)), (3, .int .i64 s720), (34, .slice p541 x539.Memory.length c542), (35, .int .i64 (x539.Memory.length : Int)), (36, .int .i64 s720), (48, .bool true), (49, .pointer (some ⟨b553, 2, none⟩))] w724 (by kernel_rfl) ?_
              refine W_val (.slice p549 x539.Dirty.length c550) w724 (by kernel_rfl) (E_load (e := 28) (fr := (0, 0)) _ _ false 1 b553 2 [.slice p541 x539.Memory.length c542, .slice p545 x539.Copy.length c546, .slice p549 x539.Dirty.length c550] (.slice p549 x539.Dirty.length c550) rfl (by kernel_rfl) (by kernel_rfl) (by kernel_rfl) (M725.blk 0 (b := b553) (o := .cells ⟨[.slice p541 x539.Memory.length c542, .slice p545 x539.Copy.length c546, .slice p549 x539.Dirty.length c550]⟩ 28 (0, 0)) (by kernel_rfl))) ?_
              refine W_run 1 [(1, .pointer (some ⟨b553, 0, none⟩)), (34, .slice p541 x539.Memory.length c542), (35, .int .i64 (x539.Memory.length : Int)), (36, .int .i64 s720), (48, .bool true), (50, .slice p549 x539.Dirty.length c550), (51, .int .i64 s720)] w724 (by kernel_rfl) ?_
              obtain ⟨y741, hy741, hm⟩ := gx_bind hm
              refine W_val (elemP p549 (s720.toNat * 1)) w724 (by kernel_rfl) (E_index (E := encB) _ _ _ x539.Dirty.length c550 .i64 s720 1 (y := y741) rfl (by kernel_rfl) (by kernel_rfl) (by kernel_rfl) (h551.mem0 M725) rfl hy741) ?_
              refine W_val (.bool y741) w724 (by kernel_rfl) (E_loadE (E := encB) _ _ false 1 s720 0 (s720.toNat * 1) y741 (.bool y741) rfl (by kernel_rfl) (by kernel_rfl) (by kernel_rfl) (h551.mem0 M725) hy741 rfl) ?_
              refine W_run 2 [(1, .pointer (some ⟨b553, 0, none⟩)), (34, .slice p541 x539.Memory.length c542), (35, .int .i64 (x539.Memory.length : Int)), (36, .int .i64 s720), (55, .bool (!y741))] w724 (by kernel_rfl) ?_
              refine W_nil ?_
              obtain rfl := Option.some.inj hm
              exact N_meet fun a ha => ⟨M725.pick [0] (by kernel_rfl), ha.sub (by kernel_rfl)⟩
            · refine W_known 48 false (by kernel_rfl) hc740 ?_
              refine W_run 7 [(1, .pointer (some ⟨b553, 0, none⟩)), (34, .slice p541 x539.Memory.length c542), (35, .int .i64 (x539.Memory.length : Int)), (36, .int .i64 s720), (55, .bool false)] w724 (by kernel_rfl) ?_
              refine W_nil ?_
              obtain rfl := Option.some.inj hm
              exact N_meet fun a ha => ⟨M725.pick [0] (by kernel_rfl), ha.sub (by kernel_rfl)⟩
          · intro a744 w742 ⟨M743, hS745⟩
            refine N_use hS745 ?_
            have hm := hm738
            refine N_then ?_
            rcases gx_bif hm with ⟨hc746, hm⟩ | ⟨hc746, hm⟩
            · refine G_cond_t (b := o736) hc746 (by kernel_rfl) ?_
              refine G_seq ?_
              refine G_region ?_
              refine W_run 1 [(2, .bool false)] w742 (by kernel_rfl) ?_
              refine W_nil ?_
              refine N_then ?_
              refine G_ret ?_
              refine N_block_ret ?_
              refine N_then_ret ?_
              refine N_then_ret ?_
              obtain rfl := Option.some.inj hm
              obtain rfl := hout722 _ rfl
              have hm := hmo729; simp only [Sum.elim_inr] at hm
              refine N_block_ret ?_
              refine N_meet_ret ?_
              refine N_then_ret ?_
              obtain rfl := Option.some.inj hm
              refine N_ret [.bool false] (RVs_cons (RV_tmp (by kernel_rfl)) RVs_nil) ?_
              exact ⟨rfl, M743.pick [] (by kernel_rfl)⟩
            · refine G_cond_f (b := o736) hc746 (by kernel_rfl) ?_
              refine G_skip ?_
              refine N_block ?_
              refine N_then ?_
              refine G_region ?_
              refine W_run 2 [(1, .pointer (some ⟨b553, 0, none⟩)), (34, .slice p541 x539.Memory.length c542), (35, .int .i64 (x539.Memory.length : Int)), (36, .int .i64 (w64 (s720 + 1)))] w742 (by kernel_rfl) ?_
              refine W_nil ?_
              obtain rfl := Option.some.inj hm
              exact N_loop fun a ha => ⟨_, rfl, M743.pick [0] (by kernel_rfl), ha.sub (by kernel_rfl)⟩
        · refine G_cond_f (b := (decide (s720 < (x539.Memory.length : Int)))) hc731 (by kernel_rfl) ?_
          refine G_exit ?_
          refine N_then_exit ?_
          refine N_then_exit ?_
          refine N_block_eq ?_
          obtain rfl := Option.some.inj hm
          obtain rfl := hout722 _ rfl
          exact N_meet fun a ha => ⟨_, rfl, M725.pick [] (by kernel_rfl), ha.sub (by kernel_rfl)⟩
      · intro a747 w748 ⟨o730, hout_, M749, hS750⟩
        refine N_use hS750 ?_
        subst hout_
        have hm := hmo729; simp only [Sum.elim_inl] at hm
        refine N_then ?_
        refine G_seq ?_
        refine G_region ?_
        refine W_run 1 [(2, .bool true)] w748 (by kernel_rfl) ?_
        refine W_nil ?_
        refine N_then ?_
        refine G_ret ?_
        obtain rfl := Option.some.inj hm
        refine N_ret [.bool true] (RVs_cons (RV_tmp (by kernel_rfl)) RVs_nil) ?_
        exact ⟨rfl, M749.pick [] (by kernel_rfl)⟩
theorem c_l_eqIntS (w : World) (x824 : List Int) (p826 : Option Addr) (c827 : Nat) (h828 : rdS encI w x824 p826 c827) (x829 : List Int) (p831 : Option Addr) (c832 : Nat) (h833 : rdS encI w x829 p831 c832) {r : Bool} (hm : M.l_eqIntS x824 x829 = some r) :
    Calls Try.prog 21 #[.slice p826 x824.length c827, .slice p831 x829.length c832] w fun e w' => e = .returned (.bool r) ∧ Mem [] w w' [] := by
  unfold M.l_eqIntS at hm
  refine C_enter Try.func21 rfl (by kernel_rfl) ?_
  have M0 := Mem.refl [] w
  refine G_seq ?_
  refine G_region ?_
  refine W_run 1 [(0, .slice p826 x824.length c827), (1, .slice p831 x829.length c832)] w (by kernel_rfl) ?_
  refine W_nil ?_
  refine N_then ?_
  refine G_seq ?_
  refine G_seq ?_
  refine G_region ?_
  refine W_run 5 [(0, .slice p826 x824.length c827), (1, .slice p831 x829.length c832), (10, .bool ((x824.length : Int) != (x829.length : Int)))] w (by kernel_rfl) ?_
  refine W_nil ?_
  refine N_then ?_
  rcases gx_bif hm with ⟨hc834, hm⟩ | ⟨hc834, hm⟩
  · refine G_cond_t (b := ((x824.length : Int) != (x829.length : Int))) hc834 (by kernel_rfl) ?_
    refine G_seq ?_
    refine G_region ?_
    refine W_run 1 [(4, .bool false)] w (by kernel_rfl) ?_
    refine W_nil ?_
    refine N_then ?_
    refine G_ret ?_
    refine N_then_ret ?_
    obtain rfl := Option.some.inj hm
    refine N_ret [.bool false] (RVs_cons (RV_tmp (by kernel_rfl)) RVs_nil) ?_
    exact ⟨rfl, M0.pick [] (by kernel_rfl)⟩
  · refine G_cond_f (b := ((x824.length : Int) != (x829.length : Int))) hc834 (by kernel_rfl) ?_
    refine G_skip ?_
    refine N_then ?_
    refine G_seq ?_
    refine G_seq ?_
    refine G_region ?_
    refine W_run 1 [(0, .slice p826 x824.length c827), (1, .slice p831 x829.length c832), (5, .int .i64 0)] w (by kernel_rfl) ?_
    refine W_nil ?_
    refine N_then ?_
    obtain ⟨out854, hw855, hmo856⟩ := gx_bind hm
    refine G_meet (fun a w' => ∃ (o857 : Unit), out854 = .inl o857 ∧ Mem [] w w' [] ∧ Sat Try.f21.ntmps [] a) ?_ ?_
    · refine G_block ?_
      refine G_while (σ := Int) (ρ := (Unit) ⊕ (Bool)) (fun s847 a w' => Mem [] w w' [] ∧ Sat Try.f21.ntmps [(0, .slice p826 x824.length c827), (1, .slice p831 x829.length c832), (5, .int .i64 s847)] a) hw855 (fun a ha => ⟨M0.pick [] (by kernel_rfl), ha.sub (by kernel_rfl)⟩) ?_
      clear hm
      intro s847 x848 hm hout849 a850 w851 ⟨M852, hS853⟩
      refine G_use hS853 ?_
      refine G_seq ?_
      refine G_seq ?_
      refine G_region ?_
      refine W_run 4 [(0, .slice p826 x824.length c827), (1, .slice p831 x829.length c832), (5, .int .i64 s847), (14, .bool (decide (s847 < (x824.length : Int))))] w851 (by kernel_rfl) ?_
      refine W_nil ?_
      refine N_then ?_
      rcases gx_bif hm with ⟨hc858, hm⟩ | ⟨hc858, hm⟩
      · refine G_cond_t (b := (decide (s847 < (x824.length : Int)))) hc858 (by kernel_rfl) ?_
        refine G_skip ?_
        refine N_then ?_
        refine G_seq ?_
        refine G_block ?_
        refine G_seq ?_
        refine G_quiet (by kernel_rfl) (by kernel_rfl) M852 ?_
        refine Z_runs [.slice p826 x824.length c827, .int .i64 s847] [(0, .slice p826 x824.length c827), (1, .slice p831 x829.length c832), (5, .int .i64 s847), (17, .slice p826 x824.length c827), (18, .int .i64 s847)] (fun w_ => by kernel_rfl) (by kernel_rfl) ?_
        obtain ⟨y859, hy859, hm⟩ := gx_bind hm
        refine Z_val (elemP p826 (s847.toNat * 1)) (by kernel_rfl) (fun w_ M_ => (E_index (E := encI) _ _ _ x824.length c827 .i64 s847 1 (y := y859) rfl (by kernel_rfl) (by kernel_rfl) (by kernel_rfl) (h828.mem0 M_) rfl hy859)) ?_
        refine Z_val (.int .i64 y859) (by kernel_rfl) (fun w_ M_ => (E_loadE (E := encI) _ _ false 1 s847 0 (s847.toNat * 1) y859 (.int .i64 y859) rfl (by kernel_rfl) (by kernel_rfl) (by kernel_rfl) (h828.mem0 M_) hy859 rfl)) ?_
        refine Z_runs [.slice p831 x829.length c832, .int .i64 s847] [(0, .slice p826 x824.length c827), (1, .slice p831 x829.length c832), (5, .int .i64 s847), (20, .int .i64 y859), (21, .slice p831 x829.length c832), (22, .int .i64 s847)] (fun w_ => by kernel_rfl) (by kernel_rfl) ?_
        obtain ⟨y860, hy860, hm⟩ := gx_bind hm
        refine Z_val (elemP p831 (s847.toNat * 1)) (by kernel_rfl) (fun w_ M_ => (E_index (E := encI) _ _ _ x829.length c832 .i64 s847 1 (y := y860) rfl (by kernel_rfl) (by kernel_rfl) (by kernel_rfl) (h833.mem0 M_) rfl hy860)) ?_
        refine Z_val (.int .i64 y860) (by kernel_rfl) (fun w_ M_ => (E_loadE (E := encI) _ _ false 1 s847 0 (s847.toNat * 1) y860 (.int .i64 y860) rfl (by kernel_rfl) (by kernel_rfl) (by kernel_rfl) (h833.mem0 M_) hy860 rfl)) ?_
        refine Z_runs [.bool (y859 != y860)] [(0, .slice p826 x824.length c827), (1, .slice p831 x829.length c832), (5, .int .i64 s847), (25, .bool (y859 != y860))] (fun w_ => by kernel_rfl) (by kernel_rfl) ?_
        refine Z_end fun w861 M862 => ?_
        refine N_then ?_
        rcases gx_bif hm with ⟨hc863, hm⟩ | ⟨hc863, hm⟩
        · refine G_cond_t (b := (y859 != y860)) hc863 (by kernel_rfl) ?_
          refine G_seq ?_
          refine G_region ?_
          refine W_run 1 [(4, .bool false)] w861 (by kernel_rfl) ?_
          refine W_nil ?_
          refine N_then ?_
          refine G_ret ?_
          refine N_block_ret ?_
          refine N_then_ret ?_
          refine N_then_ret ?_
          obtain rfl := Option.some.inj hm
          obtain rfl := hout849 _ rfl
          have hm := hmo856; simp only [Sum.elim_inr] at hm
          refine N_block_ret ?_
          refine N_meet_ret ?_
          refine N_then_ret ?_
          obtain rfl := Option.some.inj hm
          refine N_ret [.bool false] (RVs_cons (RV_tmp (by kernel_rfl)) RVs_nil) ?_
          exact ⟨rfl, M862.pick [] (by kernel_rfl)⟩
        · refine G_cond_f (b := (y859 != y860)) hc863 (by kernel_rfl) ?_
          refine G_skip ?_
          refine N_block ?_
          refine N_then ?_
          refine G_region ?_
          refine W_run 3 [(0, .slice p826 x824.length c827), (1, .slice p831 x829.length c832), (5, .int .i64 (w64 (s847 + 1)))] w861 (by kernel_rfl) ?_
          refine W_nil ?_
          obtain rfl := Option.some.inj hm
          exact N_loop fun a ha => ⟨_, rfl, M862.pick [] (by kernel_rfl), ha.sub (by kernel_rfl)⟩
      · refine G_cond_f (b := (decide (s847 < (x824.length : Int)))) hc858 (by kernel_rfl) ?_
        refine G_exit ?_
        refine N_then_exit ?_
        refine N_then_exit ?_
        refine N_block_eq ?_
        obtain rfl := Option.some.inj hm
        obtain rfl := hout849 _ rfl
        exact N_meet fun a ha => ⟨_, rfl, M852.pick [] (by kernel_rfl), ha.sub (by kernel_rfl)⟩
    · intro a864 w865 ⟨o857, hout_, M866, hS867⟩
      refine N_use hS867 ?_
      subst hout_
      have hm := hmo856; simp only [Sum.elim_inl] at hm
      refine N_then ?_
      refine G_seq ?_
      refine G_region ?_
      refine W_run 1 [(4, .bool true)] w865 (by kernel_rfl) ?_
      refine W_nil ?_
      refine N_then ?_
      refine G_ret ?_
      obtain rfl := Option.some.inj hm
      refine N_ret [.bool true] (RVs_cons (RV_tmp (by kernel_rfl)) RVs_nil) ?_
      exact ⟨rfl, M866.pick [] (by kernel_rfl)⟩
theorem c_l_eqBoolS (w : World) (x878 : List Bool) (p880 : Option Addr) (c881 : Nat) (h882 : rdS encB w x878 p880 c881) (x883 : List Bool) (p885 : Option Addr) (c886 : Nat) (h887 : rdS encB w x883 p885 c886) {r : Bool} (hm : M.l_eqBoolS x878 x883 = some r) :
    Calls Try.prog 59 #[.slice p880 x878.length c881, .slice p885 x883.length c886] w fun e w' => e = .returned (.bool r) ∧ Mem [] w w' [] := by
  unfold M.l_eqBoolS at hm
  refine C_enter Try.func59 rfl (by kernel_rfl) ?_
  have M0 := Mem.refl [] w
  refine G_seq ?_
  refine G_region ?_
  refine W_run 1 [(0, .slice p880 x878.length c881), (1, .slice p885 x883.length c886)] w (by kernel_rfl) ?_
  refine W_nil ?_
  refine N_then ?_
  refine G_seq ?_
  refine G_seq ?_
  refine G_region ?_
  refine W_run 5 [(0, .slice p880 x878.length c881), (1, .slice p885 x883.length c886), (10, .bool ((x878.length : Int) != (x883.length : Int)))] w (by kernel_rfl) ?_
  refine W_nil ?_
  refine N_then ?_
  rcases gx_bif hm with ⟨hc888, hm⟩ | ⟨hc888, hm⟩
  · refine G_cond_t (b := ((x878.length : Int) != (x883.length : Int))) hc888 (by kernel_rfl) ?_
    refine G_seq ?_
    refine G_region ?_
    refine W_run 1 [(4, .bool false)] w (by kernel_rfl) ?_
    refine W_nil ?_
    refine N_then ?_
    refine G_ret ?_
    refine N_then_ret ?_
    obtain rfl := Option.some.inj hm
    refine N_ret [.bool false] (RVs_cons (RV_tmp (by kernel_rfl)) RVs_nil) ?_
    exact ⟨rfl, M0.pick [] (by kernel_rfl)⟩
  · refine G_cond_f (b := ((x878.length : Int) != (x883.length : Int))) hc888 (by kernel_rfl) ?_
    refine G_skip ?_
    refine N_then ?_
    refine G_seq ?_
    refine G_seq ?_
    refine G_region ?_
    refine W_run 1 [(0, .slice p880 x878.length c881), (1, .slice p885 x883.length c886), (5, .int .i64 0)] w (by kernel_rfl) ?_
    refine W_nil ?_
    refine N_then ?_
    obtain ⟨out908, hw909, hmo910⟩ := gx_bind hm
    refine G_meet (fun a w' => ∃ (o911 : Unit), out908 = .inl o911 ∧ Mem [] w w' [] ∧ Sat Try.f59.ntmps [] a) ?_ ?_
    · refine G_block ?_
      refine G_while (σ := Int) (ρ := (Unit) ⊕ (Bool)) (fun s901 a w' => Mem [] w w' [] ∧ Sat Try.f59.ntmps [(0, .slice p880 x878.length c881), (1, .slice p885 x883.length c886), (5, .int .i64 s901)] a) hw909 (fun a ha => ⟨M0.pick [] (by kernel_rfl), ha.sub (by kernel_rfl)⟩) ?_
      clear hm
      intro s901 x902 hm hout903 a904 w905 ⟨M906, hS907⟩
      refine G_use hS907 ?_
      refine G_seq ?_
      refine G_seq ?_
      refine G_region ?_
      refine W_run 4 [(0, .slice p880 x878.length c881), (1, .slice p885 x883.length c886), (5, .int .i64 s901), (14, .bool (decide (s901 < (x878.length : Int))))] w905 (by kernel_rfl) ?_
      refine W_nil ?_
      refine N_then ?_
      rcases gx_bif hm with ⟨hc912, hm⟩ | ⟨hc912, hm⟩
      · refine G_cond_t (b := (decide (s901 < (x878.length : Int)))) hc912 (by kernel_rfl) ?_
        refine G_skip ?_
        refine N_then ?_
        refine G_seq ?_
        refine G_block ?_
        refine G_seq ?_
        refine G_quiet (by kernel_rfl) (by kernel_rfl) M906 ?_
        refine Z_runs [.slice p880 x878.length c881, .int .i64 s901] [(0, .slice p880 x878.length c881), (1, .slice p885 x883.length c886), (5, .int .i64 s901), (17, .slice p880 x878.length c881), (18, .int .i64 s901)] (fun w_ => by kernel_rfl) (by kernel_rfl) ?_
        obtain ⟨y913, hy913, hm⟩ := gx_bind hm
        refine Z_val (elemP p880 (s901.toNat * 1)) (by kernel_rfl) (fun w_ M_ => (E_index (E := encB) _ _ _ x878.length c881 .i64 s901 1 (y := y913) rfl (by kernel_rfl) (by kernel_rfl) (by kernel_rfl) (h882.mem0 M_) rfl hy913)) ?_
        refine Z_val (.bool y913) (by kernel_rfl) (fun w_ M_ => (E_loadE (E := encB) _ _ false 1 s901 0 (s901.toNat * 1) y913 (.bool y913) rfl (by kernel_rfl) (by kernel_rfl) (by kernel_rfl) (h882.mem0 M_) hy913 rfl)) ?_
        refine Z_runs [.slice p885 x883.length c886, .int .i64 s901] [(0, .slice p880 x878.length c881), (1, .slice p885 x883.length c886), (5, .int .i64 s901), (20, .bool y913), (21, .slice p885 x883.length c886), (22, .int .i64 s901)] (fun w_ => by kernel_rfl) (by kernel_rfl) ?_
        obtain ⟨y914, hy914, hm⟩ := gx_bind hm
        refine Z_val (elemP p885 (s901.toNat * 1)) (by kernel_rfl) (fun w_ M_ => (E_index (E := encB) _ _ _ x883.length c886 .i64 s901 1 (y := y914) rfl (by kernel_rfl) (by kernel_rfl) (by kernel_rfl) (h887.mem0 M_) rfl hy914)) ?_
        refine Z_val (.bool y914) (by kernel_rfl) (fun w_ M_ => (E_loadE (E := encB) _ _ false 1 s901 0 (s901.toNat * 1) y914 (.bool y914) rfl (by kernel_rfl) (by kernel_rfl) (by kernel_rfl) (h887.mem0 M_) hy914 rfl)) ?_
        refine Z_runs [.bool (!(y913 == y914))] [(0, .slice p880 x878.length c881), (1, .slice p885 x883.length c886), (5, .int .i64 s901), (25, .bool (!(y913 == y914)))] (fun w_ => by kernel_rfl) (by kernel_rfl) ?_
        refine Z_end fun w915 M916 => ?_
        refine N_then ?_
        rcases gx_bif hm with ⟨hc917, hm⟩ | ⟨hc917, hm⟩
        · refine G_cond_t (b := (!(y913 == y914))) hc917 (by kernel_rfl) ?_
          refine G_seq ?_
          refine G_region ?_
          refine W_run 1 [(4, .bool false)] w915 (by kernel_rfl) ?_
          refine W_nil ?_
          refine N_then ?_
          refine G_ret ?_
          refine N_block_ret ?_
          refine N_then_ret ?_
          refine N_then_ret ?_
          obtain rfl := Option.some.inj hm
          obtain rfl := hout903 _ rfl
          have hm := hmo910; simp only [Sum.elim_inr] at hm
          refine N_block_ret ?_
          refine N_meet_ret ?_
          refine N_then_ret ?_
          obtain rfl := Option.some.inj hm
          refine N_ret [.bool false] (RVs_cons (RV_tmp (by kernel_rfl)) RVs_nil) ?_
          exact ⟨rfl, M916.pick [] (by kernel_rfl)⟩
        · refine G_cond_f (b := (!(y913 == y914))) hc917 (by kernel_rfl) ?_
          refine G_skip ?_
          refine N_block ?_
          refine N_then ?_
          refine G_region ?_
          refine W_run 3 [(0, .slice p880 x878.length c881), (1, .slice p885 x883.length c886), (5, .int .i64 (w64 (s901 + 1)))] w915 (by kernel_rfl) ?_
          refine W_nil ?_
          obtain rfl := Option.some.inj hm
          exact N_loop fun a ha => ⟨_, rfl, M916.pick [] (by kernel_rfl), ha.sub (by kernel_rfl)⟩
      · refine G_cond_f (b := (decide (s901 < (x878.length : Int)))) hc912 (by kernel_rfl) ?_
        refine G_exit ?_
        refine N_then_exit ?_
        refine N_then_exit ?_
        refine N_block_eq ?_
        obtain rfl := Option.some.inj hm
        obtain rfl := hout903 _ rfl
        exact N_meet fun a ha => ⟨_, rfl, M906.pick [] (by kernel_rfl), ha.sub (by kernel_rfl)⟩
    · intro a918 w919 ⟨o911, hout_, M920, hS921⟩
      refine N_use hS921 ?_
      subst hout_
      have hm := hmo910; simp only [Sum.elim_inl] at hm
      refine N_then ?_
      refine G_seq ?_
      refine G_region ?_
      refine W_run 1 [(4, .bool true)] w919 (by kernel_rfl) ?_
      refine W_nil ?_
      refine N_then ?_
      refine G_ret ?_
      obtain rfl := Option.some.inj hm
      refine N_ret [.bool true] (RVs_cons (RV_tmp (by kernel_rfl)) RVs_nil) ?_
      exact ⟨rfl, M920.pick [] (by kernel_rfl)⟩
theorem c_l_eqCopying (w : World) (x790 : Copying) (p792 : Option Addr) (c793 : Nat) (h794 : rdS encI w x790.Memory p792 c793) (p796 : Option Addr) (c797 : Nat) (h798 : rdS encI w x790.Copy p796 c797) (p800 : Option Addr) (c801 : Nat) (h802 : rdS encB w x790.Dirty p800 c801) (x803 : Copying) (p805 : Option Addr) (c806 : Nat) (h807 : rdS encI w x803.Memory p805 c806) (p809 : Option Addr) (c810 : Nat) (h811 : rdS encI w x803.Copy p809 c810) (p813 : Option Addr) (c814 : Nat) (h815 : rdS encB w x803.Dirty p813 c814) {r : Bool} (hm : M.l_eqCopying x790 x803 = some r) :
    Calls Try.prog 17 #[.agg #[.slice p792 x790.Memory.length c793, .slice p796 x790.Copy.length c797, .slice p800 x790.Dirty.length c801], .agg #[.slice p805 x803.Memory.length c806, .slice p809 x803.Copy.length c810, .slice p813 x803.Dirty.length c814]] w fun e w' => e = .returned (.bool r) ∧ Mem [] w w' [] := by
  unfold M.l_eqCopying at hm
  refine C_enter Try.func17 rfl (by kernel_rfl) ?_
  have M0 := Mem.refl [] w
  refine G_seq ?_
  refine G_region ?_
  refine W_new (fun b => .pointer (some ⟨b, 0, none⟩)) (.cells ⟨[.slice p792 x790.Memory.length c793, .slice p796 x790.Copy.length c797, .slice p800 x790.Dirty.length c801]⟩ 28 (0, 0)) M0 rfl (by kernel_rfl) (by kernel_rfl) ?_
  intro b817 w818 M819
  refine W_new (fun b => .pointer (some ⟨b, 0, none⟩)) (.cells ⟨[.slice p805 x803.Memory.length c806, .slice p809 x803.Copy.length c810, .slice p813 x803.Dirty.length c814]⟩ 28 (0, 0)) M819 rfl (by kernel_rfl) (by kernel_rfl) ?_
  intro b821 w822 M823
  refine W_run 1 [(2, .pointer (some ⟨b817, 0, none⟩)), (3, .pointer (some ⟨b821, 0, none⟩))] w822 (by kernel_rfl) ?_
  refine W_nil ?_
  refine N_then ?_
  refine G_seq ?_
  refine G_seq ?_
  refine G_region ?_
  refine W_run 1 [(2, .pointer (some ⟨b817, 0, none⟩)), (3, .pointer (some ⟨b821, 0, none⟩)), (5, .pointer (some ⟨b817, 0, none⟩))] w822 (by kernel_rfl) ?_
  refine W_val (.slice p792 x790.Memory.length c793) w822 (by kernel_rfl) (E_load (e := 28) (fr := (0, 0)) _ _ false 1 b817 0 [.slice p792 x790.Memory.length c793, .slice p796 x790.Copy.length c797, .slice p800 x790.Dirty.length c801] (.slice p792 x790.Memory.length c793) rfl (by kernel_rfl) (by kernel_rfl) (by kernel_rfl) (M823.blk 0 (b := b817) (o := .cells ⟨[.slice p792 x790.Memory.length c793, .slice p796 x790.Copy.length c797, .slice p800 x790.Dirty.length c801]⟩ 28 (0, 0)) (by kernel_rfl))) ?_
  refine W_run 1 [(2, .pointer (some ⟨b817, 0, none⟩)), (3, .pointer (some ⟨b821, 0, none⟩)), (6, .slice p792 x790.Memory.length c793), (7, .pointer (some ⟨b821, 0, none⟩))] w822 (by kernel_rfl) ?_
  refine W_val (.slice p805 x803.Memory.length c806) w822 (by kernel_rfl) (E_load (e := 28) (fr := (0, 0)) _ _ false 1 b821 0 [.slice p805 x803.Memory.length c806, .slice p809 x803.Copy.length c810, .slice p813 x803.Dirty.length c814] (.slice p805 x803.Memory.length c806) rfl (by kernel_rfl) (by kernel_rfl) (by kernel_rfl) (M823.blk 1 (b := b821) (o := .cells ⟨[.slice p805 x803.Memory.length c806, .slice p809 x803.Copy.length c810, .slice p813 x803.Dirty.length c814]⟩ 28 (0, 0)) (by kernel_rfl))) ?_
  obtain ⟨r868, hr868, hm⟩ := gx_bind hm
  refine W_call 21 #[.slice p792 x790.Memory.length c793, .slice p805 x803.Memory.length c806] (by kernel_rfl) (by kernel_rfl) ?_
  refine (c_l_eqIntS w822 x790.Memory p792 c793 (h794.mem0 M823) x803.Memory p805 c806 (h807.mem0 M823) hr868).mono ?_
  rintro e_ w869 ⟨rfl, K870⟩
  have M871 := M823.call0 K870
  refine ⟨_, rfl, ?_⟩
  refine W_run 1 [(2, .pointer (some ⟨b817, 0, none⟩)), (3, .pointer (some ⟨b821, 0, none⟩)), (10, .bool (!r868))] w869 (by kernel_rfl) ?_
  refine W_nil ?_
  refine N_then ?_
  rcases gx_bif hm with ⟨hc872, hm⟩ | ⟨hc872, hm⟩
  · refine G_cond_t (b := (!r868)) hc872 (by kernel_rfl) ?_
    refine G_seq ?_
    refine G_region ?_
    refine W_run 1 [(4, .bool false)] w869 (by kernel_rfl) ?_
    refine W_nil ?_
    refine N_then ?_
    refine G_ret ?_
    refine N_then_ret ?_
    obtain rfl := Option.some.inj hm
    refine N_ret [.bool false] (RVs_cons (RV_tmp (by kernel_rfl)) RVs_nil) ?_
    exact ⟨rfl, M871.pick [] (by kernel_rfl)⟩
  · refine G_cond_f (b := (!r868)) hc872 (by kernel_rfl) ?_
    refine G_skip ?_
    refine N_then ?_
    refine G_seq ?_
    refine G_seq ?_
    refine G_region ?_
    refine W_run 1 [(2, .pointer (some ⟨b817, 0, none⟩)), (3, .pointer (some ⟨b821, 0, none⟩)), (11, .pointer (some ⟨b817, 1, none⟩))] w869 (by kernel_rfl) ?_
    refine W_val (.slice p796 x790.Copy.length c797) w869 (by kernel_rfl) (E_load (e := 28) (fr := (0, 0)) _ _ false 1 b817 1 [.slice p792 x790.Memory.length c793, .slice p796 x790.Copy.length c797, .slice p800 x790.Dirty.length c801] (.slice p796 x790.Copy.length c797) rfl (by kernel_rfl) (by kernel_rfl) (by kernel_rfl) (M871.blk 0 (b := b817) (o := .cells ⟨[.slice p792 x790.Memory.length c793, .slice p796 x790.Copy.length c797, .slice p800 x790.Dirty.length c801]⟩ 28 (0, 0)) (by kernel_rfl))) ?_
    refine W_run 1 [(2, .pointer (some ⟨b817, 0, none⟩)), (3, .pointer (some ⟨b821, 0, none⟩)), (12, .slice p796 x790.Copy.length c797), (13, .pointer (some ⟨b821, 1, none⟩))] w869 (by kernel_rfl) ?_
    refine W_val (.slice p809 x803.Copy.length c810) w869 (by kernel_rfl) (E_load (e := 28) (fr := (0, 0)) _ _ false 1 b821 1 [.slice p805 x803.Memory.length c806, .slice p809 x803.Copy.length c810, .slice p813 x803.Dirty.length c814] (.slice p809 x803.Copy.length c810) rfl (by kernel_rfl) (by kernel_rfl) (by kernel_rfl) (M871.blk 1 (b := b821) (o := .cells ⟨[.slice p805 x803.Memory.length c806, .slice p809 x803.Copy.length c810, .slice p813 x803.Dirty.length c814]⟩ 28 (0, 0)) (by kernel_rfl))) ?_
    obtain ⟨r873, hr873, hm⟩ := gx_bind hm
    refine W_call 21 #[.slice p796 x790.Copy.length c797, .slice p809 x803.Copy.length c810] (by kernel_rfl) (by kernel_rfl) ?_
    refine (c_l_eqIntS w869 x790.Copy p796 c797 (h798.mem0 M871) x803.Copy p809 c810 (h811.mem0 M871) hr873).mono ?_
    rintro e_ w874 ⟨rfl, K875⟩
    have M876 := M871.call0 K875
    refine ⟨_, rfl, ?_⟩
    refine W_run 1 [(2, .pointer (some ⟨b817, 0, none⟩)), (3, .pointer (some ⟨b821, 0, none⟩)), (16, .bool (!r873))] w874 (by kernel_rfl) ?_
    refine W_nil ?_
    refine N_then ?_
    rcases gx_bif hm with ⟨hc877, hm⟩ | ⟨hc877, hm⟩
    · refine G_cond_t (b := (!r873)) hc877 (by kernel_rfl) ?_
      refine G_seq ?_
      refine G_region ?_
      refine W_run 1 [(4, .bool false)] w874 (by kernel_rfl) ?_
      refine W_nil ?_
      refine N_then ?_
      refine G_ret ?_
      refine N_then_ret ?_
      obtain rfl := Option.some.inj hm
      refine N_ret [.bool false] (RVs_cons (RV_tmp (by kernel_rfl)) RVs_nil) ?_
      exact ⟨rfl, M876.pick [] (by kernel_rfl)⟩
    · refine G_cond_f (b := (!r873)) hc877 (by kernel_rfl) ?_
      refine G_skip ?_
      refine N_then ?_
      refine G_seq ?_
      refine G_seq ?_
      refine G_region ?_
      refine W_run 1 [(3, .pointer (some ⟨b821, 0, none⟩)), (17, .pointer (some ⟨b817, 2, none⟩))] w874 (by kernel_rfl) ?_
      refine W_val (.slice p800 x790.Dirty.length c801) w874 (by kernel_rfl) (E_load (e := 28) (fr := (0, 0)) _ _ false 1 b817 2 [.slice p792 x790.Memory.length c793, .slice p796 x790.Copy.length c797, .slice p800 x790.Dirty.length c801] (.slice p800 x790.Dirty.length c801) rfl (by kernel_rfl) (by kernel_rfl) (by kernel_rfl) (M876.blk 0 (b := b817) (o := .cells ⟨[.slice p792 x790.Memory.length c793, .slice p796 x790.Copy.length c797, .slice p800 x790.Dirty.length c801]⟩ 28 (0, 0)) (by kernel_rfl))) ?_
      refine W_run 1 [(18, .slice p800 x790.Dirty.length c801), (19, .pointer (some ⟨b821, 2, none⟩))] w874 (by kernel_rfl) ?_
      refine W_val (.slice p813 x803.Dirty.length c814) w874 (by kernel_rfl) (E_load (e := 28) (fr := (0, 0)) _ _ false 1 b821 2 [.slice p805 x803.Memory.length c806, .slice p809 x803.Copy.length c810, .slice p813 x803.Dirty.length c814] (.slice p813 x803.Dirty.length c814) rfl (by kernel_rfl) (by kernel_rfl) (by kernel_rfl) (M876.blk 1 (b := b821) (o := .cells ⟨[.slice p805 x803.Memory.length c806, .slice p809 x803.Copy.length c810, .slice p813 x803.Dirty.length c814]⟩ 28 (0, 0)) (by kernel_rfl))) ?_
      obtain ⟨r922, hr922, hm⟩ := gx_bind hm
      refine W_call 59 #[.slice p800 x790.Dirty.length c801, .slice p813 x803.Dirty.length c814] (by kernel_rfl) (by kernel_rfl) ?_
      refine (c_l_eqBoolS w874 x790.Dirty p800 c801 (h802.mem0 M876) x803.Dirty p813 c814 (h815.mem0 M876) hr922).mono ?_
      rintro e_ w923 ⟨rfl, K924⟩
      have M925 := M876.call0 K924
      refine ⟨_, rfl, ?_⟩
      refine W_run 1 [(22, .bool (!r922))] w923 (by kernel_rfl) ?_
      refine W_nil ?_
      refine N_then ?_
      rcases gx_bif hm with ⟨hc926, hm⟩ | ⟨hc926, hm⟩
      · refine G_cond_t (b := (!r922)) hc926 (by kernel_rfl) ?_
        refine G_seq ?_
        refine G_region ?_
        refine W_run 1 [(4, .bool false)] w923 (by kernel_rfl) ?_
        refine W_nil ?_
        refine N_then ?_
        refine G_ret ?_
        refine N_then_ret ?_
        obtain rfl := Option.some.inj hm
        refine N_ret [.bool false] (RVs_cons (RV_tmp (by kernel_rfl)) RVs_nil) ?_
        exact ⟨rfl, M925.pick [] (by kernel_rfl)⟩
      · refine G_cond_f (b := (!r922)) hc926 (by kernel_rfl) ?_
        refine G_skip ?_
        refine N_then ?_
        refine G_seq ?_
        refine G_region ?_
        refine W_run 1 [(4, .bool true)] w923 (by kernel_rfl) ?_
        refine W_nil ?_
        refine N_then ?_
        refine G_ret ?_
        obtain rfl := Option.some.inj hm
        refine N_ret [.bool true] (RVs_cons (RV_tmp (by kernel_rfl)) RVs_nil) ?_
        exact ⟨rfl, M925.pick [] (by kernel_rfl)⟩
theorem c_l_FnExactIsCopying (w : World) (x1 : Copying) (p3 : Option Addr) (c4 : Nat) (h5 : rdS encI w x1.Memory p3 c4) (p7 : Option Addr) (c8 : Nat) (h9 : rdS encI w x1.Copy p7 c8) (p11 : Option Addr) (c12 : Nat) (h13 : rdS encB w x1.Dirty p11 c12) {r : Bool} (hm : M.l_FnExactIsCopying x1 = some r) :
    Calls Try.prog 3 #[.agg #[.slice p3 x1.Memory.length c4, .slice p7 x1.Copy.length c8, .slice p11 x1.Dirty.length c12]] w fun e w' => e = .returned (.bool r) ∧ Mem [] w w' [] := by
  unfold M.l_FnExactIsCopying at hm
  refine C_enter Try.func3 rfl (by kernel_rfl) ?_
  have M0 := Mem.refl [] w
  refine G_seq ?_
  refine G_region ?_
  refine W_new (fun b => .pointer (some ⟨b, 0, none⟩)) (.cells ⟨[.slice p3 x1.Memory.length c4, .slice p7 x1.Copy.length c8, .slice p11 x1.Dirty.length c12]⟩ 25 (0, 0)) M0 rfl (by kernel_rfl) (by kernel_rfl) ?_
  intro b15 w16 M17
  refine W_run 1 [(1, .pointer (some ⟨b15, 0, none⟩))] w16 (by kernel_rfl) ?_
  refine W_nil ?_
  refine N_then ?_
  refine G_seq ?_
  refine G_region ?_
  refine W_run 1 [(1, .pointer (some ⟨b15, 0, none⟩)), (3, .int .i64 1048576)] w16 (by kernel_rfl) ?_
  refine W_nil ?_
  refine N_then ?_
  refine G_seq ?_
  refine G_region ?_
  refine W_val (.agg #[.slice p3 x1.Memory.length c4, .slice p7 x1.Copy.length c8, .slice p11 x1.Dirty.length c12]) w16 (by kernel_rfl) (E_load (e := 25) (fr := (0, 0)) _ _ true 3 b15 0 [.slice p3 x1.Memory.length c4, .slice p7 x1.Copy.length c8, .slice p11 x1.Dirty.length c12] (.agg #[.slice p3 x1.Memory.length c4, .slice p7 x1.Copy.length c8, .slice p11 x1.Dirty.length c12]) rfl (by kernel_rfl) (by kernel_rfl) (by kernel_rfl) (M17.blk 0 (b := b15) (o := .cells ⟨[.slice p3 x1.Memory.length c4, .slice p7 x1.Copy.length c8, .slice p11 x1.Dirty.length c12]⟩ 25 (0, 0)) (by kernel_rfl))) ?_
  refine W_run 1 [(1, .pointer (some ⟨b15, 0, none⟩)), (3, .int .i64 1048576), (7, .agg #[.slice p3 x1.Memory.length c4, .slice p7 x1.Copy.length c8, .slice p11 x1.Dirty.length c12]), (8, .int .i64 1048576)] w16 (by kernel_rfl) ?_
  obtain ⟨r65, hr65, hm⟩ := gx_bind hm
  refine W_call 13 #[.agg #[.slice p3 x1.Memory.length c4, .slice p7 x1.Copy.length c8, .slice p11 x1.Dirty.length c12], .int .i64 1048576] (by kernel_rfl) (by kernel_rfl) ?_
  refine (c_l_szCopying w16 x1 p3 c4 (h5.mem0 M17) p7 c8 (h9.mem0 M17) p11 c12 (h13.mem0 M17) 1048576 hr65).mono ?_
  rintro e_ w66 ⟨rfl, K67⟩
  have M68 := M17.call0 K67
  refine ⟨_, rfl, ?_⟩
  refine W_run 1 [(1, .pointer (some ⟨b15, 0, none⟩)), (3, .int .i64 r65)] w66 (by kernel_rfl) ?_
  refine W_nil ?_
  refine N_then ?_
  refine G_seq ?_
  refine G_seq ?_
  refine G_region ?_
  refine W_run 2 [(1, .pointer (some ⟨b15, 0, none⟩)), (11, .bool (decide (r65 < 0)))] w66 (by kernel_rfl) ?_
  refine W_nil ?_
  refine N_then ?_
  rcases gx_bif hm with ⟨hc69, hm⟩ | ⟨hc69, hm⟩
  · refine G_cond_t (b := (decide (r65 < 0))) hc69 (by kernel_rfl) ?_
    refine G_seq ?_
    refine G_region ?_
    refine W_run 1 [(2, .bool true)] w66 (by kernel_rfl) ?_
    refine W_nil ?_
    refine N_then ?_
    refine G_ret ?_
    refine N_then_ret ?_
    obtain rfl := Option.some.inj hm
    refine N_ret [.bool true] (RVs_cons (RV_tmp (by kernel_rfl)) RVs_nil) ?_
    exact ⟨rfl, M68.pick [] (by kernel_rfl)⟩
  · refine G_cond_f (b := (decide (r65 < 0))) hc69 (by kernel_rfl) ?_
    refine G_skip ?_
    refine N_then ?_
    refine G_seq ?_
    refine G_region ?_
    refine W_val (.agg #[.slice p3 x1.Memory.length c4, .slice p7 x1.Copy.length c8, .slice p11 x1.Dirty.length c12]) w66 (by kernel_rfl) (E_load (e := 25) (fr := (0, 0)) _ _ true 3 b15 0 [.slice p3 x1.Memory.length c4, .slice p7 x1.Copy.length c8, .slice p11 x1.Dirty.length c12] (.agg #[.slice p3 x1.Memory.length c4, .slice p7 x1.Copy.length c8, .slice p11 x1.Dirty.length c12]) rfl (by kernel_rfl) (by kernel_rfl) (by kernel_rfl) (M68.blk 0 (b := b15) (o := .cells ⟨[.slice p3 x1.Memory.length c4, .slice p7 x1.Copy.length c8, .slice p11 x1.Dirty.length c12]⟩ 25 (0, 0)) (by kernel_rfl))) ?_
    obtain ⟨r268, hr268, hm⟩ := gx_bind hm
    refine W_call 15 #[.agg #[.slice p3 x1.Memory.length c4, .slice p7 x1.Copy.length c8, .slice p11 x1.Dirty.length c12]] (by kernel_rfl) (by kernel_rfl) ?_
    refine (c_l_toCopying w66 x1 p3 c4 (h5.mem0 M68) p7 c8 (h9.mem0 M68) p11 c12 (h13.mem0 M68) hr268).mono ?_
    rintro e_ w284 ⟨p270, c271, sg272, p275, c276, sg277, p280, c281, sg282, rfl, ho273, ho278, ho283, K285⟩
    have M286 := M68.call K285
    refine ⟨_, rfl, ?_⟩
    obtain ⟨r507, hr507, hm⟩ := gx_bind hm
    refine W_call 14 #[.agg #[.slice p270 r268.Memory.length c271, .slice p275 r268.Copy.length c276, .slice p280 r268.Dirty.length c281]] (by kernel_rfl) (by kernel_rfl) ?_
    refine (c_s_IsCopying w284 r268 p270 c271 (ho273.rd M286 1 (by kernel_rfl)) p275 c276 (ho278.rd M286 2 (by kernel_rfl)) p280 c281 (ho283.rd M286 3 (by kernel_rfl)) hr507).mono ?_
    rintro e_ w508 ⟨rfl, K509⟩
    have M510 := M286.call0 K509
    refine ⟨_, rfl, ?_⟩
    refine W_run 1 [(1, .pointer (some ⟨b15, 0, none⟩)), (4, .bool r507)] w508 (by kernel_rfl) ?_
    refine W_nil ?_
    refine N_then ?_
    refine G_seq ?_
    refine G_region ?_
    refine W_val (.agg #[.slice p3 x1.Memory.length c4, .slice p7 x1.Copy.length c8, .slice p11 x1.Dirty.length c12]) w508 (by kernel_rfl) (E_load (e := 25) (fr := (0, 0)) _ _ true 3 b15 0 [.slice p3 x1.Memory.length c4, .slice p7 x1.Copy.length c8, .slice p11 x1.Dirty.length c12] (.agg #[.slice p3 x1.Memory.length c4, .slice p7 x1.Copy.length c8, .slice p11 x1.Dirty.length c12]) rfl (by kernel_rfl) (by kernel_rfl) (by kernel_rfl) (M510.blk 0 (b := b15) (o := .cells ⟨[.slice p3 x1.Memory.length c4, .slice p7 x1.Copy.length c8, .slice p11 x1.Dirty.length c12]⟩ 25 (0, 0)) (by kernel_rfl))) ?_
    obtain ⟨r511, hr511, hm⟩ := gx_bind hm
    refine W_call 15 #[.agg #[.slice p3 x1.Memory.length c4, .slice p7 x1.Copy.length c8, .slice p11 x1.Dirty.length c12]] (by kernel_rfl) (by kernel_rfl) ?_
    refine (c_l_toCopying w508 x1 p3 c4 (h5.mem0 M510) p7 c8 (h9.mem0 M510) p11 c12 (h13.mem0 M510) hr511).mono ?_
    rintro e_ w527 ⟨p513, c514, sg515, p518, c519, sg520, p523, c524, sg525, rfl, ho516, ho521, ho526, K528⟩
    have M529 := M510.call K528
    refine ⟨_, rfl, ?_⟩
    refine W_new (fun b => .pointer (some ⟨b, 0, none⟩)) (.cells ⟨[.slice none 0 0, .slice none 0 0, .slice none 0 0]⟩ 28 (0, 0)) M529 rfl (by kernel_rfl) (by kernel_rfl) ?_
    intro b534 w535 M536
    refine W_store _ _ _ true 3 b534 0 [.slice none 0 0, .slice none 0 0, .slice none 0 0] 28 (.agg #[.slice p513 r511.Memory.length c514, .slice p518 r511.Copy.length c519, .slice p523 r511.Dirty.length c524]) 7 [.slice p513 r511.Memory.length c514, .slice p518 r511.Copy.length c519, .slice p523 r511.Dirty.length c524] M536 (by kernel_rfl) rfl (by kernel_rfl) (by kernel_rfl) (by kernel_rfl) (by kernel_rfl) (by kernel_rfl) (by kernel_rfl) (by kernel_rfl) (by kernel_rfl) ?_
    intro w537 M538
    refine W_nil ?_
    refine N_then ?_
    refine G_seq ?_
    refine G_region ?_
    refine W_val (.agg #[.slice p513 r511.Memory.length c514, .slice p518 r511.Copy.length c519, .slice p523 r511.Dirty.length c524]) w537 (by kernel_rfl) (E_load (e := 28) (fr := (0, 0)) _ _ true 3 b534 0 [.slice p513 r511.Memory.length c514, .slice p518 r511.Copy.length c519, .slice p523 r511.Dirty.length c524] (.agg #[.slice p513 r511.Memory.length c514, .slice p518 r511.Copy.length c519, .slice p523 r511.Dirty.length c524]) rfl (by kernel_rfl) (by kernel_rfl) (by kernel_rfl) (M538.blk 7 (b := b534) (o := .cells ⟨[.slice p513 r511.Memory.length c514, .slice p518 r511.Copy.length c519, .slice p523 r511.Dirty.length c524]⟩ 28 (0, 0)) (by kernel_rfl))) ?_
    obtain ⟨r751, hr751, hm⟩ := gx_bind hm
    refine W_call 16 #[.agg #[.slice p513 r511.Memory.length c514, .slice p518 r511.Copy.length c519, .slice p523 r511.Dirty.length c524]] (by kernel_rfl) (by kernel_rfl) ?_
    refine (c_i_IsCopying w537 r511 p513 c514 (ho516.rd M538 4 (by kernel_rfl)) p518 c519 (ho521.rd M538 5 (by kernel_rfl)) p523 c524 (ho526.rd M538 6 (by kernel_rfl)) hr751).mono ?_
    rintro e_ w752 ⟨rfl, K753⟩
    have M754 := M538.call0 K753
    refine ⟨_, rfl, ?_⟩
    refine W_run 1 [(1, .pointer (some ⟨b15, 0, none⟩)), (4, .bool r507), (5, .pointer (some ⟨b534, 0, none⟩)), (6, .bool r751)] w752 (by kernel_rfl) ?_
    refine W_nil ?_
    refine N_then ?_
    refine G_seq ?_
    refine G_seq ?_
    refine G_region ?_
    refine W_run 3 [(1, .pointer (some ⟨b15, 0, none⟩)), (5, .pointer (some ⟨b534, 0, none⟩)), (21, .bool (!(r751 == r507)))] w752 (by kernel_rfl) ?_
    refine W_nil ?_
    refine N_then ?_
    rcases gx_bif hm with ⟨hc755, hm⟩ | ⟨hc755, hm⟩
    · refine G_cond_t (b := (!(r751 == r507))) hc755 (by kernel_rfl) ?_
      refine G_seq ?_
      refine G_region ?_
      refine W_run 1 [(2, .bool false)] w752 (by kernel_rfl) ?_
      refine W_nil ?_
      refine N_then ?_
      refine G_ret ?_
      refine N_then_ret ?_
      obtain rfl := Option.some.inj hm
      refine N_ret [.bool false] (RVs_cons (RV_tmp (by kernel_rfl)) RVs_nil) ?_
      exact ⟨rfl, M754.pick [] (by kernel_rfl)⟩
    · refine G_cond_f (b := (!(r751 == r507))) hc755 (by kernel_rfl) ?_
      refine G_skip ?_
      refine N_then ?_
      refine G_seq ?_
      refine G_seq ?_
      obtain ⟨r758, hr758, hm⟩ := gx_bind hm
      refine G_sub [(1, .pointer (some ⟨b15, 0, none⟩)), (5, .pointer (some ⟨b534, 0, none⟩)), (21, .bool (!(r751 == r507)))] (by kernel_rfl) ?_
      refine G_dagL 3 [[], [], [1]] [[], [], []] [[], [], []] [[], [], []] [[], [], []] [[], [], []] (fun _ => []) (fun i => ([fun f v s => v = (.agg #[.slice p513 r511.Memory.length c514, .slice p518 r511.Copy.length c519, .slice p523 r511.Dirty.length c524] : Value) ∧ s = [], fun f v s => v = (.agg #[.slice p3 x1.Memory.length c4, .slice p7 x1.Copy.length c8, .slice p11 x1.Dirty.length c12] : Value) ∧ s = [], fun f v s => ∃ (p760 : Option Addr) (c761 : Nat) (sg762 : Seg), ∃ (p765 : Option Addr) (c766 : Nat) (sg767 : Seg), ∃ (p770 : Option Addr) (c771 : Nat) (sg772 : Seg), v = (.agg #[.slice p760 r758.Memory.length c761, .slice p765 r758.Copy.length c766, .slice p770 r758.Dirty.length c771] : Value) ∧ s = (sg762 ++ (sg767 ++ sg772)) ∧ ownS encI r758.Memory p760 c761 sg762 ∧ ownS encI r758.Copy p765 c766 sg767 ∧ ownS encB r758.Dirty p770 c771 sg772] : List ((Nat → Value) → Value → Seg → Prop)).getD i (fun _ _ _ => False)) (fun j f v => ∃ s, (fun i => ([fun f v s => v = (.agg #[.slice p513 r511.Memory.length c514, .slice p518 r511.Copy.length c519, .slice p523 r511.Dirty.length c524] : Value) ∧ s = [], fun f v s => v = (.agg #[.slice p3 x1.Memory.length c4, .slice p7 x1.Copy.length c8, .slice p11 x1.Dirty.length c12] : Value) ∧ s = [], fun f v s => ∃ (p760 : Option Addr) (c761 : Nat) (sg762 : Seg), ∃ (p765 : Option Addr) (c766 : Nat) (sg767 : Seg), ∃ (p770 : Option Addr) (c771 : Nat) (sg772 : Seg), v = (.agg #[.slice p760 r758.Memory.length c761, .slice p765 r758.Copy.length c766, .slice p770 r758.Dirty.length c771] : Value) ∧ s = (sg762 ++ (sg767 ++ sg772)) ∧ ownS encI r758.Memory p760 c761 sg762 ∧ ownS encI r758.Copy p765 c766 sg767 ∧ ownS encB r758.Dirty p770 c771 sg772] : List ((Nat → Value) → Value → Seg → Prop)).getD i (fun _ _ _ => False)) j f v s) [] [0, 2] [2] (fun _ _ _ s h => ⟨s, h⟩) (by kernel_rfl) (by kernel_rfl) (M754.preNil 3) (by kernel_rfl) (by kernel_rfl) (by kernel_rfl) (by kernel_rfl) (allOb_cons ?_ (allOb_cons ?_ (allOb_cons ?_ allOb_nil))) ?_
      · intro g756 f757
        intro R w774 M775
        refine W_val (.agg #[.slice p513 r511.Memory.length c514, .slice p518 r511.Copy.length c519, .slice p523 r511.Dirty.length c524]) w774 (by kernel_rfl) (E_load (e := 28) (fr := (0, 0)) _ _ true 3 b534 0 [.slice p513 r511.Memory.length c514, .slice p518 r511.Copy.length c519, .slice p523 r511.Dirty.length c524] (.agg #[.slice p513 r511.Memory.length c514, .slice p518 r511.Copy.length c519, .slice p523 r511.Dirty.length c524]) rfl (by kernel_rfl) (by kernel_rfl) (by kernel_rfl) (M775.blk 7 (b := b534) (o := .cells ⟨[.slice p513 r511.Memory.length c514, .slice p518 r511.Copy.length c519, .slice p523 r511.Dirty.length c524]⟩ 28 (0, 0)) (by kernel_rfl))) ?_
        exact W_nil (ob_end (.agg #[.slice p513 r511.Memory.length c514, .slice p518 r511.Copy.length c519, .slice p523 r511.Dirty.length c524]) [] rfl (by kernel_rfl) ⟨by kernel_rfl, rfl⟩ M775)
      · intro g756 f757
        intro R w778 M779
        refine W_val (.agg #[.slice p3 x1.Memory.length c4, .slice p7 x1.Copy.length c8, .slice p11 x1.Dirty.length c12]) w778 (by kernel_rfl) (E_load (e := 25) (fr := (0, 0)) _ _ true 3 b15 0 [.slice p3 x1.Memory.length c4, .slice p7 x1.Copy.length c8, .slice p11 x1.Dirty.length c12] (.agg #[.slice p3 x1.Memory.length c4, .slice p7 x1.Copy.length c8, .slice p11 x1.Dirty.length c12]) rfl (by kernel_rfl) (by kernel_rfl) (by kernel_rfl) (M779.blk 0 (b := b15) (o := .cells ⟨[.slice p3 x1.Memory.length c4, .slice p7 x1.Copy.length c8, .slice p11 x1.Dirty.length c12]⟩ 25 (0, 0)) (by kernel_rfl))) ?_
        exact W_nil (ob_end (.agg #[.slice p3 x1.Memory.length c4, .slice p7 x1.Copy.length c8, .slice p11 x1.Dirty.length c12]) [] rfl (by kernel_rfl) ⟨by kernel_rfl, rfl⟩ M779)
      · intro g756 f757
        intro v1_ hb1_
        obtain ⟨rfl, _⟩ := hb1_
        intro R w782 M783
        refine W_call 15 #[.agg #[.slice p3 x1.Memory.length c4, .slice p7 x1.Copy.length c8, .slice p11 x1.Dirty.length c12]] (by kernel_rfl) (by kernel_rfl) ?_
        refine (c_l_toCopying w782 x1 p3 c4 (h5.mem0 M783) p7 c8 (h9.mem0 M783) p11 c12 (h13.mem0 M783) hr758).mono ?_
        rintro e_ w784 ⟨p760, c761, sg762, p765, c766, sg767, p770, c771, sg772, rfl, ho763, ho768, ho773, K786⟩
        refine ⟨_, rfl, ?_⟩
        exact W_nil (ob_end (.agg #[.slice p760 r758.Memory.length c761, .slice p765 r758.Copy.length c766, .slice p770 r758.Dirty.length c771]) (sg762 ++ (sg767 ++ sg772)) rfl (by kernel_rfl) ⟨p760, c761, sg762, p765, c766, sg767, p770, c771, sg772, rfl, rfl, ho763, ho768, ho773⟩ (Mem.callMid M783 (K786.permF (by simp))))
      · intro g756 f757
        intro v0_ hb0_
        obtain ⟨rfl, _⟩ := hb0_
        intro v2_ hb2_
        obtain ⟨p760, c761, sg762, p765, c766, sg767, p770, c771, sg772, rfl, hs2_, ho763, ho768, ho773⟩ := hb2_
        intro w787 M788
        have M789 : Mem [] w w787 [[(b15, .cells ⟨[.slice p3 x1.Memory.length c4, .slice p7 x1.Copy.length c8, .slice p11 x1.Dirty.length c12]⟩ 25 (0, 0))], sg272, sg277, sg282, sg515, sg520, sg525, [(b534, .cells ⟨[.slice p513 r511.Memory.length c514, .slice p518 r511.Copy.length c519, .slice p523 r511.Dirty.length c524]⟩ 28 (0, 0))], (g756 2)] := M788
        rw [hs2_] at M789
        replace M789 : Mem [] w w787 [[(b15, .cells ⟨[.slice p3 x1.Memory.length c4, .slice p7 x1.Copy.length c8, .slice p11 x1.Dirty.length c12]⟩ 25 (0, 0))], sg272, sg277, sg282, sg515, sg520, sg525, [(b534, .cells ⟨[.slice p513 r511.Memory.length c514, .slice p518 r511.Copy.length c519, .slice p523 r511.Dirty.length c524]⟩ 28 (0, 0))], sg762, sg767, sg772] := M789.permF (by simp)
        obtain ⟨r927, hr927, hm⟩ := gx_bind hm
        refine W_call 17 #[.agg #[.slice p513 r511.Memory.length c514, .slice p518 r511.Copy.length c519, .slice p523 r511.Dirty.length c524], .agg #[.slice p760 r758.Memory.length c761, .slice p765 r758.Copy.length c766, .slice p770 r758.Dirty.length c771]] (by kernel_rfl) (by kernel_rfl) ?_
        refine (c_l_eqCopying w787 r511 p513 c514 (ho516.rd M789 4 (by kernel_rfl)) p518 c519 (ho521.rd M789 5 (by kernel_rfl)) p523 c524 (ho526.rd M789 6 (by kernel_rfl)) r758 p760 c761 (ho763.rd M789 8 (by kernel_rfl)) p765 c766 (ho768.rd M789 9 (by kernel_rfl)) p770 c771 (ho773.rd M789 10 (by kernel_rfl)) hr927).mono ?_
        rintro e_ w928 ⟨rfl, K929⟩
        have M930 := M789.call0 K929
        refine ⟨_, rfl, ?_⟩
        refine W_run 1 [(26, .bool (!r927))] w928 (by kernel_rfl) ?_
        refine W_nil ?_
        refine N_then ?_
        rcases gx_bif hm with ⟨hc931, hm⟩ | ⟨hc931, hm⟩
        · refine G_cond_t (b := (!r927)) hc931 (by kernel_rfl) ?_
          refine G_seq ?_
          refine G_region ?_
          refine W_run 1 [(2, .bool false)] w928 (by kernel_rfl) ?_
          refine W_nil ?_
          refine N_then ?_
          refine G_ret ?_
          refine N_then_ret ?_
          obtain rfl := Option.some.inj hm
          refine N_ret [.bool false] (RVs_cons (RV_tmp (by kernel_rfl)) RVs_nil) ?_
          exact ⟨rfl, M930.pick [] (by kernel_rfl)⟩
        · refine G_cond_f (b := (!r927)) hc931 (by kernel_rfl) ?_
          refine G_skip ?_
          refine N_then ?_
          refine G_seq ?_
          refine G_region ?_
          refine W_run 1 [(2, .bool true)] w928 (by kernel_rfl) ?_
          refine W_nil ?_
          refine N_then ?_
          refine G_ret ?_
          obtain rfl := Option.some.inj hm
          refine N_ret [.bool true] (RVs_cons (RV_tmp (by kernel_rfl)) RVs_nil) ?_
          exact ⟨rfl, M930.pick [] (by kernel_rfl)⟩
theorem c_s_l1Own (w : World) (x983 : List Int) (p985 : Option Addr) (c986 : Nat) (h987 : rdS encI w x983 p985 c986) {r : (List Int)} (hm : M.s_l1Own x983 = some r) :
    Calls Try.prog 61 #[.slice p985 x983.length c986] w fun e w' => ∃ (p989 : Option Addr) (c990 : Nat) (sg991 : Seg), e = .returned (.slice p989 r.length c990) ∧ ownS encI r p989 c990 sg991 ∧ Mem [] w w' [sg991] := by
  unfold M.s_l1Own at hm
  refine C_enter Try.func61 rfl (by kernel_rfl) ?_
  have M0 := Mem.refl [] w
  refine G_seq ?_
  refine G_region ?_
  refine W_run 1 [(0, .slice p985 x983.length c986)] w (by kernel_rfl) ?_
  refine W_nil ?_
  refine N_then ?_
  refine G_seq ?_
  refine G_region ?_
  refine W_lit (E := encI) ([] : List Int) 0 [] 3 M0 (by kernel_rfl) (by kernel_rfl) (by kernel_rfl) (by kernel_rfl) (by kernel_rfl) ?_
  intro p993 c994 sg995 w996 ho997 M998
  refine W_run 1 [(3, .slice p993 ([] : List Int).length c994), (4, .slice p985 x983.length c986)] w996 (by kernel_rfl) ?_
  obtain ⟨ap1000, hap1000, hm⟩ := gx_bind hm
  refine W_append (E := encI) _ _ _ 8 [.int .i64 0] 0 c986 M998 ho997 (by kernel_rfl) (by kernel_rfl) (by kernel_rfl) rfl (by kernel_rfl) (by kernel_rfl) (by kernel_rfl) (by kernel_rfl) (by kernel_rfl) (by kernel_rfl) (h987.mem0 M998) hap1000 ?_
  intro p1001 c1002 sg1003 w1004 ho1005 M1006
  refine W_run 1 [(2, .slice p1001 ap1000.length c1002)] w1004 (by kernel_rfl) ?_
  refine W_nil ?_
  refine N_then ?_
  refine G_ret ?_
  obtain rfl := Option.some.inj hm
  refine N_ret [.slice p1001 ap1000.length c1002] (RVs_cons (RV_tmp (by kernel_rfl)) RVs_nil) ?_
  exact ⟨p1001, c1002, sg1003, rfl, ho1005, M1006.pick [0] (by kernel_rfl)⟩
theorem c_s_StartCopy (w : World) (x947 : List Int) (p949 : Option Addr) (c950 : Nat) (h951 : rdS encI w x947 p949 c950) {r : Copying × Bool} (hm : M.s_StartCopy x947 = some r) :
    Calls Try.prog 18 #[.slice p949 x947.length c950] w fun e w' => ∃ (p953 : Option Addr) (c954 : Nat) (sg955 : Seg), ∃ (p957 : Option Addr) (c958 : Nat) (sg959 : Seg), ∃ (p961 : Option Addr) (c962 : Nat) (sg963 : Seg), e = .returned (.tuple #[.agg #[.slice p953 r.1.Memory.length c954, .slice p957 r.1.Copy.length c958, .slice p961 r.1.Dirty.length c962], .bool r.2]) ∧ ownS encI r.1.Memory p953 c954 sg955 ∧ ownS encI r.1.Copy p957 c958 sg959 ∧ ownS encB r.1.Dirty p961 c962 sg963 ∧ Mem [] w w' [sg955, sg959, sg963] := by
  unfold M.s_StartCopy at hm
  refine C_enter Try.func18 rfl (by kernel_rfl) ?_
  have M0 := Mem.refl [] w
  refine G_seq ?_
  refine G_region ?_
  refine W_new (fun b => .pointer (some ⟨b, 0, none⟩)) (.cells ⟨[.slice none 0 0, .slice none 0 0, .slice none 0 0]⟩ 28 (0, 0)) M0 rfl (by kernel_rfl) (by kernel_rfl) ?_
  intro b968 w969 M970
  refine W_run 1 [(0, .slice p949 x947.length c950), (2, .pointer (some ⟨b968, 0, none⟩))] w969 (by kernel_rfl) ?_
  refine W_nil ?_
  refine N_then ?_
  refine G_seq ?_
  refine G_seq ?_
  refine G_region ?_
  refine W_run 1 [(0, .slice p949 x947.length c950), (2, .pointer (some ⟨b968, 0, none⟩)), (6, .slice p949 x947.length c950)] w969 (by kernel_rfl) ?_
  obtain ⟨r971, hr971, hm⟩ := gx_bind hm
  refine W_call 60 #[.slice p949 x947.length c950] (by kernel_rfl) (by kernel_rfl) ?_
  refine (c_s_l19Memory w969 x947 p949 c950 (h951.mem0 M970) hr971).mono ?_
  rintro e_ w972 ⟨rfl, K973⟩
  have M974 := M970.call0 K973
  refine ⟨_, rfl, ?_⟩
  refine W_run 1 [(0, .slice p949 x947.length c950), (2, .pointer (some ⟨b968, 0, none⟩)), (8, .bool (!r971))] w972 (by kernel_rfl) ?_
  refine W_nil ?_
  refine N_then ?_
  rcases gx_bif hm with ⟨hc975, hm⟩ | ⟨hc975, hm⟩
  · refine G_cond_t (b := (!r971)) hc975 (by kernel_rfl) ?_
    refine G_seq ?_
    refine G_region ?_
    refine W_run 1 [(2, .pointer (some ⟨b968, 0, none⟩)), (9, .agg #[.slice none 0 0, .slice none 0 0, .slice none 0 0])] w972 (by kernel_rfl) ?_
    refine W_store _ _ _ true 3 b968 0 [.slice none 0 0, .slice none 0 0, .slice none 0 0] 28 (.agg #[.slice none 0 0, .slice none 0 0, .slice none 0 0]) 0 [.slice none 0 0, .slice none 0 0, .slice none 0 0] M974 (by kernel_rfl) rfl (by kernel_rfl) (by kernel_rfl) (by kernel_rfl) (by kernel_rfl) (by kernel_rfl) (by kernel_rfl) (by kernel_rfl) (by kernel_rfl) ?_
    intro w979 M980
    refine W_run 1 [(2, .pointer (some ⟨b968, 0, none⟩)), (3, .bool false)] w979 (by kernel_rfl) ?_
    refine W_nil ?_
    refine N_then ?_
    refine G_ret ?_
    refine N_then_ret ?_
    obtain rfl := Option.some.inj hm
    refine N_ret [.agg #[.slice none 0 0, .slice none 0 0, .slice none 0 0], .bool false] (RVs_cons (RV_cell (g := true) (k := 3) (b := b968) (off := 0) (cs := [.slice none 0 0, .slice none 0 0, .slice none 0 0]) (e := 28) (fr := (0, 0)) (v := .agg #[.slice none 0 0, .slice none 0 0, .slice none 0 0]) (M980.blk 0 (b := b968) (o := .cells ⟨[.slice none 0 0, .slice none 0 0, .slice none 0 0]⟩ 28 (0, 0)) (by kernel_rfl)) (by kernel_rfl) (by kernel_rfl) (by kernel_rfl)) (RVs_cons (RV_tmp (by kernel_rfl)) RVs_nil)) ?_
    exact ⟨none, 0, [], none, 0, [], none, 0, [], rfl, ownS_nil, ownS_nil, ownS_nil, M980.pick [100000, 100001, 100002] (by kernel_rfl)⟩
  · refine G_cond_f (b := (!r971)) hc975 (by kernel_rfl) ?_
    refine G_skip ?_
    refine N_then ?_
    refine G_seq ?_
    obtain ⟨r1008, hr1008, hm⟩ := gx_bind hm
    obtain ⟨mk1014, hmk1014, hm⟩ := gx_bind hm
    refine G_sub [(0, .slice p949 x947.length c950), (2, .pointer (some ⟨b968, 0, none⟩)), (8, .bool (!r971))] (by kernel_rfl) ?_
    refine G_dagL 8 [[], [0], [], [2], [3], [], [], []] [[], [], [], [], [], [], [], []] [[], [], [], [], [], [], [], []] [[], [], [], [], [], [], [1, 4, 5], []] [[], [], [], [], [], [], [1, 4, 5], []] [[], [], [], [], [], [], [], []] (fun _ => []) (fun i => ([fun f v s => v = (.slice p949 x947.length c950 : Value) ∧ s = [], fun f v s => ∃ (p1010 : Option Addr) (c1011 : Nat), v = (.slice p1010 r1008.length c1011 : Value) ∧ ownS encI r1008 p1010 c1011 s, fun f v s => v = (.slice p949 x947.length c950 : Value) ∧ s = [], fun f v s => v = (.int .i64 (x947.length : Int) : Value) ∧ s = [], fun f v s => ∃ (p1016 : Option Addr) (c1017 : Nat), v = (.slice p1016 mk1014.length c1017 : Value) ∧ ownS encI mk1014 p1016 c1017 s, fun f v s => ∃ (p1021 : Option Addr) (c1022 : Nat), v = (.slice p1021 ([] : List Bool).length c1022 : Value) ∧ ownS encB ([] : List Bool) p1021 c1022 s, fun f v s => v = (.agg #[(atPath (f 1) []), (atPath (f 4) []), (atPath (f 5) [])] : Value) ∧ s = [], fun f v s => ∃ (b1032 : Nat), v = (.pointer (some ⟨b1032, 0, none⟩) : Value) ∧ s = [(b1032, .cells ⟨[.slice none 0 0, .slice none 0 0, .slice none 0 0]⟩ 28 (0, 0))]] : List ((Nat → Value) → Value → Seg → Prop)).getD i (fun _ _ _ => False)) (fun j f v => ∃ s, (fun i => ([fun f v s => v = (.slice p949 x947.length c950 : Value) ∧ s = [], fun f v s => ∃ (p1010 : Option Addr) (c1011 : Nat), v = (.slice p1010 r1008.length c1011 : Value) ∧ ownS encI r1008 p1010 c1011 s, fun f v s => v = (.slice p949 x947.length c950 : Value) ∧ s = [], fun f v s => v = (.int .i64 (x947.length : Int) : Value) ∧ s = [], fun f v s => ∃ (p1016 : Option Addr) (c1017 : Nat), v = (.slice p1016 mk1014.length c1017 : Value) ∧ ownS encI mk1014 p1016 c1017 s, fun f v s => ∃ (p1021 : Option Addr) (c1022 : Nat), v = (.slice p1021 ([] : List Bool).length c1022 : Value) ∧ ownS encB ([] : List Bool) p1021 c1022 s, fun f v s => v = (.agg #[(atPath (f 1) []), (atPath (f 4) []), (atPath (f 5) [])] : Value) ∧ s = [], fun f v s => ∃ (b1032 : Nat), v = (.pointer (some ⟨b1032, 0, none⟩) : Value) ∧ s = [(b1032, .cells ⟨[.slice none 0 0, .slice none 0 0, .slice none 0 0]⟩ 28 (0, 0))]] : List ((Nat → Value) → Value → Seg → Prop)).getD i (fun _ _ _ => False)) j f v s) [] [1, 4, 5, 6, 7] [1, 4, 5, 7] (fun _ _ _ s h => ⟨s, h⟩) (by kernel_rfl) (by kernel_rfl) (M974.preNil 8) (by kernel_rfl) (by kernel_rfl) (by kernel_rfl) (by kernel_rfl) (allOb_cons ?_ (allOb_cons ?_ (allOb_cons ?_ (allOb_cons ?_ (allOb_cons ?_ (allOb_cons ?_ (allOb_cons ?_ (allOb_cons ?_ allOb_nil)))))))) ?_
    · intro g981 f982
      intro R w1033 M1034
      refine W_run 1 [(10, .slice p949 x947.length c950)] w1033 (by kernel_rfl) ?_
      exact W_nil (ob_end (.slice p949 x947.length c950) [] rfl (by kernel_rfl) ⟨by kernel_rfl, rfl⟩ M1034)
    · intro g981 f982
      intro v0_ hb0_
      obtain ⟨rfl, _⟩ := hb0_
      intro R w1037 M1038
      refine W_call 61 #[.slice p949 x947.length c950] (by kernel_rfl) (by kernel_rfl) ?_
      refine (c_s_l1Own w1037 x947 p949 c950 (h951.mem0 M1038) hr1008).mono ?_
      rintro e_ w1039 ⟨p1010, c1011, sg1012, rfl, ho1013, K1041⟩
      refine ⟨_, rfl, ?_⟩
      exact W_nil (ob_end (.slice p1010 r1008.length c1011) sg1012 rfl (by kernel_rfl) ⟨p1010, c1011, rfl, ho1013⟩ (Mem.callMid M1038 K1041))
    · intro g981 f982
      intro R w1042 M1043
      refine W_run 1 [(12, .slice p949 x947.length c950)] w1042 (by kernel_rfl) ?_
      exact W_nil (ob_end (.slice p949 x947.length c950) [] rfl (by kernel_rfl) ⟨by kernel_rfl, rfl⟩ M1043)
    · intro g981 f982
      intro v2_ hb2_
      obtain ⟨rfl, _⟩ := hb2_
      intro R w1046 M1047
      refine W_run 1 [(13, .int .i64 (x947.length : Int))] w1046 (by kernel_rfl) ?_
      exact W_nil (ob_end (.int .i64 (x947.length : Int)) [] rfl (by kernel_rfl) ⟨by kernel_rfl, rfl⟩ M1047)
    · intro g981 f982
      intro v3_ hb3_
      obtain ⟨rfl, _⟩ := hb3_
      intro R w1050 M1051
      refine W_make (E := encI) _ _ _ (x947.length : Int) 8 [.int .i64 0] (0 : Int) M1051 (by kernel_rfl) rfl (by kernel_rfl) (by kernel_rfl) (by kernel_rfl) (by kernel_rfl) (by kernel_rfl) hmk1014 ?_
      intro p1016 c1017 sg1018 w1052 ho1019 M1053
      exact W_nil (ob_end (.slice p1016 mk1014.length c1017) sg1018 rfl (by kernel_rfl) ⟨p1016, c1017, rfl, ho1019⟩ (Mem.mid M1053))
    · intro g981 f982
      intro R w1054 M1055
      refine W_lit (E := encB) ([] : List Bool) 0 [] 4 M1055 (by kernel_rfl) (by kernel_rfl) (by kernel_rfl) (by kernel_rfl) (by kernel_rfl) ?_
      intro p1021 c1022 sg1023 w1056 ho1024 M1057
      exact W_nil (ob_end (.slice p1021 ([] : List Bool).length c1022) sg1023 rfl (by kernel_rfl) ⟨p1021, c1022, rfl, ho1024⟩ (Mem.mid M1057))
    · intro g981 f982
      intro v1_ hb1_
      obtain ⟨_, p1010, c1011, rfl, _⟩ := hb1_
      intro v4_ hb4_
      obtain ⟨_, p1016, c1017, rfl, _⟩ := hb4_
      intro v5_ hb5_
      obtain ⟨_, p1021, c1022, rfl, _⟩ := hb5_
      intro R w1058 M1059
      refine W_run 1 [(16, .agg #[.slice p1010 r1008.length c1011, .slice p1016 mk1014.length c1017, .slice p1021 ([] : List Bool).length c1022])] w1058 (by kernel_rfl) ?_
      exact W_nil (ob_end (.agg #[.slice p1010 r1008.length c1011, .slice p1016 mk1014.length c1017, .slice p1021 ([] : List Bool).length c1022]) [] rfl (by kernel_rfl) ⟨by kernel_rfl, rfl⟩ M1059)
    · intro g981 f982
      intro R w1062 M1063
      refine W_new (fun b => .pointer (some ⟨b, 0, none⟩)) (.cells ⟨[.slice none 0 0, .slice none 0 0, .slice none 0 0]⟩ 28 (0, 0)) M1063 rfl (by kernel_rfl) (by kernel_rfl) ?_
      intro b1032 w1064 M1065
      exact W_nil (ob_end (.pointer (some ⟨b1032, 0, none⟩)) [(b1032, .cells ⟨[.slice none 0 0, .slice none 0 0, .slice none 0 0]⟩ 28 (0, 0))] rfl (by kernel_rfl) ⟨b1032, rfl, rfl⟩ (Mem.mid M1065))
    · intro g981 f982
      intro v1_ hb1_
      obtain ⟨p1010, c1011, rfl, ho1013⟩ := hb1_
      intro v4_ hb4_
      obtain ⟨p1016, c1017, rfl, ho1019⟩ := hb4_
      intro v5_ hb5_
      obtain ⟨p1021, c1022, rfl, ho1024⟩ := hb5_
      intro v6_ hb6_
      obtain ⟨hv6_, _⟩ := hb6_
      obtain rfl : v6_ = (.agg #[.slice p1010 r1008.length c1011, .slice p1016 mk1014.length c1017, .slice p1021 ([] : List Bool).length c1022] : Value) := hv6_.trans (by kernel_rfl)
      intro v7_ hb7_
      obtain ⟨b1032, rfl, hs7_⟩ := hb7_
      intro w1066 M1067
      have M1068 : Mem [] w w1066 [[(b968, .cells ⟨[.slice none 0 0, .slice none 0 0, .slice none 0 0]⟩ 28 (0, 0))], (g981 1), (g981 4), (g981 5), (g981 7)] := M1067
      rw [hs7_] at M1068
      refine W_store _ _ _ true 3 b1032 0 [.slice none 0 0, .slice none 0 0, .slice none 0 0] 28 (.agg #[.slice p1010 r1008.length c1011, .slice p1016 mk1014.length c1017, .slice p1021 ([] : List Bool).length c1022]) 4 [.slice p1010 r1008.length c1011, .slice p1016 mk1014.length c1017, .slice p1021 ([] : List Bool).length c1022] M1068 (by kernel_rfl) rfl (by kernel_rfl) (by kernel_rfl) (by kernel_rfl) (by kernel_rfl) (by kernel_rfl) (by kernel_rfl) (by kernel_rfl) (by kernel_rfl) ?_
      intro w1069 M1070
      refine W_nil ?_
      refine N_then ?_
      refine G_seq ?_
      refine G_seq ?_
      refine G_region ?_
      refine W_run 1 [(0, .slice p949 x947.length c950), (2, .pointer (some ⟨b968, 0, none⟩)), (4, .pointer (some ⟨b1032, 0, none⟩)), (5, .int .i64 0)] w1069 (by kernel_rfl) ?_
      refine W_nil ?_
      refine N_then ?_
      obtain ⟨out1119, hw1120, hmo1121⟩ := gx_bind hm
      refine G_meet (fun a w' => ∃ (p1128 : Option Addr), ∃ (c1129 : Nat), ∃ (sg1130 : Seg), ownS encB out1119 p1128 c1129 sg1130 ∧ Mem [] w w' [[(b968, .cells ⟨[.slice none 0 0, .slice none 0 0, .slice none 0 0]⟩ 28 (0, 0))], (g981 1), (g981 4), [(b1032, .cells ⟨[.slice p1010 r1008.length c1011, .slice p1016 mk1014.length c1017, .slice p1128 out1119.length c1129]⟩ 28 (0, 0))], sg1130] ∧ Sat Try.f18.ntmps [(2, .pointer (some ⟨b968, 0, none⟩)), (4, .pointer (some ⟨b1032, 0, none⟩))] a) ?_ ?_
      · refine G_block ?_
        refine G_while (σ := Int × List Bool) (ρ := List Bool) (fun s1112 a w' => ∃ (p1122 : Option Addr), ∃ (c1123 : Nat), ∃ (sg1124 : Seg), ownS encB s1112.2 p1122 c1123 sg1124 ∧ Mem [] w w' [[(b968, .cells ⟨[.slice none 0 0, .slice none 0 0, .slice none 0 0]⟩ 28 (0, 0))], (g981 1), (g981 4), [(b1032, .cells ⟨[.slice p1010 r1008.length c1011, .slice p1016 mk1014.length c1017, .slice p1122 s1112.2.length c1123]⟩ 28 (0, 0))], sg1124] ∧ Sat Try.f18.ntmps [(0, .slice p949 x947.length c950), (2, .pointer (some ⟨b968, 0, none⟩)), (4, .pointer (some ⟨b1032, 0, none⟩)), (5, .int .i64 s1112.1)] a) hw1120 (fun a ha => ⟨p1021, c1022, (g981 5), ho1024, M1070.pick [0, 1, 2, 4, 3] (by kernel_rfl), ha.sub (by kernel_rfl)⟩) ?_
        clear hm
        intro s1112 x1113 hm hout1114 a1115 w1116 ⟨p1122, c1123, sg1124, ho1125, M1117, hS1118⟩
        refine G_use hS1118 ?_
        refine G_seq ?_
        refine G_seq ?_
        refine G_region ?_
        refine W_run 4 [(0, .slice p949 x947.length c950), (2, .pointer (some ⟨b968, 0, none⟩)), (4, .pointer (some ⟨b1032, 0, none⟩)), (5, .int .i64 s1112.1), (20, .bool (decide (s1112.1 < (x947.length : Int))))] w1116 (by kernel_rfl) ?_
        refine W_nil ?_
        refine N_then ?_
        rcases gx_bif hm with ⟨hc1133, hm⟩ | ⟨hc1133, hm⟩
        · refine G_cond_t (b := (decide (s1112.1 < (x947.length : Int)))) hc1133 (by kernel_rfl) ?_
          refine G_skip ?_
          refine N_then ?_
          refine G_seq ?_
          refine G_block ?_
          refine G_region ?_
          refine W_run 1 [(0, .slice p949 x947.length c950), (2, .pointer (some ⟨b968, 0, none⟩)), (4, .pointer (some ⟨b1032, 0, none⟩)), (5, .int .i64 s1112.1), (23, .pointer (some ⟨b1032, 2, none⟩))] w1116 (by kernel_rfl) ?_
          refine W_val (.slice p1122 s1112.2.length c1123) w1116 (by kernel_rfl) (E_load (e := 28) (fr := (0, 0)) _ _ false 1 b1032 2 [.slice p1010 r1008.length c1011, .slice p1016 mk1014.length c1017, .slice p1122 s1112.2.length c1123] (.slice p1122 s1112.2.length c1123) rfl (by kernel_rfl) (by kernel_rfl) (by kernel_rfl) (M1117.blk 3 (b := b1032) (o := .cells ⟨[.slice p1010 r1008.length c1011, .slice p1016 mk1014.length c1017, .slice p1122 s1112.2.length c1123]⟩ 28 (0, 0)) (by kernel_rfl))) ?_
          refine W_lit (E := encB) [true] 1 [.bool true] 4 M1117 (by kernel_rfl) (by kernel_rfl) (by kernel_rfl) (by kernel_rfl) (by kernel_rfl) ?_
          intro p1134 c1135 sg1136 w1137 ho1138 M1139
          obtain ⟨ap1141, hap1141, hm⟩ := gx_bind hm
          refine W_append (E := encB) _ _ _ 1 [.bool false] 4 c1135 M1139 ho1125 (by kernel_rfl) (by kernel_rfl) (by kernel_rfl) rfl (by kernel_rfl) (by kernel_rfl) (by kernel_rfl) (by kernel_rfl) (by kernel_rfl) (by kernel_rfl) (ho1138.rd M1139 5 (by kernel_rfl)) hap1141 ?_
          intro p1142 c1143 sg1144 w1145 ho1146 M1147
          refine W_run 1 [(0, .slice p949 x947.length c950), (2, .pointer (some ⟨b968, 0, none⟩)), (4, .pointer (some ⟨b1032, 0, none⟩)), (5, .int .i64 s1112.1), (26, .slice p1142 ap1141.length c1143), (27, .pointer (some ⟨b1032, 2, none⟩))] w1145 (by kernel_rfl) ?_
          refine W_store _ _ _ false 1 b1032 2 [.slice p1010 r1008.length c1011, .slice p1016 mk1014.length c1017, .slice p1122 s1112.2.length c1123] 28 (.slice p1142 ap1141.length c1143) 3 [.slice p1010 r1008.length c1011, .slice p1016 mk1014.length c1017, .slice p1142 ap1141.length c1143] M1147 (by kernel_rfl) rfl (by kernel_rfl) (by kernel_rfl) (by kernel_rfl) (by kernel_rfl) (by kernel_rfl) (by kernel_rfl) (by kernel_rfl) (by kernel_rfl) ?_
          intro w1149 M1150
          refine W_nil ?_
          refine N_block ?_
          refine N_then ?_
          refine G_region ?_
          refine W_run 3 [(0, .slice p949 x947.length c950), (2, .pointer (some ⟨b968, 0, none⟩)), (4, .pointer (some ⟨b1032, 0, none⟩)), (5, .int .i64 (w64 (s1112.1 + 1)))] w1149 (by kernel_rfl) ?_
          refine W_nil ?_
          obtain rfl := Option.some.inj hm
          exact N_loop fun a ha => ⟨_, rfl, p1142, c1143, sg1144, ho1146, M1150.pick [0, 1, 2, 3, 4] (by kernel_rfl), ha.sub (by kernel_rfl)⟩
        · refine G_cond_f (b := (decide (s1112.1 < (x947.length : Int)))) hc1133 (by kernel_rfl) ?_
          refine G_exit ?_
          refine N_then_exit ?_
          refine N_then_exit ?_
          refine N_block_eq ?_
          obtain rfl := Option.some.inj hm
          obtain rfl := hout1114 _ rfl
          exact N_meet fun a ha => ⟨p1122, c1123, sg1124, ho1125, M1117.pick [0, 1, 2, 3, 4] (by kernel_rfl), ha.sub (by kernel_rfl)⟩
      · intro a1151 w1152 ⟨p1128, c1129, sg1130, ho1131, M1153, hS1154⟩
        refine N_use hS1154 ?_
        have hm := hmo1121
        refine N_then ?_
        refine G_seq ?_
        refine G_region ?_
        refine W_val (.agg #[.slice p1010 r1008.length c1011, .slice p1016 mk1014.length c1017, .slice p1128 out1119.length c1129]) w1152 (by kernel_rfl) (E_load (e := 28) (fr := (0, 0)) _ _ true 3 b1032 0 [.slice p1010 r1008.length c1011, .slice p1016 mk1014.length c1017, .slice p1128 out1119.length c1129] (.agg #[.slice p1010 r1008.length c1011, .slice p1016 mk1014.length c1017, .slice p1128 out1119.length c1129]) rfl (by kernel_rfl) (by kernel_rfl) (by kernel_rfl) (M1153.blk 3 (b := b1032) (o := .cells ⟨[.slice p1010 r1008.length c1011, .slice p1016 mk1014.length c1017, .slice p1128 out1119.length c1129]⟩ 28 (0, 0)) (by kernel_rfl))) ?_
        refine W_store _ _ _ true 3 b968 0 [.slice none 0 0, .slice none 0 0, .slice none 0 0] 28 (.agg #[.slice p1010 r1008.length c1011, .slice p1016 mk1014.length c1017, .slice p1128 out1119.length c1129]) 0 [.slice p1010 r1008.length c1011, .slice p1016 mk1014.length c1017, .slice p1128 out1119.length c1129] M1153 (by kernel_rfl) rfl (by kernel_rfl) (by kernel_rfl) (by kernel_rfl) (by kernel_rfl) (by kernel_rfl) (by kernel_rfl) (by kernel_rfl) (by kernel_rfl) ?_
        intro w1155 M1156
        refine W_run 1 [(2, .pointer (some ⟨b968, 0, none⟩)), (3, .bool true)] w1155 (by kernel_rfl) ?_
        refine W_nil ?_
        refine N_then ?_
        refine G_ret ?_
        obtain rfl := Option.some.inj hm
        refine N_ret [.agg #[.slice p1010 r1008.length c1011, .slice p1016 mk1014.length c1017, .slice p1128 out1119.length c1129], .bool true] (RVs_cons (RV_cell (g := true) (k := 3) (b := b968) (off := 0) (cs := [.slice p1010 r1008.length c1011, .slice p1016 mk1014.length c1017, .slice p1128 out1119.length c1129]) (e := 28) (fr := (0, 0)) (v := .agg #[.slice p1010 r1008.length c1011, .slice p1016 mk1014.length c1017, .slice p1128 out1119.length c1129]) (M1156.blk 0 (b := b968) (o := .cells ⟨[.slice p1010 r1008.length c1011, .slice p1016 mk1014.length c1017, .slice p1128 out1119.length c1129]⟩ 28 (0, 0)) (by kernel_rfl)) (by kernel_rfl) (by kernel_rfl) (by kernel_rfl)) (RVs_cons (RV_tmp (by kernel_rfl)) RVs_nil)) ?_
        exact ⟨p1010, c1011, (g981 1), p1016, c1017, (g981 4), p1128, c1129, sg1130, rfl, ho1013, ho1019, ho1131, M1156.pick [1, 2, 4] (by kernel_rfl)⟩
theorem c_i_copyInts (w : World) (x1230 : List Int) (p1232 : Option Addr) (c1233 : Nat) (h1234 : rdS encI w x1230 p1232 c1233) {r : (List Int)} (hm : M.i_copyInts x1230 = some r) :
    Calls Try.prog 62 #[.slice p1232 x1230.length c1233] w fun e w' => ∃ (p1236 : Option Addr) (c1237 : Nat) (sg1238 : Seg), e = .returned (.slice p1236 r.length c1237) ∧ ownS encI r p1236 c1237 sg1238 ∧ Mem [] w w' [sg1238] := by
  unfold M.i_copyInts at hm
  refine C_enter Try.func62 rfl (by kernel_rfl) ?_
  have M0 := Mem.refl [] w
  refine G_seq ?_
  refine G_region ?_
  refine W_run 1 [(0, .slice p1232 x1230.length c1233)] w (by kernel_rfl) ?_
  refine W_nil ?_
  refine N_then ?_
  refine G_seq ?_
  refine G_region ?_
  refine W_lit (E := encI) ([] : List Int) 0 [] 3 M0 (by kernel_rfl) (by kernel_rfl) (by kernel_rfl) (by kernel_rfl) (by kernel_rfl) ?_
  intro p1240 c1241 sg1242 w1243 ho1244 M1245
  refine W_run 1 [(3, .slice p1240 ([] : List Int).length c1241), (4, .slice p1232 x1230.length c1233)] w1243 (by kernel_rfl) ?_
  obtain ⟨ap1247, hap1247, hm⟩ := gx_bind hm
  refine W_append (E := encI) _ _ _ 8 [.int .i64 0] 0 c1233 M1245 ho1244 (by kernel_rfl) (by kernel_rfl) (by kernel_rfl) rfl (by kernel_rfl) (by kernel_rfl) (by kernel_rfl) (by kernel_rfl) (by kernel_rfl) (by kernel_rfl) (h1234.mem0 M1245) hap1247 ?_
  intro p1248 c1249 sg1250 w1251 ho1252 M1253
  refine W_run 1 [(2, .slice p1248 ap1247.length c1249)] w1251 (by kernel_rfl) ?_
  refine W_nil ?_
  refine N_then ?_
  refine G_ret ?_
  obtain rfl := Option.some.inj hm
  refine N_ret [.slice p1248 ap1247.length c1249] (RVs_cons (RV_tmp (by kernel_rfl)) RVs_nil) ?_
  exact ⟨p1248, c1249, sg1250, rfl, ho1252, M1253.pick [0] (by kernel_rfl)⟩
theorem c_i_StartCopy (w : World) (x1194 : List Int) (p1196 : Option Addr) (c1197 : Nat) (h1198 : rdS encI w x1194 p1196 c1197) {r : Copying × Bool} (hm : M.i_StartCopy x1194 = some r) :
    Calls Try.prog 20 #[.slice p1196 x1194.length c1197] w fun e w' => ∃ (p1200 : Option Addr) (c1201 : Nat) (sg1202 : Seg), ∃ (p1204 : Option Addr) (c1205 : Nat) (sg1206 : Seg), ∃ (p1208 : Option Addr) (c1209 : Nat) (sg1210 : Seg), e = .returned (.tuple #[.agg #[.slice p1200 r.1.Memory.length c1201, .slice p1204 r.1.Copy.length c1205, .slice p1208 r.1.Dirty.length c1209], .bool r.2]) ∧ ownS encI r.1.Memory p1200 c1201 sg1202 ∧ ownS encI r.1.Copy p1204 c1205 sg1206 ∧ ownS encB r.1.Dirty p1208 c1209 sg1210 ∧ Mem [] w w' [sg1202, sg1206, sg1210] := by
  unfold M.i_StartCopy at hm
  refine C_enter Try.func20 rfl (by kernel_rfl) ?_
  have M0 := Mem.refl [] w
  refine G_seq ?_
  refine G_region ?_
  refine W_new (fun b => .pointer (some ⟨b, 0, none⟩)) (.cells ⟨[.slice none 0 0, .slice none 0 0, .slice none 0 0]⟩ 28 (0, 0)) M0 rfl (by kernel_rfl) (by kernel_rfl) ?_
  intro b1215 w1216 M1217
  refine W_run 1 [(0, .slice p1196 x1194.length c1197), (2, .pointer (some ⟨b1215, 0, none⟩))] w1216 (by kernel_rfl) ?_
  refine W_nil ?_
  refine N_then ?_
  refine G_seq ?_
  refine G_seq ?_
  refine G_region ?_
  refine W_run 1 [(0, .slice p1196 x1194.length c1197), (2, .pointer (some ⟨b1215, 0, none⟩)), (5, .slice p1196 x1194.length c1197)] w1216 (by kernel_rfl) ?_
  obtain ⟨r1218, hr1218, hm⟩ := gx_bind hm
  refine W_call 58 #[.slice p1196 x1194.length c1197] (by kernel_rfl) (by kernel_rfl) ?_
  refine (c_i_isMemory w1216 x1194 p1196 c1197 (h1198.mem0 M1217) hr1218).mono ?_
  rintro e_ w1219 ⟨rfl, K1220⟩
  have M1221 := M1217.call0 K1220
  refine ⟨_, rfl, ?_⟩
  refine W_run 1 [(0, .slice p1196 x1194.length c1197), (2, .pointer (some ⟨b1215, 0, none⟩)), (7, .bool (!r1218))] w1219 (by kernel_rfl) ?_
  refine W_nil ?_
  refine N_then ?_
  rcases gx_bif hm with ⟨hc1222, hm⟩ | ⟨hc1222, hm⟩
  · refine G_cond_t (b := (!r1218)) hc1222 (by kernel_rfl) ?_
    refine G_seq ?_
    refine G_region ?_
    refine W_run 1 [(2, .pointer (some ⟨b1215, 0, none⟩)), (8, .agg #[.slice none 0 0, .slice none 0 0, .slice none 0 0])] w1219 (by kernel_rfl) ?_
    refine W_store _ _ _ true 3 b1215 0 [.slice none 0 0, .slice none 0 0, .slice none 0 0] 28 (.agg #[.slice none 0 0, .slice none 0 0, .slice none 0 0]) 0 [.slice none 0 0, .slice none 0 0, .slice none 0 0] M1221 (by kernel_rfl) rfl (by kernel_rfl) (by kernel_rfl) (by kernel_rfl) (by kernel_rfl) (by kernel_rfl) (by kernel_rfl) (by kernel_rfl) (by kernel_rfl) ?_
    intro w1226 M1227
    refine W_run 1 [(2, .pointer (some ⟨b1215, 0, none⟩)), (3, .bool false)] w1226 (by kernel_rfl) ?_
    refine W_nil ?_
    refine N_then ?_
    refine G_ret ?_
    refine N_then_ret ?_
    obtain rfl := Option.some.inj hm
    refine N_ret [.agg #[.slice none 0 0, .slice none 0 0, .slice none 0 0], .bool false] (RVs_cons (RV_cell (g := true) (k := 3) (b := b1215) (off := 0) (cs := [.slice none 0 0, .slice none 0 0, .slice none 0 0]) (e := 28) (fr := (0, 0)) (v := .agg #[.slice none 0 0, .slice none 0 0, .slice none 0 0]) (M1227.blk 0 (b := b1215) (o := .cells ⟨[.slice none 0 0, .slice none 0 0, .slice none 0 0]⟩ 28 (0, 0)) (by kernel_rfl)) (by kernel_rfl) (by kernel_rfl) (by kernel_rfl)) (RVs_cons (RV_tmp (by kernel_rfl)) RVs_nil)) ?_
    exact ⟨none, 0, [], none, 0, [], none, 0, [], rfl, ownS_nil, ownS_nil, ownS_nil, M1227.pick [100000, 100001, 100002] (by kernel_rfl)⟩
  · refine G_cond_f (b := (!r1218)) hc1222 (by kernel_rfl) ?_
    refine G_skip ?_
    refine N_then ?_
    refine G_seq ?_
    obtain ⟨r1255, hr1255, hm⟩ := gx_bind hm
    obtain ⟨mk1261, hmk1261, hm⟩ := gx_bind hm
    refine G_sub [(0, .slice p1196 x1194.length c1197), (2, .pointer (some ⟨b1215, 0, none⟩)), (7, .bool (!r1218))] (by kernel_rfl) ?_
    refine G_dagL 8 [[], [0], [], [2], [3], [], [], []] [[], [], [], [], [], [], [], []] [[], [], [], [], [], [], [], []] [[], [], [], [], [], [], [1, 4, 5], []] [[], [], [], [], [], [], [1, 4, 5], []] [[], [], [], [], [], [], [], []] (fun _ => []) (fun i => ([fun f v s => v = (.slice p1196 x1194.length c1197 : Value) ∧ s = [], fun f v s => ∃ (p1257 : Option Addr) (c1258 : Nat), v = (.slice p1257 r1255.length c1258 : Value) ∧ ownS encI r1255 p1257 c1258 s, fun f v s => v = (.slice p1196 x1194.length c1197 : Value) ∧ s = [], fun f v s => v = (.int .i64 (x1194.length : Int) : Value) ∧ s = [], fun f v s => ∃ (p1263 : Option Addr) (c1264 : Nat), v = (.slice p1263 mk1261.length c1264 : Value) ∧ ownS encI mk1261 p1263 c1264 s, fun f v s => ∃ (p1268 : Option Addr) (c1269 : Nat), v = (.slice p1268 ([] : List Bool).length c1269 : Value) ∧ ownS encB ([] : List Bool) p1268 c1269 s, fun f v s => v = (.agg #[(atPath (f 1) []), (atPath (f 4) []), (atPath (f 5) [])] : Value) ∧ s = [], fun f v s => ∃ (b1279 : Nat), v = (.pointer (some ⟨b1279, 0, none⟩) : Value) ∧ s = [(b1279, .cells ⟨[.slice none 0 0, .slice none 0 0, .slice none 0 0]⟩ 28 (0, 0))]] : List ((Nat → Value) → Value → Seg → Prop)).getD i (fun _ _ _ => False)) (fun j f v => ∃ s, (fun i => ([fun f v s => v = (.slice p1196 x1194.length c1197 : Value) ∧ s = [], fun f v s => ∃ (p1257 : Option Addr) (c1258 : Nat), v = (.slice p1257 r1255.length c1258 : Value) ∧ ownS encI r1255 p1257 c1258 s, fun f v s => v = (.slice p1196 x1194.length c1197 : Value) ∧ s = [], fun f v s => v = (.int .i64 (x1194.length : Int) : Value) ∧ s = [], fun f v s => ∃ (p1263 : Option Addr) (c1264 : Nat), v = (.slice p1263 mk1261.length c1264 : Value) ∧ ownS encI mk1261 p1263 c1264 s, fun f v s => ∃ (p1268 : Option Addr) (c1269 : Nat), v = (.slice p1268 ([] : List Bool).length c1269 : Value) ∧ ownS encB ([] : List Bool) p1268 c1269 s, fun f v s => v = (.agg #[(atPath (f 1) []), (atPath (f 4) []), (atPath (f 5) [])] : Value) ∧ s = [], fun f v s => ∃ (b1279 : Nat), v = (.pointer (some ⟨b1279, 0, none⟩) : Value) ∧ s = [(b1279, .cells ⟨[.slice none 0 0, .slice none 0 0, .slice none 0 0]⟩ 28 (0, 0))]] : List ((Nat → Value) → Value → Seg → Prop)).getD i (fun _ _ _ => False)) j f v s) [] [1, 4, 5, 6, 7] [1, 4, 5, 7] (fun _ _ _ s h => ⟨s, h⟩) (by kernel_rfl) (by kernel_rfl) (M1221.preNil 8) (by kernel_rfl) (by kernel_rfl) (by kernel_rfl) (by kernel_rfl) (allOb_cons ?_ (allOb_cons ?_ (allOb_cons ?_ (allOb_cons ?_ (allOb_cons ?_ (allOb_cons ?_ (allOb_cons ?_ (allOb_cons ?_ allOb_nil)))))))) ?_
    · intro g1228 f1229
      intro R w1280 M1281
      refine W_run 1 [(9, .slice p1196 x1194.length c1197)] w1280 (by kernel_rfl) ?_
      exact W_nil (ob_end (.slice p1196 x1194.length c1197) [] rfl (by kernel_rfl) ⟨by kernel_rfl, rfl⟩ M1281)
    · intro g1228 f1229
      intro v0_ hb0_
      obtain ⟨rfl, _⟩ := hb0_
      intro R w1284 M1285
      refine W_call 62 #[.slice p1196 x1194.length c1197] (by kernel_rfl) (by kernel_rfl) ?_
      refine (c_i_copyInts w1284 x1194 p1196 c1197 (h1198.mem0 M1285) hr1255).mono ?_
      rintro e_ w1286 ⟨p1257, c1258, sg1259, rfl, ho1260, K1288⟩
      refine ⟨_, rfl, ?_⟩
      exact W_nil (ob_end (.slice p1257 r1255.length c1258) sg1259 rfl (by kernel_rfl) ⟨p1257, c1258, rfl, ho1260⟩ (Mem.callMid M1285 K1288))
    · intro g1228 f1229
      intro R w1289 M1290
      refine W_run 1 [(11, .slice p1196 x1194.length c1197)] w1289 (by kernel_rfl) ?_
      exact W_nil (ob_end (.slice p1196 x1194.length c1197) [] rfl (by kernel_rfl) ⟨by kernel_rfl, rfl⟩ M1290)
    · intro g1228 f1229
      intro v2_ hb2_
      obtain ⟨rfl, _⟩ := hb2_
      intro R w1293 M1294
      refine W_run 1 [(12, .int .i64 (x1194.length : Int))] w1293 (by kernel_rfl) ?_
      exact W_nil (ob_end (.int .i64 (x1194.length : Int)) [] rfl (by kernel_rfl) ⟨by kernel_rfl, rfl⟩ M1294)
    · intro g1228 f1229
      intro v3_ hb3_
      obtain ⟨rfl, _⟩ := hb3_
      intro R w1297 M1298
      refine W_make (E := encI) _ _ _ (x1194.length : Int) 8 [.int .i64 0] (0 : Int) M1298 (by kernel_rfl) rfl (by kernel_rfl) (by kernel_rfl) (by kernel_rfl) (by kernel_rfl) (by kernel_rfl) hmk1261 ?_
      intro p1263 c1264 sg1265 w1299 ho1266 M1300
      exact W_nil (ob_end (.slice p1263 mk1261.length c1264) sg1265 rfl (by kernel_rfl) ⟨p1263, c1264, rfl, ho1266⟩ (Mem.mid M1300))
    · intro g1228 f1229
      intro R w1301 M1302
      refine W_lit (E := encB) ([] : List Bool) 0 [] 4 M1302 (by kernel_rfl) (by kernel_rfl) (by kernel_rfl) (by kernel_rfl) (by kernel_rfl) ?_
      intro p1268 c1269 sg1270 w1303 ho1271 M1304
      exact W_nil (ob_end (.slice p1268 ([] : List Bool).length c1269) sg1270 rfl (by kernel_rfl) ⟨p1268, c1269, rfl, ho1271⟩ (Mem.mid M1304))
    · intro g1228 f1229
      intro v1_ hb1_
      obtain ⟨_, p1257, c1258, rfl, _⟩ := hb1_
      intro v4_ hb4_
      obtain ⟨_, p1263, c1264, rfl, _⟩ := hb4_
      intro v5_ hb5_
      obtain ⟨_, p1268, c1269, rfl, _⟩ := hb5_
      intro R w1305 M1306
      refine W_run 1 [(15, .agg #[.slice p1257 r1255.length c1258, .slice p1263 mk1261.length c1264, .slice p1268 ([] : List Bool).length c1269])] w1305 (by kernel_rfl) ?_
      exact W_nil (ob_end (.agg #[.slice p1257 r1255.length c1258, .slice p1263 mk1261.length c1264, .slice p1268 ([] : List Bool).length c1269]) [] rfl (by kernel_rfl) ⟨by kernel_rfl, rfl⟩ M1306)
    · intro g1228 f1229
      intro R w1309 M1310
      refine W_new (fun b => .pointer (some ⟨b, 0, none⟩)) (.cells ⟨[.slice none 0 0, .slice none 0 0, .slice none 0 0]⟩ 28 (0, 0)) M1310 rfl (by kernel_rfl) (by kernel_rfl) ?_
      intro b1279 w1311 M1312
      exact W_nil (ob_end (.pointer (some ⟨b1279, 0, none⟩)) [(b1279, .cells ⟨[.slice none 0 0, .slice none 0 0, .slice none 0 0]⟩ 28 (0, 0))] rfl (by kernel_rfl) ⟨b1279, rfl, rfl⟩ (Mem.mid M1312))
    · intro g1228 f1229
      intro v1_ hb1_
      obtain ⟨p1257, c1258, rfl, ho1260⟩ := hb1_
      intro v4_ hb4_
      obtain ⟨p1263, c1264, rfl, ho1266⟩ := hb4_
      intro v5_ hb5_
      obtain ⟨p1268, c1269, rfl, ho1271⟩ := hb5_
      intro v6_ hb6_
      obtain ⟨hv6_, _⟩ := hb6_
      obtain rfl : v6_ = (.agg #[.slice p1257 r1255.length c1258, .slice p1263 mk1261.length c1264, .slice p1268 ([] : List Bool).length c1269] : Value) := hv6_.trans (by kernel_rfl)
      intro v7_ hb7_
      obtain ⟨b1279, rfl, hs7_⟩ := hb7_
      intro w1313 M1314
      have M1315 : Mem [] w w1313 [[(b1215, .cells ⟨[.slice none 0 0, .slice none 0 0, .slice none 0 0]⟩ 28 (0, 0))], (g1228 1), (g1228 4), (g1228 5), (g1228 7)] := M1314
      rw [hs7_] at M1315
      refine W_store _ _ _ true 3 b1279 0 [.slice none 0 0, .slice none 0 0, .slice none 0 0] 28 (.agg #[.slice p1257 r1255.length c1258, .slice p1263 mk1261.length c1264, .slice p1268 ([] : List Bool).length c1269]) 4 [.slice p1257 r1255.length c1258, .slice p1263 mk1261.length c1264, .slice p1268 ([] : List Bool).length c1269] M1315 (by kernel_rfl) rfl (by kernel_rfl) (by kernel_rfl) (by kernel_rfl) (by kernel_rfl) (by kernel_rfl) (by kernel_rfl) (by kernel_rfl) (by kernel_rfl) ?_
      intro w1316 M1317
      refine W_nil ?_
      refine N_then ?_
      refine G_seq ?_
      refine G_seq ?_
      refine G_region ?_
      refine W_run 3 [(2, .pointer (some ⟨b1215, 0, none⟩)), (4, .pointer (some ⟨b1279, 0, none⟩)), (17, .int .i64 (x1194.length : Int)), (18, .int .i64 0)] w1316 (by kernel_rfl) ?_
      refine W_nil ?_
      refine N_then ?_
      obtain ⟨out1366, hw1367, hmo1368⟩ := gx_bind hm
      refine G_meet (fun a w' => ∃ (p1375 : Option Addr), ∃ (c1376 : Nat), ∃ (sg1377 : Seg), ownS encB out1366 p1375 c1376 sg1377 ∧ Mem [] w w' [[(b1215, .cells ⟨[.slice none 0 0, .slice none 0 0, .slice none 0 0]⟩ 28 (0, 0))], (g1228 1), (g1228 4), [(b1279, .cells ⟨[.slice p1257 r1255.length c1258, .slice p1263 mk1261.length c1264, .slice p1375 out1366.length c1376]⟩ 28 (0, 0))], sg1377] ∧ Sat Try.f20.ntmps [(2, .pointer (some ⟨b1215, 0, none⟩)), (4, .pointer (some ⟨b1279, 0, none⟩))] a) ?_ ?_
      · refine G_block ?_
        refine G_while (σ := Int × List Bool) (ρ := List Bool) (fun s1359 a w' => ∃ (p1369 : Option Addr), ∃ (c1370 : Nat), ∃ (sg1371 : Seg), ownS encB s1359.2 p1369 c1370 sg1371 ∧ Mem [] w w' [[(b1215, .cells ⟨[.slice none 0 0, .slice none 0 0, .slice none 0 0]⟩ 28 (0, 0))], (g1228 1), (g1228 4), [(b1279, .cells ⟨[.slice p1257 r1255.length c1258, .slice p1263 mk1261.length c1264, .slice p1369 s1359.2.length c1370]⟩ 28 (0, 0))], sg1371] ∧ Sat Try.f20.ntmps [(2, .pointer (some ⟨b1215, 0, none⟩)), (4, .pointer (some ⟨b1279, 0, none⟩)), (17, .int .i64 (x1194.length : Int)), (18, .int .i64 s1359.1)] a) hw1367 (fun a ha => ⟨p1268, c1269, (g1228 5), ho1271, M1317.pick [0, 1, 2, 4, 3] (by kernel_rfl), ha.sub (by kernel_rfl)⟩) ?_
        clear hm
        intro s1359 x1360 hm hout1361 a1362 w1363 ⟨p1369, c1370, sg1371, ho1372, M1364, hS1365⟩
        refine G_use hS1365 ?_
        refine G_seq ?_
        refine G_region ?_
        refine W_run 1 [(2, .pointer (some ⟨b1215, 0, none⟩)), (4, .pointer (some ⟨b1279, 0, none⟩)), (17, .int .i64 (x1194.length : Int)), (18, .int .i64 s1359.1), (19, .bool (decide (s1359.1 < (x1194.length : Int))))] w1363 (by kernel_rfl) ?_
        refine W_nil ?_
        refine N_then ?_
        refine G_seq ?_
        rcases gx_bif hm with ⟨hc1380, hm⟩ | ⟨hc1380, hm⟩
        · refine G_cond_t (b := (decide (s1359.1 < (x1194.length : Int)))) hc1380 (by kernel_rfl) ?_
          refine G_skip ?_
          refine N_then ?_
          refine G_seq ?_
          refine G_block ?_
          refine G_region ?_
          refine W_run 1 [(2, .pointer (some ⟨b1215, 0, none⟩)), (4, .pointer (some ⟨b1279, 0, none⟩)), (17, .int .i64 (x1194.length : Int)), (18, .int .i64 s1359.1), (20, .pointer (some ⟨b1279, 2, none⟩))] w1363 (by kernel_rfl) ?_
          refine W_val (.slice p1369 s1359.2.length c1370) w1363 (by kernel_rfl) (E_load (e := 28) (fr := (0, 0)) _ _ false 1 b1279 2 [.slice p1257 r1255.length c1258, .slice p1263 mk1261.length c1264, .slice p1369 s1359.2.length c1370] (.slice p1369 s1359.2.length c1370) rfl (by kernel_rfl) (by kernel_rfl) (by kernel_rfl) (M1364.blk 3 (b := b1279) (o := .cells ⟨[.slice p1257 r1255.length c1258, .slice p1263 mk1261.length c1264, .slice p1369 s1359.2.length c1370]⟩ 28 (0, 0)) (by kernel_rfl))) ?_
          refine W_lit (E := encB) [true] 1 [.bool true] 4 M1364 (by kernel_rfl) (by kernel_rfl) (by kernel_rfl) (by kernel_rfl) (by kernel_rfl) ?_
          intro p1381 c1382 sg1383 w1384 ho1385 M1386
          obtain ⟨ap1388, hap1388, hm⟩ := gx_bind hm
          refine W_append (E := encB) _ _ _ 1 [.bool false] 4 c1382 M1386 ho1372 (by kernel_rfl) (by kernel_rfl) (by kernel_rfl) rfl (by kernel_rfl) (by kernel_rfl) (by kernel_rfl) (by kernel_rfl) (by kernel_rfl) (by kernel_rfl) (ho1385.rd M1386 5 (by kernel_rfl)) hap1388 ?_
          intro p1389 c1390 sg1391 w1392 ho1393 M1394
          refine W_run 1 [(2, .pointer (some ⟨b1215, 0, none⟩)), (4, .pointer (some ⟨b1279, 0, none⟩)), (17, .int .i64 (x1194.length : Int)), (18, .int .i64 s1359.1), (23, .slice p1389 ap1388.length c1390), (24, .pointer (some ⟨b1279, 2, none⟩))] w1392 (by kernel_rfl) ?_
          refine W_store _ _ _ false 1 b1279 2 [.slice p1257 r1255.length c1258, .slice p1263 mk1261.length c1264, .slice p1369 s1359.2.length c1370] 28 (.slice p1389 ap1388.length c1390) 3 [.slice p1257 r1255.length c1258, .slice p1263 mk1261.length c1264, .slice p1389 ap1388.length c1390] M1394 (by kernel_rfl) rfl (by kernel_rfl) (by kernel_rfl) (by kernel_rfl) (by kernel_rfl) (by kernel_rfl) (by kernel_rfl) (by kernel_rfl) (by kernel_rfl) ?_
          intro w1396 M1397
          refine W_nil ?_
          refine N_block ?_
          refine N_then ?_
          refine G_region ?_
          refine W_run 2 [(2, .pointer (some ⟨b1215, 0, none⟩)), (4, .pointer (some ⟨b1279, 0, none⟩)), (17, .int .i64 (x1194.length : Int)), (18, .int .i64 (w64 (s1359.1 + 1)))] w1396 (by kernel_rfl) ?_
          refine W_nil ?_
          obtain rfl := Option.some.inj hm
          exact N_loop fun a ha => ⟨_, rfl, p1389, c1390, sg1391, ho1393, M1397.pick [0, 1, 2, 3, 4] (by kernel_rfl), ha.sub (by kernel_rfl)⟩
        · refine G_cond_f (b := (decide (s1359.1 < (x1194.length : Int)))) hc1380 (by kernel_rfl) ?_
          refine G_exit ?_
          refine N_then_exit ?_
          refine N_then_exit ?_
          refine N_block_eq ?_
          obtain rfl := Option.some.inj hm
          obtain rfl := hout1361 _ rfl
          exact N_meet fun a ha => ⟨p1369, c1370, sg1371, ho1372, M1364.pick [0, 1, 2, 3, 4] (by kernel_rfl), ha.sub (by kernel_rfl)⟩
      · intro a1398 w1399 ⟨p1375, c1376, sg1377, ho1378, M1400, hS1401⟩
        refine N_use hS1401 ?_
        have hm := hmo1368
        refine N_then ?_
        refine G_seq ?_
        refine G_region ?_
        refine W_val (.agg #[.slice p1257 r1255.length c1258, .slice p1263 mk1261.length c1264, .slice p1375 out1366.length c1376]) w1399 (by kernel_rfl) (E_load (e := 28) (fr := (0, 0)) _ _ true 3 b1279 0 [.slice p1257 r1255.length c1258, .slice p1263 mk1261.length c1264, .slice p1375 out1366.length c1376] (.agg #[.slice p1257 r1255.length c1258, .slice p1263 mk1261.length c1264, .slice p1375 out1366.length c1376]) rfl (by kernel_rfl) (by kernel_rfl) (by kernel_rfl) (M1400.blk 3 (b := b1279) (o := .cells ⟨[.slice p1257 r1255.length c1258, .slice p1263 mk1261.length c1264, .slice p1375 out1366.length c1376]⟩ 28 (0, 0)) (by kernel_rfl))) ?_
        refine W_store _ _ _ true 3 b1215 0 [.slice none 0 0, .slice none 0 0, .slice none 0 0] 28 (.agg #[.slice p1257 r1255.length c1258, .slice p1263 mk1261.length c1264, .slice p1375 out1366.length c1376]) 0 [.slice p1257 r1255.length c1258, .slice p1263 mk1261.length c1264, .slice p1375 out1366.length c1376] M1400 (by kernel_rfl) rfl (by kernel_rfl) (by kernel_rfl) (by kernel_rfl) (by kernel_rfl) (by kernel_rfl) (by kernel_rfl) (by kernel_rfl) (by kernel_rfl) ?_
        intro w1402 M1403
        refine W_run 1 [(2, .pointer (some ⟨b1215, 0, none⟩)), (3, .bool true)] w1402 (by kernel_rfl) ?_
        refine W_nil ?_
        refine N_then ?_
        refine G_ret ?_
        obtain rfl := Option.some.inj hm
        refine N_ret [.agg #[.slice p1257 r1255.length c1258, .slice p1263 mk1261.length c1264, .slice p1375 out1366.length c1376], .bool true] (RVs_cons (RV_cell (g := true) (k := 3) (b := b1215) (off := 0) (cs := [.slice p1257 r1255.length c1258, .slice p1263 mk1261.length c1264, .slice p1375 out1366.length c1376]) (e := 28) (fr := (0, 0)) (v := .agg #[.slice p1257 r1255.length c1258, .slice p1263 mk1261.length c1264, .slice p1375 out1366.length c1376]) (M1403.blk 0 (b := b1215) (o := .cells ⟨[.slice p1257 r1255.length c1258, .slice p1263 mk1261.length c1264, .slice p1375 out1366.length c1376]⟩ 28 (0, 0)) (by kernel_rfl)) (by kernel_rfl) (by kernel_rfl) (by kernel_rfl)) (RVs_cons (RV_tmp (by kernel_rfl)) RVs_nil)) ?_
        exact ⟨p1257, c1258, (g1228 1), p1263, c1264, (g1228 4), p1375, c1376, sg1377, rfl, ho1260, ho1266, ho1378, M1403.pick [1, 2, 4] (by kernel_rfl)⟩
theorem c_l_markIntS (w : World) (x1464 : List Int) (p1466 : Option Addr) (c1467 : Nat) (sg1468 : Seg) (ho1469 : ownS encI x1464 p1466 c1467 sg1468) (x1470 : Int) (hA : ∀ q ∈ List.flatten [sg1468], w.heap[q.1]? = some q.2) (hN : (idsOf [sg1468]).Nodup) {r : Int × (List Int)} (hm : M.l_markIntS x1464 x1470 = some r) :
    Calls Try.prog 22 #[.slice p1466 x1464.length c1467, .int .i64 x1470] w fun e w' => ∃ (sg1471 : Seg), e = .returned (.int .i64 r.1) ∧ ownS encI r.2 p1466 c1467 sg1471 ∧ r.2.length = x1464.length ∧ Mem (idsOf [sg1468]) w w' [sg1471] := by
  unfold M.l_markIntS at hm
  refine C_enter Try.func22 rfl (by kernel_rfl) ?_
  have M0 := Mem.start' w [sg1468] hA hN
  refine G_seq ?_
  refine G_region ?_
  refine W_run 1 [(0, .slice p1466 x1464.length c1467), (1, .int .i64 x1470)] w (by kernel_rfl) ?_
  refine W_nil ?_
  refine N_then ?_
  refine G_seq ?_
  refine G_seq ?_
  refine G_region ?_
  refine W_run 1 [(0, .slice p1466 x1464.length c1467), (1, .int .i64 x1470), (5, .int .i64 0)] w (by kernel_rfl) ?_
  refine W_nil ?_
  refine N_then ?_
  obtain ⟨out1494, hw1495, hmo1496⟩ := gx_bind hm
  refine G_meet (fun a w' => ∃ (sg1501 : Seg), ownS encI out1494.2 p1466 c1467 sg1501 ∧ out1494.2.length = x1464.length ∧ Mem (idsOf [sg1468]) w w' [sg1501] ∧ Sat Try.f22.ntmps [(1, .int .i64 out1494.1)] a) ?_ ?_
  · refine G_block ?_
    refine G_while (σ := Int × Int × List Int) (ρ := Int × List Int) (fun s1487 a w' => ∃ (sg1497 : Seg), ownS encI s1487.2.2 p1466 c1467 sg1497 ∧ s1487.2.2.length = x1464.length ∧ Mem (idsOf [sg1468]) w w' [sg1497] ∧ Sat Try.f22.ntmps [(0, .slice p1466 s1487.2.2.length c1467), (1, .int .i64 s1487.1), (5, .int .i64 s1487.2.1)] a) hw1495 (fun a ha => ⟨sg1468, ho1469, rfl, M0.pick [0] (by kernel_rfl), ha.sub (by kernel_rfl)⟩) ?_
    clear hm
    intro s1487 x1488 hm hout1489 a1490 w1491 ⟨sg1497, ho1498, hl1499, M1492, hS1493⟩
    refine G_use hS1493 ?_
    refine G_seq ?_
    refine G_seq ?_
    refine G_region ?_
    refine W_run 4 [(0, .slice p1466 s1487.2.2.length c1467), (1, .int .i64 s1487.1), (5, .int .i64 s1487.2.1), (9, .bool (decide (s1487.2.1 < (s1487.2.2.length : Int))))] w1491 (by kernel_rfl) ?_
    refine W_nil ?_
    refine N_then ?_
    rcases gx_bif hm with ⟨hc1504, hm⟩ | ⟨hc1504, hm⟩
    · refine G_cond_t (b := (decide (s1487.2.1 < (s1487.2.2.length : Int)))) hc1504 (by kernel_rfl) ?_
      refine G_skip ?_
      refine N_then ?_
      refine G_seq ?_
      refine G_block ?_
      refine G_seq ?_
      refine G_region ?_
      refine W_run 3 [(0, .slice p1466 s1487.2.2.length c1467), (1, .int .i64 s1487.1), (5, .int .i64 s1487.2.1), (12, .slice p1466 s1487.2.2.length c1467), (13, .int .i64 s1487.2.1), (14, .int .i64 s1487.1)] w1491 (by kernel_rfl) ?_
      obtain ⟨y1505, hy1505, hm⟩ := gx_bind hm
      refine W_val (elemP p1466 (s1487.2.1.toNat * 1)) w1491 (by kernel_rfl) (E_index (E := encI) _ _ _ s1487.2.2.length c1467 .i64 s1487.2.1 1 (y := y1505) rfl (by kernel_rfl) (by kernel_rfl) (by kernel_rfl) (ho1498.rd M1492 0 (by kernel_rfl)) rfl hy1505) ?_
      refine W_storeE (E := encI) _ _ _ false 1 s1487.2.1.toNat 0 (s1487.2.1.toNat * 1) y1505 s1487.1 (.int .i64 s1487.1) 0 M1492 ho1498 (by kernel_rfl) (by kernel_rfl) rfl (by kernel_rfl) (by kernel_rfl) (by kernel_rfl) (by kernel_rfl) (by kernel_rfl) (by kernel_rfl) (by kernel_rfl) (gxIdx_spec hy1505).2 rfl ?_
      intro w1506 sg1508 ho1509 M1507
      refine W_conv 0 (.slice p1466 s1487.2.2.length c1467) (.slice p1466 (s1487.2.2.set s1487.2.1.toNat s1487.1).length c1467) (by kernel_rfl) (by rw [@List.length_set _ s1487.2.2 s1487.2.1.toNat s1487.1]) ?_
      refine W_conv 12 (.slice p1466 s1487.2.2.length c1467) (.slice p1466 (s1487.2.2.set s1487.2.1.toNat s1487.1).length c1467) (by kernel_rfl) (by rw [@List.length_set _ s1487.2.2 s1487.2.1.toNat s1487.1]) ?_
      refine W_nil ?_
      refine N_then ?_
      refine G_region ?_
      refine W_run 3 [(0, .slice p1466 (s1487.2.2.set s1487.2.1.toNat s1487.1).length c1467), (1, .int .i64 (w64 (s1487.1 + 1))), (5, .int .i64 s1487.2.1)] w1506 (by kernel_rfl) ?_
      refine W_nil ?_
      refine N_block ?_
      refine N_then ?_
      refine G_region ?_
      refine W_run 3 [(0, .slice p1466 (s1487.2.2.set s1487.2.1.toNat s1487.1).length c1467), (1, .int .i64 (w64 (s1487.1 + 1))), (5, .int .i64 (w64 (s1487.2.1 + 1)))] w1506 (by kernel_rfl) ?_
      refine W_nil ?_
      obtain rfl := Option.some.inj hm
      exact N_loop fun a ha => ⟨_, rfl, sg1508, ho1509, (List.length_set.trans hl1499), M1507.pick [0] (by kernel_rfl), ha.sub (by kernel_rfl)⟩
    · refine G_cond_f (b := (decide (s1487.2.1 < (s1487.2.2.length : Int)))) hc1504 (by kernel_rfl) ?_
      refine G_exit ?_
      refine N_then_exit ?_
      refine N_then_exit ?_
      refine N_block_eq ?_
      obtain rfl := Option.some.inj hm
      obtain rfl := hout1489 _ rfl
      exact N_meet fun a ha => ⟨sg1497, ho1498, hl1499, M1492.pick [0] (by kernel_rfl), ha.sub (by kernel_rfl)⟩
  · intro a1510 w1511 ⟨sg1501, ho1502, hl1503, M1512, hS1513⟩
    refine N_use hS1513 ?_
    have hm := hmo1496
    refine N_then ?_
    refine G_seq ?_
    refine G_region ?_
    refine W_run 2 [(4, .int .i64 out1494.1)] w1511 (by kernel_rfl) ?_
    refine W_nil ?_
    refine N_then ?_
    refine G_ret ?_
    obtain rfl := Option.some.inj hm
    refine N_ret [.int .i64 out1494.1] (RVs_cons (RV_tmp (by kernel_rfl)) RVs_nil) ?_
    exact ⟨sg1501, rfl, ho1502, hl1503, M1512.pick [0] (by kernel_rfl)⟩
theorem c_l_markBoolS (w : World) (x1581 : List Bool) (p1583 : Option Addr) (c1584 : Nat) (sg1585 : Seg) (ho1586 : ownS encB x1581 p1583 c1584 sg1585) (x1587 : Int) (hA : ∀ q ∈ List.flatten [sg1585], w.heap[q.1]? = some q.2) (hN : (idsOf [sg1585]).Nodup) {r : Int × (List Bool)} (hm : M.l_markBoolS x1581 x1587 = some r) :
    Calls Try.prog 63 #[.slice p1583 x1581.length c1584, .int .i64 x1587] w fun e w' => ∃ (sg1588 : Seg), e = .returned (.int .i64 r.1) ∧ ownS encB r.2 p1583 c1584 sg1588 ∧ r.2.length = x1581.length ∧ Mem (idsOf [sg1585]) w w' [sg1588] := by
  unfold M.l_markBoolS at hm
  refine C_enter Try.func63 rfl (by kernel_rfl) ?_
  have M0 := Mem.start' w [sg1585] hA hN
  refine G_seq ?_
  refine G_region ?_
  refine W_run 1 [(0, .slice p1583 x1581.length c1584), (1, .int .i64 x1587)] w (by kernel_rfl) ?_
  refine W_nil ?_
  refine N_then ?_
  refine G_seq ?_
  refine G_seq ?_
  refine G_region ?_
  refine W_run 1 [(0, .slice p1583 x1581.length c1584), (1, .int .i64 x1587), (5, .int .i64 0)] w (by kernel_rfl) ?_
  refine W_nil ?_
  refine N_then ?_
  obtain ⟨out1611, hw1612, hmo1613⟩ := gx_bind hm
  refine G_meet (fun a w' => ∃ (sg1618 : Seg), ownS encB out1611.2 p1583 c1584 sg1618 ∧ out1611.2.length = x1581.length ∧ Mem (idsOf [sg1585]) w w' [sg1618] ∧ Sat Try.f63.ntmps [(1, .int .i64 out1611.1)] a) ?_ ?_
  · refine G_block ?_
    refine G_while (σ := Int × Int × List Bool) (ρ := Int × List Bool) (fun s1604 a w' => ∃ (sg1614 : Seg), ownS encB s1604.2.2 p1583 c1584 sg1614 ∧ s1604.2.2.length = x1581.length ∧ Mem (idsOf [sg1585]) w w' [sg1614] ∧ Sat Try.f63.ntmps [(0, .slice p1583 s1604.2.2.length c1584), (1, .int .i64 s1604.1), (5, .int .i64 s1604.2.1)] a) hw1612 (fun a ha => ⟨sg1585, ho1586, rfl, M0.pick [0] (by kernel_rfl), ha.sub (by kernel_rfl)⟩) ?_
    clear hm
    intro s1604 x1605 hm hout1606 a1607 w1608 ⟨sg1614, ho1615, hl1616, M1609, hS1610⟩
    refine G_use hS1610 ?_
    refine G_seq ?_
    refine G_seq ?_
    refine G_region ?_
    refine W_run 4 [(0, .slice p1583 s1604.2.2.length c1584), (1, .int .i64 s1604.1), (5, .int .i64 s1604.2.1), (9, .bool (decide (s1604.2.1 < (s1604.2.2.length : Int))))] w1608 (by kernel_rfl) ?_
    refine W_nil ?_
    refine N_then ?_
    rcases gx_bif hm with ⟨hc1621, hm⟩ | ⟨hc1621, hm⟩
    · refine G_cond_t (b := (decide (s1604.2.1 < (s1604.2.2.length : Int)))) hc1621 (by kernel_rfl) ?_
      refine G_skip ?_
      refine N_then ?_
      refine G_seq ?_
      refine G_block ?_
      refine G_seq ?_
      refine G_region ?_
      refine W_run 5 [(0, .slice p1583 s1604.2.2.length c1584), (1, .int .i64 s1604.1), (5, .int .i64 s1604.2.1), (12, .slice p1583 s1604.2.2.length c1584), (13, .int .i64 s1604.2.1), (16, .bool ((s1604.1.tmod 3) == 0))] w1608 (by kernel_rfl) ?_
      obtain ⟨y1622, hy1622, hm⟩ := gx_bind hm
      refine W_val (elemP p1583 (s1604.2.1.toNat * 1)) w1608 (by kernel_rfl) (E_index (E := encB) _ _ _ s1604.2.2.length c1584 .i64 s1604.2.1 1 (y := y1622) rfl (by kernel_rfl) (by kernel_rfl) (by kernel_rfl) (ho1615.rd M1609 0 (by kernel_rfl)) rfl hy1622) ?_
      refine W_storeE (E := encB) _ _ _ false 1 s1604.2.1.toNat 0 (s1604.2.1.toNat * 1) y1622 ((s1604.1.tmod 3) == 0) (.bool ((s1604.1.tmod 3) == 0)) 0 M1609 ho1615 (by kernel_rfl) (by kernel_rfl) rfl (by kernel_rfl) (by kernel_rfl) (by kernel_rfl) (by kernel_rfl) (by kernel_rfl) (by kernel_rfl) (by kernel_rfl) (gxIdx_spec hy1622).2 rfl ?_
      intro w1623 sg1625 ho1626 M1624
      refine W_conv 0 (.slice p1583 s1604.2.2.length c1584) (.slice p1583 (s1604.2.2.set s1604.2.1.toNat ((s1604.1.tmod 3) == 0)).length c1584) (by kernel_rfl) (by rw [@List.length_set _ s1604.2.2 s1604.2.1.toNat ((s1604.1.tmod 3) == 0)]) ?_
      refine W_conv 12 (.slice p1583 s1604.2.2.length c1584) (.slice p1583 (s1604.2.2.set s1604.2.1.toNat ((s1604.1.tmod 3) == 0)).length c1584) (by kernel_rfl) (by rw [@List.length_set _ s1604.2.2 s1604.2.1.toNat ((s1604.1.tmod 3) == 0)]) ?_
      refine W_nil ?_
      refine N_then ?_
      refine G_region ?_
      refine W_run 3 [(0, .slice p1583 (s1604.2.2.set s1604.2.1.toNat ((s1604.1.tmod 3) == 0)).length c1584), (1, .int .i64 (w64 (s1604.1 + 1))), (5, .int .i64 s1604.2.1)] w1623 (by kernel_rfl) ?_
      refine W_nil ?_
      refine N_block ?_
      refine N_then ?_
      refine G_region ?_
      refine W_run 3 [(0, .slice p1583 (s1604.2.2.set s1604.2.1.toNat ((s1604.1.tmod 3) == 0)).length c1584), (1, .int .i64 (w64 (s1604.1 + 1))), (5, .int .i64 (w64 (s1604.2.1 + 1)))] w1623 (by kernel_rfl) ?_
      refine W_nil ?_
      obtain rfl := Option.some.inj hm
      exact N_loop fun a ha => ⟨_, rfl, sg1625, ho1626, (List.length_set.trans hl1616), M1624.pick [0] (by kernel_rfl), ha.sub (by kernel_rfl)⟩
    · refine G_cond_f (b := (decide (s1604.2.1 < (s1604.2.2.length : Int)))) hc1621 (by kernel_rfl) ?_
      refine G_exit ?_
      refine N_then_exit ?_
      refine N_then_exit ?_
      refine N_block_eq ?_
      obtain rfl := Option.some.inj hm
      obtain rfl := hout1606 _ rfl
      exact N_meet fun a ha => ⟨sg1614, ho1615, hl1616, M1609.pick [0] (by kernel_rfl), ha.sub (by kernel_rfl)⟩
  · intro a1627 w1628 ⟨sg1618, ho1619, hl1620, M1629, hS1630⟩
    refine N_use hS1630 ?_
    have hm := hmo1613
    refine N_then ?_
    refine G_seq ?_
    refine G_region ?_
    refine W_run 2 [(4, .int .i64 out1611.1)] w1628 (by kernel_rfl) ?_
    refine W_nil ?_
    refine N_then ?_
    refine G_ret ?_
    obtain rfl := Option.some.inj hm
    refine N_ret [.int .i64 out1611.1] (RVs_cons (RV_tmp (by kernel_rfl)) RVs_nil) ?_
    exact ⟨sg1618, rfl, ho1619, hl1620, M1629.pick [0] (by kernel_rfl)⟩
theorem c_l_markCopying (w : World) (x1541 : Copying) (p1543 : Option Addr) (c1544 : Nat) (sg1545 : Seg) (ho1546 : ownS encI x1541.Memory p1543 c1544 sg1545) (p1548 : Option Addr) (c1549 : Nat) (sg1550 : Seg) (ho1551 : ownS encI x1541.Copy p1548 c1549 sg1550) (p1553 : Option Addr) (c1554 : Nat) (sg1555 : Seg) (ho1556 : ownS encB x1541.Dirty p1553 c1554 sg1555) (x1557 : Int) (hA : ∀ q ∈ List.flatten [sg1545, sg1550, sg1555], w.heap[q.1]? = some q.2) (hN : (idsOf [sg1545, sg1550, sg1555]).Nodup) {r : Int × (List Int) × (List Int) × (List Bool)} (hm : M.l_markCopying x1541 x1557 = some r) :
    Calls Try.prog 23 #[.agg #[.slice p1543 x1541.Memory.length c1544, .slice p1548 x1541.Copy.length c1549, .slice p1553 x1541.Dirty.length c1554], .int .i64 x1557] w fun e w' => ∃ (sg1558 : Seg), ∃ (sg1559 : Seg), ∃ (sg1560 : Seg), e = .returned (.int .i64 r.1) ∧ ownS encI r.2.1 p1543 c1544 sg1558 ∧ r.2.1.length = x1541.Memory.length ∧ ownS encI r.2.2.1 p1548 c1549 sg1559 ∧ r.2.2.1.length = x1541.Copy.length ∧ ownS encB r.2.2.2 p1553 c1554 sg1560 ∧ r.2.2.2.length = x1541.Dirty.length ∧ Mem (idsOf [sg1545, sg1550, sg1555]) w w' [sg1558, sg1559, sg1560] := by
  unfold M.l_markCopying at hm
  refine C_enter Try.func23 rfl (by kernel_rfl) ?_
  have M0 := Mem.start' w [sg1545, sg1550, sg1555] hA hN
  refine G_seq ?_
  refine G_region ?_
  refine W_new (fun b => .pointer (some ⟨b, 0, none⟩)) (.cells ⟨[.slice p1543 x1541.Memory.length c1544, .slice p1548 x1541.Copy.length c1549, .slice p1553 x1541.Dirty.length c1554]⟩ 28 (0, 0)) M0 rfl (by kernel_rfl) (by kernel_rfl) ?_
  intro b1562 w1563 M1564
  refine W_run 1 [(1, .int .i64 x1557), (2, .pointer (some ⟨b1562, 0, none⟩))] w1563 (by kernel_rfl) ?_
  refine W_nil ?_
  refine N_then ?_
  refine G_seq ?_
  refine G_region ?_
  refine W_run 1 [(1, .int .i64 x1557), (2, .pointer (some ⟨b1562, 0, none⟩)), (5, .pointer (some ⟨b1562, 0, none⟩))] w1563 (by kernel_rfl) ?_
  refine W_val (.slice p1543 x1541.Memory.length c1544) w1563 (by kernel_rfl) (E_load (e := 28) (fr := (0, 0)) _ _ false 1 b1562 0 [.slice p1543 x1541.Memory.length c1544, .slice p1548 x1541.Copy.length c1549, .slice p1553 x1541.Dirty.length c1554] (.slice p1543 x1541.Memory.length c1544) rfl (by kernel_rfl) (by kernel_rfl) (by kernel_rfl) (M1564.blk 3 (b := b1562) (o := .cells ⟨[.slice p1543 x1541.Memory.length c1544, .slice p1548 x1541.Copy.length c1549, .slice p1553 x1541.Dirty.length c1554]⟩ 28 (0, 0)) (by kernel_rfl))) ?_
  refine W_run 1 [(1, .int .i64 x1557), (2, .pointer (some ⟨b1562, 0, none⟩)), (6, .slice p1543 x1541.Memory.length c1544), (7, .int .i64 x1557)] w1563 (by kernel_rfl) ?_
  obtain ⟨r1565, hr1565, hm⟩ := gx_bind hm
  refine W_call 22 #[.slice p1543 x1541.Memory.length c1544, .int .i64 x1557] (by kernel_rfl) (by kernel_rfl) ?_
  refine (c_l_markIntS w1563 x1541.Memory p1543 c1544 sg1545 ho1546 x1557 (M1564.hasPick [0]) (M1564.nodupPick [0] (by kernel_rfl)) hr1565).mono ?_
  rintro e_ w1569 ⟨sg1566, rfl, ho1567, hl1568, K1570⟩
  have M1571 := M1564.callF' [0] [1, 2, 3] (by kernel_rfl) K1570
  refine ⟨_, rfl, ?_⟩
  refine W_conv 6 (.slice p1543 x1541.Memory.length c1544) (.slice p1543 r1565.2.length c1544) (by kernel_rfl) (by first | rw [hl1568] | rw [hl1568]) ?_
  have M1572 : Mem (idsOf [sg1545, sg1550, sg1555]) w w1569 [sg1550, sg1555, [(b1562, .cells ⟨[.slice p1543 r1565.2.length c1544, .slice p1548 x1541.Copy.length c1549, .slice p1553 x1541.Dirty.length c1554]⟩ 28 (0, 0))], sg1566] := by rw [hl1568]; exact M1571
  refine W_run 1 [(1, .int .i64 r1565.1), (2, .pointer (some ⟨b1562, 0, none⟩))] w1569 (by kernel_rfl) ?_
  refine W_nil ?_
  refine N_then ?_
  refine G_seq ?_
  refine G_region ?_
  refine W_run 1 [(1, .int .i64 r1565.1), (2, .pointer (some ⟨b1562, 0, none⟩)), (9, .pointer (some ⟨b1562, 1, none⟩))] w1569 (by kernel_rfl) ?_
  refine W_val (.slice p1548 x1541.Copy.length c1549) w1569 (by kernel_rfl) (E_load (e := 28) (fr := (0, 0)) _ _ false 1 b1562 1 [.slice p1543 r1565.2.length c1544, .slice p1548 x1541.Copy.length c1549, .slice p1553 x1541.Dirty.length c1554] (.slice p1548 x1541.Copy.length c1549) rfl (by kernel_rfl) (by kernel_rfl) (by kernel_rfl) (M1572.blk 2 (b := b1562) (o := .cells ⟨[.slice p1543 r1565.2.length c1544, .slice p1548 x1541.Copy.length c1549, .slice p1553 x1541.Dirty.length c1554]⟩ 28 (0, 0)) (by kernel_rfl))) ?_
  refine W_run 1 [(1, .int .i64 r1565.1), (2, .pointer (some ⟨b1562, 0, none⟩)), (10, .slice p1548 x1541.Copy.length c1549), (11, .int .i64 r1565.1)] w1569 (by kernel_rfl) ?_
  obtain ⟨r1573, hr1573, hm⟩ := gx_bind hm
  refine W_call 22 #[.slice p1548 x1541.Copy.length c1549, .int .i64 r1565.1] (by kernel_rfl) (by kernel_rfl) ?_
  refine (c_l_markIntS w1569 x1541.Copy p1548 c1549 sg1550 ho1551 r1565.1 (M1572.hasPick [0]) (M1572.nodupPick [0] (by kernel_rfl)) hr1573).mono ?_
  rintro e_ w1577 ⟨sg1574, rfl, ho1575, hl1576, K1578⟩
  have M1579 := M1572.callF' [0] [1, 2, 3] (by kernel_rfl) K1578
  refine ⟨_, rfl, ?_⟩
  refine W_conv 10 (.slice p1548 x1541.Copy.length c1549) (.slice p1548 r1573.2.length c1549) (by kernel_rfl) (by first | rw [hl1576] | rw [hl1576]) ?_
  have M1580 : Mem (idsOf [sg1545, sg1550, sg1555]) w w1577 [sg1555, [(b1562, .cells ⟨[.slice p1543 r1565.2.length c1544, .slice p1548 r1573.2.length c1549, .slice p1553 x1541.Dirty.length c1554]⟩ 28 (0, 0))], sg1566, sg1574] := by rw [hl1576]; exact M1579
  refine W_run 1 [(1, .int .i64 r1573.1), (2, .pointer (some ⟨b1562, 0, none⟩))] w1577 (by kernel_rfl) ?_
  refine W_nil ?_
  refine N_then ?_
  refine G_seq ?_
  refine G_region ?_
  refine W_run 1 [(1, .int .i64 r1573.1), (13, .pointer (some ⟨b1562, 2, none⟩))] w1577 (by kernel_rfl) ?_
  refine W_val (.slice p1553 x1541.Dirty.length c1554) w1577 (by kernel_rfl) (E_load (e := 28) (fr := (0, 0)) _ _ false 1 b1562 2 [.slice p1543 r1565.2.length c1544, .slice p1548 r1573.2.length c1549, .slice p1553 x1541.Dirty.length c1554] (.slice p1553 x1541.Dirty.length c1554) rfl (by kernel_rfl) (by kernel_rfl) (by kernel_rfl) (M1580.blk 1 (b := b1562) (o := .cells ⟨[.slice p1543 r1565.2.length c1544, .slice p1548 r1573.2.length c1549, .slice p1553 x1541.Dirty.length c1554]⟩ 28 (0, 0)) (by kernel_rfl))) ?_
  refine W_run 1 [(1, .int .i64 r1573.1), (14, .slice p1553 x1541.Dirty.length c1554), (15, .int .i64 r1573.1)] w1577 (by kernel_rfl) ?_
  obtain ⟨r1631, hr1631, hm⟩ := gx_bind hm
  refine W_call 63 #[.slice p1553 x1541.Dirty.length c1554, .int .i64 r1573.1] (by kernel_rfl) (by kernel_rfl) ?_
  refine (c_l_markBoolS w1577 x1541.Dirty p1553 c1554 sg1555 ho1556 r1573.1 (M1580.hasPick [0]) (M1580.nodupPick [0] (by kernel_rfl)) hr1631).mono ?_
  rintro e_ w1635 ⟨sg1632, rfl, ho1633, hl1634, K1636⟩
  have M1637 := M1580.callF' [0] [1, 2, 3] (by kernel_rfl) K1636
  refine ⟨_, rfl, ?_⟩
  refine W_conv 14 (.slice p1553 x1541.Dirty.length c1554) (.slice p1553 r1631.2.length c1554) (by kernel_rfl) (by first | rw [hl1634] | rw [hl1634]) ?_
  have M1638 : Mem (idsOf [sg1545, sg1550, sg1555]) w w1635 [[(b1562, .cells ⟨[.slice p1543 r1565.2.length c1544, .slice p1548 r1573.2.length c1549, .slice p1553 r1631.2.length c1554]⟩ 28 (0, 0))], sg1566, sg1574, sg1632] := by rw [hl1634]; exact M1637
  refine W_run 1 [(1, .int .i64 r1631.1)] w1635 (by kernel_rfl) ?_
  refine W_nil ?_
  refine N_then ?_
  refine G_seq ?_
  refine G_region ?_
  refine W_run 2 [(4, .int .i64 r1631.1)] w1635 (by kernel_rfl) ?_
  refine W_nil ?_
  refine N_then ?_
  refine G_ret ?_
  obtain rfl := Option.some.inj hm
  refine N_ret [.int .i64 r1631.1] (RVs_cons (RV_tmp (by kernel_rfl)) RVs_nil) ?_
  exact ⟨sg1566, sg1574, sg1632, rfl, ho1567, (hl1568.trans rfl), ho1575, (hl1576.trans rfl), ho1633, (hl1634.trans rfl), M1638.pick [1, 2, 3] (by kernel_rfl)⟩
theorem c_l_heldIntS (w : World) (x1671 : List Int) (p1673 : Option Addr) (c1674 : Nat) (h1675 : rdS encI w x1671 p1673 c1674) (x1676 : Int) {r : Int} (hm : M.l_heldIntS x1671 x1676 = some r) :
    Calls Try.prog 27 #[.slice p1673 x1671.length c1674, .int .i64 x1676] w fun e w' => e = .returned (.int .i64 r) ∧ Mem [] w w' [] := by
  unfold M.l_heldIntS at hm
  refine C_enter Try.func27 rfl (by kernel_rfl) ?_
  have M0 := Mem.refl [] w
  refine G_seq ?_
  refine G_region ?_
  refine W_run 1 [(0, .slice p1673 x1671.length c1674), (1, .int .i64 x1676)] w (by kernel_rfl) ?_
  refine W_nil ?_
  refine N_then ?_
  refine G_seq ?_
  refine G_seq ?_
  refine G_region ?_
  refine W_run 1 [(0, .slice p1673 x1671.length c1674), (1, .int .i64 x1676), (5, .int .i64 0)] w (by kernel_rfl) ?_
  refine W_nil ?_
  refine N_then ?_
  obtain ⟨out1690, hw1691, hmo1692⟩ := gx_bind hm
  refine G_meet (fun a w' => ∃ (o1693 : Int), out1690 = .inl o1693 ∧ Mem [] w w' [] ∧ Sat Try.f27.ntmps [(1, .int .i64 o1693)] a) ?_ ?_
  · refine G_block ?_
    refine G_while (σ := Int × Int) (ρ := (Int) ⊕ (Int)) (fun s1683 a w' => Mem [] w w' [] ∧ Sat Try.f27.ntmps [(0, .slice p1673 x1671.length c1674), (1, .int .i64 s1683.1), (5, .int .i64 s1683.2)] a) hw1691 (fun a ha => ⟨M0.pick [] (by kernel_rfl), ha.sub (by kernel_rfl)⟩) ?_
    clear hm
    intro s1683 x1684 hm hout1685 a1686 w1687 ⟨M1688, hS1689⟩
    refine G_use hS1689 ?_
    refine G_seq ?_
    refine G_seq ?_
    refine G_region ?_
    refine W_run 4 [(0, .slice p1673 x1671.length c1674), (1, .int .i64 s1683.1), (5, .int .i64 s1683.2), (9, .bool (decide (s1683.2 < (x1671.length : Int))))] w1687 (by kernel_rfl) ?_
    refine W_nil ?_
    refine N_then ?_
    rcases gx_bif hm with ⟨hc1694, hm⟩ | ⟨hc1694, hm⟩
    · refine G_cond_t (b := (decide (s1683.2 < (x1671.length : Int)))) hc1694 (by kernel_rfl) ?_
      refine G_skip ?_
      refine N_then ?_
      refine G_seq ?_
      refine G_block ?_
      refine G_seq ?_
      refine G_seq ?_
      refine G_region ?_
      refine W_run 2 [(0, .slice p1673 x1671.length c1674), (1, .int .i64 s1683.1), (5, .int .i64 s1683.2), (12, .slice p1673 x1671.length c1674), (13, .int .i64 s1683.2)] w1687 (by kernel_rfl) ?_
      obtain ⟨y1695, hy1695, hm⟩ := gx_bind hm
      refine W_val (elemP p1673 (s1683.2.toNat * 1)) w1687 (by kernel_rfl) (E_index (E := encI) _ _ _ x1671.length c1674 .i64 s1683.2 1 (y := y1695) rfl (by kernel_rfl) (by kernel_rfl) (by kernel_rfl) (h1675.mem0 M1688) rfl hy1695) ?_
      refine W_val (.int .i64 y1695) w1687 (by kernel_rfl) (E_loadE (E := encI) _ _ false 1 s1683.2 0 (s1683.2.toNat * 1) y1695 (.int .i64 y1695) rfl (by kernel_rfl) (by kernel_rfl) (by kernel_rfl) (h1675.mem0 M1688) hy1695 rfl) ?_
      refine W_run 2 [(0, .slice p1673 x1671.length c1674), (1, .int .i64 s1683.1), (5, .int .i64 s1683.2), (17, .bool (y1695 != s1683.1))] w1687 (by kernel_rfl) ?_
      refine W_nil ?_
      refine N_then ?_
      rcases gx_bif hm with ⟨hc1696, hm⟩ | ⟨hc1696, hm⟩
      · refine G_cond_t (b := (y1695 != s1683.1)) hc1696 (by kernel_rfl) ?_
        refine G_seq ?_
        refine G_region ?_
        refine W_run 1 [(4, .int .i64 (-1))] w1687 (by kernel_rfl) ?_
        refine W_nil ?_
        refine N_then ?_
        refine G_ret ?_
        refine N_then_ret ?_
        refine N_block_ret ?_
        refine N_then_ret ?_
        refine N_then_ret ?_
        obtain rfl := Option.some.inj hm
        obtain rfl := hout1685 _ rfl
        have hm := hmo1692; simp only [Sum.elim_inr] at hm
        refine N_block_ret ?_
        refine N_meet_ret ?_
        refine N_then_ret ?_
        obtain rfl := Option.some.inj hm
        refine N_ret [.int .i64 (-1)] (RVs_cons (RV_tmp (by kernel_rfl)) RVs_nil) ?_
        exact ⟨rfl, M1688.pick [] (by kernel_rfl)⟩
      · refine G_cond_f (b := (y1695 != s1683.1)) hc1696 (by kernel_rfl) ?_
        refine G_skip ?_
        refine N_then ?_
        refine G_region ?_
        refine W_run 3 [(0, .slice p1673 x1671.length c1674), (1, .int .i64 (w64 (s1683.1 + 1))), (5, .int .i64 s1683.2)] w1687 (by kernel_rfl) ?_
        refine W_nil ?_
        refine N_block ?_
        refine N_then ?_
        refine G_region ?_
        refine W_run 3 [(0, .slice p1673 x1671.length c1674), (1, .int .i64 (w64 (s1683.1 + 1))), (5, .int .i64 (w64 (s1683.2 + 1)))] w1687 (by kernel_rfl) ?_
        refine W_nil ?_
        obtain rfl := Option.some.inj hm
        exact N_loop fun a ha => ⟨_, rfl, M1688.pick [] (by kernel_rfl), ha.sub (by kernel_rfl)⟩
    · refine G_cond_f (b := (decide (s1683.2 < (x1671.length : Int)))) hc1694 (by kernel_rfl) ?_
      refine G_exit ?_
      refine N_then_exit ?_
      refine N_then_exit ?_
      refine N_block_eq ?_
      obtain rfl := Option.some.inj hm
      obtain rfl := hout1685 _ rfl
      exact N_meet fun a ha => ⟨_, rfl, M1688.pick [] (by kernel_rfl), ha.sub (by kernel_rfl)⟩
  · intro a1697 w1698 ⟨o1693, hout_, M1699, hS1700⟩
    refine N_use hS1700 ?_
    subst hout_
    have hm := hmo1692; simp only [Sum.elim_inl] at hm
    refine N_then ?_
    refine G_seq ?_
    refine G_region ?_
    refine W_run 2 [(4, .int .i64 o1693)] w1698 (by kernel_rfl) ?_
    refine W_nil ?_
    refine N_then ?_
    refine G_ret ?_
    obtain rfl := Option.some.inj hm
    refine N_ret [.int .i64 o1693] (RVs_cons (RV_tmp (by kernel_rfl)) RVs_nil) ?_
    exact ⟨rfl, M1699.pick [] (by kernel_rfl)⟩
theorem c_l_heldBoolS (w : World) (x1711 : List Bool) (p1713 : Option Addr) (c1714 : Nat) (h1715 : rdS encB w x1711 p1713 c1714) (x1716 : Int) {r : Int} (hm : M.l_heldBoolS x1711 x1716 = some r) :
    Calls Try.prog 64 #[.slice p1713 x1711.length c1714, .int .i64 x1716] w fun e w' => e = .returned (.int .i64 r) ∧ Mem [] w w' [] := by
  unfold M.l_heldBoolS at hm
  refine C_enter Try.func64 rfl (by kernel_rfl) ?_
  have M0 := Mem.refl [] w
  refine G_seq ?_
  refine G_region ?_
  refine W_run 1 [(0, .slice p1713 x1711.length c1714), (1, .int .i64 x1716)] w (by kernel_rfl) ?_
  refine W_nil ?_
  refine N_then ?_
  refine G_seq ?_
  refine G_seq ?_
  refine G_region ?_
  refine W_run 1 [(0, .slice p1713 x1711.length c1714), (1, .int .i64 x1716), (5, .int .i64 0)] w (by kernel_rfl) ?_
  refine W_nil ?_
  refine N_then ?_
  obtain ⟨out1730, hw1731, hmo1732⟩ := gx_bind hm
  refine G_meet (fun a w' => ∃ (o1733 : Int), out1730 = .inl o1733 ∧ Mem [] w w' [] ∧ Sat Try.f64.ntmps [(1, .int .i64 o1733)] a) ?_ ?_
  · refine G_block ?_
    refine G_while (σ := Int × Int) (ρ := (Int) ⊕ (Int)) (fun s1723 a w' => Mem [] w w' [] ∧ Sat Try.f64.ntmps [(0, .slice p1713 x1711.length c1714), (1, .int .i64 s1723.1), (5, .int .i64 s1723.2)] a) hw1731 (fun a ha => ⟨M0.pick [] (by kernel_rfl), ha.sub (by kernel_rfl)⟩) ?_
    clear hm
    intro s1723 x1724 hm hout1725 a1726 w1727 ⟨M1728, hS1729⟩
    refine G_use hS1729 ?_
    refine G_seq ?_
    refine G_seq ?_
    refine G_region ?_
    refine W_run 4 [(0, .slice p1713 x1711.length c1714), (1, .int .i64 s1723.1), (5, .int .i64 s1723.2), (9, .bool (decide (s1723.2 < (x1711.length : Int))))] w1727 (by kernel_rfl) ?_
    refine W_nil ?_
    refine N_then ?_
    rcases gx_bif hm with ⟨hc1734, hm⟩ | ⟨hc1734, hm⟩
    · refine G_cond_t (b := (decide (s1723.2 < (x1711.length : Int)))) hc1734 (by kernel_rfl) ?_
      refine G_skip ?_
      refine N_then ?_
      refine G_seq ?_
      refine G_block ?_
      refine G_seq ?_
      refine G_seq ?_
      refine G_region ?_
      refine W_run 2 [(0, .slice p1713 x1711.length c1714), (1, .int .i64 s1723.1), (5, .int .i64 s1723.2), (12, .slice p1713 x1711.length c1714), (13, .int .i64 s1723.2)] w1727 (by kernel_rfl) ?_
      obtain ⟨y1735, hy1735, hm⟩ := gx_bind hm
      refine W_val (elemP p1713 (s1723.2.toNat * 1)) w1727 (by kernel_rfl) (E_index (E := encB) _ _ _ x1711.length c1714 .i64 s1723.2 1 (y := y1735) rfl (by kernel_rfl) (by kernel_rfl) (by kernel_rfl) (h1715.mem0 M1728) rfl hy1735) ?_
      refine W_val (.bool y1735) w1727 (by kernel_rfl) (E_loadE (E := encB) _ _ false 1 s1723.2 0 (s1723.2.toNat * 1) y1735 (.bool y1735) rfl (by kernel_rfl) (by kernel_rfl) (by kernel_rfl) (h1715.mem0 M1728) hy1735 rfl) ?_
      refine W_run 4 [(0, .slice p1713 x1711.length c1714), (1, .int .i64 s1723.1), (5, .int .i64 s1723.2), (19, .bool (!(y1735 == ((s1723.1.tmod 3) == 0))))] w1727 (by kernel_rfl) ?_
      refine W_nil ?_
      refine N_then ?_
      rcases gx_bif hm with ⟨hc1736, hm⟩ | ⟨hc1736, hm⟩
      · refine G_cond_t (b := (!(y1735 == ((s1723.1.tmod 3) == 0)))) hc1736 (by kernel_rfl) ?_
        refine G_seq ?_
        refine G_region ?_
        refine W_run 1 [(4, .int .i64 (-1))] w1727 (by kernel_rfl) ?_
        refine W_nil ?_
        refine N_then ?_
        refine G_ret ?_
        refine N_then_ret ?_
        refine N_block_ret ?_
        refine N_then_ret ?_
        refine N_then_ret ?_
        obtain rfl := Option.some.inj hm
        obtain rfl := hout1725 _ rfl
        have hm := hmo1732; simp only [Sum.elim_inr] at hm
        refine N_block_ret ?_
        refine N_meet_ret ?_
        refine N_then_ret ?_
        obtain rfl := Option.some.inj hm
        refine N_ret [.int .i64 (-1)] (RVs_cons (RV_tmp (by kernel_rfl)) RVs_nil) ?_
        exact ⟨rfl, M1728.pick [] (by kernel_rfl)⟩
      · refine G_cond_f (b := (!(y1735 == ((s1723.1.tmod 3) == 0)))) hc1736 (by kernel_rfl) ?_
        refine G_skip ?_
        refine N_then ?_
        refine G_region ?_
        refine W_run 3 [(0, .slice p1713 x1711.length c1714), (1, .int .i64 (w64 (s1723.1 + 1))), (5, .int .i64 s1723.2)] w1727 (by kernel_rfl) ?_
        refine W_nil ?_
        refine N_block ?_
        refine N_then ?_
        refine G_region ?_
        refine W_run 3 [(0, .slice p1713 x1711.length c1714), (1, .int .i64 (w64 (s1723.1 + 1))), (5, .int .i64 (w64 (s1723.2 + 1)))] w1727 (by kernel_rfl) ?_
        refine W_nil ?_
        obtain rfl := Option.some.inj hm
        exact N_loop fun a ha => ⟨_, rfl, M1728.pick [] (by kernel_rfl), ha.sub (by kernel_rfl)⟩
    · refine G_cond_f (b := (decide (s1723.2 < (x1711.length : Int)))) hc1734 (by kernel_rfl) ?_
      refine G_exit ?_
      refine N_then_exit ?_
      refine N_then_exit ?_
      refine N_block_eq ?_
      obtain rfl := Option.some.inj hm
      obtain rfl := hout1725 _ rfl
      exact N_meet fun a ha => ⟨_, rfl, M1728.pick [] (by kernel_rfl), ha.sub (by kernel_rfl)⟩
  · intro a1737 w1738 ⟨o1733, hout_, M1739, hS1740⟩
    refine N_use hS1740 ?_
    subst hout_
    have hm := hmo1732; simp only [Sum.elim_inl] at hm
    refine N_then ?_
    refine G_seq ?_
    refine G_region ?_
    refine W_run 2 [(4, .int .i64 o1733)] w1738 (by kernel_rfl) ?_
    refine W_nil ?_
    refine N_then ?_
    refine G_ret ?_
    obtain rfl := Option.some.inj hm
    refine N_ret [.int .i64 o1733] (RVs_cons (RV_tmp (by kernel_rfl)) RVs_nil) ?_
    exact ⟨rfl, M1739.pick [] (by kernel_rfl)⟩
theorem c_l_heldCopying (w : World) (x1653 : Copying) (p1655 : Option Addr) (c1656 : Nat) (h1657 : rdS encI w x1653.Memory p1655 c1656) (p1659 : Option Addr) (c1660 : Nat) (h1661 : rdS encI w x1653.Copy p1659 c1660) (p1663 : Option Addr) (c1664 : Nat) (h1665 : rdS encB w x1653.Dirty p1663 c1664) (x1666 : Int) {r : Int} (hm : M.l_heldCopying x1653 x1666 = some r) :
    Calls Try.prog 24 #[.agg #[.slice p1655 x1653.Memory.length c1656, .slice p1659 x1653.Copy.length c1660, .slice p1663 x1653.Dirty.length c1664], .int .i64 x1666] w fun e w' => e = .returned (.int .i64 r) ∧ Mem [] w w' [] := by
  unfold M.l_heldCopying at hm
  refine C_enter Try.func24 rfl (by kernel_rfl) ?_
  have M0 := Mem.refl [] w
  refine G_seq ?_
  refine G_region ?_
  refine W_new (fun b => .pointer (some ⟨b, 0, none⟩)) (.cells ⟨[.slice p1655 x1653.Memory.length c1656, .slice p1659 x1653.Copy.length c1660, .slice p1663 x1653.Dirty.length c1664]⟩ 28 (0, 0)) M0 rfl (by kernel_rfl) (by kernel_rfl) ?_
  intro b1668 w1669 M1670
  refine W_run 1 [(1, .int .i64 x1666), (2, .pointer (some ⟨b1668, 0, none⟩))] w1669 (by kernel_rfl) ?_
  refine W_nil ?_
  refine N_then ?_
  refine G_seq ?_
  refine G_region ?_
  refine W_run 1 [(1, .int .i64 x1666), (2, .pointer (some ⟨b1668, 0, none⟩)), (5, .pointer (some ⟨b1668, 0, none⟩))] w1669 (by kernel_rfl) ?_
  refine W_val (.slice p1655 x1653.Memory.length c1656) w1669 (by kernel_rfl) (E_load (e := 28) (fr := (0, 0)) _ _ false 1 b1668 0 [.slice p1655 x1653.Memory.length c1656, .slice p1659 x1653.Copy.length c1660, .slice p1663 x1653.Dirty.length c1664] (.slice p1655 x1653.Memory.length c1656) rfl (by kernel_rfl) (by kernel_rfl) (by kernel_rfl) (M1670.blk 0 (b := b1668) (o := .cells ⟨[.slice p1655 x1653.Memory.length c1656, .slice p1659 x1653.Copy.length c1660, .slice p1663 x1653.Dirty.length c1664]⟩ 28 (0, 0)) (by kernel_rfl))) ?_
  refine W_run 1 [(1, .int .i64 x1666), (2, .pointer (some ⟨b1668, 0, none⟩)), (6, .slice p1655 x1653.Memory.length c1656), (7, .int .i64 x1666)] w1669 (by kernel_rfl) ?_
  obtain ⟨r1701, hr1701, hm⟩ := gx_bind hm
  refine W_call 27 #[.slice p1655 x1653.Memory.length c1656, .int .i64 x1666] (by kernel_rfl) (by kernel_rfl) ?_
  refine (c_l_heldIntS w1669 x1653.Memory p1655 c1656 (h1657.mem0 M1670) x1666 hr1701).mono ?_
  rintro e_ w1702 ⟨rfl, K1703⟩
  have M1704 := M1670.call0 K1703
  refine ⟨_, rfl, ?_⟩
  refine W_run 1 [(1, .int .i64 r1701), (2, .pointer (some ⟨b1668, 0, none⟩))] w1702 (by kernel_rfl) ?_
  refine W_nil ?_
  refine N_then ?_
  refine G_seq ?_
  refine G_seq ?_
  refine G_region ?_
  refine W_run 2 [(1, .int .i64 r1701), (2, .pointer (some ⟨b1668, 0, none⟩)), (10, .bool (decide (r1701 < 0)))] w1702 (by kernel_rfl) ?_
  refine W_nil ?_
  refine N_then ?_
  rcases gx_bif hm with ⟨hc1705, hm⟩ | ⟨hc1705, hm⟩
  · refine G_cond_t (b := (decide (r1701 < 0))) hc1705 (by kernel_rfl) ?_
    refine G_seq ?_
    refine G_region ?_
    refine W_run 1 [(4, .int .i64 (-1))] w1702 (by kernel_rfl) ?_
    refine W_nil ?_
    refine N_then ?_
    refine G_ret ?_
    refine N_then_ret ?_
    obtain rfl := Option.some.inj hm
    refine N_ret [.int .i64 (-1)] (RVs_cons (RV_tmp (by kernel_rfl)) RVs_nil) ?_
    exact ⟨rfl, M1704.pick [] (by kernel_rfl)⟩
  · refine G_cond_f (b := (decide (r1701 < 0))) hc1705 (by kernel_rfl) ?_
    refine G_skip ?_
    refine N_then ?_
    refine G_seq ?_
    refine G_region ?_
    refine W_run 1 [(1, .int .i64 r1701), (2, .pointer (some ⟨b1668, 0, none⟩)), (11, .pointer (some ⟨b1668, 1, none⟩))] w1702 (by kernel_rfl) ?_
    refine W_val (.slice p1659 x1653.Copy.length c1660) w1702 (by kernel_rfl) (E_load (e := 28) (fr := (0, 0)) _ _ false 1 b1668 1 [.slice p1655 x1653.Memory.length c1656, .slice p1659 x1653.Copy.length c1660, .slice p1663 x1653.Dirty.length c1664] (.slice p1659 x1653.Copy.length c1660) rfl (by kernel_rfl) (by kernel_rfl) (by kernel_rfl) (M1704.blk 0 (b := b1668) (o := .cells ⟨[.slice p1655 x1653.Memory.length c1656, .slice p1659 x1653.Copy.length c1660, .slice p1663 x1653.Dirty.length c1664]⟩ 28 (0, 0)) (by kernel_rfl))) ?_
    refine W_run 1 [(1, .int .i64 r1701), (2, .pointer (some ⟨b1668, 0, none⟩)), (12, .slice p1659 x1653.Copy.length c1660), (13, .int .i64 r1701)] w1702 (by kernel_rfl) ?_
    obtain ⟨r1706, hr1706, hm⟩ := gx_bind hm
    refine W_call 27 #[.slice p1659 x1653.Copy.length c1660, .int .i64 r1701] (by kernel_rfl) (by kernel_rfl) ?_
    refine (c_l_heldIntS w1702 x1653.Copy p1659 c1660 (h1661.mem0 M1704) r1701 hr1706).mono ?_
    rintro e_ w1707 ⟨rfl, K1708⟩
    have M1709 := M1704.call0 K1708
    refine ⟨_, rfl, ?_⟩
    refine W_run 1 [(1, .int .i64 r1706), (2, .pointer (some ⟨b1668, 0, none⟩))] w1707 (by kernel_rfl) ?_
    refine W_nil ?_
    refine N_then ?_
    refine G_seq ?_
    refine G_seq ?_
    refine G_region ?_
    refine W_run 2 [(1, .int .i64 r1706), (2, .pointer (some ⟨b1668, 0, none⟩)), (16, .bool (decide (r1706 < 0)))] w1707 (by kernel_rfl) ?_
    refine W_nil ?_
    refine N_then ?_
    rcases gx_bif hm with ⟨hc1710, hm⟩ | ⟨hc1710, hm⟩
    · refine G_cond_t (b := (decide (r1706 < 0))) hc1710 (by kernel_rfl) ?_
      refine G_seq ?_
      refine G_region ?_
      refine W_run 1 [(4, .int .i64 (-1))] w1707 (by kernel_rfl) ?_
      refine W_nil ?_
      refine N_then ?_
      refine G_ret ?_
      refine N_then_ret ?_
      obtain rfl := Option.some.inj hm
      refine N_ret [.int .i64 (-1)] (RVs_cons (RV_tmp (by kernel_rfl)) RVs_nil) ?_
      exact ⟨rfl, M1709.pick [] (by kernel_rfl)⟩
    · refine G_cond_f (b := (decide (r1706 < 0))) hc1710 (by kernel_rfl) ?_
      refine G_skip ?_
      refine N_then ?_
      refine G_seq ?_
      refine G_region ?_
      refine W_run 1 [(1, .int .i64 r1706), (17, .pointer (some ⟨b1668, 2, none⟩))] w1707 (by kernel_rfl) ?_
      refine W_val (.slice p1663 x1653.Dirty.length c1664) w1707 (by kernel_rfl) (E_load (e := 28) (fr := (0, 0)) _ _ false 1 b1668 2 [.slice p1655 x1653.Memory.length c1656, .slice p1659 x1653.Copy.length c1660, .slice p1663 x1653.Dirty.length c1664] (.slice p1663 x1653.Dirty.length c1664) rfl (by kernel_rfl) (by kernel_rfl) (by kernel_rfl) (M1709.blk 0 (b := b1668) (o := .cells ⟨[.slice p1655 x1653.Memory.length c1656, .slice p1659 x1653.Copy.length c1660, .slice p1663 x1653.Dirty.length c1664]⟩ 28 (0, 0)) (by kernel_rfl))) ?_
      refine W_run 1 [(1, .int .i64 r1706), (18, .slice p1663 x1653.Dirty.length c1664), (19, .int .i64 r1706)] w1707 (by kernel_rfl) ?_
      obtain ⟨r1741, hr1741, hm⟩ := gx_bind hm
      refine W_call 64 #[.slice p1663 x1653.Dirty.length c1664, .int .i64 r1706] (by kernel_rfl) (by kernel_rfl) ?_
      refine (c_l_heldBoolS w1707 x1653.Dirty p1663 c1664 (h1665.mem0 M1709) r1706 hr1741).mono ?_
      rintro e_ w1742 ⟨rfl, K1743⟩
      have M1744 := M1709.call0 K1743
      refine ⟨_, rfl, ?_⟩
      refine W_run 1 [(1, .int .i64 r1741)] w1742 (by kernel_rfl) ?_
      refine W_nil ?_
      refine N_then ?_
      refine G_seq ?_
      refine G_seq ?_
      refine G_region ?_
      refine W_run 2 [(1, .int .i64 r1741), (22, .bool (decide (r1741 < 0)))] w1742 (by kernel_rfl) ?_
      refine W_nil ?_
      refine N_then ?_
      rcases gx_bif hm with ⟨hc1745, hm⟩ | ⟨hc1745, hm⟩
      · refine G_cond_t (b := (decide (r1741 < 0))) hc1745 (by kernel_rfl) ?_
        refine G_seq ?_
        refine G_region ?_
        refine W_run 1 [(4, .int .i64 (-1))] w1742 (by kernel_rfl) ?_
        refine W_nil ?_
        refine N_then ?_
        refine G_ret ?_
        refine N_then_ret ?_
        obtain rfl := Option.some.inj hm
        refine N_ret [.int .i64 (-1)] (RVs_cons (RV_tmp (by kernel_rfl)) RVs_nil) ?_
        exact ⟨rfl, M1744.pick [] (by kernel_rfl)⟩
      · refine G_cond_f (b := (decide (r1741 < 0))) hc1745 (by kernel_rfl) ?_
        refine G_skip ?_
        refine N_then ?_
        refine G_seq ?_
        refine G_region ?_
        refine W_run 2 [(4, .int .i64 r1741)] w1742 (by kernel_rfl) ?_
        refine W_nil ?_
        refine N_then ?_
        refine G_ret ?_
        obtain rfl := Option.some.inj hm
        refine N_ret [.int .i64 r1741] (RVs_cons (RV_tmp (by kernel_rfl)) RVs_nil) ?_
        exact ⟨rfl, M1744.pick [] (by kernel_rfl)⟩
end Go.Proofs.Ytjbblcdajdpfkaa
