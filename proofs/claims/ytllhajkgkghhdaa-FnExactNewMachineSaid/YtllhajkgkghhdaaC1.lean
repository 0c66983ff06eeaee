/- The walks, printed by program: whenever the model gives r, the call returns r. Part 1. -/
import Derived.Test.YtllhajkgkghhdaaM
import Derived.Test.YtllhajkgkghhdaaProg
set_option linter.unusedVariables false
set_option maxRecDepth 100000
set_option maxHeartbeats 4000000
namespace Go.Proofs.Ytllhajkgkghhdaa
open Go.Gx
theorem c_l_szRouteS (w : World) (x7 : List Route) (p9 : Option Addr) (c10 : Nat) (h11 : rdS encRoute w x7 p9 c10) (x12 : Int) {r : Int} (hm : M.l_szRouteS x7 x12 = some r) :
    Calls Try.prog 4 #[.slice p9 x7.length c10, .int .i64 x12] w fun e w' => e = .returned (.int .i64 r) ∧ Mem [] w w' [] := by
  unfold M.l_szRouteS at hm
  refine C_enter Try.func4 rfl (by kernel_rfl) ?_
  have M0 := Mem.refl [] w
  refine G_seq ?_
  refine G_region ?_
  refine W_run 1 [(0, .slice p9 x7.length c10), (1, .int .i64 x12)] w (by kernel_rfl) ?_
  refine W_nil ?_
  refine N_then ?_
  refine G_seq ?_
  refine G_region ?_
  refine W_run 5 [(1, .int .i64 (w64 (x12 - (x7.length : Int))))] w (by kernel_rfl) ?_
  refine W_nil ?_
  refine N_then ?_
  refine G_seq ?_
  refine G_seq ?_
  refine G_region ?_
  refine W_run 2 [(1, .int .i64 (w64 (x12 - (x7.length : Int)))), (10, .bool (decide ((w64 (x12 - (x7.length : Int))) < 0)))] w (by kernel_rfl) ?_
  refine W_nil ?_
  refine N_then ?_
  rcases gx_bif hm with ⟨hc13, hm⟩ | ⟨hc13, hm⟩
  · refine G_cond_t (b := (decide ((w64 (x12 - (x7.length : Int))) < 0))) hc13 (by kernel_rfl) ?_
    refine G_seq ?_
    refine G_region ?_
    refine W_run 1 [(4, .int .i64 (-1))] w (by kernel_rfl) ?_
    refine W_nil ?_
    refine N_then ?_
    refine G_ret ?_
    refine N_then_ret ?_
    obtain rfl := Option.some.inj hm
    refine N_ret [.int .i64 (-1)] (RVs_cons (RV_tmp (by kernel_rfl)) RVs_nil) ?_
    exact ⟨rfl, M0.pick [] (by kernel_rfl)⟩
  · refine G_cond_f (b := (decide ((w64 (x12 - (x7.length : Int))) < 0))) hc13 (by kernel_rfl) ?_
    refine G_skip ?_
    refine N_then ?_
    refine G_seq ?_
    refine G_region ?_
    refine W_run 2 [(4, .int .i64 (w64 (x12 - (x7.length : Int))))] w (by kernel_rfl) ?_
    refine W_nil ?_
    refine N_then ?_
    refine G_ret ?_
    obtain rfl := Option.some.inj hm
    refine N_ret [.int .i64 (w64 (x12 - (x7.length : Int)))] (RVs_cons (RV_tmp (by kernel_rfl)) RVs_nil) ?_
    exact ⟨rfl, M0.pick [] (by kernel_rfl)⟩
theorem c_l_toRoute (w : World) (x39 : Route) {r : Route} (hm : M.l_toRoute x39 = some r) :
    Calls Try.prog 14 #[.agg #[.int .i64 x39.Priority, .int .i64 x39.Target]] w fun e w' => e = .returned (.agg #[.int .i64 r.Priority, .int .i64 r.Target]) ∧ Mem [] w w' [] := by
  unfold M.l_toRoute at hm
  refine C_enter Try.func14 rfl (by kernel_rfl) ?_
  have M0 := Mem.refl [] w
  refine G_seq ?_
  refine G_region ?_
  refine W_new (fun b => .pointer (some ⟨b, 0, none⟩)) (.cells ⟨[.int .i64 x39.Priority, .int .i64 x39.Target]⟩ 50 (0, 0)) M0 rfl (by kernel_rfl) (by kernel_rfl) ?_
  intro b41 w42 M43
  refine W_new (fun b => .pointer (some ⟨b, 0, none⟩)) (.cells ⟨[.int .i64 0, .int .i64 0]⟩ 48 (0, 0)) M43 rfl (by kernel_rfl) (by kernel_rfl) ?_
  intro b45 w46 M47
  refine W_nil ?_
  refine N_then ?_
  refine G_seq ?_
  refine G_region ?_
  refine W_new (fun b => .pointer (some ⟨b, 0, none⟩)) (.cells ⟨[.int .i64 0, .int .i64 0]⟩ 48 (0, 0)) M47 rfl (by kernel_rfl) (by kernel_rfl) ?_
  intro b49 w50 M51
  refine W_nil ?_
  refine N_then ?_
  refine G_seq ?_
  refine G_region ?_
  refine W_run 1 [(1, .pointer (some ⟨b41, 0, none⟩)), (2, .pointer (some ⟨b45, 0, none⟩)), (3, .pointer (some ⟨b49, 0, none⟩)), (4, .pointer (some ⟨b41, 0, none⟩))] w50 (by kernel_rfl) ?_
  refine W_val (.int .i64 x39.Priority) w50 (by kernel_rfl) (E_load (e := 50) (fr := (0, 0)) _ _ false 1 b41 0 [.int .i64 x39.Priority, .int .i64 x39.Target] (.int .i64 x39.Priority) rfl (by kernel_rfl) (by kernel_rfl) (by kernel_rfl) (M51.blk 0 (b := b41) (o := .cells ⟨[.int .i64 x39.Priority, .int .i64 x39.Target]⟩ 50 (0, 0)) (by kernel_rfl))) ?_
  refine W_run 1 [(1, .pointer (some ⟨b41, 0, none⟩)), (2, .pointer (some ⟨b45, 0, none⟩)), (3, .pointer (some ⟨b49, 0, none⟩)), (5, .int .i64 x39.Priority), (6, .pointer (some ⟨b49, 0, none⟩))] w50 (by kernel_rfl) ?_
  refine W_store _ _ _ false 1 b49 0 [.int .i64 0, .int .i64 0] 48 (.int .i64 x39.Priority) 2 [.int .i64 x39.Priority, .int .i64 0] M51 (by kernel_rfl) rfl (by kernel_rfl) (by kernel_rfl) (by kernel_rfl) (by kernel_rfl) (by kernel_rfl) (by kernel_rfl) (by kernel_rfl) (by kernel_rfl) ?_
  intro w52 M53
  refine W_nil ?_
  refine N_then ?_
  refine G_seq ?_
  refine G_region ?_
  refine W_run 1 [(2, .pointer (some ⟨b45, 0, none⟩)), (3, .pointer (some ⟨b49, 0, none⟩)), (7, .pointer (some ⟨b41, 1, none⟩))] w52 (by kernel_rfl) ?_
  refine W_val (.int .i64 x39.Target) w52 (by kernel_rfl) (E_load (e := 50) (fr := (0, 0)) _ _ false 1 b41 1 [.int .i64 x39.Priority, .int .i64 x39.Target] (.int .i64 x39.Target) rfl (by kernel_rfl) (by kernel_rfl) (by kernel_rfl) (M53.blk 0 (b := b41) (o := .cells ⟨[.int .i64 x39.Priority, .int .i64 x39.Target]⟩ 50 (0, 0)) (by kernel_rfl))) ?_
  refine W_run 1 [(2, .pointer (some ⟨b45, 0, none⟩)), (3, .pointer (some ⟨b49, 0, none⟩)), (8, .int .i64 x39.Target), (9, .pointer (some ⟨b49, 1, none⟩))] w52 (by kernel_rfl) ?_
  refine W_store _ _ _ false 1 b49 1 [.int .i64 x39.Priority, .int .i64 0] 48 (.int .i64 x39.Target) 2 [.int .i64 x39.Priority, .int .i64 x39.Target] M53 (by kernel_rfl) rfl (by kernel_rfl) (by kernel_rfl) (by kernel_rfl) (by kernel_rfl) (by kernel_rfl) (by kernel_rfl) (by kernel_rfl) (by kernel_rfl) ?_
  intro w54 M55
  refine W_nil ?_
  refine N_then ?_
  refine G_seq ?_
  refine G_region ?_
  refine W_val (.agg #[.int .i64 x39.Priority, .int .i64 x39.Target]) w54 (by kernel_rfl) (E_load (e := 48) (fr := (0, 0)) _ _ true 2 b49 0 [.int .i64 x39.Priority, .int .i64 x39.Target] (.agg #[.int .i64 x39.Priority, .int .i64 x39.Target]) rfl (by kernel_rfl) (by kernel_rfl) (by kernel_rfl) (M55.blk 2 (b := b49) (o := .cells ⟨[.int .i64 x39.Priority, .int .i64 x39.Target]⟩ 48 (0, 0)) (by kernel_rfl))) ?_
  refine W_store _ _ _ true 2 b45 0 [.int .i64 0, .int .i64 0] 48 (.agg #[.int .i64 x39.Priority, .int .i64 x39.Target]) 1 [.int .i64 x39.Priority, .int .i64 x39.Target] M55 (by kernel_rfl) rfl (by kernel_rfl) (by kernel_rfl) (by kernel_rfl) (by kernel_rfl) (by kernel_rfl) (by kernel_rfl) (by kernel_rfl) (by kernel_rfl) ?_
  intro w56 M57
  refine W_nil ?_
  refine N_then ?_
  refine G_ret ?_
  obtain rfl := Option.some.inj hm
  refine N_ret [.agg #[.int .i64 x39.Priority, .int .i64 x39.Target]] (RVs_cons (RV_cell (g := true) (k := 2) (b := b45) (off := 0) (cs := [.int .i64 x39.Priority, .int .i64 x39.Target]) (e := 48) (fr := (0, 0)) (v := .agg #[.int .i64 x39.Priority, .int .i64 x39.Target]) (M57.blk 1 (b := b45) (o := .cells ⟨[.int .i64 x39.Priority, .int .i64 x39.Target]⟩ 48 (0, 0)) (by kernel_rfl)) (by kernel_rfl) (by kernel_rfl) (by kernel_rfl)) RVs_nil) ?_
  exact ⟨rfl, M57.pick [] (by kernel_rfl)⟩
theorem c_l_toRouteS (w : World) (x19 : List Route) (p21 : Option Addr) (c22 : Nat) (h23 : rdS encRoute w x19 p21 c22) {r : (List Route)} (hm : M.l_toRouteS x19 = some r) :
    Calls Try.prog 6 #[.slice p21 x19.length c22] w fun e w' => ∃ (p25 : Option Addr) (c26 : Nat) (sg27 : Seg), e = .returned (.slice p25 r.length c26) ∧ ownS encRoute r p25 c26 sg27 ∧ Mem [] w w' [sg27] := by
  unfold M.l_toRouteS at hm
  refine C_enter Try.func6 rfl (by kernel_rfl) ?_
  have M0 := Mem.refl [] w
  refine G_seq ?_
  refine G_region ?_
  refine W_run 1 [(0, .slice p21 x19.length c22)] w (by kernel_rfl) ?_
  refine W_nil ?_
  refine N_then ?_
  refine G_seq ?_
  refine G_region ?_
  refine W_run 2 [(0, .slice p21 x19.length c22), (6, .int .i64 (x19.length : Int))] w (by kernel_rfl) ?_
  obtain ⟨mk29, hmk29, hm⟩ := gx_bind hm
  refine W_make (E := encRoute) _ _ _ (x19.length : Int) 16 [.int .i64 0, .int .i64 0] ((⟨0, 0⟩ : Route) : Route) M0 (by kernel_rfl) rfl (by kernel_rfl) (by kernel_rfl) (by kernel_rfl) (by kernel_rfl) (by kernel_rfl) hmk29 ?_
  intro p30 c31 sg32 w33 ho34 M35
  refine W_run 1 [(0, .slice p21 x19.length c22), (3, .slice p30 mk29.length c31)] w33 (by kernel_rfl) ?_
  refine W_nil ?_
  refine N_then ?_
  refine G_seq ?_
  refine G_seq ?_
  refine G_region ?_
  refine W_run 1 [(0, .slice p21 x19.length c22), (3, .slice p30 mk29.length c31), (4, .int .i64 0)] w33 (by kernel_rfl) ?_
  refine W_nil ?_
  refine N_then ?_
  obtain ⟨out87, hw88, hmo89⟩ := gx_bind hm
  refine G_meet (fun a w' => ∃ (sg93 : Seg), ownS encRoute out87 p30 c31 sg93 ∧ Mem [] w w' [sg93] ∧ Sat Try.f6.ntmps [(3, .slice p30 out87.length c31)] a) ?_ ?_
  · refine G_block ?_
    refine G_while (σ := Int × List Route) (ρ := List Route) (fun s80 a w' => ∃ (sg90 : Seg), ownS encRoute s80.2 p30 c31 sg90 ∧ Mem [] w w' [sg90] ∧ Sat Try.f6.ntmps [(0, .slice p21 x19.length c22), (3, .slice p30 s80.2.length c31), (4, .int .i64 s80.1)] a) hw88 (fun a ha => ⟨sg32, ho34, M35.pick [0] (by kernel_rfl), ha.sub (by kernel_rfl)⟩) ?_
    clear hm
    intro s80 x81 hm hout82 a83 w84 ⟨sg90, ho91, M85, hS86⟩
    refine G_use hS86 ?_
    refine G_seq ?_
    refine G_seq ?_
    refine G_region ?_
    refine W_run 4 [(0, .slice p21 x19.length c22), (3, .slice p30 s80.2.length c31), (4, .int .i64 s80.1), (11, .bool (decide (s80.1 < (x19.length : Int))))] w84 (by kernel_rfl) ?_
    refine W_nil ?_
    refine N_then ?_
    rcases gx_bif hm with ⟨hc95, hm⟩ | ⟨hc95, hm⟩
    · refine G_cond_t (b := (decide (s80.1 < (x19.length : Int)))) hc95 (by kernel_rfl) ?_
      refine G_skip ?_
      refine N_then ?_
      refine G_seq ?_
      refine G_block ?_
      refine G_region ?_
      refine W_run 4 [(0, .slice p21 x19.length c22), (3, .slice p30 s80.2.length c31), (4, .int .i64 s80.1), (14, .slice p30 s80.2.length c31), (15, .int .i64 s80.1), (16, .slice p21 x19.length c22), (17, .int .i64 s80.1)] w84 (by kernel_rfl) ?_
      obtain ⟨y96, hy96, hm⟩ := gx_bind hm
      refine W_val (elemP p21 (s80.1.toNat * 2)) w84 (by kernel_rfl) (E_index (E := encRoute) _ _ _ x19.length c22 .i64 s80.1 2 (y := y96) rfl (by kernel_rfl) (by kernel_rfl) (by kernel_rfl) (h23.mem0 M85) rfl hy96) ?_
      refine W_val (.agg #[.int .i64 y96.Priority, .int .i64 y96.Target]) w84 (by kernel_rfl) (E_loadE (E := encRoute) _ _ true 2 s80.1 0 (s80.1.toNat * 2) y96 (.agg #[.int .i64 y96.Priority, .int .i64 y96.Target]) rfl (by kernel_rfl) (by kernel_rfl) (by kernel_rfl) (h23.mem0 M85) hy96 rfl) ?_
      obtain ⟨r97, hr97, hm⟩ := gx_bind hm
      refine W_call 14 #[.agg #[.int .i64 y96.Priority, .int .i64 y96.Target]] (by kernel_rfl) (by kernel_rfl) ?_
      refine (c_l_toRoute w84 y96 hr97).mono ?_
      rintro e_ w98 ⟨rfl, K99⟩
      have M100 := M85.call0 K99
      refine ⟨_, rfl, ?_⟩
      obtain ⟨y101, hy101, hm⟩ := gx_bind hm
      refine W_val (elemP p30 (s80.1.toNat * 2)) w98 (by kernel_rfl) (E_index (E := encRoute) _ _ _ s80.2.length c31 .i64 s80.1 2 (y := y101) rfl (by kernel_rfl) (by kernel_rfl) (by kernel_rfl) (ho91.rd M100 0 (by kernel_rfl)) rfl hy101) ?_
      refine W_storeE (E := encRoute) _ _ _ true 2 s80.1.toNat 0 (s80.1.toNat * 2) y101 r97 (.agg #[.int .i64 r97.Priority, .int .i64 r97.Target]) 0 M100 ho91 (by kernel_rfl) (by kernel_rfl) rfl (by kernel_rfl) (by kernel_rfl) (by kernel_rfl) (by kernel_rfl) (by kernel_rfl) (by kernel_rfl) (by kernel_rfl) (gxIdx_spec hy101).2 rfl ?_
      intro w102 sg104 ho105 M103
      refine W_conv 3 (.slice p30 s80.2.length c31) (.slice p30 (s80.2.set s80.1.toNat r97).length c31) (by kernel_rfl) (by rw [@List.length_set _ s80.2 s80.1.toNat r97]) ?_
      refine W_conv 14 (.slice p30 s80.2.length c31) (.slice p30 (s80.2.set s80.1.toNat r97).length c31) (by kernel_rfl) (by rw [@List.length_set _ s80.2 s80.1.toNat r97]) ?_
      refine W_nil ?_
      refine N_block ?_
      refine N_then ?_
      refine G_region ?_
      refine W_run 3 [(0, .slice p21 x19.length c22), (3, .slice p30 (s80.2.set s80.1.toNat r97).length c31), (4, .int .i64 (w64 (s80.1 + 1)))] w102 (by kernel_rfl) ?_
      refine W_nil ?_
      obtain rfl := Option.some.inj hm
      exact N_loop fun a ha => ⟨_, rfl, sg104, ho105, M103.pick [0] (by kernel_rfl), ha.sub (by kernel_rfl)⟩
    · refine G_cond_f (b := (decide (s80.1 < (x19.length : Int)))) hc95 (by kernel_rfl) ?_
      refine G_exit ?_
      refine N_then_exit ?_
      refine N_then_exit ?_
      refine N_block_eq ?_
      obtain rfl := Option.some.inj hm
      obtain rfl := hout82 _ rfl
      exact N_meet fun a ha => ⟨sg90, ho91, M85.pick [0] (by kernel_rfl), ha.sub (by kernel_rfl)⟩
  · intro a106 w107 ⟨sg93, ho94, M108, hS109⟩
    refine N_use hS109 ?_
    have hm := hmo89
    refine N_then ?_
    refine G_seq ?_
    refine G_region ?_
    refine W_run 2 [(2, .slice p30 out87.length c31)] w107 (by kernel_rfl) ?_
    refine W_nil ?_
    refine N_then ?_
    refine G_ret ?_
    obtain rfl := Option.some.inj hm
    refine N_ret [.slice p30 out87.length c31] (RVs_cons (RV_tmp (by kernel_rfl)) RVs_nil) ?_
    exact ⟨p30, c31, sg93, rfl, ho94, M108.pick [0] (by kernel_rfl)⟩
theorem c_s_l1In (w : World) (x159 : Int) (x160 : Int) (x161 : Int) {r : Bool} (hm : M.s_l1In x159 x160 x161 = some r) :
    Calls Try.prog 25 #[.int .i64 x159, .int .i64 x160, .int .i64 x161] w fun e w' => e = .returned (.bool r) ∧ Mem [] w w' [] := by
  unfold M.s_l1In at hm
  refine C_enter Try.func25 rfl (by kernel_rfl) ?_
  have M0 := Mem.refl [] w
  refine G_seq ?_
  refine G_region ?_
  refine W_run 1 [(0, .int .i64 x159), (1, .int .i64 x160), (2, .int .i64 x161)] w (by kernel_rfl) ?_
  refine W_nil ?_
  refine N_then ?_
  refine G_seq ?_
  obtain ⟨o163, ho164, hm165⟩ := gx_bind hm
  refine G_meet (fun a w' => Mem [] w w' [] ∧ Sat Try.f25.ntmps [(6, .bool o163)] a) ?_ ?_
  · have hm := ho164
    refine G_region ?_
    refine W_run 4 [(0, .int .i64 x159), (2, .int .i64 x161), (10, .bool (decide (x159 ≥ x160)))] w (by kernel_rfl) ?_
    rcases gx_bif hm with ⟨hc166, hm⟩ | ⟨hc166, hm⟩
    · refine W_known 10 true (by kernel_rfl) hc166 ?_
      refine W_run 5 [(6, .bool (decide (x159 ≤ x161)))] w (by kernel_rfl) ?_
      refine W_nil ?_
      obtain rfl := Option.some.inj hm
      exact N_meet fun a ha => ⟨M0.pick [] (by kernel_rfl), ha.sub (by kernel_rfl)⟩
    · refine W_known 10 false (by kernel_rfl) hc166 ?_
      refine W_run 5 [(6, .bool false)] w (by kernel_rfl) ?_
      refine W_nil ?_
      obtain rfl := Option.some.inj hm
      exact N_meet fun a ha => ⟨M0.pick [] (by kernel_rfl), ha.sub (by kernel_rfl)⟩
  · intro a169 w167 ⟨M168, hS170⟩
    refine N_use hS170 ?_
    have hm := hm165
    refine N_then ?_
    refine G_ret ?_
    obtain rfl := Option.some.inj hm
    refine N_ret [.bool o163] (RVs_cons (RV_tmp (by kernel_rfl)) RVs_nil) ?_
    exact ⟨rfl, M168.pick [] (by kernel_rfl)⟩
theorem c_s_l6Prio (w : World) (x158 : Int) {r : Bool} (hm : M.s_l6Prio x158 = some r) :
    Calls Try.prog 24 #[.int .i64 x158] w fun e w' => e = .returned (.bool r) ∧ Mem [] w w' [] := by
  unfold M.s_l6Prio at hm
  refine C_enter Try.func24 rfl (by kernel_rfl) ?_
  have M0 := Mem.refl [] w
  refine G_seq ?_
  refine G_region ?_
  refine W_run 1 [(0, .int .i64 x158)] w (by kernel_rfl) ?_
  refine W_nil ?_
  refine N_then ?_
  refine G_seq ?_
  refine G_region ?_
  refine W_run 1 [(3, .int .i64 x158)] w (by kernel_rfl) ?_
  obtain ⟨r171, hr171, hm⟩ := gx_bind hm
  refine W_call 25 #[.int .i64 x158, .int .i64 0, .int .i64 15] (by kernel_rfl) (by kernel_rfl) ?_
  refine (c_s_l1In w x158 0 15 hr171).mono ?_
  rintro e_ w172 ⟨rfl, K173⟩
  have M174 := M0.call0 K173
  refine ⟨_, rfl, ?_⟩
  refine W_run 1 [(2, .bool r171)] w172 (by kernel_rfl) ?_
  refine W_nil ?_
  refine N_then ?_
  refine G_ret ?_
  obtain rfl := Option.some.inj hm
  refine N_ret [.bool r171] (RVs_cons (RV_tmp (by kernel_rfl)) RVs_nil) ?_
  exact ⟨rfl, M174.pick [] (by kernel_rfl)⟩
theorem c_s_l21Routes (w : World) (x150 : List Route) (p152 : Option Addr) (c153 : Nat) (h154 : rdS encRoute w x150 p152 c153) (x155 : Int) {r : Bool} (hm : M.s_l21Routes x150 x155 = some r) :
    Calls Try.prog 13 #[.slice p152 x150.length c153, .int .i64 x155] w fun e w' => e = .returned (.bool r) ∧ Mem [] w w' [] := by
  unfold M.s_l21Routes at hm
  refine C_enter Try.func13 rfl (by kernel_rfl) ?_
  have M0 := Mem.refl [] w
  refine G_seq ?_
  refine G_region ?_
  refine W_run 1 [(0, .slice p152 x150.length c153), (1, .int .i64 x155)] w (by kernel_rfl) ?_
  refine W_nil ?_
  refine N_then ?_
  refine G_seq ?_
  refine G_seq ?_
  refine G_region ?_
  refine W_run 1 [(0, .slice p152 x150.length c153), (1, .int .i64 x155), (5, .int .i64 0)] w (by kernel_rfl) ?_
  refine W_nil ?_
  refine N_then ?_
  obtain ⟨out242, hw243, hmo244⟩ := gx_bind hm
  refine G_meet (fun a w' => ∃ (o245 : Unit), out242 = .inl o245 ∧ Mem [] w w' [] ∧ Sat Try.f13.ntmps [(0, .slice p152 x150.length c153), (1, .int .i64 x155)] a) ?_ ?_
  · refine G_block ?_
    refine G_while (σ := Int) (ρ := (Unit) ⊕ (Bool)) (fun s235 a w' => Mem [] w w' [] ∧ Sat Try.f13.ntmps [(0, .slice p152 x150.length c153), (1, .int .i64 x155), (5, .int .i64 s235)] a) hw243 (fun a ha => ⟨M0.pick [] (by kernel_rfl), ha.sub (by kernel_rfl)⟩) ?_
    clear hm
    intro s235 x236 hm hout237 a238 w239 ⟨M240, hS241⟩
    refine G_use hS241 ?_
    refine G_seq ?_
    refine G_seq ?_
    refine G_region ?_
    refine W_run 4 [(0, .slice p152 x150.length c153), (1, .int .i64 x155), (5, .int .i64 s235), (9, .bool (decide (s235 < (x150.length : Int))))] w239 (by kernel_rfl) ?_
    refine W_nil ?_
    refine N_then ?_
    rcases gx_bif hm with ⟨hc246, hm⟩ | ⟨hc246, hm⟩
    · refine G_cond_t (b := (decide (s235 < (x150.length : Int)))) hc246 (by kernel_rfl) ?_
      refine G_skip ?_
      refine N_then ?_
      refine G_seq ?_
      refine G_block ?_
      refine G_seq ?_
      obtain ⟨o258, ho259, hm260⟩ := gx_bind hm
      refine G_meet (fun a w' => Mem [] w w' [] ∧ Sat Try.f13.ntmps [(0, .slice p152 x150.length c153), (1, .int .i64 x155), (5, .int .i64 s235), (29, .bool o258)] a) ?_ ?_
      · have hm := ho259
        refine G_region ?_
        refine W_run 2 [(0, .slice p152 x150.length c153), (1, .int .i64 x155), (5, .int .i64 s235), (12, .slice p152 x150.length c153), (13, .int .i64 s235)] w239 (by kernel_rfl) ?_
        obtain ⟨y261, hy261, hm⟩ := gx_bind hm
        refine W_val (elemP p152 (s235.toNat * 2)) w239 (by kernel_rfl) (E_index (E := encRoute) _ _ _ x150.length c153 .i64 s235 2 (y := y261) rfl (by kernel_rfl) (by kernel_rfl) (by kernel_rfl) (h154.mem0 M240) rfl hy261) ?_
        refine W_val (elemP p152 (s235.toNat * 2 + 0)) w239 (by kernel_rfl) (E_fieldE (E := encRoute) _ _ 0 (s235.toNat * 2) 0 rfl (by kernel_rfl) (by kernel_rfl) (h154.mem0 M240) hy261) ?_
        refine W_val (.int .i64 y261.Priority) w239 (by kernel_rfl) (E_loadE (E := encRoute) _ _ false 1 s235 0 (s235.toNat * 2 + 0) y261 (.int .i64 y261.Priority) rfl (by kernel_rfl) (by kernel_rfl) (by kernel_rfl) (h154.mem0 M240) hy261 rfl) ?_
        obtain ⟨r262, hr262, hm⟩ := gx_bind hm
        refine W_call 24 #[.int .i64 y261.Priority] (by kernel_rfl) (by kernel_rfl) ?_
        refine (c_s_l6Prio w239 y261.Priority hr262).mono ?_
        rintro e_ w263 ⟨rfl, K264⟩
        have M265 := M240.call0 K264
        refine ⟨_, rfl, ?_⟩
        refine W_run 2 [(0, .slice p152 x150.length c153), (1, .int .i64 x155), (5, .int .i64 s235), (19, .bool (!r262))] w263 (by kernel_rfl) ?_
        rcases gx_bif hm with ⟨hc266, hm⟩ | ⟨hc266, hm⟩
        · refine W_known 19 true (by kernel_rfl) hc266 ?_
          refine W_run 10 [(0, .slice p152 x150.length c153), (1, .int .i64 x155), (5, .int .i64 s235), (29, .bool true)] w263 (by kernel_rfl) ?_
          refine W_nil ?_
          obtain rfl := Option.some.inj hm
          exact N_meet fun a ha => ⟨M265.pick [] (by kernel_rfl), ha.sub (by kernel_rfl)⟩
        · refine W_known 19 false (by kernel_rfl) hc266 ?_
          refine W_run 2 [(0, .slice p152 x150.length c153), (1, .int .i64 x155), (5, .int .i64 s235), (19, .bool false), (20, .slice p152 x150.length c153), (21, .int .i64 s235)] w263 (by kernel_rfl) ?_
          obtain ⟨y267, hy267, hm⟩ := gx_bind hm
          refine W_val (elemP p152 (s235.toNat * 2)) w263 (by kernel_rfl) (E_index (E := encRoute) _ _ _ x150.length c153 .i64 s235 2 (y := y267) rfl (by kernel_rfl) (by kernel_rfl) (by kernel_rfl) (h154.mem0 M265) rfl hy267) ?_
          refine W_val (elemP p152 (s235.toNat * 2 + 1)) w263 (by kernel_rfl) (E_fieldE (E := encRoute) _ _ 1 (s235.toNat * 2) 1 rfl (by kernel_rfl) (by kernel_rfl) (h154.mem0 M265) hy267) ?_
          refine W_val (.int .i64 y267.Target) w263 (by kernel_rfl) (E_loadE (E := encRoute) _ _ false 1 s235 1 (s235.toNat * 2 + 1) y267 (.int .i64 y267.Target) rfl (by kernel_rfl) (by kernel_rfl) (by kernel_rfl) (h154.mem0 M265) hy267 rfl) ?_
          refine W_run 2 [(0, .slice p152 x150.length c153), (1, .int .i64 x155), (5, .int .i64 s235), (19, .bool false), (24, .int .i64 y267.Target), (26, .int .i64 (w64 (x155 - 1)))] w263 (by kernel_rfl) ?_
          obtain ⟨r268, hr268, hm⟩ := gx_bind hm
          refine W_call 25 #[.int .i64 y267.Target, .int .i64 0, .int .i64 (w64 (x155 - 1))] (by kernel_rfl) (by kernel_rfl) ?_
          refine (c_s_l1In w263 y267.Target 0 (w64 (x155 - 1)) hr268).mono ?_
          rintro e_ w269 ⟨rfl, K270⟩
          have M271 := M265.call0 K270
          refine ⟨_, rfl, ?_⟩
          refine W_run 2 [(0, .slice p152 x150.length c153), (1, .int .i64 x155), (5, .int .i64 s235), (29, .bool (!r268))] w269 (by kernel_rfl) ?_
          refine W_nil ?_
          obtain rfl := Option.some.inj hm
          exact N_meet fun a ha => ⟨M271.pick [] (by kernel_rfl), ha.sub (by kernel_rfl)⟩
      · intro a274 w272 ⟨M273, hS275⟩
        refine N_use hS275 ?_
        have hm := hm260
        refine N_then ?_
        rcases gx_bif hm with ⟨hc276, hm⟩ | ⟨hc276, hm⟩
        · refine G_cond_t (b := o258) hc276 (by kernel_rfl) ?_
          refine G_seq ?_
          refine G_region ?_
          refine W_run 1 [(4, .bool false)] w272 (by kernel_rfl) ?_
          refine W_nil ?_
          refine N_then ?_
          refine G_ret ?_
          refine N_block_ret ?_
          refine N_then_ret ?_
          refine N_then_ret ?_
          obtain rfl := Option.some.inj hm
          obtain rfl := hout237 _ rfl
          have hm := hmo244; simp only [Sum.elim_inr] at hm
          refine N_block_ret ?_
          refine N_meet_ret ?_
          refine N_then_ret ?_
          obtain rfl := Option.some.inj hm
          refine N_ret [.bool false] (RVs_cons (RV_tmp (by kernel_rfl)) RVs_nil) ?_
          exact ⟨rfl, M273.pick [] (by kernel_rfl)⟩
        · refine G_cond_f (b := o258) hc276 (by kernel_rfl) ?_
          refine G_skip ?_
          refine N_block ?_
          refine N_then ?_
          refine G_region ?_
          refine W_run 3 [(0, .slice p152 x150.length c153), (1, .int .i64 x155), (5, .int .i64 (w64 (s235 + 1)))] w272 (by kernel_rfl) ?_
          refine W_nil ?_
          obtain rfl := Option.some.inj hm
          exact N_loop fun a ha => ⟨_, rfl, M273.pick [] (by kernel_rfl), ha.sub (by kernel_rfl)⟩
    · refine G_cond_f (b := (decide (s235 < (x150.length : Int)))) hc246 (by kernel_rfl) ?_
      refine G_exit ?_
      refine N_then_exit ?_
      refine N_then_exit ?_
      refine N_block_eq ?_
      obtain rfl := Option.some.inj hm
      obtain rfl := hout237 _ rfl
      exact N_meet fun a ha => ⟨_, rfl, M240.pick [] (by kernel_rfl), ha.sub (by kernel_rfl)⟩
  · intro a277 w278 ⟨o245, hout_, M279, hS280⟩
    refine N_use hS280 ?_
    subst hout_
    have hm := hmo244; simp only [Sum.elim_inl] at hm
    refine N_then ?_
    refine G_seq ?_
    obtain ⟨o286, ho287, hm288⟩ := gx_bind hm
    refine G_meet (fun a w' => Mem [] w w' [] ∧ Sat Try.f13.ntmps [(4, .bool o286)] a) ?_ ?_
    · have hm := ho287
      refine G_region ?_
      refine W_run 1 [(0, .slice p152 x150.length c153), (30, .int .i64 x155)] w278 (by kernel_rfl) ?_
      obtain ⟨r289, hr289, hm⟩ := gx_bind hm
      refine W_call 25 #[.int .i64 x155, .int .i64 1, .int .i64 2] (by kernel_rfl) (by kernel_rfl) ?_
      refine (c_s_l1In w278 x155 1 2 hr289).mono ?_
      rintro e_ w290 ⟨rfl, K291⟩
      have M292 := M279.call0 K291
      refine ⟨_, rfl, ?_⟩
      refine W_run 1 [(0, .slice p152 x150.length c153), (32, .bool r289)] w290 (by kernel_rfl) ?_
      rcases gx_bif hm with ⟨hc293, hm⟩ | ⟨hc293, hm⟩
      · refine W_known 32 true (by kernel_rfl) hc293 ?_
        refine W_run 5 [(4, .bool ((x150.length : Int) == 8))] w290 (by kernel_rfl) ?_
        refine W_nil ?_
        obtain rfl := Option.some.inj hm
        exact N_meet fun a ha => ⟨M292.pick [] (by kernel_rfl), ha.sub (by kernel_rfl)⟩
      · refine W_known 32 false (by kernel_rfl) hc293 ?_
        refine W_run 5 [(4, .bool false)] w290 (by kernel_rfl) ?_
        refine W_nil ?_
        obtain rfl := Option.some.inj hm
        exact N_meet fun a ha => ⟨M292.pick [] (by kernel_rfl), ha.sub (by kernel_rfl)⟩
    · intro a296 w294 ⟨M295, hS297⟩
      refine N_use hS297 ?_
      have hm := hm288
      refine N_then ?_
      refine G_ret ?_
      obtain rfl := Option.some.inj hm
      refine N_ret [.bool o286] (RVs_cons (RV_tmp (by kernel_rfl)) RVs_nil) ?_
      exact ⟨rfl, M295.pick [] (by kernel_rfl)⟩
theorem c_s_NewMachine (w : World) (x119 : List Route) (p121 : Option Addr) (c122 : Nat) (h123 : rdS encRoute w x119 p121 c122) (x124 : Int) {r : Machine × Bool} (hm : M.s_NewMachine x119 x124 = some r) :
    Calls Try.prog 5 #[.slice p121 x119.length c122, .int .i64 x124] w fun e w' => ∃ (p126 : Option Addr) (c127 : Nat) (sg128 : Seg), ∃ (p130 : Option Addr) (c131 : Nat) (sg132 : Seg), ∃ (p134 : Option Addr) (c135 : Nat) (sg136 : Seg), ∃ (p138 : Option Addr) (c139 : Nat) (sg140 : Seg) (sg141 : Seg), e = .returned (.tuple #[.agg #[.slice p126 r.1.Routes.length c127, .slice p130 r.1.Enabled.length c131, .slice p134 r.1.Raised.length c135, .slice p138 r.1.Cpus.length c139], .bool r.2]) ∧ ownS encRoute r.1.Routes p126 c127 sg128 ∧ ownS encB r.1.Enabled p130 c131 sg132 ∧ ownS encB r.1.Raised p134 c135 sg136 ∧ ownD deepInterface r.1.Cpus p138 c139 sg140 sg141 ∧ Mem [] w w' [sg128, sg132, sg136, sg140, sg141] := by
  unfold M.s_NewMachine at hm
  refine C_enter Try.func5 rfl (by kernel_rfl) ?_
  have M0 := Mem.refl [] w
  refine G_seq ?_
  refine G_region ?_
  refine W_new (fun b => .pointer (some ⟨b, 0, none⟩)) (.cells ⟨[.slice none 0 0, .slice none 0 0, .slice none 0 0, .slice none 0 0]⟩ 28 (0, 0)) M0 rfl (by kernel_rfl) (by kernel_rfl) ?_
  intro b147 w148 M149
  refine W_run 1 [(0, .slice p121 x119.length c122), (1, .int .i64 x124), (4, .pointer (some ⟨b147, 0, none⟩))] w148 (by kernel_rfl) ?_
  refine W_nil ?_
  refine N_then ?_
  refine G_seq ?_
  refine G_seq ?_
  refine G_region ?_
  refine W_run 2 [(0, .slice p121 x119.length c122), (1, .int .i64 x124), (4, .pointer (some ⟨b147, 0, none⟩)), (8, .slice p121 x119.length c122), (9, .int .i64 x124)] w148 (by kernel_rfl) ?_
  obtain ⟨r298, hr298, hm⟩ := gx_bind hm
  refine W_call 13 #[.slice p121 x119.length c122, .int .i64 x124] (by kernel_rfl) (by kernel_rfl) ?_
  refine (c_s_l21Routes w148 x119 p121 c122 (h123.mem0 M149) x124 hr298).mono ?_
  rintro e_ w299 ⟨rfl, K300⟩
  have M301 := M149.call0 K300
  refine ⟨_, rfl, ?_⟩
  refine W_run 1 [(0, .slice p121 x119.length c122), (1, .int .i64 x124), (4, .pointer (some ⟨b147, 0, none⟩)), (11, .bool (!r298))] w299 (by kernel_rfl) ?_
  refine W_nil ?_
  refine N_then ?_
  rcases gx_bif hm with ⟨hc302, hm⟩ | ⟨hc302, hm⟩
  · refine G_cond_t (b := (!r298)) hc302 (by kernel_rfl) ?_
    refine G_seq ?_
    refine G_region ?_
    refine W_run 1 [(4, .pointer (some ⟨b147, 0, none⟩)), (12, .agg #[.slice none 0 0, .slice none 0 0, .slice none 0 0, .slice none 0 0])] w299 (by kernel_rfl) ?_
    refine W_store _ _ _ true 4 b147 0 [.slice none 0 0, .slice none 0 0, .slice none 0 0, .slice none 0 0] 28 (.agg #[.slice none 0 0, .slice none 0 0, .slice none 0 0, .slice none 0 0]) 0 [.slice none 0 0, .slice none 0 0, .slice none 0 0, .slice none 0 0] M301 (by kernel_rfl) rfl (by kernel_rfl) (by kernel_rfl) (by kernel_rfl) (by kernel_rfl) (by kernel_rfl) (by kernel_rfl) (by kernel_rfl) (by kernel_rfl) ?_
    intro w307 M308
    refine W_run 1 [(4, .pointer (some ⟨b147, 0, none⟩)), (5, .bool false)] w307 (by kernel_rfl) ?_
    refine W_nil ?_
    refine N_then ?_
    refine G_ret ?_
    refine N_then_ret ?_
    obtain rfl := Option.some.inj hm
    refine N_ret [.agg #[.slice none 0 0, .slice none 0 0, .slice none 0 0, .slice none 0 0], .bool false] (RVs_cons (RV_cell (g := true) (k := 4) (b := b147) (off := 0) (cs := [.slice none 0 0, .slice none 0 0, .slice none 0 0, .slice none 0 0]) (e := 28) (fr := (0, 0)) (v := .agg #[.slice none 0 0, .slice none 0 0, .slice none 0 0, .slice none 0 0]) (M308.blk 0 (b := b147) (o := .cells ⟨[.slice none 0 0, .slice none 0 0, .slice none 0 0, .slice none 0 0]⟩ 28 (0, 0)) (by kernel_rfl)) (by kernel_rfl) (by kernel_rfl) (by kernel_rfl)) (RVs_cons (RV_tmp (by kernel_rfl)) RVs_nil)) ?_
    exact ⟨none, 0, [], none, 0, [], none, 0, [], none, 0, [], [], rfl, ownS_nil, ownS_nil, ownS_nil, ownD_nil, M308.pick [100000, 100001, 100002, 100003, 100004] (by kernel_rfl)⟩
  · refine G_cond_f (b := (!r298)) hc302 (by kernel_rfl) ?_
    refine G_skip ?_
    refine N_then ?_
    refine G_seq ?_
    obtain ⟨ap316, hap316, hm⟩ := gx_bind hm
    obtain ⟨mk322, hmk322, hm⟩ := gx_bind hm
    obtain ⟨mk328, hmk328, hm⟩ := gx_bind hm
    refine G_sub [(0, .slice p121 x119.length c122), (1, .int .i64 x124), (4, .pointer (some ⟨b147, 0, none⟩)), (11, .bool (!r298))] (by kernel_rfl) ?_
    refine G_dagL 8 [[], [], [0, 1], [], [], [], [], []] [[], [], [0], [], [], [], [], []] [[], [], [], [], [], [], [], []] [[], [], [], [], [], [], [2, 3, 4, 5], []] [[], [], [], [], [], [], [2, 3, 4, 5], []] [[], [], [], [], [], [], [], []] (fun _ => []) (fun i => ([fun f v s => ∃ (p312 : Option Addr) (c313 : Nat), v = (.slice p312 ([] : List Route).length c313 : Value) ∧ ownS encRoute ([] : List Route) p312 c313 s, fun f v s => v = (.slice p121 x119.length c122 : Value) ∧ s = [], fun f v s => ∃ (p318 : Option Addr) (c319 : Nat), v = (.slice p318 ap316.length c319 : Value) ∧ ownS encRoute ap316 p318 c319 s, fun f v s => ∃ (p324 : Option Addr) (c325 : Nat), v = (.slice p324 mk322.length c325 : Value) ∧ ownS encB mk322 p324 c325 s, fun f v s => ∃ (p330 : Option Addr) (c331 : Nat), v = (.slice p330 mk328.length c331 : Value) ∧ ownS encB mk328 p330 c331 s, fun f v s => ∃ (p335 : Option Addr) (c336 : Nat) (sg337 : Seg) (sg338 : Seg), v = (.slice p335 ([] : List Interface).length c336 : Value) ∧ s = (sg337 ++ sg338) ∧ ownD deepInterface ([] : List Interface) p335 c336 sg337 sg338, fun f v s => v = (.agg #[(atPath (f 2) []), (atPath (f 3) []), (atPath (f 4) []), (atPath (f 5) [])] : Value) ∧ s = [], fun f v s => ∃ (b349 : Nat), v = (.pointer (some ⟨b349, 0, none⟩) : Value) ∧ s = [(b349, .cells ⟨[.slice none 0 0, .slice none 0 0, .slice none 0 0, .slice none 0 0]⟩ 28 (0, 0))]] : List ((Nat → Value) → Value → Seg → Prop)).getD i (fun _ _ _ => False)) (fun j f v => ∃ s, (fun i => ([fun f v s => ∃ (p312 : Option Addr) (c313 : Nat), v = (.slice p312 ([] : List Route).length c313 : Value) ∧ ownS encRoute ([] : List Route) p312 c313 s, fun f v s => v = (.slice p121 x119.length c122 : Value) ∧ s = [], fun f v s => ∃ (p318 : Option Addr) (c319 : Nat), v = (.slice p318 ap316.length c319 : Value) ∧ ownS encRoute ap316 p318 c319 s, fun f v s => ∃ (p324 : Option Addr) (c325 : Nat), v = (.slice p324 mk322.length c325 : Value) ∧ ownS encB mk322 p324 c325 s, fun f v s => ∃ (p330 : Option Addr) (c331 : Nat), v = (.slice p330 mk328.length c331 : Value) ∧ ownS encB mk328 p330 c331 s, fun f v s => ∃ (p335 : Option Addr) (c336 : Nat) (sg337 : Seg) (sg338 : Seg), v = (.slice p335 ([] : List Interface).length c336 : Value) ∧ s = (sg337 ++ sg338) ∧ ownD deepInterface ([] : List Interface) p335 c336 sg337 sg338, fun f v s => v = (.agg #[(atPath (f 2) []), (atPath (f 3) []), (atPath (f 4) []), (atPath (f 5) [])] : Value) ∧ s = [], fun f v s => ∃ (b349 : Nat), v = (.pointer (some ⟨b349, 0, none⟩) : Value) ∧ s = [(b349, .cells ⟨[.slice none 0 0, .slice none 0 0, .slice none 0 0, .slice none 0 0]⟩ 28 (0, 0))]] : List ((Nat → Value) → Value → Seg → Prop)).getD i (fun _ _ _ => False)) j f v s) [] [2, 3, 4, 5, 6, 7] [2, 3, 4, 5, 7] (fun _ _ _ s h => ⟨s, h⟩) (by kernel_rfl) (by kernel_rfl) (M301.preNil 8) (by kernel_rfl) (by kernel_rfl) (by kernel_rfl) (by kernel_rfl) (allOb_cons ?_ (allOb_cons ?_ (allOb_cons ?_ (allOb_cons ?_ (allOb_cons ?_ (allOb_cons ?_ (allOb_cons ?_ (allOb_cons ?_ allOb_nil)))))))) ?_
    · intro g309 f310
      intro R w350 M351
      refine W_lit (E := encRoute) ([] : List Route) 0 [] 48 M351 (by kernel_rfl) (by kernel_rfl) (by kernel_rfl) (by kernel_rfl) (by kernel_rfl) ?_
      intro p312 c313 sg314 w352 ho315 M353
      exact W_nil (ob_end (.slice p312 ([] : List Route).length c313) sg314 rfl (by kernel_rfl) ⟨p312, c313, rfl, ho315⟩ (Mem.mid M353))
    · intro g309 f310
      intro R w354 M355
      refine W_run 1 [(14, .slice p121 x119.length c122)] w354 (by kernel_rfl) ?_
      exact W_nil (ob_end (.slice p121 x119.length c122) [] rfl (by kernel_rfl) ⟨by kernel_rfl, rfl⟩ M355)
    · intro g309 f310
      intro v0_ hb0_
      obtain ⟨p312, c313, rfl, ho315⟩ := hb0_
      intro v1_ hb1_
      obtain ⟨rfl, _⟩ := hb1_
      intro R w358 M359
      refine W_append (E := encRoute) _ _ _ 16 [.int .i64 0, .int .i64 0] 2 c122 M359 ho315 (by kernel_rfl) (by kernel_rfl) (by kernel_rfl) rfl (by kernel_rfl) (by kernel_rfl) (by kernel_rfl) (by kernel_rfl) (by kernel_rfl) (by kernel_rfl) (h123.mem0 M359) hap316 ?_
      intro p318 c319 sg320 w360 ho321 M361
      exact W_nil (ob_end (.slice p318 ap316.length c319) sg320 rfl (by kernel_rfl) ⟨p318, c319, rfl, ho321⟩ (Mem.takeOver M361))
    · intro g309 f310
      intro R w362 M363
      refine W_make (E := encB) _ _ _ 8 1 [.bool false] (false : Bool) M363 (by kernel_rfl) rfl (by kernel_rfl) (by kernel_rfl) (by kernel_rfl) (by kernel_rfl) (by kernel_rfl) hmk322 ?_
      intro p324 c325 sg326 w364 ho327 M365
      exact W_nil (ob_end (.slice p324 mk322.length c325) sg326 rfl (by kernel_rfl) ⟨p324, c325, rfl, ho327⟩ (Mem.mid M365))
    · intro g309 f310
      intro R w366 M367
      refine W_make (E := encB) _ _ _ 8 1 [.bool false] (false : Bool) M367 (by kernel_rfl) rfl (by kernel_rfl) (by kernel_rfl) (by kernel_rfl) (by kernel_rfl) (by kernel_rfl) hmk328 ?_
      intro p330 c331 sg332 w368 ho333 M369
      exact W_nil (ob_end (.slice p330 mk328.length c331) sg332 rfl (by kernel_rfl) ⟨p330, c331, rfl, ho333⟩ (Mem.mid M369))
    · intro g309 f310
      intro R w370 M371
      refine W_litD (D := deepInterface) (s1 := []) [] ([] : List Interface) rfl 0 [] 46 M371 (by kernel_rfl) (by kernel_rfl) (by kernel_rfl) (by kernel_rfl) (by kernel_rfl) ownI_nil ?_
      intro p335 c336 sg337 w372 ho339 M373
      exact W_nil (ob_end (.slice p335 ([] : List Interface).length c336) (sg337 ++ []) rfl (by kernel_rfl) ⟨p335, c336, sg337, [], rfl, rfl, ho339⟩ (Mem.mid (by rw [List.append_nil]; exact M373)))
    · intro g309 f310
      intro v2_ hb2_
      obtain ⟨_, p318, c319, rfl, _⟩ := hb2_
      intro v3_ hb3_
      obtain ⟨_, p324, c325, rfl, _⟩ := hb3_
      intro v4_ hb4_
      obtain ⟨_, p330, c331, rfl, _⟩ := hb4_
      intro v5_ hb5_
      obtain ⟨_, p335, c336, _, _, rfl, _⟩ := hb5_
      intro R w374 M375
      refine W_run 1 [(19, .agg #[.slice p318 ap316.length c319, .slice p324 mk322.length c325, .slice p330 mk328.length c331, .slice p335 ([] : List Interface).length c336])] w374 (by kernel_rfl) ?_
      exact W_nil (ob_end (.agg #[.slice p318 ap316.length c319, .slice p324 mk322.length c325, .slice p330 mk328.length c331, .slice p335 ([] : List Interface).length c336]) [] rfl (by kernel_rfl) ⟨by kernel_rfl, rfl⟩ M375)
    · intro g309 f310
      intro R w378 M379
      refine W_new (fun b => .pointer (some ⟨b, 0, none⟩)) (.cells ⟨[.slice none 0 0, .slice none 0 0, .slice none 0 0, .slice none 0 0]⟩ 28 (0, 0)) M379 rfl (by kernel_rfl) (by kernel_rfl) ?_
      intro b349 w380 M381
      exact W_nil (ob_end (.pointer (some ⟨b349, 0, none⟩)) [(b349, .cells ⟨[.slice none 0 0, .slice none 0 0, .slice none 0 0, .slice none 0 0]⟩ 28 (0, 0))] rfl (by kernel_rfl) ⟨b349, rfl, rfl⟩ (Mem.mid M381))
    · intro g309 f310
      intro v2_ hb2_
      obtain ⟨p318, c319, rfl, ho321⟩ := hb2_
      intro v3_ hb3_
      obtain ⟨p324, c325, rfl, ho327⟩ := hb3_
      intro v4_ hb4_
      obtain ⟨p330, c331, rfl, ho333⟩ := hb4_
      intro v5_ hb5_
      obtain ⟨p335, c336, sg337, sg338, rfl, hs5_, ho339⟩ := hb5_
      intro v6_ hb6_
      obtain ⟨hv6_, _⟩ := hb6_
      obtain rfl : v6_ = (.agg #[.slice p318 ap316.length c319, .slice p324 mk322.length c325, .slice p330 mk328.length c331, .slice p335 ([] : List Interface).length c336] : Value) := hv6_.trans (by kernel_rfl)
      intro v7_ hb7_
      obtain ⟨b349, rfl, hs7_⟩ := hb7_
      intro w382 M383
      have M384 : Mem [] w w382 [[(b147, .cells ⟨[.slice none 0 0, .slice none 0 0, .slice none 0 0, .slice none 0 0]⟩ 28 (0, 0))], (g309 2), (g309 3), (g309 4), (g309 5), (g309 7)] := M383
      rw [hs5_] at M384
      rw [hs7_] at M384
      replace M384 : Mem [] w w382 [[(b147, .cells ⟨[.slice none 0 0, .slice none 0 0, .slice none 0 0, .slice none 0 0]⟩ 28 (0, 0))], (g309 2), (g309 3), (g309 4), sg337, sg338, [(b349, .cells ⟨[.slice none 0 0, .slice none 0 0, .slice none 0 0, .slice none 0 0]⟩ 28 (0, 0))]] := M384.permF (by simp)
      refine W_store _ _ _ true 4 b349 0 [.slice none 0 0, .slice none 0 0, .slice none 0 0, .slice none 0 0] 28 (.agg #[.slice p318 ap316.length c319, .slice p324 mk322.length c325, .slice p330 mk328.length c331, .slice p335 ([] : List Interface).length c336]) 6 [.slice p318 ap316.length c319, .slice p324 mk322.length c325, .slice p330 mk328.length c331, .slice p335 ([] : List Interface).length c336] M384 (by kernel_rfl) rfl (by kernel_rfl) (by kernel_rfl) (by kernel_rfl) (by kernel_rfl) (by kernel_rfl) (by kernel_rfl) (by kernel_rfl) (by kernel_rfl) ?_
      intro w385 M386
      refine W_nil ?_
      refine N_then ?_
      refine G_seq ?_
      refine G_seq ?_
      refine G_region ?_
      refine W_run 1 [(1, .int .i64 x124), (4, .pointer (some ⟨b147, 0, none⟩)), (6, .pointer (some ⟨b349, 0, none⟩)), (7, .int .i64 0)] w385 (by kernel_rfl) ?_
      refine W_nil ?_
      refine N_then ?_
      obtain ⟨out516, hw517, hmo518⟩ := gx_bind hm
      refine G_meet (fun a w' => ∃ (p526 : Option Addr), ∃ (c527 : Nat), ∃ (sg528 : Seg), ∃ (sg529 : Seg), ownD deepInterface out516 p526 c527 sg528 sg529 ∧ Mem [] w w' [[(b147, .cells ⟨[.slice none 0 0, .slice none 0 0, .slice none 0 0, .slice none 0 0]⟩ 28 (0, 0))], (g309 2), (g309 3), (g309 4), [(b349, .cells ⟨[.slice p318 ap316.length c319, .slice p324 mk322.length c325, .slice p330 mk328.length c331, .slice p526 out516.length c527]⟩ 28 (0, 0))], sg528, sg529] ∧ Sat Try.f5.ntmps [(4, .pointer (some ⟨b147, 0, none⟩)), (6, .pointer (some ⟨b349, 0, none⟩))] a) ?_ ?_
      · refine G_block ?_
        refine G_while (σ := Int × List Interface) (ρ := List Interface) (fun s509 a w' => ∃ (p519 : Option Addr), ∃ (c520 : Nat), ∃ (sg521 : Seg), ∃ (sg522 : Seg), ownD deepInterface s509.2 p519 c520 sg521 sg522 ∧ Mem [] w w' [[(b147, .cells ⟨[.slice none 0 0, .slice none 0 0, .slice none 0 0, .slice none 0 0]⟩ 28 (0, 0))], (g309 2), (g309 3), (g309 4), [(b349, .cells ⟨[.slice p318 ap316.length c319, .slice p324 mk322.length c325, .slice p330 mk328.length c331, .slice p519 s509.2.length c520]⟩ 28 (0, 0))], sg521, sg522] ∧ Sat Try.f5.ntmps [(1, .int .i64 x124), (4, .pointer (some ⟨b147, 0, none⟩)), (6, .pointer (some ⟨b349, 0, none⟩)), (7, .int .i64 s509.1)] a) hw517 (fun a ha => ⟨p335, c336, sg337, sg338, ho339, M386.pick [0, 1, 2, 3, 6, 4, 5] (by kernel_rfl), ha.sub (by kernel_rfl)⟩) ?_
        clear hm
        intro s509 x510 hm hout511 a512 w513 ⟨p519, c520, sg521, sg522, ho523, M514, hS515⟩
        refine G_use hS515 ?_
        refine G_seq ?_
        refine G_seq ?_
        refine G_region ?_
        refine W_run 3 [(1, .int .i64 x124), (4, .pointer (some ⟨b147, 0, none⟩)), (6, .pointer (some ⟨b349, 0, none⟩)), (7, .int .i64 s509.1), (22, .bool (decide (s509.1 < x124)))] w513 (by kernel_rfl) ?_
        refine W_nil ?_
        refine N_then ?_
        rcases gx_bif hm with ⟨hc532, hm⟩ | ⟨hc532, hm⟩
        · refine G_cond_t (b := (decide (s509.1 < x124))) hc532 (by kernel_rfl) ?_
          refine G_skip ?_
          refine N_then ?_
          refine G_seq ?_
          refine G_block ?_
          refine G_region ?_
          refine W_run 1 [(1, .int .i64 x124), (4, .pointer (some ⟨b147, 0, none⟩)), (6, .pointer (some ⟨b349, 0, none⟩)), (7, .int .i64 s509.1), (25, .pointer (some ⟨b349, 3, none⟩))] w513 (by kernel_rfl) ?_
          refine W_val (.slice p519 s509.2.length c520) w513 (by kernel_rfl) (E_load (e := 28) (fr := (0, 0)) _ _ false 1 b349 3 [.slice p318 ap316.length c319, .slice p324 mk322.length c325, .slice p330 mk328.length c331, .slice p519 s509.2.length c520] (.slice p519 s509.2.length c520) rfl (by kernel_rfl) (by kernel_rfl) (by kernel_rfl) (M514.blk 4 (b := b349) (o := .cells ⟨[.slice p318 ap316.length c319, .slice p324 mk322.length c325, .slice p330 mk328.length c331, .slice p519 s509.2.length c520]⟩ 28 (0, 0)) (by kernel_rfl))) ?_
          refine W_lit (E := encI) ([] : List Int) 0 [] 3 M514 (by kernel_rfl) (by kernel_rfl) (by kernel_rfl) (by kernel_rfl) (by kernel_rfl) ?_
          intro p533 c534 sg535 w536 ho537 M538
          refine W_run 4 [(1, .int .i64 x124), (4, .pointer (some ⟨b147, 0, none⟩)), (6, .pointer (some ⟨b349, 0, none⟩)), (7, .int .i64 s509.1), (26, .slice p519 s509.2.length c520), (27, .slice p533 ([] : List Int).length c534), (28, .agg #[.int .i64 0, .int .i64 0, .int .i64 0]), (29, .agg #[.int .i64 0, .int .i64 0, .int .i64 0]), (30, .agg #[.int .i64 0, .int .i64 0, .int .i64 0]), (31, .agg #[.int .i64 0, .int .i64 0, .int .i64 0])] w536 (by kernel_rfl) ?_
          refine W_lit (E := encSlot) [(⟨0, 0, 0⟩ : Slot), (⟨0, 0, 0⟩ : Slot), (⟨0, 0, 0⟩ : Slot), (⟨0, 0, 0⟩ : Slot)] 4 [.int .i64 0, .int .i64 0, .int .i64 0, .int .i64 0, .int .i64 0, .int .i64 0, .int .i64 0, .int .i64 0, .int .i64 0, .int .i64 0, .int .i64 0, .int .i64 0] 40 M538 (by kernel_rfl) (by kernel_rfl) (by kernel_rfl) (by kernel_rfl) (by kernel_rfl) ?_
          intro p540 c541 sg542 w543 ho544 M545
          refine W_lit (E := encWaiter) ([] : List Waiter) 0 [] 68 M545 (by kernel_rfl) (by kernel_rfl) (by kernel_rfl) (by kernel_rfl) (by kernel_rfl) ?_
          intro p547 c548 sg549 w550 ho551 M552
          refine W_run 2 [(1, .int .i64 x124), (4, .pointer (some ⟨b147, 0, none⟩)), (6, .pointer (some ⟨b349, 0, none⟩)), (7, .int .i64 s509.1), (26, .slice p519 s509.2.length c520), (35, .agg #[.int .i64 16, .slice p533 ([] : List Int).length c534, .slice p540 [(⟨0, 0, 0⟩ : Slot), (⟨0, 0, 0⟩ : Slot), (⟨0, 0, 0⟩ : Slot), (⟨0, 0, 0⟩ : Slot)].length c541, .slice p547 ([] : List Waiter).length c548])] w550 (by kernel_rfl) ?_
          have M562 : Mem [] w w550 [[(b147, .cells ⟨[.slice none 0 0, .slice none 0 0, .slice none 0 0, .slice none 0 0]⟩ 28 (0, 0))], (g309 2), (g309 3), (g309 4), [(b349, .cells ⟨[.slice p318 ap316.length c319, .slice p324 mk322.length c325, .slice p330 mk328.length c331, .slice p519 s509.2.length c520]⟩ 28 (0, 0))], sg521, sg522, sg535, sg542, sg549] := M552.pick [0, 1, 2, 3, 4, 5, 6, 7, 8, 9] (by kernel_rfl)
          have M563 : Mem [] w w550 [[(b147, .cells ⟨[.slice none 0 0, .slice none 0 0, .slice none 0 0, .slice none 0 0]⟩ 28 (0, 0))], (g309 2), (g309 3), (g309 4), [(b349, .cells ⟨[.slice p318 ap316.length c319, .slice p324 mk322.length c325, .slice p330 mk328.length c331, .slice p519 s509.2.length c520]⟩ 28 (0, 0))], sg521, sg522, (sg535 ++ (sg542 ++ (sg549 ++ [])))] := M562.regroup (by simp)
          refine W_litD (D := deepInterface) [((⟨16, ([] : List Int), (⟨[(⟨0, 0, 0⟩ : Slot), (⟨0, 0, 0⟩ : Slot), (⟨0, 0, 0⟩ : Slot), (⟨0, 0, 0⟩ : Slot)], ([] : List Waiter)⟩ : Queue)⟩ : Interface), plOf [(p533, c534), (p540, c541), (p547, c548)])] [(⟨16, ([] : List Int), (⟨[(⟨0, 0, 0⟩ : Slot), (⟨0, 0, 0⟩ : Slot), (⟨0, 0, 0⟩ : Slot), (⟨0, 0, 0⟩ : Slot)], ([] : List Waiter)⟩ : Queue)⟩ : Interface)] rfl 1 [.int .i64 16, .slice p533 ([] : List Int).length c534, .slice p540 [(⟨0, 0, 0⟩ : Slot), (⟨0, 0, 0⟩ : Slot), (⟨0, 0, 0⟩ : Slot), (⟨0, 0, 0⟩ : Slot)].length c541, .slice p547 ([] : List Waiter).length c548] 46 M563 (by kernel_rfl) (by kernel_rfl) (by kernel_rfl) (by kernel_rfl) (by kernel_rfl) (ownI_cons (i := ⟨Int, encI, _, _, _⟩) ho537 (ownI_cons (i := ⟨Slot, encSlot, _, _, _⟩) ho544 (ownI_cons (i := ⟨Waiter, encWaiter, _, _, _⟩) ho551 ownI_nil))) ?_
          intro p564 c565 sg566 w567 ho568 M569
          obtain ⟨ap571, hap571, hm⟩ := gx_bind hm
          obtain ⟨zs575, hz576, hr577, hi578⟩ := id ho568
          refine W_appendD (D := deepInterface) (us := zs575) (s2 := (sg535 ++ (sg542 ++ (sg549 ++ [])))) _ _ _ 80 [.int .i64 0, .slice none 0 0, .slice none 0 0, .slice none 0 0] 5 c565 M569 ho523 (by kernel_rfl) (by kernel_rfl) (by kernel_rfl) rfl (by kernel_rfl) (by kernel_rfl) (by kernel_rfl) (by kernel_rfl) (by kernel_rfl) (by kernel_rfl) (hr577.rd M569 8 (by kernel_rfl)) hz576 hi578 hap571 ?_
          intro p579 c580 sg581 w582 ho583 M584
          have M585 : Mem [] w w582 [[(b147, .cells ⟨[.slice none 0 0, .slice none 0 0, .slice none 0 0, .slice none 0 0]⟩ 28 (0, 0))], (g309 2), (g309 3), (g309 4), [(b349, .cells ⟨[.slice p318 ap316.length c319, .slice p324 mk322.length c325, .slice p330 mk328.length c331, .slice p519 s509.2.length c520]⟩ 28 (0, 0))], sg581, sg566, sg522, (sg535 ++ (sg542 ++ (sg549 ++ [])))] := M584.pick [0, 1, 2, 3, 4, 5, 8, 6, 7] (by kernel_rfl)
          have M586 : Mem [] w w582 [[(b147, .cells ⟨[.slice none 0 0, .slice none 0 0, .slice none 0 0, .slice none 0 0]⟩ 28 (0, 0))], (g309 2), (g309 3), (g309 4), [(b349, .cells ⟨[.slice p318 ap316.length c319, .slice p324 mk322.length c325, .slice p330 mk328.length c331, .slice p519 s509.2.length c520]⟩ 28 (0, 0))], sg581, sg566, (sg522 ++ (sg535 ++ (sg542 ++ (sg549 ++ []))))] := M585.regroup (by simp)
          refine W_run 1 [(1, .int .i64 x124), (4, .pointer (some ⟨b147, 0, none⟩)), (6, .pointer (some ⟨b349, 0, none⟩)), (7, .int .i64 s509.1), (37, .slice p579 ap571.length c580), (38, .pointer (some ⟨b349, 3, none⟩))] w582 (by kernel_rfl) ?_
          refine W_store _ _ _ false 1 b349 3 [.slice p318 ap316.length c319, .slice p324 mk322.length c325, .slice p330 mk328.length c331, .slice p519 s509.2.length c520] 28 (.slice p579 ap571.length c580) 4 [.slice p318 ap316.length c319, .slice p324 mk322.length c325, .slice p330 mk328.length c331, .slice p579 ap571.length c580] M586 (by kernel_rfl) rfl (by kernel_rfl) (by kernel_rfl) (by kernel_rfl) (by kernel_rfl) (by kernel_rfl) (by kernel_rfl) (by kernel_rfl) (by kernel_rfl) ?_
          intro w588 M589
          refine W_nil ?_
          refine N_block ?_
          refine N_then ?_
          refine G_region ?_
          refine W_run 3 [(1, .int .i64 x124), (4, .pointer (some ⟨b147, 0, none⟩)), (6, .pointer (some ⟨b349, 0, none⟩)), (7, .int .i64 (w64 (s509.1 + 1)))] w588 (by kernel_rfl) ?_
          refine W_nil ?_
          obtain rfl := Option.some.inj hm
          exact N_loop fun a ha => ⟨_, rfl, p579, c580, sg581, (sg522 ++ (sg535 ++ (sg542 ++ (sg549 ++ [])))), ho583, M589.pick [0, 1, 2, 3, 4, 5, 7] (by kernel_rfl), ha.sub (by kernel_rfl)⟩
        · refine G_cond_f (b := (decide (s509.1 < x124))) hc532 (by kernel_rfl) ?_
          refine G_exit ?_
          refine N_then_exit ?_
          refine N_then_exit ?_
          refine N_block_eq ?_
          obtain rfl := Option.some.inj hm
          obtain rfl := hout511 _ rfl
          exact N_meet fun a ha => ⟨p519, c520, sg521, sg522, ho523, M514.pick [0, 1, 2, 3, 4, 5, 6] (by kernel_rfl), ha.sub (by kernel_rfl)⟩
      · intro a590 w591 ⟨p526, c527, sg528, sg529, ho530, M592, hS593⟩
        refine N_use hS593 ?_
        have hm := hmo518
        refine N_then ?_
        refine G_seq ?_
        refine G_region ?_
        refine W_val (.agg #[.slice p318 ap316.length c319, .slice p324 mk322.length c325, .slice p330 mk328.length c331, .slice p526 out516.length c527]) w591 (by kernel_rfl) (E_load (e := 28) (fr := (0, 0)) _ _ true 4 b349 0 [.slice p318 ap316.length c319, .slice p324 mk322.length c325, .slice p330 mk328.length c331, .slice p526 out516.length c527] (.agg #[.slice p318 ap316.length c319, .slice p324 mk322.length c325, .slice p330 mk328.length c331, .slice p526 out516.length c527]) rfl (by kernel_rfl) (by kernel_rfl) (by kernel_rfl) (M592.blk 4 (b := b349) (o := .cells ⟨[.slice p318 ap316.length c319, .slice p324 mk322.length c325, .slice p330 mk328.length c331, .slice p526 out516.length c527]⟩ 28 (0, 0)) (by kernel_rfl))) ?_
        refine W_store _ _ _ true 4 b147 0 [.slice none 0 0, .slice none 0 0, .slice none 0 0, .slice none 0 0] 28 (.agg #[.slice p318 ap316.length c319, .slice p324 mk322.length c325, .slice p330 mk328.length c331, .slice p526 out516.length c527]) 0 [.slice p318 ap316.length c319, .slice p324 mk322.length c325, .slice p330 mk328.length c331, .slice p526 out516.length c527] M592 (by kernel_rfl) rfl (by kernel_rfl) (by kernel_rfl) (by kernel_rfl) (by kernel_rfl) (by kernel_rfl) (by kernel_rfl) (by kernel_rfl) (by kernel_rfl) ?_
        intro w594 M595
        refine W_run 1 [(4, .pointer (some ⟨b147, 0, none⟩)), (5, .bool true)] w594 (by kernel_rfl) ?_
        refine W_nil ?_
        refine N_then ?_
        refine G_ret ?_
        obtain rfl := Option.some.inj hm
        refine N_ret [.agg #[.slice p318 ap316.length c319, .slice p324 mk322.length c325, .slice p330 mk328.length c331, .slice p526 out516.length c527], .bool true] (RVs_cons (RV_cell (g := true) (k := 4) (b := b147) (off := 0) (cs := [.slice p318 ap316.length c319, .slice p324 mk322.length c325, .slice p330 mk328.length c331, .slice p526 out516.length c527]) (e := 28) (fr := (0, 0)) (v := .agg #[.slice p318 ap316.length c319, .slice p324 mk322.length c325, .slice p330 mk328.length c331, .slice p526 out516.length c527]) (M595.blk 0 (b := b147) (o := .cells ⟨[.slice p318 ap316.length c319, .slice p324 mk322.length c325, .slice p330 mk328.length c331, .slice p526 out516.length c527]⟩ 28 (0, 0)) (by kernel_rfl)) (by kernel_rfl) (by kernel_rfl) (by kernel_rfl)) (RVs_cons (RV_tmp (by kernel_rfl)) RVs_nil)) ?_
        exact ⟨p318, c319, (g309 2), p324, c325, (g309 3), p330, c331, (g309 4), p526, c527, sg528, sg529, rfl, ho321, ho327, ho333, ho530, M595.pick [1, 2, 3, 5, 6] (by kernel_rfl)⟩
theorem c_i_inside (w : World) (x681 : Int) (x682 : Int) (x683 : Int) {r : Bool} (hm : M.i_inside x681 x682 x683 = some r) :
    Calls Try.prog 26 #[.int .i64 x681, .int .i64 x682, .int .i64 x683] w fun e w' => e = .returned (.bool r) ∧ Mem [] w w' [] := by
  unfold M.i_inside at hm
  refine C_enter Try.func26 rfl (by kernel_rfl) ?_
  have M0 := Mem.refl [] w
  refine G_seq ?_
  refine G_region ?_
  refine W_run 1 [(0, .int .i64 x681), (1, .int .i64 x682), (2, .int .i64 x683)] w (by kernel_rfl) ?_
  refine W_nil ?_
  refine N_then ?_
  refine G_seq ?_
  obtain ⟨o685, ho686, hm687⟩ := gx_bind hm
  refine G_meet (fun a w' => Mem [] w w' [] ∧ Sat Try.f26.ntmps [(6, .bool o685)] a) ?_ ?_
  · have hm := ho686
    refine G_region ?_
    refine W_run 4 [(0, .int .i64 x681), (2, .int .i64 x683), (10, .bool (decide (x681 ≥ x682)))] w (by kernel_rfl) ?_
    rcases gx_bif hm with ⟨hc688, hm⟩ | ⟨hc688, hm⟩
    · refine W_known 10 true (by kernel_rfl) hc688 ?_
      refine W_run 5 [(6, .bool (decide (x681 ≤ x683)))] w (by kernel_rfl) ?_
      refine W_nil ?_
      obtain rfl := Option.some.inj hm
      exact N_meet fun a ha => ⟨M0.pick [] (by kernel_rfl), ha.sub (by kernel_rfl)⟩
    · refine W_known 10 false (by kernel_rfl) hc688 ?_
      refine W_run 5 [(6, .bool false)] w (by kernel_rfl) ?_
      refine W_nil ?_
      obtain rfl := Option.some.inj hm
      exact N_meet fun a ha => ⟨M0.pick [] (by kernel_rfl), ha.sub (by kernel_rfl)⟩
  · intro a691 w689 ⟨M690, hS692⟩
    refine N_use hS692 ?_
    have hm := hm687
    refine N_then ?_
    refine G_ret ?_
    obtain rfl := Option.some.inj hm
    refine N_ret [.bool o685] (RVs_cons (RV_tmp (by kernel_rfl)) RVs_nil) ?_
    exact ⟨rfl, M690.pick [] (by kernel_rfl)⟩
theorem c_i_isPriority (w : World) (x728 : Int) {r : Bool} (hm : M.i_isPriority x728 = some r) :
    Calls Try.prog 29 #[.int .i64 x728] w fun e w' => e = .returned (.bool r) ∧ Mem [] w w' [] := by
  unfold M.i_isPriority at hm
  refine C_enter Try.func29 rfl (by kernel_rfl) ?_
  have M0 := Mem.refl [] w
  refine G_seq ?_
  refine G_region ?_
  refine W_run 1 [(0, .int .i64 x728)] w (by kernel_rfl) ?_
  refine W_nil ?_
  refine N_then ?_
  refine G_seq ?_
  refine G_region ?_
  refine W_run 1 [(3, .int .i64 x728)] w (by kernel_rfl) ?_
  obtain ⟨r729, hr729, hm⟩ := gx_bind hm
  refine W_call 26 #[.int .i64 x728, .int .i64 0, .int .i64 15] (by kernel_rfl) (by kernel_rfl) ?_
  refine (c_i_inside w x728 0 15 hr729).mono ?_
  rintro e_ w730 ⟨rfl, K731⟩
  have M732 := M0.call0 K731
  refine ⟨_, rfl, ?_⟩
  refine W_run 1 [(2, .bool r729)] w730 (by kernel_rfl) ?_
  refine W_nil ?_
  refine N_then ?_
  refine G_ret ?_
  obtain rfl := Option.some.inj hm
  refine N_ret [.bool r729] (RVs_cons (RV_tmp (by kernel_rfl)) RVs_nil) ?_
  exact ⟨rfl, M732.pick [] (by kernel_rfl)⟩
theorem c_i_areRoutes_1 (w : World) (x719 : Route) (x720 : Int) (b721 : Nat) (hb722 : w.heap[b721]? = some (.cells ⟨[.int .i64 x720]⟩ 3 (0, 0))) {r : Bool} (hm : M.i_areRoutes_1 x719 x720 = some r) :
    Calls Try.prog 28 #[.agg #[.int .i64 x719.Priority, .int .i64 x719.Target], .pointer (some ⟨b721, 0, none⟩)] w fun e w' => e = .returned (.bool r) ∧ Mem [] w w' [] := by
  unfold M.i_areRoutes_1 at hm
  refine C_enter Try.func28 rfl (by kernel_rfl) ?_
  have M0 := Mem.refl [] w
  refine G_seq ?_
  refine G_region ?_
  refine W_new (fun b => .pointer (some ⟨b, 0, none⟩)) (.cells ⟨[.int .i64 x719.Priority, .int .i64 x719.Target]⟩ 48 (0, 0)) M0 rfl (by kernel_rfl) (by kernel_rfl) ?_
  intro b725 w726 M727
  refine W_run 1 [(1, .pointer (some ⟨b721, 0, none⟩)), (2, .pointer (some ⟨b725, 0, none⟩))] w726 (by kernel_rfl) ?_
  refine W_nil ?_
  refine N_then ?_
  refine G_seq ?_
  obtain ⟨o742, ho743, hm744⟩ := gx_bind hm
  refine G_meet (fun a w' => Mem [] w w' [] ∧ Sat Try.f28.ntmps [(3, .bool o742)] a) ?_ ?_
  · have hm := ho743
    refine G_region ?_
    refine W_run 1 [(1, .pointer (some ⟨b721, 0, none⟩)), (2, .pointer (some ⟨b725, 0, none⟩)), (4, .pointer (some ⟨b725, 0, none⟩))] w726 (by kernel_rfl) ?_
    refine W_val (.int .i64 x719.Priority) w726 (by kernel_rfl) (E_load (e := 48) (fr := (0, 0)) _ _ false 1 b725 0 [.int .i64 x719.Priority, .int .i64 x719.Target] (.int .i64 x719.Priority) rfl (by kernel_rfl) (by kernel_rfl) (by kernel_rfl) (M727.blk 0 (b := b725) (o := .cells ⟨[.int .i64 x719.Priority, .int .i64 x719.Target]⟩ 48 (0, 0)) (by kernel_rfl))) ?_
    obtain ⟨r745, hr745, hm⟩ := gx_bind hm
    refine W_call 29 #[.int .i64 x719.Priority] (by kernel_rfl) (by kernel_rfl) ?_
    refine (c_i_isPriority w726 x719.Priority hr745).mono ?_
    rintro e_ w746 ⟨rfl, K747⟩
    have M748 := M727.call0 K747
    refine ⟨_, rfl, ?_⟩
    refine W_run 2 [(1, .pointer (some ⟨b721, 0, none⟩)), (2, .pointer (some ⟨b725, 0, none⟩)), (8, .bool (!r745))] w746 (by kernel_rfl) ?_
    rcases gx_bif hm with ⟨hc749, hm⟩ | ⟨hc749, hm⟩
    · refine W_known 8 true (by kernel_rfl) hc749 ?_
      refine W_run 8 [(3, .bool true)] w746 (by kernel_rfl) ?_
      refine W_nil ?_
      obtain rfl := Option.some.inj hm
      exact N_meet fun a ha => ⟨M748.pick [] (by kernel_rfl), ha.sub (by kernel_rfl)⟩
    · refine W_known 8 false (by kernel_rfl) hc749 ?_
      refine W_run 1 [(1, .pointer (some ⟨b721, 0, none⟩)), (8, .bool false), (9, .pointer (some ⟨b725, 1, none⟩))] w746 (by kernel_rfl) ?_
      refine W_val (.int .i64 x719.Target) w746 (by kernel_rfl) (E_load (e := 48) (fr := (0, 0)) _ _ false 1 b725 1 [.int .i64 x719.Priority, .int .i64 x719.Target] (.int .i64 x719.Target) rfl (by kernel_rfl) (by kernel_rfl) (by kernel_rfl) (M748.blk 0 (b := b725) (o := .cells ⟨[.int .i64 x719.Priority, .int .i64 x719.Target]⟩ 48 (0, 0)) (by kernel_rfl))) ?_
      refine W_val (.int .i64 x720) w746 (by kernel_rfl) (E_load (e := 3) (fr := (0, 0)) _ _ false 1 b721 0 [.int .i64 x720] (.int .i64 x720) rfl (by kernel_rfl) (by kernel_rfl) (by kernel_rfl) (M748.ro hb722)) ?_
      refine W_run 1 [(8, .bool false), (10, .int .i64 x719.Target), (12, .int .i64 (w64 (x720 - 1)))] w746 (by kernel_rfl) ?_
      obtain ⟨r750, hr750, hm⟩ := gx_bind hm
      refine W_call 26 #[.int .i64 x719.Target, .int .i64 0, .int .i64 (w64 (x720 - 1))] (by kernel_rfl) (by kernel_rfl) ?_
      refine (c_i_inside w746 x719.Target 0 (w64 (x720 - 1)) hr750).mono ?_
      rintro e_ w751 ⟨rfl, K752⟩
      have M753 := M748.call0 K752
      refine ⟨_, rfl, ?_⟩
      refine W_run 3 [(3, .bool (!r750))] w751 (by kernel_rfl) ?_
      refine W_nil ?_
      obtain rfl := Option.some.inj hm
      exact N_meet fun a ha => ⟨M753.pick [] (by kernel_rfl), ha.sub (by kernel_rfl)⟩
  · intro a756 w754 ⟨M755, hS757⟩
    refine N_use hS757 ?_
    have hm := hm744
    refine N_then ?_
    refine G_ret ?_
    obtain rfl := Option.some.inj hm
    refine N_ret [.bool o742] (RVs_cons (RV_tmp (by kernel_rfl)) RVs_nil) ?_
    exact ⟨rfl, M755.pick [] (by kernel_rfl)⟩
theorem c_slices_IndexFunc_37__i_areRoutes_1 (w : World) (x708 : List Route) (p710 : Option Addr) (c711 : Nat) (h712 : rdS encRoute w x708 p710 c711) (x713 : Int) (b714 : Nat) (hb715 : w.heap[b714]? = some (.cells ⟨[.int .i64 x713]⟩ 3 (0, 0))) {r : Int} (hm : M.slices_IndexFunc_37__i_areRoutes_1 x708 x713 = some r) :
    Calls Try.prog 37 #[.slice p710 x708.length c711, .func (.func 28) #[] #[.pointer (some ⟨b714, 0, none⟩)]] w fun e w' => e = .returned (.int .i64 r) ∧ Mem [] w w' [] := by
  unfold M.slices_IndexFunc_37__i_areRoutes_1 at hm
  refine C_enter Try.func37 rfl (by kernel_rfl) ?_
  have M0 := Mem.refl [] w
  refine G_seq ?_
  refine G_region ?_
  refine W_run 1 [(0, .slice p710 x708.length c711), (1, .func (.func 28) #[] #[.pointer (some ⟨b714, 0, none⟩)])] w (by kernel_rfl) ?_
  refine W_nil ?_
  refine N_then ?_
  refine G_seq ?_
  refine G_seq ?_
  refine G_region ?_
  refine W_run 3 [(0, .slice p710 x708.length c711), (1, .func (.func 28) #[] #[.pointer (some ⟨b714, 0, none⟩)]), (7, .int .i64 (x708.length : Int)), (8, .int .i64 0)] w (by kernel_rfl) ?_
  refine W_nil ?_
  refine N_then ?_
  obtain ⟨out777, hw778, hmo779⟩ := gx_bind hm
  refine G_meet (fun a w' => ∃ (o780 : Unit), out777 = .inl o780 ∧ Mem [] w w' [] ∧ Sat Try.f37.ntmps [] a) ?_ ?_
  · refine G_block ?_
    refine G_while (σ := Int) (ρ := (Unit) ⊕ (Int)) (fun s770 a w' => Mem [] w w' [] ∧ Sat Try.f37.ntmps [(0, .slice p710 x708.length c711), (1, .func (.func 28) #[] #[.pointer (some ⟨b714, 0, none⟩)]), (7, .int .i64 (x708.length : Int)), (8, .int .i64 s770)] a) hw778 (fun a ha => ⟨M0.pick [] (by kernel_rfl), ha.sub (by kernel_rfl)⟩) ?_
    clear hm
    intro s770 x771 hm hout772 a773 w774 ⟨M775, hS776⟩
    refine G_use hS776 ?_
    refine G_seq ?_
    refine G_region ?_
    refine W_run 1 [(0, .slice p710 x708.length c711), (1, .func (.func 28) #[] #[.pointer (some ⟨b714, 0, none⟩)]), (7, .int .i64 (x708.length : Int)), (8, .int .i64 s770), (9, .bool (decide (s770 < (x708.length : Int))))] w774 (by kernel_rfl) ?_
    refine W_nil ?_
    refine N_then ?_
    refine G_seq ?_
    rcases gx_bif hm with ⟨hc781, hm⟩ | ⟨hc781, hm⟩
    · refine G_cond_t (b := (decide (s770 < (x708.length : Int)))) hc781 (by kernel_rfl) ?_
      refine G_skip ?_
      refine N_then ?_
      refine G_seq ?_
      refine G_block ?_
      refine G_seq ?_
      refine G_region ?_
      refine W_run 2 [(0, .slice p710 x708.length c711), (1, .func (.func 28) #[] #[.pointer (some ⟨b714, 0, none⟩)]), (5, .int .i64 s770), (7, .int .i64 (x708.length : Int)), (8, .int .i64 s770)] w774 (by kernel_rfl) ?_
      refine W_nil ?_
      refine N_then ?_
      refine G_seq ?_
      refine G_region ?_
      refine W_run 3 [(0, .slice p710 x708.length c711), (1, .func (.func 28) #[] #[.pointer (some ⟨b714, 0, none⟩)]), (5, .int .i64 s770), (7, .int .i64 (x708.length : Int)), (8, .int .i64 s770), (11, .func (.func 28) #[] #[.pointer (some ⟨b714, 0, none⟩)]), (12, .slice p710 x708.length c711), (13, .int .i64 s770)] w774 (by kernel_rfl) ?_
      obtain ⟨y782, hy782, hm⟩ := gx_bind hm
      refine W_val (elemP p710 (s770.toNat * 2)) w774 (by kernel_rfl) (E_index (E := encRoute) _ _ _ x708.length c711 .i64 s770 2 (y := y782) rfl (by kernel_rfl) (by kernel_rfl) (by kernel_rfl) (h712.mem0 M775) rfl hy782) ?_
      refine W_val (.agg #[.int .i64 y782.Priority, .int .i64 y782.Target]) w774 (by kernel_rfl) (E_loadE (E := encRoute) _ _ true 2 s770 0 (s770.toNat * 2) y782 (.agg #[.int .i64 y782.Priority, .int .i64 y782.Target]) rfl (by kernel_rfl) (by kernel_rfl) (by kernel_rfl) (h712.mem0 M775) hy782 rfl) ?_
      obtain ⟨r783, hr783, hm⟩ := gx_bind hm
      refine W_call 28 #[.agg #[.int .i64 y782.Priority, .int .i64 y782.Target], .pointer (some ⟨b714, 0, none⟩)] (by kernel_rfl) (by kernel_rfl) ?_
      refine (c_i_areRoutes_1 w774 y782 x713 b714 (M775.ro hb715) hr783).mono ?_
      rintro e_ w784 ⟨rfl, K785⟩
      have M786 := M775.call0 K785
      refine ⟨_, rfl, ?_⟩
      refine W_nil ?_
      refine N_then ?_
      rcases gx_bif hm with ⟨hc787, hm⟩ | ⟨hc787, hm⟩
      · refine G_cond_t (b := r783) hc787 (by kernel_rfl) ?_
        refine G_seq ?_
        refine G_region ?_
        refine W_run 2 [(4, .int .i64 s770)] w784 (by kernel_rfl) ?_
        refine W_nil ?_
        refine N_then ?_
        refine G_ret ?_
        refine N_block_ret ?_
        refine N_then_ret ?_
        refine N_then_ret ?_
        obtain rfl := Option.some.inj hm
        obtain rfl := hout772 _ rfl
        have hm := hmo779; simp only [Sum.elim_inr] at hm
        refine N_block_ret ?_
        refine N_meet_ret ?_
        refine N_then_ret ?_
        obtain rfl := Option.some.inj hm
        refine N_ret [.int .i64 s770] (RVs_cons (RV_tmp (by kernel_rfl)) RVs_nil) ?_
        exact ⟨rfl, M786.pick [] (by kernel_rfl)⟩
      · refine G_cond_f (b := r783) hc787 (by kernel_rfl) ?_
        refine G_skip ?_
        refine N_block ?_
        refine N_then ?_
        refine G_region ?_
        refine W_run 2 [(0, .slice p710 x708.length c711), (1, .func (.func 28) #[] #[.pointer (some ⟨b714, 0, none⟩)]), (7, .int .i64 (x708.length : Int)), (8, .int .i64 (w64 (s770 + 1)))] w784 (by kernel_rfl) ?_
        refine W_nil ?_
        obtain rfl := Option.some.inj hm
        exact N_loop fun a ha => ⟨_, rfl, M786.pick [] (by kernel_rfl), ha.sub (by kernel_rfl)⟩
    · refine G_cond_f (b := (decide (s770 < (x708.length : Int)))) hc781 (by kernel_rfl) ?_
      refine G_exit ?_
      refine N_then_exit ?_
      refine N_then_exit ?_
      refine N_block_eq ?_
      obtain rfl := Option.some.inj hm
      obtain rfl := hout772 _ rfl
      exact N_meet fun a ha => ⟨_, rfl, M775.pick [] (by kernel_rfl), ha.sub (by kernel_rfl)⟩
  · intro a788 w789 ⟨o780, hout_, M790, hS791⟩
    refine N_use hS791 ?_
    subst hout_
    have hm := hmo779; simp only [Sum.elim_inl] at hm
    refine N_then ?_
    refine G_seq ?_
    refine G_region ?_
    refine W_run 1 [(4, .int .i64 (-1))] w789 (by kernel_rfl) ?_
    refine W_nil ?_
    refine N_then ?_
    refine G_ret ?_
    obtain rfl := Option.some.inj hm
    refine N_ret [.int .i64 (-1)] (RVs_cons (RV_tmp (by kernel_rfl)) RVs_nil) ?_
    exact ⟨rfl, M790.pick [] (by kernel_rfl)⟩
theorem c_slices_ContainsFunc_27__i_areRoutes_1 (w : World) (x699 : List Route) (p701 : Option Addr) (c702 : Nat) (h703 : rdS encRoute w x699 p701 c702) (x704 : Int) (b705 : Nat) (hb706 : w.heap[b705]? = some (.cells ⟨[.int .i64 x704]⟩ 3 (0, 0))) {r : Bool} (hm : M.slices_ContainsFunc_27__i_areRoutes_1 x699 x704 = some r) :
    Calls Try.prog 27 #[.slice p701 x699.length c702, .func (.func 28) #[] #[.pointer (some ⟨b705, 0, none⟩)]] w fun e w' => e = .returned (.bool r) ∧ Mem [] w w' [] := by
  unfold M.slices_ContainsFunc_27__i_areRoutes_1 at hm
  refine C_enter Try.func27 rfl (by kernel_rfl) ?_
  have M0 := Mem.refl [] w
  refine G_seq ?_
  refine G_region ?_
  refine W_run 1 [(0, .slice p701 x699.length c702), (1, .func (.func 28) #[] #[.pointer (some ⟨b705, 0, none⟩)])] w (by kernel_rfl) ?_
  refine W_nil ?_
  refine N_then ?_
  refine G_seq ?_
  refine G_region ?_
  refine W_run 2 [(5, .slice p701 x699.length c702), (6, .func (.func 28) #[] #[.pointer (some ⟨b705, 0, none⟩)])] w (by kernel_rfl) ?_
  obtain ⟨r792, hr792, hm⟩ := gx_bind hm
  refine W_call 37 #[.slice p701 x699.length c702, .func (.func 28) #[] #[.pointer (some ⟨b705, 0, none⟩)]] (by kernel_rfl) (by kernel_rfl) ?_
  refine (c_slices_IndexFunc_37__i_areRoutes_1 w x699 p701 c702 (h703.mem0 M0) x704 b705 (M0.ro hb706) hr792).mono ?_
  rintro e_ w793 ⟨rfl, K794⟩
  have M795 := M0.call0 K794
  refine ⟨_, rfl, ?_⟩
  refine W_run 2 [(4, .bool (decide (r792 ≥ 0)))] w793 (by kernel_rfl) ?_
  refine W_nil ?_
  refine N_then ?_
  refine G_ret ?_
  obtain rfl := Option.some.inj hm
  refine N_ret [.bool (decide (r792 ≥ 0))] (RVs_cons (RV_tmp (by kernel_rfl)) RVs_nil) ?_
  exact ⟨rfl, M795.pick [] (by kernel_rfl)⟩
theorem c_i_areRoutes (w : World) (x671 : List Route) (p673 : Option Addr) (c674 : Nat) (h675 : rdS encRoute w x671 p673 c674) (x676 : Int) {r : Bool} (hm : M.i_areRoutes x671 x676 = some r) :
    Calls Try.prog 15 #[.slice p673 x671.length c674, .int .i64 x676] w fun e w' => e = .returned (.bool r) ∧ Mem [] w w' [] := by
  unfold M.i_areRoutes at hm
  refine C_enter Try.func15 rfl (by kernel_rfl) ?_
  have M0 := Mem.refl [] w
  refine G_seq ?_
  refine G_region ?_
  refine W_new (fun b => .pointer (some ⟨b, 0, none⟩)) (.cells ⟨[.int .i64 x676]⟩ 3 (0, 0)) M0 rfl (by kernel_rfl) (by kernel_rfl) ?_
  intro b678 w679 M680
  refine W_run 1 [(0, .slice p673 x671.length c674), (3, .pointer (some ⟨b678, 0, none⟩))] w679 (by kernel_rfl) ?_
  refine W_nil ?_
  refine N_then ?_
  refine G_seq ?_
  obtain ⟨o800, ho801, hm802⟩ := gx_bind hm
  refine G_meet (fun a w' => Mem [] w w' [] ∧ Sat Try.f15.ntmps [(4, .bool o800)] a) ?_ ?_
  · have hm := ho801
    refine G_region ?_
    refine W_val (.int .i64 x676) w679 (by kernel_rfl) (E_load (e := 3) (fr := (0, 0)) _ _ false 1 b678 0 [.int .i64 x676] (.int .i64 x676) rfl (by kernel_rfl) (by kernel_rfl) (by kernel_rfl) (M680.blk 0 (b := b678) (o := .cells ⟨[.int .i64 x676]⟩ 3 (0, 0)) (by kernel_rfl))) ?_
    obtain ⟨r803, hr803, hm⟩ := gx_bind hm
    refine W_call 26 #[.int .i64 x676, .int .i64 1, .int .i64 2] (by kernel_rfl) (by kernel_rfl) ?_
    refine (c_i_inside w679 x676 1 2 hr803).mono ?_
    rintro e_ w804 ⟨rfl, K805⟩
    have M806 := M680.call0 K805
    refine ⟨_, rfl, ?_⟩
    refine W_run 1 [(0, .slice p673 x671.length c674), (3, .pointer (some ⟨b678, 0, none⟩)), (7, .bool r803)] w804 (by kernel_rfl) ?_
    rcases gx_bif hm with ⟨hc807, hm⟩ | ⟨hc807, hm⟩
    · refine W_known 7 true (by kernel_rfl) hc807 ?_
      refine W_run 5 [(0, .slice p673 x671.length c674), (3, .pointer (some ⟨b678, 0, none⟩)), (12, .bool ((x671.length : Int) == 8))] w804 (by kernel_rfl) ?_
      rcases gx_bif hm with ⟨hc808, hm⟩ | ⟨hc808, hm⟩
      · refine W_known 12 true (by kernel_rfl) hc808 ?_
        refine W_run 2 [(12, .bool true), (13, .slice p673 x671.length c674), (14, .func (.func 28) #[] #[.pointer (some ⟨b678, 0, none⟩)])] w804 (by kernel_rfl) ?_
        obtain ⟨r809, hr809, hm⟩ := gx_bind hm
        refine W_call 27 #[.slice p673 x671.length c674, .func (.func 28) #[] #[.pointer (some ⟨b678, 0, none⟩)]] (by kernel_rfl) (by kernel_rfl) ?_
        refine (c_slices_ContainsFunc_27__i_areRoutes_1 w804 x671 p673 c674 (h675.mem0 M806) x676 b678 (M806.blk 0 (b := b678) (o := .cells ⟨[.int .i64 x676]⟩ 3 (0, 0)) (by kernel_rfl)) hr809).mono ?_
        rintro e_ w810 ⟨rfl, K811⟩
        have M812 := M806.call0 K811
        refine ⟨_, rfl, ?_⟩
        refine W_run 3 [(4, .bool (!r809))] w810 (by kernel_rfl) ?_
        refine W_nil ?_
        obtain rfl := Option.some.inj hm
        exact N_meet fun a ha => ⟨M812.pick [] (by kernel_rfl), ha.sub (by kernel_rfl)⟩
      · refine W_known 12 false (by kernel_rfl) hc808 ?_
        refine W_run 6 [(4, .bool false)] w804 (by kernel_rfl) ?_
        refine W_nil ?_
        obtain rfl := Option.some.inj hm
        exact N_meet fun a ha => ⟨M806.pick [] (by kernel_rfl), ha.sub (by kernel_rfl)⟩
    · refine W_known 7 false (by kernel_rfl) hc807 ?_
      refine W_run 11 [(4, .bool false)] w804 (by kernel_rfl) ?_
      refine W_nil ?_
      obtain rfl := Option.some.inj hm
      exact N_meet fun a ha => ⟨M806.pick [] (by kernel_rfl), ha.sub (by kernel_rfl)⟩
  · intro a815 w813 ⟨M814, hS816⟩
    refine N_use hS816 ?_
    have hm := hm802
    refine N_then ?_
    refine G_ret ?_
    obtain rfl := Option.some.inj hm
    refine N_ret [.bool o800] (RVs_cons (RV_tmp (by kernel_rfl)) RVs_nil) ?_
    exact ⟨rfl, M814.pick [] (by kernel_rfl)⟩
theorem c_i_NewMachine (w : World) (x640 : List Route) (p642 : Option Addr) (c643 : Nat) (h644 : rdS encRoute w x640 p642 c643) (x645 : Int) {r : Machine × Bool} (hm : M.i_NewMachine x640 x645 = some r) :
    Calls Try.prog 7 #[.slice p642 x640.length c643, .int .i64 x645] w fun e w' => ∃ (p647 : Option Addr) (c648 : Nat) (sg649 : Seg), ∃ (p651 : Option Addr) (c652 : Nat) (sg653 : Seg), ∃ (p655 : Option Addr) (c656 : Nat) (sg657 : Seg), ∃ (p659 : Option Addr) (c660 : Nat) (sg661 : Seg) (sg662 : Seg), e = .returned (.tuple #[.agg #[.slice p647 r.1.Routes.length c648, .slice p651 r.1.Enabled.length c652, .slice p655 r.1.Raised.length c656, .slice p659 r.1.Cpus.length c660], .bool r.2]) ∧ ownS encRoute r.1.Routes p647 c648 sg649 ∧ ownS encB r.1.Enabled p651 c652 sg653 ∧ ownS encB r.1.Raised p655 c656 sg657 ∧ ownD deepInterface r.1.Cpus p659 c660 sg661 sg662 ∧ Mem [] w w' [sg649, sg653, sg657, sg661, sg662] := by
  unfold M.i_NewMachine at hm
  refine C_enter Try.func7 rfl (by kernel_rfl) ?_
  have M0 := Mem.refl [] w
  refine G_seq ?_
  refine G_region ?_
  refine W_new (fun b => .pointer (some ⟨b, 0, none⟩)) (.cells ⟨[.slice none 0 0, .slice none 0 0, .slice none 0 0, .slice none 0 0]⟩ 28 (0, 0)) M0 rfl (by kernel_rfl) (by kernel_rfl) ?_
  intro b668 w669 M670
  refine W_run 1 [(0, .slice p642 x640.length c643), (1, .int .i64 x645), (4, .pointer (some ⟨b668, 0, none⟩))] w669 (by kernel_rfl) ?_
  refine W_nil ?_
  refine N_then ?_
  refine G_seq ?_
  refine G_seq ?_
  refine G_region ?_
  refine W_run 2 [(0, .slice p642 x640.length c643), (1, .int .i64 x645), (4, .pointer (some ⟨b668, 0, none⟩)), (7, .slice p642 x640.length c643), (8, .int .i64 x645)] w669 (by kernel_rfl) ?_
  obtain ⟨r817, hr817, hm⟩ := gx_bind hm
  refine W_call 15 #[.slice p642 x640.length c643, .int .i64 x645] (by kernel_rfl) (by kernel_rfl) ?_
  refine (c_i_areRoutes w669 x640 p642 c643 (h644.mem0 M670) x645 hr817).mono ?_
  rintro e_ w818 ⟨rfl, K819⟩
  have M820 := M670.call0 K819
  refine ⟨_, rfl, ?_⟩
  refine W_run 1 [(0, .slice p642 x640.length c643), (1, .int .i64 x645), (4, .pointer (some ⟨b668, 0, none⟩)), (10, .bool (!r817))] w818 (by kernel_rfl) ?_
  refine W_nil ?_
  refine N_then ?_
  rcases gx_bif hm with ⟨hc821, hm⟩ | ⟨hc821, hm⟩
  · refine G_cond_t (b := (!r817)) hc821 (by kernel_rfl) ?_
    refine G_seq ?_
    refine G_region ?_
    refine W_run 1 [(4, .pointer (some ⟨b668, 0, none⟩)), (11, .agg #[.slice none 0 0, .slice none 0 0, .slice none 0 0, .slice none 0 0])] w818 (by kernel_rfl) ?_
    refine W_store _ _ _ true 4 b668 0 [.slice none 0 0, .slice none 0 0, .slice none 0 0, .slice none 0 0] 28 (.agg #[.slice none 0 0, .slice none 0 0, .slice none 0 0, .slice none 0 0]) 0 [.slice none 0 0, .slice none 0 0, .slice none 0 0, .slice none 0 0] M820 (by kernel_rfl) rfl (by kernel_rfl) (by kernel_rfl) (by kernel_rfl) (by kernel_rfl) (by kernel_rfl) (by kernel_rfl) (by kernel_rfl) (by kernel_rfl) ?_
    intro w826 M827
    refine W_run 1 [(4, .pointer (some ⟨b668, 0, none⟩)), (5, .bool false)] w826 (by kernel_rfl) ?_
    refine W_nil ?_
    refine N_then ?_
    refine G_ret ?_
    refine N_then_ret ?_
    obtain rfl := Option.some.inj hm
    refine N_ret [.agg #[.slice none 0 0, .slice none 0 0, .slice none 0 0, .slice none 0 0], .bool false] (RVs_cons (RV_cell (g := true) (k := 4) (b := b668) (off := 0) (cs := [.slice none 0 0, .slice none 0 0, .slice none 0 0, .slice none 0 0]) (e := 28) (fr := (0, 0)) (v := .agg #[.slice none 0 0, .slice none 0 0, .slice none 0 0, .slice none 0 0]) (M827.blk 0 (b := b668) (o := .cells ⟨[.slice none 0 0, .slice none 0 0, .slice none 0 0, .slice none 0 0]⟩ 28 (0, 0)) (by kernel_rfl)) (by kernel_rfl) (by kernel_rfl) (by kernel_rfl)) (RVs_cons (RV_tmp (by kernel_rfl)) RVs_nil)) ?_
    exact ⟨none, 0, [], none, 0, [], none, 0, [], none, 0, [], [], rfl, ownS_nil, ownS_nil, ownS_nil, ownD_nil, M827.pick [100000, 100001, 100002, 100003, 100004] (by kernel_rfl)⟩
  · refine G_cond_f (b := (!r817)) hc821 (by kernel_rfl) ?_
    refine G_skip ?_
    refine N_then ?_
    refine G_seq ?_
    obtain ⟨ap835, hap835, hm⟩ := gx_bind hm
    obtain ⟨mk841, hmk841, hm⟩ := gx_bind hm
    obtain ⟨mk847, hmk847, hm⟩ := gx_bind hm
    refine G_sub [(0, .slice p642 x640.length c643), (1, .int .i64 x645), (4, .pointer (some ⟨b668, 0, none⟩)), (10, .bool (!r817))] (by kernel_rfl) ?_
    refine G_dagL 8 [[], [], [0, 1], [], [], [], [], []] [[], [], [0], [], [], [], [], []] [[], [], [], [], [], [], [], []] [[], [], [], [], [], [], [2, 3, 4, 5], []] [[], [], [], [], [], [], [2, 3, 4, 5], []] [[], [], [], [], [], [], [], []] (fun _ => []) (fun i => ([fun f v s => ∃ (p831 : Option Addr) (c832 : Nat), v = (.slice p831 ([] : List Route).length c832 : Value) ∧ ownS encRoute ([] : List Route) p831 c832 s, fun f v s => v = (.slice p642 x640.length c643 : Value) ∧ s = [], fun f v s => ∃ (p837 : Option Addr) (c838 : Nat), v = (.slice p837 ap835.length c838 : Value) ∧ ownS encRoute ap835 p837 c838 s, fun f v s => ∃ (p843 : Option Addr) (c844 : Nat), v = (.slice p843 mk841.length c844 : Value) ∧ ownS encB mk841 p843 c844 s, fun f v s => ∃ (p849 : Option Addr) (c850 : Nat), v = (.slice p849 mk847.length c850 : Value) ∧ ownS encB mk847 p849 c850 s, fun f v s => ∃ (p854 : Option Addr) (c855 : Nat) (sg856 : Seg) (sg857 : Seg), v = (.slice p854 ([] : List Interface).length c855 : Value) ∧ s = (sg856 ++ sg857) ∧ ownD deepInterface ([] : List Interface) p854 c855 sg856 sg857, fun f v s => v = (.agg #[(atPath (f 2) []), (atPath (f 3) []), (atPath (f 4) []), (atPath (f 5) [])] : Value) ∧ s = [], fun f v s => ∃ (b868 : Nat), v = (.pointer (some ⟨b868, 0, none⟩) : Value) ∧ s = [(b868, .cells ⟨[.slice none 0 0, .slice none 0 0, .slice none 0 0, .slice none 0 0]⟩ 28 (0, 0))]] : List ((Nat → Value) → Value → Seg → Prop)).getD i (fun _ _ _ => False)) (fun j f v => ∃ s, (fun i => ([fun f v s => ∃ (p831 : Option Addr) (c832 : Nat), v = (.slice p831 ([] : List Route).length c832 : Value) ∧ ownS encRoute ([] : List Route) p831 c832 s, fun f v s => v = (.slice p642 x640.length c643 : Value) ∧ s = [], fun f v s => ∃ (p837 : Option Addr) (c838 : Nat), v = (.slice p837 ap835.length c838 : Value) ∧ ownS encRoute ap835 p837 c838 s, fun f v s => ∃ (p843 : Option Addr) (c844 : Nat), v = (.slice p843 mk841.length c844 : Value) ∧ ownS encB mk841 p843 c844 s, fun f v s => ∃ (p849 : Option Addr) (c850 : Nat), v = (.slice p849 mk847.length c850 : Value) ∧ ownS encB mk847 p849 c850 s, fun f v s => ∃ (p854 : Option Addr) (c855 : Nat) (sg856 : Seg) (sg857 : Seg), v = (.slice p854 ([] : List Interface).length c855 : Value) ∧ s = (sg856 ++ sg857) ∧ ownD deepInterface ([] : List Interface) p854 c855 sg856 sg857, fun f v s => v = (.agg #[(atPath (f 2) []), (atPath (f 3) []), (atPath (f 4) []), (atPath (f 5) [])] : Value) ∧ s = [], fun f v s => ∃ (b868 : Nat), v = (.pointer (some ⟨b868, 0, none⟩) : Value) ∧ s = [(b868, .cells ⟨[.slice none 0 0, .slice none 0 0, .slice none 0 0, .slice none 0 0]⟩ 28 (0, 0))]] : List ((Nat → Value) → Value → Seg → Prop)).getD i (fun _ _ _ => False)) j f v s) [] [2, 3, 4, 5, 6, 7] [2, 3, 4, 5, 7] (fun _ _ _ s h => ⟨s, h⟩) (by kernel_rfl) (by kernel_rfl) (M820.preNil 8) (by kernel_rfl) (by kernel_rfl) (by kernel_rfl) (by kernel_rfl) (allOb_cons ?_ (allOb_cons ?_ (allOb_cons ?_ (allOb_cons ?_ (allOb_cons ?_ (allOb_cons ?_ (allOb_cons ?_ (allOb_cons ?_ allOb_nil)))))))) ?_
    · intro g828 f829
      intro R w869 M870
      refine W_lit (E := encRoute) ([] : List Route) 0 [] 48 M870 (by kernel_rfl) (by kernel_rfl) (by kernel_rfl) (by kernel_rfl) (by kernel_rfl) ?_
      intro p831 c832 sg833 w871 ho834 M872
      exact W_nil (ob_end (.slice p831 ([] : List Route).length c832) sg833 rfl (by kernel_rfl) ⟨p831, c832, rfl, ho834⟩ (Mem.mid M872))
    · intro g828 f829
      intro R w873 M874
      refine W_run 1 [(13, .slice p642 x640.length c643)] w873 (by kernel_rfl) ?_
      exact W_nil (ob_end (.slice p642 x640.length c643) [] rfl (by kernel_rfl) ⟨by kernel_rfl, rfl⟩ M874)
    · intro g828 f829
      intro v0_ hb0_
      obtain ⟨p831, c832, rfl, ho834⟩ := hb0_
      intro v1_ hb1_
      obtain ⟨rfl, _⟩ := hb1_
      intro R w877 M878
      refine W_append (E := encRoute) _ _ _ 16 [.int .i64 0, .int .i64 0] 2 c643 M878 ho834 (by kernel_rfl) (by kernel_rfl) (by kernel_rfl) rfl (by kernel_rfl) (by kernel_rfl) (by kernel_rfl) (by kernel_rfl) (by kernel_rfl) (by kernel_rfl) (h644.mem0 M878) hap835 ?_
      intro p837 c838 sg839 w879 ho840 M880
      exact W_nil (ob_end (.slice p837 ap835.length c838) sg839 rfl (by kernel_rfl) ⟨p837, c838, rfl, ho840⟩ (Mem.takeOver M880))
    · intro g828 f829
      intro R w881 M882
      refine W_make (E := encB) _ _ _ 8 1 [.bool false] (false : Bool) M882 (by kernel_rfl) rfl (by kernel_rfl) (by kernel_rfl) (by kernel_rfl) (by kernel_rfl) (by kernel_rfl) hmk841 ?_
      intro p843 c844 sg845 w883 ho846 M884
      exact W_nil (ob_end (.slice p843 mk841.length c844) sg845 rfl (by kernel_rfl) ⟨p843, c844, rfl, ho846⟩ (Mem.mid M884))
    · intro g828 f829
      intro R w885 M886
      refine W_make (E := encB) _ _ _ 8 1 [.bool false] (false : Bool) M886 (by kernel_rfl) rfl (by kernel_rfl) (by kernel_rfl) (by kernel_rfl) (by kernel_rfl) (by kernel_rfl) hmk847 ?_
      intro p849 c850 sg851 w887 ho852 M888
      exact W_nil (ob_end (.slice p849 mk847.length c850) sg851 rfl (by kernel_rfl) ⟨p849, c850, rfl, ho852⟩ (Mem.mid M888))
    · intro g828 f829
      intro R w889 M890
      refine W_litD (D := deepInterface) (s1 := []) [] ([] : List Interface) rfl 0 [] 46 M890 (by kernel_rfl) (by kernel_rfl) (by kernel_rfl) (by kernel_rfl) (by kernel_rfl) ownI_nil ?_
      intro p854 c855 sg856 w891 ho858 M892
      exact W_nil (ob_end (.slice p854 ([] : List Interface).length c855) (sg856 ++ []) rfl (by kernel_rfl) ⟨p854, c855, sg856, [], rfl, rfl, ho858⟩ (Mem.mid (by rw [List.append_nil]; exact M892)))
    · intro g828 f829
      intro v2_ hb2_
      obtain ⟨_, p837, c838, rfl, _⟩ := hb2_
      intro v3_ hb3_
      obtain ⟨_, p843, c844, rfl, _⟩ := hb3_
      intro v4_ hb4_
      obtain ⟨_, p849, c850, rfl, _⟩ := hb4_
      intro v5_ hb5_
      obtain ⟨_, p854, c855, _, _, rfl, _⟩ := hb5_
      intro R w893 M894
      refine W_run 1 [(18, .agg #[.slice p837 ap835.length c838, .slice p843 mk841.length c844, .slice p849 mk847.length c850, .slice p854 ([] : List Interface).length c855])] w893 (by kernel_rfl) ?_
      exact W_nil (ob_end (.agg #[.slice p837 ap835.length c838, .slice p843 mk841.length c844, .slice p849 mk847.length c850, .slice p854 ([] : List Interface).length c855]) [] rfl (by kernel_rfl) ⟨by kernel_rfl, rfl⟩ M894)
    · intro g828 f829
      intro R w897 M898
      refine W_new (fun b => .pointer (some ⟨b, 0, none⟩)) (.cells ⟨[.slice none 0 0, .slice none 0 0, .slice none 0 0, .slice none 0 0]⟩ 28 (0, 0)) M898 rfl (by kernel_rfl) (by kernel_rfl) ?_
      intro b868 w899 M900
      exact W_nil (ob_end (.pointer (some ⟨b868, 0, none⟩)) [(b868, .cells ⟨[.slice none 0 0, .slice none 0 0, .slice none 0 0, .slice none 0 0]⟩ 28 (0, 0))] rfl (by kernel_rfl) ⟨b868, rfl, rfl⟩ (Mem.mid M900))
    · intro g828 f829
      intro v2_ hb2_
      obtain ⟨p837, c838, rfl, ho840⟩ := hb2_
      intro v3_ hb3_
      obtain ⟨p843, c844, rfl, ho846⟩ := hb3_
      intro v4_ hb4_
      obtain ⟨p849, c850, rfl, ho852⟩ := hb4_
      intro v5_ hb5_
      obtain ⟨p854, c855, sg856, sg857, rfl, hs5_, ho858⟩ := hb5_
      intro v6_ hb6_
      obtain ⟨hv6_, _⟩ := hb6_
      obtain rfl : v6_ = (.agg #[.slice p837 ap835.length c838, .slice p843 mk841.length c844, .slice p849 mk847.length c850, .slice p854 ([] : List Interface).length c855] : Value) := hv6_.trans (by kernel_rfl)
      intro v7_ hb7_
      obtain ⟨b868, rfl, hs7_⟩ := hb7_
      intro w901 M902
      have M903 : Mem [] w w901 [[(b668, .cells ⟨[.slice none 0 0, .slice none 0 0, .slice none 0 0, .slice none 0 0]⟩ 28 (0, 0))], (g828 2), (g828 3), (g828 4), (g828 5), (g828 7)] := M902
      rw [hs5_] at M903
      rw [hs7_] at M903
      replace M903 : Mem [] w w901 [[(b668, .cells ⟨[.slice none 0 0, .slice none 0 0, .slice none 0 0, .slice none 0 0]⟩ 28 (0, 0))], (g828 2), (g828 3), (g828 4), sg856, sg857, [(b868, .cells ⟨[.slice none 0 0, .slice none 0 0, .slice none 0 0, .slice none 0 0]⟩ 28 (0, 0))]] := M903.permF (by simp)
      refine W_store _ _ _ true 4 b868 0 [.slice none 0 0, .slice none 0 0, .slice none 0 0, .slice none 0 0] 28 (.agg #[.slice p837 ap835.length c838, .slice p843 mk841.length c844, .slice p849 mk847.length c850, .slice p854 ([] : List Interface).length c855]) 6 [.slice p837 ap835.length c838, .slice p843 mk841.length c844, .slice p849 mk847.length c850, .slice p854 ([] : List Interface).length c855] M903 (by kernel_rfl) rfl (by kernel_rfl) (by kernel_rfl) (by kernel_rfl) (by kernel_rfl) (by kernel_rfl) (by kernel_rfl) (by kernel_rfl) (by kernel_rfl) ?_
      intro w904 M905
      refine W_nil ?_
      refine N_then ?_
      refine G_seq ?_
      refine G_seq ?_
      refine G_region ?_
      refine W_run 2 [(4, .pointer (some ⟨b668, 0, none⟩)), (6, .pointer (some ⟨b868, 0, none⟩)), (19, .int .i64 x645), (20, .int .i64 0)] w904 (by kernel_rfl) ?_
      refine W_nil ?_
      refine N_then ?_
      obtain ⟨out1093, hw1094, hmo1095⟩ := gx_bind hm
      refine G_meet (fun a w' => ∃ (p1103 : Option Addr), ∃ (c1104 : Nat), ∃ (sg1105 : Seg), ∃ (sg1106 : Seg), ownD deepInterface out1093 p1103 c1104 sg1105 sg1106 ∧ Mem [] w w' [[(b668, .cells ⟨[.slice none 0 0, .slice none 0 0, .slice none 0 0, .slice none 0 0]⟩ 28 (0, 0))], (g828 2), (g828 3), (g828 4), [(b868, .cells ⟨[.slice p837 ap835.length c838, .slice p843 mk841.length c844, .slice p849 mk847.length c850, .slice p1103 out1093.length c1104]⟩ 28 (0, 0))], sg1105, sg1106] ∧ Sat Try.f7.ntmps [(4, .pointer (some ⟨b668, 0, none⟩)), (6, .pointer (some ⟨b868, 0, none⟩))] a) ?_ ?_
      · refine G_block ?_
        refine G_while (σ := Int × List Interface) (ρ := List Interface) (fun s1086 a w' => ∃ (p1096 : Option Addr), ∃ (c1097 : Nat), ∃ (sg1098 : Seg), ∃ (sg1099 : Seg), ownD deepInterface s1086.2 p1096 c1097 sg1098 sg1099 ∧ Mem [] w w' [[(b668, .cells ⟨[.slice none 0 0, .slice none 0 0, .slice none 0 0, .slice none 0 0]⟩ 28 (0, 0))], (g828 2), (g828 3), (g828 4), [(b868, .cells ⟨[.slice p837 ap835.length c838, .slice p843 mk841.length c844, .slice p849 mk847.length c850, .slice p1096 s1086.2.length c1097]⟩ 28 (0, 0))], sg1098, sg1099] ∧ Sat Try.f7.ntmps [(4, .pointer (some ⟨b668, 0, none⟩)), (6, .pointer (some ⟨b868, 0, none⟩)), (19, .int .i64 x645), (20, .int .i64 s1086.1)] a) hw1094 (fun a ha => ⟨p854, c855, sg856, sg857, ho858, M905.pick [0, 1, 2, 3, 6, 4, 5] (by kernel_rfl), ha.sub (by kernel_rfl)⟩) ?_
        clear hm
        intro s1086 x1087 hm hout1088 a1089 w1090 ⟨p1096, c1097, sg1098, sg1099, ho1100, M1091, hS1092⟩
        refine G_use hS1092 ?_
        refine G_seq ?_
        refine G_region ?_
        refine W_run 1 [(4, .pointer (some ⟨b668, 0, none⟩)), (6, .pointer (some ⟨b868, 0, none⟩)), (19, .int .i64 x645), (20, .int .i64 s1086.1), (21, .bool (decide (s1086.1 < x645)))] w1090 (by kernel_rfl) ?_
        refine W_nil ?_
        refine N_then ?_
        refine G_seq ?_
        rcases gx_bif hm with ⟨hc1109, hm⟩ | ⟨hc1109, hm⟩
        · refine G_cond_t (b := (decide (s1086.1 < x645))) hc1109 (by kernel_rfl) ?_
          refine G_skip ?_
          refine N_then ?_
          refine G_seq ?_
          refine G_block ?_
          obtain ⟨mk1117, hmk1117, hm⟩ := gx_bind hm
          refine G_sub [(4, .pointer (some ⟨b668, 0, none⟩)), (6, .pointer (some ⟨b868, 0, none⟩)), (19, .int .i64 x645), (20, .int .i64 s1086.1), (21, .bool (decide (s1086.1 < x645)))] (by kernel_rfl) ?_
          refine G_dagL 8 [[], [0], [], [], [], [], [5], [2, 3, 4, 6]] [[], [], [], [], [], [], [], [2, 3, 4]] [[], [], [], [], [], [], [], []] [[], [], [], [], [], [3, 4], [2, 3, 4], []] [[], [], [], [], [], [3, 4], [2, 3, 4], []] [[], [], [], [], [], [], [], []] (fun _ => []) (fun i => ([fun f v s => v = (.pointer (some ⟨b868, 3, none⟩) : Value) ∧ s = [], fun f v s => v = (.slice p1096 s1086.2.length c1097 : Value) ∧ s = [], fun f v s => ∃ (p1113 : Option Addr) (c1114 : Nat), v = (.slice p1113 ([] : List Int).length c1114 : Value) ∧ ownS encI ([] : List Int) p1113 c1114 s, fun f v s => ∃ (p1119 : Option Addr) (c1120 : Nat), v = (.slice p1119 mk1117.length c1120 : Value) ∧ ownS encSlot mk1117 p1119 c1120 s, fun f v s => ∃ (p1124 : Option Addr) (c1125 : Nat), v = (.slice p1124 ([] : List Waiter).length c1125 : Value) ∧ ownS encWaiter ([] : List Waiter) p1124 c1125 s, fun f v s => v = (.agg #[(atPath (f 3) []), (atPath (f 4) [])] : Value) ∧ s = [], fun f v s => v = (.agg #[.int .i64 16, (atPath (f 2) []), (atPath (f 3) []), (atPath (f 4) [])] : Value) ∧ s = [], fun f v s => ∃ (p1137 : Option Addr) (c1138 : Nat) (sg1139 : Seg) (sg1140 : Seg), v = (.slice p1137 [(⟨16, ([] : List Int), (⟨mk1117, ([] : List Waiter)⟩ : Queue)⟩ : Interface)].length c1138 : Value) ∧ s = (sg1139 ++ sg1140) ∧ ownD deepInterface [(⟨16, ([] : List Int), (⟨mk1117, ([] : List Waiter)⟩ : Queue)⟩ : Interface)] p1137 c1138 sg1139 sg1140] : List ((Nat → Value) → Value → Seg → Prop)).getD i (fun _ _ _ => False)) (fun j f v => ∃ s, (fun i => ([fun f v s => v = (.pointer (some ⟨b868, 3, none⟩) : Value) ∧ s = [], fun f v s => v = (.slice p1096 s1086.2.length c1097 : Value) ∧ s = [], fun f v s => ∃ (p1113 : Option Addr) (c1114 : Nat), v = (.slice p1113 ([] : List Int).length c1114 : Value) ∧ ownS encI ([] : List Int) p1113 c1114 s, fun f v s => ∃ (p1119 : Option Addr) (c1120 : Nat), v = (.slice p1119 mk1117.length c1120 : Value) ∧ ownS encSlot mk1117 p1119 c1120 s, fun f v s => ∃ (p1124 : Option Addr) (c1125 : Nat), v = (.slice p1124 ([] : List Waiter).length c1125 : Value) ∧ ownS encWaiter ([] : List Waiter) p1124 c1125 s, fun f v s => v = (.agg #[(atPath (f 3) []), (atPath (f 4) [])] : Value) ∧ s = [], fun f v s => v = (.agg #[.int .i64 16, (atPath (f 2) []), (atPath (f 3) []), (atPath (f 4) [])] : Value) ∧ s = [], fun f v s => ∃ (p1137 : Option Addr) (c1138 : Nat) (sg1139 : Seg) (sg1140 : Seg), v = (.slice p1137 [(⟨16, ([] : List Int), (⟨mk1117, ([] : List Waiter)⟩ : Queue)⟩ : Interface)].length c1138 : Value) ∧ s = (sg1139 ++ sg1140) ∧ ownD deepInterface [(⟨16, ([] : List Int), (⟨mk1117, ([] : List Waiter)⟩ : Queue)⟩ : Interface)] p1137 c1138 sg1139 sg1140] : List ((Nat → Value) → Value → Seg → Prop)).getD i (fun _ _ _ => False)) j f v s) [] [1, 7] [7] (fun _ _ _ s h => ⟨s, h⟩) (by kernel_rfl) (by kernel_rfl) (M1091.preNil 8) (by kernel_rfl) (by kernel_rfl) (by kernel_rfl) (by kernel_rfl) (allOb_cons ?_ (allOb_cons ?_ (allOb_cons ?_ (allOb_cons ?_ (allOb_cons ?_ (allOb_cons ?_ (allOb_cons ?_ (allOb_cons ?_ allOb_nil)))))))) ?_
          · intro g1110 f1111
            intro R w1142 M1143
            refine W_run 1 [(22, .pointer (some ⟨b868, 3, none⟩))] w1142 (by kernel_rfl) ?_
            exact W_nil (ob_end (.pointer (some ⟨b868, 3, none⟩)) [] rfl (by kernel_rfl) ⟨by kernel_rfl, rfl⟩ M1143)
          · intro g1110 f1111
            intro v0_ hb0_
            obtain ⟨rfl, _⟩ := hb0_
            intro R w1146 M1147
            refine W_val (.slice p1096 s1086.2.length c1097) w1146 (by kernel_rfl) (E_load (e := 28) (fr := (0, 0)) _ _ false 1 b868 3 [.slice p837 ap835.length c838, .slice p843 mk841.length c844, .slice p849 mk847.length c850, .slice p1096 s1086.2.length c1097] (.slice p1096 s1086.2.length c1097) rfl (by kernel_rfl) (by kernel_rfl) (by kernel_rfl) (M1147.blk 4 (b := b868) (o := .cells ⟨[.slice p837 ap835.length c838, .slice p843 mk841.length c844, .slice p849 mk847.length c850, .slice p1096 s1086.2.length c1097]⟩ 28 (0, 0)) (by kernel_rfl))) ?_
            exact W_nil (ob_end (.slice p1096 s1086.2.length c1097) [] rfl (by kernel_rfl) ⟨by kernel_rfl, rfl⟩ M1147)
          · intro g1110 f1111
            intro R w1150 M1151
            refine W_lit (E := encI) ([] : List Int) 0 [] 3 M1151 (by kernel_rfl) (by kernel_rfl) (by kernel_rfl) (by kernel_rfl) (by kernel_rfl) ?_
            intro p1113 c1114 sg1115 w1152 ho1116 M1153
            exact W_nil (ob_end (.slice p1113 ([] : List Int).length c1114) sg1115 rfl (by kernel_rfl) ⟨p1113, c1114, rfl, ho1116⟩ (Mem.mid M1153))
          · intro g1110 f1111
            intro R w1154 M1155
            refine W_make (E := encSlot) _ _ _ 4 24 [.int .i64 0, .int .i64 0, .int .i64 0] ((⟨0, 0, 0⟩ : Slot) : Slot) M1155 (by kernel_rfl) rfl (by kernel_rfl) (by kernel_rfl) (by kernel_rfl) (by kernel_rfl) (by kernel_rfl) hmk1117 ?_
            intro p1119 c1120 sg1121 w1156 ho1122 M1157
            exact W_nil (ob_end (.slice p1119 mk1117.length c1120) sg1121 rfl (by kernel_rfl) ⟨p1119, c1120, rfl, ho1122⟩ (Mem.mid M1157))
          · intro g1110 f1111
            intro R w1158 M1159
            refine W_lit (E := encWaiter) ([] : List Waiter) 0 [] 68 M1159 (by kernel_rfl) (by kernel_rfl) (by kernel_rfl) (by kernel_rfl) (by kernel_rfl) ?_
            intro p1124 c1125 sg1126 w1160 ho1127 M1161
            exact W_nil (ob_end (.slice p1124 ([] : List Waiter).length c1125) sg1126 rfl (by kernel_rfl) ⟨p1124, c1125, rfl, ho1127⟩ (Mem.mid M1161))
          · intro g1110 f1111
            intro v3_ hb3_
            obtain ⟨_, p1119, c1120, rfl, _⟩ := hb3_
            intro v4_ hb4_
            obtain ⟨_, p1124, c1125, rfl, _⟩ := hb4_
            intro R w1162 M1163
            refine W_run 1 [(27, .agg #[.slice p1119 mk1117.length c1120, .slice p1124 ([] : List Waiter).length c1125])] w1162 (by kernel_rfl) ?_
            exact W_nil (ob_end (.agg #[.slice p1119 mk1117.length c1120, .slice p1124 ([] : List Waiter).length c1125]) [] rfl (by kernel_rfl) ⟨by kernel_rfl, rfl⟩ M1163)
          · intro g1110 f1111
            intro v2_ hb2_
            obtain ⟨_, p1113, c1114, rfl, _⟩ := hb2_
            intro v3_ hb3_
            obtain ⟨_, p1119, c1120, rfl, _⟩ := hb3_
            intro v4_ hb4_
            obtain ⟨_, p1124, c1125, rfl, _⟩ := hb4_
            intro v5_ hb5_
            obtain ⟨hv5_, _⟩ := hb5_
            obtain rfl : v5_ = (.agg #[.slice p1119 mk1117.length c1120, .slice p1124 ([] : List Waiter).length c1125] : Value) := hv5_.trans (by kernel_rfl)
            intro R w1166 M1167
            refine W_run 1 [(28, .agg #[.int .i64 16, .slice p1113 ([] : List Int).length c1114, .slice p1119 mk1117.length c1120, .slice p1124 ([] : List Waiter).length c1125])] w1166 (by kernel_rfl) ?_
            exact W_nil (ob_end (.agg #[.int .i64 16, .slice p1113 ([] : List Int).length c1114, .slice p1119 mk1117.length c1120, .slice p1124 ([] : List Waiter).length c1125]) [] rfl (by kernel_rfl) ⟨by kernel_rfl, rfl⟩ M1167)
          · intro g1110 f1111
            intro v2_ hb2_
            obtain ⟨p1113, c1114, rfl, ho1116⟩ := hb2_
            intro v3_ hb3_
            obtain ⟨p1119, c1120, rfl, ho1122⟩ := hb3_
            intro v4_ hb4_
            obtain ⟨p1124, c1125, rfl, ho1127⟩ := hb4_
            intro v6_ hb6_
            obtain ⟨hv6_, _⟩ := hb6_
            obtain rfl : v6_ = (.agg #[.int .i64 16, .slice p1113 ([] : List Int).length c1114, .slice p1119 mk1117.length c1120, .slice p1124 ([] : List Waiter).length c1125] : Value) := hv6_.trans (by kernel_rfl)
            intro R w1170 M1171
            refine W_litD (D := deepInterface) [((⟨16, ([] : List Int), (⟨mk1117, ([] : List Waiter)⟩ : Queue)⟩ : Interface), plOf [(p1113, c1114), (p1119, c1120), (p1124, c1125)])] [(⟨16, ([] : List Int), (⟨mk1117, ([] : List Waiter)⟩ : Queue)⟩ : Interface)] rfl 1 [.int .i64 16, .slice p1113 ([] : List Int).length c1114, .slice p1119 mk1117.length c1120, .slice p1124 ([] : List Waiter).length c1125] 46 M1171 (by kernel_rfl) (by kernel_rfl) (by kernel_rfl) (by kernel_rfl) (by kernel_rfl) (ownI_cons (i := ⟨Int, encI, _, _, _⟩) ho1116 (ownI_cons (i := ⟨Slot, encSlot, _, _, _⟩) ho1122 (ownI_cons (i := ⟨Waiter, encWaiter, _, _, _⟩) ho1127 ownI_nil))) ?_
            intro p1137 c1138 sg1139 w1172 ho1141 M1173
            exact W_nil (ob_end (.slice p1137 [(⟨16, ([] : List Int), (⟨mk1117, ([] : List Waiter)⟩ : Queue)⟩ : Interface)].length c1138) (sg1139 ++ ((g1110 2) ++ ((g1110 3) ++ ((g1110 4) ++ [])))) rfl (by kernel_rfl) ⟨p1137, c1138, sg1139, ((g1110 2) ++ ((g1110 3) ++ ((g1110 4) ++ []))), rfl, rfl, ho1141⟩ (Mem.midJ (A := [(g1110 2), (g1110 3), (g1110 4)]) M1173))
          · intro g1110 f1111
            intro v1_ hb1_
            obtain ⟨rfl, _⟩ := hb1_
            intro v7_ hb7_
            obtain ⟨p1137, c1138, sg1139, sg1140, rfl, hs7_, ho1141⟩ := hb7_
            intro w1174 M1175
            have M1176 : Mem [] w w1174 [[(b668, .cells ⟨[.slice none 0 0, .slice none 0 0, .slice none 0 0, .slice none 0 0]⟩ 28 (0, 0))], (g828 2), (g828 3), (g828 4), [(b868, .cells ⟨[.slice p837 ap835.length c838, .slice p843 mk841.length c844, .slice p849 mk847.length c850, .slice p1096 s1086.2.length c1097]⟩ 28 (0, 0))], sg1098, sg1099, (g1110 7)] := M1175
            rw [hs7_] at M1176
            replace M1176 : Mem [] w w1174 [[(b668, .cells ⟨[.slice none 0 0, .slice none 0 0, .slice none 0 0, .slice none 0 0]⟩ 28 (0, 0))], (g828 2), (g828 3), (g828 4), [(b868, .cells ⟨[.slice p837 ap835.length c838, .slice p843 mk841.length c844, .slice p849 mk847.length c850, .slice p1096 s1086.2.length c1097]⟩ 28 (0, 0))], sg1098, sg1099, sg1139, sg1140] := M1176.permF (by simp)
            obtain ⟨ap1177, hap1177, hm⟩ := gx_bind hm
            obtain ⟨zs1181, hz1182, hr1183, hi1184⟩ := id ho1141
            refine W_appendD (D := deepInterface) (us := zs1181) (s2 := sg1140) _ _ _ 80 [.int .i64 0, .slice none 0 0, .slice none 0 0, .slice none 0 0] 5 c1138 M1176 ho1100 (by kernel_rfl) (by kernel_rfl) (by kernel_rfl) rfl (by kernel_rfl) (by kernel_rfl) (by kernel_rfl) (by kernel_rfl) (by kernel_rfl) (by kernel_rfl) (hr1183.rd M1176 7 (by kernel_rfl)) hz1182 hi1184 hap1177 ?_
            intro p1185 c1186 sg1187 w1188 ho1189 M1190
            have M1191 : Mem [] w w1188 [[(b668, .cells ⟨[.slice none 0 0, .slice none 0 0, .slice none 0 0, .slice none 0 0]⟩ 28 (0, 0))], (g828 2), (g828 3), (g828 4), [(b868, .cells ⟨[.slice p837 ap835.length c838, .slice p843 mk841.length c844, .slice p849 mk847.length c850, .slice p1096 s1086.2.length c1097]⟩ 28 (0, 0))], sg1187, sg1139, sg1099, sg1140] := M1190.pick [0, 1, 2, 3, 4, 5, 7, 6, 8] (by kernel_rfl)
            have M1192 : Mem [] w w1188 [[(b668, .cells ⟨[.slice none 0 0, .slice none 0 0, .slice none 0 0, .slice none 0 0]⟩ 28 (0, 0))], (g828 2), (g828 3), (g828 4), [(b868, .cells ⟨[.slice p837 ap835.length c838, .slice p843 mk841.length c844, .slice p849 mk847.length c850, .slice p1096 s1086.2.length c1097]⟩ 28 (0, 0))], sg1187, sg1139, (sg1099 ++ sg1140)] := M1191.regroup (by simp)
            refine W_run 1 [(4, .pointer (some ⟨b668, 0, none⟩)), (6, .pointer (some ⟨b868, 0, none⟩)), (19, .int .i64 x645), (20, .int .i64 s1086.1), (30, .slice p1185 ap1177.length c1186), (31, .pointer (some ⟨b868, 3, none⟩))] w1188 (by kernel_rfl) ?_
            refine W_store _ _ _ false 1 b868 3 [.slice p837 ap835.length c838, .slice p843 mk841.length c844, .slice p849 mk847.length c850, .slice p1096 s1086.2.length c1097] 28 (.slice p1185 ap1177.length c1186) 4 [.slice p837 ap835.length c838, .slice p843 mk841.length c844, .slice p849 mk847.length c850, .slice p1185 ap1177.length c1186] M1192 (by kernel_rfl) rfl (by kernel_rfl) (by kernel_rfl) (by kernel_rfl) (by kernel_rfl) (by kernel_rfl) (by kernel_rfl) (by kernel_rfl) (by kernel_rfl) ?_
            intro w1194 M1195
            refine W_nil ?_
            refine N_block ?_
            refine N_then ?_
            refine G_region ?_
            refine W_run 2 [(4, .pointer (some ⟨b668, 0, none⟩)), (6, .pointer (some ⟨b868, 0, none⟩)), (19, .int .i64 x645), (20, .int .i64 (w64 (s1086.1 + 1)))] w1194 (by kernel_rfl) ?_
            refine W_nil ?_
            obtain rfl := Option.some.inj hm
            exact N_loop fun a ha => ⟨_, rfl, p1185, c1186, sg1187, (sg1099 ++ sg1140), ho1189, M1195.pick [0, 1, 2, 3, 4, 5, 7] (by kernel_rfl), ha.sub (by kernel_rfl)⟩
        · refine G_cond_f (b := (decide (s1086.1 < x645))) hc1109 (by kernel_rfl) ?_
          refine G_exit ?_
          refine N_then_exit ?_
          refine N_then_exit ?_
          refine N_block_eq ?_
          obtain rfl := Option.some.inj hm
          obtain rfl := hout1088 _ rfl
          exact N_meet fun a ha => ⟨p1096, c1097, sg1098, sg1099, ho1100, M1091.pick [0, 1, 2, 3, 4, 5, 6] (by kernel_rfl), ha.sub (by kernel_rfl)⟩
      · intro a1196 w1197 ⟨p1103, c1104, sg1105, sg1106, ho1107, M1198, hS1199⟩
        refine N_use hS1199 ?_
        have hm := hmo1095
        refine N_then ?_
        refine G_seq ?_
        refine G_region ?_
        refine W_val (.agg #[.slice p837 ap835.length c838, .slice p843 mk841.length c844, .slice p849 mk847.length c850, .slice p1103 out1093.length c1104]) w1197 (by kernel_rfl) (E_load (e := 28) (fr := (0, 0)) _ _ true 4 b868 0 [.slice p837 ap835.length c838, .slice p843 mk841.length c844, .slice p849 mk847.length c850, .slice p1103 out1093.length c1104] (.agg #[.slice p837 ap835.length c838, .slice p843 mk841.length c844, .slice p849 mk847.length c850, .slice p1103 out1093.length c1104]) rfl (by kernel_rfl) (by kernel_rfl) (by kernel_rfl) (M1198.blk 4 (b := b868) (o := .cells ⟨[.slice p837 ap835.length c838, .slice p843 mk841.length c844, .slice p849 mk847.length c850, .slice p1103 out1093.length c1104]⟩ 28 (0, 0)) (by kernel_rfl))) ?_
        refine W_store _ _ _ true 4 b668 0 [.slice none 0 0, .slice none 0 0, .slice none 0 0, .slice none 0 0] 28 (.agg #[.slice p837 ap835.length c838, .slice p843 mk841.length c844, .slice p849 mk847.length c850, .slice p1103 out1093.length c1104]) 0 [.slice p837 ap835.length c838, .slice p843 mk841.length c844, .slice p849 mk847.length c850, .slice p1103 out1093.length c1104] M1198 (by kernel_rfl) rfl (by kernel_rfl) (by kernel_rfl) (by kernel_rfl) (by kernel_rfl) (by kernel_rfl) (by kernel_rfl) (by kernel_rfl) (by kernel_rfl) ?_
        intro w1200 M1201
        refine W_run 1 [(4, .pointer (some ⟨b668, 0, none⟩)), (5, .bool true)] w1200 (by kernel_rfl) ?_
        refine W_nil ?_
        refine N_then ?_
        refine G_ret ?_
        obtain rfl := Option.some.inj hm
        refine N_ret [.agg #[.slice p837 ap835.length c838, .slice p843 mk841.length c844, .slice p849 mk847.length c850, .slice p1103 out1093.length c1104], .bool true] (RVs_cons (RV_cell (g := true) (k := 4) (b := b668) (off := 0) (cs := [.slice p837 ap835.length c838, .slice p843 mk841.length c844, .slice p849 mk847.length c850, .slice p1103 out1093.length c1104]) (e := 28) (fr := (0, 0)) (v := .agg #[.slice p837 ap835.length c838, .slice p843 mk841.length c844, .slice p849 mk847.length c850, .slice p1103 out1093.length c1104]) (M1201.blk 0 (b := b668) (o := .cells ⟨[.slice p837 ap835.length c838, .slice p843 mk841.length c844, .slice p849 mk847.length c850, .slice p1103 out1093.length c1104]⟩ 28 (0, 0)) (by kernel_rfl)) (by kernel_rfl) (by kernel_rfl) (by kernel_rfl)) (RVs_cons (RV_tmp (by kernel_rfl)) RVs_nil)) ?_
        exact ⟨p837, c838, (g828 2), p843, c844, (g828 3), p849, c850, (g828 4), p1103, c1104, sg1105, sg1106, rfl, ho840, ho846, ho852, ho1107, M1201.pick [1, 2, 3, 5, 6] (by kernel_rfl)⟩
theorem c_l_eqRoute (w : World) (x1293 : Route) (x1294 : Route) {r : Bool} (hm : M.l_eqRoute x1293 x1294 = some r) :
    Calls Try.prog 18 #[.agg #[.int .i64 x1293.Priority, .int .i64 x1293.Target], .agg #[.int .i64 x1294.Priority, .int .i64 x1294.Target]] w fun e w' => e = .returned (.bool r) ∧ Mem [] w w' [] := by
  unfold M.l_eqRoute at hm
  refine C_enter Try.func18 rfl (by kernel_rfl) ?_
  have M0 := Mem.refl [] w
  refine G_seq ?_
  refine G_region ?_
  refine W_new (fun b => .pointer (some ⟨b, 0, none⟩)) (.cells ⟨[.int .i64 x1293.Priority, .int .i64 x1293.Target]⟩ 48 (0, 0)) M0 rfl (by kernel_rfl) (by kernel_rfl) ?_
  intro b1296 w1297 M1298
  refine W_new (fun b => .pointer (some ⟨b, 0, none⟩)) (.cells ⟨[.int .i64 x1294.Priority, .int .i64 x1294.Target]⟩ 48 (0, 0)) M1298 rfl (by kernel_rfl) (by kernel_rfl) ?_
  intro b1300 w1301 M1302
  refine W_run 1 [(2, .pointer (some ⟨b1296, 0, none⟩)), (3, .pointer (some ⟨b1300, 0, none⟩))] w1301 (by kernel_rfl) ?_
  refine W_nil ?_
  refine N_then ?_
  refine G_seq ?_
  refine G_seq ?_
  refine G_region ?_
  refine W_run 1 [(2, .pointer (some ⟨b1296, 0, none⟩)), (3, .pointer (some ⟨b1300, 0, none⟩)), (5, .pointer (some ⟨b1296, 0, none⟩))] w1301 (by kernel_rfl) ?_
  refine W_val (.int .i64 x1293.Priority) w1301 (by kernel_rfl) (E_load (e := 48) (fr := (0, 0)) _ _ false 1 b1296 0 [.int .i64 x1293.Priority, .int .i64 x1293.Target] (.int .i64 x1293.Priority) rfl (by kernel_rfl) (by kernel_rfl) (by kernel_rfl) (M1302.blk 0 (b := b1296) (o := .cells ⟨[.int .i64 x1293.Priority, .int .i64 x1293.Target]⟩ 48 (0, 0)) (by kernel_rfl))) ?_
  refine W_run 1 [(2, .pointer (some ⟨b1296, 0, none⟩)), (3, .pointer (some ⟨b1300, 0, none⟩)), (6, .int .i64 x1293.Priority), (7, .pointer (some ⟨b1300, 0, none⟩))] w1301 (by kernel_rfl) ?_
  refine W_val (.int .i64 x1294.Priority) w1301 (by kernel_rfl) (E_load (e := 48) (fr := (0, 0)) _ _ false 1 b1300 0 [.int .i64 x1294.Priority, .int .i64 x1294.Target] (.int .i64 x1294.Priority) rfl (by kernel_rfl) (by kernel_rfl) (by kernel_rfl) (M1302.blk 1 (b := b1300) (o := .cells ⟨[.int .i64 x1294.Priority, .int .i64 x1294.Target]⟩ 48 (0, 0)) (by kernel_rfl))) ?_
  refine W_run 1 [(2, .pointer (some ⟨b1296, 0, none⟩)), (3, .pointer (some ⟨b1300, 0, none⟩)), (9, .bool (x1293.Priority != x1294.Priority))] w1301 (by kernel_rfl) ?_
  refine W_nil ?_
  refine N_then ?_
  rcases gx_bif hm with ⟨hc1303, hm⟩ | ⟨hc1303, hm⟩
  · refine G_cond_t (b := (x1293.Priority != x1294.Priority)) hc1303 (by kernel_rfl) ?_
    refine G_seq ?_
    refine G_region ?_
    refine W_run 1 [(4, .bool false)] w1301 (by kernel_rfl) ?_
    refine W_nil ?_
    refine N_then ?_
    refine G_ret ?_
    refine N_then_ret ?_
    obtain rfl := Option.some.inj hm
    refine N_ret [.bool false] (RVs_cons (RV_tmp (by kernel_rfl)) RVs_nil) ?_
    exact ⟨rfl, M1302.pick [] (by kernel_rfl)⟩
  · refine G_cond_f (b := (x1293.Priority != x1294.Priority)) hc1303 (by kernel_rfl) ?_
    refine G_skip ?_
    refine N_then ?_
    refine G_seq ?_
    refine G_seq ?_
    refine G_region ?_
    refine W_run 1 [(3, .pointer (some ⟨b1300, 0, none⟩)), (10, .pointer (some ⟨b1296, 1, none⟩))] w1301 (by kernel_rfl) ?_
    refine W_val (.int .i64 x1293.Target) w1301 (by kernel_rfl) (E_load (e := 48) (fr := (0, 0)) _ _ false 1 b1296 1 [.int .i64 x1293.Priority, .int .i64 x1293.Target] (.int .i64 x1293.Target) rfl (by kernel_rfl) (by kernel_rfl) (by kernel_rfl) (M1302.blk 0 (b := b1296) (o := .cells ⟨[.int .i64 x1293.Priority, .int .i64 x1293.Target]⟩ 48 (0, 0)) (by kernel_rfl))) ?_
    refine W_run 1 [(11, .int .i64 x1293.Target), (12, .pointer (some ⟨b1300, 1, none⟩))] w1301 (by kernel_rfl) ?_
    refine W_val (.int .i64 x1294.Target) w1301 (by kernel_rfl) (E_load (e := 48) (fr := (0, 0)) _ _ false 1 b1300 1 [.int .i64 x1294.Priority, .int .i64 x1294.Target] (.int .i64 x1294.Target) rfl (by kernel_rfl) (by kernel_rfl) (by kernel_rfl) (M1302.blk 1 (b := b1300) (o := .cells ⟨[.int .i64 x1294.Priority, .int .i64 x1294.Target]⟩ 48 (0, 0)) (by kernel_rfl))) ?_
    refine W_run 1 [(14, .bool (x1293.Target != x1294.Target))] w1301 (by kernel_rfl) ?_
    refine W_nil ?_
    refine N_then ?_
    rcases gx_bif hm with ⟨hc1304, hm⟩ | ⟨hc1304, hm⟩
    · refine G_cond_t (b := (x1293.Target != x1294.Target)) hc1304 (by kernel_rfl) ?_
      refine G_seq ?_
      refine G_region ?_
      refine W_run 1 [(4, .bool false)] w1301 (by kernel_rfl) ?_
      refine W_nil ?_
      refine N_then ?_
      refine G_ret ?_
      refine N_then_ret ?_
      obtain rfl := Option.some.inj hm
      refine N_ret [.bool false] (RVs_cons (RV_tmp (by kernel_rfl)) RVs_nil) ?_
      exact ⟨rfl, M1302.pick [] (by kernel_rfl)⟩
    · refine G_cond_f (b := (x1293.Target != x1294.Target)) hc1304 (by kernel_rfl) ?_
      refine G_skip ?_
      refine N_then ?_
      refine G_seq ?_
      refine G_region ?_
      refine W_run 1 [(4, .bool true)] w1301 (by kernel_rfl) ?_
      refine W_nil ?_
      refine N_then ?_
      refine G_ret ?_
      obtain rfl := Option.some.inj hm
      refine N_ret [.bool true] (RVs_cons (RV_tmp (by kernel_rfl)) RVs_nil) ?_
      exact ⟨rfl, M1302.pick [] (by kernel_rfl)⟩
theorem c_l_eqRouteS (w : World) (x1279 : List Route) (p1281 : Option Addr) (c1282 : Nat) (h1283 : rdS encRoute w x1279 p1281 c1282) (x1284 : List Route) (p1286 : Option Addr) (c1287 : Nat) (h1288 : rdS encRoute w x1284 p1286 c1287) {r : Bool} (hm : M.l_eqRouteS x1279 x1284 = some r) :
    Calls Try.prog 9 #[.slice p1281 x1279.length c1282, .slice p1286 x1284.length c1287] w fun e w' => e = .returned (.bool r) ∧ Mem [] w w' [] := by
  unfold M.l_eqRouteS at hm
  refine C_enter Try.func9 rfl (by kernel_rfl) ?_
  have M0 := Mem.refl [] w
  refine G_seq ?_
  refine G_region ?_
  refine W_run 1 [(0, .slice p1281 x1279.length c1282), (1, .slice p1286 x1284.length c1287)] w (by kernel_rfl) ?_
  refine W_nil ?_
  refine N_then ?_
  refine G_seq ?_
  refine G_seq ?_
  refine G_region ?_
  refine W_run 5 [(0, .slice p1281 x1279.length c1282), (1, .slice p1286 x1284.length c1287), (10, .bool ((x1279.length : Int) != (x1284.length : Int)))] w (by kernel_rfl) ?_
  refine W_nil ?_
  refine N_then ?_
  rcases gx_bif hm with ⟨hc1289, hm⟩ | ⟨hc1289, hm⟩
  · refine G_cond_t (b := ((x1279.length : Int) != (x1284.length : Int))) hc1289 (by kernel_rfl) ?_
    refine G_seq ?_
    refine G_region ?_
    refine W_run 1 [(4, .bool false)] w (by kernel_rfl) ?_
    refine W_nil ?_
    refine N_then ?_
    refine G_ret ?_
    refine N_then_ret ?_
    obtain rfl := Option.some.inj hm
    refine N_ret [.bool false] (RVs_cons (RV_tmp (by kernel_rfl)) RVs_nil) ?_
    exact ⟨rfl, M0.pick [] (by kernel_rfl)⟩
  · refine G_cond_f (b := ((x1279.length : Int) != (x1284.length : Int))) hc1289 (by kernel_rfl) ?_
    refine G_skip ?_
    refine N_then ?_
    refine G_seq ?_
    refine G_seq ?_
    refine G_region ?_
    refine W_run 1 [(0, .slice p1281 x1279.length c1282), (1, .slice p1286 x1284.length c1287), (5, .int .i64 0)] w (by kernel_rfl) ?_
    refine W_nil ?_
    refine N_then ?_
    obtain ⟨out1329, hw1330, hmo1331⟩ := gx_bind hm
    refine G_meet (fun a w' => ∃ (o1332 : Unit), out1329 = .inl o1332 ∧ Mem [] w w' [] ∧ Sat Try.f9.ntmps [] a) ?_ ?_
    · refine G_block ?_
      refine G_while (σ := Int) (ρ := (Unit) ⊕ (Bool)) (fun s1322 a w' => Mem [] w w' [] ∧ Sat Try.f9.ntmps [(0, .slice p1281 x1279.length c1282), (1, .slice p1286 x1284.length c1287), (5, .int .i64 s1322)] a) hw1330 (fun a ha => ⟨M0.pick [] (by kernel_rfl), ha.sub (by kernel_rfl)⟩) ?_
      clear hm
      intro s1322 x1323 hm hout1324 a1325 w1326 ⟨M1327, hS1328⟩
      refine G_use hS1328 ?_
      refine G_seq ?_
      refine G_seq ?_
      refine G_region ?_
      refine W_run 4 [(0, .slice p1281 x1279.length c1282), (1, .slice p1286 x1284.length c1287), (5, .int .i64 s1322), (14, .bool (decide (s1322 < (x1279.length : Int))))] w1326 (by kernel_rfl) ?_
      refine W_nil ?_
      refine N_then ?_
      rcases gx_bif hm with ⟨hc1333, hm⟩ | ⟨hc1333, hm⟩
      · refine G_cond_t (b := (decide (s1322 < (x1279.length : Int)))) hc1333 (by kernel_rfl) ?_
        refine G_skip ?_
        refine N_then ?_
        refine G_seq ?_
        refine G_block ?_
        refine G_seq ?_
        refine G_quiet (by kernel_rfl) (by kernel_rfl) M1327 ?_
        refine Z_runs [.slice p1281 x1279.length c1282, .int .i64 s1322] [(0, .slice p1281 x1279.length c1282), (1, .slice p1286 x1284.length c1287), (5, .int .i64 s1322), (17, .slice p1281 x1279.length c1282), (18, .int .i64 s1322)] (fun w_ => by kernel_rfl) (by kernel_rfl) ?_
        obtain ⟨y1334, hy1334, hm⟩ := gx_bind hm
        refine Z_val (elemP p1281 (s1322.toNat * 2)) (by kernel_rfl) (fun w_ M_ => (E_index (E := encRoute) _ _ _ x1279.length c1282 .i64 s1322 2 (y := y1334) rfl (by kernel_rfl) (by kernel_rfl) (by kernel_rfl) (h1283.mem0 M_) rfl hy1334)) ?_
        refine Z_val (.agg #[.int .i64 y1334.Priority, .int .i64 y1334.Target]) (by kernel_rfl) (fun w_ M_ => (E_loadE (E := encRoute) _ _ true 2 s1322 0 (s1322.toNat * 2) y1334 (.agg #[.int .i64 y1334.Priority, .int .i64 y1334.Target]) rfl (by kernel_rfl) (by kernel_rfl) (by kernel_rfl) (h1283.mem0 M_) hy1334 rfl)) ?_
        refine Z_runs [.slice p1286 x1284.length c1287, .int .i64 s1322] [(0, .slice p1281 x1279.length c1282), (1, .slice p1286 x1284.length c1287), (5, .int .i64 s1322), (20, .agg #[.int .i64 y1334.Priority, .int .i64 y1334.Target]), (21, .slice p1286 x1284.length c1287), (22, .int .i64 s1322)] (fun w_ => by kernel_rfl) (by kernel_rfl) ?_
        obtain ⟨y1335, hy1335, hm⟩ := gx_bind hm
        refine Z_val (elemP p1286 (s1322.toNat * 2)) (by kernel_rfl) (fun w_ M_ => (E_index (E := encRoute) _ _ _ x1284.length c1287 .i64 s1322 2 (y := y1335) rfl (by kernel_rfl) (by kernel_rfl) (by kernel_rfl) (h1288.mem0 M_) rfl hy1335)) ?_
        refine Z_val (.agg #[.int .i64 y1335.Priority, .int .i64 y1335.Target]) (by kernel_rfl) (fun w_ M_ => (E_loadE (E := encRoute) _ _ true 2 s1322 0 (s1322.toNat * 2) y1335 (.agg #[.int .i64 y1335.Priority, .int .i64 y1335.Target]) rfl (by kernel_rfl) (by kernel_rfl) (by kernel_rfl) (h1288.mem0 M_) hy1335 rfl)) ?_
        obtain ⟨r1336, hr1336, hm⟩ := gx_bind hm
        refine Z_call 18 #[.agg #[.int .i64 y1334.Priority, .int .i64 y1334.Target], .agg #[.int .i64 y1335.Priority, .int .i64 y1335.Target]] (.bool r1336) (by kernel_rfl) (fun w_ => by kernel_rfl) (fun w_ M_ => (c_l_eqRoute w_ y1334 y1335 hr1336).mono fun e w2_ h_ => ⟨h_.1, M_.call0 h_.2⟩) ?_
        refine Z_runs [.bool (!r1336)] [(0, .slice p1281 x1279.length c1282), (1, .slice p1286 x1284.length c1287), (5, .int .i64 s1322), (26, .bool (!r1336))] (fun w_ => by kernel_rfl) (by kernel_rfl) ?_
        refine Z_end fun w1340 M1341 => ?_
        refine N_then ?_
        rcases gx_bif hm with ⟨hc1342, hm⟩ | ⟨hc1342, hm⟩
        · refine G_cond_t (b := (!r1336)) hc1342 (by kernel_rfl) ?_
          refine G_seq ?_
          refine G_region ?_
          refine W_run 1 [(4, .bool false)] w1340 (by kernel_rfl) ?_
          refine W_nil ?_
          refine N_then ?_
          refine G_ret ?_
          refine N_block_ret ?_
          refine N_then_ret ?_
          refine N_then_ret ?_
          obtain rfl := Option.some.inj hm
          obtain rfl := hout1324 _ rfl
          have hm := hmo1331; simp only [Sum.elim_inr] at hm
          refine N_block_ret ?_
          refine N_meet_ret ?_
          refine N_then_ret ?_
          obtain rfl := Option.some.inj hm
          refine N_ret [.bool false] (RVs_cons (RV_tmp (by kernel_rfl)) RVs_nil) ?_
          exact ⟨rfl, M1341.pick [] (by kernel_rfl)⟩
        · refine G_cond_f (b := (!r1336)) hc1342 (by kernel_rfl) ?_
          refine G_skip ?_
          refine N_block ?_
          refine N_then ?_
          refine G_region ?_
          refine W_run 3 [(0, .slice p1281 x1279.length c1282), (1, .slice p1286 x1284.length c1287), (5, .int .i64 (w64 (s1322 + 1)))] w1340 (by kernel_rfl) ?_
          refine W_nil ?_
          obtain rfl := Option.some.inj hm
          exact N_loop fun a ha => ⟨_, rfl, M1341.pick [] (by kernel_rfl), ha.sub (by kernel_rfl)⟩
      · refine G_cond_f (b := (decide (s1322 < (x1279.length : Int)))) hc1333 (by kernel_rfl) ?_
        refine G_exit ?_
        refine N_then_exit ?_
        refine N_then_exit ?_
        refine N_block_eq ?_
        obtain rfl := Option.some.inj hm
        obtain rfl := hout1324 _ rfl
        exact N_meet fun a ha => ⟨_, rfl, M1327.pick [] (by kernel_rfl), ha.sub (by kernel_rfl)⟩
    · intro a1343 w1344 ⟨o1332, hout_, M1345, hS1346⟩
      refine N_use hS1346 ?_
      subst hout_
      have hm := hmo1331; simp only [Sum.elim_inl] at hm
      refine N_then ?_
      refine G_seq ?_
      refine G_region ?_
      refine W_run 1 [(4, .bool true)] w1344 (by kernel_rfl) ?_
      refine W_nil ?_
      refine N_then ?_
      refine G_ret ?_
      obtain rfl := Option.some.inj hm
      refine N_ret [.bool true] (RVs_cons (RV_tmp (by kernel_rfl)) RVs_nil) ?_
      exact ⟨rfl, M1345.pick [] (by kernel_rfl)⟩
theorem c_l_eqBoolS (w : World) (x1352 : List Bool) (p1354 : Option Addr) (c1355 : Nat) (h1356 : rdS encB w x1352 p1354 c1355) (x1357 : List Bool) (p1359 : Option Addr) (c1360 : Nat) (h1361 : rdS encB w x1357 p1359 c1360) {r : Bool} (hm : M.l_eqBoolS x1352 x1357 = some r) :
    Calls Try.prog 16 #[.slice p1354 x1352.length c1355, .slice p1359 x1357.length c1360] w fun e w' => e = .returned (.bool r) ∧ Mem [] w w' [] := by
  unfold M.l_eqBoolS at hm
  refine C_enter Try.func16 rfl (by kernel_rfl) ?_
  have M0 := Mem.refl [] w
  refine G_seq ?_
  refine G_region ?_
  refine W_run 1 [(0, .slice p1354 x1352.length c1355), (1, .slice p1359 x1357.length c1360)] w (by kernel_rfl) ?_
  refine W_nil ?_
  refine N_then ?_
  refine G_seq ?_
  refine G_seq ?_
  refine G_region ?_
  refine W_run 5 [(0, .slice p1354 x1352.length c1355), (1, .slice p1359 x1357.length c1360), (10, .bool ((x1352.length : Int) != (x1357.length : Int)))] w (by kernel_rfl) ?_
  refine W_nil ?_
  refine N_then ?_
  rcases gx_bif hm with ⟨hc1362, hm⟩ | ⟨hc1362, hm⟩
  · refine G_cond_t (b := ((x1352.length : Int) != (x1357.length : Int))) hc1362 (by kernel_rfl) ?_
    refine G_seq ?_
    refine G_region ?_
    refine W_run 1 [(4, .bool false)] w (by kernel_rfl) ?_
    refine W_nil ?_
    refine N_then ?_
    refine G_ret ?_
    refine N_then_ret ?_
    obtain rfl := Option.some.inj hm
    refine N_ret [.bool false] (RVs_cons (RV_tmp (by kernel_rfl)) RVs_nil) ?_
    exact ⟨rfl, M0.pick [] (by kernel_rfl)⟩
  · refine G_cond_f (b := ((x1352.length : Int) != (x1357.length : Int))) hc1362 (by kernel_rfl) ?_
    refine G_skip ?_
    refine N_then ?_
    refine G_seq ?_
    refine G_seq ?_
    refine G_region ?_
    refine W_run 1 [(0, .slice p1354 x1352.length c1355), (1, .slice p1359 x1357.length c1360), (5, .int .i64 0)] w (by kernel_rfl) ?_
    refine W_nil ?_
    refine N_then ?_
    obtain ⟨out1382, hw1383, hmo1384⟩ := gx_bind hm
    refine G_meet (fun a w' => ∃ (o1385 : Unit), out1382 = .inl o1385 ∧ Mem [] w w' [] ∧ Sat Try.f16.ntmps [] a) ?_ ?_
    · refine G_block ?_
      refine G_while (σ := Int) (ρ := (Unit) ⊕ (Bool)) (fun s1375 a w' => Mem [] w w' [] ∧ Sat Try.f16.ntmps [(0, .slice p1354 x1352.length c1355), (1, .slice p1359 x1357.length c1360), (5, .int .i64 s1375)] a) hw1383 (fun a ha => ⟨M0.pick [] (by kernel_rfl), ha.sub (by kernel_rfl)⟩) ?_
      clear hm
      intro s1375 x1376 hm hout1377 a1378 w1379 ⟨M1380, hS1381⟩
      refine G_use hS1381 ?_
      refine G_seq ?_
      refine G_seq ?_
      refine G_region ?_
      refine W_run 4 [(0, .slice p1354 x1352.length c1355), (1, .slice p1359 x1357.length c1360), (5, .int .i64 s1375), (14, .bool (decide (s1375 < (x1352.length : Int))))] w1379 (by kernel_rfl) ?_
      refine W_nil ?_
      refine N_then ?_
      rcases gx_bif hm with ⟨hc1386, hm⟩ | ⟨hc1386, hm⟩
      · refine G_cond_t (b := (decide (s1375 < (x1352.length : Int)))) hc1386 (by kernel_rfl) ?_
        refine G_skip ?_
        refine N_then ?_
        refine G_seq ?_
        refine G_block ?_
        refine G_seq ?_
        refine G_quiet (by kernel_rfl) (by kernel_rfl) M1380 ?_
        refine Z_runs [.slice p1354 x1352.length c1355, .int .i64 s1375] [(0, .slice p1354 x1352.length c1355), (1, .slice p1359 x1357.length c1360), (5, .int .i64 s1375), (17, .slice p1354 x1352.length c1355), (18, .int .i64 s1375)] (fun w_ => by kernel_rfl) (by kernel_rfl) ?_
        obtain ⟨y1387, hy1387, hm⟩ := gx_bind hm
        refine Z_val (elemP p1354 (s1375.toNat * 1)) (by kernel_rfl) (fun w_ M_ => (E_index (E := encB) _ _ _ x1352.length c1355 .i64 s1375 1 (y := y1387) rfl (by kernel_rfl) (by kernel_rfl) (by kernel_rfl) (h1356.mem0 M_) rfl hy1387)) ?_
        refine Z_val (.bool y1387) (by kernel_rfl) (fun w_ M_ => (E_loadE (E := encB) _ _ false 1 s1375 0 (s1375.toNat * 1) y1387 (.bool y1387) rfl (by kernel_rfl) (by kernel_rfl) (by kernel_rfl) (h1356.mem0 M_) hy1387 rfl)) ?_
        refine Z_runs [.slice p1359 x1357.length c1360, .int .i64 s1375] [(0, .slice p1354 x1352.length c1355), (1, .slice p1359 x1357.length c1360), (5, .int .i64 s1375), (20, .bool y1387), (21, .slice p1359 x1357.length c1360), (22, .int .i64 s1375)] (fun w_ => by kernel_rfl) (by kernel_rfl) ?_
        obtain ⟨y1388, hy1388, hm⟩ := gx_bind hm
        refine Z_val (elemP p1359 (s1375.toNat * 1)) (by kernel_rfl) (fun w_ M_ => (E_index (E := encB) _ _ _ x1357.length c1360 .i64 s1375 1 (y := y1388) rfl (by kernel_rfl) (by kernel_rfl) (by kernel_rfl) (h1361.mem0 M_) rfl hy1388)) ?_
        refine Z_val (.bool y1388) (by kernel_rfl) (fun w_ M_ => (E_loadE (E := encB) _ _ false 1 s1375 0 (s1375.toNat * 1) y1388 (.bool y1388) rfl (by kernel_rfl) (by kernel_rfl) (by kernel_rfl) (h1361.mem0 M_) hy1388 rfl)) ?_
        refine Z_runs [.bool (!(y1387 == y1388))] [(0, .slice p1354 x1352.length c1355), (1, .slice p1359 x1357.length c1360), (5, .int .i64 s1375), (25, .bool (!(y1387 == y1388)))] (fun w_ => by kernel_rfl) (by kernel_rfl) ?_
        refine Z_end fun w1389 M1390 => ?_
        refine N_then ?_
        rcases gx_bif hm with ⟨hc1391, hm⟩ | ⟨hc1391, hm⟩
        · refine G_cond_t (b := (!(y1387 == y1388))) hc1391 (by kernel_rfl) ?_
          refine G_seq ?_
          refine G_region ?_
          refine W_run 1 [(4, .bool false)] w1389 (by kernel_rfl) ?_
          refine W_nil ?_
          refine N_then ?_
          refine G_ret ?_
          refine N_block_ret ?_
          refine N_then_ret ?_
          refine N_then_ret ?_
          obtain rfl := Option.some.inj hm
          obtain rfl := hout1377 _ rfl
          have hm := hmo1384; simp only [Sum.elim_inr] at hm
          refine N_block_ret ?_
          refine N_meet_ret ?_
          refine N_then_ret ?_
          obtain rfl := Option.some.inj hm
          refine N_ret [.bool false] (RVs_cons (RV_tmp (by kernel_rfl)) RVs_nil) ?_
          exact ⟨rfl, M1390.pick [] (by kernel_rfl)⟩
        · refine G_cond_f (b := (!(y1387 == y1388))) hc1391 (by kernel_rfl) ?_
          refine G_skip ?_
          refine N_block ?_
          refine N_then ?_
          refine G_region ?_
          refine W_run 3 [(0, .slice p1354 x1352.length c1355), (1, .slice p1359 x1357.length c1360), (5, .int .i64 (w64 (s1375 + 1)))] w1389 (by kernel_rfl) ?_
          refine W_nil ?_
          obtain rfl := Option.some.inj hm
          exact N_loop fun a ha => ⟨_, rfl, M1390.pick [] (by kernel_rfl), ha.sub (by kernel_rfl)⟩
      · refine G_cond_f (b := (decide (s1375 < (x1352.length : Int)))) hc1386 (by kernel_rfl) ?_
        refine G_exit ?_
        refine N_then_exit ?_
        refine N_then_exit ?_
        refine N_block_eq ?_
        obtain rfl := Option.some.inj hm
        obtain rfl := hout1377 _ rfl
        exact N_meet fun a ha => ⟨_, rfl, M1380.pick [] (by kernel_rfl), ha.sub (by kernel_rfl)⟩
    · intro a1392 w1393 ⟨o1385, hout_, M1394, hS1395⟩
      refine N_use hS1395 ?_
      subst hout_
      have hm := hmo1384; simp only [Sum.elim_inl] at hm
      refine N_then ?_
      refine G_seq ?_
      refine G_region ?_
      refine W_run 1 [(4, .bool true)] w1393 (by kernel_rfl) ?_
      refine W_nil ?_
      refine N_then ?_
      refine G_ret ?_
      obtain rfl := Option.some.inj hm
      refine N_ret [.bool true] (RVs_cons (RV_tmp (by kernel_rfl)) RVs_nil) ?_
      exact ⟨rfl, M1394.pick [] (by kernel_rfl)⟩
theorem c_l_eqIntS (w : World) (x1473 : List Int) (p1475 : Option Addr) (c1476 : Nat) (h1477 : rdS encI w x1473 p1475 c1476) (x1478 : List Int) (p1480 : Option Addr) (c1481 : Nat) (h1482 : rdS encI w x1478 p1480 c1481) {r : Bool} (hm : M.l_eqIntS x1473 x1478 = some r) :
    Calls Try.prog 38 #[.slice p1475 x1473.length c1476, .slice p1480 x1478.length c1481] w fun e w' => e = .returned (.bool r) ∧ Mem [] w w' [] := by
  unfold M.l_eqIntS at hm
  refine C_enter Try.func38 rfl (by kernel_rfl) ?_
  have M0 := Mem.refl [] w
  refine G_seq ?_
  refine G_region ?_
  refine W_run 1 [(0, .slice p1475 x1473.length c1476), (1, .slice p1480 x1478.length c1481)] w (by kernel_rfl) ?_
  refine W_nil ?_
  refine N_then ?_
  refine G_seq ?_
  refine G_seq ?_
  refine G_region ?_
  refine W_run 5 [(0, .slice p1475 x1473.length c1476), (1, .slice p1480 x1478.length c1481), (10, .bool ((x1473.length : Int) != (x1478.length : Int)))] w (by kernel_rfl) ?_
  refine W_nil ?_
  refine N_then ?_
  rcases gx_bif hm with ⟨hc1483, hm⟩ | ⟨hc1483, hm⟩
  · refine G_cond_t (b := ((x1473.length : Int) != (x1478.length : Int))) hc1483 (by kernel_rfl) ?_
    refine G_seq ?_
    refine G_region ?_
    refine W_run 1 [(4, .bool false)] w (by kernel_rfl) ?_
    refine W_nil ?_
    refine N_then ?_
    refine G_ret ?_
    refine N_then_ret ?_
    obtain rfl := Option.some.inj hm
    refine N_ret [.bool false] (RVs_cons (RV_tmp (by kernel_rfl)) RVs_nil) ?_
    exact ⟨rfl, M0.pick [] (by kernel_rfl)⟩
  · refine G_cond_f (b := ((x1473.length : Int) != (x1478.length : Int))) hc1483 (by kernel_rfl) ?_
    refine G_skip ?_
    refine N_then ?_
    refine G_seq ?_
    refine G_seq ?_
    refine G_region ?_
    refine W_run 1 [(0, .slice p1475 x1473.length c1476), (1, .slice p1480 x1478.length c1481), (5, .int .i64 0)] w (by kernel_rfl) ?_
    refine W_nil ?_
    refine N_then ?_
    obtain ⟨out1503, hw1504, hmo1505⟩ := gx_bind hm
    refine G_meet (fun a w' => ∃ (o1506 : Unit), out1503 = .inl o1506 ∧ Mem [] w w' [] ∧ Sat Try.f38.ntmps [] a) ?_ ?_
    · refine G_block ?_
      refine G_while (σ := Int) (ρ := (Unit) ⊕ (Bool)) (fun s1496 a w' => Mem [] w w' [] ∧ Sat Try.f38.ntmps [(0, .slice p1475 x1473.length c1476), (1, .slice p1480 x1478.length c1481), (5, .int .i64 s1496)] a) hw1504 (fun a ha => ⟨M0.pick [] (by kernel_rfl), ha.sub (by kernel_rfl)⟩) ?_
      clear hm
      intro s1496 x1497 hm hout1498 a1499 w1500 ⟨M1501, hS1502⟩
      refine G_use hS1502 ?_
      refine G_seq ?_
      refine G_seq ?_
      refine G_region ?_
      refine W_run 4 [(0, .slice p1475 x1473.length c1476), (1, .slice p1480 x1478.length c1481), (5, .int .i64 s1496), (14, .bool (decide (s1496 < (x1473.length : Int))))] w1500 (by kernel_rfl) ?_
      refine W_nil ?_
      refine N_then ?_
      rcases gx_bif hm with ⟨hc1507, hm⟩ | ⟨hc1507, hm⟩
      · refine G_cond_t (b := (decide (s1496 < (x1473.length : Int)))) hc1507 (by kernel_rfl) ?_
        refine G_skip ?_
        refine N_then ?_
        refine G_seq ?_
        refine G_block ?_
        refine G_seq ?_
        refine G_quiet (by kernel_rfl) (by kernel_rfl) M1501 ?_
        refine Z_runs [.slice p1475 x1473.length c1476, .int .i64 s1496] [(0, .slice p1475 x1473.length c1476), (1, .slice p1480 x1478.length c1481), (5, .int .i64 s1496), (17, .slice p1475 x1473.length c1476), (18, .int .i64 s1496)] (fun w_ => by kernel_rfl) (by kernel_rfl) ?_
        obtain ⟨y1508, hy1508, hm⟩ := gx_bind hm
        refine Z_val (elemP p1475 (s1496.toNat * 1)) (by kernel_rfl) (fun w_ M_ => (E_index (E := encI) _ _ _ x1473.length c1476 .i64 s1496 1 (y := y1508) rfl (by kernel_rfl) (by kernel_rfl) (by kernel_rfl) (h1477.mem0 M_) rfl hy1508)) ?_
        refine Z_val (.int .i64 y1508) (by kernel_rfl) (fun w_ M_ => (E_loadE (E := encI) _ _ false 1 s1496 0 (s1496.toNat * 1) y1508 (.int .i64 y1508) rfl (by kernel_rfl) (by kernel_rfl) (by kernel_rfl) (h1477.mem0 M_) hy1508 rfl)) ?_
        refine Z_runs [.slice p1480 x1478.length c1481, .int .i64 s1496] [(0, .slice p1475 x1473.length c1476), (1, .slice p1480 x1478.length c1481), (5, .int .i64 s1496), (20, .int .i64 y1508), (21, .slice p1480 x1478.length c1481), (22, .int .i64 s1496)] (fun w_ => by kernel_rfl) (by kernel_rfl) ?_
        obtain ⟨y1509, hy1509, hm⟩ := gx_bind hm
        refine Z_val (elemP p1480 (s1496.toNat * 1)) (by kernel_rfl) (fun w_ M_ => (E_index (E := encI) _ _ _ x1478.length c1481 .i64 s1496 1 (y := y1509) rfl (by kernel_rfl) (by kernel_rfl) (by kernel_rfl) (h1482.mem0 M_) rfl hy1509)) ?_
        refine Z_val (.int .i64 y1509) (by kernel_rfl) (fun w_ M_ => (E_loadE (E := encI) _ _ false 1 s1496 0 (s1496.toNat * 1) y1509 (.int .i64 y1509) rfl (by kernel_rfl) (by kernel_rfl) (by kernel_rfl) (h1482.mem0 M_) hy1509 rfl)) ?_
        refine Z_runs [.bool (y1508 != y1509)] [(0, .slice p1475 x1473.length c1476), (1, .slice p1480 x1478.length c1481), (5, .int .i64 s1496), (25, .bool (y1508 != y1509))] (fun w_ => by kernel_rfl) (by kernel_rfl) ?_
        refine Z_end fun w1510 M1511 => ?_
        refine N_then ?_
        rcases gx_bif hm with ⟨hc1512, hm⟩ | ⟨hc1512, hm⟩
        · refine G_cond_t (b := (y1508 != y1509)) hc1512 (by kernel_rfl) ?_
          refine G_seq ?_
          refine G_region ?_
          refine W_run 1 [(4, .bool false)] w1510 (by kernel_rfl) ?_
          refine W_nil ?_
          refine N_then ?_
          refine G_ret ?_
          refine N_block_ret ?_
          refine N_then_ret ?_
          refine N_then_ret ?_
          obtain rfl := Option.some.inj hm
          obtain rfl := hout1498 _ rfl
          have hm := hmo1505; simp only [Sum.elim_inr] at hm
          refine N_block_ret ?_
          refine N_meet_ret ?_
          refine N_then_ret ?_
          obtain rfl := Option.some.inj hm
          refine N_ret [.bool false] (RVs_cons (RV_tmp (by kernel_rfl)) RVs_nil) ?_
          exact ⟨rfl, M1511.pick [] (by kernel_rfl)⟩
        · refine G_cond_f (b := (y1508 != y1509)) hc1512 (by kernel_rfl) ?_
          refine G_skip ?_
          refine N_block ?_
          refine N_then ?_
          refine G_region ?_
          refine W_run 3 [(0, .slice p1475 x1473.length c1476), (1, .slice p1480 x1478.length c1481), (5, .int .i64 (w64 (s1496 + 1)))] w1510 (by kernel_rfl) ?_
          refine W_nil ?_
          obtain rfl := Option.some.inj hm
          exact N_loop fun a ha => ⟨_, rfl, M1511.pick [] (by kernel_rfl), ha.sub (by kernel_rfl)⟩
      · refine G_cond_f (b := (decide (s1496 < (x1473.length : Int)))) hc1507 (by kernel_rfl) ?_
        refine G_exit ?_
        refine N_then_exit ?_
        refine N_then_exit ?_
        refine N_block_eq ?_
        obtain rfl := Option.some.inj hm
        obtain rfl := hout1498 _ rfl
        exact N_meet fun a ha => ⟨_, rfl, M1501.pick [] (by kernel_rfl), ha.sub (by kernel_rfl)⟩
    · intro a1513 w1514 ⟨o1506, hout_, M1515, hS1516⟩
      refine N_use hS1516 ?_
      subst hout_
      have hm := hmo1505; simp only [Sum.elim_inl] at hm
      refine N_then ?_
      refine G_seq ?_
      refine G_region ?_
      refine W_run 1 [(4, .bool true)] w1514 (by kernel_rfl) ?_
      refine W_nil ?_
      refine N_then ?_
      refine G_ret ?_
      obtain rfl := Option.some.inj hm
      refine N_ret [.bool true] (RVs_cons (RV_tmp (by kernel_rfl)) RVs_nil) ?_
      exact ⟨rfl, M1515.pick [] (by kernel_rfl)⟩
theorem c_l_eqSlot (w : World) (x1562 : Slot) (x1563 : Slot) {r : Bool} (hm : M.l_eqSlot x1562 x1563 = some r) :
    Calls Try.prog 42 #[.agg #[.int .i64 x1562.State, .int .i64 x1562.Irq, .int .i64 x1562.Priority], .agg #[.int .i64 x1563.State, .int .i64 x1563.Irq, .int .i64 x1563.Priority]] w fun e w' => e = .returned (.bool r) ∧ Mem [] w w' [] := by
  unfold M.l_eqSlot at hm
  refine C_enter Try.func42 rfl (by kernel_rfl) ?_
  have M0 := Mem.refl [] w
  refine G_seq ?_
  refine G_region ?_
  refine W_new (fun b => .pointer (some ⟨b, 0, none⟩)) (.cells ⟨[.int .i64 x1562.State, .int .i64 x1562.Irq, .int .i64 x1562.Priority]⟩ 40 (0, 0)) M0 rfl (by kernel_rfl) (by kernel_rfl) ?_
  intro b1565 w1566 M1567
  refine W_new (fun b => .pointer (some ⟨b, 0, none⟩)) (.cells ⟨[.int .i64 x1563.State, .int .i64 x1563.Irq, .int .i64 x1563.Priority]⟩ 40 (0, 0)) M1567 rfl (by kernel_rfl) (by kernel_rfl) ?_
  intro b1569 w1570 M1571
  refine W_run 1 [(2, .pointer (some ⟨b1565, 0, none⟩)), (3, .pointer (some ⟨b1569, 0, none⟩))] w1570 (by kernel_rfl) ?_
  refine W_nil ?_
  refine N_then ?_
  refine G_seq ?_
  refine G_seq ?_
  refine G_region ?_
  refine W_run 1 [(2, .pointer (some ⟨b1565, 0, none⟩)), (3, .pointer (some ⟨b1569, 0, none⟩)), (5, .pointer (some ⟨b1565, 0, none⟩))] w1570 (by kernel_rfl) ?_
  refine W_val (.int .i64 x1562.State) w1570 (by kernel_rfl) (E_load (e := 40) (fr := (0, 0)) _ _ false 1 b1565 0 [.int .i64 x1562.State, .int .i64 x1562.Irq, .int .i64 x1562.Priority] (.int .i64 x1562.State) rfl (by kernel_rfl) (by kernel_rfl) (by kernel_rfl) (M1571.blk 0 (b := b1565) (o := .cells ⟨[.int .i64 x1562.State, .int .i64 x1562.Irq, .int .i64 x1562.Priority]⟩ 40 (0, 0)) (by kernel_rfl))) ?_
  refine W_run 1 [(2, .pointer (some ⟨b1565, 0, none⟩)), (3, .pointer (some ⟨b1569, 0, none⟩)), (6, .int .i64 x1562.State), (7, .pointer (some ⟨b1569, 0, none⟩))] w1570 (by kernel_rfl) ?_
  refine W_val (.int .i64 x1563.State) w1570 (by kernel_rfl) (E_load (e := 40) (fr := (0, 0)) _ _ false 1 b1569 0 [.int .i64 x1563.State, .int .i64 x1563.Irq, .int .i64 x1563.Priority] (.int .i64 x1563.State) rfl (by kernel_rfl) (by kernel_rfl) (by kernel_rfl) (M1571.blk 1 (b := b1569) (o := .cells ⟨[.int .i64 x1563.State, .int .i64 x1563.Irq, .int .i64 x1563.Priority]⟩ 40 (0, 0)) (by kernel_rfl))) ?_
  refine W_run 1 [(2, .pointer (some ⟨b1565, 0, none⟩)), (3, .pointer (some ⟨b1569, 0, none⟩)), (9, .bool (x1562.State != x1563.State))] w1570 (by kernel_rfl) ?_
  refine W_nil ?_
  refine N_then ?_
  rcases gx_bif hm with ⟨hc1572, hm⟩ | ⟨hc1572, hm⟩
  · refine G_cond_t (b := (x1562.State != x1563.State)) hc1572 (by kernel_rfl) ?_
    refine G_seq ?_
    refine G_region ?_
    refine W_run 1 [(4, .bool false)] w1570 (by kernel_rfl) ?_
    refine W_nil ?_
    refine N_then ?_
    refine G_ret ?_
    refine N_then_ret ?_
    obtain rfl := Option.some.inj hm
    refine N_ret [.bool false] (RVs_cons (RV_tmp (by kernel_rfl)) RVs_nil) ?_
    exact ⟨rfl, M1571.pick [] (by kernel_rfl)⟩
  · refine G_cond_f (b := (x1562.State != x1563.State)) hc1572 (by kernel_rfl) ?_
    refine G_skip ?_
    refine N_then ?_
    refine G_seq ?_
    refine G_seq ?_
    refine G_region ?_
    refine W_run 1 [(2, .pointer (some ⟨b1565, 0, none⟩)), (3, .pointer (some ⟨b1569, 0, none⟩)), (10, .pointer (some ⟨b1565, 1, none⟩))] w1570 (by kernel_rfl) ?_
    refine W_val (.int .i64 x1562.Irq) w1570 (by kernel_rfl) (E_load (e := 40) (fr := (0, 0)) _ _ false 1 b1565 1 [.int .i64 x1562.State, .int .i64 x1562.Irq, .int .i64 x1562.Priority] (.int .i64 x1562.Irq) rfl (by kernel_rfl) (by kernel_rfl) (by kernel_rfl) (M1571.blk 0 (b := b1565) (o := .cells ⟨[.int .i64 x1562.State, .int .i64 x1562.Irq, .int .i64 x1562.Priority]⟩ 40 (0, 0)) (by kernel_rfl))) ?_
    refine W_run 1 [(2, .pointer (some ⟨b1565, 0, none⟩)), (3, .pointer (some ⟨b1569, 0, none⟩)), (11, .int .i64 x1562.Irq), (12, .pointer (some ⟨b1569, 1, none⟩))] w1570 (by kernel_rfl) ?_
    refine W_val (.int .i64 x1563.Irq) w1570 (by kernel_rfl) (E_load (e := 40) (fr := (0, 0)) _ _ false 1 b1569 1 [.int .i64 x1563.State, .int .i64 x1563.Irq, .int .i64 x1563.Priority] (.int .i64 x1563.Irq) rfl (by kernel_rfl) (by kernel_rfl) (by kernel_rfl) (M1571.blk 1 (b := b1569) (o := .cells ⟨[.int .i64 x1563.State, .int .i64 x1563.Irq, .int .i64 x1563.Priority]⟩ 40 (0, 0)) (by kernel_rfl))) ?_
    refine W_run 1 [(2, .pointer (some ⟨b1565, 0, none⟩)), (3, .pointer (some ⟨b1569, 0, none⟩)), (14, .bool (x1562.Irq != x1563.Irq))] w1570 (by kernel_rfl) ?_
    refine W_nil ?_
    refine N_then ?_
    rcases gx_bif hm with ⟨hc1573, hm⟩ | ⟨hc1573, hm⟩
    · refine G_cond_t (b := (x1562.Irq != x1563.Irq)) hc1573 (by kernel_rfl) ?_
      refine G_seq ?_
      refine G_region ?_
      refine W_run 1 [(4, .bool false)] w1570 (by kernel_rfl) ?_
      refine W_nil ?_
      refine N_then ?_
      refine G_ret ?_
      refine N_then_ret ?_
      obtain rfl := Option.some.inj hm
      refine N_ret [.bool false] (RVs_cons (RV_tmp (by kernel_rfl)) RVs_nil) ?_
      exact ⟨rfl, M1571.pick [] (by kernel_rfl)⟩
    · refine G_cond_f (b := (x1562.Irq != x1563.Irq)) hc1573 (by kernel_rfl) ?_
      refine G_skip ?_
      refine N_then ?_
      refine G_seq ?_
      refine G_seq ?_
      refine G_region ?_
      refine W_run 1 [(3, .pointer (some ⟨b1569, 0, none⟩)), (15, .pointer (some ⟨b1565, 2, none⟩))] w1570 (by kernel_rfl) ?_
      refine W_val (.int .i64 x1562.Priority) w1570 (by kernel_rfl) (E_load (e := 40) (fr := (0, 0)) _ _ false 1 b1565 2 [.int .i64 x1562.State, .int .i64 x1562.Irq, .int .i64 x1562.Priority] (.int .i64 x1562.Priority) rfl (by kernel_rfl) (by kernel_rfl) (by kernel_rfl) (M1571.blk 0 (b := b1565) (o := .cells ⟨[.int .i64 x1562.State, .int .i64 x1562.Irq, .int .i64 x1562.Priority]⟩ 40 (0, 0)) (by kernel_rfl))) ?_
      refine W_run 1 [(16, .int .i64 x1562.Priority), (17, .pointer (some ⟨b1569, 2, none⟩))] w1570 (by kernel_rfl) ?_
      refine W_val (.int .i64 x1563.Priority) w1570 (by kernel_rfl) (E_load (e := 40) (fr := (0, 0)) _ _ false 1 b1569 2 [.int .i64 x1563.State, .int .i64 x1563.Irq, .int .i64 x1563.Priority] (.int .i64 x1563.Priority) rfl (by kernel_rfl) (by kernel_rfl) (by kernel_rfl) (M1571.blk 1 (b := b1569) (o := .cells ⟨[.int .i64 x1563.State, .int .i64 x1563.Irq, .int .i64 x1563.Priority]⟩ 40 (0, 0)) (by kernel_rfl))) ?_
      refine W_run 1 [(19, .bool (x1562.Priority != x1563.Priority))] w1570 (by kernel_rfl) ?_
      refine W_nil ?_
      refine N_then ?_
      rcases gx_bif hm with ⟨hc1574, hm⟩ | ⟨hc1574, hm⟩
      · refine G_cond_t (b := (x1562.Priority != x1563.Priority)) hc1574 (by kernel_rfl) ?_
        refine G_seq ?_
        refine G_region ?_
        refine W_run 1 [(4, .bool false)] w1570 (by kernel_rfl) ?_
        refine W_nil ?_
        refine N_then ?_
        refine G_ret ?_
        refine N_then_ret ?_
        obtain rfl := Option.some.inj hm
        refine N_ret [.bool false] (RVs_cons (RV_tmp (by kernel_rfl)) RVs_nil) ?_
        exact ⟨rfl, M1571.pick [] (by kernel_rfl)⟩
      · refine G_cond_f (b := (x1562.Priority != x1563.Priority)) hc1574 (by kernel_rfl) ?_
        refine G_skip ?_
        refine N_then ?_
        refine G_seq ?_
        refine G_region ?_
        refine W_run 1 [(4, .bool true)] w1570 (by kernel_rfl) ?_
        refine W_nil ?_
        refine N_then ?_
        refine G_ret ?_
        obtain rfl := Option.some.inj hm
        refine N_ret [.bool true] (RVs_cons (RV_tmp (by kernel_rfl)) RVs_nil) ?_
        exact ⟨rfl, M1571.pick [] (by kernel_rfl)⟩
theorem c_l_eqSlotS (w : World) (x1548 : List Slot) (p1550 : Option Addr) (c1551 : Nat) (h1552 : rdS encSlot w x1548 p1550 c1551) (x1553 : List Slot) (p1555 : Option Addr) (c1556 : Nat) (h1557 : rdS encSlot w x1553 p1555 c1556) {r : Bool} (hm : M.l_eqSlotS x1548 x1553 = some r) :
    Calls Try.prog 40 #[.slice p1550 x1548.length c1551, .slice p1555 x1553.length c1556] w fun e w' => e = .returned (.bool r) ∧ Mem [] w w' [] := by
  unfold M.l_eqSlotS at hm
  refine C_enter Try.func40 rfl (by kernel_rfl) ?_
  have M0 := Mem.refl [] w
  refine G_seq ?_
  refine G_region ?_
  refine W_run 1 [(0, .slice p1550 x1548.length c1551), (1, .slice p1555 x1553.length c1556)] w (by kernel_rfl) ?_
  refine W_nil ?_
  refine N_then ?_
  refine G_seq ?_
  refine G_seq ?_
  refine G_region ?_
  refine W_run 5 [(0, .slice p1550 x1548.length c1551), (1, .slice p1555 x1553.length c1556), (10, .bool ((x1548.length : Int) != (x1553.length : Int)))] w (by kernel_rfl) ?_
  refine W_nil ?_
  refine N_then ?_
  rcases gx_bif hm with ⟨hc1558, hm⟩ | ⟨hc1558, hm⟩
  · refine G_cond_t (b := ((x1548.length : Int) != (x1553.length : Int))) hc1558 (by kernel_rfl) ?_
    refine G_seq ?_
    refine G_region ?_
    refine W_run 1 [(4, .bool false)] w (by kernel_rfl) ?_
    refine W_nil ?_
    refine N_then ?_
    refine G_ret ?_
    refine N_then_ret ?_
    obtain rfl := Option.some.inj hm
    refine N_ret [.bool false] (RVs_cons (RV_tmp (by kernel_rfl)) RVs_nil) ?_
    exact ⟨rfl, M0.pick [] (by kernel_rfl)⟩
  · refine G_cond_f (b := ((x1548.length : Int) != (x1553.length : Int))) hc1558 (by kernel_rfl) ?_
    refine G_skip ?_
    refine N_then ?_
    refine G_seq ?_
    refine G_seq ?_
    refine G_region ?_
    refine W_run 1 [(0, .slice p1550 x1548.length c1551), (1, .slice p1555 x1553.length c1556), (5, .int .i64 0)] w (by kernel_rfl) ?_
    refine W_nil ?_
    refine N_then ?_
    obtain ⟨out1599, hw1600, hmo1601⟩ := gx_bind hm
    refine G_meet (fun a w' => ∃ (o1602 : Unit), out1599 = .inl o1602 ∧ Mem [] w w' [] ∧ Sat Try.f40.ntmps [] a) ?_ ?_
    · refine G_block ?_
      refine G_while (σ := Int) (ρ := (Unit) ⊕ (Bool)) (fun s1592 a w' => Mem [] w w' [] ∧ Sat Try.f40.ntmps [(0, .slice p1550 x1548.length c1551), (1, .slice p1555 x1553.length c1556), (5, .int .i64 s1592)] a) hw1600 (fun a ha => ⟨M0.pick [] (by kernel_rfl), ha.sub (by kernel_rfl)⟩) ?_
      clear hm
      intro s1592 x1593 hm hout1594 a1595 w1596 ⟨M1597, hS1598⟩
      refine G_use hS1598 ?_
      refine G_seq ?_
      refine G_seq ?_
      refine G_region ?_
      refine W_run 4 [(0, .slice p1550 x1548.length c1551), (1, .slice p1555 x1553.length c1556), (5, .int .i64 s1592), (14, .bool (decide (s1592 < (x1548.length : Int))))] w1596 (by kernel_rfl) ?_
      refine W_nil ?_
      refine N_then ?_
      rcases gx_bif hm with ⟨hc1603, hm⟩ | ⟨hc1603, hm⟩
      · refine G_cond_t (b := (decide (s1592 < (x1548.length : Int)))) hc1603 (by kernel_rfl) ?_
        refine G_skip ?_
        refine N_then ?_
        refine G_seq ?_
        refine G_block ?_
        refine G_seq ?_
        refine G_quiet (by kernel_rfl) (by kernel_rfl) M1597 ?_
        refine Z_runs [.slice p1550 x1548.length c1551, .int .i64 s1592] [(0, .slice p1550 x1548.length c1551), (1, .slice p1555 x1553.length c1556), (5, .int .i64 s1592), (17, .slice p1550 x1548.length c1551), (18, .int .i64 s1592)] (fun w_ => by kernel_rfl) (by kernel_rfl) ?_
        obtain ⟨y1604, hy1604, hm⟩ := gx_bind hm
        refine Z_val (elemP p1550 (s1592.toNat * 3)) (by kernel_rfl) (fun w_ M_ => (E_index (E := encSlot) _ _ _ x1548.length c1551 .i64 s1592 3 (y := y1604) rfl (by kernel_rfl) (by kernel_rfl) (by kernel_rfl) (h1552.mem0 M_) rfl hy1604)) ?_
        refine Z_val (.agg #[.int .i64 y1604.State, .int .i64 y1604.Irq, .int .i64 y1604.Priority]) (by kernel_rfl) (fun w_ M_ => (E_loadE (E := encSlot) _ _ true 3 s1592 0 (s1592.toNat * 3) y1604 (.agg #[.int .i64 y1604.State, .int .i64 y1604.Irq, .int .i64 y1604.Priority]) rfl (by kernel_rfl) (by kernel_rfl) (by kernel_rfl) (h1552.mem0 M_) hy1604 rfl)) ?_
        refine Z_runs [.slice p1555 x1553.length c1556, .int .i64 s1592] [(0, .slice p1550 x1548.length c1551), (1, .slice p1555 x1553.length c1556), (5, .int .i64 s1592), (20, .agg #[.int .i64 y1604.State, .int .i64 y1604.Irq, .int .i64 y1604.Priority]), (21, .slice p1555 x1553.length c1556), (22, .int .i64 s1592)] (fun w_ => by kernel_rfl) (by kernel_rfl) ?_
        obtain ⟨y1605, hy1605, hm⟩ := gx_bind hm
        refine Z_val (elemP p1555 (s1592.toNat * 3)) (by kernel_rfl) (fun w_ M_ => (E_index (E := encSlot) _ _ _ x1553.length c1556 .i64 s1592 3 (y := y1605) rfl (by kernel_rfl) (by kernel_rfl) (by kernel_rfl) (h1557.mem0 M_) rfl hy1605)) ?_
        refine Z_val (.agg #[.int .i64 y1605.State, .int .i64 y1605.Irq, .int .i64 y1605.Priority]) (by kernel_rfl) (fun w_ M_ => (E_loadE (E := encSlot) _ _ true 3 s1592 0 (s1592.toNat * 3) y1605 (.agg #[.int .i64 y1605.State, .int .i64 y1605.Irq, .int .i64 y1605.Priority]) rfl (by kernel_rfl) (by kernel_rfl) (by kernel_rfl) (h1557.mem0 M_) hy1605 rfl)) ?_
        obtain ⟨r1606, hr1606, hm⟩ := gx_bind hm
        refine Z_call 42 #[.agg #[.int .i64 y1604.State, .int .i64 y1604.Irq, .int .i64 y1604.Priority], .agg #[.int .i64 y1605.State, .int .i64 y1605.Irq, .int .i64 y1605.Priority]] (.bool r1606) (by kernel_rfl) (fun w_ => by kernel_rfl) (fun w_ M_ => (c_l_eqSlot w_ y1604 y1605 hr1606).mono fun e w2_ h_ => ⟨h_.1, M_.call0 h_.2⟩) ?_
        refine Z_runs [.bool (!r1606)] [(0, .slice p1550 x1548.length c1551), (1, .slice p1555 x1553.length c1556), (5, .int .i64 s1592), (26, .bool (!r1606))] (fun w_ => by kernel_rfl) (by kernel_rfl) ?_
        refine Z_end fun w1610 M1611 => ?_
        refine N_then ?_
        rcases gx_bif hm with ⟨hc1612, hm⟩ | ⟨hc1612, hm⟩
        · refine G_cond_t (b := (!r1606)) hc1612 (by kernel_rfl) ?_
          refine G_seq ?_
          refine G_region ?_
          refine W_run 1 [(4, .bool false)] w1610 (by kernel_rfl) ?_
          refine W_nil ?_
          refine N_then ?_
          refine G_ret ?_
          refine N_block_ret ?_
          refine N_then_ret ?_
          refine N_then_ret ?_
          obtain rfl := Option.some.inj hm
          obtain rfl := hout1594 _ rfl
          have hm := hmo1601; simp only [Sum.elim_inr] at hm
          refine N_block_ret ?_
          refine N_meet_ret ?_
          refine N_then_ret ?_
          obtain rfl := Option.some.inj hm
          refine N_ret [.bool false] (RVs_cons (RV_tmp (by kernel_rfl)) RVs_nil) ?_
          exact ⟨rfl, M1611.pick [] (by kernel_rfl)⟩
        · refine G_cond_f (b := (!r1606)) hc1612 (by kernel_rfl) ?_
          refine G_skip ?_
          refine N_block ?_
          refine N_then ?_
          refine G_region ?_
          refine W_run 3 [(0, .slice p1550 x1548.length c1551), (1, .slice p1555 x1553.length c1556), (5, .int .i64 (w64 (s1592 + 1)))] w1610 (by kernel_rfl) ?_
          refine W_nil ?_
          obtain rfl := Option.some.inj hm
          exact N_loop fun a ha => ⟨_, rfl, M1611.pick [] (by kernel_rfl), ha.sub (by kernel_rfl)⟩
      · refine G_cond_f (b := (decide (s1592 < (x1548.length : Int)))) hc1603 (by kernel_rfl) ?_
        refine G_exit ?_
        refine N_then_exit ?_
        refine N_then_exit ?_
        refine N_block_eq ?_
        obtain rfl := Option.some.inj hm
        obtain rfl := hout1594 _ rfl
        exact N_meet fun a ha => ⟨_, rfl, M1597.pick [] (by kernel_rfl), ha.sub (by kernel_rfl)⟩
    · intro a1613 w1614 ⟨o1602, hout_, M1615, hS1616⟩
      refine N_use hS1616 ?_
      subst hout_
      have hm := hmo1601; simp only [Sum.elim_inl] at hm
      refine N_then ?_
      refine G_seq ?_
      refine G_region ?_
      refine W_run 1 [(4, .bool true)] w1614 (by kernel_rfl) ?_
      refine W_nil ?_
      refine N_then ?_
      refine G_ret ?_
      obtain rfl := Option.some.inj hm
      refine N_ret [.bool true] (RVs_cons (RV_tmp (by kernel_rfl)) RVs_nil) ?_
      exact ⟨rfl, M1615.pick [] (by kernel_rfl)⟩
theorem c_l_eqWaiter (w : World) (x1636 : Waiter) (x1637 : Waiter) {r : Bool} (hm : M.l_eqWaiter x1636 x1637 = some r) :
    Calls Try.prog 43 #[.agg #[.int .i64 x1636.Irq, .int .i64 x1636.Priority], .agg #[.int .i64 x1637.Irq, .int .i64 x1637.Priority]] w fun e w' => e = .returned (.bool r) ∧ Mem [] w w' [] := by
  unfold M.l_eqWaiter at hm
  refine C_enter Try.func43 rfl (by kernel_rfl) ?_
  have M0 := Mem.refl [] w
  refine G_seq ?_
  refine G_region ?_
  refine W_new (fun b => .pointer (some ⟨b, 0, none⟩)) (.cells ⟨[.int .i64 x1636.Irq, .int .i64 x1636.Priority]⟩ 68 (0, 0)) M0 rfl (by kernel_rfl) (by kernel_rfl) ?_
  intro b1639 w1640 M1641
  refine W_new (fun b => .pointer (some ⟨b, 0, none⟩)) (.cells ⟨[.int .i64 x1637.Irq, .int .i64 x1637.Priority]⟩ 68 (0, 0)) M1641 rfl (by kernel_rfl) (by kernel_rfl) ?_
  intro b1643 w1644 M1645
  refine W_run 1 [(2, .pointer (some ⟨b1639, 0, none⟩)), (3, .pointer (some ⟨b1643, 0, none⟩))] w1644 (by kernel_rfl) ?_
  refine W_nil ?_
  refine N_then ?_
  refine G_seq ?_
  refine G_seq ?_
  refine G_region ?_
  refine W_run 1 [(2, .pointer (some ⟨b1639, 0, none⟩)), (3, .pointer (some ⟨b1643, 0, none⟩)), (5, .pointer (some ⟨b1639, 0, none⟩))] w1644 (by kernel_rfl) ?_
  refine W_val (.int .i64 x1636.Irq) w1644 (by kernel_rfl) (E_load (e := 68) (fr := (0, 0)) _ _ false 1 b1639 0 [.int .i64 x1636.Irq, .int .i64 x1636.Priority] (.int .i64 x1636.Irq) rfl (by kernel_rfl) (by kernel_rfl) (by kernel_rfl) (M1645.blk 0 (b := b1639) (o := .cells ⟨[.int .i64 x1636.Irq, .int .i64 x1636.Priority]⟩ 68 (0, 0)) (by kernel_rfl))) ?_
  refine W_run 1 [(2, .pointer (some ⟨b1639, 0, none⟩)), (3, .pointer (some ⟨b1643, 0, none⟩)), (6, .int .i64 x1636.Irq), (7, .pointer (some ⟨b1643, 0, none⟩))] w1644 (by kernel_rfl) ?_
  refine W_val (.int .i64 x1637.Irq) w1644 (by kernel_rfl) (E_load (e := 68) (fr := (0, 0)) _ _ false 1 b1643 0 [.int .i64 x1637.Irq, .int .i64 x1637.Priority] (.int .i64 x1637.Irq) rfl (by kernel_rfl) (by kernel_rfl) (by kernel_rfl) (M1645.blk 1 (b := b1643) (o := .cells ⟨[.int .i64 x1637.Irq, .int .i64 x1637.Priority]⟩ 68 (0, 0)) (by kernel_rfl))) ?_
  refine W_run 1 [(2, .pointer (some ⟨b1639, 0, none⟩)), (3, .pointer (some ⟨b1643, 0, none⟩)), (9, .bool (x1636.Irq != x1637.Irq))] w1644 (by kernel_rfl) ?_
  refine W_nil ?_
  refine N_then ?_
  rcases gx_bif hm with ⟨hc1646, hm⟩ | ⟨hc1646, hm⟩
  · refine G_cond_t (b := (x1636.Irq != x1637.Irq)) hc1646 (by kernel_rfl) ?_
    refine G_seq ?_
    refine G_region ?_
    refine W_run 1 [(4, .bool false)] w1644 (by kernel_rfl) ?_
    refine W_nil ?_
    refine N_then ?_
    refine G_ret ?_
    refine N_then_ret ?_
    obtain rfl := Option.some.inj hm
    refine N_ret [.bool false] (RVs_cons (RV_tmp (by kernel_rfl)) RVs_nil) ?_
    exact ⟨rfl, M1645.pick [] (by kernel_rfl)⟩
  · refine G_cond_f (b := (x1636.Irq != x1637.Irq)) hc1646 (by kernel_rfl) ?_
    refine G_skip ?_
    refine N_then ?_
    refine G_seq ?_
    refine G_seq ?_
    refine G_region ?_
    refine W_run 1 [(3, .pointer (some ⟨b1643, 0, none⟩)), (10, .pointer (some ⟨b1639, 1, none⟩))] w1644 (by kernel_rfl) ?_
    refine W_val (.int .i64 x1636.Priority) w1644 (by kernel_rfl) (E_load (e := 68) (fr := (0, 0)) _ _ false 1 b1639 1 [.int .i64 x1636.Irq, .int .i64 x1636.Priority] (.int .i64 x1636.Priority) rfl (by kernel_rfl) (by kernel_rfl) (by kernel_rfl) (M1645.blk 0 (b := b1639) (o := .cells ⟨[.int .i64 x1636.Irq, .int .i64 x1636.Priority]⟩ 68 (0, 0)) (by kernel_rfl))) ?_
    refine W_run 1 [(11, .int .i64 x1636.Priority), (12, .pointer (some ⟨b1643, 1, none⟩))] w1644 (by kernel_rfl) ?_
    refine W_val (.int .i64 x1637.Priority) w1644 (by kernel_rfl) (E_load (e := 68) (fr := (0, 0)) _ _ false 1 b1643 1 [.int .i64 x1637.Irq, .int .i64 x1637.Priority] (.int .i64 x1637.Priority) rfl (by kernel_rfl) (by kernel_rfl) (by kernel_rfl) (M1645.blk 1 (b := b1643) (o := .cells ⟨[.int .i64 x1637.Irq, .int .i64 x1637.Priority]⟩ 68 (0, 0)) (by kernel_rfl))) ?_
    refine W_run 1 [(14, .bool (x1636.Priority != x1637.Priority))] w1644 (by kernel_rfl) ?_
    refine W_nil ?_
    refine N_then ?_
    rcases gx_bif hm with ⟨hc1647, hm⟩ | ⟨hc1647, hm⟩
    · refine G_cond_t (b := (x1636.Priority != x1637.Priority)) hc1647 (by kernel_rfl) ?_
      refine G_seq ?_
      refine G_region ?_
      refine W_run 1 [(4, .bool false)] w1644 (by kernel_rfl) ?_
      refine W_nil ?_
      refine N_then ?_
      refine G_ret ?_
      refine N_then_ret ?_
      obtain rfl := Option.some.inj hm
      refine N_ret [.bool false] (RVs_cons (RV_tmp (by kernel_rfl)) RVs_nil) ?_
      exact ⟨rfl, M1645.pick [] (by kernel_rfl)⟩
    · refine G_cond_f (b := (x1636.Priority != x1637.Priority)) hc1647 (by kernel_rfl) ?_
      refine G_skip ?_
      refine N_then ?_
      refine G_seq ?_
      refine G_region ?_
      refine W_run 1 [(4, .bool true)] w1644 (by kernel_rfl) ?_
      refine W_nil ?_
      refine N_then ?_
      refine G_ret ?_
      obtain rfl := Option.some.inj hm
      refine N_ret [.bool true] (RVs_cons (RV_tmp (by kernel_rfl)) RVs_nil) ?_
      exact ⟨rfl, M1645.pick [] (by kernel_rfl)⟩
theorem c_l_eqWaiterS (w : World) (x1622 : List Waiter) (p1624 : Option Addr) (c1625 : Nat) (h1626 : rdS encWaiter w x1622 p1624 c1625) (x1627 : List Waiter) (p1629 : Option Addr) (c1630 : Nat) (h1631 : rdS encWaiter w x1627 p1629 c1630) {r : Bool} (hm : M.l_eqWaiterS x1622 x1627 = some r) :
    Calls Try.prog 41 #[.slice p1624 x1622.length c1625, .slice p1629 x1627.length c1630] w fun e w' => e = .returned (.bool r) ∧ Mem [] w w' [] := by
  unfold M.l_eqWaiterS at hm
  refine C_enter Try.func41 rfl (by kernel_rfl) ?_
  have M0 := Mem.refl [] w
  refine G_seq ?_
  refine G_region ?_
  refine W_run 1 [(0, .slice p1624 x1622.length c1625), (1, .slice p1629 x1627.length c1630)] w (by kernel_rfl) ?_
  refine W_nil ?_
  refine N_then ?_
  refine G_seq ?_
  refine G_seq ?_
  refine G_region ?_
  refine W_run 5 [(0, .slice p1624 x1622.length c1625), (1, .slice p1629 x1627.length c1630), (10, .bool ((x1622.length : Int) != (x1627.length : Int)))] w (by kernel_rfl) ?_
  refine W_nil ?_
  refine N_then ?_
  rcases gx_bif hm with ⟨hc1632, hm⟩ | ⟨hc1632, hm⟩
  · refine G_cond_t (b := ((x1622.length : Int) != (x1627.length : Int))) hc1632 (by kernel_rfl) ?_
    refine G_seq ?_
    refine G_region ?_
    refine W_run 1 [(4, .bool false)] w (by kernel_rfl) ?_
    refine W_nil ?_
    refine N_then ?_
    refine G_ret ?_
    refine N_then_ret ?_
    obtain rfl := Option.some.inj hm
    refine N_ret [.bool false] (RVs_cons (RV_tmp (by kernel_rfl)) RVs_nil) ?_
    exact ⟨rfl, M0.pick [] (by kernel_rfl)⟩
  · refine G_cond_f (b := ((x1622.length : Int) != (x1627.length : Int))) hc1632 (by kernel_rfl) ?_
    refine G_skip ?_
    refine N_then ?_
    refine G_seq ?_
    refine G_seq ?_
    refine G_region ?_
    refine W_run 1 [(0, .slice p1624 x1622.length c1625), (1, .slice p1629 x1627.length c1630), (5, .int .i64 0)] w (by kernel_rfl) ?_
    refine W_nil ?_
    refine N_then ?_
    obtain ⟨out1672, hw1673, hmo1674⟩ := gx_bind hm
    refine G_meet (fun a w' => ∃ (o1675 : Unit), out1672 = .inl o1675 ∧ Mem [] w w' [] ∧ Sat Try.f41.ntmps [] a) ?_ ?_
    · refine G_block ?_
      refine G_while (σ := Int) (ρ := (Unit) ⊕ (Bool)) (fun s1665 a w' => Mem [] w w' [] ∧ Sat Try.f41.ntmps [(0, .slice p1624 x1622.length c1625), (1, .slice p1629 x1627.length c1630), (5, .int .i64 s1665)] a) hw1673 (fun a ha => ⟨M0.pick [] (by kernel_rfl), ha.sub (by kernel_rfl)⟩) ?_
      clear hm
      intro s1665 x1666 hm hout1667 a1668 w1669 ⟨M1670, hS1671⟩
      refine G_use hS1671 ?_
      refine G_seq ?_
      refine G_seq ?_
      refine G_region ?_
      refine W_run 4 [(0, .slice p1624 x1622.length c1625), (1, .slice p1629 x1627.length c1630), (5, .int .i64 s1665), (14, .bool (decide (s1665 < (x1622.length : Int))))] w1669 (by kernel_rfl) ?_
      refine W_nil ?_
      refine N_then ?_
      rcases gx_bif hm with ⟨hc1676, hm⟩ | ⟨hc1676, hm⟩
      · refine G_cond_t (b := (decide (s1665 < (x1622.length : Int)))) hc1676 (by kernel_rfl) ?_
        refine G_skip ?_
        refine N_then ?_
        refine G_seq ?_
        refine G_block ?_
        refine G_seq ?_
        refine G_quiet (by kernel_rfl) (by kernel_rfl) M1670 ?_
        refine Z_runs [.slice p1624 x1622.length c1625, .int .i64 s1665] [(0, .slice p1624 x1622.length c1625), (1, .slice p1629 x1627.length c1630), (5, .int .i64 s1665), (17, .slice p1624 x1622.length c1625), (18, .int .i64 s1665)] (fun w_ => by kernel_rfl) (by kernel_rfl) ?_
        obtain ⟨y1677, hy1677, hm⟩ := gx_bind hm
        refine Z_val (elemP p1624 (s1665.toNat * 2)) (by kernel_rfl) (fun w_ M_ => (E_index (E := encWaiter) _ _ _ x1622.length c1625 .i64 s1665 2 (y := y1677) rfl (by kernel_rfl) (by kernel_rfl) (by kernel_rfl) (h1626.mem0 M_) rfl hy1677)) ?_
        refine Z_val (.agg #[.int .i64 y1677.Irq, .int .i64 y1677.Priority]) (by kernel_rfl) (fun w_ M_ => (E_loadE (E := encWaiter) _ _ true 2 s1665 0 (s1665.toNat * 2) y1677 (.agg #[.int .i64 y1677.Irq, .int .i64 y1677.Priority]) rfl (by kernel_rfl) (by kernel_rfl) (by kernel_rfl) (h1626.mem0 M_) hy1677 rfl)) ?_
        refine Z_runs [.slice p1629 x1627.length c1630, .int .i64 s1665] [(0, .slice p1624 x1622.length c1625), (1, .slice p1629 x1627.length c1630), (5, .int .i64 s1665), (20, .agg #[.int .i64 y1677.Irq, .int .i64 y1677.Priority]), (21, .slice p1629 x1627.length c1630), (22, .int .i64 s1665)] (fun w_ => by kernel_rfl) (by kernel_rfl) ?_
        obtain ⟨y1678, hy1678, hm⟩ := gx_bind hm
        refine Z_val (elemP p1629 (s1665.toNat * 2)) (by kernel_rfl) (fun w_ M_ => (E_index (E := encWaiter) _ _ _ x1627.length c1630 .i64 s1665 2 (y := y1678) rfl (by kernel_rfl) (by kernel_rfl) (by kernel_rfl) (h1631.mem0 M_) rfl hy1678)) ?_
        refine Z_val (.agg #[.int .i64 y1678.Irq, .int .i64 y1678.Priority]) (by kernel_rfl) (fun w_ M_ => (E_loadE (E := encWaiter) _ _ true 2 s1665 0 (s1665.toNat * 2) y1678 (.agg #[.int .i64 y1678.Irq, .int .i64 y1678.Priority]) rfl (by kernel_rfl) (by kernel_rfl) (by kernel_rfl) (h1631.mem0 M_) hy1678 rfl)) ?_
        obtain ⟨r1679, hr1679, hm⟩ := gx_bind hm
        refine Z_call 43 #[.agg #[.int .i64 y1677.Irq, .int .i64 y1677.Priority], .agg #[.int .i64 y1678.Irq, .int .i64 y1678.Priority]] (.bool r1679) (by kernel_rfl) (fun w_ => by kernel_rfl) (fun w_ M_ => (c_l_eqWaiter w_ y1677 y1678 hr1679).mono fun e w2_ h_ => ⟨h_.1, M_.call0 h_.2⟩) ?_
        refine Z_runs [.bool (!r1679)] [(0, .slice p1624 x1622.length c1625), (1, .slice p1629 x1627.length c1630), (5, .int .i64 s1665), (26, .bool (!r1679))] (fun w_ => by kernel_rfl) (by kernel_rfl) ?_
        refine Z_end fun w1683 M1684 => ?_
        refine N_then ?_
        rcases gx_bif hm with ⟨hc1685, hm⟩ | ⟨hc1685, hm⟩
        · refine G_cond_t (b := (!r1679)) hc1685 (by kernel_rfl) ?_
          refine G_seq ?_
          refine G_region ?_
          refine W_run 1 [(4, .bool false)] w1683 (by kernel_rfl) ?_
          refine W_nil ?_
          refine N_then ?_
          refine G_ret ?_
          refine N_block_ret ?_
          refine N_then_ret ?_
          refine N_then_ret ?_
          obtain rfl := Option.some.inj hm
          obtain rfl := hout1667 _ rfl
          have hm := hmo1674; simp only [Sum.elim_inr] at hm
          refine N_block_ret ?_
          refine N_meet_ret ?_
          refine N_then_ret ?_
          obtain rfl := Option.some.inj hm
          refine N_ret [.bool false] (RVs_cons (RV_tmp (by kernel_rfl)) RVs_nil) ?_
          exact ⟨rfl, M1684.pick [] (by kernel_rfl)⟩
        · refine G_cond_f (b := (!r1679)) hc1685 (by kernel_rfl) ?_
          refine G_skip ?_
          refine N_block ?_
          refine N_then ?_
          refine G_region ?_
          refine W_run 3 [(0, .slice p1624 x1622.length c1625), (1, .slice p1629 x1627.length c1630), (5, .int .i64 (w64 (s1665 + 1)))] w1683 (by kernel_rfl) ?_
          refine W_nil ?_
          obtain rfl := Option.some.inj hm
          exact N_loop fun a ha => ⟨_, rfl, M1684.pick [] (by kernel_rfl), ha.sub (by kernel_rfl)⟩
      · refine G_cond_f (b := (decide (s1665 < (x1622.length : Int)))) hc1676 (by kernel_rfl) ?_
        refine G_exit ?_
        refine N_then_exit ?_
        refine N_then_exit ?_
        refine N_block_eq ?_
        obtain rfl := Option.some.inj hm
        obtain rfl := hout1667 _ rfl
        exact N_meet fun a ha => ⟨_, rfl, M1670.pick [] (by kernel_rfl), ha.sub (by kernel_rfl)⟩
    · intro a1686 w1687 ⟨o1675, hout_, M1688, hS1689⟩
      refine N_use hS1689 ?_
      subst hout_
      have hm := hmo1674; simp only [Sum.elim_inl] at hm
      refine N_then ?_
      refine G_seq ?_
      refine G_region ?_
      refine W_run 1 [(4, .bool true)] w1687 (by kernel_rfl) ?_
      refine W_nil ?_
      refine N_then ?_
      refine G_ret ?_
      obtain rfl := Option.some.inj hm
      refine N_ret [.bool true] (RVs_cons (RV_tmp (by kernel_rfl)) RVs_nil) ?_
      exact ⟨rfl, M1688.pick [] (by kernel_rfl)⟩
theorem c_l_eqQueue (w : World) (x1522 : Queue) (p1524 : Option Addr) (c1525 : Nat) (h1526 : rdS encSlot w x1522.Slots p1524 c1525) (p1528 : Option Addr) (c1529 : Nat) (h1530 : rdS encWaiter w x1522.Waiting p1528 c1529) (x1531 : Queue) (p1533 : Option Addr) (c1534 : Nat) (h1535 : rdS encSlot w x1531.Slots p1533 c1534) (p1537 : Option Addr) (c1538 : Nat) (h1539 : rdS encWaiter w x1531.Waiting p1537 c1538) {r : Bool} (hm : M.l_eqQueue x1522 x1531 = some r) :
    Calls Try.prog 39 #[.agg #[.slice p1524 x1522.Slots.length c1525, .slice p1528 x1522.Waiting.length c1529], .agg #[.slice p1533 x1531.Slots.length c1534, .slice p1537 x1531.Waiting.length c1538]] w fun e w' => e = .returned (.bool r) ∧ Mem [] w w' [] := by
  unfold M.l_eqQueue at hm
  refine C_enter Try.func39 rfl (by kernel_rfl) ?_
  have M0 := Mem.refl [] w
  refine G_seq ?_
  refine G_region ?_
  refine W_new (fun b => .pointer (some ⟨b, 0, none⟩)) (.cells ⟨[.slice p1524 x1522.Slots.length c1525, .slice p1528 x1522.Waiting.length c1529]⟩ 44 (0, 0)) M0 rfl (by kernel_rfl) (by kernel_rfl) ?_
  intro b1541 w1542 M1543
  refine W_new (fun b => .pointer (some ⟨b, 0, none⟩)) (.cells ⟨[.slice p1533 x1531.Slots.length c1534, .slice p1537 x1531.Waiting.length c1538]⟩ 44 (0, 0)) M1543 rfl (by kernel_rfl) (by kernel_rfl) ?_
  intro b1545 w1546 M1547
  refine W_run 1 [(2, .pointer (some ⟨b1541, 0, none⟩)), (3, .pointer (some ⟨b1545, 0, none⟩))] w1546 (by kernel_rfl) ?_
  refine W_nil ?_
  refine N_then ?_
  refine G_seq ?_
  refine G_seq ?_
  refine G_region ?_
  refine W_run 1 [(2, .pointer (some ⟨b1541, 0, none⟩)), (3, .pointer (some ⟨b1545, 0, none⟩)), (5, .pointer (some ⟨b1541, 0, none⟩))] w1546 (by kernel_rfl) ?_
  refine W_val (.slice p1524 x1522.Slots.length c1525) w1546 (by kernel_rfl) (E_load (e := 44) (fr := (0, 0)) _ _ false 1 b1541 0 [.slice p1524 x1522.Slots.length c1525, .slice p1528 x1522.Waiting.length c1529] (.slice p1524 x1522.Slots.length c1525) rfl (by kernel_rfl) (by kernel_rfl) (by kernel_rfl) (M1547.blk 0 (b := b1541) (o := .cells ⟨[.slice p1524 x1522.Slots.length c1525, .slice p1528 x1522.Waiting.length c1529]⟩ 44 (0, 0)) (by kernel_rfl))) ?_
  refine W_run 1 [(2, .pointer (some ⟨b1541, 0, none⟩)), (3, .pointer (some ⟨b1545, 0, none⟩)), (6, .slice p1524 x1522.Slots.length c1525), (7, .pointer (some ⟨b1545, 0, none⟩))] w1546 (by kernel_rfl) ?_
  refine W_val (.slice p1533 x1531.Slots.length c1534) w1546 (by kernel_rfl) (E_load (e := 44) (fr := (0, 0)) _ _ false 1 b1545 0 [.slice p1533 x1531.Slots.length c1534, .slice p1537 x1531.Waiting.length c1538] (.slice p1533 x1531.Slots.length c1534) rfl (by kernel_rfl) (by kernel_rfl) (by kernel_rfl) (M1547.blk 1 (b := b1545) (o := .cells ⟨[.slice p1533 x1531.Slots.length c1534, .slice p1537 x1531.Waiting.length c1538]⟩ 44 (0, 0)) (by kernel_rfl))) ?_
  obtain ⟨r1617, hr1617, hm⟩ := gx_bind hm
  refine W_call 40 #[.slice p1524 x1522.Slots.length c1525, .slice p1533 x1531.Slots.length c1534] (by kernel_rfl) (by kernel_rfl) ?_
  refine (c_l_eqSlotS w1546 x1522.Slots p1524 c1525 (h1526.mem0 M1547) x1531.Slots p1533 c1534 (h1535.mem0 M1547) hr1617).mono ?_
  rintro e_ w1618 ⟨rfl, K1619⟩
  have M1620 := M1547.call0 K1619
  refine ⟨_, rfl, ?_⟩
  refine W_run 1 [(2, .pointer (some ⟨b1541, 0, none⟩)), (3, .pointer (some ⟨b1545, 0, none⟩)), (10, .bool (!r1617))] w1618 (by kernel_rfl) ?_
  refine W_nil ?_
  refine N_then ?_
  rcases gx_bif hm with ⟨hc1621, hm⟩ | ⟨hc1621, hm⟩
  · refine G_cond_t (b := (!r1617)) hc1621 (by kernel_rfl) ?_
    refine G_seq ?_
    refine G_region ?_
    refine W_run 1 [(4, .bool false)] w1618 (by kernel_rfl) ?_
    refine W_nil ?_
    refine N_then ?_
    refine G_ret ?_
    refine N_then_ret ?_
    obtain rfl := Option.some.inj hm
    refine N_ret [.bool false] (RVs_cons (RV_tmp (by kernel_rfl)) RVs_nil) ?_
    exact ⟨rfl, M1620.pick [] (by kernel_rfl)⟩
  · refine G_cond_f (b := (!r1617)) hc1621 (by kernel_rfl) ?_
    refine G_skip ?_
    refine N_then ?_
    refine G_seq ?_
    refine G_seq ?_
    refine G_region ?_
    refine W_run 1 [(3, .pointer (some ⟨b1545, 0, none⟩)), (11, .pointer (some ⟨b1541, 1, none⟩))] w1618 (by kernel_rfl) ?_
    refine W_val (.slice p1528 x1522.Waiting.length c1529) w1618 (by kernel_rfl) (E_load (e := 44) (fr := (0, 0)) _ _ false 1 b1541 1 [.slice p1524 x1522.Slots.length c1525, .slice p1528 x1522.Waiting.length c1529] (.slice p1528 x1522.Waiting.length c1529) rfl (by kernel_rfl) (by kernel_rfl) (by kernel_rfl) (M1620.blk 0 (b := b1541) (o := .cells ⟨[.slice p1524 x1522.Slots.length c1525, .slice p1528 x1522.Waiting.length c1529]⟩ 44 (0, 0)) (by kernel_rfl))) ?_
    refine W_run 1 [(12, .slice p1528 x1522.Waiting.length c1529), (13, .pointer (some ⟨b1545, 1, none⟩))] w1618 (by kernel_rfl) ?_
    refine W_val (.slice p1537 x1531.Waiting.length c1538) w1618 (by kernel_rfl) (E_load (e := 44) (fr := (0, 0)) _ _ false 1 b1545 1 [.slice p1533 x1531.Slots.length c1534, .slice p1537 x1531.Waiting.length c1538] (.slice p1537 x1531.Waiting.length c1538) rfl (by kernel_rfl) (by kernel_rfl) (by kernel_rfl) (M1620.blk 1 (b := b1545) (o := .cells ⟨[.slice p1533 x1531.Slots.length c1534, .slice p1537 x1531.Waiting.length c1538]⟩ 44 (0, 0)) (by kernel_rfl))) ?_
    obtain ⟨r1690, hr1690, hm⟩ := gx_bind hm
    refine W_call 41 #[.slice p1528 x1522.Waiting.length c1529, .slice p1537 x1531.Waiting.length c1538] (by kernel_rfl) (by kernel_rfl) ?_
    refine (c_l_eqWaiterS w1618 x1522.Waiting p1528 c1529 (h1530.mem0 M1620) x1531.Waiting p1537 c1538 (h1539.mem0 M1620) hr1690).mono ?_
    rintro e_ w1691 ⟨rfl, K1692⟩
    have M1693 := M1620.call0 K1692
    refine ⟨_, rfl, ?_⟩
    refine W_run 1 [(16, .bool (!r1690))] w1691 (by kernel_rfl) ?_
    refine W_nil ?_
    refine N_then ?_
    rcases gx_bif hm with ⟨hc1694, hm⟩ | ⟨hc1694, hm⟩
    · refine G_cond_t (b := (!r1690)) hc1694 (by kernel_rfl) ?_
      refine G_seq ?_
      refine G_region ?_
      refine W_run 1 [(4, .bool false)] w1691 (by kernel_rfl) ?_
      refine W_nil ?_
      refine N_then ?_
      refine G_ret ?_
      refine N_then_ret ?_
      obtain rfl := Option.some.inj hm
      refine N_ret [.bool false] (RVs_cons (RV_tmp (by kernel_rfl)) RVs_nil) ?_
      exact ⟨rfl, M1693.pick [] (by kernel_rfl)⟩
    · refine G_cond_f (b := (!r1690)) hc1694 (by kernel_rfl) ?_
      refine G_skip ?_
      refine N_then ?_
      refine G_seq ?_
      refine G_region ?_
      refine W_run 1 [(4, .bool true)] w1691 (by kernel_rfl) ?_
      refine W_nil ?_
      refine N_then ?_
      refine G_ret ?_
      obtain rfl := Option.some.inj hm
      refine N_ret [.bool true] (RVs_cons (RV_tmp (by kernel_rfl)) RVs_nil) ?_
      exact ⟨rfl, M1693.pick [] (by kernel_rfl)⟩
theorem c_l_eqInterface (w : World) (x1438 : Interface) (p1440 : Option Addr) (c1441 : Nat) (h1442 : rdS encI w x1438.Stack p1440 c1441) (p1444 : Option Addr) (c1445 : Nat) (h1446 : rdS encSlot w x1438.Queue.Slots p1444 c1445) (p1448 : Option Addr) (c1449 : Nat) (h1450 : rdS encWaiter w x1438.Queue.Waiting p1448 c1449) (x1451 : Interface) (p1453 : Option Addr) (c1454 : Nat) (h1455 : rdS encI w x1451.Stack p1453 c1454) (p1457 : Option Addr) (c1458 : Nat) (h1459 : rdS encSlot w x1451.Queue.Slots p1457 c1458) (p1461 : Option Addr) (c1462 : Nat) (h1463 : rdS encWaiter w x1451.Queue.Waiting p1461 c1462) {r : Bool} (hm : M.l_eqInterface x1438 x1451 = some r) :
    Calls Try.prog 30 #[.agg #[.int .i64 x1438.Mask, .slice p1440 x1438.Stack.length c1441, .slice p1444 x1438.Queue.Slots.length c1445, .slice p1448 x1438.Queue.Waiting.length c1449], .agg #[.int .i64 x1451.Mask, .slice p1453 x1451.Stack.length c1454, .slice p1457 x1451.Queue.Slots.length c1458, .slice p1461 x1451.Queue.Waiting.length c1462]] w fun e w' => e = .returned (.bool r) ∧ Mem [] w w' [] := by
  unfold M.l_eqInterface at hm
  refine C_enter Try.func30 rfl (by kernel_rfl) ?_
  have M0 := Mem.refl [] w
  refine G_seq ?_
  refine G_region ?_
  refine W_new (fun b => .pointer (some ⟨b, 0, none⟩)) (.cells ⟨[.int .i64 x1438.Mask, .slice p1440 x1438.Stack.length c1441, .slice p1444 x1438.Queue.Slots.length c1445, .slice p1448 x1438.Queue.Waiting.length c1449]⟩ 46 (0, 0)) M0 rfl (by kernel_rfl) (by kernel_rfl) ?_
  intro b1465 w1466 M1467
  refine W_new (fun b => .pointer (some ⟨b, 0, none⟩)) (.cells ⟨[.int .i64 x1451.Mask, .slice p1453 x1451.Stack.length c1454, .slice p1457 x1451.Queue.Slots.length c1458, .slice p1461 x1451.Queue.Waiting.length c1462]⟩ 46 (0, 0)) M1467 rfl (by kernel_rfl) (by kernel_rfl) ?_
  intro b1469 w1470 M1471
  refine W_run 1 [(2, .pointer (some ⟨b1465, 0, none⟩)), (3, .pointer (some ⟨b1469, 0, none⟩))] w1470 (by kernel_rfl) ?_
  refine W_nil ?_
  refine N_then ?_
  refine G_seq ?_
  refine G_seq ?_
  refine G_region ?_
  refine W_run 1 [(2, .pointer (some ⟨b1465, 0, none⟩)), (3, .pointer (some ⟨b1469, 0, none⟩)), (5, .pointer (some ⟨b1465, 0, none⟩))] w1470 (by kernel_rfl) ?_
  refine W_val (.int .i64 x1438.Mask) w1470 (by kernel_rfl) (E_load (e := 46) (fr := (0, 0)) _ _ false 1 b1465 0 [.int .i64 x1438.Mask, .slice p1440 x1438.Stack.length c1441, .slice p1444 x1438.Queue.Slots.length c1445, .slice p1448 x1438.Queue.Waiting.length c1449] (.int .i64 x1438.Mask) rfl (by kernel_rfl) (by kernel_rfl) (by kernel_rfl) (M1471.blk 0 (b := b1465) (o := .cells ⟨[.int .i64 x1438.Mask, .slice p1440 x1438.Stack.length c1441, .slice p1444 x1438.Queue.Slots.length c1445, .slice p1448 x1438.Queue.Waiting.length c1449]⟩ 46 (0, 0)) (by kernel_rfl))) ?_
  refine W_run 1 [(2, .pointer (some ⟨b1465, 0, none⟩)), (3, .pointer (some ⟨b1469, 0, none⟩)), (6, .int .i64 x1438.Mask), (7, .pointer (some ⟨b1469, 0, none⟩))] w1470 (by kernel_rfl) ?_
  refine W_val (.int .i64 x1451.Mask) w1470 (by kernel_rfl) (E_load (e := 46) (fr := (0, 0)) _ _ false 1 b1469 0 [.int .i64 x1451.Mask, .slice p1453 x1451.Stack.length c1454, .slice p1457 x1451.Queue.Slots.length c1458, .slice p1461 x1451.Queue.Waiting.length c1462] (.int .i64 x1451.Mask) rfl (by kernel_rfl) (by kernel_rfl) (by kernel_rfl) (M1471.blk 1 (b := b1469) (o := .cells ⟨[.int .i64 x1451.Mask, .slice p1453 x1451.Stack.length c1454, .slice p1457 x1451.Queue.Slots.length c1458, .slice p1461 x1451.Queue.Waiting.length c1462]⟩ 46 (0, 0)) (by kernel_rfl))) ?_
  refine W_run 1 [(2, .pointer (some ⟨b1465, 0, none⟩)), (3, .pointer (some ⟨b1469, 0, none⟩)), (9, .bool (x1438.Mask != x1451.Mask))] w1470 (by kernel_rfl) ?_
  refine W_nil ?_
  refine N_then ?_
  rcases gx_bif hm with ⟨hc1472, hm⟩ | ⟨hc1472, hm⟩
  · refine G_cond_t (b := (x1438.Mask != x1451.Mask)) hc1472 (by kernel_rfl) ?_
    refine G_seq ?_
    refine G_region ?_
    refine W_run 1 [(4, .bool false)] w1470 (by kernel_rfl) ?_
    refine W_nil ?_
    refine N_then ?_
    refine G_ret ?_
    refine N_then_ret ?_
    obtain rfl := Option.some.inj hm
    refine N_ret [.bool false] (RVs_cons (RV_tmp (by kernel_rfl)) RVs_nil) ?_
    exact ⟨rfl, M1471.pick [] (by kernel_rfl)⟩
  · refine G_cond_f (b := (x1438.Mask != x1451.Mask)) hc1472 (by kernel_rfl) ?_
    refine G_skip ?_
    refine N_then ?_
    refine G_seq ?_
    refine G_seq ?_
    refine G_region ?_
    refine W_run 1 [(2, .pointer (some ⟨b1465, 0, none⟩)), (3, .pointer (some ⟨b1469, 0, none⟩)), (10, .pointer (some ⟨b1465, 1, none⟩))] w1470 (by kernel_rfl) ?_
    refine W_val (.slice p1440 x1438.Stack.length c1441) w1470 (by kernel_rfl) (E_load (e := 46) (fr := (0, 0)) _ _ false 1 b1465 1 [.int .i64 x1438.Mask, .slice p1440 x1438.Stack.length c1441, .slice p1444 x1438.Queue.Slots.length c1445, .slice p1448 x1438.Queue.Waiting.length c1449] (.slice p1440 x1438.Stack.length c1441) rfl (by kernel_rfl) (by kernel_rfl) (by kernel_rfl) (M1471.blk 0 (b := b1465) (o := .cells ⟨[.int .i64 x1438.Mask, .slice p1440 x1438.Stack.length c1441, .slice p1444 x1438.Queue.Slots.length c1445, .slice p1448 x1438.Queue.Waiting.length c1449]⟩ 46 (0, 0)) (by kernel_rfl))) ?_
    refine W_run 1 [(2, .pointer (some ⟨b1465, 0, none⟩)), (3, .pointer (some ⟨b1469, 0, none⟩)), (11, .slice p1440 x1438.Stack.length c1441), (12, .pointer (some ⟨b1469, 1, none⟩))] w1470 (by kernel_rfl) ?_
    refine W_val (.slice p1453 x1451.Stack.length c1454) w1470 (by kernel_rfl) (E_load (e := 46) (fr := (0, 0)) _ _ false 1 b1469 1 [.int .i64 x1451.Mask, .slice p1453 x1451.Stack.length c1454, .slice p1457 x1451.Queue.Slots.length c1458, .slice p1461 x1451.Queue.Waiting.length c1462] (.slice p1453 x1451.Stack.length c1454) rfl (by kernel_rfl) (by kernel_rfl) (by kernel_rfl) (M1471.blk 1 (b := b1469) (o := .cells ⟨[.int .i64 x1451.Mask, .slice p1453 x1451.Stack.length c1454, .slice p1457 x1451.Queue.Slots.length c1458, .slice p1461 x1451.Queue.Waiting.length c1462]⟩ 46 (0, 0)) (by kernel_rfl))) ?_
    obtain ⟨r1517, hr1517, hm⟩ := gx_bind hm
    refine W_call 38 #[.slice p1440 x1438.Stack.length c1441, .slice p1453 x1451.Stack.length c1454] (by kernel_rfl) (by kernel_rfl) ?_
    refine (c_l_eqIntS w1470 x1438.Stack p1440 c1441 (h1442.mem0 M1471) x1451.Stack p1453 c1454 (h1455.mem0 M1471) hr1517).mono ?_
    rintro e_ w1518 ⟨rfl, K1519⟩
    have M1520 := M1471.call0 K1519
    refine ⟨_, rfl, ?_⟩
    refine W_run 1 [(2, .pointer (some ⟨b1465, 0, none⟩)), (3, .pointer (some ⟨b1469, 0, none⟩)), (15, .bool (!r1517))] w1518 (by kernel_rfl) ?_
    refine W_nil ?_
    refine N_then ?_
    rcases gx_bif hm with ⟨hc1521, hm⟩ | ⟨hc1521, hm⟩
    · refine G_cond_t (b := (!r1517)) hc1521 (by kernel_rfl) ?_
      refine G_seq ?_
      refine G_region ?_
      refine W_run 1 [(4, .bool false)] w1518 (by kernel_rfl) ?_
      refine W_nil ?_
      refine N_then ?_
      refine G_ret ?_
      refine N_then_ret ?_
      obtain rfl := Option.some.inj hm
      refine N_ret [.bool false] (RVs_cons (RV_tmp (by kernel_rfl)) RVs_nil) ?_
      exact ⟨rfl, M1520.pick [] (by kernel_rfl)⟩
    · refine G_cond_f (b := (!r1517)) hc1521 (by kernel_rfl) ?_
      refine G_skip ?_
      refine N_then ?_
      refine G_seq ?_
      refine G_seq ?_
      refine G_region ?_
      refine W_run 1 [(3, .pointer (some ⟨b1469, 0, none⟩)), (16, .pointer (some ⟨b1465, 2, none⟩))] w1518 (by kernel_rfl) ?_
      refine W_val (.agg #[.slice p1444 x1438.Queue.Slots.length c1445, .slice p1448 x1438.Queue.Waiting.length c1449]) w1518 (by kernel_rfl) (E_load (e := 46) (fr := (0, 0)) _ _ true 2 b1465 2 [.int .i64 x1438.Mask, .slice p1440 x1438.Stack.length c1441, .slice p1444 x1438.Queue.Slots.length c1445, .slice p1448 x1438.Queue.Waiting.length c1449] (.agg #[.slice p1444 x1438.Queue.Slots.length c1445, .slice p1448 x1438.Queue.Waiting.length c1449]) rfl (by kernel_rfl) (by kernel_rfl) (by kernel_rfl) (M1520.blk 0 (b := b1465) (o := .cells ⟨[.int .i64 x1438.Mask, .slice p1440 x1438.Stack.length c1441, .slice p1444 x1438.Queue.Slots.length c1445, .slice p1448 x1438.Queue.Waiting.length c1449]⟩ 46 (0, 0)) (by kernel_rfl))) ?_
      refine W_run 1 [(17, .agg #[.slice p1444 x1438.Queue.Slots.length c1445, .slice p1448 x1438.Queue.Waiting.length c1449]), (18, .pointer (some ⟨b1469, 2, none⟩))] w1518 (by kernel_rfl) ?_
      refine W_val (.agg #[.slice p1457 x1451.Queue.Slots.length c1458, .slice p1461 x1451.Queue.Waiting.length c1462]) w1518 (by kernel_rfl) (E_load (e := 46) (fr := (0, 0)) _ _ true 2 b1469 2 [.int .i64 x1451.Mask, .slice p1453 x1451.Stack.length c1454, .slice p1457 x1451.Queue.Slots.length c1458, .slice p1461 x1451.Queue.Waiting.length c1462] (.agg #[.slice p1457 x1451.Queue.Slots.length c1458, .slice p1461 x1451.Queue.Waiting.length c1462]) rfl (by kernel_rfl) (by kernel_rfl) (by kernel_rfl) (M1520.blk 1 (b := b1469) (o := .cells ⟨[.int .i64 x1451.Mask, .slice p1453 x1451.Stack.length c1454, .slice p1457 x1451.Queue.Slots.length c1458, .slice p1461 x1451.Queue.Waiting.length c1462]⟩ 46 (0, 0)) (by kernel_rfl))) ?_
      obtain ⟨r1695, hr1695, hm⟩ := gx_bind hm
      refine W_call 39 #[.agg #[.slice p1444 x1438.Queue.Slots.length c1445, .slice p1448 x1438.Queue.Waiting.length c1449], .agg #[.slice p1457 x1451.Queue.Slots.length c1458, .slice p1461 x1451.Queue.Waiting.length c1462]] (by kernel_rfl) (by kernel_rfl) ?_
      refine (c_l_eqQueue w1518 (⟨x1438.Queue.Slots, x1438.Queue.Waiting⟩ : Queue) p1444 c1445 (h1446.mem0 M1520) p1448 c1449 (h1450.mem0 M1520) (⟨x1451.Queue.Slots, x1451.Queue.Waiting⟩ : Queue) p1457 c1458 (h1459.mem0 M1520) p1461 c1462 (h1463.mem0 M1520) hr1695).mono ?_
      rintro e_ w1696 ⟨rfl, K1697⟩
      have M1698 := M1520.call0 K1697
      refine ⟨_, rfl, ?_⟩
      refine W_run 1 [(21, .bool (!r1695))] w1696 (by kernel_rfl) ?_
      refine W_nil ?_
      refine N_then ?_
      rcases gx_bif hm with ⟨hc1699, hm⟩ | ⟨hc1699, hm⟩
      · refine G_cond_t (b := (!r1695)) hc1699 (by kernel_rfl) ?_
        refine G_seq ?_
        refine G_region ?_
        refine W_run 1 [(4, .bool false)] w1696 (by kernel_rfl) ?_
        refine W_nil ?_
        refine N_then ?_
        refine G_ret ?_
        refine N_then_ret ?_
        obtain rfl := Option.some.inj hm
        refine N_ret [.bool false] (RVs_cons (RV_tmp (by kernel_rfl)) RVs_nil) ?_
        exact ⟨rfl, M1698.pick [] (by kernel_rfl)⟩
      · refine G_cond_f (b := (!r1695)) hc1699 (by kernel_rfl) ?_
        refine G_skip ?_
        refine N_then ?_
        refine G_seq ?_
        refine G_region ?_
        refine W_run 1 [(4, .bool true)] w1696 (by kernel_rfl) ?_
        refine W_nil ?_
        refine N_then ?_
        refine G_ret ?_
        obtain rfl := Option.some.inj hm
        refine N_ret [.bool true] (RVs_cons (RV_tmp (by kernel_rfl)) RVs_nil) ?_
        exact ⟨rfl, M1698.pick [] (by kernel_rfl)⟩
theorem c_l_eqInterfaceS (w : World) (x1406 : List Interface) (p1408 : Option Addr) (c1409 : Nat) (h1410 : rdD deepInterface w x1406 p1408 c1409) (x1411 : List Interface) (p1413 : Option Addr) (c1414 : Nat) (h1415 : rdD deepInterface w x1411 p1413 c1414) {r : Bool} (hm : M.l_eqInterfaceS x1406 x1411 = some r) :
    Calls Try.prog 17 #[.slice p1408 x1406.length c1409, .slice p1413 x1411.length c1414] w fun e w' => e = .returned (.bool r) ∧ Mem [] w w' [] := by
  unfold M.l_eqInterfaceS at hm
  refine C_enter Try.func17 rfl (by kernel_rfl) ?_
  have M0 := Mem.refl [] w
  refine G_seq ?_
  refine G_region ?_
  refine W_run 1 [(0, .slice p1408 x1406.length c1409), (1, .slice p1413 x1411.length c1414)] w (by kernel_rfl) ?_
  refine W_nil ?_
  refine N_then ?_
  refine G_seq ?_
  refine G_seq ?_
  refine G_region ?_
  refine W_run 5 [(0, .slice p1408 x1406.length c1409), (1, .slice p1413 x1411.length c1414), (10, .bool ((x1406.length : Int) != (x1411.length : Int)))] w (by kernel_rfl) ?_
  refine W_nil ?_
  refine N_then ?_
  rcases gx_bif hm with ⟨hc1416, hm⟩ | ⟨hc1416, hm⟩
  · refine G_cond_t (b := ((x1406.length : Int) != (x1411.length : Int))) hc1416 (by kernel_rfl) ?_
    refine G_seq ?_
    refine G_region ?_
    refine W_run 1 [(4, .bool false)] w (by kernel_rfl) ?_
    refine W_nil ?_
    refine N_then ?_
    refine G_ret ?_
    refine N_then_ret ?_
    obtain rfl := Option.some.inj hm
    refine N_ret [.bool false] (RVs_cons (RV_tmp (by kernel_rfl)) RVs_nil) ?_
    exact ⟨rfl, M0.pick [] (by kernel_rfl)⟩
  · refine G_cond_f (b := ((x1406.length : Int) != (x1411.length : Int))) hc1416 (by kernel_rfl) ?_
    refine G_skip ?_
    refine N_then ?_
    refine G_seq ?_
    refine G_seq ?_
    refine G_region ?_
    refine W_run 1 [(0, .slice p1408 x1406.length c1409), (1, .slice p1413 x1411.length c1414), (5, .int .i64 0)] w (by kernel_rfl) ?_
    refine W_nil ?_
    refine N_then ?_
    obtain ⟨out1742, hw1743, hmo1744⟩ := gx_bind hm
    refine G_meet (fun a w' => ∃ (o1745 : Unit), out1742 = .inl o1745 ∧ Mem [] w w' [] ∧ Sat Try.f17.ntmps [] a) ?_ ?_
    · refine G_block ?_
      refine G_while (σ := Int) (ρ := (Unit) ⊕ (Bool)) (fun s1735 a w' => Mem [] w w' [] ∧ Sat Try.f17.ntmps [(0, .slice p1408 x1406.length c1409), (1, .slice p1413 x1411.length c1414), (5, .int .i64 s1735)] a) hw1743 (fun a ha => ⟨M0.pick [] (by kernel_rfl), ha.sub (by kernel_rfl)⟩) ?_
      clear hm
      intro s1735 x1736 hm hout1737 a1738 w1739 ⟨M1740, hS1741⟩
      refine G_use hS1741 ?_
      refine G_seq ?_
      refine G_seq ?_
      refine G_region ?_
      refine W_run 4 [(0, .slice p1408 x1406.length c1409), (1, .slice p1413 x1411.length c1414), (5, .int .i64 s1735), (14, .bool (decide (s1735 < (x1406.length : Int))))] w1739 (by kernel_rfl) ?_
      refine W_nil ?_
      refine N_then ?_
      rcases gx_bif hm with ⟨hc1746, hm⟩ | ⟨hc1746, hm⟩
      · refine G_cond_t (b := (decide (s1735 < (x1406.length : Int)))) hc1746 (by kernel_rfl) ?_
        refine G_skip ?_
        refine N_then ?_
        refine G_seq ?_
        refine G_block ?_
        refine G_seq ?_
        refine G_quiet (by kernel_rfl) (by kernel_rfl) M1740 ?_
        refine Z_runs [.slice p1408 x1406.length c1409, .int .i64 s1735] [(0, .slice p1408 x1406.length c1409), (1, .slice p1413 x1411.length c1414), (5, .int .i64 s1735), (17, .slice p1408 x1406.length c1409), (18, .int .i64 s1735)] (fun w_ => by kernel_rfl) (by kernel_rfl) ?_
        obtain ⟨y1747, hy1747, hm⟩ := gx_bind hm
        obtain ⟨zs1748, hz1749, hr1750, hi1751⟩ := id h1410
        obtain ⟨g1752, hg1753⟩ := gxIdx_fst hz1749 hy1747
        refine Z_val (elemP p1408 (s1735.toNat * 4)) (by kernel_rfl) (fun w_ M_ => (E_index (E := deepInterface.E) _ _ _ x1406.length c1409 .i64 s1735 4 (y := (y1747, g1752)) rfl (by kernel_rfl) (by kernel_rfl) (by kernel_rfl) (hr1750.mem0 M_) (len_fst hz1749) hg1753)) ?_
        refine Z_val (.agg #[.int .i64 y1747.Mask, .slice ((g1752 0).1) y1747.Stack.length ((g1752 0).2), .slice ((g1752 1).1) y1747.Queue.Slots.length ((g1752 1).2), .slice ((g1752 2).1) y1747.Queue.Waiting.length ((g1752 2).2)]) (by kernel_rfl) (fun w_ M_ => (E_loadE (E := deepInterface.E) _ _ true 4 s1735 0 (s1735.toNat * 4) (y1747, g1752) (.agg #[.int .i64 y1747.Mask, .slice ((g1752 0).1) y1747.Stack.length ((g1752 0).2), .slice ((g1752 1).1) y1747.Queue.Slots.length ((g1752 1).2), .slice ((g1752 2).1) y1747.Queue.Waiting.length ((g1752 2).2)]) rfl (by kernel_rfl) (by kernel_rfl) (by kernel_rfl) (hr1750.mem0 M_) hg1753 rfl)) ?_
        refine Z_runs [.slice p1413 x1411.length c1414, .int .i64 s1735] [(0, .slice p1408 x1406.length c1409), (1, .slice p1413 x1411.length c1414), (5, .int .i64 s1735), (20, .agg #[.int .i64 y1747.Mask, .slice ((g1752 0).1) y1747.Stack.length ((g1752 0).2), .slice ((g1752 1).1) y1747.Queue.Slots.length ((g1752 1).2), .slice ((g1752 2).1) y1747.Queue.Waiting.length ((g1752 2).2)]), (21, .slice p1413 x1411.length c1414), (22, .int .i64 s1735)] (fun w_ => by kernel_rfl) (by kernel_rfl) ?_
        obtain ⟨y1757, hy1757, hm⟩ := gx_bind hm
        obtain ⟨zs1758, hz1759, hr1760, hi1761⟩ := id h1415
        obtain ⟨g1762, hg1763⟩ := gxIdx_fst hz1759 hy1757
        refine Z_val (elemP p1413 (s1735.toNat * 4)) (by kernel_rfl) (fun w_ M_ => (E_index (E := deepInterface.E) _ _ _ x1411.length c1414 .i64 s1735 4 (y := (y1757, g1762)) rfl (by kernel_rfl) (by kernel_rfl) (by kernel_rfl) (hr1760.mem0 M_) (len_fst hz1759) hg1763)) ?_
        refine Z_val (.agg #[.int .i64 y1757.Mask, .slice ((g1762 0).1) y1757.Stack.length ((g1762 0).2), .slice ((g1762 1).1) y1757.Queue.Slots.length ((g1762 1).2), .slice ((g1762 2).1) y1757.Queue.Waiting.length ((g1762 2).2)]) (by kernel_rfl) (fun w_ M_ => (E_loadE (E := deepInterface.E) _ _ true 4 s1735 0 (s1735.toNat * 4) (y1757, g1762) (.agg #[.int .i64 y1757.Mask, .slice ((g1762 0).1) y1757.Stack.length ((g1762 0).2), .slice ((g1762 1).1) y1757.Queue.Slots.length ((g1762 1).2), .slice ((g1762 2).1) y1757.Queue.Waiting.length ((g1762 2).2)]) rfl (by kernel_rfl) (by kernel_rfl) (by kernel_rfl) (hr1760.mem0 M_) hg1763 rfl)) ?_
        obtain ⟨r1767, hr1767, hm⟩ := gx_bind hm
        refine Z_call 30 #[.agg #[.int .i64 y1747.Mask, .slice ((g1752 0).1) y1747.Stack.length ((g1752 0).2), .slice ((g1752 1).1) y1747.Queue.Slots.length ((g1752 1).2), .slice ((g1752 2).1) y1747.Queue.Waiting.length ((g1752 2).2)], .agg #[.int .i64 y1757.Mask, .slice ((g1762 0).1) y1757.Stack.length ((g1762 0).2), .slice ((g1762 1).1) y1757.Queue.Slots.length ((g1762 1).2), .slice ((g1762 2).1) y1757.Queue.Waiting.length ((g1762 2).2)]] (.bool r1767) (by kernel_rfl) (fun w_ => by kernel_rfl) (fun w_ M_ => (c_l_eqInterface w_ (⟨y1747.Mask, y1747.Stack, (⟨y1747.Queue.Slots, y1747.Queue.Waiting⟩ : Queue)⟩ : Interface) ((g1752 0).1) ((g1752 0).2) ((hi1751.mem0 M_).at_ hg1753 0 ⟨Int, encI, y1747.Stack, (g1752 0).1, (g1752 0).2⟩ (by kernel_rfl)) ((g1752 1).1) ((g1752 1).2) ((hi1751.mem0 M_).at_ hg1753 1 ⟨Slot, encSlot, y1747.Queue.Slots, (g1752 1).1, (g1752 1).2⟩ (by kernel_rfl)) ((g1752 2).1) ((g1752 2).2) ((hi1751.mem0 M_).at_ hg1753 2 ⟨Waiter, encWaiter, y1747.Queue.Waiting, (g1752 2).1, (g1752 2).2⟩ (by kernel_rfl)) (⟨y1757.Mask, y1757.Stack, (⟨y1757.Queue.Slots, y1757.Queue.Waiting⟩ : Queue)⟩ : Interface) ((g1762 0).1) ((g1762 0).2) ((hi1761.mem0 M_).at_ hg1763 0 ⟨Int, encI, y1757.Stack, (g1762 0).1, (g1762 0).2⟩ (by kernel_rfl)) ((g1762 1).1) ((g1762 1).2) ((hi1761.mem0 M_).at_ hg1763 1 ⟨Slot, encSlot, y1757.Queue.Slots, (g1762 1).1, (g1762 1).2⟩ (by kernel_rfl)) ((g1762 2).1) ((g1762 2).2) ((hi1761.mem0 M_).at_ hg1763 2 ⟨Waiter, encWaiter, y1757.Queue.Waiting, (g1762 2).1, (g1762 2).2⟩ (by kernel_rfl)) hr1767).mono fun e w2_ h_ => ⟨h_.1, M_.call0 h_.2⟩) ?_
        refine Z_runs [.bool (!r1767)] [(0, .slice p1408 x1406.length c1409), (1, .slice p1413 x1411.length c1414), (5, .int .i64 s1735), (26, .bool (!r1767))] (fun w_ => by kernel_rfl) (by kernel_rfl) ?_
        refine Z_end fun w1771 M1772 => ?_
        refine N_then ?_
        rcases gx_bif hm with ⟨hc1773, hm⟩ | ⟨hc1773, hm⟩
        · refine G_cond_t (b := (!r1767)) hc1773 (by kernel_rfl) ?_
          refine G_seq ?_
          refine G_region ?_
          refine W_run 1 [(4, .bool false)] w1771 (by kernel_rfl) ?_
          refine W_nil ?_
          refine N_then ?_
          refine G_ret ?_
          refine N_block_ret ?_
          refine N_then_ret ?_
          refine N_then_ret ?_
          obtain rfl := Option.some.inj hm
          obtain rfl := hout1737 _ rfl
          have hm := hmo1744; simp only [Sum.elim_inr] at hm
          refine N_block_ret ?_
          refine N_meet_ret ?_
          refine N_then_ret ?_
          obtain rfl := Option.some.inj hm
          refine N_ret [.bool false] (RVs_cons (RV_tmp (by kernel_rfl)) RVs_nil) ?_
          exact ⟨rfl, M1772.pick [] (by kernel_rfl)⟩
        · refine G_cond_f (b := (!r1767)) hc1773 (by kernel_rfl) ?_
          refine G_skip ?_
          refine N_block ?_
          refine N_then ?_
          refine G_region ?_
          refine W_run 3 [(0, .slice p1408 x1406.length c1409), (1, .slice p1413 x1411.length c1414), (5, .int .i64 (w64 (s1735 + 1)))] w1771 (by kernel_rfl) ?_
          refine W_nil ?_
          obtain rfl := Option.some.inj hm
          exact N_loop fun a ha => ⟨_, rfl, M1772.pick [] (by kernel_rfl), ha.sub (by kernel_rfl)⟩
      · refine G_cond_f (b := (decide (s1735 < (x1406.length : Int)))) hc1746 (by kernel_rfl) ?_
        refine G_exit ?_
        refine N_then_exit ?_
        refine N_then_exit ?_
        refine N_block_eq ?_
        obtain rfl := Option.some.inj hm
        obtain rfl := hout1737 _ rfl
        exact N_meet fun a ha => ⟨_, rfl, M1740.pick [] (by kernel_rfl), ha.sub (by kernel_rfl)⟩
    · intro a1774 w1775 ⟨o1745, hout_, M1776, hS1777⟩
      refine N_use hS1777 ?_
      subst hout_
      have hm := hmo1744; simp only [Sum.elim_inl] at hm
      refine N_then ?_
      refine G_seq ?_
      refine G_region ?_
      refine W_run 1 [(4, .bool true)] w1775 (by kernel_rfl) ?_
      refine W_nil ?_
      refine N_then ?_
      refine G_ret ?_
      obtain rfl := Option.some.inj hm
      refine N_ret [.bool true] (RVs_cons (RV_tmp (by kernel_rfl)) RVs_nil) ?_
      exact ⟨rfl, M1776.pick [] (by kernel_rfl)⟩
theorem c_l_eqMachine (w : World) (x1237 : Machine) (p1239 : Option Addr) (c1240 : Nat) (h1241 : rdS encRoute w x1237.Routes p1239 c1240) (p1243 : Option Addr) (c1244 : Nat) (h1245 : rdS encB w x1237.Enabled p1243 c1244) (p1247 : Option Addr) (c1248 : Nat) (h1249 : rdS encB w x1237.Raised p1247 c1248) (p1251 : Option Addr) (c1252 : Nat) (h1253 : rdD deepInterface w x1237.Cpus p1251 c1252) (x1254 : Machine) (p1256 : Option Addr) (c1257 : Nat) (h1258 : rdS encRoute w x1254.Routes p1256 c1257) (p1260 : Option Addr) (c1261 : Nat) (h1262 : rdS encB w x1254.Enabled p1260 c1261) (p1264 : Option Addr) (c1265 : Nat) (h1266 : rdS encB w x1254.Raised p1264 c1265) (p1268 : Option Addr) (c1269 : Nat) (h1270 : rdD deepInterface w x1254.Cpus p1268 c1269) {r : Bool} (hm : M.l_eqMachine x1237 x1254 = some r) :
    Calls Try.prog 8 #[.agg #[.slice p1239 x1237.Routes.length c1240, .slice p1243 x1237.Enabled.length c1244, .slice p1247 x1237.Raised.length c1248, .slice p1251 x1237.Cpus.length c1252], .agg #[.slice p1256 x1254.Routes.length c1257, .slice p1260 x1254.Enabled.length c1261, .slice p1264 x1254.Raised.length c1265, .slice p1268 x1254.Cpus.length c1269]] w fun e w' => e = .returned (.bool r) ∧ Mem [] w w' [] := by
  unfold M.l_eqMachine at hm
  refine C_enter Try.func8 rfl (by kernel_rfl) ?_
  have M0 := Mem.refl [] w
  refine G_seq ?_
  refine G_region ?_
  refine W_new (fun b => .pointer (some ⟨b, 0, none⟩)) (.cells ⟨[.slice p1239 x1237.Routes.length c1240, .slice p1243 x1237.Enabled.length c1244, .slice p1247 x1237.Raised.length c1248, .slice p1251 x1237.Cpus.length c1252]⟩ 28 (0, 0)) M0 rfl (by kernel_rfl) (by kernel_rfl) ?_
  intro b1272 w1273 M1274
  refine W_new (fun b => .pointer (some ⟨b, 0, none⟩)) (.cells ⟨[.slice p1256 x1254.Routes.length c1257, .slice p1260 x1254.Enabled.length c1261, .slice p1264 x1254.Raised.length c1265, .slice p1268 x1254.Cpus.length c1269]⟩ 28 (0, 0)) M1274 rfl (by kernel_rfl) (by kernel_rfl) ?_
  intro b1276 w1277 M1278
  refine W_run 1 [(2, .pointer (some ⟨b1272, 0, none⟩)), (3, .pointer (some ⟨b1276, 0, none⟩))] w1277 (by kernel_rfl) ?_
  refine W_nil ?_
  refine N_then ?_
  refine G_seq ?_
  refine G_seq ?_
  refine G_region ?_
  refine W_run 1 [(2, .pointer (some ⟨b1272, 0, none⟩)), (3, .pointer (some ⟨b1276, 0, none⟩)), (5, .pointer (some ⟨b1272, 0, none⟩))] w1277 (by kernel_rfl) ?_
  refine W_val (.slice p1239 x1237.Routes.length c1240) w1277 (by kernel_rfl) (E_load (e := 28) (fr := (0, 0)) _ _ false 1 b1272 0 [.slice p1239 x1237.Routes.length c1240, .slice p1243 x1237.Enabled.length c1244, .slice p1247 x1237.Raised.length c1248, .slice p1251 x1237.Cpus.length c1252] (.slice p1239 x1237.Routes.length c1240) rfl (by kernel_rfl) (by kernel_rfl) (by kernel_rfl) (M1278.blk 0 (b := b1272) (o := .cells ⟨[.slice p1239 x1237.Routes.length c1240, .slice p1243 x1237.Enabled.length c1244, .slice p1247 x1237.Raised.length c1248, .slice p1251 x1237.Cpus.length c1252]⟩ 28 (0, 0)) (by kernel_rfl))) ?_
  refine W_run 1 [(2, .pointer (some ⟨b1272, 0, none⟩)), (3, .pointer (some ⟨b1276, 0, none⟩)), (6, .slice p1239 x1237.Routes.length c1240), (7, .pointer (some ⟨b1276, 0, none⟩))] w1277 (by kernel_rfl) ?_
  refine W_val (.slice p1256 x1254.Routes.length c1257) w1277 (by kernel_rfl) (E_load (e := 28) (fr := (0, 0)) _ _ false 1 b1276 0 [.slice p1256 x1254.Routes.length c1257, .slice p1260 x1254.Enabled.length c1261, .slice p1264 x1254.Raised.length c1265, .slice p1268 x1254.Cpus.length c1269] (.slice p1256 x1254.Routes.length c1257) rfl (by kernel_rfl) (by kernel_rfl) (by kernel_rfl) (M1278.blk 1 (b := b1276) (o := .cells ⟨[.slice p1256 x1254.Routes.length c1257, .slice p1260 x1254.Enabled.length c1261, .slice p1264 x1254.Raised.length c1265, .slice p1268 x1254.Cpus.length c1269]⟩ 28 (0, 0)) (by kernel_rfl))) ?_
  obtain ⟨r1347, hr1347, hm⟩ := gx_bind hm
  refine W_call 9 #[.slice p1239 x1237.Routes.length c1240, .slice p1256 x1254.Routes.length c1257] (by kernel_rfl) (by kernel_rfl) ?_
  refine (c_l_eqRouteS w1277 x1237.Routes p1239 c1240 (h1241.mem0 M1278) x1254.Routes p1256 c1257 (h1258.mem0 M1278) hr1347).mono ?_
  rintro e_ w1348 ⟨rfl, K1349⟩
  have M1350 := M1278.call0 K1349
  refine ⟨_, rfl, ?_⟩
  refine W_run 1 [(2, .pointer (some ⟨b1272, 0, none⟩)), (3, .pointer (some ⟨b1276, 0, none⟩)), (10, .bool (!r1347))] w1348 (by kernel_rfl) ?_
  refine W_nil ?_
  refine N_then ?_
  rcases gx_bif hm with ⟨hc1351, hm⟩ | ⟨hc1351, hm⟩
  · refine G_cond_t (b := (!r1347)) hc1351 (by kernel_rfl) ?_
    refine G_seq ?_
    refine G_region ?_
    refine W_run 1 [(4, .bool false)] w1348 (by kernel_rfl) ?_
    refine W_nil ?_
    refine N_then ?_
    refine G_ret ?_
    refine N_then_ret ?_
    obtain rfl := Option.some.inj hm
    refine N_ret [.bool false] (RVs_cons (RV_tmp (by kernel_rfl)) RVs_nil) ?_
    exact ⟨rfl, M1350.pick [] (by kernel_rfl)⟩
  · refine G_cond_f (b := (!r1347)) hc1351 (by kernel_rfl) ?_
    refine G_skip ?_
    refine N_then ?_
    refine G_seq ?_
    refine G_seq ?_
    refine G_region ?_
    refine W_run 1 [(2, .pointer (some ⟨b1272, 0, none⟩)), (3, .pointer (some ⟨b1276, 0, none⟩)), (11, .pointer (some ⟨b1272, 1, none⟩))] w1348 (by kernel_rfl) ?_
    refine W_val (.slice p1243 x1237.Enabled.length c1244) w1348 (by kernel_rfl) (E_load (e := 28) (fr := (0, 0)) _ _ false 1 b1272 1 [.slice p1239 x1237.Routes.length c1240, .slice p1243 x1237.Enabled.length c1244, .slice p1247 x1237.Raised.length c1248, .slice p1251 x1237.Cpus.length c1252] (.slice p1243 x1237.Enabled.length c1244) rfl (by kernel_rfl) (by kernel_rfl) (by kernel_rfl) (M1350.blk 0 (b := b1272) (o := .cells ⟨[.slice p1239 x1237.Routes.length c1240, .slice p1243 x1237.Enabled.length c1244, .slice p1247 x1237.Raised.length c1248, .slice p1251 x1237.Cpus.length c1252]⟩ 28 (0, 0)) (by kernel_rfl))) ?_
    refine W_run 1 [(2, .pointer (some ⟨b1272, 0, none⟩)), (3, .pointer (some ⟨b1276, 0, none⟩)), (12, .slice p1243 x1237.Enabled.length c1244), (13, .pointer (some ⟨b1276, 1, none⟩))] w1348 (by kernel_rfl) ?_
    refine W_val (.slice p1260 x1254.Enabled.length c1261) w1348 (by kernel_rfl) (E_load (e := 28) (fr := (0, 0)) _ _ false 1 b1276 1 [.slice p1256 x1254.Routes.length c1257, .slice p1260 x1254.Enabled.length c1261, .slice p1264 x1254.Raised.length c1265, .slice p1268 x1254.Cpus.length c1269] (.slice p1260 x1254.Enabled.length c1261) rfl (by kernel_rfl) (by kernel_rfl) (by kernel_rfl) (M1350.blk 1 (b := b1276) (o := .cells ⟨[.slice p1256 x1254.Routes.length c1257, .slice p1260 x1254.Enabled.length c1261, .slice p1264 x1254.Raised.length c1265, .slice p1268 x1254.Cpus.length c1269]⟩ 28 (0, 0)) (by kernel_rfl))) ?_
    obtain ⟨r1396, hr1396, hm⟩ := gx_bind hm
    refine W_call 16 #[.slice p1243 x1237.Enabled.length c1244, .slice p1260 x1254.Enabled.length c1261] (by kernel_rfl) (by kernel_rfl) ?_
    refine (c_l_eqBoolS w1348 x1237.Enabled p1243 c1244 (h1245.mem0 M1350) x1254.Enabled p1260 c1261 (h1262.mem0 M1350) hr1396).mono ?_
    rintro e_ w1397 ⟨rfl, K1398⟩
    have M1399 := M1350.call0 K1398
    refine ⟨_, rfl, ?_⟩
    refine W_run 1 [(2, .pointer (some ⟨b1272, 0, none⟩)), (3, .pointer (some ⟨b1276, 0, none⟩)), (16, .bool (!r1396))] w1397 (by kernel_rfl) ?_
    refine W_nil ?_
    refine N_then ?_
    rcases gx_bif hm with ⟨hc1400, hm⟩ | ⟨hc1400, hm⟩
    · refine G_cond_t (b := (!r1396)) hc1400 (by kernel_rfl) ?_
      refine G_seq ?_
      refine G_region ?_
      refine W_run 1 [(4, .bool false)] w1397 (by kernel_rfl) ?_
      refine W_nil ?_
      refine N_then ?_
      refine G_ret ?_
      refine N_then_ret ?_
      obtain rfl := Option.some.inj hm
      refine N_ret [.bool false] (RVs_cons (RV_tmp (by kernel_rfl)) RVs_nil) ?_
      exact ⟨rfl, M1399.pick [] (by kernel_rfl)⟩
    · refine G_cond_f (b := (!r1396)) hc1400 (by kernel_rfl) ?_
      refine G_skip ?_
      refine N_then ?_
      refine G_seq ?_
      refine G_seq ?_
      refine G_region ?_
      refine W_run 1 [(2, .pointer (some ⟨b1272, 0, none⟩)), (3, .pointer (some ⟨b1276, 0, none⟩)), (17, .pointer (some ⟨b1272, 2, none⟩))] w1397 (by kernel_rfl) ?_
      refine W_val (.slice p1247 x1237.Raised.length c1248) w1397 (by kernel_rfl) (E_load (e := 28) (fr := (0, 0)) _ _ false 1 b1272 2 [.slice p1239 x1237.Routes.length c1240, .slice p1243 x1237.Enabled.length c1244, .slice p1247 x1237.Raised.length c1248, .slice p1251 x1237.Cpus.length c1252] (.slice p1247 x1237.Raised.length c1248) rfl (by kernel_rfl) (by kernel_rfl) (by kernel_rfl) (M1399.blk 0 (b := b1272) (o := .cells ⟨[.slice p1239 x1237.Routes.length c1240, .slice p1243 x1237.Enabled.length c1244, .slice p1247 x1237.Raised.length c1248, .slice p1251 x1237.Cpus.length c1252]⟩ 28 (0, 0)) (by kernel_rfl))) ?_
      refine W_run 1 [(2, .pointer (some ⟨b1272, 0, none⟩)), (3, .pointer (some ⟨b1276, 0, none⟩)), (18, .slice p1247 x1237.Raised.length c1248), (19, .pointer (some ⟨b1276, 2, none⟩))] w1397 (by kernel_rfl) ?_
      refine W_val (.slice p1264 x1254.Raised.length c1265) w1397 (by kernel_rfl) (E_load (e := 28) (fr := (0, 0)) _ _ false 1 b1276 2 [.slice p1256 x1254.Routes.length c1257, .slice p1260 x1254.Enabled.length c1261, .slice p1264 x1254.Raised.length c1265, .slice p1268 x1254.Cpus.length c1269] (.slice p1264 x1254.Raised.length c1265) rfl (by kernel_rfl) (by kernel_rfl) (by kernel_rfl) (M1399.blk 1 (b := b1276) (o := .cells ⟨[.slice p1256 x1254.Routes.length c1257, .slice p1260 x1254.Enabled.length c1261, .slice p1264 x1254.Raised.length c1265, .slice p1268 x1254.Cpus.length c1269]⟩ 28 (0, 0)) (by kernel_rfl))) ?_
      obtain ⟨r1401, hr1401, hm⟩ := gx_bind hm
      refine W_call 16 #[.slice p1247 x1237.Raised.length c1248, .slice p1264 x1254.Raised.length c1265] (by kernel_rfl) (by kernel_rfl) ?_
      refine (c_l_eqBoolS w1397 x1237.Raised p1247 c1248 (h1249.mem0 M1399) x1254.Raised p1264 c1265 (h1266.mem0 M1399) hr1401).mono ?_
      rintro e_ w1402 ⟨rfl, K1403⟩
      have M1404 := M1399.call0 K1403
      refine ⟨_, rfl, ?_⟩
      refine W_run 1 [(2, .pointer (some ⟨b1272, 0, none⟩)), (3, .pointer (some ⟨b1276, 0, none⟩)), (22, .bool (!r1401))] w1402 (by kernel_rfl) ?_
      refine W_nil ?_
      refine N_then ?_
      rcases gx_bif hm with ⟨hc1405, hm⟩ | ⟨hc1405, hm⟩
      · refine G_cond_t (b := (!r1401)) hc1405 (by kernel_rfl) ?_
        refine G_seq ?_
        refine G_region ?_
        refine W_run 1 [(4, .bool false)] w1402 (by kernel_rfl) ?_
        refine W_nil ?_
        refine N_then ?_
        refine G_ret ?_
        refine N_then_ret ?_
        obtain rfl := Option.some.inj hm
        refine N_ret [.bool false] (RVs_cons (RV_tmp (by kernel_rfl)) RVs_nil) ?_
        exact ⟨rfl, M1404.pick [] (by kernel_rfl)⟩
      · refine G_cond_f (b := (!r1401)) hc1405 (by kernel_rfl) ?_
        refine G_skip ?_
        refine N_then ?_
        refine G_seq ?_
        refine G_seq ?_
        refine G_region ?_
        refine W_run 1 [(3, .pointer (some ⟨b1276, 0, none⟩)), (23, .pointer (some ⟨b1272, 3, none⟩))] w1402 (by kernel_rfl) ?_
        refine W_val (.slice p1251 x1237.Cpus.length c1252) w1402 (by kernel_rfl) (E_load (e := 28) (fr := (0, 0)) _ _ false 1 b1272 3 [.slice p1239 x1237.Routes.length c1240, .slice p1243 x1237.Enabled.length c1244, .slice p1247 x1237.Raised.length c1248, .slice p1251 x1237.Cpus.length c1252] (.slice p1251 x1237.Cpus.length c1252) rfl (by kernel_rfl) (by kernel_rfl) (by kernel_rfl) (M1404.blk 0 (b := b1272) (o := .cells ⟨[.slice p1239 x1237.Routes.length c1240, .slice p1243 x1237.Enabled.length c1244, .slice p1247 x1237.Raised.length c1248, .slice p1251 x1237.Cpus.length c1252]⟩ 28 (0, 0)) (by kernel_rfl))) ?_
        refine W_run 1 [(24, .slice p1251 x1237.Cpus.length c1252), (25, .pointer (some ⟨b1276, 3, none⟩))] w1402 (by kernel_rfl) ?_
        refine W_val (.slice p1268 x1254.Cpus.length c1269) w1402 (by kernel_rfl) (E_load (e := 28) (fr := (0, 0)) _ _ false 1 b1276 3 [.slice p1256 x1254.Routes.length c1257, .slice p1260 x1254.Enabled.length c1261, .slice p1264 x1254.Raised.length c1265, .slice p1268 x1254.Cpus.length c1269] (.slice p1268 x1254.Cpus.length c1269) rfl (by kernel_rfl) (by kernel_rfl) (by kernel_rfl) (M1404.blk 1 (b := b1276) (o := .cells ⟨[.slice p1256 x1254.Routes.length c1257, .slice p1260 x1254.Enabled.length c1261, .slice p1264 x1254.Raised.length c1265, .slice p1268 x1254.Cpus.length c1269]⟩ 28 (0, 0)) (by kernel_rfl))) ?_
        obtain ⟨r1778, hr1778, hm⟩ := gx_bind hm
        refine W_call 17 #[.slice p1251 x1237.Cpus.length c1252, .slice p1268 x1254.Cpus.length c1269] (by kernel_rfl) (by kernel_rfl) ?_
        refine (c_l_eqInterfaceS w1402 x1237.Cpus p1251 c1252 (h1253.mem0 M1404) x1254.Cpus p1268 c1269 (h1270.mem0 M1404) hr1778).mono ?_
        rintro e_ w1779 ⟨rfl, K1780⟩
        have M1781 := M1404.call0 K1780
        refine ⟨_, rfl, ?_⟩
        refine W_run 1 [(28, .bool (!r1778))] w1779 (by kernel_rfl) ?_
        refine W_nil ?_
        refine N_then ?_
        rcases gx_bif hm with ⟨hc1782, hm⟩ | ⟨hc1782, hm⟩
        · refine G_cond_t (b := (!r1778)) hc1782 (by kernel_rfl) ?_
          refine G_seq ?_
          refine G_region ?_
          refine W_run 1 [(4, .bool false)] w1779 (by kernel_rfl) ?_
          refine W_nil ?_
          refine N_then ?_
          refine G_ret ?_
          refine N_then_ret ?_
          obtain rfl := Option.some.inj hm
          refine N_ret [.bool false] (RVs_cons (RV_tmp (by kernel_rfl)) RVs_nil) ?_
          exact ⟨rfl, M1781.pick [] (by kernel_rfl)⟩
        · refine G_cond_f (b := (!r1778)) hc1782 (by kernel_rfl) ?_
          refine G_skip ?_
          refine N_then ?_
          refine G_seq ?_
          refine G_region ?_
          refine W_run 1 [(4, .bool true)] w1779 (by kernel_rfl) ?_
          refine W_nil ?_
          refine N_then ?_
          refine G_ret ?_
          obtain rfl := Option.some.inj hm
          refine N_ret [.bool true] (RVs_cons (RV_tmp (by kernel_rfl)) RVs_nil) ?_
          exact ⟨rfl, M1781.pick [] (by kernel_rfl)⟩
theorem c_l_markRouteS (w : World) (x1815 : List Route) (p1817 : Option Addr) (c1818 : Nat) (sg1819 : Seg) (ho1820 : ownS encRoute x1815 p1817 c1818 sg1819) (x1821 : Int) (hA : ∀ q ∈ List.flatten [sg1819], w.heap[q.1]? = some q.2) (hN : (idsOf [sg1819]).Nodup) {r : Int × (List Route)} (hm : M.l_markRouteS x1815 x1821 = some r) :
    Calls Try.prog 10 #[.slice p1817 x1815.length c1818, .int .i64 x1821] w fun e w' => ∃ (sg1822 : Seg), e = .returned (.int .i64 r.1) ∧ ownS encRoute r.2 p1817 c1818 sg1822 ∧ r.2.length = x1815.length ∧ Mem (idsOf [sg1819]) w w' [sg1822] := by
  unfold M.l_markRouteS at hm
  refine C_enter Try.func10 rfl (by kernel_rfl) ?_
  have M0 := Mem.start' w [sg1819] hA hN
  refine G_seq ?_
  refine G_region ?_
  refine W_run 1 [(0, .slice p1817 x1815.length c1818), (1, .int .i64 x1821)] w (by kernel_rfl) ?_
  refine W_nil ?_
  refine N_then ?_
  refine G_seq ?_
  refine G_seq ?_
  refine G_region ?_
  refine W_run 1 [(0, .slice p1817 x1815.length c1818), (1, .int .i64 x1821), (5, .int .i64 0)] w (by kernel_rfl) ?_
  refine W_nil ?_
  refine N_then ?_
  obtain ⟨out1855, hw1856, hmo1857⟩ := gx_bind hm
  refine G_meet (fun a w' => ∃ (sg1862 : Seg), ownS encRoute out1855.2 p1817 c1818 sg1862 ∧ out1855.2.length = x1815.length ∧ Mem (idsOf [sg1819]) w w' [sg1862] ∧ Sat Try.f10.ntmps [(1, .int .i64 out1855.1)] a) ?_ ?_
  · refine G_block ?_
    refine G_while (σ := Int × Int × List Route) (ρ := Int × List Route) (fun s1848 a w' => ∃ (sg1858 : Seg), ownS encRoute s1848.2.2 p1817 c1818 sg1858 ∧ s1848.2.2.length = x1815.length ∧ Mem (idsOf [sg1819]) w w' [sg1858] ∧ Sat Try.f10.ntmps [(0, .slice p1817 s1848.2.2.length c1818), (1, .int .i64 s1848.1), (5, .int .i64 s1848.2.1)] a) hw1856 (fun a ha => ⟨sg1819, ho1820, rfl, M0.pick [0] (by kernel_rfl), ha.sub (by kernel_rfl)⟩) ?_
    clear hm
    intro s1848 x1849 hm hout1850 a1851 w1852 ⟨sg1858, ho1859, hl1860, M1853, hS1854⟩
    refine G_use hS1854 ?_
    refine G_seq ?_
    refine G_seq ?_
    refine G_region ?_
    refine W_run 4 [(0, .slice p1817 s1848.2.2.length c1818), (1, .int .i64 s1848.1), (5, .int .i64 s1848.2.1), (9, .bool (decide (s1848.2.1 < (s1848.2.2.length : Int))))] w1852 (by kernel_rfl) ?_
    refine W_nil ?_
    refine N_then ?_
    rcases gx_bif hm with ⟨hc1865, hm⟩ | ⟨hc1865, hm⟩
    · refine G_cond_t (b := (decide (s1848.2.1 < (s1848.2.2.length : Int)))) hc1865 (by kernel_rfl) ?_
      refine G_skip ?_
      refine N_then ?_
      refine G_seq ?_
      refine G_block ?_
      refine G_seq ?_
      refine G_region ?_
      refine W_run 3 [(0, .slice p1817 s1848.2.2.length c1818), (1, .int .i64 s1848.1), (5, .int .i64 s1848.2.1), (12, .slice p1817 s1848.2.2.length c1818), (13, .int .i64 s1848.2.1), (14, .int .i64 s1848.1)] w1852 (by kernel_rfl) ?_
      obtain ⟨y1866, hy1866, hm⟩ := gx_bind hm
      refine W_val (elemP p1817 (s1848.2.1.toNat * 2)) w1852 (by kernel_rfl) (E_index (E := encRoute) _ _ _ s1848.2.2.length c1818 .i64 s1848.2.1 2 (y := y1866) rfl (by kernel_rfl) (by kernel_rfl) (by kernel_rfl) (ho1859.rd M1853 0 (by kernel_rfl)) rfl hy1866) ?_
      refine W_val (elemP p1817 (s1848.2.1.toNat * 2 + 0)) w1852 (by kernel_rfl) (E_fieldE (E := encRoute) _ _ 0 (s1848.2.1.toNat * 2) 0 rfl (by kernel_rfl) (by kernel_rfl) (ho1859.rd M1853 0 (by kernel_rfl)) hy1866) ?_
      refine W_storeE (E := encRoute) _ _ _ false 1 s1848.2.1.toNat 0 (s1848.2.1.toNat * 2 + 0) y1866 (⟨s1848.1, y1866.Target⟩ : Route) (.int .i64 s1848.1) 0 M1853 ho1859 (by kernel_rfl) (by kernel_rfl) rfl (by kernel_rfl) (by kernel_rfl) (by kernel_rfl) (by kernel_rfl) (by kernel_rfl) (by kernel_rfl) (by kernel_rfl) (gxIdx_spec hy1866).2 rfl ?_
      intro w1867 sg1869 ho1870 M1868
      refine W_conv 0 (.slice p1817 s1848.2.2.length c1818) (.slice p1817 (s1848.2.2.set s1848.2.1.toNat (⟨s1848.1, y1866.Target⟩ : Route)).length c1818) (by kernel_rfl) (by rw [@List.length_set _ s1848.2.2 s1848.2.1.toNat (⟨s1848.1, y1866.Target⟩ : Route)]) ?_
      refine W_conv 12 (.slice p1817 s1848.2.2.length c1818) (.slice p1817 (s1848.2.2.set s1848.2.1.toNat (⟨s1848.1, y1866.Target⟩ : Route)).length c1818) (by kernel_rfl) (by rw [@List.length_set _ s1848.2.2 s1848.2.1.toNat (⟨s1848.1, y1866.Target⟩ : Route)]) ?_
      refine W_nil ?_
      refine N_then ?_
      refine G_seq ?_
      refine G_region ?_
      refine W_run 3 [(0, .slice p1817 (s1848.2.2.set s1848.2.1.toNat (⟨s1848.1, y1866.Target⟩ : Route)).length c1818), (1, .int .i64 (w64 (s1848.1 + 1))), (5, .int .i64 s1848.2.1)] w1867 (by kernel_rfl) ?_
      refine W_nil ?_
      refine N_then ?_
      refine G_seq ?_
      refine G_region ?_
      refine W_run 3 [(0, .slice p1817 (s1848.2.2.set s1848.2.1.toNat (⟨s1848.1, y1866.Target⟩ : Route)).length c1818), (1, .int .i64 (w64 (s1848.1 + 1))), (5, .int .i64 s1848.2.1), (19, .slice p1817 (s1848.2.2.set s1848.2.1.toNat (⟨s1848.1, y1866.Target⟩ : Route)).length c1818), (20, .int .i64 s1848.2.1), (21, .int .i64 (w64 (s1848.1 + 1)))] w1867 (by kernel_rfl) ?_
      obtain ⟨y1871, hy1871, hm⟩ := gx_bind hm
      refine W_val (elemP p1817 (s1848.2.1.toNat * 2)) w1867 (by kernel_rfl) (E_index (E := encRoute) _ _ _ (s1848.2.2.set s1848.2.1.toNat (⟨s1848.1, y1866.Target⟩ : Route)).length c1818 .i64 s1848.2.1 2 (y := y1871) rfl (by kernel_rfl) (by kernel_rfl) (by kernel_rfl) (ho1870.rd M1868 0 (by kernel_rfl)) rfl hy1871) ?_
      refine W_val (elemP p1817 (s1848.2.1.toNat * 2 + 1)) w1867 (by kernel_rfl) (E_fieldE (E := encRoute) _ _ 1 (s1848.2.1.toNat * 2) 1 rfl (by kernel_rfl) (by kernel_rfl) (ho1870.rd M1868 0 (by kernel_rfl)) hy1871) ?_
      refine W_storeE (E := encRoute) _ _ _ false 1 s1848.2.1.toNat 1 (s1848.2.1.toNat * 2 + 1) y1871 (⟨y1871.Priority, w64 (s1848.1 + 1)⟩ : Route) (.int .i64 (w64 (s1848.1 + 1))) 0 M1868 ho1870 (by kernel_rfl) (by kernel_rfl) rfl (by kernel_rfl) (by kernel_rfl) (by kernel_rfl) (by kernel_rfl) (by kernel_rfl) (by kernel_rfl) (by kernel_rfl) (gxIdx_spec hy1871).2 rfl ?_
      intro w1872 sg1874 ho1875 M1873
      refine W_conv 0 (.slice p1817 (s1848.2.2.set s1848.2.1.toNat (⟨s1848.1, y1866.Target⟩ : Route)).length c1818) (.slice p1817 ((s1848.2.2.set s1848.2.1.toNat (⟨s1848.1, y1866.Target⟩ : Route)).set s1848.2.1.toNat (⟨y1871.Priority, w64 (s1848.1 + 1)⟩ : Route)).length c1818) (by kernel_rfl) (by rw [@List.length_set _ (s1848.2.2.set s1848.2.1.toNat (⟨s1848.1, y1866.Target⟩ : Route)) s1848.2.1.toNat (⟨y1871.Priority, w64 (s1848.1 + 1)⟩ : Route)]) ?_
      refine W_conv 19 (.slice p1817 (s1848.2.2.set s1848.2.1.toNat (⟨s1848.1, y1866.Target⟩ : Route)).length c1818) (.slice p1817 ((s1848.2.2.set s1848.2.1.toNat (⟨s1848.1, y1866.Target⟩ : Route)).set s1848.2.1.toNat (⟨y1871.Priority, w64 (s1848.1 + 1)⟩ : Route)).length c1818) (by kernel_rfl) (by rw [@List.length_set _ (s1848.2.2.set s1848.2.1.toNat (⟨s1848.1, y1866.Target⟩ : Route)) s1848.2.1.toNat (⟨y1871.Priority, w64 (s1848.1 + 1)⟩ : Route)]) ?_
      refine W_nil ?_
      refine N_then ?_
      refine G_region ?_
      refine W_run 3 [(0, .slice p1817 ((s1848.2.2.set s1848.2.1.toNat (⟨s1848.1, y1866.Target⟩ : Route)).set s1848.2.1.toNat (⟨y1871.Priority, w64 (s1848.1 + 1)⟩ : Route)).length c1818), (1, .int .i64 (w64 ((w64 (s1848.1 + 1)) + 1))), (5, .int .i64 s1848.2.1)] w1872 (by kernel_rfl) ?_
      refine W_nil ?_
      refine N_block ?_
      refine N_then ?_
      refine G_region ?_
      refine W_run 3 [(0, .slice p1817 ((s1848.2.2.set s1848.2.1.toNat (⟨s1848.1, y1866.Target⟩ : Route)).set s1848.2.1.toNat (⟨y1871.Priority, w64 (s1848.1 + 1)⟩ : Route)).length c1818), (1, .int .i64 (w64 ((w64 (s1848.1 + 1)) + 1))), (5, .int .i64 (w64 (s1848.2.1 + 1)))] w1872 (by kernel_rfl) ?_
      refine W_nil ?_
      obtain rfl := Option.some.inj hm
      exact N_loop fun a ha => ⟨_, rfl, sg1874, ho1875, (List.length_set.trans (List.length_set.trans hl1860)), M1873.pick [0] (by kernel_rfl), ha.sub (by kernel_rfl)⟩
    · refine G_cond_f (b := (decide (s1848.2.1 < (s1848.2.2.length : Int)))) hc1865 (by kernel_rfl) ?_
      refine G_exit ?_
      refine N_then_exit ?_
      refine N_then_exit ?_
      refine N_block_eq ?_
      obtain rfl := Option.some.inj hm
      obtain rfl := hout1850 _ rfl
      exact N_meet fun a ha => ⟨sg1858, ho1859, hl1860, M1853.pick [0] (by kernel_rfl), ha.sub (by kernel_rfl)⟩
  · intro a1876 w1877 ⟨sg1862, ho1863, hl1864, M1878, hS1879⟩
    refine N_use hS1879 ?_
    have hm := hmo1857
    refine N_then ?_
    refine G_seq ?_
    refine G_region ?_
    refine W_run 2 [(4, .int .i64 out1855.1)] w1877 (by kernel_rfl) ?_
    refine W_nil ?_
    refine N_then ?_
    refine G_ret ?_
    obtain rfl := Option.some.inj hm
    refine N_ret [.int .i64 out1855.1] (RVs_cons (RV_tmp (by kernel_rfl)) RVs_nil) ?_
    exact ⟨sg1862, rfl, ho1863, hl1864, M1878.pick [0] (by kernel_rfl)⟩
theorem c_l_markBoolS (w : World) (x1947 : List Bool) (p1949 : Option Addr) (c1950 : Nat) (sg1951 : Seg) (ho1952 : ownS encB x1947 p1949 c1950 sg1951) (x1953 : Int) (hA : ∀ q ∈ List.flatten [sg1951], w.heap[q.1]? = some q.2) (hN : (idsOf [sg1951]).Nodup) {r : Int × (List Bool)} (hm : M.l_markBoolS x1947 x1953 = some r) :
    Calls Try.prog 19 #[.slice p1949 x1947.length c1950, .int .i64 x1953] w fun e w' => ∃ (sg1954 : Seg), e = .returned (.int .i64 r.1) ∧ ownS encB r.2 p1949 c1950 sg1954 ∧ r.2.length = x1947.length ∧ Mem (idsOf [sg1951]) w w' [sg1954] := by
  unfold M.l_markBoolS at hm
  refine C_enter Try.func19 rfl (by kernel_rfl) ?_
  have M0 := Mem.start' w [sg1951] hA hN
  refine G_seq ?_
  refine G_region ?_
  refine W_run 1 [(0, .slice p1949 x1947.length c1950), (1, .int .i64 x1953)] w (by kernel_rfl) ?_
  refine W_nil ?_
  refine N_then ?_
  refine G_seq ?_
  refine G_seq ?_
  refine G_region ?_
  refine W_run 1 [(0, .slice p1949 x1947.length c1950), (1, .int .i64 x1953), (5, .int .i64 0)] w (by kernel_rfl) ?_
  refine W_nil ?_
  refine N_then ?_
  obtain ⟨out1977, hw1978, hmo1979⟩ := gx_bind hm
  refine G_meet (fun a w' => ∃ (sg1984 : Seg), ownS encB out1977.2 p1949 c1950 sg1984 ∧ out1977.2.length = x1947.length ∧ Mem (idsOf [sg1951]) w w' [sg1984] ∧ Sat Try.f19.ntmps [(1, .int .i64 out1977.1)] a) ?_ ?_
  · refine G_block ?_
    refine G_while (σ := Int × Int × List Bool) (ρ := Int × List Bool) (fun s1970 a w' => ∃ (sg1980 : Seg), ownS encB s1970.2.2 p1949 c1950 sg1980 ∧ s1970.2.2.length = x1947.length ∧ Mem (idsOf [sg1951]) w w' [sg1980] ∧ Sat Try.f19.ntmps [(0, .slice p1949 s1970.2.2.length c1950), (1, .int .i64 s1970.1), (5, .int .i64 s1970.2.1)] a) hw1978 (fun a ha => ⟨sg1951, ho1952, rfl, M0.pick [0] (by kernel_rfl), ha.sub (by kernel_rfl)⟩) ?_
    clear hm
    intro s1970 x1971 hm hout1972 a1973 w1974 ⟨sg1980, ho1981, hl1982, M1975, hS1976⟩
    refine G_use hS1976 ?_
    refine G_seq ?_
    refine G_seq ?_
    refine G_region ?_
    refine W_run 4 [(0, .slice p1949 s1970.2.2.length c1950), (1, .int .i64 s1970.1), (5, .int .i64 s1970.2.1), (9, .bool (decide (s1970.2.1 < (s1970.2.2.length : Int))))] w1974 (by kernel_rfl) ?_
    refine W_nil ?_
    refine N_then ?_
    rcases gx_bif hm with ⟨hc1987, hm⟩ | ⟨hc1987, hm⟩
    · refine G_cond_t (b := (decide (s1970.2.1 < (s1970.2.2.length : Int)))) hc1987 (by kernel_rfl) ?_
      refine G_skip ?_
      refine N_then ?_
      refine G_seq ?_
      refine G_block ?_
      refine G_seq ?_
      refine G_region ?_
      refine W_run 5 [(0, .slice p1949 s1970.2.2.length c1950), (1, .int .i64 s1970.1), (5, .int .i64 s1970.2.1), (12, .slice p1949 s1970.2.2.length c1950), (13, .int .i64 s1970.2.1), (16, .bool ((s1970.1.tmod 3) == 0))] w1974 (by kernel_rfl) ?_
      obtain ⟨y1988, hy1988, hm⟩ := gx_bind hm
      refine W_val (elemP p1949 (s1970.2.1.toNat * 1)) w1974 (by kernel_rfl) (E_index (E := encB) _ _ _ s1970.2.2.length c1950 .i64 s1970.2.1 1 (y := y1988) rfl (by kernel_rfl) (by kernel_rfl) (by kernel_rfl) (ho1981.rd M1975 0 (by kernel_rfl)) rfl hy1988) ?_
      refine W_storeE (E := encB) _ _ _ false 1 s1970.2.1.toNat 0 (s1970.2.1.toNat * 1) y1988 ((s1970.1.tmod 3) == 0) (.bool ((s1970.1.tmod 3) == 0)) 0 M1975 ho1981 (by kernel_rfl) (by kernel_rfl) rfl (by kernel_rfl) (by kernel_rfl) (by kernel_rfl) (by kernel_rfl) (by kernel_rfl) (by kernel_rfl) (by kernel_rfl) (gxIdx_spec hy1988).2 rfl ?_
      intro w1989 sg1991 ho1992 M1990
      refine W_conv 0 (.slice p1949 s1970.2.2.length c1950) (.slice p1949 (s1970.2.2.set s1970.2.1.toNat ((s1970.1.tmod 3) == 0)).length c1950) (by kernel_rfl) (by rw [@List.length_set _ s1970.2.2 s1970.2.1.toNat ((s1970.1.tmod 3) == 0)]) ?_
      refine W_conv 12 (.slice p1949 s1970.2.2.length c1950) (.slice p1949 (s1970.2.2.set s1970.2.1.toNat ((s1970.1.tmod 3) == 0)).length c1950) (by kernel_rfl) (by rw [@List.length_set _ s1970.2.2 s1970.2.1.toNat ((s1970.1.tmod 3) == 0)]) ?_
      refine W_nil ?_
      refine N_then ?_
      refine G_region ?_
      refine W_run 3 [(0, .slice p1949 (s1970.2.2.set s1970.2.1.toNat ((s1970.1.tmod 3) == 0)).length c1950), (1, .int .i64 (w64 (s1970.1 + 1))), (5, .int .i64 s1970.2.1)] w1989 (by kernel_rfl) ?_
      refine W_nil ?_
      refine N_block ?_
      refine N_then ?_
      refine G_region ?_
      refine W_run 3 [(0, .slice p1949 (s1970.2.2.set s1970.2.1.toNat ((s1970.1.tmod 3) == 0)).length c1950), (1, .int .i64 (w64 (s1970.1 + 1))), (5, .int .i64 (w64 (s1970.2.1 + 1)))] w1989 (by kernel_rfl) ?_
      refine W_nil ?_
      obtain rfl := Option.some.inj hm
      exact N_loop fun a ha => ⟨_, rfl, sg1991, ho1992, (List.length_set.trans hl1982), M1990.pick [0] (by kernel_rfl), ha.sub (by kernel_rfl)⟩
    · refine G_cond_f (b := (decide (s1970.2.1 < (s1970.2.2.length : Int)))) hc1987 (by kernel_rfl) ?_
      refine G_exit ?_
      refine N_then_exit ?_
      refine N_then_exit ?_
      refine N_block_eq ?_
      obtain rfl := Option.some.inj hm
      obtain rfl := hout1972 _ rfl
      exact N_meet fun a ha => ⟨sg1980, ho1981, hl1982, M1975.pick [0] (by kernel_rfl), ha.sub (by kernel_rfl)⟩
  · intro a1993 w1994 ⟨sg1984, ho1985, hl1986, M1995, hS1996⟩
    refine N_use hS1996 ?_
    have hm := hmo1979
    refine N_then ?_
    refine G_seq ?_
    refine G_region ?_
    refine W_run 2 [(4, .int .i64 out1977.1)] w1994 (by kernel_rfl) ?_
    refine W_nil ?_
    refine N_then ?_
    refine G_ret ?_
    obtain rfl := Option.some.inj hm
    refine N_ret [.int .i64 out1977.1] (RVs_cons (RV_tmp (by kernel_rfl)) RVs_nil) ?_
    exact ⟨sg1984, rfl, ho1985, hl1986, M1995.pick [0] (by kernel_rfl)⟩
theorem c_l_markIntS (w : World) (x2049 : List Int) (p2051 : Option Addr) (c2052 : Nat) (sg2053 : Seg) (ho2054 : ownS encI x2049 p2051 c2052 sg2053) (x2055 : Int) (hA : ∀ q ∈ List.flatten [sg2053], w.heap[q.1]? = some q.2) (hN : (idsOf [sg2053]).Nodup) {r : Int × (List Int)} (hm : M.l_markIntS x2049 x2055 = some r) :
    Calls Try.prog 31 #[.slice p2051 x2049.length c2052, .int .i64 x2055] w fun e w' => ∃ (sg2056 : Seg), e = .returned (.int .i64 r.1) ∧ ownS encI r.2 p2051 c2052 sg2056 ∧ r.2.length = x2049.length ∧ Mem (idsOf [sg2053]) w w' [sg2056] := by
  unfold M.l_markIntS at hm
  refine C_enter Try.func31 rfl (by kernel_rfl) ?_
  have M0 := Mem.start' w [sg2053] hA hN
  refine G_seq ?_
  refine G_region ?_
  refine W_run 1 [(0, .slice p2051 x2049.length c2052), (1, .int .i64 x2055)] w (by kernel_rfl) ?_
  refine W_nil ?_
  refine N_then ?_
  refine G_seq ?_
  refine G_seq ?_
  refine G_region ?_
  refine W_run 1 [(0, .slice p2051 x2049.length c2052), (1, .int .i64 x2055), (5, .int .i64 0)] w (by kernel_rfl) ?_
  refine W_nil ?_
  refine N_then ?_
  obtain ⟨out2079, hw2080, hmo2081⟩ := gx_bind hm
  refine G_meet (fun a w' => ∃ (sg2086 : Seg), ownS encI out2079.2 p2051 c2052 sg2086 ∧ out2079.2.length = x2049.length ∧ Mem (idsOf [sg2053]) w w' [sg2086] ∧ Sat Try.f31.ntmps [(1, .int .i64 out2079.1)] a) ?_ ?_
  · refine G_block ?_
    refine G_while (σ := Int × Int × List Int) (ρ := Int × List Int) (fun s2072 a w' => ∃ (sg2082 : Seg), ownS encI s2072.2.2 p2051 c2052 sg2082 ∧ s2072.2.2.length = x2049.length ∧ Mem (idsOf [sg2053]) w w' [sg2082] ∧ Sat Try.f31.ntmps [(0, .slice p2051 s2072.2.2.length c2052), (1, .int .i64 s2072.1), (5, .int .i64 s2072.2.1)] a) hw2080 (fun a ha => ⟨sg2053, ho2054, rfl, M0.pick [0] (by kernel_rfl), ha.sub (by kernel_rfl)⟩) ?_
    clear hm
    intro s2072 x2073 hm hout2074 a2075 w2076 ⟨sg2082, ho2083, hl2084, M2077, hS2078⟩
    refine G_use hS2078 ?_
    refine G_seq ?_
    refine G_seq ?_
    refine G_region ?_
    refine W_run 4 [(0, .slice p2051 s2072.2.2.length c2052), (1, .int .i64 s2072.1), (5, .int .i64 s2072.2.1), (9, .bool (decide (s2072.2.1 < (s2072.2.2.length : Int))))] w2076 (by kernel_rfl) ?_
    refine W_nil ?_
    refine N_then ?_
    rcases gx_bif hm with ⟨hc2089, hm⟩ | ⟨hc2089, hm⟩
    · refine G_cond_t (b := (decide (s2072.2.1 < (s2072.2.2.length : Int)))) hc2089 (by kernel_rfl) ?_
      refine G_skip ?_
      refine N_then ?_
      refine G_seq ?_
      refine G_block ?_
      refine G_seq ?_
      refine G_region ?_
      refine W_run 3 [(0, .slice p2051 s2072.2.2.length c2052), (1, .int .i64 s2072.1), (5, .int .i64 s2072.2.1), (12, .slice p2051 s2072.2.2.length c2052), (13, .int .i64 s2072.2.1), (14, .int .i64 s2072.1)] w2076 (by kernel_rfl) ?_
      obtain ⟨y2090, hy2090, hm⟩ := gx_bind hm
      refine W_val (elemP p2051 (s2072.2.1.toNat * 1)) w2076 (by kernel_rfl) (E_index (E := encI) _ _ _ s2072.2.2.length c2052 .i64 s2072.2.1 1 (y := y2090) rfl (by kernel_rfl) (by kernel_rfl) (by kernel_rfl) (ho2083.rd M2077 0 (by kernel_rfl)) rfl hy2090) ?_
      refine W_storeE (E := encI) _ _ _ false 1 s2072.2.1.toNat 0 (s2072.2.1.toNat * 1) y2090 s2072.1 (.int .i64 s2072.1) 0 M2077 ho2083 (by kernel_rfl) (by kernel_rfl) rfl (by kernel_rfl) (by kernel_rfl) (by kernel_rfl) (by kernel_rfl) (by kernel_rfl) (by kernel_rfl) (by kernel_rfl) (gxIdx_spec hy2090).2 rfl ?_
      intro w2091 sg2093 ho2094 M2092
      refine W_conv 0 (.slice p2051 s2072.2.2.length c2052) (.slice p2051 (s2072.2.2.set s2072.2.1.toNat s2072.1).length c2052) (by kernel_rfl) (by rw [@List.length_set _ s2072.2.2 s2072.2.1.toNat s2072.1]) ?_
      refine W_conv 12 (.slice p2051 s2072.2.2.length c2052) (.slice p2051 (s2072.2.2.set s2072.2.1.toNat s2072.1).length c2052) (by kernel_rfl) (by rw [@List.length_set _ s2072.2.2 s2072.2.1.toNat s2072.1]) ?_
      refine W_nil ?_
      refine N_then ?_
      refine G_region ?_
      refine W_run 3 [(0, .slice p2051 (s2072.2.2.set s2072.2.1.toNat s2072.1).length c2052), (1, .int .i64 (w64 (s2072.1 + 1))), (5, .int .i64 s2072.2.1)] w2091 (by kernel_rfl) ?_
      refine W_nil ?_
      refine N_block ?_
      refine N_then ?_
      refine G_region ?_
      refine W_run 3 [(0, .slice p2051 (s2072.2.2.set s2072.2.1.toNat s2072.1).length c2052), (1, .int .i64 (w64 (s2072.1 + 1))), (5, .int .i64 (w64 (s2072.2.1 + 1)))] w2091 (by kernel_rfl) ?_
      refine W_nil ?_
      obtain rfl := Option.some.inj hm
      exact N_loop fun a ha => ⟨_, rfl, sg2093, ho2094, (List.length_set.trans hl2084), M2092.pick [0] (by kernel_rfl), ha.sub (by kernel_rfl)⟩
    · refine G_cond_f (b := (decide (s2072.2.1 < (s2072.2.2.length : Int)))) hc2089 (by kernel_rfl) ?_
      refine G_exit ?_
      refine N_then_exit ?_
      refine N_then_exit ?_
      refine N_block_eq ?_
      obtain rfl := Option.some.inj hm
      obtain rfl := hout2074 _ rfl
      exact N_meet fun a ha => ⟨sg2082, ho2083, hl2084, M2077.pick [0] (by kernel_rfl), ha.sub (by kernel_rfl)⟩
  · intro a2095 w2096 ⟨sg2086, ho2087, hl2088, M2097, hS2098⟩
    refine N_use hS2098 ?_
    have hm := hmo2081
    refine N_then ?_
    refine G_seq ?_
    refine G_region ?_
    refine W_run 2 [(4, .int .i64 out2079.1)] w2096 (by kernel_rfl) ?_
    refine W_nil ?_
    refine N_then ?_
    refine G_ret ?_
    obtain rfl := Option.some.inj hm
    refine N_ret [.int .i64 out2079.1] (RVs_cons (RV_tmp (by kernel_rfl)) RVs_nil) ?_
    exact ⟨sg2086, rfl, ho2087, hl2088, M2097.pick [0] (by kernel_rfl)⟩
end Go.Proofs.Ytllhajkgkghhdaa
