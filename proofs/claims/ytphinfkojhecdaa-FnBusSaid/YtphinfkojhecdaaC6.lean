/- The walks, printed by program: whenever the model gives r, the call returns r. Part 6. -/
import Derived.Test.YtphinfkojhecdaaM
import Derived.Test.YtphinfkojhecdaaProg
import Derived.Test.YtphinfkojhecdaaC5
set_option linter.unusedVariables false
set_option maxRecDepth 100000
set_option maxHeartbeats 4000000
namespace Go.Proofs.Ytphinfkojhecdaa
open Go.Gx
theorem c_l_FnBus (w : World) (x7598 : List Int) (p7600 : Option Addr) (c7601 : Nat) (h7602 : rdS encU8 w x7598 p7600 c7601) {r : Bool} (hm : M.l_FnBus x7598 = some r) :
    Calls Try.prog 10 #[.slice p7600 x7598.length c7601] w fun e w' => e = .returned (.bool r) ∧ Mem [] w w' [] := by
  unfold M.l_FnBus at hm
  refine C_enter Try.func10 rfl (by kernel_rfl) ?_
  have M0 := Mem.refl [] w
  refine G_seq ?_
  refine G_region ?_
  refine W_run 1 [(0, .slice p7600 x7598.length c7601)] w (by kernel_rfl) ?_
  refine W_nil ?_
  refine N_then ?_
  refine G_seq ?_
  refine G_seq ?_
  refine G_region ?_
  refine W_run 1 [(0, .slice p7600 x7598.length c7601), (40, .slice p7600 x7598.length c7601)] w (by kernel_rfl) ?_
  obtain ⟨r7608, hr7608, hm⟩ := gx_bind hm
  refine W_call 40 #[.slice p7600 x7598.length c7601] (by kernel_rfl) (by kernel_rfl) ?_
  refine (c_l_rBig w x7598 p7600 c7601 (h7602.mem0 M0) hr7608).mono ?_
  rintro e_ w7609 ⟨rfl, K7610⟩
  have M7611 := M0.call0 K7610
  refine ⟨_, rfl, ?_⟩
  refine W_nil ?_
  refine N_then ?_
  rcases gx_bif hm with ⟨hc7612, hm⟩ | ⟨hc7612, hm⟩
  · refine G_cond_t (b := r7608) hc7612 (by kernel_rfl) ?_
    refine G_seq ?_
    refine G_region ?_
    refine W_run 1 [(2, .bool true)] w7609 (by kernel_rfl) ?_
    refine W_nil ?_
    refine N_then ?_
    refine G_ret ?_
    refine N_then_ret ?_
    obtain rfl := Option.some.inj hm
    refine N_ret [.bool true] (RVs_cons (RV_tmp (by kernel_rfl)) RVs_nil) ?_
    exact ⟨rfl, M7611.pick [] (by kernel_rfl)⟩
  · refine G_cond_f (b := r7608) hc7612 (by kernel_rfl) ?_
    refine G_skip ?_
    refine N_then ?_
    refine G_seq ?_
    refine G_region ?_
    refine W_run 1 [(0, .slice p7600 x7598.length c7601), (43, .slice p7600 x7598.length c7601)] w7609 (by kernel_rfl) ?_
    obtain ⟨r9268, hr9268, hm⟩ := gx_bind hm
    refine W_call 41 #[.slice p7600 x7598.length c7601] (by kernel_rfl) (by kernel_rfl) ?_
    refine (c_s_DrawRouteAccess w7609 x7598 p7600 c7601 (h7602.mem0 M7611) hr9268).mono ?_
    rintro e_ w9274 ⟨p9270, c9271, sg9272, rfl, ho9273, K9275⟩
    have M9276 := M7611.call K9275
    refine ⟨_, rfl, ?_⟩
    refine W_run 3 [(0, .slice p7600 x7598.length c7601), (45, .slice p9270 r9268.1.length c9271), (46, .agg #[.int .i64 r9268.2.Address, .int .i64 r9268.2.Width, .bool r9268.2.Store])] w9274 (by kernel_rfl) ?_
    refine W_new (fun b => .pointer (some ⟨b, 0, none⟩)) (.cells ⟨[.int .i64 0, .int .i64 0, .bool false]⟩ 36 (0, 0)) M9276 rfl (by kernel_rfl) (by kernel_rfl) ?_
    intro b9278 w9279 M9280
    refine W_run 1 [(0, .slice p7600 x7598.length c7601), (3, .slice p9270 r9268.1.length c9271), (4, .pointer (some ⟨b9278, 0, none⟩)), (46, .agg #[.int .i64 r9268.2.Address, .int .i64 r9268.2.Width, .bool r9268.2.Store])] w9279 (by kernel_rfl) ?_
    refine W_store _ _ _ true 3 b9278 0 [.int .i64 0, .int .i64 0, .bool false] 36 (.agg #[.int .i64 r9268.2.Address, .int .i64 r9268.2.Width, .bool r9268.2.Store]) 1 [.int .i64 r9268.2.Address, .int .i64 r9268.2.Width, .bool r9268.2.Store] M9280 (by kernel_rfl) rfl (by kernel_rfl) (by kernel_rfl) (by kernel_rfl) (by kernel_rfl) (by kernel_rfl) (by kernel_rfl) (by kernel_rfl) (by kernel_rfl) ?_
    intro w9281 M9282
    refine W_nil ?_
    refine N_then ?_
    refine G_seq ?_
    refine G_region ?_
    refine W_run 1 [(0, .slice p7600 x7598.length c7601), (3, .slice p9270 r9268.1.length c9271), (4, .pointer (some ⟨b9278, 0, none⟩)), (48, .slice p9270 r9268.1.length c9271)] w9281 (by kernel_rfl) ?_
    refine W_val (.agg #[.int .i64 r9268.2.Address, .int .i64 r9268.2.Width, .bool r9268.2.Store]) w9281 (by kernel_rfl) (E_load (e := 36) (fr := (0, 0)) _ _ true 3 b9278 0 [.int .i64 r9268.2.Address, .int .i64 r9268.2.Width, .bool r9268.2.Store] (.agg #[.int .i64 r9268.2.Address, .int .i64 r9268.2.Width, .bool r9268.2.Store]) rfl (by kernel_rfl) (by kernel_rfl) (by kernel_rfl) (M9282.blk 1 (b := b9278) (o := .cells ⟨[.int .i64 r9268.2.Address, .int .i64 r9268.2.Width, .bool r9268.2.Store]⟩ 36 (0, 0)) (by kernel_rfl))) ?_
    obtain ⟨r9283, hr9283, hm⟩ := gx_bind hm
    refine W_call 19 #[.slice p9270 r9268.1.length c9271, .agg #[.int .i64 r9268.2.Address, .int .i64 r9268.2.Width, .bool r9268.2.Store]] (by kernel_rfl) (by kernel_rfl) ?_
    refine (c_i_RouteAccess w9281 r9268.1 p9270 c9271 (ho9273.rd M9282 0 (by kernel_rfl)) r9268.2 hr9283).mono ?_
    rintro e_ w9284 ⟨rfl, K9285⟩
    have M9286 := M9282.call0 K9285
    refine ⟨_, rfl, ?_⟩
    refine W_run 9 [(0, .slice p7600 x7598.length c7601), (3, .slice p9270 r9268.1.length c9271), (4, .pointer (some ⟨b9278, 0, none⟩)), (5, .int .i64 r9283.1), (6, .int .i64 r9283.2.1), (7, .int .i64 r9283.2.2.1), (8, .bool r9283.2.2.2)] w9284 (by kernel_rfl) ?_
    refine W_nil ?_
    refine N_then ?_
    refine G_seq ?_
    refine G_seq ?_
    refine G_region ?_
    refine W_run 1 [(0, .slice p7600 x7598.length c7601), (3, .slice p9270 r9268.1.length c9271), (4, .pointer (some ⟨b9278, 0, none⟩)), (5, .int .i64 r9283.1), (6, .int .i64 r9283.2.1), (7, .int .i64 r9283.2.2.1), (8, .bool r9283.2.2.2), (56, .slice p9270 r9268.1.length c9271)] w9284 (by kernel_rfl) ?_
    refine W_val (.agg #[.int .i64 r9268.2.Address, .int .i64 r9268.2.Width, .bool r9268.2.Store]) w9284 (by kernel_rfl) (E_load (e := 36) (fr := (0, 0)) _ _ true 3 b9278 0 [.int .i64 r9268.2.Address, .int .i64 r9268.2.Width, .bool r9268.2.Store] (.agg #[.int .i64 r9268.2.Address, .int .i64 r9268.2.Width, .bool r9268.2.Store]) rfl (by kernel_rfl) (by kernel_rfl) (by kernel_rfl) (M9286.blk 1 (b := b9278) (o := .cells ⟨[.int .i64 r9268.2.Address, .int .i64 r9268.2.Width, .bool r9268.2.Store]⟩ 36 (0, 0)) (by kernel_rfl))) ?_
    obtain ⟨r9287, hr9287, hm⟩ := gx_bind hm
    refine W_call 16 #[.slice p9270 r9268.1.length c9271, .agg #[.int .i64 r9268.2.Address, .int .i64 r9268.2.Width, .bool r9268.2.Store]] (by kernel_rfl) (by kernel_rfl) ?_
    refine (c_s_RouteAccess w9284 r9268.1 p9270 c9271 (ho9273.rd M9286 0 (by kernel_rfl)) r9268.2 hr9287).mono ?_
    rintro e_ w9288 ⟨rfl, K9289⟩
    have M9290 := M9286.call0 K9289
    refine ⟨_, rfl, ?_⟩
    refine W_run 9 [(0, .slice p7600 x7598.length c7601), (3, .slice p9270 r9268.1.length c9271), (4, .pointer (some ⟨b9278, 0, none⟩)), (5, .int .i64 r9283.1), (6, .int .i64 r9283.2.1), (7, .int .i64 r9283.2.2.1), (8, .bool r9283.2.2.2), (9, .int .i64 r9287.1), (10, .int .i64 r9287.2.1), (11, .int .i64 r9287.2.2.1), (12, .bool r9287.2.2.2)] w9288 (by kernel_rfl) ?_
    refine W_nil ?_
    refine N_then ?_
    refine G_seq ?_
    obtain ⟨o9294, ho9295, hm9296⟩ := gx_bind hm
    refine G_meet (fun a w' => Mem [] w w' [sg9272, [(b9278, .cells ⟨[.int .i64 r9268.2.Address, .int .i64 r9268.2.Width, .bool r9268.2.Store]⟩ 36 (0, 0))]] ∧ Sat Try.f10.ntmps [(0, .slice p7600 x7598.length c7601), (3, .slice p9270 r9268.1.length c9271), (4, .pointer (some ⟨b9278, 0, none⟩)), (5, .int .i64 r9283.1), (6, .int .i64 r9283.2.1), (7, .int .i64 r9283.2.2.1), (8, .bool r9283.2.2.2), (80, .bool o9294)] a) ?_ ?_
    · have hm := ho9295
      refine G_region ?_
      refine W_run 4 [(0, .slice p7600 x7598.length c7601), (3, .slice p9270 r9268.1.length c9271), (4, .pointer (some ⟨b9278, 0, none⟩)), (5, .int .i64 r9283.1), (6, .int .i64 r9283.2.1), (7, .int .i64 r9283.2.2.1), (8, .bool r9283.2.2.2), (10, .int .i64 r9287.2.1), (11, .int .i64 r9287.2.2.1), (12, .bool r9287.2.2.2), (66, .bool (r9283.1 != r9287.1))] w9288 (by kernel_rfl) ?_
      rcases gx_bif hm with ⟨hc9297, hm⟩ | ⟨hc9297, hm⟩
      · refine W_known 66 true (by kernel_rfl) hc9297 ?_
        refine W_run 14 [(0, .slice p7600 x7598.length c7601), (3, .slice p9270 r9268.1.length c9271), (4, .pointer (some ⟨b9278, 0, none⟩)), (5, .int .i64 r9283.1), (6, .int .i64 r9283.2.1), (7, .int .i64 r9283.2.2.1), (8, .bool r9283.2.2.2), (80, .bool true)] w9288 (by kernel_rfl) ?_
        refine W_nil ?_
        obtain rfl := Option.some.inj hm
        exact N_meet fun a ha => ⟨M9290.pick [0, 1] (by kernel_rfl), ha.sub (by kernel_rfl)⟩
      · refine W_known 66 false (by kernel_rfl) hc9297 ?_
        refine W_run 5 [(0, .slice p7600 x7598.length c7601), (3, .slice p9270 r9268.1.length c9271), (4, .pointer (some ⟨b9278, 0, none⟩)), (5, .int .i64 r9283.1), (6, .int .i64 r9283.2.1), (7, .int .i64 r9283.2.2.1), (8, .bool r9283.2.2.2), (11, .int .i64 r9287.2.2.1), (12, .bool r9287.2.2.2), (71, .bool (r9283.2.1 != r9287.2.1))] w9288 (by kernel_rfl) ?_
        rcases gx_bif hm with ⟨hc9298, hm⟩ | ⟨hc9298, hm⟩
        · refine W_known 71 true (by kernel_rfl) hc9298 ?_
          refine W_run 9 [(0, .slice p7600 x7598.length c7601), (3, .slice p9270 r9268.1.length c9271), (4, .pointer (some ⟨b9278, 0, none⟩)), (5, .int .i64 r9283.1), (6, .int .i64 r9283.2.1), (7, .int .i64 r9283.2.2.1), (8, .bool r9283.2.2.2), (80, .bool true)] w9288 (by kernel_rfl) ?_
          refine W_nil ?_
          obtain rfl := Option.some.inj hm
          exact N_meet fun a ha => ⟨M9290.pick [0, 1] (by kernel_rfl), ha.sub (by kernel_rfl)⟩
        · refine W_known 71 false (by kernel_rfl) hc9298 ?_
          refine W_run 5 [(0, .slice p7600 x7598.length c7601), (3, .slice p9270 r9268.1.length c9271), (4, .pointer (some ⟨b9278, 0, none⟩)), (5, .int .i64 r9283.1), (6, .int .i64 r9283.2.1), (7, .int .i64 r9283.2.2.1), (8, .bool r9283.2.2.2), (12, .bool r9287.2.2.2), (76, .bool (r9283.2.2.1 != r9287.2.2.1))] w9288 (by kernel_rfl) ?_
          rcases gx_bif hm with ⟨hc9299, hm⟩ | ⟨hc9299, hm⟩
          · refine W_known 76 true (by kernel_rfl) hc9299 ?_
            refine W_run 4 [(0, .slice p7600 x7598.length c7601), (3, .slice p9270 r9268.1.length c9271), (4, .pointer (some ⟨b9278, 0, none⟩)), (5, .int .i64 r9283.1), (6, .int .i64 r9283.2.1), (7, .int .i64 r9283.2.2.1), (8, .bool r9283.2.2.2), (80, .bool true)] w9288 (by kernel_rfl) ?_
            refine W_nil ?_
            obtain rfl := Option.some.inj hm
            exact N_meet fun a ha => ⟨M9290.pick [0, 1] (by kernel_rfl), ha.sub (by kernel_rfl)⟩
          · refine W_known 76 false (by kernel_rfl) hc9299 ?_
            refine W_run 4 [(0, .slice p7600 x7598.length c7601), (3, .slice p9270 r9268.1.length c9271), (4, .pointer (some ⟨b9278, 0, none⟩)), (5, .int .i64 r9283.1), (6, .int .i64 r9283.2.1), (7, .int .i64 r9283.2.2.1), (8, .bool r9283.2.2.2), (80, .bool (!(r9283.2.2.2 == r9287.2.2.2)))] w9288 (by kernel_rfl) ?_
            refine W_nil ?_
            obtain rfl := Option.some.inj hm
            exact N_meet fun a ha => ⟨M9290.pick [0, 1] (by kernel_rfl), ha.sub (by kernel_rfl)⟩
    · intro a9302 w9300 ⟨M9301, hS9303⟩
      refine N_use hS9303 ?_
      have hm := hm9296
      refine N_then ?_
      rcases gx_bif hm with ⟨hc9304, hm⟩ | ⟨hc9304, hm⟩
      · refine G_cond_t (b := o9294) hc9304 (by kernel_rfl) ?_
        refine G_seq ?_
        refine G_region ?_
        refine W_run 1 [(2, .bool false)] w9300 (by kernel_rfl) ?_
        refine W_nil ?_
        refine N_then ?_
        refine G_ret ?_
        refine N_then_ret ?_
        obtain rfl := Option.some.inj hm
        refine N_ret [.bool false] (RVs_cons (RV_tmp (by kernel_rfl)) RVs_nil) ?_
        exact ⟨rfl, M9301.pick [] (by kernel_rfl)⟩
      · refine G_cond_f (b := o9294) hc9304 (by kernel_rfl) ?_
        refine G_skip ?_
        refine N_then ?_
        refine G_seq ?_
        refine G_region ?_
        refine W_run 2 [(0, .slice p7600 x7598.length c7601), (3, .slice p9270 r9268.1.length c9271), (4, .pointer (some ⟨b9278, 0, none⟩)), (5, .int .i64 r9283.1), (6, .int .i64 r9283.2.1), (7, .int .i64 r9283.2.2.1), (8, .bool r9283.2.2.2), (82, .slice p9270 r9268.1.length c9271), (83, .pointer (some ⟨b9278, 0, none⟩))] w9300 (by kernel_rfl) ?_
        refine W_val (.int .i64 r9268.2.Address) w9300 (by kernel_rfl) (E_load (e := 36) (fr := (0, 0)) _ _ false 1 b9278 0 [.int .i64 r9268.2.Address, .int .i64 r9268.2.Width, .bool r9268.2.Store] (.int .i64 r9268.2.Address) rfl (by kernel_rfl) (by kernel_rfl) (by kernel_rfl) (M9301.blk 1 (b := b9278) (o := .cells ⟨[.int .i64 r9268.2.Address, .int .i64 r9268.2.Width, .bool r9268.2.Store]⟩ 36 (0, 0)) (by kernel_rfl))) ?_
        obtain ⟨r9333, hr9333, hm⟩ := gx_bind hm
        refine W_call 42 #[.slice p9270 r9268.1.length c9271, .int .i64 r9268.2.Address] (by kernel_rfl) (by kernel_rfl) ?_
        refine (c_i_FindRegion w9300 r9268.1 p9270 c9271 (ho9273.rd M9301 0 (by kernel_rfl)) r9268.2.Address hr9333).mono ?_
        rintro e_ w9334 ⟨rfl, K9335⟩
        have M9336 := M9301.call0 K9335
        refine ⟨_, rfl, ?_⟩
        refine W_run 5 [(0, .slice p7600 x7598.length c7601), (3, .slice p9270 r9268.1.length c9271), (4, .pointer (some ⟨b9278, 0, none⟩)), (5, .int .i64 r9283.1), (6, .int .i64 r9283.2.1), (7, .int .i64 r9283.2.2.1), (8, .bool r9283.2.2.2), (13, .int .i64 r9333.1), (14, .bool r9333.2)] w9334 (by kernel_rfl) ?_
        refine W_nil ?_
        refine N_then ?_
        refine G_seq ?_
        refine G_seq ?_
        refine G_region ?_
        refine W_run 2 [(0, .slice p7600 x7598.length c7601), (3, .slice p9270 r9268.1.length c9271), (4, .pointer (some ⟨b9278, 0, none⟩)), (5, .int .i64 r9283.1), (6, .int .i64 r9283.2.1), (7, .int .i64 r9283.2.2.1), (8, .bool r9283.2.2.2), (13, .int .i64 r9333.1), (14, .bool r9333.2), (89, .slice p9270 r9268.1.length c9271), (90, .pointer (some ⟨b9278, 0, none⟩))] w9334 (by kernel_rfl) ?_
        refine W_val (.int .i64 r9268.2.Address) w9334 (by kernel_rfl) (E_load (e := 36) (fr := (0, 0)) _ _ false 1 b9278 0 [.int .i64 r9268.2.Address, .int .i64 r9268.2.Width, .bool r9268.2.Store] (.int .i64 r9268.2.Address) rfl (by kernel_rfl) (by kernel_rfl) (by kernel_rfl) (M9336.blk 1 (b := b9278) (o := .cells ⟨[.int .i64 r9268.2.Address, .int .i64 r9268.2.Width, .bool r9268.2.Store]⟩ 36 (0, 0)) (by kernel_rfl))) ?_
        obtain ⟨r9383, hr9383, hm⟩ := gx_bind hm
        refine W_call 43 #[.slice p9270 r9268.1.length c9271, .int .i64 r9268.2.Address] (by kernel_rfl) (by kernel_rfl) ?_
        refine (c_s_FindRegion w9334 r9268.1 p9270 c9271 (ho9273.rd M9336 0 (by kernel_rfl)) r9268.2.Address hr9383).mono ?_
        rintro e_ w9384 ⟨rfl, K9385⟩
        have M9386 := M9336.call0 K9385
        refine ⟨_, rfl, ?_⟩
        refine W_run 5 [(0, .slice p7600 x7598.length c7601), (3, .slice p9270 r9268.1.length c9271), (4, .pointer (some ⟨b9278, 0, none⟩)), (5, .int .i64 r9283.1), (6, .int .i64 r9283.2.1), (7, .int .i64 r9283.2.2.1), (8, .bool r9283.2.2.2), (13, .int .i64 r9333.1), (14, .bool r9333.2), (15, .int .i64 r9383.1), (16, .bool r9383.2)] w9384 (by kernel_rfl) ?_
        refine W_nil ?_
        refine N_then ?_
        refine G_seq ?_
        obtain ⟨o9388, ho9389, hm9390⟩ := gx_bind hm
        refine G_meet (fun a w' => Mem [] w w' [sg9272, [(b9278, .cells ⟨[.int .i64 r9268.2.Address, .int .i64 r9268.2.Width, .bool r9268.2.Store]⟩ 36 (0, 0))]] ∧ Sat Try.f10.ntmps [(0, .slice p7600 x7598.length c7601), (3, .slice p9270 r9268.1.length c9271), (4, .pointer (some ⟨b9278, 0, none⟩)), (5, .int .i64 r9283.1), (6, .int .i64 r9283.2.1), (7, .int .i64 r9283.2.2.1), (8, .bool r9283.2.2.2), (13, .int .i64 r9333.1), (14, .bool r9333.2), (102, .bool o9388)] a) ?_ ?_
        · have hm := ho9389
          refine G_region ?_
          refine W_run 4 [(0, .slice p7600 x7598.length c7601), (3, .slice p9270 r9268.1.length c9271), (4, .pointer (some ⟨b9278, 0, none⟩)), (5, .int .i64 r9283.1), (6, .int .i64 r9283.2.1), (7, .int .i64 r9283.2.2.1), (8, .bool r9283.2.2.2), (13, .int .i64 r9333.1), (14, .bool r9333.2), (16, .bool r9383.2), (98, .bool (r9333.1 != r9383.1))] w9384 (by kernel_rfl) ?_
          rcases gx_bif hm with ⟨hc9391, hm⟩ | ⟨hc9391, hm⟩
          · refine W_known 98 true (by kernel_rfl) hc9391 ?_
            refine W_run 4 [(0, .slice p7600 x7598.length c7601), (3, .slice p9270 r9268.1.length c9271), (4, .pointer (some ⟨b9278, 0, none⟩)), (5, .int .i64 r9283.1), (6, .int .i64 r9283.2.1), (7, .int .i64 r9283.2.2.1), (8, .bool r9283.2.2.2), (13, .int .i64 r9333.1), (14, .bool r9333.2), (102, .bool true)] w9384 (by kernel_rfl) ?_
            refine W_nil ?_
            obtain rfl := Option.some.inj hm
            exact N_meet fun a ha => ⟨M9386.pick [0, 1] (by kernel_rfl), ha.sub (by kernel_rfl)⟩
          · refine W_known 98 false (by kernel_rfl) hc9391 ?_
            refine W_run 4 [(0, .slice p7600 x7598.length c7601), (3, .slice p9270 r9268.1.length c9271), (4, .pointer (some ⟨b9278, 0, none⟩)), (5, .int .i64 r9283.1), (6, .int .i64 r9283.2.1), (7, .int .i64 r9283.2.2.1), (8, .bool r9283.2.2.2), (13, .int .i64 r9333.1), (14, .bool r9333.2), (102, .bool (!(r9333.2 == r9383.2)))] w9384 (by kernel_rfl) ?_
            refine W_nil ?_
            obtain rfl := Option.some.inj hm
            exact N_meet fun a ha => ⟨M9386.pick [0, 1] (by kernel_rfl), ha.sub (by kernel_rfl)⟩
        · intro a9394 w9392 ⟨M9393, hS9395⟩
          refine N_use hS9395 ?_
          have hm := hm9390
          refine N_then ?_
          rcases gx_bif hm with ⟨hc9396, hm⟩ | ⟨hc9396, hm⟩
          · refine G_cond_t (b := o9388) hc9396 (by kernel_rfl) ?_
            refine G_seq ?_
            refine G_region ?_
            refine W_run 1 [(2, .bool false)] w9392 (by kernel_rfl) ?_
            refine W_nil ?_
            refine N_then ?_
            refine G_ret ?_
            refine N_then_ret ?_
            obtain rfl := Option.some.inj hm
            refine N_ret [.bool false] (RVs_cons (RV_tmp (by kernel_rfl)) RVs_nil) ?_
            exact ⟨rfl, M9393.pick [] (by kernel_rfl)⟩
          · refine G_cond_f (b := o9388) hc9396 (by kernel_rfl) ?_
            refine G_skip ?_
            refine N_then ?_
            refine G_seq ?_
            refine G_seq ?_
            obtain ⟨o9417, ho9418, hm9419⟩ := gx_bind hm
            refine G_meet (fun a w' => Mem [] w w' [sg9272, [(b9278, .cells ⟨[.int .i64 r9268.2.Address, .int .i64 r9268.2.Width, .bool r9268.2.Store]⟩ 36 (0, 0))]] ∧ Sat Try.f10.ntmps [(0, .slice p7600 x7598.length c7601), (3, .slice p9270 r9268.1.length c9271), (4, .pointer (some ⟨b9278, 0, none⟩)), (7, .int .i64 r9283.2.2.1), (8, .bool r9283.2.2.2), (144, .bool o9417)] a) ?_ ?_
            · have hm := ho9418
              refine G_quiet (by kernel_rfl) (by kernel_rfl) M9393 ?_
              refine Z_runs [.bool r9283.2.2.2, .bool r9283.2.2.2] [(0, .slice p7600 x7598.length c7601), (3, .slice p9270 r9268.1.length c9271), (4, .pointer (some ⟨b9278, 0, none⟩)), (5, .int .i64 r9283.1), (6, .int .i64 r9283.2.1), (7, .int .i64 r9283.2.2.1), (8, .bool r9283.2.2.2), (13, .int .i64 r9333.1), (14, .bool r9333.2), (104, .bool r9283.2.2.2)] (fun w_ => by kernel_rfl) (by kernel_rfl) ?_
              rcases gx_bif hm with ⟨hc9420, hm⟩ | ⟨hc9420, hm⟩
              · refine Z_known 104 true (by kernel_rfl) hc9420 ?_
                refine Z_runs [.int .i64 r9283.2.2.1, .bool (r9283.2.2.1 == 0), .bool (r9283.2.2.1 == 0), .bool (r9283.2.2.1 == 0)] [(0, .slice p7600 x7598.length c7601), (3, .slice p9270 r9268.1.length c9271), (4, .pointer (some ⟨b9278, 0, none⟩)), (5, .int .i64 r9283.1), (6, .int .i64 r9283.2.1), (7, .int .i64 r9283.2.2.1), (8, .bool r9283.2.2.2), (13, .int .i64 r9333.1), (14, .bool r9333.2), (108, .bool (r9283.2.2.1 == 0))] (fun w_ => by kernel_rfl) (by kernel_rfl) ?_
                rcases gx_bif hm with ⟨hc9421, hm⟩ | ⟨hc9421, hm⟩
                · refine Z_known 108 true (by kernel_rfl) hc9421 ?_
                  refine Z_runs [.bool r9333.2, .bool (!r9333.2), .bool (!r9333.2)] [(0, .slice p7600 x7598.length c7601), (3, .slice p9270 r9268.1.length c9271), (4, .pointer (some ⟨b9278, 0, none⟩)), (5, .int .i64 r9283.1), (6, .int .i64 r9283.2.1), (7, .int .i64 r9283.2.2.1), (8, .bool r9283.2.2.2), (13, .int .i64 r9333.1), (108, .bool true), (111, .bool (!r9333.2))] (fun w_ => by kernel_rfl) (by kernel_rfl) ?_
                  rcases gx_bif hm with ⟨hc9422, hm⟩ | ⟨hc9422, hm⟩
                  · refine Z_known 111 true (by kernel_rfl) hc9422 ?_
                    refine Z_runs [undef, undef, undef, undef, undef, undef, undef, .bool true, .bool true, undef, undef, undef, undef, undef, undef, undef, undef, undef, undef, .bool true, .bool true, undef, undef, undef, undef, undef, undef, undef, undef, undef, undef, .bool true, .bool true] [(0, .slice p7600 x7598.length c7601), (3, .slice p9270 r9268.1.length c9271), (4, .pointer (some ⟨b9278, 0, none⟩)), (7, .int .i64 r9283.2.2.1), (8, .bool r9283.2.2.2), (144, .bool true)] (fun w_ => by kernel_rfl) (by kernel_rfl) ?_
                    refine Z_end fun w9423 M9424 => ?_
                    obtain rfl := Option.some.inj hm
                    exact N_meet fun a ha => ⟨M9424.pick [0, 1] (by kernel_rfl), ha.sub (by kernel_rfl)⟩
                  · refine Z_known 111 false (by kernel_rfl) hc9422 ?_
                    refine Z_runs [.int .i64 r9283.1, .slice p9270 r9268.1.length c9271, .int .i64 r9333.1] [(0, .slice p7600 x7598.length c7601), (3, .slice p9270 r9268.1.length c9271), (4, .pointer (some ⟨b9278, 0, none⟩)), (6, .int .i64 r9283.2.1), (7, .int .i64 r9283.2.2.1), (8, .bool r9283.2.2.2), (13, .int .i64 r9333.1), (108, .bool true), (111, .bool false), (112, .int .i64 r9283.1), (113, .slice p9270 r9268.1.length c9271), (114, .int .i64 r9333.1)] (fun w_ => by kernel_rfl) (by kernel_rfl) ?_
                    obtain ⟨y9425, hy9425, hm⟩ := gx_bind hm
                    refine Z_val (elemP p9270 (r9333.1.toNat * 4)) (by kernel_rfl) (fun w_ M_ => (E_index (E := encRegion) _ _ _ r9268.1.length c9271 .i64 r9333.1 4 (y := y9425) rfl (by kernel_rfl) (by kernel_rfl) (by kernel_rfl) (ho9273.rd M_ 0 (by kernel_rfl)) rfl hy9425)) ?_
                    refine Z_val (elemP p9270 (r9333.1.toNat * 4 + 3)) (by kernel_rfl) (fun w_ M_ => (E_fieldE (E := encRegion) _ _ 3 (r9333.1.toNat * 4) 3 rfl (by kernel_rfl) (by kernel_rfl) (ho9273.rd M_ 0 (by kernel_rfl)) hy9425)) ?_
                    refine Z_val (.int .i64 y9425.Unit) (by kernel_rfl) (fun w_ M_ => (E_loadE (E := encRegion) _ _ false 1 r9333.1 3 (r9333.1.toNat * 4 + 3) y9425 (.int .i64 y9425.Unit) rfl (by kernel_rfl) (by kernel_rfl) (by kernel_rfl) (ho9273.rd M_ 0 (by kernel_rfl)) hy9425 rfl)) ?_
                    refine Z_runs [.bool (r9283.1 != y9425.Unit), .bool (r9283.1 != y9425.Unit), .bool (r9283.1 != y9425.Unit)] [(0, .slice p7600 x7598.length c7601), (3, .slice p9270 r9268.1.length c9271), (4, .pointer (some ⟨b9278, 0, none⟩)), (6, .int .i64 r9283.2.1), (7, .int .i64 r9283.2.2.1), (8, .bool r9283.2.2.2), (13, .int .i64 r9333.1), (108, .bool true), (120, .bool (r9283.1 != y9425.Unit))] (fun w_ => by kernel_rfl) (by kernel_rfl) ?_
                    rcases gx_bif hm with ⟨hc9426, hm⟩ | ⟨hc9426, hm⟩
                    · refine Z_known 120 true (by kernel_rfl) hc9426 ?_
                      refine Z_runs [undef, undef, undef, undef, undef, undef, undef, undef, undef, undef, .bool true, .bool true, undef, undef, undef, undef, undef, undef, undef, undef, undef, undef, .bool true, .bool true] [(0, .slice p7600 x7598.length c7601), (3, .slice p9270 r9268.1.length c9271), (4, .pointer (some ⟨b9278, 0, none⟩)), (7, .int .i64 r9283.2.2.1), (8, .bool r9283.2.2.2), (144, .bool true)] (fun w_ => by kernel_rfl) (by kernel_rfl) ?_
                      refine Z_end fun w9427 M9428 => ?_
                      obtain rfl := Option.some.inj hm
                      exact N_meet fun a ha => ⟨M9428.pick [0, 1] (by kernel_rfl), ha.sub (by kernel_rfl)⟩
                    · refine Z_known 120 false (by kernel_rfl) hc9426 ?_
                      refine Z_runs [.slice p9270 r9268.1.length c9271, .int .i64 r9333.1] [(0, .slice p7600 x7598.length c7601), (3, .slice p9270 r9268.1.length c9271), (4, .pointer (some ⟨b9278, 0, none⟩)), (6, .int .i64 r9283.2.1), (7, .int .i64 r9283.2.2.1), (8, .bool r9283.2.2.2), (13, .int .i64 r9333.1), (108, .bool true), (120, .bool false), (121, .slice p9270 r9268.1.length c9271), (122, .int .i64 r9333.1)] (fun w_ => by kernel_rfl) (by kernel_rfl) ?_
                      obtain ⟨y9429, hy9429, hm⟩ := gx_bind hm
                      refine Z_val (elemP p9270 (r9333.1.toNat * 4)) (by kernel_rfl) (fun w_ M_ => (E_index (E := encRegion) _ _ _ r9268.1.length c9271 .i64 r9333.1 4 (y := y9429) rfl (by kernel_rfl) (by kernel_rfl) (by kernel_rfl) (ho9273.rd M_ 0 (by kernel_rfl)) rfl hy9429)) ?_
                      refine Z_val (elemP p9270 (r9333.1.toNat * 4 + 0)) (by kernel_rfl) (fun w_ M_ => (E_fieldE (E := encRegion) _ _ 0 (r9333.1.toNat * 4) 0 rfl (by kernel_rfl) (by kernel_rfl) (ho9273.rd M_ 0 (by kernel_rfl)) hy9429)) ?_
                      refine Z_val (.int .i64 y9429.Base) (by kernel_rfl) (fun w_ M_ => (E_loadE (E := encRegion) _ _ false 1 r9333.1 0 (r9333.1.toNat * 4 + 0) y9429 (.int .i64 y9429.Base) rfl (by kernel_rfl) (by kernel_rfl) (by kernel_rfl) (ho9273.rd M_ 0 (by kernel_rfl)) hy9429 rfl)) ?_
                      refine Z_runs [.int .i64 r9283.2.1, .int .i64 (w64 (y9429.Base + r9283.2.1)), .pointer (some ⟨b9278, 0, none⟩)] [(0, .slice p7600 x7598.length c7601), (3, .slice p9270 r9268.1.length c9271), (4, .pointer (some ⟨b9278, 0, none⟩)), (6, .int .i64 r9283.2.1), (7, .int .i64 r9283.2.2.1), (8, .bool r9283.2.2.2), (13, .int .i64 r9333.1), (108, .bool true), (120, .bool false), (127, .int .i64 (w64 (y9429.Base + r9283.2.1))), (128, .pointer (some ⟨b9278, 0, none⟩))] (fun w_ => by kernel_rfl) (by kernel_rfl) ?_
                      refine Z_val (.int .i64 r9268.2.Address) (by kernel_rfl) (fun w_ M_ => (E_load (e := 36) (fr := (0, 0)) _ _ false 1 b9278 0 [.int .i64 r9268.2.Address, .int .i64 r9268.2.Width, .bool r9268.2.Store] (.int .i64 r9268.2.Address) rfl (by kernel_rfl) (by kernel_rfl) (by kernel_rfl) (M_.blk 1 (b := b9278) (o := .cells ⟨[.int .i64 r9268.2.Address, .int .i64 r9268.2.Width, .bool r9268.2.Store]⟩ 36 (0, 0)) (by kernel_rfl)))) ?_
                      refine Z_runs [.bool ((w64 (y9429.Base + r9283.2.1)) != r9268.2.Address), .bool ((w64 (y9429.Base + r9283.2.1)) != r9268.2.Address), .bool ((w64 (y9429.Base + r9283.2.1)) != r9268.2.Address)] [(0, .slice p7600 x7598.length c7601), (3, .slice p9270 r9268.1.length c9271), (4, .pointer (some ⟨b9278, 0, none⟩)), (6, .int .i64 r9283.2.1), (7, .int .i64 r9283.2.2.1), (8, .bool r9283.2.2.2), (13, .int .i64 r9333.1), (108, .bool true), (132, .bool ((w64 (y9429.Base + r9283.2.1)) != r9268.2.Address))] (fun w_ => by kernel_rfl) (by kernel_rfl) ?_
                      rcases gx_bif hm with ⟨hc9430, hm⟩ | ⟨hc9430, hm⟩
                      · refine Z_known 132 true (by kernel_rfl) hc9430 ?_
                        refine Z_runs [undef, undef, undef, undef, undef, undef, undef, undef, undef, undef, .bool true, .bool true] [(0, .slice p7600 x7598.length c7601), (3, .slice p9270 r9268.1.length c9271), (4, .pointer (some ⟨b9278, 0, none⟩)), (7, .int .i64 r9283.2.2.1), (8, .bool r9283.2.2.2), (144, .bool true)] (fun w_ => by kernel_rfl) (by kernel_rfl) ?_
                        refine Z_end fun w9431 M9432 => ?_
                        obtain rfl := Option.some.inj hm
                        exact N_meet fun a ha => ⟨M9432.pick [0, 1] (by kernel_rfl), ha.sub (by kernel_rfl)⟩
                      · refine Z_known 132 false (by kernel_rfl) hc9430 ?_
                        refine Z_runs [.int .i64 r9283.2.1, .pointer (some ⟨b9278, 1, none⟩)] [(0, .slice p7600 x7598.length c7601), (3, .slice p9270 r9268.1.length c9271), (4, .pointer (some ⟨b9278, 0, none⟩)), (7, .int .i64 r9283.2.2.1), (8, .bool r9283.2.2.2), (13, .int .i64 r9333.1), (108, .bool true), (132, .bool false), (133, .int .i64 r9283.2.1), (134, .pointer (some ⟨b9278, 1, none⟩))] (fun w_ => by kernel_rfl) (by kernel_rfl) ?_
                        refine Z_val (.int .i64 r9268.2.Width) (by kernel_rfl) (fun w_ M_ => (E_load (e := 36) (fr := (0, 0)) _ _ false 1 b9278 1 [.int .i64 r9268.2.Address, .int .i64 r9268.2.Width, .bool r9268.2.Store] (.int .i64 r9268.2.Width) rfl (by kernel_rfl) (by kernel_rfl) (by kernel_rfl) (M_.blk 1 (b := b9278) (o := .cells ⟨[.int .i64 r9268.2.Address, .int .i64 r9268.2.Width, .bool r9268.2.Store]⟩ 36 (0, 0)) (by kernel_rfl)))) ?_
                        refine Z_runs [.int .i64 (w64 (r9283.2.1 + r9268.2.Width)), .slice p9270 r9268.1.length c9271, .int .i64 r9333.1] [(0, .slice p7600 x7598.length c7601), (3, .slice p9270 r9268.1.length c9271), (4, .pointer (some ⟨b9278, 0, none⟩)), (7, .int .i64 r9283.2.2.1), (8, .bool r9283.2.2.2), (108, .bool true), (132, .bool false), (136, .int .i64 (w64 (r9283.2.1 + r9268.2.Width))), (137, .slice p9270 r9268.1.length c9271), (138, .int .i64 r9333.1)] (fun w_ => by kernel_rfl) (by kernel_rfl) ?_
                        obtain ⟨y9433, hy9433, hm⟩ := gx_bind hm
                        refine Z_val (elemP p9270 (r9333.1.toNat * 4)) (by kernel_rfl) (fun w_ M_ => (E_index (E := encRegion) _ _ _ r9268.1.length c9271 .i64 r9333.1 4 (y := y9433) rfl (by kernel_rfl) (by kernel_rfl) (by kernel_rfl) (ho9273.rd M_ 0 (by kernel_rfl)) rfl hy9433)) ?_
                        refine Z_val (elemP p9270 (r9333.1.toNat * 4 + 1)) (by kernel_rfl) (fun w_ M_ => (E_fieldE (E := encRegion) _ _ 1 (r9333.1.toNat * 4) 1 rfl (by kernel_rfl) (by kernel_rfl) (ho9273.rd M_ 0 (by kernel_rfl)) hy9433)) ?_
                        refine Z_val (.int .i64 y9433.Size) (by kernel_rfl) (fun w_ M_ => (E_loadE (E := encRegion) _ _ false 1 r9333.1 1 (r9333.1.toNat * 4 + 1) y9433 (.int .i64 y9433.Size) rfl (by kernel_rfl) (by kernel_rfl) (by kernel_rfl) (ho9273.rd M_ 0 (by kernel_rfl)) hy9433 rfl)) ?_
                        refine Z_runs [.bool (decide ((w64 (r9283.2.1 + r9268.2.Width)) > y9433.Size)), .bool (decide ((w64 (r9283.2.1 + r9268.2.Width)) > y9433.Size)), .bool (decide ((w64 (r9283.2.1 + r9268.2.Width)) > y9433.Size))] [(0, .slice p7600 x7598.length c7601), (3, .slice p9270 r9268.1.length c9271), (4, .pointer (some ⟨b9278, 0, none⟩)), (7, .int .i64 r9283.2.2.1), (8, .bool r9283.2.2.2), (144, .bool (decide ((w64 (r9283.2.1 + r9268.2.Width)) > y9433.Size)))] (fun w_ => by kernel_rfl) (by kernel_rfl) ?_
                        refine Z_end fun w9434 M9435 => ?_
                        obtain rfl := Option.some.inj hm
                        exact N_meet fun a ha => ⟨M9435.pick [0, 1] (by kernel_rfl), ha.sub (by kernel_rfl)⟩
                · refine Z_known 108 false (by kernel_rfl) hc9421 ?_
                  refine Z_runs [undef, undef, undef, undef, undef, undef, undef, undef, undef, undef, undef, undef, undef, undef, undef, undef, undef, undef, undef, undef, undef, undef, undef, undef, undef, undef, undef, undef, undef, undef, undef, undef, undef, undef, undef, .bool false] [(0, .slice p7600 x7598.length c7601), (3, .slice p9270 r9268.1.length c9271), (4, .pointer (some ⟨b9278, 0, none⟩)), (7, .int .i64 r9283.2.2.1), (8, .bool r9283.2.2.2), (144, .bool false)] (fun w_ => by kernel_rfl) (by kernel_rfl) ?_
                  refine Z_end fun w9436 M9437 => ?_
                  obtain rfl := Option.some.inj hm
                  exact N_meet fun a ha => ⟨M9437.pick [0, 1] (by kernel_rfl), ha.sub (by kernel_rfl)⟩
              · refine Z_known 104 false (by kernel_rfl) hc9420 ?_
                refine Z_runs [undef, undef, .bool false, .bool false, undef, undef, undef, undef, undef, undef, undef, undef, undef, undef, undef, undef, undef, undef, undef, undef, undef, undef, undef, undef, undef, undef, undef, undef, undef, undef, undef, undef, undef, undef, undef, undef, undef, undef, undef, .bool false] [(0, .slice p7600 x7598.length c7601), (3, .slice p9270 r9268.1.length c9271), (4, .pointer (some ⟨b9278, 0, none⟩)), (7, .int .i64 r9283.2.2.1), (8, .bool r9283.2.2.2), (144, .bool false)] (fun w_ => by kernel_rfl) (by kernel_rfl) ?_
                refine Z_end fun w9438 M9439 => ?_
                obtain rfl := Option.some.inj hm
                exact N_meet fun a ha => ⟨M9439.pick [0, 1] (by kernel_rfl), ha.sub (by kernel_rfl)⟩
            · intro a9442 w9440 ⟨M9441, hS9443⟩
              refine N_use hS9443 ?_
              have hm := hm9419
              refine N_then ?_
              rcases gx_bif hm with ⟨hc9444, hm⟩ | ⟨hc9444, hm⟩
              · refine G_cond_t (b := o9417) hc9444 (by kernel_rfl) ?_
                refine G_seq ?_
                refine G_region ?_
                refine W_run 1 [(2, .bool false)] w9440 (by kernel_rfl) ?_
                refine W_nil ?_
                refine N_then ?_
                refine G_ret ?_
                refine N_then_ret ?_
                obtain rfl := Option.some.inj hm
                refine N_ret [.bool false] (RVs_cons (RV_tmp (by kernel_rfl)) RVs_nil) ?_
                exact ⟨rfl, M9441.pick [] (by kernel_rfl)⟩
              · refine G_cond_f (b := o9417) hc9444 (by kernel_rfl) ?_
                refine G_skip ?_
                refine N_then ?_
                refine G_seq ?_
                refine G_region ?_
                refine W_run 1 [(0, .slice p7600 x7598.length c7601), (3, .slice p9270 r9268.1.length c9271), (4, .pointer (some ⟨b9278, 0, none⟩)), (7, .int .i64 r9283.2.2.1), (8, .bool r9283.2.2.2), (146, .slice p9270 r9268.1.length c9271)] w9440 (by kernel_rfl) ?_
                refine W_val (.agg #[.int .i64 r9268.2.Address, .int .i64 r9268.2.Width, .bool r9268.2.Store]) w9440 (by kernel_rfl) (E_load (e := 36) (fr := (0, 0)) _ _ true 3 b9278 0 [.int .i64 r9268.2.Address, .int .i64 r9268.2.Width, .bool r9268.2.Store] (.agg #[.int .i64 r9268.2.Address, .int .i64 r9268.2.Width, .bool r9268.2.Store]) rfl (by kernel_rfl) (by kernel_rfl) (by kernel_rfl) (M9441.blk 1 (b := b9278) (o := .cells ⟨[.int .i64 r9268.2.Address, .int .i64 r9268.2.Width, .bool r9268.2.Store]⟩ 36 (0, 0)) (by kernel_rfl))) ?_
                obtain ⟨r9445, hr9445, hm⟩ := gx_bind hm
                refine W_call 28 #[.slice p9270 r9268.1.length c9271, .agg #[.int .i64 r9268.2.Address, .int .i64 r9268.2.Width, .bool r9268.2.Store]] (by kernel_rfl) (by kernel_rfl) ?_
                refine (c_i_SplitAccess w9440 r9268.1 p9270 c9271 (ho9273.rd M9441 0 (by kernel_rfl)) r9268.2 hr9445).mono ?_
                rintro e_ w9451 ⟨p9447, c9448, sg9449, rfl, ho9450, K9452⟩
                have M9453 := M9441.call K9452
                refine ⟨_, rfl, ?_⟩
                refine W_run 5 [(0, .slice p7600 x7598.length c7601), (3, .slice p9270 r9268.1.length c9271), (4, .pointer (some ⟨b9278, 0, none⟩)), (7, .int .i64 r9283.2.2.1), (8, .bool r9283.2.2.2), (17, .slice p9447 r9445.1.length c9448), (18, .bool r9445.2)] w9451 (by kernel_rfl) ?_
                refine W_nil ?_
                refine N_then ?_
                refine G_seq ?_
                refine G_seq ?_
                refine G_region ?_
                refine W_run 1 [(0, .slice p7600 x7598.length c7601), (3, .slice p9270 r9268.1.length c9271), (4, .pointer (some ⟨b9278, 0, none⟩)), (7, .int .i64 r9283.2.2.1), (8, .bool r9283.2.2.2), (17, .slice p9447 r9445.1.length c9448), (18, .bool r9445.2), (152, .slice p9270 r9268.1.length c9271)] w9451 (by kernel_rfl) ?_
                refine W_val (.agg #[.int .i64 r9268.2.Address, .int .i64 r9268.2.Width, .bool r9268.2.Store]) w9451 (by kernel_rfl) (E_load (e := 36) (fr := (0, 0)) _ _ true 3 b9278 0 [.int .i64 r9268.2.Address, .int .i64 r9268.2.Width, .bool r9268.2.Store] (.agg #[.int .i64 r9268.2.Address, .int .i64 r9268.2.Width, .bool r9268.2.Store]) rfl (by kernel_rfl) (by kernel_rfl) (by kernel_rfl) (M9453.blk 1 (b := b9278) (o := .cells ⟨[.int .i64 r9268.2.Address, .int .i64 r9268.2.Width, .bool r9268.2.Store]⟩ 36 (0, 0)) (by kernel_rfl))) ?_
                obtain ⟨r9454, hr9454, hm⟩ := gx_bind hm
                refine W_call 27 #[.slice p9270 r9268.1.length c9271, .agg #[.int .i64 r9268.2.Address, .int .i64 r9268.2.Width, .bool r9268.2.Store]] (by kernel_rfl) (by kernel_rfl) ?_
                refine (c_s_SplitAccess w9451 r9268.1 p9270 c9271 (ho9273.rd M9453 0 (by kernel_rfl)) r9268.2 hr9454).mono ?_
                rintro e_ w9460 ⟨p9456, c9457, sg9458, rfl, ho9459, K9461⟩
                have M9462 := M9453.call K9461
                refine ⟨_, rfl, ?_⟩
                refine W_run 5 [(0, .slice p7600 x7598.length c7601), (3, .slice p9270 r9268.1.length c9271), (4, .pointer (some ⟨b9278, 0, none⟩)), (7, .int .i64 r9283.2.2.1), (8, .bool r9283.2.2.2), (17, .slice p9447 r9445.1.length c9448), (18, .bool r9445.2), (19, .slice p9456 r9454.1.length c9457), (20, .bool r9454.2)] w9460 (by kernel_rfl) ?_
                refine W_nil ?_
                refine N_then ?_
                refine G_seq ?_
                obtain ⟨o9464, ho9465, hm9466⟩ := gx_bind hm
                refine G_meet (fun a w' => Mem [] w w' [sg9272, [(b9278, .cells ⟨[.int .i64 r9268.2.Address, .int .i64 r9268.2.Width, .bool r9268.2.Store]⟩ 36 (0, 0))], sg9449] ∧ Sat Try.f10.ntmps [(0, .slice p7600 x7598.length c7601), (3, .slice p9270 r9268.1.length c9271), (4, .pointer (some ⟨b9278, 0, none⟩)), (7, .int .i64 r9283.2.2.1), (8, .bool r9283.2.2.2), (17, .slice p9447 r9445.1.length c9448), (18, .bool r9445.2), (166, .bool o9464)] a) ?_ ?_
                · have hm := ho9465
                  refine G_region ?_
                  refine W_run 4 [(0, .slice p7600 x7598.length c7601), (3, .slice p9270 r9268.1.length c9271), (4, .pointer (some ⟨b9278, 0, none⟩)), (7, .int .i64 r9283.2.2.1), (8, .bool r9283.2.2.2), (17, .slice p9447 r9445.1.length c9448), (18, .bool r9445.2), (19, .slice p9456 r9454.1.length c9457), (160, .bool (!(r9445.2 == r9454.2)))] w9460 (by kernel_rfl) ?_
                  rcases gx_bif hm with ⟨hc9467, hm⟩ | ⟨hc9467, hm⟩
                  · refine W_known 160 true (by kernel_rfl) hc9467 ?_
                    refine W_run 6 [(0, .slice p7600 x7598.length c7601), (3, .slice p9270 r9268.1.length c9271), (4, .pointer (some ⟨b9278, 0, none⟩)), (7, .int .i64 r9283.2.2.1), (8, .bool r9283.2.2.2), (17, .slice p9447 r9445.1.length c9448), (18, .bool r9445.2), (166, .bool true)] w9460 (by kernel_rfl) ?_
                    refine W_nil ?_
                    obtain rfl := Option.some.inj hm
                    exact N_meet fun a ha => ⟨M9462.pick [0, 1, 2] (by kernel_rfl), ha.sub (by kernel_rfl)⟩
                  · refine W_known 160 false (by kernel_rfl) hc9467 ?_
                    refine W_run 6 [(0, .slice p7600 x7598.length c7601), (3, .slice p9270 r9268.1.length c9271), (4, .pointer (some ⟨b9278, 0, none⟩)), (7, .int .i64 r9283.2.2.1), (8, .bool r9283.2.2.2), (17, .slice p9447 r9445.1.length c9448), (18, .bool r9445.2), (166, .bool ((r9445.1.length : Int) != (r9454.1.length : Int)))] w9460 (by kernel_rfl) ?_
                    refine W_nil ?_
                    obtain rfl := Option.some.inj hm
                    exact N_meet fun a ha => ⟨M9462.pick [0, 1, 2] (by kernel_rfl), ha.sub (by kernel_rfl)⟩
                · intro a9470 w9468 ⟨M9469, hS9471⟩
                  refine N_use hS9471 ?_
                  have hm := hm9466
                  refine N_then ?_
                  rcases gx_bif hm with ⟨hc9472, hm⟩ | ⟨hc9472, hm⟩
                  · refine G_cond_t (b := o9464) hc9472 (by kernel_rfl) ?_
                    refine G_seq ?_
                    refine G_region ?_
                    refine W_run 1 [(2, .bool false)] w9468 (by kernel_rfl) ?_
                    refine W_nil ?_
                    refine N_then ?_
                    refine G_ret ?_
                    refine N_then_ret ?_
                    obtain rfl := Option.some.inj hm
                    refine N_ret [.bool false] (RVs_cons (RV_tmp (by kernel_rfl)) RVs_nil) ?_
                    exact ⟨rfl, M9469.pick [] (by kernel_rfl)⟩
                  · refine G_cond_f (b := o9464) hc9472 (by kernel_rfl) ?_
                    refine G_skip ?_
                    refine N_then ?_
                    refine G_seq ?_
                    refine G_region ?_
                    refine W_run 1 [(0, .slice p7600 x7598.length c7601), (3, .slice p9270 r9268.1.length c9271), (4, .pointer (some ⟨b9278, 0, none⟩)), (7, .int .i64 r9283.2.2.1), (8, .bool r9283.2.2.2), (17, .slice p9447 r9445.1.length c9448), (18, .bool r9445.2), (167, .pointer (some ⟨b9278, 0, none⟩))] w9468 (by kernel_rfl) ?_
                    refine W_val (.int .i64 r9268.2.Address) w9468 (by kernel_rfl) (E_load (e := 36) (fr := (0, 0)) _ _ false 1 b9278 0 [.int .i64 r9268.2.Address, .int .i64 r9268.2.Width, .bool r9268.2.Store] (.int .i64 r9268.2.Address) rfl (by kernel_rfl) (by kernel_rfl) (by kernel_rfl) (M9469.blk 1 (b := b9278) (o := .cells ⟨[.int .i64 r9268.2.Address, .int .i64 r9268.2.Width, .bool r9268.2.Store]⟩ 36 (0, 0)) (by kernel_rfl))) ?_
                    refine W_run 1 [(0, .slice p7600 x7598.length c7601), (3, .slice p9270 r9268.1.length c9271), (4, .pointer (some ⟨b9278, 0, none⟩)), (7, .int .i64 r9283.2.2.1), (8, .bool r9283.2.2.2), (17, .slice p9447 r9445.1.length c9448), (18, .bool r9445.2), (21, .int .i64 r9268.2.Address)] w9468 (by kernel_rfl) ?_
                    refine W_nil ?_
                    refine N_then ?_
                    refine G_seq ?_
                    refine G_seq ?_
                    refine G_region ?_
                    refine W_run 1 [(0, .slice p7600 x7598.length c7601), (3, .slice p9270 r9268.1.length c9271), (4, .pointer (some ⟨b9278, 0, none⟩)), (7, .int .i64 r9283.2.2.1), (8, .bool r9283.2.2.2), (17, .slice p9447 r9445.1.length c9448), (18, .bool r9445.2), (21, .int .i64 r9268.2.Address), (22, .int .i64 0)] w9468 (by kernel_rfl) ?_
                    refine W_nil ?_
                    refine N_then ?_
                    obtain ⟨out9562, hw9563, hmo9564⟩ := gx_bind hm
                    refine G_meet (fun a w' => ∃ (o9565 : Int), out9562 = .inl o9565 ∧ Mem [] w w' [[(b9278, .cells ⟨[.int .i64 r9268.2.Address, .int .i64 r9268.2.Width, .bool r9268.2.Store]⟩ 36 (0, 0))], sg9449] ∧ Sat Try.f10.ntmps [(0, .slice p7600 x7598.length c7601), (4, .pointer (some ⟨b9278, 0, none⟩)), (7, .int .i64 r9283.2.2.1), (8, .bool r9283.2.2.2), (17, .slice p9447 r9445.1.length c9448), (18, .bool r9445.2), (21, .int .i64 o9565)] a) ?_ ?_
                    · refine G_block ?_
                      refine G_while (σ := Int × Int) (ρ := (Int) ⊕ (Bool)) (fun s9555 a w' => Mem [] w w' [sg9272, [(b9278, .cells ⟨[.int .i64 r9268.2.Address, .int .i64 r9268.2.Width, .bool r9268.2.Store]⟩ 36 (0, 0))], sg9449] ∧ Sat Try.f10.ntmps [(0, .slice p7600 x7598.length c7601), (3, .slice p9270 r9268.1.length c9271), (4, .pointer (some ⟨b9278, 0, none⟩)), (7, .int .i64 r9283.2.2.1), (8, .bool r9283.2.2.2), (17, .slice p9447 r9445.1.length c9448), (18, .bool r9445.2), (21, .int .i64 s9555.1), (22, .int .i64 s9555.2)] a) hw9563 (fun a ha => ⟨M9469.pick [0, 1, 2] (by kernel_rfl), ha.sub (by kernel_rfl)⟩) ?_
                      clear hm
                      intro s9555 x9556 hm hout9557 a9558 w9559 ⟨M9560, hS9561⟩
                      refine G_use hS9561 ?_
                      refine G_seq ?_
                      refine G_seq ?_
                      refine G_region ?_
                      refine W_run 4 [(0, .slice p7600 x7598.length c7601), (3, .slice p9270 r9268.1.length c9271), (4, .pointer (some ⟨b9278, 0, none⟩)), (7, .int .i64 r9283.2.2.1), (8, .bool r9283.2.2.2), (17, .slice p9447 r9445.1.length c9448), (18, .bool r9445.2), (21, .int .i64 s9555.1), (22, .int .i64 s9555.2), (172, .bool (decide (s9555.2 < (r9445.1.length : Int))))] w9559 (by kernel_rfl) ?_
                      refine W_nil ?_
                      refine N_then ?_
                      rcases gx_bif hm with ⟨hc9566, hm⟩ | ⟨hc9566, hm⟩
                      · refine G_cond_t (b := (decide (s9555.2 < (r9445.1.length : Int)))) hc9566 (by kernel_rfl) ?_
                        refine G_skip ?_
                        refine N_then ?_
                        refine G_seq ?_
                        refine G_block ?_
                        refine G_seq ?_
                        refine G_region ?_
                        refine W_run 3 [(0, .slice p7600 x7598.length c7601), (3, .slice p9270 r9268.1.length c9271), (4, .pointer (some ⟨b9278, 0, none⟩)), (7, .int .i64 r9283.2.2.1), (8, .bool r9283.2.2.2), (17, .slice p9447 r9445.1.length c9448), (18, .bool r9445.2), (21, .int .i64 s9555.1), (22, .int .i64 s9555.2), (176, .slice p9270 r9268.1.length c9271), (177, .slice p9447 r9445.1.length c9448), (178, .int .i64 s9555.2)] w9559 (by kernel_rfl) ?_
                        obtain ⟨y9567, hy9567, hm⟩ := gx_bind hm
                        refine W_val (elemP p9447 (s9555.2.toNat * 3)) w9559 (by kernel_rfl) (E_index (E := encAccess) _ _ _ r9445.1.length c9448 .i64 s9555.2 3 (y := y9567) rfl (by kernel_rfl) (by kernel_rfl) (by kernel_rfl) (ho9450.rd M9560 2 (by kernel_rfl)) rfl hy9567) ?_
                        refine W_val (.agg #[.int .i64 y9567.Address, .int .i64 y9567.Width, .bool y9567.Store]) w9559 (by kernel_rfl) (E_loadE (E := encAccess) _ _ true 3 s9555.2 0 (s9555.2.toNat * 3) y9567 (.agg #[.int .i64 y9567.Address, .int .i64 y9567.Width, .bool y9567.Store]) rfl (by kernel_rfl) (by kernel_rfl) (by kernel_rfl) (ho9450.rd M9560 2 (by kernel_rfl)) hy9567 rfl) ?_
                        obtain ⟨r9568, hr9568, hm⟩ := gx_bind hm
                        refine W_call 19 #[.slice p9270 r9268.1.length c9271, .agg #[.int .i64 y9567.Address, .int .i64 y9567.Width, .bool y9567.Store]] (by kernel_rfl) (by kernel_rfl) ?_
                        refine (c_i_RouteAccess w9559 r9268.1 p9270 c9271 (ho9273.rd M9560 0 (by kernel_rfl)) y9567 hr9568).mono ?_
                        rintro e_ w9569 ⟨rfl, K9570⟩
                        have M9571 := M9560.call0 K9570
                        refine ⟨_, rfl, ?_⟩
                        refine W_run 9 [(0, .slice p7600 x7598.length c7601), (3, .slice p9270 r9268.1.length c9271), (4, .pointer (some ⟨b9278, 0, none⟩)), (7, .int .i64 r9283.2.2.1), (8, .bool r9283.2.2.2), (17, .slice p9447 r9445.1.length c9448), (18, .bool r9445.2), (21, .int .i64 s9555.1), (22, .int .i64 s9555.2), (25, .int .i64 r9568.2.2.1), (26, .bool r9568.2.2.2)] w9569 (by kernel_rfl) ?_
                        refine W_nil ?_
                        refine N_then ?_
                        refine G_seq ?_
                        refine G_seq ?_
                        obtain ⟨o9585, ho9586, hm9587⟩ := gx_bind hm
                        refine G_meet (fun a w' => Mem [] w w' [sg9272, [(b9278, .cells ⟨[.int .i64 r9268.2.Address, .int .i64 r9268.2.Width, .bool r9268.2.Store]⟩ 36 (0, 0))], sg9449] ∧ Sat Try.f10.ntmps [(0, .slice p7600 x7598.length c7601), (3, .slice p9270 r9268.1.length c9271), (4, .pointer (some ⟨b9278, 0, none⟩)), (7, .int .i64 r9283.2.2.1), (8, .bool r9283.2.2.2), (17, .slice p9447 r9445.1.length c9448), (18, .bool r9445.2), (21, .int .i64 s9555.1), (22, .int .i64 s9555.2), (210, .bool o9585)] a) ?_ ?_
                        · have hm := ho9586
                          refine G_quiet (by kernel_rfl) (by kernel_rfl) M9571 ?_
                          refine Z_runs [.bool r9568.2.2.2, .bool (!r9568.2.2.2), .bool (!r9568.2.2.2)] [(0, .slice p7600 x7598.length c7601), (3, .slice p9270 r9268.1.length c9271), (4, .pointer (some ⟨b9278, 0, none⟩)), (7, .int .i64 r9283.2.2.1), (8, .bool r9283.2.2.2), (17, .slice p9447 r9445.1.length c9448), (18, .bool r9445.2), (21, .int .i64 s9555.1), (22, .int .i64 s9555.2), (25, .int .i64 r9568.2.2.1), (188, .bool (!r9568.2.2.2))] (fun w_ => by kernel_rfl) (by kernel_rfl) ?_
                          rcases gx_bif hm with ⟨hc9588, hm⟩ | ⟨hc9588, hm⟩
                          · refine Z_known 188 true (by kernel_rfl) hc9588 ?_
                            refine Z_runs [undef, undef, .bool true, .bool true, undef, undef, undef, undef, undef, undef, undef, .bool true, .bool true, undef, undef, undef, undef, undef, undef, undef, undef, .bool true] [(0, .slice p7600 x7598.length c7601), (3, .slice p9270 r9268.1.length c9271), (4, .pointer (some ⟨b9278, 0, none⟩)), (7, .int .i64 r9283.2.2.1), (8, .bool r9283.2.2.2), (17, .slice p9447 r9445.1.length c9448), (18, .bool r9445.2), (21, .int .i64 s9555.1), (22, .int .i64 s9555.2), (210, .bool true)] (fun w_ => by kernel_rfl) (by kernel_rfl) ?_
                            refine Z_end fun w9589 M9590 => ?_
                            obtain rfl := Option.some.inj hm
                            exact N_meet fun a ha => ⟨M9590.pick [0, 1, 2] (by kernel_rfl), ha.sub (by kernel_rfl)⟩
                          · refine Z_known 188 false (by kernel_rfl) hc9588 ?_
                            refine Z_runs [.int .i64 r9568.2.2.1, .bool (r9568.2.2.1 != 0), .bool (r9568.2.2.1 != 0), .bool (r9568.2.2.1 != 0)] [(0, .slice p7600 x7598.length c7601), (3, .slice p9270 r9268.1.length c9271), (4, .pointer (some ⟨b9278, 0, none⟩)), (7, .int .i64 r9283.2.2.1), (8, .bool r9283.2.2.2), (17, .slice p9447 r9445.1.length c9448), (18, .bool r9445.2), (21, .int .i64 s9555.1), (22, .int .i64 s9555.2), (192, .bool (r9568.2.2.1 != 0))] (fun w_ => by kernel_rfl) (by kernel_rfl) ?_
                            rcases gx_bif hm with ⟨hc9591, hm⟩ | ⟨hc9591, hm⟩
                            · refine Z_known 192 true (by kernel_rfl) hc9591 ?_
                              refine Z_runs [undef, undef, undef, undef, undef, undef, undef, .bool true, .bool true, undef, undef, undef, undef, undef, undef, undef, undef, .bool true] [(0, .slice p7600 x7598.length c7601), (3, .slice p9270 r9268.1.length c9271), (4, .pointer (some ⟨b9278, 0, none⟩)), (7, .int .i64 r9283.2.2.1), (8, .bool r9283.2.2.2), (17, .slice p9447 r9445.1.length c9448), (18, .bool r9445.2), (21, .int .i64 s9555.1), (22, .int .i64 s9555.2), (210, .bool true)] (fun w_ => by kernel_rfl) (by kernel_rfl) ?_
                              refine Z_end fun w9592 M9593 => ?_
                              obtain rfl := Option.some.inj hm
                              exact N_meet fun a ha => ⟨M9593.pick [0, 1, 2] (by kernel_rfl), ha.sub (by kernel_rfl)⟩
                            · refine Z_known 192 false (by kernel_rfl) hc9591 ?_
                              refine Z_runs [.slice p9447 r9445.1.length c9448, .int .i64 s9555.2] [(0, .slice p7600 x7598.length c7601), (3, .slice p9270 r9268.1.length c9271), (4, .pointer (some ⟨b9278, 0, none⟩)), (7, .int .i64 r9283.2.2.1), (8, .bool r9283.2.2.2), (17, .slice p9447 r9445.1.length c9448), (18, .bool r9445.2), (21, .int .i64 s9555.1), (22, .int .i64 s9555.2), (192, .bool false), (193, .slice p9447 r9445.1.length c9448), (194, .int .i64 s9555.2)] (fun w_ => by kernel_rfl) (by kernel_rfl) ?_
                              obtain ⟨y9594, hy9594, hm⟩ := gx_bind hm
                              refine Z_val (elemP p9447 (s9555.2.toNat * 3)) (by kernel_rfl) (fun w_ M_ => (E_index (E := encAccess) _ _ _ r9445.1.length c9448 .i64 s9555.2 3 (y := y9594) rfl (by kernel_rfl) (by kernel_rfl) (by kernel_rfl) (ho9450.rd M_ 2 (by kernel_rfl)) rfl hy9594)) ?_
                              refine Z_val (elemP p9447 (s9555.2.toNat * 3 + 0)) (by kernel_rfl) (fun w_ M_ => (E_fieldE (E := encAccess) _ _ 0 (s9555.2.toNat * 3) 0 rfl (by kernel_rfl) (by kernel_rfl) (ho9450.rd M_ 2 (by kernel_rfl)) hy9594)) ?_
                              refine Z_val (.int .i64 y9594.Address) (by kernel_rfl) (fun w_ M_ => (E_loadE (E := encAccess) _ _ false 1 s9555.2 0 (s9555.2.toNat * 3 + 0) y9594 (.int .i64 y9594.Address) rfl (by kernel_rfl) (by kernel_rfl) (by kernel_rfl) (ho9450.rd M_ 2 (by kernel_rfl)) hy9594 rfl)) ?_
                              refine Z_runs [.int .i64 s9555.1, .bool (y9594.Address != s9555.1), .bool (y9594.Address != s9555.1), .bool (y9594.Address != s9555.1)] [(0, .slice p7600 x7598.length c7601), (3, .slice p9270 r9268.1.length c9271), (4, .pointer (some ⟨b9278, 0, none⟩)), (7, .int .i64 r9283.2.2.1), (8, .bool r9283.2.2.2), (17, .slice p9447 r9445.1.length c9448), (18, .bool r9445.2), (21, .int .i64 s9555.1), (22, .int .i64 s9555.2), (201, .bool (y9594.Address != s9555.1))] (fun w_ => by kernel_rfl) (by kernel_rfl) ?_
                              rcases gx_bif hm with ⟨hc9595, hm⟩ | ⟨hc9595, hm⟩
                              · refine Z_known 201 true (by kernel_rfl) hc9595 ?_
                                refine Z_runs [undef, undef, undef, undef, undef, undef, undef, undef, .bool true] [(0, .slice p7600 x7598.length c7601), (3, .slice p9270 r9268.1.length c9271), (4, .pointer (some ⟨b9278, 0, none⟩)), (7, .int .i64 r9283.2.2.1), (8, .bool r9283.2.2.2), (17, .slice p9447 r9445.1.length c9448), (18, .bool r9445.2), (21, .int .i64 s9555.1), (22, .int .i64 s9555.2), (210, .bool true)] (fun w_ => by kernel_rfl) (by kernel_rfl) ?_
                                refine Z_end fun w9596 M9597 => ?_
                                obtain rfl := Option.some.inj hm
                                exact N_meet fun a ha => ⟨M9597.pick [0, 1, 2] (by kernel_rfl), ha.sub (by kernel_rfl)⟩
                              · refine Z_known 201 false (by kernel_rfl) hc9595 ?_
                                refine Z_runs [.slice p9447 r9445.1.length c9448, .int .i64 s9555.2] [(0, .slice p7600 x7598.length c7601), (3, .slice p9270 r9268.1.length c9271), (4, .pointer (some ⟨b9278, 0, none⟩)), (7, .int .i64 r9283.2.2.1), (8, .bool r9283.2.2.2), (17, .slice p9447 r9445.1.length c9448), (18, .bool r9445.2), (21, .int .i64 s9555.1), (22, .int .i64 s9555.2), (201, .bool false), (202, .slice p9447 r9445.1.length c9448), (203, .int .i64 s9555.2)] (fun w_ => by kernel_rfl) (by kernel_rfl) ?_
                                obtain ⟨y9598, hy9598, hm⟩ := gx_bind hm
                                refine Z_val (elemP p9447 (s9555.2.toNat * 3)) (by kernel_rfl) (fun w_ M_ => (E_index (E := encAccess) _ _ _ r9445.1.length c9448 .i64 s9555.2 3 (y := y9598) rfl (by kernel_rfl) (by kernel_rfl) (by kernel_rfl) (ho9450.rd M_ 2 (by kernel_rfl)) rfl hy9598)) ?_
                                refine Z_val (elemP p9447 (s9555.2.toNat * 3 + 2)) (by kernel_rfl) (fun w_ M_ => (E_fieldE (E := encAccess) _ _ 2 (s9555.2.toNat * 3) 2 rfl (by kernel_rfl) (by kernel_rfl) (ho9450.rd M_ 2 (by kernel_rfl)) hy9598)) ?_
                                refine Z_val (.bool y9598.Store) (by kernel_rfl) (fun w_ M_ => (E_loadE (E := encAccess) _ _ false 1 s9555.2 2 (s9555.2.toNat * 3 + 2) y9598 (.bool y9598.Store) rfl (by kernel_rfl) (by kernel_rfl) (by kernel_rfl) (ho9450.rd M_ 2 (by kernel_rfl)) hy9598 rfl)) ?_
                                refine Z_runs [.pointer (some ⟨b9278, 2, none⟩)] [(0, .slice p7600 x7598.length c7601), (3, .slice p9270 r9268.1.length c9271), (4, .pointer (some ⟨b9278, 0, none⟩)), (7, .int .i64 r9283.2.2.1), (8, .bool r9283.2.2.2), (17, .slice p9447 r9445.1.length c9448), (18, .bool r9445.2), (21, .int .i64 s9555.1), (22, .int .i64 s9555.2), (201, .bool false), (206, .bool y9598.Store), (207, .pointer (some ⟨b9278, 2, none⟩))] (fun w_ => by kernel_rfl) (by kernel_rfl) ?_
                                refine Z_val (.bool r9268.2.Store) (by kernel_rfl) (fun w_ M_ => (E_load (e := 36) (fr := (0, 0)) _ _ false 1 b9278 2 [.int .i64 r9268.2.Address, .int .i64 r9268.2.Width, .bool r9268.2.Store] (.bool r9268.2.Store) rfl (by kernel_rfl) (by kernel_rfl) (by kernel_rfl) (M_.blk 1 (b := b9278) (o := .cells ⟨[.int .i64 r9268.2.Address, .int .i64 r9268.2.Width, .bool r9268.2.Store]⟩ 36 (0, 0)) (by kernel_rfl)))) ?_
                                refine Z_runs [.bool (!(y9598.Store == r9268.2.Store)), .bool (!(y9598.Store == r9268.2.Store))] [(0, .slice p7600 x7598.length c7601), (3, .slice p9270 r9268.1.length c9271), (4, .pointer (some ⟨b9278, 0, none⟩)), (7, .int .i64 r9283.2.2.1), (8, .bool r9283.2.2.2), (17, .slice p9447 r9445.1.length c9448), (18, .bool r9445.2), (21, .int .i64 s9555.1), (22, .int .i64 s9555.2), (210, .bool (!(y9598.Store == r9268.2.Store)))] (fun w_ => by kernel_rfl) (by kernel_rfl) ?_
                                refine Z_end fun w9599 M9600 => ?_
                                obtain rfl := Option.some.inj hm
                                exact N_meet fun a ha => ⟨M9600.pick [0, 1, 2] (by kernel_rfl), ha.sub (by kernel_rfl)⟩
                        · intro a9603 w9601 ⟨M9602, hS9604⟩
                          refine N_use hS9604 ?_
                          have hm := hm9587
                          refine N_then ?_
                          rcases gx_bif hm with ⟨hc9605, hm⟩ | ⟨hc9605, hm⟩
                          · refine G_cond_t (b := o9585) hc9605 (by kernel_rfl) ?_
                            refine G_seq ?_
                            refine G_region ?_
                            refine W_run 1 [(2, .bool false)] w9601 (by kernel_rfl) ?_
                            refine W_nil ?_
                            refine N_then ?_
                            refine G_ret ?_
                            refine N_then_ret ?_
                            refine N_block_ret ?_
                            refine N_then_ret ?_
                            refine N_then_ret ?_
                            obtain rfl := Option.some.inj hm
                            obtain rfl := hout9557 _ rfl
                            have hm := hmo9564; simp only [Sum.elim_inr] at hm
                            refine N_block_ret ?_
                            refine N_meet_ret ?_
                            refine N_then_ret ?_
                            obtain rfl := Option.some.inj hm
                            refine N_ret [.bool false] (RVs_cons (RV_tmp (by kernel_rfl)) RVs_nil) ?_
                            exact ⟨rfl, M9602.pick [] (by kernel_rfl)⟩
                          · refine G_cond_f (b := o9585) hc9605 (by kernel_rfl) ?_
                            refine G_skip ?_
                            refine N_then ?_
                            refine G_region ?_
                            refine W_run 3 [(0, .slice p7600 x7598.length c7601), (3, .slice p9270 r9268.1.length c9271), (4, .pointer (some ⟨b9278, 0, none⟩)), (7, .int .i64 r9283.2.2.1), (8, .bool r9283.2.2.2), (17, .slice p9447 r9445.1.length c9448), (18, .bool r9445.2), (21, .int .i64 s9555.1), (22, .int .i64 s9555.2), (211, .int .i64 s9555.1), (212, .slice p9447 r9445.1.length c9448), (213, .int .i64 s9555.2)] w9601 (by kernel_rfl) ?_
                            obtain ⟨y9606, hy9606, hm⟩ := gx_bind hm
                            refine W_val (elemP p9447 (s9555.2.toNat * 3)) w9601 (by kernel_rfl) (E_index (E := encAccess) _ _ _ r9445.1.length c9448 .i64 s9555.2 3 (y := y9606) rfl (by kernel_rfl) (by kernel_rfl) (by kernel_rfl) (ho9450.rd M9602 2 (by kernel_rfl)) rfl hy9606) ?_
                            refine W_val (elemP p9447 (s9555.2.toNat * 3 + 1)) w9601 (by kernel_rfl) (E_fieldE (E := encAccess) _ _ 1 (s9555.2.toNat * 3) 1 rfl (by kernel_rfl) (by kernel_rfl) (ho9450.rd M9602 2 (by kernel_rfl)) hy9606) ?_
                            refine W_val (.int .i64 y9606.Width) w9601 (by kernel_rfl) (E_loadE (E := encAccess) _ _ false 1 s9555.2 1 (s9555.2.toNat * 3 + 1) y9606 (.int .i64 y9606.Width) rfl (by kernel_rfl) (by kernel_rfl) (by kernel_rfl) (ho9450.rd M9602 2 (by kernel_rfl)) hy9606 rfl) ?_
                            refine W_run 2 [(0, .slice p7600 x7598.length c7601), (3, .slice p9270 r9268.1.length c9271), (4, .pointer (some ⟨b9278, 0, none⟩)), (7, .int .i64 r9283.2.2.1), (8, .bool r9283.2.2.2), (17, .slice p9447 r9445.1.length c9448), (18, .bool r9445.2), (21, .int .i64 (w64 (s9555.1 + y9606.Width))), (22, .int .i64 s9555.2)] w9601 (by kernel_rfl) ?_
                            refine W_nil ?_
                            refine N_block ?_
                            refine N_then ?_
                            refine G_region ?_
                            refine W_run 3 [(0, .slice p7600 x7598.length c7601), (3, .slice p9270 r9268.1.length c9271), (4, .pointer (some ⟨b9278, 0, none⟩)), (7, .int .i64 r9283.2.2.1), (8, .bool r9283.2.2.2), (17, .slice p9447 r9445.1.length c9448), (18, .bool r9445.2), (21, .int .i64 (w64 (s9555.1 + y9606.Width))), (22, .int .i64 (w64 (s9555.2 + 1)))] w9601 (by kernel_rfl) ?_
                            refine W_nil ?_
                            obtain rfl := Option.some.inj hm
                            exact N_loop fun a ha => ⟨_, rfl, M9602.pick [0, 1, 2] (by kernel_rfl), ha.sub (by kernel_rfl)⟩
                      · refine G_cond_f (b := (decide (s9555.2 < (r9445.1.length : Int)))) hc9566 (by kernel_rfl) ?_
                        refine G_exit ?_
                        refine N_then_exit ?_
                        refine N_then_exit ?_
                        refine N_block_eq ?_
                        obtain rfl := Option.some.inj hm
                        obtain rfl := hout9557 _ rfl
                        exact N_meet fun a ha => ⟨_, rfl, M9560.pick [1, 2] (by kernel_rfl), ha.sub (by kernel_rfl)⟩
                    · intro a9607 w9608 ⟨o9565, hout_, M9609, hS9610⟩
                      refine N_use hS9610 ?_
                      subst hout_
                      have hm := hmo9564; simp only [Sum.elim_inl] at hm
                      refine N_then ?_
                      refine G_seq ?_
                      refine G_seq ?_
                      obtain ⟨o9617, ho9618, hm9619⟩ := gx_bind hm
                      refine G_meet (fun a w' => Mem [] w w' [] ∧ Sat Try.f10.ntmps [(0, .slice p7600 x7598.length c7601), (239, .bool o9617)] a) ?_ ?_
                      · have hm := ho9618
                        refine G_region ?_
                        refine W_run 2 [(0, .slice p7600 x7598.length c7601), (4, .pointer (some ⟨b9278, 0, none⟩)), (7, .int .i64 r9283.2.2.1), (8, .bool r9283.2.2.2), (17, .slice p9447 r9445.1.length c9448), (21, .int .i64 o9565), (219, .bool r9445.2)] w9608 (by kernel_rfl) ?_
                        rcases gx_bif hm with ⟨hc9620, hm⟩ | ⟨hc9620, hm⟩
                        · refine W_known 219 true (by kernel_rfl) hc9620 ?_
                          refine W_run 2 [(0, .slice p7600 x7598.length c7601), (4, .pointer (some ⟨b9278, 0, none⟩)), (7, .int .i64 r9283.2.2.1), (8, .bool r9283.2.2.2), (17, .slice p9447 r9445.1.length c9448), (219, .bool true), (220, .int .i64 o9565), (221, .pointer (some ⟨b9278, 0, none⟩))] w9608 (by kernel_rfl) ?_
                          refine W_val (.int .i64 r9268.2.Address) w9608 (by kernel_rfl) (E_load (e := 36) (fr := (0, 0)) _ _ false 1 b9278 0 [.int .i64 r9268.2.Address, .int .i64 r9268.2.Width, .bool r9268.2.Store] (.int .i64 r9268.2.Address) rfl (by kernel_rfl) (by kernel_rfl) (by kernel_rfl) (M9609.blk 0 (b := b9278) (o := .cells ⟨[.int .i64 r9268.2.Address, .int .i64 r9268.2.Width, .bool r9268.2.Store]⟩ 36 (0, 0)) (by kernel_rfl))) ?_
                          refine W_run 1 [(0, .slice p7600 x7598.length c7601), (7, .int .i64 r9283.2.2.1), (8, .bool r9283.2.2.2), (17, .slice p9447 r9445.1.length c9448), (219, .bool true), (220, .int .i64 o9565), (222, .int .i64 r9268.2.Address), (223, .pointer (some ⟨b9278, 1, none⟩))] w9608 (by kernel_rfl) ?_
                          refine W_val (.int .i64 r9268.2.Width) w9608 (by kernel_rfl) (E_load (e := 36) (fr := (0, 0)) _ _ false 1 b9278 1 [.int .i64 r9268.2.Address, .int .i64 r9268.2.Width, .bool r9268.2.Store] (.int .i64 r9268.2.Width) rfl (by kernel_rfl) (by kernel_rfl) (by kernel_rfl) (M9609.blk 0 (b := b9278) (o := .cells ⟨[.int .i64 r9268.2.Address, .int .i64 r9268.2.Width, .bool r9268.2.Store]⟩ 36 (0, 0)) (by kernel_rfl))) ?_
                          refine W_run 4 [(0, .slice p7600 x7598.length c7601), (7, .int .i64 r9283.2.2.1), (8, .bool r9283.2.2.2), (17, .slice p9447 r9445.1.length c9448), (228, .bool (o9565 != (w64 (r9268.2.Address + r9268.2.Width))))] w9608 (by kernel_rfl) ?_
                          rcases gx_bif hm with ⟨hc9621, hm⟩ | ⟨hc9621, hm⟩
                          · refine W_known 228 true (by kernel_rfl) hc9621 ?_
                            refine W_run 11 [(0, .slice p7600 x7598.length c7601), (239, .bool true)] w9608 (by kernel_rfl) ?_
                            refine W_nil ?_
                            obtain rfl := Option.some.inj hm
                            exact N_meet fun a ha => ⟨M9609.pick [] (by kernel_rfl), ha.sub (by kernel_rfl)⟩
                          · refine W_known 228 false (by kernel_rfl) hc9621 ?_
                            refine W_run 2 [(0, .slice p7600 x7598.length c7601), (7, .int .i64 r9283.2.2.1), (17, .slice p9447 r9445.1.length c9448), (228, .bool false), (230, .bool r9283.2.2.2)] w9608 (by kernel_rfl) ?_
                            rcases gx_bif hm with ⟨hc9622, hm⟩ | ⟨hc9622, hm⟩
                            · refine W_known 230 true (by kernel_rfl) hc9622 ?_
                              refine W_run 4 [(0, .slice p7600 x7598.length c7601), (17, .slice p9447 r9445.1.length c9448), (228, .bool false), (234, .bool (r9283.2.2.1 == 0))] w9608 (by kernel_rfl) ?_
                              rcases gx_bif hm with ⟨hc9623, hm⟩ | ⟨hc9623, hm⟩
                              · refine W_known 234 true (by kernel_rfl) hc9623 ?_
                                refine W_run 5 [(0, .slice p7600 x7598.length c7601), (239, .bool ((r9445.1.length : Int) != 1))] w9608 (by kernel_rfl) ?_
                                refine W_nil ?_
                                obtain rfl := Option.some.inj hm
                                exact N_meet fun a ha => ⟨M9609.pick [] (by kernel_rfl), ha.sub (by kernel_rfl)⟩
                              · refine W_known 234 false (by kernel_rfl) hc9623 ?_
                                refine W_run 5 [(0, .slice p7600 x7598.length c7601), (239, .bool false)] w9608 (by kernel_rfl) ?_
                                refine W_nil ?_
                                obtain rfl := Option.some.inj hm
                                exact N_meet fun a ha => ⟨M9609.pick [] (by kernel_rfl), ha.sub (by kernel_rfl)⟩
                            · refine W_known 230 false (by kernel_rfl) hc9622 ?_
                              refine W_run 9 [(0, .slice p7600 x7598.length c7601), (239, .bool false)] w9608 (by kernel_rfl) ?_
                              refine W_nil ?_
                              obtain rfl := Option.some.inj hm
                              exact N_meet fun a ha => ⟨M9609.pick [] (by kernel_rfl), ha.sub (by kernel_rfl)⟩
                        · refine W_known 219 false (by kernel_rfl) hc9620 ?_
                          refine W_run 11 [(0, .slice p7600 x7598.length c7601), (7, .int .i64 r9283.2.2.1), (17, .slice p9447 r9445.1.length c9448), (228, .bool false), (230, .bool r9283.2.2.2)] w9608 (by kernel_rfl) ?_
                          rcases gx_bif hm with ⟨hc9624, hm⟩ | ⟨hc9624, hm⟩
                          · refine W_known 230 true (by kernel_rfl) hc9624 ?_
                            refine W_run 4 [(0, .slice p7600 x7598.length c7601), (17, .slice p9447 r9445.1.length c9448), (228, .bool false), (234, .bool (r9283.2.2.1 == 0))] w9608 (by kernel_rfl) ?_
                            rcases gx_bif hm with ⟨hc9625, hm⟩ | ⟨hc9625, hm⟩
                            · refine W_known 234 true (by kernel_rfl) hc9625 ?_
                              refine W_run 5 [(0, .slice p7600 x7598.length c7601), (239, .bool ((r9445.1.length : Int) != 1))] w9608 (by kernel_rfl) ?_
                              refine W_nil ?_
                              obtain rfl := Option.some.inj hm
                              exact N_meet fun a ha => ⟨M9609.pick [] (by kernel_rfl), ha.sub (by kernel_rfl)⟩
                            · refine W_known 234 false (by kernel_rfl) hc9625 ?_
                              refine W_run 5 [(0, .slice p7600 x7598.length c7601), (239, .bool false)] w9608 (by kernel_rfl) ?_
                              refine W_nil ?_
                              obtain rfl := Option.some.inj hm
                              exact N_meet fun a ha => ⟨M9609.pick [] (by kernel_rfl), ha.sub (by kernel_rfl)⟩
                          · refine W_known 230 false (by kernel_rfl) hc9624 ?_
                            refine W_run 9 [(0, .slice p7600 x7598.length c7601), (239, .bool false)] w9608 (by kernel_rfl) ?_
                            refine W_nil ?_
                            obtain rfl := Option.some.inj hm
                            exact N_meet fun a ha => ⟨M9609.pick [] (by kernel_rfl), ha.sub (by kernel_rfl)⟩
                      · intro a9628 w9626 ⟨M9627, hS9629⟩
                        refine N_use hS9629 ?_
                        have hm := hm9619
                        refine N_then ?_
                        rcases gx_bif hm with ⟨hc9630, hm⟩ | ⟨hc9630, hm⟩
                        · refine G_cond_t (b := o9617) hc9630 (by kernel_rfl) ?_
                          refine G_seq ?_
                          refine G_region ?_
                          refine W_run 1 [(2, .bool false)] w9626 (by kernel_rfl) ?_
                          refine W_nil ?_
                          refine N_then ?_
                          refine G_ret ?_
                          refine N_then_ret ?_
                          obtain rfl := Option.some.inj hm
                          refine N_ret [.bool false] (RVs_cons (RV_tmp (by kernel_rfl)) RVs_nil) ?_
                          exact ⟨rfl, M9627.pick [] (by kernel_rfl)⟩
                        · refine G_cond_f (b := o9617) hc9630 (by kernel_rfl) ?_
                          refine G_skip ?_
                          refine N_then ?_
                          refine G_seq ?_
                          refine G_region ?_
                          refine W_run 1 [(0, .slice p7600 x7598.length c7601), (241, .slice p7600 x7598.length c7601)] w9626 (by kernel_rfl) ?_
                          obtain ⟨r9670, hr9670, hm⟩ := gx_bind hm
                          refine W_call 44 #[.slice p7600 x7598.length c7601] (by kernel_rfl) (by kernel_rfl) ?_
                          refine (c_s_DrawUnitsBetween w9626 x7598 p7600 c7601 (h7602.mem0 M9627) hr9670).mono ?_
                          rintro e_ w9676 ⟨p9672, c9673, sg9674, rfl, ho9675, K9677⟩
                          have M9678 := M9627.call K9677
                          refine ⟨_, rfl, ?_⟩
                          refine W_run 7 [(0, .slice p7600 x7598.length c7601), (27, .slice p9672 r9670.1.length c9673), (28, .int .i64 r9670.2.1), (29, .int .i64 r9670.2.2)] w9676 (by kernel_rfl) ?_
                          refine W_nil ?_
                          refine N_then ?_
                          refine G_seq ?_
                          refine G_region ?_
                          refine W_run 3 [(0, .slice p7600 x7598.length c7601), (27, .slice p9672 r9670.1.length c9673), (28, .int .i64 r9670.2.1), (29, .int .i64 r9670.2.2), (247, .slice p9672 r9670.1.length c9673), (248, .int .i64 r9670.2.1), (249, .int .i64 r9670.2.2)] w9676 (by kernel_rfl) ?_
                          obtain ⟨r9679, hr9679, hm⟩ := gx_bind hm
                          refine W_call 22 #[.slice p9672 r9670.1.length c9673, .int .i64 r9670.2.1, .int .i64 r9670.2.2] (by kernel_rfl) (by kernel_rfl) ?_
                          refine (c_i_UnitsBetween w9676 r9670.1 p9672 c9673 (ho9675.rd M9678 0 (by kernel_rfl)) r9670.2.1 r9670.2.2 hr9679).mono ?_
                          rintro e_ w9685 ⟨p9681, c9682, sg9683, rfl, ho9684, K9686⟩
                          have M9687 := M9678.call K9686
                          refine ⟨_, rfl, ?_⟩
                          refine W_run 5 [(0, .slice p7600 x7598.length c7601), (27, .slice p9672 r9670.1.length c9673), (28, .int .i64 r9670.2.1), (29, .int .i64 r9670.2.2), (30, .slice p9681 r9679.1.length c9682), (31, .bool r9679.2)] w9685 (by kernel_rfl) ?_
                          refine W_nil ?_
                          refine N_then ?_
                          refine G_seq ?_
                          refine G_seq ?_
                          refine G_region ?_
                          refine W_run 3 [(0, .slice p7600 x7598.length c7601), (30, .slice p9681 r9679.1.length c9682), (31, .bool r9679.2), (254, .slice p9672 r9670.1.length c9673), (255, .int .i64 r9670.2.1), (256, .int .i64 r9670.2.2)] w9685 (by kernel_rfl) ?_
                          obtain ⟨r9688, hr9688, hm⟩ := gx_bind hm
                          refine W_call 21 #[.slice p9672 r9670.1.length c9673, .int .i64 r9670.2.1, .int .i64 r9670.2.2] (by kernel_rfl) (by kernel_rfl) ?_
                          refine (c_s_UnitsBetween w9685 r9670.1 p9672 c9673 (ho9675.rd M9687 0 (by kernel_rfl)) r9670.2.1 r9670.2.2 hr9688).mono ?_
                          rintro e_ w9694 ⟨p9690, c9691, sg9692, rfl, ho9693, K9695⟩
                          have M9696 := M9687.call K9695
                          refine ⟨_, rfl, ?_⟩
                          refine W_run 5 [(0, .slice p7600 x7598.length c7601), (30, .slice p9681 r9679.1.length c9682), (31, .bool r9679.2), (32, .slice p9690 r9688.1.length c9691), (33, .bool r9688.2)] w9694 (by kernel_rfl) ?_
                          refine W_nil ?_
                          refine N_then ?_
                          refine G_seq ?_
                          obtain ⟨o9746, ho9747, hm9748⟩ := gx_bind hm
                          refine G_meet (fun a w' => Mem [] w w' [] ∧ Sat Try.f10.ntmps [(0, .slice p7600 x7598.length c7601), (268, .bool o9746)] a) ?_ ?_
                          · have hm := ho9747
                            refine G_region ?_
                            refine W_run 4 [(0, .slice p7600 x7598.length c7601), (30, .slice p9681 r9679.1.length c9682), (32, .slice p9690 r9688.1.length c9691), (263, .bool (!(r9679.2 == r9688.2)))] w9694 (by kernel_rfl) ?_
                            rcases gx_bif hm with ⟨hc9749, hm⟩ | ⟨hc9749, hm⟩
                            · refine W_known 263 true (by kernel_rfl) hc9749 ?_
                              refine W_run 5 [(0, .slice p7600 x7598.length c7601), (268, .bool true)] w9694 (by kernel_rfl) ?_
                              refine W_nil ?_
                              obtain rfl := Option.some.inj hm
                              exact N_meet fun a ha => ⟨M9696.pick [] (by kernel_rfl), ha.sub (by kernel_rfl)⟩
                            · refine W_known 263 false (by kernel_rfl) hc9749 ?_
                              refine W_run 2 [(0, .slice p7600 x7598.length c7601), (263, .bool false), (264, .slice p9681 r9679.1.length c9682), (265, .slice p9690 r9688.1.length c9691)] w9694 (by kernel_rfl) ?_
                              obtain ⟨r9750, hr9750, hm⟩ := gx_bind hm
                              refine W_call 45 #[.slice p9681 r9679.1.length c9682, .slice p9690 r9688.1.length c9691] (by kernel_rfl) (by kernel_rfl) ?_
                              refine (c_l_rInts w9694 r9679.1 p9681 c9682 (ho9684.rd M9696 1 (by kernel_rfl)) r9688.1 p9690 c9691 (ho9693.rd M9696 2 (by kernel_rfl)) hr9750).mono ?_
                              rintro e_ w9751 ⟨rfl, K9752⟩
                              have M9753 := M9696.call0 K9752
                              refine ⟨_, rfl, ?_⟩
                              refine W_run 2 [(0, .slice p7600 x7598.length c7601), (268, .bool (!r9750))] w9751 (by kernel_rfl) ?_
                              refine W_nil ?_
                              obtain rfl := Option.some.inj hm
                              exact N_meet fun a ha => ⟨M9753.pick [] (by kernel_rfl), ha.sub (by kernel_rfl)⟩
                          · intro a9756 w9754 ⟨M9755, hS9757⟩
                            refine N_use hS9757 ?_
                            have hm := hm9748
                            refine N_then ?_
                            rcases gx_bif hm with ⟨hc9758, hm⟩ | ⟨hc9758, hm⟩
                            · refine G_cond_t (b := o9746) hc9758 (by kernel_rfl) ?_
                              refine G_seq ?_
                              refine G_region ?_
                              refine W_run 1 [(2, .bool false)] w9754 (by kernel_rfl) ?_
                              refine W_nil ?_
                              refine N_then ?_
                              refine G_ret ?_
                              refine N_then_ret ?_
                              obtain rfl := Option.some.inj hm
                              refine N_ret [.bool false] (RVs_cons (RV_tmp (by kernel_rfl)) RVs_nil) ?_
                              exact ⟨rfl, M9755.pick [] (by kernel_rfl)⟩
                            · refine G_cond_f (b := o9746) hc9758 (by kernel_rfl) ?_
                              refine G_skip ?_
                              refine N_then ?_
                              refine G_seq ?_
                              refine G_region ?_
                              refine W_run 1 [(270, .slice p7600 x7598.length c7601)] w9754 (by kernel_rfl) ?_
                              obtain ⟨r9787, hr9787, hm⟩ := gx_bind hm
                              refine W_call 46 #[.slice p7600 x7598.length c7601] (by kernel_rfl) (by kernel_rfl) ?_
                              refine (c_s_DrawFindRegion w9754 x7598 p7600 c7601 (h7602.mem0 M9755) hr9787).mono ?_
                              rintro e_ w9793 ⟨p9789, c9790, sg9791, rfl, ho9792, K9794⟩
                              have M9795 := M9755.call K9794
                              refine ⟨_, rfl, ?_⟩
                              refine W_run 5 [(34, .slice p9789 r9787.1.length c9790), (35, .int .i64 r9787.2)] w9793 (by kernel_rfl) ?_
                              refine W_nil ?_
                              refine N_then ?_
                              refine G_seq ?_
                              refine G_region ?_
                              refine W_run 2 [(34, .slice p9789 r9787.1.length c9790), (35, .int .i64 r9787.2), (275, .slice p9789 r9787.1.length c9790), (276, .int .i64 r9787.2)] w9793 (by kernel_rfl) ?_
                              obtain ⟨r9796, hr9796, hm⟩ := gx_bind hm
                              refine W_call 42 #[.slice p9789 r9787.1.length c9790, .int .i64 r9787.2] (by kernel_rfl) (by kernel_rfl) ?_
                              refine (c_i_FindRegion w9793 r9787.1 p9789 c9790 (ho9792.rd M9795 0 (by kernel_rfl)) r9787.2 hr9796).mono ?_
                              rintro e_ w9797 ⟨rfl, K9798⟩
                              have M9799 := M9795.call0 K9798
                              refine ⟨_, rfl, ?_⟩
                              refine W_run 5 [(34, .slice p9789 r9787.1.length c9790), (35, .int .i64 r9787.2), (36, .int .i64 r9796.1), (37, .bool r9796.2)] w9797 (by kernel_rfl) ?_
                              refine W_nil ?_
                              refine N_then ?_
                              refine G_seq ?_
                              refine G_region ?_
                              refine W_run 2 [(36, .int .i64 r9796.1), (37, .bool r9796.2), (281, .slice p9789 r9787.1.length c9790), (282, .int .i64 r9787.2)] w9797 (by kernel_rfl) ?_
                              obtain ⟨r9800, hr9800, hm⟩ := gx_bind hm
                              refine W_call 43 #[.slice p9789 r9787.1.length c9790, .int .i64 r9787.2] (by kernel_rfl) (by kernel_rfl) ?_
                              refine (c_s_FindRegion w9797 r9787.1 p9789 c9790 (ho9792.rd M9799 0 (by kernel_rfl)) r9787.2 hr9800).mono ?_
                              rintro e_ w9801 ⟨rfl, K9802⟩
                              have M9803 := M9799.call0 K9802
                              refine ⟨_, rfl, ?_⟩
                              refine W_run 5 [(36, .int .i64 r9796.1), (37, .bool r9796.2), (38, .int .i64 r9800.1), (39, .bool r9800.2)] w9801 (by kernel_rfl) ?_
                              refine W_nil ?_
                              refine N_then ?_
                              refine G_seq ?_
                              obtain ⟨o9805, ho9806, hm9807⟩ := gx_bind hm
                              refine G_meet (fun a w' => Mem [] w w' [] ∧ Sat Try.f10.ntmps [(2, .bool o9805)] a) ?_ ?_
                              · have hm := ho9806
                                refine G_region ?_
                                refine W_run 4 [(37, .bool r9796.2), (39, .bool r9800.2), (289, .bool (r9796.1 == r9800.1))] w9801 (by kernel_rfl) ?_
                                rcases gx_bif hm with ⟨hc9808, hm⟩ | ⟨hc9808, hm⟩
                                · refine W_known 289 true (by kernel_rfl) hc9808 ?_
                                  refine W_run 5 [(2, .bool (r9796.2 == r9800.2))] w9801 (by kernel_rfl) ?_
                                  refine W_nil ?_
                                  obtain rfl := Option.some.inj hm
                                  exact N_meet fun a ha => ⟨M9803.pick [] (by kernel_rfl), ha.sub (by kernel_rfl)⟩
                                · refine W_known 289 false (by kernel_rfl) hc9808 ?_
                                  refine W_run 5 [(2, .bool false)] w9801 (by kernel_rfl) ?_
                                  refine W_nil ?_
                                  obtain rfl := Option.some.inj hm
                                  exact N_meet fun a ha => ⟨M9803.pick [] (by kernel_rfl), ha.sub (by kernel_rfl)⟩
                              · intro a9811 w9809 ⟨M9810, hS9812⟩
                                refine N_use hS9812 ?_
                                have hm := hm9807
                                refine N_then ?_
                                refine G_ret ?_
                                obtain rfl := Option.some.inj hm
                                refine N_ret [.bool o9805] (RVs_cons (RV_tmp (by kernel_rfl)) RVs_nil) ?_
                                exact ⟨rfl, M9810.pick [] (by kernel_rfl)⟩
end Go.Proofs.Ytphinfkojhecdaa
