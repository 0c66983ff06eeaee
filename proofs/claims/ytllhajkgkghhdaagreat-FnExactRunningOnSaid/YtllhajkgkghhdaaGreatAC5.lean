/- The walks, printed by program: whenever the model gives r, the call returns r. Part 5. -/
import Derived.Test.YtllhajkgkghhdaaGreatAM
import Derived.Test.YtllhajkgkghhdaaGreatProg
import Derived.Test.YtllhajkgkghhdaaGreatSh
import Derived.Test.YtllhajkgkghhdaaGreatAC4
set_option linter.unusedVariables false
set_option maxRecDepth 100000
set_option maxHeartbeats 4000000
namespace Go.Proofs.YtllhajkgkghhdaaGreat
open Go.Gx
theorem c_l_FnExactRunningOn (w : World) (x6986 : Machine) (p6988 : Option Addr) (c6989 : Nat) (h6990 : rdS encRoute w x6986.Routes p6988 c6989) (p6992 : Option Addr) (c6993 : Nat) (h6994 : rdS Gx.encB w x6986.Enabled p6992 c6993) (p6996 : Option Addr) (c6997 : Nat) (h6998 : rdS Gx.encB w x6986.Raised p6996 c6997) (p7000 : Option Addr) (c7001 : Nat) (h7002 : rdD deepInterface w x6986.Cpus p7000 c7001) (x7003 : Int) {r : Bool} (hm : M.l_FnExactRunningOn x6986 x7003 = some r) :
    Calls Tryz.prog 4 #[.agg #[.slice p6988 x6986.Routes.length c6989, .slice p6992 x6986.Enabled.length c6993, .slice p6996 x6986.Raised.length c6997, .slice p7000 x6986.Cpus.length c7001], .int .i64 x7003] w fun e w' => e = .returned (.bool r) ∧ Mem [] w w' [] := by
  unfold M.l_FnExactRunningOn at hm
  refine C_enter Tryz.func4 rfl (by kernel_rfl) ?_
  have M0 := Mem.refl [] w
  refine G_seq ?_
  refine G_region ?_
  refine W_new (fun b => .pointer (some ⟨b, 0, none⟩)) (.cells ⟨[.slice p6988 x6986.Routes.length c6989, .slice p6992 x6986.Enabled.length c6993, .slice p6996 x6986.Raised.length c6997, .slice p7000 x6986.Cpus.length c7001]⟩ 26 (0, 0)) M0 rfl (by kernel_rfl) (by kernel_rfl) ?_
  intro b7005 w7006 M7007
  refine W_run 1 [(1, .int .i64 x7003), (2, .pointer (some ⟨b7005, 0, none⟩))] w7006 (by kernel_rfl) ?_
  refine W_nil ?_
  refine N_then ?_
  refine G_seq ?_
  refine G_region ?_
  refine W_run 1 [(1, .int .i64 x7003), (2, .pointer (some ⟨b7005, 0, none⟩)), (5, .int .i64 1048576)] w7006 (by kernel_rfl) ?_
  refine W_nil ?_
  refine N_then ?_
  refine G_seq ?_
  refine G_region ?_
  refine W_val (.agg #[.slice p6988 x6986.Routes.length c6989, .slice p6992 x6986.Enabled.length c6993, .slice p6996 x6986.Raised.length c6997, .slice p7000 x6986.Cpus.length c7001]) w7006 (by kernel_rfl) (E_load (e := 26) (fr := (0, 0)) _ _ true 4 b7005 0 [.slice p6988 x6986.Routes.length c6989, .slice p6992 x6986.Enabled.length c6993, .slice p6996 x6986.Raised.length c6997, .slice p7000 x6986.Cpus.length c7001] (.agg #[.slice p6988 x6986.Routes.length c6989, .slice p6992 x6986.Enabled.length c6993, .slice p6996 x6986.Raised.length c6997, .slice p7000 x6986.Cpus.length c7001]) rfl (by kernel_rfl) (by kernel_rfl) (by kernel_rfl) (M7007.blk 0 (b := b7005) (o := .cells ⟨[.slice p6988 x6986.Routes.length c6989, .slice p6992 x6986.Enabled.length c6993, .slice p6996 x6986.Raised.length c6997, .slice p7000 x6986.Cpus.length c7001]⟩ 26 (0, 0)) (by kernel_rfl))) ?_
  refine W_run 1 [(1, .int .i64 x7003), (2, .pointer (some ⟨b7005, 0, none⟩)), (5, .int .i64 1048576), (16, .agg #[.slice p6988 x6986.Routes.length c6989, .slice p6992 x6986.Enabled.length c6993, .slice p6996 x6986.Raised.length c6997, .slice p7000 x6986.Cpus.length c7001]), (17, .int .i64 1048576)] w7006 (by kernel_rfl) ?_
  obtain ⟨r7008, hr7008, hm⟩ := gx_bind hm
  refine W_call 12 #[.agg #[.slice p6988 x6986.Routes.length c6989, .slice p6992 x6986.Enabled.length c6993, .slice p6996 x6986.Raised.length c6997, .slice p7000 x6986.Cpus.length c7001], .int .i64 1048576] (by kernel_rfl) (by kernel_rfl) ?_
  refine (c_l_szMachine w7006 x6986 p6988 c6989 (h6990.mem0 M7007) p6992 c6993 (h6994.mem0 M7007) p6996 c6997 (h6998.mem0 M7007) p7000 c7001 (h7002.mem0 M7007) 1048576 hr7008).mono ?_
  rintro e_ w7009 ⟨rfl, K7010⟩
  have M7011 := M7007.call0 K7010
  refine ⟨_, rfl, ?_⟩
  refine W_run 1 [(1, .int .i64 x7003), (2, .pointer (some ⟨b7005, 0, none⟩)), (5, .int .i64 r7008)] w7009 (by kernel_rfl) ?_
  refine W_nil ?_
  refine N_then ?_
  refine G_seq ?_
  refine G_seq ?_
  refine G_region ?_
  refine W_run 2 [(1, .int .i64 x7003), (2, .pointer (some ⟨b7005, 0, none⟩)), (20, .bool (decide (r7008 < 0)))] w7009 (by kernel_rfl) ?_
  refine W_nil ?_
  refine N_then ?_
  rcases gx_bif hm with ⟨hc7012, hm⟩ | ⟨hc7012, hm⟩
  · refine G_cond_t (b := (decide (r7008 < 0))) hc7012 (by kernel_rfl) ?_
    refine G_seq ?_
    refine G_region ?_
    refine W_run 1 [(4, .bool true)] w7009 (by kernel_rfl) ?_
    refine W_nil ?_
    refine N_then ?_
    refine G_ret ?_
    refine N_then_ret ?_
    obtain rfl := Option.some.inj hm
    refine N_ret [.bool true] (RVs_cons (RV_tmp (by kernel_rfl)) RVs_nil) ?_
    exact ⟨rfl, M7011.pick [] (by kernel_rfl)⟩
  · refine G_cond_f (b := (decide (r7008 < 0))) hc7012 (by kernel_rfl) ?_
    refine G_skip ?_
    refine N_then ?_
    refine G_seq ?_
    refine G_region ?_
    refine W_val (.agg #[.slice p6988 x6986.Routes.length c6989, .slice p6992 x6986.Enabled.length c6993, .slice p6996 x6986.Raised.length c6997, .slice p7000 x6986.Cpus.length c7001]) w7009 (by kernel_rfl) (E_load (e := 26) (fr := (0, 0)) _ _ true 4 b7005 0 [.slice p6988 x6986.Routes.length c6989, .slice p6992 x6986.Enabled.length c6993, .slice p6996 x6986.Raised.length c6997, .slice p7000 x6986.Cpus.length c7001] (.agg #[.slice p6988 x6986.Routes.length c6989, .slice p6992 x6986.Enabled.length c6993, .slice p6996 x6986.Raised.length c6997, .slice p7000 x6986.Cpus.length c7001]) rfl (by kernel_rfl) (by kernel_rfl) (by kernel_rfl) (M7011.blk 0 (b := b7005) (o := .cells ⟨[.slice p6988 x6986.Routes.length c6989, .slice p6992 x6986.Enabled.length c6993, .slice p6996 x6986.Raised.length c6997, .slice p7000 x6986.Cpus.length c7001]⟩ 26 (0, 0)) (by kernel_rfl))) ?_
    obtain ⟨r7013, hr7013, hm⟩ := gx_bind hm
    refine W_call 14 #[.agg #[.slice p6988 x6986.Routes.length c6989, .slice p6992 x6986.Enabled.length c6993, .slice p6996 x6986.Raised.length c6997, .slice p7000 x6986.Cpus.length c7001]] (by kernel_rfl) (by kernel_rfl) ?_
    refine (c_l_toMachine w7009 x6986 p6988 c6989 (h6990.mem0 M7011) p6992 c6993 (h6994.mem0 M7011) p6996 c6997 (h6998.mem0 M7011) p7000 c7001 (h7002.mem0 M7011) hr7013).mono ?_
    rintro e_ w7035 ⟨p7015, c7016, sg7017, p7020, c7021, sg7022, p7025, c7026, sg7027, p7030, c7031, sg7032, sg7033, rfl, ho7018, ho7023, ho7028, ho7034, K7036⟩
    have M7037 := M7011.call K7036
    refine ⟨_, rfl, ?_⟩
    refine W_run 1 [(1, .int .i64 x7003), (2, .pointer (some ⟨b7005, 0, none⟩)), (23, .agg #[.slice p7015 r7013.Routes.length c7016, .slice p7020 r7013.Enabled.length c7021, .slice p7025 r7013.Raised.length c7026, .slice p7030 r7013.Cpus.length c7031]), (24, .int .i64 x7003)] w7035 (by kernel_rfl) ?_
    obtain ⟨r7168, hr7168, hm⟩ := gx_bind hm
    refine W_call 17 #[.agg #[.slice p7015 r7013.Routes.length c7016, .slice p7020 r7013.Enabled.length c7021, .slice p7025 r7013.Raised.length c7026, .slice p7030 r7013.Cpus.length c7031], .int .i64 x7003] (by kernel_rfl) (by kernel_rfl) ?_
    refine (c_s_RunningOn w7035 r7013 p7015 c7016 (ho7018.rd M7037 1 (by kernel_rfl)) p7020 c7021 (ho7023.rd M7037 2 (by kernel_rfl)) p7025 c7026 (ho7028.rd M7037 3 (by kernel_rfl)) p7030 c7031 (ho7034.rd M7037 4 (by kernel_rfl) 5 (by kernel_rfl)) x7003 hr7168).mono ?_
    rintro e_ w7174 ⟨p7170, c7171, sg7172, rfl, ho7173, K7175⟩
    have M7176 := M7037.call K7175
    refine ⟨_, rfl, ?_⟩
    refine W_run 5 [(1, .int .i64 x7003), (2, .pointer (some ⟨b7005, 0, none⟩)), (6, .slice p7170 r7168.1.length c7171), (7, .bool r7168.2)] w7174 (by kernel_rfl) ?_
    refine W_nil ?_
    refine N_then ?_
    refine G_seq ?_
    refine G_region ?_
    refine W_val (.agg #[.slice p6988 x6986.Routes.length c6989, .slice p6992 x6986.Enabled.length c6993, .slice p6996 x6986.Raised.length c6997, .slice p7000 x6986.Cpus.length c7001]) w7174 (by kernel_rfl) (E_load (e := 26) (fr := (0, 0)) _ _ true 4 b7005 0 [.slice p6988 x6986.Routes.length c6989, .slice p6992 x6986.Enabled.length c6993, .slice p6996 x6986.Raised.length c6997, .slice p7000 x6986.Cpus.length c7001] (.agg #[.slice p6988 x6986.Routes.length c6989, .slice p6992 x6986.Enabled.length c6993, .slice p6996 x6986.Raised.length c6997, .slice p7000 x6986.Cpus.length c7001]) rfl (by kernel_rfl) (by kernel_rfl) (by kernel_rfl) (M7176.blk 0 (b := b7005) (o := .cells ⟨[.slice p6988 x6986.Routes.length c6989, .slice p6992 x6986.Enabled.length c6993, .slice p6996 x6986.Raised.length c6997, .slice p7000 x6986.Cpus.length c7001]⟩ 26 (0, 0)) (by kernel_rfl))) ?_
    obtain ⟨r7177, hr7177, hm⟩ := gx_bind hm
    refine W_call 14 #[.agg #[.slice p6988 x6986.Routes.length c6989, .slice p6992 x6986.Enabled.length c6993, .slice p6996 x6986.Raised.length c6997, .slice p7000 x6986.Cpus.length c7001]] (by kernel_rfl) (by kernel_rfl) ?_
    refine (c_l_toMachine w7174 x6986 p6988 c6989 (h6990.mem0 M7176) p6992 c6993 (h6994.mem0 M7176) p6996 c6997 (h6998.mem0 M7176) p7000 c7001 (h7002.mem0 M7176) hr7177).mono ?_
    rintro e_ w7199 ⟨p7179, c7180, sg7181, p7184, c7185, sg7186, p7189, c7190, sg7191, p7194, c7195, sg7196, sg7197, rfl, ho7182, ho7187, ho7192, ho7198, K7200⟩
    have M7201 := M7176.call K7200
    refine ⟨_, rfl, ?_⟩
    refine W_new (fun b => .pointer (some ⟨b, 0, none⟩)) (.cells ⟨[.slice none 0 0, .slice none 0 0, .slice none 0 0, .slice none 0 0]⟩ 32 (0, 0)) M7201 rfl (by kernel_rfl) (by kernel_rfl) ?_
    intro b7207 w7208 M7209
    refine W_store _ _ _ true 4 b7207 0 [.slice none 0 0, .slice none 0 0, .slice none 0 0, .slice none 0 0] 32 (.agg #[.slice p7179 r7177.Routes.length c7180, .slice p7184 r7177.Enabled.length c7185, .slice p7189 r7177.Raised.length c7190, .slice p7194 r7177.Cpus.length c7195]) 12 [.slice p7179 r7177.Routes.length c7180, .slice p7184 r7177.Enabled.length c7185, .slice p7189 r7177.Raised.length c7190, .slice p7194 r7177.Cpus.length c7195] M7209 (by kernel_rfl) rfl (by kernel_rfl) (by kernel_rfl) (by kernel_rfl) (by kernel_rfl) (by kernel_rfl) (by kernel_rfl) (by kernel_rfl) (by kernel_rfl) ?_
    intro w7210 M7211
    refine W_nil ?_
    refine N_then ?_
    refine G_seq ?_
    refine G_region ?_
    refine W_val (.agg #[.slice p7179 r7177.Routes.length c7180, .slice p7184 r7177.Enabled.length c7185, .slice p7189 r7177.Raised.length c7190, .slice p7194 r7177.Cpus.length c7195]) w7210 (by kernel_rfl) (E_load (e := 32) (fr := (0, 0)) _ _ true 4 b7207 0 [.slice p7179 r7177.Routes.length c7180, .slice p7184 r7177.Enabled.length c7185, .slice p7189 r7177.Raised.length c7190, .slice p7194 r7177.Cpus.length c7195] (.agg #[.slice p7179 r7177.Routes.length c7180, .slice p7184 r7177.Enabled.length c7185, .slice p7189 r7177.Raised.length c7190, .slice p7194 r7177.Cpus.length c7195]) rfl (by kernel_rfl) (by kernel_rfl) (by kernel_rfl) (M7211.blk 12 (b := b7207) (o := .cells ⟨[.slice p7179 r7177.Routes.length c7180, .slice p7184 r7177.Enabled.length c7185, .slice p7189 r7177.Raised.length c7190, .slice p7194 r7177.Cpus.length c7195]⟩ 32 (0, 0)) (by kernel_rfl))) ?_
    refine W_run 1 [(1, .int .i64 x7003), (2, .pointer (some ⟨b7005, 0, none⟩)), (6, .slice p7170 r7168.1.length c7171), (7, .bool r7168.2), (8, .pointer (some ⟨b7207, 0, none⟩)), (31, .agg #[.slice p7179 r7177.Routes.length c7180, .slice p7184 r7177.Enabled.length c7185, .slice p7189 r7177.Raised.length c7190, .slice p7194 r7177.Cpus.length c7195]), (32, .int .i64 x7003)] w7210 (by kernel_rfl) ?_
    obtain ⟨r7311, hr7311, hm⟩ := gx_bind hm
    refine W_call 18 #[.agg #[.slice p7179 r7177.Routes.length c7180, .slice p7184 r7177.Enabled.length c7185, .slice p7189 r7177.Raised.length c7190, .slice p7194 r7177.Cpus.length c7195], .int .i64 x7003] (by kernel_rfl) (by kernel_rfl) ?_
    refine (c_i_RunningOn w7210 r7177 p7179 c7180 (ho7182.rd M7211 7 (by kernel_rfl)) p7184 c7185 (ho7187.rd M7211 8 (by kernel_rfl)) p7189 c7190 (ho7192.rd M7211 9 (by kernel_rfl)) p7194 c7195 (ho7198.rd M7211 10 (by kernel_rfl) 11 (by kernel_rfl)) x7003 hr7311).mono ?_
    rintro e_ w7317 ⟨p7313, c7314, sg7315, rfl, ho7316, K7318⟩
    have M7319 := M7211.call K7318
    refine ⟨_, rfl, ?_⟩
    refine W_run 5 [(1, .int .i64 x7003), (2, .pointer (some ⟨b7005, 0, none⟩)), (6, .slice p7170 r7168.1.length c7171), (7, .bool r7168.2), (8, .pointer (some ⟨b7207, 0, none⟩)), (9, .slice p7313 r7311.1.length c7314), (10, .bool r7311.2)] w7317 (by kernel_rfl) ?_
    refine W_nil ?_
    refine N_then ?_
    refine G_seq ?_
    refine G_seq ?_
    obtain ⟨o7325, ho7326, hm7327⟩ := gx_bind hm
    refine G_meet (fun a w' => Mem [] w w' [[(b7005, .cells ⟨[.slice p6988 x6986.Routes.length c6989, .slice p6992 x6986.Enabled.length c6993, .slice p6996 x6986.Raised.length c6997, .slice p7000 x6986.Cpus.length c7001]⟩ 26 (0, 0))], sg7172, sg7181, sg7186, sg7191, sg7196, sg7197, [(b7207, .cells ⟨[.slice p7179 r7177.Routes.length c7180, .slice p7184 r7177.Enabled.length c7185, .slice p7189 r7177.Raised.length c7190, .slice p7194 r7177.Cpus.length c7195]⟩ 32 (0, 0))], sg7315] ∧ Sat Tryz.f4.ntmps [(1, .int .i64 x7003), (2, .pointer (some ⟨b7005, 0, none⟩)), (6, .slice p7170 r7168.1.length c7171), (7, .bool r7168.2), (8, .pointer (some ⟨b7207, 0, none⟩)), (9, .slice p7313 r7311.1.length c7314), (10, .bool r7311.2), (44, .bool o7325)] a) ?_ ?_
    · have hm := ho7326
      refine G_region ?_
      refine W_run 2 [(1, .int .i64 x7003), (2, .pointer (some ⟨b7005, 0, none⟩)), (6, .slice p7170 r7168.1.length c7171), (7, .bool r7168.2), (8, .pointer (some ⟨b7207, 0, none⟩)), (9, .slice p7313 r7311.1.length c7314), (10, .bool r7311.2), (36, .slice p7313 r7311.1.length c7314), (37, .slice p7170 r7168.1.length c7171)] w7317 (by kernel_rfl) ?_
      obtain ⟨r7328, hr7328, hm⟩ := gx_bind hm
      refine W_call 19 #[.slice p7313 r7311.1.length c7314, .slice p7170 r7168.1.length c7171] (by kernel_rfl) (by kernel_rfl) ?_
      refine (c_l_eqIntS w7317 r7311.1 p7313 c7314 (ho7316.rd M7319 13 (by kernel_rfl)) r7168.1 p7170 c7171 (ho7173.rd M7319 6 (by kernel_rfl)) hr7328).mono ?_
      rintro e_ w7329 ⟨rfl, K7330⟩
      have M7331 := M7319.call0 K7330
      refine ⟨_, rfl, ?_⟩
      refine W_run 2 [(1, .int .i64 x7003), (2, .pointer (some ⟨b7005, 0, none⟩)), (6, .slice p7170 r7168.1.length c7171), (7, .bool r7168.2), (8, .pointer (some ⟨b7207, 0, none⟩)), (9, .slice p7313 r7311.1.length c7314), (10, .bool r7311.2), (40, .bool (!r7328))] w7329 (by kernel_rfl) ?_
      rcases gx_bif hm with ⟨hc7332, hm⟩ | ⟨hc7332, hm⟩
      · refine W_known 40 true (by kernel_rfl) hc7332 ?_
        refine W_run 4 [(1, .int .i64 x7003), (2, .pointer (some ⟨b7005, 0, none⟩)), (6, .slice p7170 r7168.1.length c7171), (7, .bool r7168.2), (8, .pointer (some ⟨b7207, 0, none⟩)), (9, .slice p7313 r7311.1.length c7314), (10, .bool r7311.2), (44, .bool true)] w7329 (by kernel_rfl) ?_
        refine W_nil ?_
        obtain rfl := Option.some.inj hm
        exact N_meet fun a ha => ⟨M7331.pick [0, 6, 7, 8, 9, 10, 11, 12, 13] (by kernel_rfl), ha.sub (by kernel_rfl)⟩
      · refine W_known 40 false (by kernel_rfl) hc7332 ?_
        refine W_run 4 [(1, .int .i64 x7003), (2, .pointer (some ⟨b7005, 0, none⟩)), (6, .slice p7170 r7168.1.length c7171), (7, .bool r7168.2), (8, .pointer (some ⟨b7207, 0, none⟩)), (9, .slice p7313 r7311.1.length c7314), (10, .bool r7311.2), (44, .bool (!(r7311.2 == r7168.2)))] w7329 (by kernel_rfl) ?_
        refine W_nil ?_
        obtain rfl := Option.some.inj hm
        exact N_meet fun a ha => ⟨M7331.pick [0, 6, 7, 8, 9, 10, 11, 12, 13] (by kernel_rfl), ha.sub (by kernel_rfl)⟩
    · intro a7335 w7333 ⟨M7334, hS7336⟩
      refine N_use hS7336 ?_
      have hm := hm7327
      refine N_then ?_
      rcases gx_bif hm with ⟨hc7337, hm⟩ | ⟨hc7337, hm⟩
      · refine G_cond_t (b := o7325) hc7337 (by kernel_rfl) ?_
        refine G_seq ?_
        refine G_region ?_
        refine W_run 1 [(4, .bool false)] w7333 (by kernel_rfl) ?_
        refine W_nil ?_
        refine N_then ?_
        refine G_ret ?_
        refine N_then_ret ?_
        obtain rfl := Option.some.inj hm
        refine N_ret [.bool false] (RVs_cons (RV_tmp (by kernel_rfl)) RVs_nil) ?_
        exact ⟨rfl, M7334.pick [] (by kernel_rfl)⟩
      · refine G_cond_f (b := o7325) hc7337 (by kernel_rfl) ?_
        refine G_skip ?_
        refine N_then ?_
        refine G_seq ?_
        refine G_seq ?_
        obtain ⟨r7340, hr7340, hm⟩ := gx_bind hm
        refine G_sub [(1, .int .i64 x7003), (2, .pointer (some ⟨b7005, 0, none⟩)), (6, .slice p7170 r7168.1.length c7171), (7, .bool r7168.2), (8, .pointer (some ⟨b7207, 0, none⟩)), (9, .slice p7313 r7311.1.length c7314), (10, .bool r7311.2), (44, .bool o7325)] (by kernel_rfl) ?_
        refine G_dagL 3 [[], [], [1]] [[], [], []] [[], [], []] [[], [], []] [[], [], []] [[], [], []] (fun _ => []) (fun i => ([fun f v s => v = (.agg #[.slice p7179 r7177.Routes.length c7180, .slice p7184 r7177.Enabled.length c7185, .slice p7189 r7177.Raised.length c7190, .slice p7194 r7177.Cpus.length c7195] : Value) ∧ s = [], fun f v s => v = (.agg #[.slice p6988 x6986.Routes.length c6989, .slice p6992 x6986.Enabled.length c6993, .slice p6996 x6986.Raised.length c6997, .slice p7000 x6986.Cpus.length c7001] : Value) ∧ s = [], fun f v s => ∃ (p7342 : Option Addr) (c7343 : Nat) (sg7344 : Seg), ∃ (p7347 : Option Addr) (c7348 : Nat) (sg7349 : Seg), ∃ (p7352 : Option Addr) (c7353 : Nat) (sg7354 : Seg), ∃ (p7357 : Option Addr) (c7358 : Nat) (sg7359 : Seg) (sg7360 : Seg), v = (.agg #[.slice p7342 r7340.Routes.length c7343, .slice p7347 r7340.Enabled.length c7348, .slice p7352 r7340.Raised.length c7353, .slice p7357 r7340.Cpus.length c7358] : Value) ∧ s = (sg7344 ++ (sg7349 ++ (sg7354 ++ (sg7359 ++ sg7360)))) ∧ ownS encRoute r7340.Routes p7342 c7343 sg7344 ∧ ownS Gx.encB r7340.Enabled p7347 c7348 sg7349 ∧ ownS Gx.encB r7340.Raised p7352 c7353 sg7354 ∧ ownD deepInterface r7340.Cpus p7357 c7358 sg7359 sg7360] : List ((Nat → Value) → Value → Seg → Prop)).getD i (fun _ _ _ => False)) (fun j f v => ∃ s, (fun i => ([fun f v s => v = (.agg #[.slice p7179 r7177.Routes.length c7180, .slice p7184 r7177.Enabled.length c7185, .slice p7189 r7177.Raised.length c7190, .slice p7194 r7177.Cpus.length c7195] : Value) ∧ s = [], fun f v s => v = (.agg #[.slice p6988 x6986.Routes.length c6989, .slice p6992 x6986.Enabled.length c6993, .slice p6996 x6986.Raised.length c6997, .slice p7000 x6986.Cpus.length c7001] : Value) ∧ s = [], fun f v s => ∃ (p7342 : Option Addr) (c7343 : Nat) (sg7344 : Seg), ∃ (p7347 : Option Addr) (c7348 : Nat) (sg7349 : Seg), ∃ (p7352 : Option Addr) (c7353 : Nat) (sg7354 : Seg), ∃ (p7357 : Option Addr) (c7358 : Nat) (sg7359 : Seg) (sg7360 : Seg), v = (.agg #[.slice p7342 r7340.Routes.length c7343, .slice p7347 r7340.Enabled.length c7348, .slice p7352 r7340.Raised.length c7353, .slice p7357 r7340.Cpus.length c7358] : Value) ∧ s = (sg7344 ++ (sg7349 ++ (sg7354 ++ (sg7359 ++ sg7360)))) ∧ ownS encRoute r7340.Routes p7342 c7343 sg7344 ∧ ownS Gx.encB r7340.Enabled p7347 c7348 sg7349 ∧ ownS Gx.encB r7340.Raised p7352 c7353 sg7354 ∧ ownD deepInterface r7340.Cpus p7357 c7358 sg7359 sg7360] : List ((Nat → Value) → Value → Seg → Prop)).getD i (fun _ _ _ => False)) j f v s) [] [0, 2] [2] (fun _ _ _ s h => ⟨s, h⟩) (by kernel_rfl) (by kernel_rfl) (M7334.preNil 3) (by kernel_rfl) (by kernel_rfl) (by kernel_rfl) (by kernel_rfl) (allOb_cons ?_ (allOb_cons ?_ (allOb_cons ?_ allOb_nil))) ?_
        · intro g7338 f7339
          intro R w7362 M7363
          refine W_val (.agg #[.slice p7179 r7177.Routes.length c7180, .slice p7184 r7177.Enabled.length c7185, .slice p7189 r7177.Raised.length c7190, .slice p7194 r7177.Cpus.length c7195]) w7362 (by kernel_rfl) (E_load (e := 32) (fr := (0, 0)) _ _ true 4 b7207 0 [.slice p7179 r7177.Routes.length c7180, .slice p7184 r7177.Enabled.length c7185, .slice p7189 r7177.Raised.length c7190, .slice p7194 r7177.Cpus.length c7195] (.agg #[.slice p7179 r7177.Routes.length c7180, .slice p7184 r7177.Enabled.length c7185, .slice p7189 r7177.Raised.length c7190, .slice p7194 r7177.Cpus.length c7195]) rfl (by kernel_rfl) (by kernel_rfl) (by kernel_rfl) (M7363.blk 7 (b := b7207) (o := .cells ⟨[.slice p7179 r7177.Routes.length c7180, .slice p7184 r7177.Enabled.length c7185, .slice p7189 r7177.Raised.length c7190, .slice p7194 r7177.Cpus.length c7195]⟩ 32 (0, 0)) (by kernel_rfl))) ?_
          exact W_nil (ob_end (.agg #[.slice p7179 r7177.Routes.length c7180, .slice p7184 r7177.Enabled.length c7185, .slice p7189 r7177.Raised.length c7190, .slice p7194 r7177.Cpus.length c7195]) [] rfl (by kernel_rfl) ⟨by kernel_rfl, rfl⟩ M7363)
        · intro g7338 f7339
          intro R w7366 M7367
          refine W_val (.agg #[.slice p6988 x6986.Routes.length c6989, .slice p6992 x6986.Enabled.length c6993, .slice p6996 x6986.Raised.length c6997, .slice p7000 x6986.Cpus.length c7001]) w7366 (by kernel_rfl) (E_load (e := 26) (fr := (0, 0)) _ _ true 4 b7005 0 [.slice p6988 x6986.Routes.length c6989, .slice p6992 x6986.Enabled.length c6993, .slice p6996 x6986.Raised.length c6997, .slice p7000 x6986.Cpus.length c7001] (.agg #[.slice p6988 x6986.Routes.length c6989, .slice p6992 x6986.Enabled.length c6993, .slice p6996 x6986.Raised.length c6997, .slice p7000 x6986.Cpus.length c7001]) rfl (by kernel_rfl) (by kernel_rfl) (by kernel_rfl) (M7367.blk 0 (b := b7005) (o := .cells ⟨[.slice p6988 x6986.Routes.length c6989, .slice p6992 x6986.Enabled.length c6993, .slice p6996 x6986.Raised.length c6997, .slice p7000 x6986.Cpus.length c7001]⟩ 26 (0, 0)) (by kernel_rfl))) ?_
          exact W_nil (ob_end (.agg #[.slice p6988 x6986.Routes.length c6989, .slice p6992 x6986.Enabled.length c6993, .slice p6996 x6986.Raised.length c6997, .slice p7000 x6986.Cpus.length c7001]) [] rfl (by kernel_rfl) ⟨by kernel_rfl, rfl⟩ M7367)
        · intro g7338 f7339
          intro v1_ hb1_
          obtain ⟨rfl, _⟩ := hb1_
          intro R w7370 M7371
          refine W_call 14 #[.agg #[.slice p6988 x6986.Routes.length c6989, .slice p6992 x6986.Enabled.length c6993, .slice p6996 x6986.Raised.length c6997, .slice p7000 x6986.Cpus.length c7001]] (by kernel_rfl) (by kernel_rfl) ?_
          refine (c_l_toMachine w7370 x6986 p6988 c6989 (h6990.mem0 M7371) p6992 c6993 (h6994.mem0 M7371) p6996 c6997 (h6998.mem0 M7371) p7000 c7001 (h7002.mem0 M7371) hr7340).mono ?_
          rintro e_ w7372 ⟨p7342, c7343, sg7344, p7347, c7348, sg7349, p7352, c7353, sg7354, p7357, c7358, sg7359, sg7360, rfl, ho7345, ho7350, ho7355, ho7361, K7374⟩
          refine ⟨_, rfl, ?_⟩
          exact W_nil (ob_end (.agg #[.slice p7342 r7340.Routes.length c7343, .slice p7347 r7340.Enabled.length c7348, .slice p7352 r7340.Raised.length c7353, .slice p7357 r7340.Cpus.length c7358]) (sg7344 ++ (sg7349 ++ (sg7354 ++ (sg7359 ++ sg7360)))) rfl (by kernel_rfl) ⟨p7342, c7343, sg7344, p7347, c7348, sg7349, p7352, c7353, sg7354, p7357, c7358, sg7359, sg7360, rfl, rfl, ho7345, ho7350, ho7355, ho7361⟩ (Mem.callMid M7371 (K7374.permF (by simp))))
        · intro g7338 f7339
          intro v0_ hb0_
          obtain ⟨rfl, _⟩ := hb0_
          intro v2_ hb2_
          obtain ⟨p7342, c7343, sg7344, p7347, c7348, sg7349, p7352, c7353, sg7354, p7357, c7358, sg7359, sg7360, rfl, hs2_, ho7345, ho7350, ho7355, ho7361⟩ := hb2_
          intro w7375 M7376
          have M7377 : Mem [] w w7375 [[(b7005, .cells ⟨[.slice p6988 x6986.Routes.length c6989, .slice p6992 x6986.Enabled.length c6993, .slice p6996 x6986.Raised.length c6997, .slice p7000 x6986.Cpus.length c7001]⟩ 26 (0, 0))], sg7172, sg7181, sg7186, sg7191, sg7196, sg7197, [(b7207, .cells ⟨[.slice p7179 r7177.Routes.length c7180, .slice p7184 r7177.Enabled.length c7185, .slice p7189 r7177.Raised.length c7190, .slice p7194 r7177.Cpus.length c7195]⟩ 32 (0, 0))], sg7315, (g7338 2)] := M7376
          rw [hs2_] at M7377
          replace M7377 : Mem [] w w7375 [[(b7005, .cells ⟨[.slice p6988 x6986.Routes.length c6989, .slice p6992 x6986.Enabled.length c6993, .slice p6996 x6986.Raised.length c6997, .slice p7000 x6986.Cpus.length c7001]⟩ 26 (0, 0))], sg7172, sg7181, sg7186, sg7191, sg7196, sg7197, [(b7207, .cells ⟨[.slice p7179 r7177.Routes.length c7180, .slice p7184 r7177.Enabled.length c7185, .slice p7189 r7177.Raised.length c7190, .slice p7194 r7177.Cpus.length c7195]⟩ 32 (0, 0))], sg7315, sg7344, sg7349, sg7354, sg7359, sg7360] := M7377.permF (by simp)
          obtain ⟨r7378, hr7378, hm⟩ := gx_bind hm
          refine W_call 16 #[.agg #[.slice p7179 r7177.Routes.length c7180, .slice p7184 r7177.Enabled.length c7185, .slice p7189 r7177.Raised.length c7190, .slice p7194 r7177.Cpus.length c7195], .agg #[.slice p7342 r7340.Routes.length c7343, .slice p7347 r7340.Enabled.length c7348, .slice p7352 r7340.Raised.length c7353, .slice p7357 r7340.Cpus.length c7358]] (by kernel_rfl) (by kernel_rfl) ?_
          refine (c_l_eqMachine w7375 r7177 p7179 c7180 (ho7182.rd M7377 2 (by kernel_rfl)) p7184 c7185 (ho7187.rd M7377 3 (by kernel_rfl)) p7189 c7190 (ho7192.rd M7377 4 (by kernel_rfl)) p7194 c7195 (ho7198.rd M7377 5 (by kernel_rfl) 6 (by kernel_rfl)) r7340 p7342 c7343 (ho7345.rd M7377 9 (by kernel_rfl)) p7347 c7348 (ho7350.rd M7377 10 (by kernel_rfl)) p7352 c7353 (ho7355.rd M7377 11 (by kernel_rfl)) p7357 c7358 (ho7361.rd M7377 12 (by kernel_rfl) 13 (by kernel_rfl)) hr7378).mono ?_
          rintro e_ w7379 ⟨rfl, K7380⟩
          have M7381 := M7377.call0 K7380
          refine ⟨_, rfl, ?_⟩
          refine W_run 1 [(1, .int .i64 x7003), (2, .pointer (some ⟨b7005, 0, none⟩)), (6, .slice p7170 r7168.1.length c7171), (7, .bool r7168.2), (8, .pointer (some ⟨b7207, 0, none⟩)), (9, .slice p7313 r7311.1.length c7314), (10, .bool r7311.2), (49, .bool (!r7378))] w7379 (by kernel_rfl) ?_
          refine W_nil ?_
          refine N_then ?_
          rcases gx_bif hm with ⟨hc7382, hm⟩ | ⟨hc7382, hm⟩
          · refine G_cond_t (b := (!r7378)) hc7382 (by kernel_rfl) ?_
            refine G_seq ?_
            refine G_region ?_
            refine W_run 1 [(4, .bool false)] w7379 (by kernel_rfl) ?_
            refine W_nil ?_
            refine N_then ?_
            refine G_ret ?_
            refine N_then_ret ?_
            obtain rfl := Option.some.inj hm
            refine N_ret [.bool false] (RVs_cons (RV_tmp (by kernel_rfl)) RVs_nil) ?_
            exact ⟨rfl, M7381.pick [] (by kernel_rfl)⟩
          · refine G_cond_f (b := (!r7378)) hc7382 (by kernel_rfl) ?_
            refine G_skip ?_
            refine N_then ?_
            refine G_seq ?_
            refine G_region ?_
            refine W_run 1 [(1, .int .i64 x7003), (2, .pointer (some ⟨b7005, 0, none⟩)), (6, .slice p7170 r7168.1.length c7171), (7, .bool r7168.2), (8, .pointer (some ⟨b7207, 0, none⟩)), (9, .slice p7313 r7311.1.length c7314), (10, .bool r7311.2), (11, .int .i64 1)] w7379 (by kernel_rfl) ?_
            refine W_nil ?_
            refine N_then ?_
            refine G_seq ?_
            refine G_region ?_
            refine W_val (.agg #[.slice p7179 r7177.Routes.length c7180, .slice p7184 r7177.Enabled.length c7185, .slice p7189 r7177.Raised.length c7190, .slice p7194 r7177.Cpus.length c7195]) w7379 (by kernel_rfl) (E_load (e := 32) (fr := (0, 0)) _ _ true 4 b7207 0 [.slice p7179 r7177.Routes.length c7180, .slice p7184 r7177.Enabled.length c7185, .slice p7189 r7177.Raised.length c7190, .slice p7194 r7177.Cpus.length c7195] (.agg #[.slice p7179 r7177.Routes.length c7180, .slice p7184 r7177.Enabled.length c7185, .slice p7189 r7177.Raised.length c7190, .slice p7194 r7177.Cpus.length c7195]) rfl (by kernel_rfl) (by kernel_rfl) (by kernel_rfl) (M7381.blk 7 (b := b7207) (o := .cells ⟨[.slice p7179 r7177.Routes.length c7180, .slice p7184 r7177.Enabled.length c7185, .slice p7189 r7177.Raised.length c7190, .slice p7194 r7177.Cpus.length c7195]⟩ 32 (0, 0)) (by kernel_rfl))) ?_
            refine W_run 1 [(1, .int .i64 x7003), (2, .pointer (some ⟨b7005, 0, none⟩)), (6, .slice p7170 r7168.1.length c7171), (7, .bool r7168.2), (9, .slice p7313 r7311.1.length c7314), (10, .bool r7311.2), (11, .int .i64 1), (50, .agg #[.slice p7179 r7177.Routes.length c7180, .slice p7184 r7177.Enabled.length c7185, .slice p7189 r7177.Raised.length c7190, .slice p7194 r7177.Cpus.length c7195]), (51, .int .i64 1)] w7379 (by kernel_rfl) ?_
            obtain ⟨r8302, hr8302, hm⟩ := gx_bind hm
            refine W_call 20 #[.agg #[.slice p7179 r7177.Routes.length c7180, .slice p7184 r7177.Enabled.length c7185, .slice p7189 r7177.Raised.length c7190, .slice p7194 r7177.Cpus.length c7195], .int .i64 1] (by kernel_rfl) (by kernel_rfl) ?_
            refine (c_l_markMachine w7379 r7177 p7179 c7180 sg7181 ho7182 p7184 c7185 sg7186 ho7187 p7189 c7190 sg7191 ho7192 p7194 c7195 sg7196 sg7197 ho7198 1 (M7381.hasPick [2, 3, 4, 5, 6]) (M7381.nodupPick [2, 3, 4, 5, 6] (by kernel_rfl)) hr8302).mono ?_
            rintro e_ w8316 ⟨sg8303, sg8306, sg8309, sg8312, sg8313, rfl, ho8304, hl8305, ho8307, hl8308, ho8310, hl8311, ho8314, hl8315, K8317⟩
            have M8318 := M7381.callF' [2, 3, 4, 5, 6] [0, 1, 7, 8, 9, 10, 11, 12, 13] (by kernel_rfl) K8317
            refine ⟨_, rfl, ?_⟩
            refine W_conv 50 (.agg #[.slice p7179 r7177.Routes.length c7180, .slice p7184 r7177.Enabled.length c7185, .slice p7189 r7177.Raised.length c7190, .slice p7194 r7177.Cpus.length c7195]) (.agg #[.slice p7179 r8302.2.1.length c7180, .slice p7184 r8302.2.2.1.length c7185, .slice p7189 r8302.2.2.2.1.length c7190, .slice p7194 r8302.2.2.2.2.length c7195]) (by kernel_rfl) (by first | rw [hl8305, hl8308, hl8311, hl8315] | rw [hl8305] | rw [hl8308] | rw [hl8311] | rw [hl8315]) ?_
            have M8319 : Mem [] w w8316 [[(b7005, .cells ⟨[.slice p6988 x6986.Routes.length c6989, .slice p6992 x6986.Enabled.length c6993, .slice p6996 x6986.Raised.length c6997, .slice p7000 x6986.Cpus.length c7001]⟩ 26 (0, 0))], sg7172, [(b7207, .cells ⟨[.slice p7179 r8302.2.1.length c7180, .slice p7184 r8302.2.2.1.length c7185, .slice p7189 r8302.2.2.2.1.length c7190, .slice p7194 r8302.2.2.2.2.length c7195]⟩ 32 (0, 0))], sg7315, sg7344, sg7349, sg7354, sg7359, sg7360, sg8303, sg8306, sg8309, sg8312, sg8313] := by rw [hl8305, hl8308, hl8311, hl8315]; exact M8318
            refine W_run 1 [(1, .int .i64 x7003), (2, .pointer (some ⟨b7005, 0, none⟩)), (6, .slice p7170 r7168.1.length c7171), (7, .bool r7168.2), (9, .slice p7313 r7311.1.length c7314), (10, .bool r7311.2), (11, .int .i64 r8302.1)] w8316 (by kernel_rfl) ?_
            refine W_nil ?_
            refine N_then ?_
            refine G_seq ?_
            refine G_seq ?_
            obtain ⟨o8326, ho8327, hm8328⟩ := gx_bind hm
            refine G_meet (fun a w' => Mem [] w w' [[(b7005, .cells ⟨[.slice p6988 x6986.Routes.length c6989, .slice p6992 x6986.Enabled.length c6993, .slice p6996 x6986.Raised.length c6997, .slice p7000 x6986.Cpus.length c7001]⟩ 26 (0, 0))], sg7172, sg7315] ∧ Sat Tryz.f4.ntmps [(1, .int .i64 x7003), (2, .pointer (some ⟨b7005, 0, none⟩)), (6, .slice p7170 r7168.1.length c7171), (7, .bool r7168.2), (9, .slice p7313 r7311.1.length c7314), (65, .bool o8326)] a) ?_ ?_
            · have hm := ho8327
              refine G_region ?_
              refine W_run 3 [(1, .int .i64 x7003), (2, .pointer (some ⟨b7005, 0, none⟩)), (6, .slice p7170 r7168.1.length c7171), (7, .bool r7168.2), (9, .slice p7313 r7311.1.length c7314), (10, .bool r7311.2), (55, .bool (decide (r8302.1 < 0)))] w8316 (by kernel_rfl) ?_
              rcases gx_bif hm with ⟨hc8329, hm⟩ | ⟨hc8329, hm⟩
              · refine W_known 55 true (by kernel_rfl) hc8329 ?_
                refine W_run 10 [(1, .int .i64 x7003), (2, .pointer (some ⟨b7005, 0, none⟩)), (6, .slice p7170 r7168.1.length c7171), (7, .bool r7168.2), (9, .slice p7313 r7311.1.length c7314), (65, .bool true)] w8316 (by kernel_rfl) ?_
                refine W_nil ?_
                obtain rfl := Option.some.inj hm
                exact N_meet fun a ha => ⟨M8319.pick [0, 1, 3] (by kernel_rfl), ha.sub (by kernel_rfl)⟩
              · refine W_known 55 false (by kernel_rfl) hc8329 ?_
                refine W_run 2 [(1, .int .i64 x7003), (2, .pointer (some ⟨b7005, 0, none⟩)), (6, .slice p7170 r7168.1.length c7171), (7, .bool r7168.2), (9, .slice p7313 r7311.1.length c7314), (10, .bool r7311.2), (55, .bool false), (56, .slice p7313 r7311.1.length c7314), (57, .slice p7170 r7168.1.length c7171)] w8316 (by kernel_rfl) ?_
                obtain ⟨r8330, hr8330, hm⟩ := gx_bind hm
                refine W_call 19 #[.slice p7313 r7311.1.length c7314, .slice p7170 r7168.1.length c7171] (by kernel_rfl) (by kernel_rfl) ?_
                refine (c_l_eqIntS w8316 r7311.1 p7313 c7314 (ho7316.rd M8319 3 (by kernel_rfl)) r7168.1 p7170 c7171 (ho7173.rd M8319 1 (by kernel_rfl)) hr8330).mono ?_
                rintro e_ w8331 ⟨rfl, K8332⟩
                have M8333 := M8319.call0 K8332
                refine ⟨_, rfl, ?_⟩
                refine W_run 3 [(1, .int .i64 x7003), (2, .pointer (some ⟨b7005, 0, none⟩)), (6, .slice p7170 r7168.1.length c7171), (7, .bool r7168.2), (9, .slice p7313 r7311.1.length c7314), (10, .bool r7311.2), (61, .bool (!r8330))] w8331 (by kernel_rfl) ?_
                rcases gx_bif hm with ⟨hc8334, hm⟩ | ⟨hc8334, hm⟩
                · refine W_known 61 true (by kernel_rfl) hc8334 ?_
                  refine W_run 4 [(1, .int .i64 x7003), (2, .pointer (some ⟨b7005, 0, none⟩)), (6, .slice p7170 r7168.1.length c7171), (7, .bool r7168.2), (9, .slice p7313 r7311.1.length c7314), (65, .bool true)] w8331 (by kernel_rfl) ?_
                  refine W_nil ?_
                  obtain rfl := Option.some.inj hm
                  exact N_meet fun a ha => ⟨M8333.pick [0, 1, 3] (by kernel_rfl), ha.sub (by kernel_rfl)⟩
                · refine W_known 61 false (by kernel_rfl) hc8334 ?_
                  refine W_run 4 [(1, .int .i64 x7003), (2, .pointer (some ⟨b7005, 0, none⟩)), (6, .slice p7170 r7168.1.length c7171), (7, .bool r7168.2), (9, .slice p7313 r7311.1.length c7314), (65, .bool (!(r7311.2 == r7168.2)))] w8331 (by kernel_rfl) ?_
                  refine W_nil ?_
                  obtain rfl := Option.some.inj hm
                  exact N_meet fun a ha => ⟨M8333.pick [0, 1, 3] (by kernel_rfl), ha.sub (by kernel_rfl)⟩
            · intro a8337 w8335 ⟨M8336, hS8338⟩
              refine N_use hS8338 ?_
              have hm := hm8328
              refine N_then ?_
              rcases gx_bif hm with ⟨hc8339, hm⟩ | ⟨hc8339, hm⟩
              · refine G_cond_t (b := o8326) hc8339 (by kernel_rfl) ?_
                refine G_seq ?_
                refine G_region ?_
                refine W_run 1 [(4, .bool false)] w8335 (by kernel_rfl) ?_
                refine W_nil ?_
                refine N_then ?_
                refine G_ret ?_
                refine N_then_ret ?_
                obtain rfl := Option.some.inj hm
                refine N_ret [.bool false] (RVs_cons (RV_tmp (by kernel_rfl)) RVs_nil) ?_
                exact ⟨rfl, M8336.pick [] (by kernel_rfl)⟩
              · refine G_cond_f (b := o8326) hc8339 (by kernel_rfl) ?_
                refine G_skip ?_
                refine N_then ?_
                refine G_seq ?_
                refine G_region ?_
                refine W_run 1 [(1, .int .i64 x7003), (2, .pointer (some ⟨b7005, 0, none⟩)), (6, .slice p7170 r7168.1.length c7171), (7, .bool r7168.2), (9, .slice p7313 r7311.1.length c7314), (12, .int .i64 1)] w8335 (by kernel_rfl) ?_
                refine W_nil ?_
                refine N_then ?_
                refine G_seq ?_
                refine G_region ?_
                refine W_run 2 [(1, .int .i64 x7003), (2, .pointer (some ⟨b7005, 0, none⟩)), (6, .slice p7170 r7168.1.length c7171), (7, .bool r7168.2), (9, .slice p7313 r7311.1.length c7314), (12, .int .i64 1), (66, .slice p7313 r7311.1.length c7314), (67, .int .i64 1)] w8335 (by kernel_rfl) ?_
                obtain ⟨r8340, hr8340, hm⟩ := gx_bind hm
                refine W_call 21 #[.slice p7313 r7311.1.length c7314, .int .i64 1] (by kernel_rfl) (by kernel_rfl) ?_
                refine (c_l_markIntS w8335 r7311.1 p7313 c7314 sg7315 ho7316 1 (M8336.hasPick [2]) (M8336.nodupPick [2] (by kernel_rfl)) hr8340).mono ?_
                rintro e_ w8344 ⟨sg8341, rfl, ho8342, hl8343, K8345⟩
                have M8346 := M8336.callF' [2] [0, 1] (by kernel_rfl) K8345
                refine ⟨_, rfl, ?_⟩
                refine W_conv 9 (.slice p7313 r7311.1.length c7314) (.slice p7313 r8340.2.length c7314) (by kernel_rfl) (by first | rw [hl8343] | rw [hl8343]) ?_
                refine W_conv 66 (.slice p7313 r7311.1.length c7314) (.slice p7313 r8340.2.length c7314) (by kernel_rfl) (by first | rw [hl8343] | rw [hl8343]) ?_
                refine W_run 1 [(1, .int .i64 x7003), (2, .pointer (some ⟨b7005, 0, none⟩)), (6, .slice p7170 r7168.1.length c7171), (7, .bool r7168.2), (9, .slice p7313 r8340.2.length c7314), (12, .int .i64 r8340.1)] w8344 (by kernel_rfl) ?_
                refine W_nil ?_
                refine N_then ?_
                refine G_seq ?_
                refine G_region ?_
                refine W_run 1 [(1, .int .i64 x7003), (2, .pointer (some ⟨b7005, 0, none⟩)), (6, .slice p7170 r7168.1.length c7171), (7, .bool r7168.2), (9, .slice p7313 r8340.2.length c7314), (12, .int .i64 r8340.1), (13, .int .i64 1)] w8344 (by kernel_rfl) ?_
                refine W_nil ?_
                refine N_then ?_
                refine G_seq ?_
                refine G_region ?_
                refine W_run 2 [(1, .int .i64 x7003), (2, .pointer (some ⟨b7005, 0, none⟩)), (6, .slice p7170 r7168.1.length c7171), (7, .bool r7168.2), (9, .slice p7313 r8340.2.length c7314), (12, .int .i64 r8340.1), (13, .int .i64 1), (69, .slice p7313 r8340.2.length c7314), (70, .int .i64 1)] w8344 (by kernel_rfl) ?_
                obtain ⟨r8377, hr8377, hm⟩ := gx_bind hm
                refine W_call 22 #[.slice p7313 r8340.2.length c7314, .int .i64 1] (by kernel_rfl) (by kernel_rfl) ?_
                refine (c_l_heldIntS w8344 r8340.2 p7313 c7314 (ho8342.rd M8346 2 (by kernel_rfl)) 1 hr8377).mono ?_
                rintro e_ w8378 ⟨rfl, K8379⟩
                have M8380 := M8346.call0 K8379
                refine ⟨_, rfl, ?_⟩
                refine W_run 1 [(1, .int .i64 x7003), (2, .pointer (some ⟨b7005, 0, none⟩)), (6, .slice p7170 r7168.1.length c7171), (7, .bool r7168.2), (9, .slice p7313 r8340.2.length c7314), (12, .int .i64 r8340.1), (13, .int .i64 r8377)] w8378 (by kernel_rfl) ?_
                refine W_nil ?_
                refine N_then ?_
                refine G_seq ?_
                refine G_seq ?_
                refine G_region ?_
                refine W_run 2 [(1, .int .i64 x7003), (2, .pointer (some ⟨b7005, 0, none⟩)), (6, .slice p7170 r7168.1.length c7171), (7, .bool r7168.2), (9, .slice p7313 r8340.2.length c7314), (12, .int .i64 r8340.1), (13, .int .i64 r8377), (73, .bool (decide (r8377 < 0)))] w8378 (by kernel_rfl) ?_
                refine W_nil ?_
                refine N_then ?_
                rcases gx_bif hm with ⟨hc8381, hm⟩ | ⟨hc8381, hm⟩
                · refine G_cond_t (b := (decide (r8377 < 0))) hc8381 (by kernel_rfl) ?_
                  refine G_seq ?_
                  refine G_region ?_
                  refine W_run 1 [(4, .bool false)] w8378 (by kernel_rfl) ?_
                  refine W_nil ?_
                  refine N_then ?_
                  refine G_ret ?_
                  refine N_then_ret ?_
                  obtain rfl := Option.some.inj hm
                  refine N_ret [.bool false] (RVs_cons (RV_tmp (by kernel_rfl)) RVs_nil) ?_
                  exact ⟨rfl, M8380.pick [] (by kernel_rfl)⟩
                · refine G_cond_f (b := (decide (r8377 < 0))) hc8381 (by kernel_rfl) ?_
                  refine G_skip ?_
                  refine N_then ?_
                  refine G_seq ?_
                  refine G_seq ?_
                  refine G_region ?_
                  refine W_run 3 [(1, .int .i64 x7003), (2, .pointer (some ⟨b7005, 0, none⟩)), (6, .slice p7170 r7168.1.length c7171), (7, .bool r7168.2), (9, .slice p7313 r8340.2.length c7314), (12, .int .i64 r8340.1), (76, .bool (r8377 != r8340.1))] w8378 (by kernel_rfl) ?_
                  refine W_nil ?_
                  refine N_then ?_
                  rcases gx_bif hm with ⟨hc8382, hm⟩ | ⟨hc8382, hm⟩
                  · refine G_cond_t (b := (r8377 != r8340.1)) hc8382 (by kernel_rfl) ?_
                    refine G_seq ?_
                    refine G_region ?_
                    refine W_run 1 [(4, .bool false)] w8378 (by kernel_rfl) ?_
                    refine W_nil ?_
                    refine N_then ?_
                    refine G_ret ?_
                    refine N_then_ret ?_
                    obtain rfl := Option.some.inj hm
                    refine N_ret [.bool false] (RVs_cons (RV_tmp (by kernel_rfl)) RVs_nil) ?_
                    exact ⟨rfl, M8380.pick [] (by kernel_rfl)⟩
                  · refine G_cond_f (b := (r8377 != r8340.1)) hc8382 (by kernel_rfl) ?_
                    refine G_skip ?_
                    refine N_then ?_
                    refine G_seq ?_
                    refine G_region ?_
                    refine W_val (.agg #[.slice p6988 x6986.Routes.length c6989, .slice p6992 x6986.Enabled.length c6993, .slice p6996 x6986.Raised.length c6997, .slice p7000 x6986.Cpus.length c7001]) w8378 (by kernel_rfl) (E_load (e := 26) (fr := (0, 0)) _ _ true 4 b7005 0 [.slice p6988 x6986.Routes.length c6989, .slice p6992 x6986.Enabled.length c6993, .slice p6996 x6986.Raised.length c6997, .slice p7000 x6986.Cpus.length c7001] (.agg #[.slice p6988 x6986.Routes.length c6989, .slice p6992 x6986.Enabled.length c6993, .slice p6996 x6986.Raised.length c6997, .slice p7000 x6986.Cpus.length c7001]) rfl (by kernel_rfl) (by kernel_rfl) (by kernel_rfl) (M8380.blk 0 (b := b7005) (o := .cells ⟨[.slice p6988 x6986.Routes.length c6989, .slice p6992 x6986.Enabled.length c6993, .slice p6996 x6986.Raised.length c6997, .slice p7000 x6986.Cpus.length c7001]⟩ 26 (0, 0)) (by kernel_rfl))) ?_
                    obtain ⟨r8383, hr8383, hm⟩ := gx_bind hm
                    refine W_call 14 #[.agg #[.slice p6988 x6986.Routes.length c6989, .slice p6992 x6986.Enabled.length c6993, .slice p6996 x6986.Raised.length c6997, .slice p7000 x6986.Cpus.length c7001]] (by kernel_rfl) (by kernel_rfl) ?_
                    refine (c_l_toMachine w8378 x6986 p6988 c6989 (h6990.mem0 M8380) p6992 c6993 (h6994.mem0 M8380) p6996 c6997 (h6998.mem0 M8380) p7000 c7001 (h7002.mem0 M8380) hr8383).mono ?_
                    rintro e_ w8405 ⟨p8385, c8386, sg8387, p8390, c8391, sg8392, p8395, c8396, sg8397, p8400, c8401, sg8402, sg8403, rfl, ho8388, ho8393, ho8398, ho8404, K8406⟩
                    have M8407 := M8380.call K8406
                    refine ⟨_, rfl, ?_⟩
                    refine W_run 1 [(6, .slice p7170 r7168.1.length c7171), (7, .bool r7168.2), (9, .slice p7313 r8340.2.length c7314), (12, .int .i64 r8340.1), (79, .agg #[.slice p8385 r8383.Routes.length c8386, .slice p8390 r8383.Enabled.length c8391, .slice p8395 r8383.Raised.length c8396, .slice p8400 r8383.Cpus.length c8401]), (80, .int .i64 x7003)] w8405 (by kernel_rfl) ?_
                    obtain ⟨r8408, hr8408, hm⟩ := gx_bind hm
                    refine W_call 18 #[.agg #[.slice p8385 r8383.Routes.length c8386, .slice p8390 r8383.Enabled.length c8391, .slice p8395 r8383.Raised.length c8396, .slice p8400 r8383.Cpus.length c8401], .int .i64 x7003] (by kernel_rfl) (by kernel_rfl) ?_
                    refine (c_i_RunningOn w8405 r8383 p8385 c8386 (ho8388.rd M8407 3 (by kernel_rfl)) p8390 c8391 (ho8393.rd M8407 4 (by kernel_rfl)) p8395 c8396 (ho8398.rd M8407 5 (by kernel_rfl)) p8400 c8401 (ho8404.rd M8407 6 (by kernel_rfl) 7 (by kernel_rfl)) x7003 hr8408).mono ?_
                    rintro e_ w8414 ⟨p8410, c8411, sg8412, rfl, ho8413, K8415⟩
                    have M8416 := M8407.call K8415
                    refine ⟨_, rfl, ?_⟩
                    refine W_run 5 [(6, .slice p7170 r7168.1.length c7171), (7, .bool r7168.2), (9, .slice p7313 r8340.2.length c7314), (12, .int .i64 r8340.1), (14, .slice p8410 r8408.1.length c8411), (15, .bool r8408.2)] w8414 (by kernel_rfl) ?_
                    refine W_nil ?_
                    refine N_then ?_
                    refine G_seq ?_
                    refine G_seq ?_
                    obtain ⟨o8422, ho8423, hm8424⟩ := gx_bind hm
                    refine G_meet (fun a w' => Mem [] w w' [sg8341] ∧ Sat Tryz.f4.ntmps [(9, .slice p7313 r8340.2.length c7314), (12, .int .i64 r8340.1), (92, .bool o8422)] a) ?_ ?_
                    · have hm := ho8423
                      refine G_region ?_
                      refine W_run 2 [(7, .bool r7168.2), (9, .slice p7313 r8340.2.length c7314), (12, .int .i64 r8340.1), (15, .bool r8408.2), (84, .slice p8410 r8408.1.length c8411), (85, .slice p7170 r7168.1.length c7171)] w8414 (by kernel_rfl) ?_
                      obtain ⟨r8425, hr8425, hm⟩ := gx_bind hm
                      refine W_call 19 #[.slice p8410 r8408.1.length c8411, .slice p7170 r7168.1.length c7171] (by kernel_rfl) (by kernel_rfl) ?_
                      refine (c_l_eqIntS w8414 r8408.1 p8410 c8411 (ho8413.rd M8416 8 (by kernel_rfl)) r7168.1 p7170 c7171 (ho7173.rd M8416 1 (by kernel_rfl)) hr8425).mono ?_
                      rintro e_ w8426 ⟨rfl, K8427⟩
                      have M8428 := M8416.call0 K8427
                      refine ⟨_, rfl, ?_⟩
                      refine W_run 2 [(7, .bool r7168.2), (9, .slice p7313 r8340.2.length c7314), (12, .int .i64 r8340.1), (15, .bool r8408.2), (88, .bool (!r8425))] w8426 (by kernel_rfl) ?_
                      rcases gx_bif hm with ⟨hc8429, hm⟩ | ⟨hc8429, hm⟩
                      · refine W_known 88 true (by kernel_rfl) hc8429 ?_
                        refine W_run 4 [(9, .slice p7313 r8340.2.length c7314), (12, .int .i64 r8340.1), (92, .bool true)] w8426 (by kernel_rfl) ?_
                        refine W_nil ?_
                        obtain rfl := Option.some.inj hm
                        exact N_meet fun a ha => ⟨M8428.pick [2] (by kernel_rfl), ha.sub (by kernel_rfl)⟩
                      · refine W_known 88 false (by kernel_rfl) hc8429 ?_
                        refine W_run 4 [(9, .slice p7313 r8340.2.length c7314), (12, .int .i64 r8340.1), (92, .bool (!(r8408.2 == r7168.2)))] w8426 (by kernel_rfl) ?_
                        refine W_nil ?_
                        obtain rfl := Option.some.inj hm
                        exact N_meet fun a ha => ⟨M8428.pick [2] (by kernel_rfl), ha.sub (by kernel_rfl)⟩
                    · intro a8432 w8430 ⟨M8431, hS8433⟩
                      refine N_use hS8433 ?_
                      have hm := hm8424
                      refine N_then ?_
                      rcases gx_bif hm with ⟨hc8434, hm⟩ | ⟨hc8434, hm⟩
                      · refine G_cond_t (b := o8422) hc8434 (by kernel_rfl) ?_
                        refine G_seq ?_
                        refine G_region ?_
                        refine W_run 1 [(4, .bool false)] w8430 (by kernel_rfl) ?_
                        refine W_nil ?_
                        refine N_then ?_
                        refine G_ret ?_
                        refine N_then_ret ?_
                        obtain rfl := Option.some.inj hm
                        refine N_ret [.bool false] (RVs_cons (RV_tmp (by kernel_rfl)) RVs_nil) ?_
                        exact ⟨rfl, M8431.pick [] (by kernel_rfl)⟩
                      · refine G_cond_f (b := o8422) hc8434 (by kernel_rfl) ?_
                        refine G_skip ?_
                        refine N_then ?_
                        refine G_seq ?_
                        refine G_region ?_
                        refine W_run 1 [(9, .slice p7313 r8340.2.length c7314), (12, .int .i64 r8340.1), (13, .int .i64 1)] w8430 (by kernel_rfl) ?_
                        refine W_nil ?_
                        refine N_then ?_
                        refine G_seq ?_
                        refine G_region ?_
                        refine W_run 2 [(12, .int .i64 r8340.1), (13, .int .i64 1), (93, .slice p7313 r8340.2.length c7314), (94, .int .i64 1)] w8430 (by kernel_rfl) ?_
                        obtain ⟨r8435, hr8435, hm⟩ := gx_bind hm
                        refine W_call 22 #[.slice p7313 r8340.2.length c7314, .int .i64 1] (by kernel_rfl) (by kernel_rfl) ?_
                        refine (c_l_heldIntS w8430 r8340.2 p7313 c7314 (ho8342.rd M8431 0 (by kernel_rfl)) 1 hr8435).mono ?_
                        rintro e_ w8436 ⟨rfl, K8437⟩
                        have M8438 := M8431.call0 K8437
                        refine ⟨_, rfl, ?_⟩
                        refine W_run 1 [(12, .int .i64 r8340.1), (13, .int .i64 r8435)] w8436 (by kernel_rfl) ?_
                        refine W_nil ?_
                        refine N_then ?_
                        refine G_seq ?_
                        refine G_seq ?_
                        refine G_region ?_
                        refine W_run 2 [(12, .int .i64 r8340.1), (13, .int .i64 r8435), (97, .bool (decide (r8435 < 0)))] w8436 (by kernel_rfl) ?_
                        refine W_nil ?_
                        refine N_then ?_
                        rcases gx_bif hm with ⟨hc8439, hm⟩ | ⟨hc8439, hm⟩
                        · refine G_cond_t (b := (decide (r8435 < 0))) hc8439 (by kernel_rfl) ?_
                          refine G_seq ?_
                          refine G_region ?_
                          refine W_run 1 [(4, .bool false)] w8436 (by kernel_rfl) ?_
                          refine W_nil ?_
                          refine N_then ?_
                          refine G_ret ?_
                          refine N_then_ret ?_
                          obtain rfl := Option.some.inj hm
                          refine N_ret [.bool false] (RVs_cons (RV_tmp (by kernel_rfl)) RVs_nil) ?_
                          exact ⟨rfl, M8438.pick [] (by kernel_rfl)⟩
                        · refine G_cond_f (b := (decide (r8435 < 0))) hc8439 (by kernel_rfl) ?_
                          refine G_skip ?_
                          refine N_then ?_
                          refine G_seq ?_
                          refine G_seq ?_
                          refine G_region ?_
                          refine W_run 3 [(100, .bool (r8435 != r8340.1))] w8436 (by kernel_rfl) ?_
                          refine W_nil ?_
                          refine N_then ?_
                          rcases gx_bif hm with ⟨hc8440, hm⟩ | ⟨hc8440, hm⟩
                          · refine G_cond_t (b := (r8435 != r8340.1)) hc8440 (by kernel_rfl) ?_
                            refine G_seq ?_
                            refine G_region ?_
                            refine W_run 1 [(4, .bool false)] w8436 (by kernel_rfl) ?_
                            refine W_nil ?_
                            refine N_then ?_
                            refine G_ret ?_
                            refine N_then_ret ?_
                            obtain rfl := Option.some.inj hm
                            refine N_ret [.bool false] (RVs_cons (RV_tmp (by kernel_rfl)) RVs_nil) ?_
                            exact ⟨rfl, M8438.pick [] (by kernel_rfl)⟩
                          · refine G_cond_f (b := (r8435 != r8340.1)) hc8440 (by kernel_rfl) ?_
                            refine G_skip ?_
                            refine N_then ?_
                            refine G_seq ?_
                            refine G_region ?_
                            refine W_run 1 [(4, .bool true)] w8436 (by kernel_rfl) ?_
                            refine W_nil ?_
                            refine N_then ?_
                            refine G_ret ?_
                            obtain rfl := Option.some.inj hm
                            refine N_ret [.bool true] (RVs_cons (RV_tmp (by kernel_rfl)) RVs_nil) ?_
                            exact ⟨rfl, M8438.pick [] (by kernel_rfl)⟩
end Go.Proofs.YtllhajkgkghhdaaGreat
