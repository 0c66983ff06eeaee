/- The walks, printed by program: whenever the model gives r, the call returns r. Part 3. -/
import Derived.Test.YtimffallbjpcjaaGreatDoorM
import Derived.Test.YtimffallbjpcjaaGreatDoorProg
import Derived.Test.YtimffallbjpcjaaGreatDoorPi
import Derived.Test.YtimffallbjpcjaaGreatDoorSh
import Derived.Test.YtimffallbjpcjaaGreatDoorC2
set_option linter.unusedVariables false
set_option maxRecDepth 100000
set_option maxHeartbeats 4000000
namespace Go.Proofs.YtimffallbjpcjaaGreatDoor
open Go.Gx
theorem c_l_FnEvents (w : World) (x1 : List Int) (p3 : Option Addr) (c4 : Nat) (h5 : rdS Gx.encU8 w x1 p3 c4) (ht_ : TabY Tryz.prog w) {r : Bool} (hm : M.l_FnEvents x1 = some r) :
    Calls Tryz.prog 3 #[.slice p3 x1.length c4] w fun e w' => e = .returned (.bool r) ∧ Mem [] w w' [] := by
  unfold M.l_FnEvents at hm
  refine C_enter Tryz.func3 rfl (by kernel_rfl) ?_
  have M0 := Mem.refl [] w
  refine G_seq ?_
  refine G_region ?_
  refine W_run 1 [(0, .slice p3 x1.length c4)] w (by kernel_rfl) ?_
  refine W_nil ?_
  refine N_then ?_
  refine G_seq ?_
  refine G_seq ?_
  refine G_region ?_
  refine W_run 1 [(0, .slice p3 x1.length c4), (35, .slice p3 x1.length c4)] w (by kernel_rfl) ?_
  obtain ⟨r11, hr11, hm⟩ := gx_bind hm
  refine W_call 4 #[.slice p3 x1.length c4] (by kernel_rfl) (by kernel_rfl) ?_
  refine (c_l_rBig w x1 p3 c4 (h5.mem0 M0) hr11).mono ?_
  rintro e_ w12 ⟨rfl, K13⟩
  have M14 := M0.call0 K13
  refine ⟨_, rfl, ?_⟩
  refine W_nil ?_
  refine N_then ?_
  rcases gx_bif hm with ⟨hc15, hm⟩ | ⟨hc15, hm⟩
  · refine G_cond_t (b := r11) hc15 (by kernel_rfl) ?_
    refine G_seq ?_
    refine G_region ?_
    refine W_run 1 [(2, .bool true)] w12 (by kernel_rfl) ?_
    refine W_nil ?_
    refine N_then ?_
    refine G_ret ?_
    refine N_then_ret ?_
    obtain rfl := Option.some.inj hm
    refine N_ret [.bool true] (RVs_cons (RV_tmp (by kernel_rfl)) RVs_nil) ?_
    exact ⟨rfl, M14.pick [] (by kernel_rfl)⟩
  refine G_cond_f (b := r11) hc15 (by kernel_rfl) ?_
  refine G_skip ?_
  refine N_then ?_
  refine G_seq ?_
  refine G_region ?_
  refine W_run 1 [(0, .slice p3 x1.length c4), (37, .slice p3 x1.length c4)] w12 (by kernel_rfl) ?_
  obtain ⟨r740, hr740, hm⟩ := gx_bind hm
  refine W_call 5 #[.slice p3 x1.length c4] (by kernel_rfl) (by kernel_rfl) ?_
  refine (c_s_DrawEventText w12 x1 p3 c4 (h5.mem0 M14) hr740).mono ?_
  rintro e_ w741 ⟨rfl, K742⟩
  have M743 := M14.call0 K742
  refine ⟨_, rfl, ?_⟩
  refine W_new (fun b => .pointer (some ⟨b, 0, none⟩)) (.cells ⟨[.int .i64 0, .int .i64 0, .string ByteArray.empty, .int .i64 0]⟩ 25 (0, 0)) M743 rfl (by kernel_rfl) (by kernel_rfl) ?_
  intro b745 w746 M747
  refine W_store _ _ _ true 4 b745 0 [.int .i64 0, .int .i64 0, .string ByteArray.empty, .int .i64 0] 25 (.agg #[.int .i64 r740.Tick, .int .i64 r740.Guest, .string r740.Kind, .int .i64 r740.Value]) 0 [.int .i64 r740.Tick, .int .i64 r740.Guest, .string r740.Kind, .int .i64 r740.Value] M747 (by kernel_rfl) rfl (by kernel_rfl) (by kernel_rfl) (by kernel_rfl) (by kernel_rfl) (by kernel_rfl) (by kernel_rfl) (by kernel_rfl) (by kernel_rfl) ?_
  intro w748 M749
  refine W_nil ?_
  refine N_then ?_
  refine G_seq ?_
  refine G_region ?_
  refine W_val (.agg #[.int .i64 r740.Tick, .int .i64 r740.Guest, .string r740.Kind, .int .i64 r740.Value]) w748 (by kernel_rfl) (E_load (e := 25) (fr := (0, 0)) _ _ true 4 b745 0 [.int .i64 r740.Tick, .int .i64 r740.Guest, .string r740.Kind, .int .i64 r740.Value] (.agg #[.int .i64 r740.Tick, .int .i64 r740.Guest, .string r740.Kind, .int .i64 r740.Value]) rfl (by kernel_rfl) (by kernel_rfl) (by kernel_rfl) (M749.blk 0 (b := b745) (o := .cells ⟨[.int .i64 r740.Tick, .int .i64 r740.Guest, .string r740.Kind, .int .i64 r740.Value]⟩ 25 (0, 0)) (by kernel_rfl))) ?_
  obtain ⟨r980, hr980, hm⟩ := gx_bind hm
  refine W_call 6 #[.agg #[.int .i64 r740.Tick, .int .i64 r740.Guest, .string r740.Kind, .int .i64 r740.Value]] (by kernel_rfl) (by kernel_rfl) ?_
  refine (c_i_EventText w748 r740 (TabYM ht_ M749) hr980).mono ?_
  rintro e_ w981 ⟨rfl, K982⟩
  have M983 := M749.call0 K982
  refine ⟨_, rfl, ?_⟩
  refine W_run 5 [(0, .slice p3 x1.length c4), (3, .pointer (some ⟨b745, 0, none⟩)), (4, .string r980.1), (5, .bool r980.2)] w981 (by kernel_rfl) ?_
  refine W_nil ?_
  refine N_then ?_
  refine G_seq ?_
  refine G_seq ?_
  refine G_region ?_
  refine W_val (.agg #[.int .i64 r740.Tick, .int .i64 r740.Guest, .string r740.Kind, .int .i64 r740.Value]) w981 (by kernel_rfl) (E_load (e := 25) (fr := (0, 0)) _ _ true 4 b745 0 [.int .i64 r740.Tick, .int .i64 r740.Guest, .string r740.Kind, .int .i64 r740.Value] (.agg #[.int .i64 r740.Tick, .int .i64 r740.Guest, .string r740.Kind, .int .i64 r740.Value]) rfl (by kernel_rfl) (by kernel_rfl) (by kernel_rfl) (M983.blk 0 (b := b745) (o := .cells ⟨[.int .i64 r740.Tick, .int .i64 r740.Guest, .string r740.Kind, .int .i64 r740.Value]⟩ 25 (0, 0)) (by kernel_rfl))) ?_
  obtain ⟨r1219, hr1219, hm⟩ := gx_bind hm
  refine W_call 7 #[.agg #[.int .i64 r740.Tick, .int .i64 r740.Guest, .string r740.Kind, .int .i64 r740.Value]] (by kernel_rfl) (by kernel_rfl) ?_
  refine (c_s_EventText w981 r740 hr1219).mono ?_
  rintro e_ w1220 ⟨rfl, K1221⟩
  have M1222 := M983.call0 K1221
  refine ⟨_, rfl, ?_⟩
  refine W_run 5 [(0, .slice p3 x1.length c4), (3, .pointer (some ⟨b745, 0, none⟩)), (4, .string r980.1), (5, .bool r980.2), (6, .string r1219.1), (7, .bool r1219.2)] w1220 (by kernel_rfl) ?_
  refine W_nil ?_
  refine N_then ?_
  refine G_seq ?_
  obtain ⟨o1229, ho1230, hm1231⟩ := gx_bind hm
  refine G_meet (fun a w' => Mem [] w w' [[(b745, .cells ⟨[.int .i64 r740.Tick, .int .i64 r740.Guest, .string r740.Kind, .int .i64 r740.Value]⟩ 25 (0, 0))]] ∧ Sat Tryz.f3.ntmps [(0, .slice p3 x1.length c4), (3, .pointer (some ⟨b745, 0, none⟩)), (4, .string r980.1), (5, .bool r980.2), (62, .bool o1229)] a) ?_ ?_
  · have hm := ho1230
    refine G_region ?_
    refine W_run 4 [(0, .slice p3 x1.length c4), (3, .pointer (some ⟨b745, 0, none⟩)), (4, .string r980.1), (5, .bool r980.2), (7, .bool r1219.2), (52, .bool (!(r980.1.toList == r1219.1.toList)))] w1220 (by kernel_rfl) ?_
    rcases gx_bif hm with ⟨hc1232, hm⟩ | ⟨hc1232, hm⟩
    · refine W_known 52 true (by kernel_rfl) hc1232 ?_
      refine W_run 10 [(0, .slice p3 x1.length c4), (3, .pointer (some ⟨b745, 0, none⟩)), (4, .string r980.1), (5, .bool r980.2), (62, .bool true)] w1220 (by kernel_rfl) ?_
      refine W_nil ?_
      obtain rfl := Option.some.inj hm
      exact N_meet fun a ha => ⟨M1222.pick [0] (by kernel_rfl), ha.sub (by kernel_rfl)⟩
    refine W_known 52 false (by kernel_rfl) hc1232 ?_
    refine W_run 5 [(0, .slice p3 x1.length c4), (3, .pointer (some ⟨b745, 0, none⟩)), (4, .string r980.1), (5, .bool r980.2), (57, .bool (!(r980.2 == r1219.2)))] w1220 (by kernel_rfl) ?_
    rcases gx_bif hm with ⟨hc1233, hm⟩ | ⟨hc1233, hm⟩
    · refine W_known 57 true (by kernel_rfl) hc1233 ?_
      refine W_run 5 [(0, .slice p3 x1.length c4), (3, .pointer (some ⟨b745, 0, none⟩)), (4, .string r980.1), (5, .bool r980.2), (62, .bool true)] w1220 (by kernel_rfl) ?_
      refine W_nil ?_
      obtain rfl := Option.some.inj hm
      exact N_meet fun a ha => ⟨M1222.pick [0] (by kernel_rfl), ha.sub (by kernel_rfl)⟩
    refine W_known 57 false (by kernel_rfl) hc1233 ?_
    refine W_run 1 [(0, .slice p3 x1.length c4), (3, .pointer (some ⟨b745, 0, none⟩)), (4, .string r980.1), (5, .bool r980.2), (57, .bool false), (58, .bool r980.2)] w1220 (by kernel_rfl) ?_
    refine W_val (.agg #[.int .i64 r740.Tick, .int .i64 r740.Guest, .string r740.Kind, .int .i64 r740.Value]) w1220 (by kernel_rfl) (E_load (e := 25) (fr := (0, 0)) _ _ true 4 b745 0 [.int .i64 r740.Tick, .int .i64 r740.Guest, .string r740.Kind, .int .i64 r740.Value] (.agg #[.int .i64 r740.Tick, .int .i64 r740.Guest, .string r740.Kind, .int .i64 r740.Value]) rfl (by kernel_rfl) (by kernel_rfl) (by kernel_rfl) (M1222.blk 0 (b := b745) (o := .cells ⟨[.int .i64 r740.Tick, .int .i64 r740.Guest, .string r740.Kind, .int .i64 r740.Value]⟩ 25 (0, 0)) (by kernel_rfl))) ?_
    obtain ⟨r1234, hr1234, hm⟩ := gx_bind hm
    refine W_call 8 #[.agg #[.int .i64 r740.Tick, .int .i64 r740.Guest, .string r740.Kind, .int .i64 r740.Value]] (by kernel_rfl) (by kernel_rfl) ?_
    refine (c_i_IsEvent w1220 r740 hr1234).mono ?_
    rintro e_ w1235 ⟨rfl, K1236⟩
    have M1237 := M1222.call0 K1236
    refine ⟨_, rfl, ?_⟩
    refine W_run 2 [(0, .slice p3 x1.length c4), (3, .pointer (some ⟨b745, 0, none⟩)), (4, .string r980.1), (5, .bool r980.2), (62, .bool (!(r980.2 == r1234)))] w1235 (by kernel_rfl) ?_
    refine W_nil ?_
    obtain rfl := Option.some.inj hm
    exact N_meet fun a ha => ⟨M1237.pick [0] (by kernel_rfl), ha.sub (by kernel_rfl)⟩
  intro a1240 w1238 ⟨M1239, hS1241⟩
  refine N_use hS1241 ?_
  have hm := hm1231
  refine N_then ?_
  rcases gx_bif hm with ⟨hc1242, hm⟩ | ⟨hc1242, hm⟩
  · refine G_cond_t (b := o1229) hc1242 (by kernel_rfl) ?_
    refine G_seq ?_
    refine G_region ?_
    refine W_run 1 [(2, .bool false)] w1238 (by kernel_rfl) ?_
    refine W_nil ?_
    refine N_then ?_
    refine G_ret ?_
    refine N_then_ret ?_
    obtain rfl := Option.some.inj hm
    refine N_ret [.bool false] (RVs_cons (RV_tmp (by kernel_rfl)) RVs_nil) ?_
    exact ⟨rfl, M1239.pick [] (by kernel_rfl)⟩
  refine G_cond_f (b := o1229) hc1242 (by kernel_rfl) ?_
  refine G_skip ?_
  refine N_then ?_
  refine G_seq ?_
  refine G_seq ?_
  refine G_region ?_
  refine W_run 1 [(0, .slice p3 x1.length c4), (3, .pointer (some ⟨b745, 0, none⟩)), (5, .bool r980.2), (64, .string r980.1)] w1238 (by kernel_rfl) ?_
  obtain ⟨r1377, hr1377, hm⟩ := gx_bind hm
  refine W_call 9 #[.string r980.1] (by kernel_rfl) (by kernel_rfl) ?_
  refine (c_i_ParseEvent w1238 r980.1 (TabYM ht_ M1239) hr1377).mono ?_
  rintro e_ w1378 ⟨rfl, K1379⟩
  have M1380 := M1239.call0 K1379
  refine ⟨_, rfl, ?_⟩
  refine W_run 3 [(0, .slice p3 x1.length c4), (3, .pointer (some ⟨b745, 0, none⟩)), (5, .bool r980.2), (66, .agg #[.int .i64 r1377.1.Tick, .int .i64 r1377.1.Guest, .string r1377.1.Kind, .int .i64 r1377.1.Value]), (67, .bool r1377.2)] w1378 (by kernel_rfl) ?_
  refine W_new (fun b => .pointer (some ⟨b, 0, none⟩)) (.cells ⟨[.int .i64 0, .int .i64 0, .string ByteArray.empty, .int .i64 0]⟩ 25 (0, 0)) M1380 rfl (by kernel_rfl) (by kernel_rfl) ?_
  intro b1382 w1383 M1384
  refine W_store _ _ _ true 4 b1382 0 [.int .i64 0, .int .i64 0, .string ByteArray.empty, .int .i64 0] 25 (.agg #[.int .i64 r1377.1.Tick, .int .i64 r1377.1.Guest, .string r1377.1.Kind, .int .i64 r1377.1.Value]) 1 [.int .i64 r1377.1.Tick, .int .i64 r1377.1.Guest, .string r1377.1.Kind, .int .i64 r1377.1.Value] M1384 (by kernel_rfl) rfl (by kernel_rfl) (by kernel_rfl) (by kernel_rfl) (by kernel_rfl) (by kernel_rfl) (by kernel_rfl) (by kernel_rfl) (by kernel_rfl) ?_
  intro w1385 M1386
  refine W_run 1 [(0, .slice p3 x1.length c4), (3, .pointer (some ⟨b745, 0, none⟩)), (5, .bool r980.2), (8, .pointer (some ⟨b1382, 0, none⟩)), (9, .bool r1377.2)] w1385 (by kernel_rfl) ?_
  refine W_nil ?_
  refine N_then ?_
  refine G_seq ?_
  obtain ⟨o1389, ho1390, hm1391⟩ := gx_bind hm
  refine G_meet (fun a w' => Mem [] w w' [] ∧ Sat Tryz.f3.ntmps [(0, .slice p3 x1.length c4), (77, .bool o1389)] a) ?_ ?_
  · have hm := ho1390
    refine G_region ?_
    refine W_run 2 [(0, .slice p3 x1.length c4), (3, .pointer (some ⟨b745, 0, none⟩)), (8, .pointer (some ⟨b1382, 0, none⟩)), (9, .bool r1377.2), (69, .bool r980.2)] w1385 (by kernel_rfl) ?_
    rcases gx_bif hm with ⟨hc1392, hm⟩ | ⟨hc1392, hm⟩
    · refine W_known 69 true (by kernel_rfl) hc1392 ?_
      refine W_run 3 [(0, .slice p3 x1.length c4), (3, .pointer (some ⟨b745, 0, none⟩)), (8, .pointer (some ⟨b1382, 0, none⟩)), (69, .bool true), (72, .bool (!r1377.2))] w1385 (by kernel_rfl) ?_
      rcases gx_bif hm with ⟨hc1393, hm⟩ | ⟨hc1393, hm⟩
      · refine W_known 72 true (by kernel_rfl) hc1393 ?_
        refine W_run 5 [(0, .slice p3 x1.length c4), (77, .bool true)] w1385 (by kernel_rfl) ?_
        refine W_nil ?_
        obtain rfl := Option.some.inj hm
        exact N_meet fun a ha => ⟨M1386.pick [] (by kernel_rfl), ha.sub (by kernel_rfl)⟩
      refine W_known 72 false (by kernel_rfl) hc1393 ?_
      refine W_val (.agg #[.int .i64 r1377.1.Tick, .int .i64 r1377.1.Guest, .string r1377.1.Kind, .int .i64 r1377.1.Value]) w1385 (by kernel_rfl) (E_load (e := 25) (fr := (0, 0)) _ _ true 4 b1382 0 [.int .i64 r1377.1.Tick, .int .i64 r1377.1.Guest, .string r1377.1.Kind, .int .i64 r1377.1.Value] (.agg #[.int .i64 r1377.1.Tick, .int .i64 r1377.1.Guest, .string r1377.1.Kind, .int .i64 r1377.1.Value]) rfl (by kernel_rfl) (by kernel_rfl) (by kernel_rfl) (M1386.blk 1 (b := b1382) (o := .cells ⟨[.int .i64 r1377.1.Tick, .int .i64 r1377.1.Guest, .string r1377.1.Kind, .int .i64 r1377.1.Value]⟩ 25 (0, 0)) (by kernel_rfl))) ?_
      refine W_val (.agg #[.int .i64 r740.Tick, .int .i64 r740.Guest, .string r740.Kind, .int .i64 r740.Value]) w1385 (by kernel_rfl) (E_load (e := 25) (fr := (0, 0)) _ _ true 4 b745 0 [.int .i64 r740.Tick, .int .i64 r740.Guest, .string r740.Kind, .int .i64 r740.Value] (.agg #[.int .i64 r740.Tick, .int .i64 r740.Guest, .string r740.Kind, .int .i64 r740.Value]) rfl (by kernel_rfl) (by kernel_rfl) (by kernel_rfl) (M1386.blk 0 (b := b745) (o := .cells ⟨[.int .i64 r740.Tick, .int .i64 r740.Guest, .string r740.Kind, .int .i64 r740.Value]⟩ 25 (0, 0)) (by kernel_rfl))) ?_
      refine W_val (.bool (!((r1377.1.Tick == r740.Tick) && ((r1377.1.Guest == r740.Guest) && ((r1377.1.Kind.toList == r740.Kind.toList) && ((r1377.1.Value == r740.Value) && true)))))) w1385 (by kernel_rfl) (E_neqAgg _ _ _ _ [.int .i64 r1377.1.Tick, .int .i64 r1377.1.Guest, .string r1377.1.Kind, .int .i64 r1377.1.Value] [.int .i64 r740.Tick, .int .i64 r740.Guest, .string r740.Kind, .int .i64 r740.Value] ((r1377.1.Tick == r740.Tick) && ((r1377.1.Guest == r740.Guest) && ((r1377.1.Kind.toList == r740.Kind.toList) && ((r1377.1.Value == r740.Value) && true)))) rfl (by kernel_rfl) (by kernel_rfl) (by kernel_rfl) (by kernel_rfl) (by kernel_rfl) (by kernel_rfl)) ?_
      refine W_run 2 [(0, .slice p3 x1.length c4), (77, .bool (!((r1377.1.Tick == r740.Tick) && ((r1377.1.Guest == r740.Guest) && ((r1377.1.Kind.toList == r740.Kind.toList) && ((r1377.1.Value == r740.Value) && true))))))] w1385 (by kernel_rfl) ?_
      refine W_nil ?_
      obtain rfl := Option.some.inj hm
      exact N_meet fun a ha => ⟨M1386.pick [] (by kernel_rfl), ha.sub (by kernel_rfl)⟩
    refine W_known 69 false (by kernel_rfl) hc1392 ?_
    refine W_run 8 [(0, .slice p3 x1.length c4), (77, .bool false)] w1385 (by kernel_rfl) ?_
    refine W_nil ?_
    obtain rfl := Option.some.inj hm
    exact N_meet fun a ha => ⟨M1386.pick [] (by kernel_rfl), ha.sub (by kernel_rfl)⟩
  intro a1396 w1394 ⟨M1395, hS1397⟩
  refine N_use hS1397 ?_
  have hm := hm1391
  refine N_then ?_
  rcases gx_bif hm with ⟨hc1398, hm⟩ | ⟨hc1398, hm⟩
  · refine G_cond_t (b := o1389) hc1398 (by kernel_rfl) ?_
    refine G_seq ?_
    refine G_region ?_
    refine W_run 1 [(2, .bool false)] w1394 (by kernel_rfl) ?_
    refine W_nil ?_
    refine N_then ?_
    refine G_ret ?_
    refine N_then_ret ?_
    obtain rfl := Option.some.inj hm
    refine N_ret [.bool false] (RVs_cons (RV_tmp (by kernel_rfl)) RVs_nil) ?_
    exact ⟨rfl, M1395.pick [] (by kernel_rfl)⟩
  refine G_cond_f (b := o1389) hc1398 (by kernel_rfl) ?_
  refine G_skip ?_
  refine N_then ?_
  refine G_seq ?_
  refine G_region ?_
  refine W_run 1 [(0, .slice p3 x1.length c4), (78, .slice p3 x1.length c4)] w1394 (by kernel_rfl) ?_
  obtain ⟨r1507, hr1507, hm⟩ := gx_bind hm
  refine W_call 10 #[.slice p3 x1.length c4] (by kernel_rfl) (by kernel_rfl) ?_
  refine (c_s_DrawParseEvent w1394 x1 p3 c4 (h5.mem0 M1395) hr1507).mono ?_
  rintro e_ w1508 ⟨rfl, K1509⟩
  have M1510 := M1395.call0 K1509
  refine ⟨_, rfl, ?_⟩
  refine W_run 1 [(0, .slice p3 x1.length c4), (10, .string r1507)] w1508 (by kernel_rfl) ?_
  refine W_nil ?_
  refine N_then ?_
  refine G_seq ?_
  refine G_region ?_
  refine W_run 1 [(0, .slice p3 x1.length c4), (10, .string r1507), (81, .string r1507)] w1508 (by kernel_rfl) ?_
  obtain ⟨r1511, hr1511, hm⟩ := gx_bind hm
  refine W_call 9 #[.string r1507] (by kernel_rfl) (by kernel_rfl) ?_
  refine (c_i_ParseEvent w1508 r1507 (TabYM ht_ M1510) hr1511).mono ?_
  rintro e_ w1512 ⟨rfl, K1513⟩
  have M1514 := M1510.call0 K1513
  refine ⟨_, rfl, ?_⟩
  refine W_run 3 [(0, .slice p3 x1.length c4), (10, .string r1507), (83, .agg #[.int .i64 r1511.1.Tick, .int .i64 r1511.1.Guest, .string r1511.1.Kind, .int .i64 r1511.1.Value]), (84, .bool r1511.2)] w1512 (by kernel_rfl) ?_
  refine W_new (fun b => .pointer (some ⟨b, 0, none⟩)) (.cells ⟨[.int .i64 0, .int .i64 0, .string ByteArray.empty, .int .i64 0]⟩ 25 (0, 0)) M1514 rfl (by kernel_rfl) (by kernel_rfl) ?_
  intro b1516 w1517 M1518
  refine W_store _ _ _ true 4 b1516 0 [.int .i64 0, .int .i64 0, .string ByteArray.empty, .int .i64 0] 25 (.agg #[.int .i64 r1511.1.Tick, .int .i64 r1511.1.Guest, .string r1511.1.Kind, .int .i64 r1511.1.Value]) 0 [.int .i64 r1511.1.Tick, .int .i64 r1511.1.Guest, .string r1511.1.Kind, .int .i64 r1511.1.Value] M1518 (by kernel_rfl) rfl (by kernel_rfl) (by kernel_rfl) (by kernel_rfl) (by kernel_rfl) (by kernel_rfl) (by kernel_rfl) (by kernel_rfl) (by kernel_rfl) ?_
  intro w1519 M1520
  refine W_run 1 [(0, .slice p3 x1.length c4), (10, .string r1507), (11, .pointer (some ⟨b1516, 0, none⟩)), (12, .bool r1511.2)] w1519 (by kernel_rfl) ?_
  refine W_nil ?_
  refine N_then ?_
  refine G_seq ?_
  refine G_seq ?_
  refine G_region ?_
  refine W_run 1 [(0, .slice p3 x1.length c4), (11, .pointer (some ⟨b1516, 0, none⟩)), (12, .bool r1511.2), (86, .string r1507)] w1519 (by kernel_rfl) ?_
  obtain ⟨r1974, hr1974, hm⟩ := gx_bind hm
  refine W_call 11 #[.string r1507] (by kernel_rfl) (by kernel_rfl) ?_
  refine (c_s_ParseEvent w1519 r1507 hr1974).mono ?_
  rintro e_ w1975 ⟨rfl, K1976⟩
  have M1977 := M1520.call0 K1976
  refine ⟨_, rfl, ?_⟩
  refine W_run 3 [(0, .slice p3 x1.length c4), (11, .pointer (some ⟨b1516, 0, none⟩)), (12, .bool r1511.2), (88, .agg #[.int .i64 r1974.1.Tick, .int .i64 r1974.1.Guest, .string r1974.1.Kind, .int .i64 r1974.1.Value]), (89, .bool r1974.2)] w1975 (by kernel_rfl) ?_
  refine W_new (fun b => .pointer (some ⟨b, 0, none⟩)) (.cells ⟨[.int .i64 0, .int .i64 0, .string ByteArray.empty, .int .i64 0]⟩ 25 (0, 0)) M1977 rfl (by kernel_rfl) (by kernel_rfl) ?_
  intro b1979 w1980 M1981
  refine W_store _ _ _ true 4 b1979 0 [.int .i64 0, .int .i64 0, .string ByteArray.empty, .int .i64 0] 25 (.agg #[.int .i64 r1974.1.Tick, .int .i64 r1974.1.Guest, .string r1974.1.Kind, .int .i64 r1974.1.Value]) 1 [.int .i64 r1974.1.Tick, .int .i64 r1974.1.Guest, .string r1974.1.Kind, .int .i64 r1974.1.Value] M1981 (by kernel_rfl) rfl (by kernel_rfl) (by kernel_rfl) (by kernel_rfl) (by kernel_rfl) (by kernel_rfl) (by kernel_rfl) (by kernel_rfl) (by kernel_rfl) ?_
  intro w1982 M1983
  refine W_run 1 [(0, .slice p3 x1.length c4), (11, .pointer (some ⟨b1516, 0, none⟩)), (12, .bool r1511.2), (13, .pointer (some ⟨b1979, 0, none⟩)), (14, .bool r1974.2)] w1982 (by kernel_rfl) ?_
  refine W_nil ?_
  refine N_then ?_
  refine G_seq ?_
  obtain ⟨o1985, ho1986, hm1987⟩ := gx_bind hm
  refine G_meet (fun a w' => Mem [] w w' [] ∧ Sat Tryz.f3.ntmps [(0, .slice p3 x1.length c4), (97, .bool o1985)] a) ?_ ?_
  · have hm := ho1986
    refine G_region ?_
    refine W_val (.agg #[.int .i64 r1511.1.Tick, .int .i64 r1511.1.Guest, .string r1511.1.Kind, .int .i64 r1511.1.Value]) w1982 (by kernel_rfl) (E_load (e := 25) (fr := (0, 0)) _ _ true 4 b1516 0 [.int .i64 r1511.1.Tick, .int .i64 r1511.1.Guest, .string r1511.1.Kind, .int .i64 r1511.1.Value] (.agg #[.int .i64 r1511.1.Tick, .int .i64 r1511.1.Guest, .string r1511.1.Kind, .int .i64 r1511.1.Value]) rfl (by kernel_rfl) (by kernel_rfl) (by kernel_rfl) (M1983.blk 0 (b := b1516) (o := .cells ⟨[.int .i64 r1511.1.Tick, .int .i64 r1511.1.Guest, .string r1511.1.Kind, .int .i64 r1511.1.Value]⟩ 25 (0, 0)) (by kernel_rfl))) ?_
    refine W_val (.agg #[.int .i64 r1974.1.Tick, .int .i64 r1974.1.Guest, .string r1974.1.Kind, .int .i64 r1974.1.Value]) w1982 (by kernel_rfl) (E_load (e := 25) (fr := (0, 0)) _ _ true 4 b1979 0 [.int .i64 r1974.1.Tick, .int .i64 r1974.1.Guest, .string r1974.1.Kind, .int .i64 r1974.1.Value] (.agg #[.int .i64 r1974.1.Tick, .int .i64 r1974.1.Guest, .string r1974.1.Kind, .int .i64 r1974.1.Value]) rfl (by kernel_rfl) (by kernel_rfl) (by kernel_rfl) (M1983.blk 1 (b := b1979) (o := .cells ⟨[.int .i64 r1974.1.Tick, .int .i64 r1974.1.Guest, .string r1974.1.Kind, .int .i64 r1974.1.Value]⟩ 25 (0, 0)) (by kernel_rfl))) ?_
    refine W_val (.bool (!((r1511.1.Tick == r1974.1.Tick) && ((r1511.1.Guest == r1974.1.Guest) && ((r1511.1.Kind.toList == r1974.1.Kind.toList) && ((r1511.1.Value == r1974.1.Value) && true)))))) w1982 (by kernel_rfl) (E_neqAgg _ _ _ _ [.int .i64 r1511.1.Tick, .int .i64 r1511.1.Guest, .string r1511.1.Kind, .int .i64 r1511.1.Value] [.int .i64 r1974.1.Tick, .int .i64 r1974.1.Guest, .string r1974.1.Kind, .int .i64 r1974.1.Value] ((r1511.1.Tick == r1974.1.Tick) && ((r1511.1.Guest == r1974.1.Guest) && ((r1511.1.Kind.toList == r1974.1.Kind.toList) && ((r1511.1.Value == r1974.1.Value) && true)))) rfl (by kernel_rfl) (by kernel_rfl) (by kernel_rfl) (by kernel_rfl) (by kernel_rfl) (by kernel_rfl)) ?_
    refine W_run 1 [(0, .slice p3 x1.length c4), (12, .bool r1511.2), (14, .bool r1974.2), (93, .bool (!((r1511.1.Tick == r1974.1.Tick) && ((r1511.1.Guest == r1974.1.Guest) && ((r1511.1.Kind.toList == r1974.1.Kind.toList) && ((r1511.1.Value == r1974.1.Value) && true))))))] w1982 (by kernel_rfl) ?_
    rcases gx_bif hm with ⟨hc1988, hm⟩ | ⟨hc1988, hm⟩
    · refine W_known 93 true (by kernel_rfl) hc1988 ?_
      refine W_run 4 [(0, .slice p3 x1.length c4), (97, .bool true)] w1982 (by kernel_rfl) ?_
      refine W_nil ?_
      obtain rfl := Option.some.inj hm
      exact N_meet fun a ha => ⟨M1983.pick [] (by kernel_rfl), ha.sub (by kernel_rfl)⟩
    refine W_known 93 false (by kernel_rfl) hc1988 ?_
    refine W_run 4 [(0, .slice p3 x1.length c4), (97, .bool (!(r1511.2 == r1974.2)))] w1982 (by kernel_rfl) ?_
    refine W_nil ?_
    obtain rfl := Option.some.inj hm
    exact N_meet fun a ha => ⟨M1983.pick [] (by kernel_rfl), ha.sub (by kernel_rfl)⟩
  intro a1991 w1989 ⟨M1990, hS1992⟩
  refine N_use hS1992 ?_
  have hm := hm1987
  refine N_then ?_
  rcases gx_bif hm with ⟨hc1993, hm⟩ | ⟨hc1993, hm⟩
  · refine G_cond_t (b := o1985) hc1993 (by kernel_rfl) ?_
    refine G_seq ?_
    refine G_region ?_
    refine W_run 1 [(2, .bool false)] w1989 (by kernel_rfl) ?_
    refine W_nil ?_
    refine N_then ?_
    refine G_ret ?_
    refine N_then_ret ?_
    obtain rfl := Option.some.inj hm
    refine N_ret [.bool false] (RVs_cons (RV_tmp (by kernel_rfl)) RVs_nil) ?_
    exact ⟨rfl, M1990.pick [] (by kernel_rfl)⟩
  refine G_cond_f (b := o1985) hc1993 (by kernel_rfl) ?_
  refine G_skip ?_
  refine N_then ?_
  refine G_seq ?_
  refine G_region ?_
  refine W_run 1 [(0, .slice p3 x1.length c4), (99, .slice p3 x1.length c4)] w1989 (by kernel_rfl) ?_
  obtain ⟨r2664, hr2664, hm⟩ := gx_bind hm
  refine W_call 12 #[.slice p3 x1.length c4] (by kernel_rfl) (by kernel_rfl) ?_
  refine (c_s_DrawEventsOf w1989 x1 p3 c4 (h5.mem0 M1990) hr2664).mono ?_
  rintro e_ w2670 ⟨p2666, c2667, sg2668, rfl, ho2669, K2671⟩
  have M2672 := M1990.call K2671
  refine ⟨_, rfl, ?_⟩
  refine W_run 5 [(0, .slice p3 x1.length c4), (15, .slice p2666 r2664.1.length c2667), (16, .int .i64 r2664.2)] w2670 (by kernel_rfl) ?_
  refine W_nil ?_
  refine N_then ?_
  refine G_seq ?_
  refine G_region ?_
  refine W_run 2 [(0, .slice p3 x1.length c4), (15, .slice p2666 r2664.1.length c2667), (16, .int .i64 r2664.2), (104, .slice p2666 r2664.1.length c2667), (105, .int .i64 r2664.2)] w2670 (by kernel_rfl) ?_
  obtain ⟨r3197, hr3197, hm⟩ := gx_bind hm
  refine W_call 13 #[.slice p2666 r2664.1.length c2667, .int .i64 r2664.2] (by kernel_rfl) (by kernel_rfl) ?_
  refine (c_i_EventsOf w2670 r2664.1 p2666 c2667 (ho2669.rd M2672 0 (by kernel_rfl)) r2664.2 hr3197).mono ?_
  rintro e_ w3203 ⟨p3199, c3200, sg3201, rfl, ho3202, K3204⟩
  have M3205 := M2672.call K3204
  refine ⟨_, rfl, ?_⟩
  refine W_run 5 [(0, .slice p3 x1.length c4), (15, .slice p2666 r2664.1.length c2667), (16, .int .i64 r2664.2), (17, .slice p3199 r3197.1.length c3200), (18, .bool r3197.2)] w3203 (by kernel_rfl) ?_
  refine W_nil ?_
  refine N_then ?_
  refine G_seq ?_
  refine G_seq ?_
  refine G_region ?_
  refine W_run 2 [(0, .slice p3 x1.length c4), (15, .slice p2666 r2664.1.length c2667), (17, .slice p3199 r3197.1.length c3200), (18, .bool r3197.2), (110, .slice p2666 r2664.1.length c2667), (111, .int .i64 r2664.2)] w3203 (by kernel_rfl) ?_
  obtain ⟨r3561, hr3561, hm⟩ := gx_bind hm
  refine W_call 14 #[.slice p2666 r2664.1.length c2667, .int .i64 r2664.2] (by kernel_rfl) (by kernel_rfl) ?_
  refine (c_s_EventsOf w3203 r2664.1 p2666 c2667 (ho2669.rd M3205 0 (by kernel_rfl)) r2664.2 hr3561).mono ?_
  rintro e_ w3567 ⟨p3563, c3564, sg3565, rfl, ho3566, K3568⟩
  have M3569 := M3205.call K3568
  refine ⟨_, rfl, ?_⟩
  refine W_run 5 [(0, .slice p3 x1.length c4), (15, .slice p2666 r2664.1.length c2667), (17, .slice p3199 r3197.1.length c3200), (18, .bool r3197.2), (19, .slice p3563 r3561.1.length c3564), (20, .bool r3561.2)] w3567 (by kernel_rfl) ?_
  refine W_nil ?_
  refine N_then ?_
  refine G_seq ?_
  obtain ⟨o3619, ho3620, hm3621⟩ := gx_bind hm
  refine G_meet (fun a w' => Mem [] w w' [sg2668] ∧ Sat Tryz.f3.ntmps [(0, .slice p3 x1.length c4), (15, .slice p2666 r2664.1.length c2667), (18, .bool r3197.2), (123, .bool o3619)] a) ?_ ?_
  · have hm := ho3620
    refine G_region ?_
    refine W_run 4 [(0, .slice p3 x1.length c4), (15, .slice p2666 r2664.1.length c2667), (17, .slice p3199 r3197.1.length c3200), (18, .bool r3197.2), (19, .slice p3563 r3561.1.length c3564), (118, .bool (!(r3197.2 == r3561.2)))] w3567 (by kernel_rfl) ?_
    rcases gx_bif hm with ⟨hc3622, hm⟩ | ⟨hc3622, hm⟩
    · refine W_known 118 true (by kernel_rfl) hc3622 ?_
      refine W_run 5 [(0, .slice p3 x1.length c4), (15, .slice p2666 r2664.1.length c2667), (18, .bool r3197.2), (123, .bool true)] w3567 (by kernel_rfl) ?_
      refine W_nil ?_
      obtain rfl := Option.some.inj hm
      exact N_meet fun a ha => ⟨M3569.pick [0] (by kernel_rfl), ha.sub (by kernel_rfl)⟩
    refine W_known 118 false (by kernel_rfl) hc3622 ?_
    refine W_run 2 [(0, .slice p3 x1.length c4), (15, .slice p2666 r2664.1.length c2667), (18, .bool r3197.2), (118, .bool false), (119, .slice p3199 r3197.1.length c3200), (120, .slice p3563 r3561.1.length c3564)] w3567 (by kernel_rfl) ?_
    obtain ⟨r3623, hr3623, hm⟩ := gx_bind hm
    refine W_call 15 #[.slice p3199 r3197.1.length c3200, .slice p3563 r3561.1.length c3564] (by kernel_rfl) (by kernel_rfl) ?_
    refine (c_l_rEvents w3567 r3197.1 p3199 c3200 (ho3202.rd M3569 1 (by kernel_rfl)) r3561.1 p3563 c3564 (ho3566.rd M3569 2 (by kernel_rfl)) hr3623).mono ?_
    rintro e_ w3624 ⟨rfl, K3625⟩
    have M3626 := M3569.call0 K3625
    refine ⟨_, rfl, ?_⟩
    refine W_run 2 [(0, .slice p3 x1.length c4), (15, .slice p2666 r2664.1.length c2667), (18, .bool r3197.2), (123, .bool (!r3623))] w3624 (by kernel_rfl) ?_
    refine W_nil ?_
    obtain rfl := Option.some.inj hm
    exact N_meet fun a ha => ⟨M3626.pick [0] (by kernel_rfl), ha.sub (by kernel_rfl)⟩
  intro a3629 w3627 ⟨M3628, hS3630⟩
  refine N_use hS3630 ?_
  have hm := hm3621
  refine N_then ?_
  rcases gx_bif hm with ⟨hc3631, hm⟩ | ⟨hc3631, hm⟩
  · refine G_cond_t (b := o3619) hc3631 (by kernel_rfl) ?_
    refine G_seq ?_
    refine G_region ?_
    refine W_run 1 [(2, .bool false)] w3627 (by kernel_rfl) ?_
    refine W_nil ?_
    refine N_then ?_
    refine G_ret ?_
    refine N_then_ret ?_
    obtain rfl := Option.some.inj hm
    refine N_ret [.bool false] (RVs_cons (RV_tmp (by kernel_rfl)) RVs_nil) ?_
    exact ⟨rfl, M3628.pick [] (by kernel_rfl)⟩
  refine G_cond_f (b := o3619) hc3631 (by kernel_rfl) ?_
  refine G_skip ?_
  refine N_then ?_
  refine G_seq ?_
  refine G_seq ?_
  refine G_region ?_
  refine W_run 1 [(0, .slice p3 x1.length c4), (15, .slice p2666 r2664.1.length c2667), (124, .bool r3197.2)] w3627 (by kernel_rfl) ?_
  refine W_nil ?_
  refine N_then ?_
  obtain ⟨out4349, ho4347, hm4348⟩ := gx_bind hm
  refine G_meet (fun a w' => ∃ (o4346 : Unit), out4349 = .inl o4346 ∧ Mem [] w w' [] ∧ Sat Tryz.f3.ntmps [(0, .slice p3 x1.length c4)] a) ?_ ?_
  · have hm := ho4347
    rcases gx_bif hm with ⟨hc4350, hm⟩ | ⟨hc4350, hm⟩
    · refine G_cond_t (b := r3197.2) hc4350 (by kernel_rfl) ?_
      refine G_seq ?_
      refine G_region ?_
      refine W_run 1 [(0, .slice p3 x1.length c4), (15, .slice p2666 r2664.1.length c2667), (21, .int .i64 0)] w3627 (by kernel_rfl) ?_
      refine W_nil ?_
      refine N_then ?_
      refine G_seq ?_
      refine G_seq ?_
      refine G_region ?_
      refine W_run 1 [(0, .slice p3 x1.length c4), (15, .slice p2666 r2664.1.length c2667), (21, .int .i64 0), (22, .int .i64 0)] w3627 (by kernel_rfl) ?_
      refine W_nil ?_
      refine N_then ?_
      obtain ⟨out4380, hw4381, hmo4382⟩ := gx_bind hm
      refine G_meet (fun a w' => ∃ (o4383 : Int), out4380 = .inl o4383 ∧ Mem [] w w' [sg2668] ∧ Sat Tryz.f3.ntmps [(0, .slice p3 x1.length c4), (15, .slice p2666 r2664.1.length c2667), (21, .int .i64 o4383)] a) ?_ ?_
      · refine G_block ?_
        refine G_while (σ := Int × Int) (ρ := (Int) ⊕ (Bool)) (fun s4373 a w' => Mem [] w w' [sg2668] ∧ Sat Tryz.f3.ntmps [(0, .slice p3 x1.length c4), (15, .slice p2666 r2664.1.length c2667), (21, .int .i64 s4373.1), (22, .int .i64 s4373.2)] a) hw4381 (fun a ha => ⟨M3628.pick [0] (by kernel_rfl), ha.sub (by kernel_rfl)⟩) ?_
        clear hm
        intro s4373 x4374 hm hout4375 a4376 w4377 ⟨M4378, hS4379⟩
        refine G_use hS4379 ?_
        refine G_seq ?_
        refine G_seq ?_
        refine G_region ?_
        refine W_run 2 [(0, .slice p3 x1.length c4), (15, .slice p2666 r2664.1.length c2667), (21, .int .i64 s4373.1), (22, .int .i64 s4373.2), (126, .bool (decide (s4373.2 ≤ 4)))] w4377 (by kernel_rfl) ?_
        refine W_nil ?_
        refine N_then ?_
        rcases gx_bif hm with ⟨hc4384, hm⟩ | ⟨hc4384, hm⟩
        · refine G_cond_t (b := (decide (s4373.2 ≤ 4))) hc4384 (by kernel_rfl) ?_
          refine G_skip ?_
          refine N_then ?_
          refine G_seq ?_
          refine G_block ?_
          refine G_seq ?_
          refine G_region ?_
          refine W_run 2 [(0, .slice p3 x1.length c4), (15, .slice p2666 r2664.1.length c2667), (21, .int .i64 s4373.1), (22, .int .i64 s4373.2), (130, .slice p2666 r2664.1.length c2667), (131, .int .i64 s4373.2)] w4377 (by kernel_rfl) ?_
          obtain ⟨r4385, hr4385, hm⟩ := gx_bind hm
          refine W_call 13 #[.slice p2666 r2664.1.length c2667, .int .i64 s4373.2] (by kernel_rfl) (by kernel_rfl) ?_
          refine (c_i_EventsOf w4377 r2664.1 p2666 c2667 (ho2669.rd M4378 0 (by kernel_rfl)) s4373.2 hr4385).mono ?_
          rintro e_ w4391 ⟨p4387, c4388, sg4389, rfl, ho4390, K4392⟩
          have M4393 := M4378.call K4392
          refine ⟨_, rfl, ?_⟩
          refine W_run 5 [(0, .slice p3 x1.length c4), (15, .slice p2666 r2664.1.length c2667), (21, .int .i64 s4373.1), (22, .int .i64 s4373.2), (23, .slice p4387 r4385.1.length c4388), (24, .bool r4385.2)] w4391 (by kernel_rfl) ?_
          refine W_nil ?_
          refine N_then ?_
          refine G_seq ?_
          refine G_seq ?_
          refine G_region ?_
          refine W_run 2 [(0, .slice p3 x1.length c4), (15, .slice p2666 r2664.1.length c2667), (21, .int .i64 s4373.1), (22, .int .i64 s4373.2), (23, .slice p4387 r4385.1.length c4388), (136, .bool (!r4385.2))] w4391 (by kernel_rfl) ?_
          refine W_nil ?_
          refine N_then ?_
          rcases gx_bif hm with ⟨hc4394, hm⟩ | ⟨hc4394, hm⟩
          · refine G_cond_t (b := (!r4385.2)) hc4394 (by kernel_rfl) ?_
            refine G_seq ?_
            refine G_region ?_
            refine W_run 1 [(2, .bool false)] w4391 (by kernel_rfl) ?_
            refine W_nil ?_
            refine N_then ?_
            refine G_ret ?_
            refine N_then_ret ?_
            refine N_block_ret ?_
            refine N_then_ret ?_
            refine N_then_ret ?_
            obtain rfl := Option.some.inj hm
            obtain rfl := hout4375 _ rfl
            have hm := hmo4382; simp only [Sum.elim_inr] at hm
            refine N_block_ret ?_
            refine N_meet_ret ?_
            refine N_then_ret ?_
            refine N_meet_ret ?_
            obtain rfl := Option.some.inj hm
            have hm := hm4348
            simp only [Sum.elim_inr] at hm
            refine N_then_ret ?_
            obtain rfl := Option.some.inj hm
            refine N_ret [.bool false] (RVs_cons (RV_tmp (by kernel_rfl)) RVs_nil) ?_
            exact ⟨rfl, M4393.pick [] (by kernel_rfl)⟩
          refine G_cond_f (b := (!r4385.2)) hc4394 (by kernel_rfl) ?_
          refine G_skip ?_
          refine N_then ?_
          refine G_region ?_
          refine W_run 5 [(0, .slice p3 x1.length c4), (15, .slice p2666 r2664.1.length c2667), (21, .int .i64 (w64 (s4373.1 + (r4385.1.length : Int)))), (22, .int .i64 s4373.2)] w4391 (by kernel_rfl) ?_
          refine W_nil ?_
          refine N_block ?_
          refine N_then ?_
          refine G_region ?_
          refine W_run 3 [(0, .slice p3 x1.length c4), (15, .slice p2666 r2664.1.length c2667), (21, .int .i64 (w64 (s4373.1 + (r4385.1.length : Int)))), (22, .int .i64 (w64 (s4373.2 + 1)))] w4391 (by kernel_rfl) ?_
          refine W_nil ?_
          obtain rfl := Option.some.inj hm
          exact N_loop fun a ha => ⟨_, rfl, M4393.pick [0] (by kernel_rfl), ha.sub (by kernel_rfl)⟩
        refine G_cond_f (b := (decide (s4373.2 ≤ 4))) hc4384 (by kernel_rfl) ?_
        refine G_exit ?_
        refine N_then_exit ?_
        refine N_then_exit ?_
        refine N_block_eq ?_
        obtain rfl := Option.some.inj hm
        obtain rfl := hout4375 _ rfl
        exact N_meet fun a ha => ⟨_, rfl, M4378.pick [0] (by kernel_rfl), ha.sub (by kernel_rfl)⟩
      intro a4395 w4396 ⟨o4383, hout_, M4397, hS4398⟩
      refine N_use hS4398 ?_
      subst hout_
      have hm := hmo4382; simp only [Sum.elim_inl] at hm
      refine N_then ?_
      refine G_seq ?_
      refine G_region ?_
      refine W_run 1 [(0, .slice p3 x1.length c4), (15, .slice p2666 r2664.1.length c2667), (21, .int .i64 o4383), (142, .slice p2666 r2664.1.length c2667)] w4396 (by kernel_rfl) ?_
      obtain ⟨r4399, hr4399, hm⟩ := gx_bind hm
      refine W_call 16 #[.slice p2666 r2664.1.length c2667] (by kernel_rfl) (by kernel_rfl) ?_
      refine (c_i_CountKinds w4396 r2664.1 p2666 c2667 (ho2669.rd M4397 0 (by kernel_rfl)) hr4399).mono ?_
      rintro e_ w4410 ⟨p4401, c4402, sg4403, p4406, c4407, sg4408, rfl, ho4404, ho4409, K4411⟩
      have M4412 := M4397.call K4411
      refine ⟨_, rfl, ?_⟩
      refine W_run 7 [(0, .slice p3 x1.length c4), (15, .slice p2666 r2664.1.length c2667), (21, .int .i64 o4383), (25, .slice p4401 r4399.1.length c4402), (26, .slice p4406 r4399.2.1.length c4407), (27, .bool r4399.2.2)] w4410 (by kernel_rfl) ?_
      refine W_nil ?_
      refine N_then ?_
      refine G_seq ?_
      obtain ⟨o4420, ho4421, hm4422⟩ := gx_bind hm
      refine G_meet (fun a w' => Mem [] w w' [] ∧ Sat Tryz.f3.ntmps [(0, .slice p3 x1.length c4), (167, .bool o4420)] a) ?_ ?_
      · have hm := ho4421
        refine G_region ?_
        refine W_run 5 [(0, .slice p3 x1.length c4), (21, .int .i64 o4383), (25, .slice p4401 r4399.1.length c4402), (26, .slice p4406 r4399.2.1.length c4407), (27, .bool r4399.2.2), (151, .bool (o4383 != (r2664.1.length : Int)))] w4410 (by kernel_rfl) ?_
        rcases gx_bif hm with ⟨hc4423, hm⟩ | ⟨hc4423, hm⟩
        · refine W_known 151 true (by kernel_rfl) hc4423 ?_
          refine W_run 16 [(0, .slice p3 x1.length c4), (167, .bool true)] w4410 (by kernel_rfl) ?_
          refine W_nil ?_
          obtain rfl := Option.some.inj hm
          exact N_meet fun a ha => ⟨M4412.pick [] (by kernel_rfl), ha.sub (by kernel_rfl)⟩
        refine W_known 151 false (by kernel_rfl) hc4423 ?_
        refine W_run 4 [(0, .slice p3 x1.length c4), (21, .int .i64 o4383), (25, .slice p4401 r4399.1.length c4402), (26, .slice p4406 r4399.2.1.length c4407), (155, .bool (!r4399.2.2))] w4410 (by kernel_rfl) ?_
        rcases gx_bif hm with ⟨hc4424, hm⟩ | ⟨hc4424, hm⟩
        · refine W_known 155 true (by kernel_rfl) hc4424 ?_
          refine W_run 12 [(0, .slice p3 x1.length c4), (167, .bool true)] w4410 (by kernel_rfl) ?_
          refine W_nil ?_
          obtain rfl := Option.some.inj hm
          exact N_meet fun a ha => ⟨M4412.pick [] (by kernel_rfl), ha.sub (by kernel_rfl)⟩
        refine W_known 155 false (by kernel_rfl) hc4424 ?_
        refine W_run 1 [(0, .slice p3 x1.length c4), (21, .int .i64 o4383), (25, .slice p4401 r4399.1.length c4402), (26, .slice p4406 r4399.2.1.length c4407), (155, .bool false), (156, .slice p4406 r4399.2.1.length c4407)] w4410 (by kernel_rfl) ?_
        obtain ⟨r4425, hr4425, hm⟩ := gx_bind hm
        refine W_call 17 #[.slice p4406 r4399.2.1.length c4407] (by kernel_rfl) (by kernel_rfl) ?_
        refine (c_l_rSum w4410 r4399.2.1 p4406 c4407 (ho4409.rd M4412 2 (by kernel_rfl)) hr4425).mono ?_
        rintro e_ w4426 ⟨rfl, K4427⟩
        have M4428 := M4412.call0 K4427
        refine ⟨_, rfl, ?_⟩
        refine W_run 4 [(0, .slice p3 x1.length c4), (25, .slice p4401 r4399.1.length c4402), (26, .slice p4406 r4399.2.1.length c4407), (161, .bool (r4425 != o4383))] w4426 (by kernel_rfl) ?_
        rcases gx_bif hm with ⟨hc4429, hm⟩ | ⟨hc4429, hm⟩
        · refine W_known 161 true (by kernel_rfl) hc4429 ?_
          refine W_run 6 [(0, .slice p3 x1.length c4), (167, .bool true)] w4426 (by kernel_rfl) ?_
          refine W_nil ?_
          obtain rfl := Option.some.inj hm
          exact N_meet fun a ha => ⟨M4428.pick [] (by kernel_rfl), ha.sub (by kernel_rfl)⟩
        refine W_known 161 false (by kernel_rfl) hc4429 ?_
        refine W_run 6 [(0, .slice p3 x1.length c4), (167, .bool ((r4399.1.length : Int) != (r4399.2.1.length : Int)))] w4426 (by kernel_rfl) ?_
        refine W_nil ?_
        obtain rfl := Option.some.inj hm
        exact N_meet fun a ha => ⟨M4428.pick [] (by kernel_rfl), ha.sub (by kernel_rfl)⟩
      intro a4432 w4430 ⟨M4431, hS4433⟩
      refine N_use hS4433 ?_
      have hm := hm4422
      refine N_then ?_
      rcases gx_bif hm with ⟨hc4434, hm⟩ | ⟨hc4434, hm⟩
      · refine G_cond_t (b := o4420) hc4434 (by kernel_rfl) ?_
        refine G_seq ?_
        refine G_region ?_
        refine W_run 1 [(2, .bool false)] w4430 (by kernel_rfl) ?_
        refine W_nil ?_
        refine N_then ?_
        refine G_ret ?_
        refine N_meet_ret ?_
        obtain rfl := Option.some.inj hm
        have hm := hm4348
        simp only [Sum.elim_inr] at hm
        refine N_then_ret ?_
        obtain rfl := Option.some.inj hm
        refine N_ret [.bool false] (RVs_cons (RV_tmp (by kernel_rfl)) RVs_nil) ?_
        exact ⟨rfl, M4431.pick [] (by kernel_rfl)⟩
      refine G_cond_f (b := o4420) hc4434 (by kernel_rfl) ?_
      refine G_skip ?_
      obtain rfl := Option.some.inj hm
      exact N_meet fun a ha => ⟨_, rfl, M4431.pick [] (by kernel_rfl), ha.sub (by kernel_rfl)⟩
    refine G_cond_f (b := r3197.2) hc4350 (by kernel_rfl) ?_
    refine G_skip ?_
    obtain rfl := Option.some.inj hm
    exact N_meet fun a ha => ⟨_, rfl, M3628.pick [] (by kernel_rfl), ha.sub (by kernel_rfl)⟩
  intro a4437 w4435 ⟨o4346, hout_, M4436, hS4438⟩
  refine N_use hS4438 ?_
  subst hout_
  have hm := hm4348
  simp only [Sum.elim_inl] at hm
  refine N_then ?_
  refine G_seq ?_
  refine G_region ?_
  refine W_run 1 [(168, .slice p3 x1.length c4)] w4435 (by kernel_rfl) ?_
  obtain ⟨r4482, hr4482, hm⟩ := gx_bind hm
  refine W_call 18 #[.slice p3 x1.length c4] (by kernel_rfl) (by kernel_rfl) ?_
  refine (c_s_DrawCountKinds w4435 x1 p3 c4 (h5.mem0 M4436) hr4482).mono ?_
  rintro e_ w4488 ⟨p4484, c4485, sg4486, rfl, ho4487, K4489⟩
  have M4490 := M4436.call K4489
  refine ⟨_, rfl, ?_⟩
  refine W_run 1 [(28, .slice p4484 r4482.length c4485)] w4488 (by kernel_rfl) ?_
  refine W_nil ?_
  refine N_then ?_
  refine G_seq ?_
  refine G_region ?_
  refine W_run 1 [(28, .slice p4484 r4482.length c4485), (171, .slice p4484 r4482.length c4485)] w4488 (by kernel_rfl) ?_
  obtain ⟨r4491, hr4491, hm⟩ := gx_bind hm
  refine W_call 16 #[.slice p4484 r4482.length c4485] (by kernel_rfl) (by kernel_rfl) ?_
  refine (c_i_CountKinds w4488 r4482 p4484 c4485 (ho4487.rd M4490 0 (by kernel_rfl)) hr4491).mono ?_
  rintro e_ w4502 ⟨p4493, c4494, sg4495, p4498, c4499, sg4500, rfl, ho4496, ho4501, K4503⟩
  have M4504 := M4490.call K4503
  refine ⟨_, rfl, ?_⟩
  refine W_run 7 [(28, .slice p4484 r4482.length c4485), (29, .slice p4493 r4491.1.length c4494), (30, .slice p4498 r4491.2.1.length c4499), (31, .bool r4491.2.2)] w4502 (by kernel_rfl) ?_
  refine W_nil ?_
  refine N_then ?_
  refine G_seq ?_
  refine G_region ?_
  refine W_run 1 [(29, .slice p4493 r4491.1.length c4494), (30, .slice p4498 r4491.2.1.length c4499), (31, .bool r4491.2.2), (177, .slice p4484 r4482.length c4485)] w4502 (by kernel_rfl) ?_
  obtain ⟨r6378, hr6378, hm⟩ := gx_bind hm
  refine W_call 19 #[.slice p4484 r4482.length c4485] (by kernel_rfl) (by kernel_rfl) ?_
  refine (c_s_CountKinds w4502 r4482 p4484 c4485 (ho4487.rd M4504 0 (by kernel_rfl)) hr6378).mono ?_
  rintro e_ w6389 ⟨p6380, c6381, sg6382, p6385, c6386, sg6387, rfl, ho6383, ho6388, K6390⟩
  have M6391 := M4504.call K6390
  refine ⟨_, rfl, ?_⟩
  refine W_run 7 [(29, .slice p4493 r4491.1.length c4494), (30, .slice p4498 r4491.2.1.length c4499), (31, .bool r4491.2.2), (32, .slice p6380 r6378.1.length c6381), (33, .slice p6385 r6378.2.1.length c6386), (34, .bool r6378.2.2)] w6389 (by kernel_rfl) ?_
  refine W_nil ?_
  refine N_then ?_
  refine G_seq ?_
  obtain ⟨o6490, ho6491, hm6492⟩ := gx_bind hm
  refine G_meet (fun a w' => Mem [] w w' [] ∧ Sat Tryz.f3.ntmps [(2, .bool o6490)] a) ?_ ?_
  · have hm := ho6491
    refine G_region ?_
    refine W_run 4 [(29, .slice p4493 r4491.1.length c4494), (30, .slice p4498 r4491.2.1.length c4499), (32, .slice p6380 r6378.1.length c6381), (33, .slice p6385 r6378.2.1.length c6386), (185, .bool (r4491.2.2 == r6378.2.2))] w6389 (by kernel_rfl) ?_
    rcases gx_bif hm with ⟨hc6493, hm⟩ | ⟨hc6493, hm⟩
    · refine W_known 185 true (by kernel_rfl) hc6493 ?_
      refine W_run 2 [(30, .slice p4498 r4491.2.1.length c4499), (33, .slice p6385 r6378.2.1.length c6386), (185, .bool true), (186, .slice p4493 r4491.1.length c4494), (187, .slice p6380 r6378.1.length c6381)] w6389 (by kernel_rfl) ?_
      obtain ⟨r6494, hr6494, hm⟩ := gx_bind hm
      refine W_call 20 #[.slice p4493 r4491.1.length c4494, .slice p6380 r6378.1.length c6381] (by kernel_rfl) (by kernel_rfl) ?_
      refine (c_l_rTexts w6389 r4491.1 p4493 c4494 (ho4496.rd M6391 1 (by kernel_rfl)) r6378.1 p6380 c6381 (ho6383.rd M6391 3 (by kernel_rfl)) hr6494).mono ?_
      rintro e_ w6495 ⟨rfl, K6496⟩
      have M6497 := M6391.call0 K6496
      refine ⟨_, rfl, ?_⟩
      refine W_run 2 [(30, .slice p4498 r4491.2.1.length c4499), (33, .slice p6385 r6378.2.1.length c6386), (190, .bool r6494)] w6495 (by kernel_rfl) ?_
      rcases gx_bif hm with ⟨hc6498, hm⟩ | ⟨hc6498, hm⟩
      · refine W_known 190 true (by kernel_rfl) hc6498 ?_
        refine W_run 2 [(190, .bool true), (191, .slice p4498 r4491.2.1.length c4499), (192, .slice p6385 r6378.2.1.length c6386)] w6495 (by kernel_rfl) ?_
        obtain ⟨r6499, hr6499, hm⟩ := gx_bind hm
        refine W_call 21 #[.slice p4498 r4491.2.1.length c4499, .slice p6385 r6378.2.1.length c6386] (by kernel_rfl) (by kernel_rfl) ?_
        refine (c_l_rInts w6495 r4491.2.1 p4498 c4499 (ho4501.rd M6497 2 (by kernel_rfl)) r6378.2.1 p6385 c6386 (ho6388.rd M6497 4 (by kernel_rfl)) hr6499).mono ?_
        rintro e_ w6500 ⟨rfl, K6501⟩
        have M6502 := M6497.call0 K6501
        refine ⟨_, rfl, ?_⟩
        refine W_run 2 [(2, .bool r6499)] w6500 (by kernel_rfl) ?_
        refine W_nil ?_
        obtain rfl := Option.some.inj hm
        exact N_meet fun a ha => ⟨M6502.pick [] (by kernel_rfl), ha.sub (by kernel_rfl)⟩
      refine W_known 190 false (by kernel_rfl) hc6498 ?_
      refine W_run 5 [(2, .bool false)] w6495 (by kernel_rfl) ?_
      refine W_nil ?_
      obtain rfl := Option.some.inj hm
      exact N_meet fun a ha => ⟨M6497.pick [] (by kernel_rfl), ha.sub (by kernel_rfl)⟩
    refine W_known 185 false (by kernel_rfl) hc6493 ?_
    refine W_run 10 [(2, .bool false)] w6389 (by kernel_rfl) ?_
    refine W_nil ?_
    obtain rfl := Option.some.inj hm
    exact N_meet fun a ha => ⟨M6391.pick [] (by kernel_rfl), ha.sub (by kernel_rfl)⟩
  intro a6505 w6503 ⟨M6504, hS6506⟩
  refine N_use hS6506 ?_
  have hm := hm6492
  refine N_then ?_
  refine G_ret ?_
  obtain rfl := Option.some.inj hm
  refine N_ret [.bool o6490] (RVs_cons (RV_tmp (by kernel_rfl)) RVs_nil) ?_
  exact ⟨rfl, M6504.pick [] (by kernel_rfl)⟩
end Go.Proofs.YtimffallbjpcjaaGreatDoor
