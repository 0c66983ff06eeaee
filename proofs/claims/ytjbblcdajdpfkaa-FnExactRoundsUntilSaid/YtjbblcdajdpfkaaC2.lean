/- The walks, printed by program: whenever the model gives r, the call returns r. Part 2. -/
import Derived.Test.YtjbblcdajdpfkaaM
import Derived.Test.YtjbblcdajdpfkaaProg
import Derived.Test.YtjbblcdajdpfkaaC1
set_option linter.unusedVariables false
set_option maxRecDepth 100000
set_option maxHeartbeats 4000000
namespace Go.Proofs.Ytjbblcdajdpfkaa
open Go.Gx
theorem c_l_FnExactStartCopy (w : World) (x932 : List Int) (p934 : Option Addr) (c935 : Nat) (h936 : rdS encI w x932 p934 c935) {r : Bool} (hm : M.l_FnExactStartCopy x932 = some r) :
    Calls Try.prog 4 #[.slice p934 x932.length c935] w fun e w' => e = .returned (.bool r) ∧ Mem [] w w' [] := by
  unfold M.l_FnExactStartCopy at hm
  refine C_enter Try.func4 rfl (by kernel_rfl) ?_
  have M0 := Mem.refl [] w
  refine G_seq ?_
  refine G_region ?_
  refine W_run 1 [(0, .slice p934 x932.length c935)] w (by kernel_rfl) ?_
  refine W_nil ?_
  refine N_then ?_
  refine G_seq ?_
  refine G_seq ?_
  refine G_region ?_
  refine W_run 3 [(0, .slice p934 x932.length c935), (15, .bool (decide ((x932.length : Int) > 1048576)))] w (by kernel_rfl) ?_
  refine W_nil ?_
  refine N_then ?_
  rcases gx_bif hm with ⟨hc937, hm⟩ | ⟨hc937, hm⟩
  · refine G_cond_t (b := (decide ((x932.length : Int) > 1048576))) hc937 (by kernel_rfl) ?_
    refine G_seq ?_
    refine G_region ?_
    refine W_run 1 [(2, .bool true)] w (by kernel_rfl) ?_
    refine W_nil ?_
    refine N_then ?_
    refine G_ret ?_
    refine N_then_ret ?_
    obtain rfl := Option.some.inj hm
    refine N_ret [.bool true] (RVs_cons (RV_tmp (by kernel_rfl)) RVs_nil) ?_
    exact ⟨rfl, M0.pick [] (by kernel_rfl)⟩
  · refine G_cond_f (b := (decide ((x932.length : Int) > 1048576))) hc937 (by kernel_rfl) ?_
    refine G_skip ?_
    refine N_then ?_
    refine G_seq ?_
    refine G_region ?_
    refine W_run 1 [(0, .slice p934 x932.length c935), (17, .slice p934 x932.length c935)] w (by kernel_rfl) ?_
    obtain ⟨r938, hr938, hm⟩ := gx_bind hm
    refine W_call 19 #[.slice p934 x932.length c935] (by kernel_rfl) (by kernel_rfl) ?_
    refine (c_l_toIntS w x932 p934 c935 (h936.mem0 M0) hr938).mono ?_
    rintro e_ w944 ⟨p940, c941, sg942, rfl, ho943, K945⟩
    have M946 := M0.call K945
    refine ⟨_, rfl, ?_⟩
    obtain ⟨r1157, hr1157, hm⟩ := gx_bind hm
    refine W_call 18 #[.slice p940 r938.length c941] (by kernel_rfl) (by kernel_rfl) ?_
    refine (c_s_StartCopy w944 r938 p940 c941 (ho943.rd M946 0 (by kernel_rfl)) hr1157).mono ?_
    rintro e_ w1173 ⟨p1159, c1160, sg1161, p1164, c1165, sg1166, p1169, c1170, sg1171, rfl, ho1162, ho1167, ho1172, K1174⟩
    have M1175 := M946.call K1174
    refine ⟨_, rfl, ?_⟩
    refine W_run 3 [(0, .slice p934 x932.length c935), (20, .agg #[.slice p1159 r1157.1.Memory.length c1160, .slice p1164 r1157.1.Copy.length c1165, .slice p1169 r1157.1.Dirty.length c1170]), (21, .bool r1157.2)] w1173 (by kernel_rfl) ?_
    refine W_new (fun b => .pointer (some ⟨b, 0, none⟩)) (.cells ⟨[.slice none 0 0, .slice none 0 0, .slice none 0 0]⟩ 28 (0, 0)) M1175 rfl (by kernel_rfl) (by kernel_rfl) ?_
    intro b1180 w1181 M1182
    refine W_store _ _ _ true 3 b1180 0 [.slice none 0 0, .slice none 0 0, .slice none 0 0] 28 (.agg #[.slice p1159 r1157.1.Memory.length c1160, .slice p1164 r1157.1.Copy.length c1165, .slice p1169 r1157.1.Dirty.length c1170]) 4 [.slice p1159 r1157.1.Memory.length c1160, .slice p1164 r1157.1.Copy.length c1165, .slice p1169 r1157.1.Dirty.length c1170] M1182 (by kernel_rfl) rfl (by kernel_rfl) (by kernel_rfl) (by kernel_rfl) (by kernel_rfl) (by kernel_rfl) (by kernel_rfl) (by kernel_rfl) (by kernel_rfl) ?_
    intro w1183 M1184
    refine W_run 1 [(0, .slice p934 x932.length c935), (3, .pointer (some ⟨b1180, 0, none⟩)), (4, .bool r1157.2)] w1183 (by kernel_rfl) ?_
    refine W_nil ?_
    refine N_then ?_
    refine G_seq ?_
    refine G_region ?_
    refine W_run 1 [(0, .slice p934 x932.length c935), (3, .pointer (some ⟨b1180, 0, none⟩)), (4, .bool r1157.2), (22, .slice p934 x932.length c935)] w1183 (by kernel_rfl) ?_
    obtain ⟨r1185, hr1185, hm⟩ := gx_bind hm
    refine W_call 19 #[.slice p934 x932.length c935] (by kernel_rfl) (by kernel_rfl) ?_
    refine (c_l_toIntS w1183 x932 p934 c935 (h936.mem0 M1184) hr1185).mono ?_
    rintro e_ w1191 ⟨p1187, c1188, sg1189, rfl, ho1190, K1192⟩
    have M1193 := M1184.call K1192
    refine ⟨_, rfl, ?_⟩
    refine W_run 1 [(0, .slice p934 x932.length c935), (3, .pointer (some ⟨b1180, 0, none⟩)), (4, .bool r1157.2), (5, .slice p1187 r1185.length c1188)] w1191 (by kernel_rfl) ?_
    refine W_nil ?_
    refine N_then ?_
    refine G_seq ?_
    refine G_region ?_
    refine W_run 1 [(0, .slice p934 x932.length c935), (3, .pointer (some ⟨b1180, 0, none⟩)), (4, .bool r1157.2), (5, .slice p1187 r1185.length c1188), (25, .slice p1187 r1185.length c1188)] w1191 (by kernel_rfl) ?_
    obtain ⟨r1404, hr1404, hm⟩ := gx_bind hm
    refine W_call 20 #[.slice p1187 r1185.length c1188] (by kernel_rfl) (by kernel_rfl) ?_
    refine (c_i_StartCopy w1191 r1185 p1187 c1188 (ho1190.rd M1193 5 (by kernel_rfl)) hr1404).mono ?_
    rintro e_ w1420 ⟨p1406, c1407, sg1408, p1411, c1412, sg1413, p1416, c1417, sg1418, rfl, ho1409, ho1414, ho1419, K1421⟩
    have M1422 := M1193.call K1421
    refine ⟨_, rfl, ?_⟩
    refine W_run 3 [(0, .slice p934 x932.length c935), (3, .pointer (some ⟨b1180, 0, none⟩)), (4, .bool r1157.2), (5, .slice p1187 r1185.length c1188), (27, .agg #[.slice p1406 r1404.1.Memory.length c1407, .slice p1411 r1404.1.Copy.length c1412, .slice p1416 r1404.1.Dirty.length c1417]), (28, .bool r1404.2)] w1420 (by kernel_rfl) ?_
    refine W_new (fun b => .pointer (some ⟨b, 0, none⟩)) (.cells ⟨[.slice none 0 0, .slice none 0 0, .slice none 0 0]⟩ 28 (0, 0)) M1422 rfl (by kernel_rfl) (by kernel_rfl) ?_
    intro b1427 w1428 M1429
    refine W_store _ _ _ true 3 b1427 0 [.slice none 0 0, .slice none 0 0, .slice none 0 0] 28 (.agg #[.slice p1406 r1404.1.Memory.length c1407, .slice p1411 r1404.1.Copy.length c1412, .slice p1416 r1404.1.Dirty.length c1417]) 9 [.slice p1406 r1404.1.Memory.length c1407, .slice p1411 r1404.1.Copy.length c1412, .slice p1416 r1404.1.Dirty.length c1417] M1429 (by kernel_rfl) rfl (by kernel_rfl) (by kernel_rfl) (by kernel_rfl) (by kernel_rfl) (by kernel_rfl) (by kernel_rfl) (by kernel_rfl) (by kernel_rfl) ?_
    intro w1430 M1431
    refine W_run 1 [(0, .slice p934 x932.length c935), (3, .pointer (some ⟨b1180, 0, none⟩)), (4, .bool r1157.2), (5, .slice p1187 r1185.length c1188), (6, .pointer (some ⟨b1427, 0, none⟩)), (7, .bool r1404.2)] w1430 (by kernel_rfl) ?_
    refine W_nil ?_
    refine N_then ?_
    refine G_seq ?_
    refine G_seq ?_
    obtain ⟨o1437, ho1438, hm1439⟩ := gx_bind hm
    refine G_meet (fun a w' => Mem [] w w' [sg1161, sg1166, sg1171, [(b1180, .cells ⟨[.slice p1159 r1157.1.Memory.length c1160, .slice p1164 r1157.1.Copy.length c1165, .slice p1169 r1157.1.Dirty.length c1170]⟩ 28 (0, 0))], sg1189, sg1408, sg1413, sg1418, [(b1427, .cells ⟨[.slice p1406 r1404.1.Memory.length c1407, .slice p1411 r1404.1.Copy.length c1412, .slice p1416 r1404.1.Dirty.length c1417]⟩ 28 (0, 0))]] ∧ Sat Try.f4.ntmps [(0, .slice p934 x932.length c935), (3, .pointer (some ⟨b1180, 0, none⟩)), (4, .bool r1157.2), (5, .slice p1187 r1185.length c1188), (6, .pointer (some ⟨b1427, 0, none⟩)), (7, .bool r1404.2), (37, .bool o1437)] a) ?_ ?_
    · have hm := ho1438
      refine G_region ?_
      refine W_val (.agg #[.slice p1406 r1404.1.Memory.length c1407, .slice p1411 r1404.1.Copy.length c1412, .slice p1416 r1404.1.Dirty.length c1417]) w1430 (by kernel_rfl) (E_load (e := 28) (fr := (0, 0)) _ _ true 3 b1427 0 [.slice p1406 r1404.1.Memory.length c1407, .slice p1411 r1404.1.Copy.length c1412, .slice p1416 r1404.1.Dirty.length c1417] (.agg #[.slice p1406 r1404.1.Memory.length c1407, .slice p1411 r1404.1.Copy.length c1412, .slice p1416 r1404.1.Dirty.length c1417]) rfl (by kernel_rfl) (by kernel_rfl) (by kernel_rfl) (M1431.blk 9 (b := b1427) (o := .cells ⟨[.slice p1406 r1404.1.Memory.length c1407, .slice p1411 r1404.1.Copy.length c1412, .slice p1416 r1404.1.Dirty.length c1417]⟩ 28 (0, 0)) (by kernel_rfl))) ?_
      refine W_val (.agg #[.slice p1159 r1157.1.Memory.length c1160, .slice p1164 r1157.1.Copy.length c1165, .slice p1169 r1157.1.Dirty.length c1170]) w1430 (by kernel_rfl) (E_load (e := 28) (fr := (0, 0)) _ _ true 3 b1180 0 [.slice p1159 r1157.1.Memory.length c1160, .slice p1164 r1157.1.Copy.length c1165, .slice p1169 r1157.1.Dirty.length c1170] (.agg #[.slice p1159 r1157.1.Memory.length c1160, .slice p1164 r1157.1.Copy.length c1165, .slice p1169 r1157.1.Dirty.length c1170]) rfl (by kernel_rfl) (by kernel_rfl) (by kernel_rfl) (M1431.blk 4 (b := b1180) (o := .cells ⟨[.slice p1159 r1157.1.Memory.length c1160, .slice p1164 r1157.1.Copy.length c1165, .slice p1169 r1157.1.Dirty.length c1170]⟩ 28 (0, 0)) (by kernel_rfl))) ?_
      obtain ⟨r1440, hr1440, hm⟩ := gx_bind hm
      refine W_call 17 #[.agg #[.slice p1406 r1404.1.Memory.length c1407, .slice p1411 r1404.1.Copy.length c1412, .slice p1416 r1404.1.Dirty.length c1417], .agg #[.slice p1159 r1157.1.Memory.length c1160, .slice p1164 r1157.1.Copy.length c1165, .slice p1169 r1157.1.Dirty.length c1170]] (by kernel_rfl) (by kernel_rfl) ?_
      refine (c_l_eqCopying w1430 r1404.1 p1406 c1407 (ho1409.rd M1431 6 (by kernel_rfl)) p1411 c1412 (ho1414.rd M1431 7 (by kernel_rfl)) p1416 c1417 (ho1419.rd M1431 8 (by kernel_rfl)) r1157.1 p1159 c1160 (ho1162.rd M1431 1 (by kernel_rfl)) p1164 c1165 (ho1167.rd M1431 2 (by kernel_rfl)) p1169 c1170 (ho1172.rd M1431 3 (by kernel_rfl)) hr1440).mono ?_
      rintro e_ w1441 ⟨rfl, K1442⟩
      have M1443 := M1431.call0 K1442
      refine ⟨_, rfl, ?_⟩
      refine W_run 2 [(0, .slice p934 x932.length c935), (3, .pointer (some ⟨b1180, 0, none⟩)), (4, .bool r1157.2), (5, .slice p1187 r1185.length c1188), (6, .pointer (some ⟨b1427, 0, none⟩)), (7, .bool r1404.2), (33, .bool (!r1440))] w1441 (by kernel_rfl) ?_
      rcases gx_bif hm with ⟨hc1444, hm⟩ | ⟨hc1444, hm⟩
      · refine W_known 33 true (by kernel_rfl) hc1444 ?_
        refine W_run 4 [(0, .slice p934 x932.length c935), (3, .pointer (some ⟨b1180, 0, none⟩)), (4, .bool r1157.2), (5, .slice p1187 r1185.length c1188), (6, .pointer (some ⟨b1427, 0, none⟩)), (7, .bool r1404.2), (37, .bool true)] w1441 (by kernel_rfl) ?_
        refine W_nil ?_
        obtain rfl := Option.some.inj hm
        exact N_meet fun a ha => ⟨M1443.pick [1, 2, 3, 4, 5, 6, 7, 8, 9] (by kernel_rfl), ha.sub (by kernel_rfl)⟩
      · refine W_known 33 false (by kernel_rfl) hc1444 ?_
        refine W_run 4 [(0, .slice p934 x932.length c935), (3, .pointer (some ⟨b1180, 0, none⟩)), (4, .bool r1157.2), (5, .slice p1187 r1185.length c1188), (6, .pointer (some ⟨b1427, 0, none⟩)), (7, .bool r1404.2), (37, .bool (!(r1404.2 == r1157.2)))] w1441 (by kernel_rfl) ?_
        refine W_nil ?_
        obtain rfl := Option.some.inj hm
        exact N_meet fun a ha => ⟨M1443.pick [1, 2, 3, 4, 5, 6, 7, 8, 9] (by kernel_rfl), ha.sub (by kernel_rfl)⟩
    · intro a1447 w1445 ⟨M1446, hS1448⟩
      refine N_use hS1448 ?_
      have hm := hm1439
      refine N_then ?_
      rcases gx_bif hm with ⟨hc1449, hm⟩ | ⟨hc1449, hm⟩
      · refine G_cond_t (b := o1437) hc1449 (by kernel_rfl) ?_
        refine G_seq ?_
        refine G_region ?_
        refine W_run 1 [(2, .bool false)] w1445 (by kernel_rfl) ?_
        refine W_nil ?_
        refine N_then ?_
        refine G_ret ?_
        refine N_then_ret ?_
        obtain rfl := Option.some.inj hm
        refine N_ret [.bool false] (RVs_cons (RV_tmp (by kernel_rfl)) RVs_nil) ?_
        exact ⟨rfl, M1446.pick [] (by kernel_rfl)⟩
      · refine G_cond_f (b := o1437) hc1449 (by kernel_rfl) ?_
        refine G_skip ?_
        refine N_then ?_
        refine G_seq ?_
        refine G_seq ?_
        refine G_region ?_
        refine W_run 2 [(0, .slice p934 x932.length c935), (3, .pointer (some ⟨b1180, 0, none⟩)), (4, .bool r1157.2), (5, .slice p1187 r1185.length c1188), (6, .pointer (some ⟨b1427, 0, none⟩)), (7, .bool r1404.2), (38, .slice p1187 r1185.length c1188), (39, .slice p934 x932.length c935)] w1445 (by kernel_rfl) ?_
        obtain ⟨r1450, hr1450, hm⟩ := gx_bind hm
        refine W_call 19 #[.slice p934 x932.length c935] (by kernel_rfl) (by kernel_rfl) ?_
        refine (c_l_toIntS w1445 x932 p934 c935 (h936.mem0 M1446) hr1450).mono ?_
        rintro e_ w1456 ⟨p1452, c1453, sg1454, rfl, ho1455, K1457⟩
        have M1458 := M1446.call K1457
        refine ⟨_, rfl, ?_⟩
        obtain ⟨r1459, hr1459, hm⟩ := gx_bind hm
        refine W_call 21 #[.slice p1187 r1185.length c1188, .slice p1452 r1450.length c1453] (by kernel_rfl) (by kernel_rfl) ?_
        refine (c_l_eqIntS w1456 r1185 p1187 c1188 (ho1190.rd M1458 4 (by kernel_rfl)) r1450 p1452 c1453 (ho1455.rd M1458 9 (by kernel_rfl)) hr1459).mono ?_
        rintro e_ w1460 ⟨rfl, K1461⟩
        have M1462 := M1458.call0 K1461
        refine ⟨_, rfl, ?_⟩
        refine W_run 1 [(0, .slice p934 x932.length c935), (3, .pointer (some ⟨b1180, 0, none⟩)), (4, .bool r1157.2), (5, .slice p1187 r1185.length c1188), (6, .pointer (some ⟨b1427, 0, none⟩)), (7, .bool r1404.2), (42, .bool (!r1459))] w1460 (by kernel_rfl) ?_
        refine W_nil ?_
        refine N_then ?_
        rcases gx_bif hm with ⟨hc1463, hm⟩ | ⟨hc1463, hm⟩
        · refine G_cond_t (b := (!r1459)) hc1463 (by kernel_rfl) ?_
          refine G_seq ?_
          refine G_region ?_
          refine W_run 1 [(2, .bool false)] w1460 (by kernel_rfl) ?_
          refine W_nil ?_
          refine N_then ?_
          refine G_ret ?_
          refine N_then_ret ?_
          obtain rfl := Option.some.inj hm
          refine N_ret [.bool false] (RVs_cons (RV_tmp (by kernel_rfl)) RVs_nil) ?_
          exact ⟨rfl, M1462.pick [] (by kernel_rfl)⟩
        · refine G_cond_f (b := (!r1459)) hc1463 (by kernel_rfl) ?_
          refine G_skip ?_
          refine N_then ?_
          refine G_seq ?_
          refine G_region ?_
          refine W_run 1 [(0, .slice p934 x932.length c935), (3, .pointer (some ⟨b1180, 0, none⟩)), (4, .bool r1157.2), (5, .slice p1187 r1185.length c1188), (6, .pointer (some ⟨b1427, 0, none⟩)), (7, .bool r1404.2), (8, .int .i64 1)] w1460 (by kernel_rfl) ?_
          refine W_nil ?_
          refine N_then ?_
          refine G_seq ?_
          refine G_region ?_
          refine W_run 2 [(0, .slice p934 x932.length c935), (3, .pointer (some ⟨b1180, 0, none⟩)), (4, .bool r1157.2), (6, .pointer (some ⟨b1427, 0, none⟩)), (7, .bool r1404.2), (8, .int .i64 1), (43, .slice p1187 r1185.length c1188), (44, .int .i64 1)] w1460 (by kernel_rfl) ?_
          obtain ⟨r1514, hr1514, hm⟩ := gx_bind hm
          refine W_call 22 #[.slice p1187 r1185.length c1188, .int .i64 1] (by kernel_rfl) (by kernel_rfl) ?_
          refine (c_l_markIntS w1460 r1185 p1187 c1188 sg1189 ho1190 1 (M1462.hasPick [4]) (M1462.nodupPick [4] (by kernel_rfl)) hr1514).mono ?_
          rintro e_ w1518 ⟨sg1515, rfl, ho1516, hl1517, K1519⟩
          have M1520 := M1462.callF' [4] [0, 1, 2, 3, 5, 6, 7, 8, 9] (by kernel_rfl) K1519
          refine ⟨_, rfl, ?_⟩
          refine W_conv 43 (.slice p1187 r1185.length c1188) (.slice p1187 r1514.2.length c1188) (by kernel_rfl) (by first | rw [hl1517] | rw [hl1517]) ?_
          refine W_run 1 [(0, .slice p934 x932.length c935), (3, .pointer (some ⟨b1180, 0, none⟩)), (4, .bool r1157.2), (6, .pointer (some ⟨b1427, 0, none⟩)), (7, .bool r1404.2), (8, .int .i64 r1514.1)] w1518 (by kernel_rfl) ?_
          refine W_nil ?_
          refine N_then ?_
          refine G_seq ?_
          refine G_seq ?_
          obtain ⟨o1527, ho1528, hm1529⟩ := gx_bind hm
          refine G_meet (fun a w' => Mem [] w w' [sg1161, sg1166, sg1171, [(b1180, .cells ⟨[.slice p1159 r1157.1.Memory.length c1160, .slice p1164 r1157.1.Copy.length c1165, .slice p1169 r1157.1.Dirty.length c1170]⟩ 28 (0, 0))], sg1408, sg1413, sg1418, [(b1427, .cells ⟨[.slice p1406 r1404.1.Memory.length c1407, .slice p1411 r1404.1.Copy.length c1412, .slice p1416 r1404.1.Dirty.length c1417]⟩ 28 (0, 0))]] ∧ Sat Try.f4.ntmps [(0, .slice p934 x932.length c935), (3, .pointer (some ⟨b1180, 0, none⟩)), (4, .bool r1157.2), (6, .pointer (some ⟨b1427, 0, none⟩)), (58, .bool o1527)] a) ?_ ?_
          · have hm := ho1528
            refine G_region ?_
            refine W_run 3 [(0, .slice p934 x932.length c935), (3, .pointer (some ⟨b1180, 0, none⟩)), (4, .bool r1157.2), (6, .pointer (some ⟨b1427, 0, none⟩)), (7, .bool r1404.2), (48, .bool (decide (r1514.1 < 0)))] w1518 (by kernel_rfl) ?_
            rcases gx_bif hm with ⟨hc1530, hm⟩ | ⟨hc1530, hm⟩
            · refine W_known 48 true (by kernel_rfl) hc1530 ?_
              refine W_run 10 [(0, .slice p934 x932.length c935), (3, .pointer (some ⟨b1180, 0, none⟩)), (4, .bool r1157.2), (6, .pointer (some ⟨b1427, 0, none⟩)), (58, .bool true)] w1518 (by kernel_rfl) ?_
              refine W_nil ?_
              obtain rfl := Option.some.inj hm
              exact N_meet fun a ha => ⟨M1520.pick [0, 1, 2, 3, 4, 5, 6, 7] (by kernel_rfl), ha.sub (by kernel_rfl)⟩
            · refine W_known 48 false (by kernel_rfl) hc1530 ?_
              refine W_val (.agg #[.slice p1406 r1404.1.Memory.length c1407, .slice p1411 r1404.1.Copy.length c1412, .slice p1416 r1404.1.Dirty.length c1417]) w1518 (by kernel_rfl) (E_load (e := 28) (fr := (0, 0)) _ _ true 3 b1427 0 [.slice p1406 r1404.1.Memory.length c1407, .slice p1411 r1404.1.Copy.length c1412, .slice p1416 r1404.1.Dirty.length c1417] (.agg #[.slice p1406 r1404.1.Memory.length c1407, .slice p1411 r1404.1.Copy.length c1412, .slice p1416 r1404.1.Dirty.length c1417]) rfl (by kernel_rfl) (by kernel_rfl) (by kernel_rfl) (M1520.blk 7 (b := b1427) (o := .cells ⟨[.slice p1406 r1404.1.Memory.length c1407, .slice p1411 r1404.1.Copy.length c1412, .slice p1416 r1404.1.Dirty.length c1417]⟩ 28 (0, 0)) (by kernel_rfl))) ?_
              refine W_val (.agg #[.slice p1159 r1157.1.Memory.length c1160, .slice p1164 r1157.1.Copy.length c1165, .slice p1169 r1157.1.Dirty.length c1170]) w1518 (by kernel_rfl) (E_load (e := 28) (fr := (0, 0)) _ _ true 3 b1180 0 [.slice p1159 r1157.1.Memory.length c1160, .slice p1164 r1157.1.Copy.length c1165, .slice p1169 r1157.1.Dirty.length c1170] (.agg #[.slice p1159 r1157.1.Memory.length c1160, .slice p1164 r1157.1.Copy.length c1165, .slice p1169 r1157.1.Dirty.length c1170]) rfl (by kernel_rfl) (by kernel_rfl) (by kernel_rfl) (M1520.blk 3 (b := b1180) (o := .cells ⟨[.slice p1159 r1157.1.Memory.length c1160, .slice p1164 r1157.1.Copy.length c1165, .slice p1169 r1157.1.Dirty.length c1170]⟩ 28 (0, 0)) (by kernel_rfl))) ?_
              obtain ⟨r1531, hr1531, hm⟩ := gx_bind hm
              refine W_call 17 #[.agg #[.slice p1406 r1404.1.Memory.length c1407, .slice p1411 r1404.1.Copy.length c1412, .slice p1416 r1404.1.Dirty.length c1417], .agg #[.slice p1159 r1157.1.Memory.length c1160, .slice p1164 r1157.1.Copy.length c1165, .slice p1169 r1157.1.Dirty.length c1170]] (by kernel_rfl) (by kernel_rfl) ?_
              refine (c_l_eqCopying w1518 r1404.1 p1406 c1407 (ho1409.rd M1520 4 (by kernel_rfl)) p1411 c1412 (ho1414.rd M1520 5 (by kernel_rfl)) p1416 c1417 (ho1419.rd M1520 6 (by kernel_rfl)) r1157.1 p1159 c1160 (ho1162.rd M1520 0 (by kernel_rfl)) p1164 c1165 (ho1167.rd M1520 1 (by kernel_rfl)) p1169 c1170 (ho1172.rd M1520 2 (by kernel_rfl)) hr1531).mono ?_
              rintro e_ w1532 ⟨rfl, K1533⟩
              have M1534 := M1520.call0 K1533
              refine ⟨_, rfl, ?_⟩
              refine W_run 3 [(0, .slice p934 x932.length c935), (3, .pointer (some ⟨b1180, 0, none⟩)), (4, .bool r1157.2), (6, .pointer (some ⟨b1427, 0, none⟩)), (7, .bool r1404.2), (54, .bool (!r1531))] w1532 (by kernel_rfl) ?_
              rcases gx_bif hm with ⟨hc1535, hm⟩ | ⟨hc1535, hm⟩
              · refine W_known 54 true (by kernel_rfl) hc1535 ?_
                refine W_run 4 [(0, .slice p934 x932.length c935), (3, .pointer (some ⟨b1180, 0, none⟩)), (4, .bool r1157.2), (6, .pointer (some ⟨b1427, 0, none⟩)), (58, .bool true)] w1532 (by kernel_rfl) ?_
                refine W_nil ?_
                obtain rfl := Option.some.inj hm
                exact N_meet fun a ha => ⟨M1534.pick [0, 1, 2, 3, 4, 5, 6, 7] (by kernel_rfl), ha.sub (by kernel_rfl)⟩
              · refine W_known 54 false (by kernel_rfl) hc1535 ?_
                refine W_run 4 [(0, .slice p934 x932.length c935), (3, .pointer (some ⟨b1180, 0, none⟩)), (4, .bool r1157.2), (6, .pointer (some ⟨b1427, 0, none⟩)), (58, .bool (!(r1404.2 == r1157.2)))] w1532 (by kernel_rfl) ?_
                refine W_nil ?_
                obtain rfl := Option.some.inj hm
                exact N_meet fun a ha => ⟨M1534.pick [0, 1, 2, 3, 4, 5, 6, 7] (by kernel_rfl), ha.sub (by kernel_rfl)⟩
          · intro a1538 w1536 ⟨M1537, hS1539⟩
            refine N_use hS1539 ?_
            have hm := hm1529
            refine N_then ?_
            rcases gx_bif hm with ⟨hc1540, hm⟩ | ⟨hc1540, hm⟩
            · refine G_cond_t (b := o1527) hc1540 (by kernel_rfl) ?_
              refine G_seq ?_
              refine G_region ?_
              refine W_run 1 [(2, .bool false)] w1536 (by kernel_rfl) ?_
              refine W_nil ?_
              refine N_then ?_
              refine G_ret ?_
              refine N_then_ret ?_
              obtain rfl := Option.some.inj hm
              refine N_ret [.bool false] (RVs_cons (RV_tmp (by kernel_rfl)) RVs_nil) ?_
              exact ⟨rfl, M1537.pick [] (by kernel_rfl)⟩
            · refine G_cond_f (b := o1527) hc1540 (by kernel_rfl) ?_
              refine G_skip ?_
              refine N_then ?_
              refine G_seq ?_
              refine G_region ?_
              refine W_run 1 [(0, .slice p934 x932.length c935), (3, .pointer (some ⟨b1180, 0, none⟩)), (4, .bool r1157.2), (6, .pointer (some ⟨b1427, 0, none⟩)), (9, .int .i64 1)] w1536 (by kernel_rfl) ?_
              refine W_nil ?_
              refine N_then ?_
              refine G_seq ?_
              refine G_region ?_
              refine W_val (.agg #[.slice p1406 r1404.1.Memory.length c1407, .slice p1411 r1404.1.Copy.length c1412, .slice p1416 r1404.1.Dirty.length c1417]) w1536 (by kernel_rfl) (E_load (e := 28) (fr := (0, 0)) _ _ true 3 b1427 0 [.slice p1406 r1404.1.Memory.length c1407, .slice p1411 r1404.1.Copy.length c1412, .slice p1416 r1404.1.Dirty.length c1417] (.agg #[.slice p1406 r1404.1.Memory.length c1407, .slice p1411 r1404.1.Copy.length c1412, .slice p1416 r1404.1.Dirty.length c1417]) rfl (by kernel_rfl) (by kernel_rfl) (by kernel_rfl) (M1537.blk 7 (b := b1427) (o := .cells ⟨[.slice p1406 r1404.1.Memory.length c1407, .slice p1411 r1404.1.Copy.length c1412, .slice p1416 r1404.1.Dirty.length c1417]⟩ 28 (0, 0)) (by kernel_rfl))) ?_
              refine W_run 1 [(0, .slice p934 x932.length c935), (3, .pointer (some ⟨b1180, 0, none⟩)), (4, .bool r1157.2), (6, .pointer (some ⟨b1427, 0, none⟩)), (9, .int .i64 1), (59, .agg #[.slice p1406 r1404.1.Memory.length c1407, .slice p1411 r1404.1.Copy.length c1412, .slice p1416 r1404.1.Dirty.length c1417]), (60, .int .i64 1)] w1536 (by kernel_rfl) ?_
              obtain ⟨r1639, hr1639, hm⟩ := gx_bind hm
              refine W_call 23 #[.agg #[.slice p1406 r1404.1.Memory.length c1407, .slice p1411 r1404.1.Copy.length c1412, .slice p1416 r1404.1.Dirty.length c1417], .int .i64 1] (by kernel_rfl) (by kernel_rfl) ?_
              refine (c_l_markCopying w1536 r1404.1 p1406 c1407 sg1408 ho1409 p1411 c1412 sg1413 ho1414 p1416 c1417 sg1418 ho1419 1 (M1537.hasPick [4, 5, 6]) (M1537.nodupPick [4, 5, 6] (by kernel_rfl)) hr1639).mono ?_
              rintro e_ w1649 ⟨sg1640, sg1643, sg1646, rfl, ho1641, hl1642, ho1644, hl1645, ho1647, hl1648, K1650⟩
              have M1651 := M1537.callF' [4, 5, 6] [0, 1, 2, 3, 7] (by kernel_rfl) K1650
              refine ⟨_, rfl, ?_⟩
              refine W_conv 59 (.agg #[.slice p1406 r1404.1.Memory.length c1407, .slice p1411 r1404.1.Copy.length c1412, .slice p1416 r1404.1.Dirty.length c1417]) (.agg #[.slice p1406 r1639.2.1.length c1407, .slice p1411 r1639.2.2.1.length c1412, .slice p1416 r1639.2.2.2.length c1417]) (by kernel_rfl) (by first | rw [hl1642, hl1645, hl1648] | rw [hl1642] | rw [hl1645] | rw [hl1648]) ?_
              have M1652 : Mem [] w w1649 [sg1161, sg1166, sg1171, [(b1180, .cells ⟨[.slice p1159 r1157.1.Memory.length c1160, .slice p1164 r1157.1.Copy.length c1165, .slice p1169 r1157.1.Dirty.length c1170]⟩ 28 (0, 0))], [(b1427, .cells ⟨[.slice p1406 r1639.2.1.length c1407, .slice p1411 r1639.2.2.1.length c1412, .slice p1416 r1639.2.2.2.length c1417]⟩ 28 (0, 0))], sg1640, sg1643, sg1646] := by rw [hl1642, hl1645, hl1648]; exact M1651
              refine W_run 1 [(0, .slice p934 x932.length c935), (3, .pointer (some ⟨b1180, 0, none⟩)), (4, .bool r1157.2), (6, .pointer (some ⟨b1427, 0, none⟩)), (9, .int .i64 r1639.1)] w1649 (by kernel_rfl) ?_
              refine W_nil ?_
              refine N_then ?_
              refine G_seq ?_
              refine G_region ?_
              refine W_run 1 [(0, .slice p934 x932.length c935), (3, .pointer (some ⟨b1180, 0, none⟩)), (4, .bool r1157.2), (6, .pointer (some ⟨b1427, 0, none⟩)), (9, .int .i64 r1639.1), (10, .int .i64 1)] w1649 (by kernel_rfl) ?_
              refine W_nil ?_
              refine N_then ?_
              refine G_seq ?_
              refine G_region ?_
              refine W_val (.agg #[.slice p1406 r1639.2.1.length c1407, .slice p1411 r1639.2.2.1.length c1412, .slice p1416 r1639.2.2.2.length c1417]) w1649 (by kernel_rfl) (E_load (e := 28) (fr := (0, 0)) _ _ true 3 b1427 0 [.slice p1406 r1639.2.1.length c1407, .slice p1411 r1639.2.2.1.length c1412, .slice p1416 r1639.2.2.2.length c1417] (.agg #[.slice p1406 r1639.2.1.length c1407, .slice p1411 r1639.2.2.1.length c1412, .slice p1416 r1639.2.2.2.length c1417]) rfl (by kernel_rfl) (by kernel_rfl) (by kernel_rfl) (M1652.blk 4 (b := b1427) (o := .cells ⟨[.slice p1406 r1639.2.1.length c1407, .slice p1411 r1639.2.2.1.length c1412, .slice p1416 r1639.2.2.2.length c1417]⟩ 28 (0, 0)) (by kernel_rfl))) ?_
              refine W_run 1 [(0, .slice p934 x932.length c935), (3, .pointer (some ⟨b1180, 0, none⟩)), (4, .bool r1157.2), (6, .pointer (some ⟨b1427, 0, none⟩)), (9, .int .i64 r1639.1), (10, .int .i64 1), (62, .agg #[.slice p1406 r1639.2.1.length c1407, .slice p1411 r1639.2.2.1.length c1412, .slice p1416 r1639.2.2.2.length c1417]), (63, .int .i64 1)] w1649 (by kernel_rfl) ?_
              obtain ⟨r1746, hr1746, hm⟩ := gx_bind hm
              refine W_call 24 #[.agg #[.slice p1406 r1639.2.1.length c1407, .slice p1411 r1639.2.2.1.length c1412, .slice p1416 r1639.2.2.2.length c1417], .int .i64 1] (by kernel_rfl) (by kernel_rfl) ?_
              refine (c_l_heldCopying w1649 (⟨r1639.2.1, r1639.2.2.1, r1639.2.2.2⟩ : Copying) p1406 c1407 (ho1641.rd M1652 5 (by kernel_rfl)) p1411 c1412 (ho1644.rd M1652 6 (by kernel_rfl)) p1416 c1417 (ho1647.rd M1652 7 (by kernel_rfl)) 1 hr1746).mono ?_
              rintro e_ w1747 ⟨rfl, K1748⟩
              have M1749 := M1652.call0 K1748
              refine ⟨_, rfl, ?_⟩
              refine W_run 1 [(0, .slice p934 x932.length c935), (3, .pointer (some ⟨b1180, 0, none⟩)), (4, .bool r1157.2), (6, .pointer (some ⟨b1427, 0, none⟩)), (9, .int .i64 r1639.1), (10, .int .i64 r1746)] w1747 (by kernel_rfl) ?_
              refine W_nil ?_
              refine N_then ?_
              refine G_seq ?_
              refine G_seq ?_
              refine G_region ?_
              refine W_run 2 [(0, .slice p934 x932.length c935), (3, .pointer (some ⟨b1180, 0, none⟩)), (4, .bool r1157.2), (6, .pointer (some ⟨b1427, 0, none⟩)), (9, .int .i64 r1639.1), (10, .int .i64 r1746), (66, .bool (decide (r1746 < 0)))] w1747 (by kernel_rfl) ?_
              refine W_nil ?_
              refine N_then ?_
              rcases gx_bif hm with ⟨hc1750, hm⟩ | ⟨hc1750, hm⟩
              · refine G_cond_t (b := (decide (r1746 < 0))) hc1750 (by kernel_rfl) ?_
                refine G_seq ?_
                refine G_region ?_
                refine W_run 1 [(2, .bool false)] w1747 (by kernel_rfl) ?_
                refine W_nil ?_
                refine N_then ?_
                refine G_ret ?_
                refine N_then_ret ?_
                obtain rfl := Option.some.inj hm
                refine N_ret [.bool false] (RVs_cons (RV_tmp (by kernel_rfl)) RVs_nil) ?_
                exact ⟨rfl, M1749.pick [] (by kernel_rfl)⟩
              · refine G_cond_f (b := (decide (r1746 < 0))) hc1750 (by kernel_rfl) ?_
                refine G_skip ?_
                refine N_then ?_
                refine G_seq ?_
                refine G_seq ?_
                refine G_region ?_
                refine W_run 3 [(0, .slice p934 x932.length c935), (3, .pointer (some ⟨b1180, 0, none⟩)), (4, .bool r1157.2), (6, .pointer (some ⟨b1427, 0, none⟩)), (9, .int .i64 r1639.1), (69, .bool (r1746 != r1639.1))] w1747 (by kernel_rfl) ?_
                refine W_nil ?_
                refine N_then ?_
                rcases gx_bif hm with ⟨hc1751, hm⟩ | ⟨hc1751, hm⟩
                · refine G_cond_t (b := (r1746 != r1639.1)) hc1751 (by kernel_rfl) ?_
                  refine G_seq ?_
                  refine G_region ?_
                  refine W_run 1 [(2, .bool false)] w1747 (by kernel_rfl) ?_
                  refine W_nil ?_
                  refine N_then ?_
                  refine G_ret ?_
                  refine N_then_ret ?_
                  obtain rfl := Option.some.inj hm
                  refine N_ret [.bool false] (RVs_cons (RV_tmp (by kernel_rfl)) RVs_nil) ?_
                  exact ⟨rfl, M1749.pick [] (by kernel_rfl)⟩
                · refine G_cond_f (b := (r1746 != r1639.1)) hc1751 (by kernel_rfl) ?_
                  refine G_skip ?_
                  refine N_then ?_
                  refine G_seq ?_
                  refine G_region ?_
                  refine W_run 1 [(3, .pointer (some ⟨b1180, 0, none⟩)), (4, .bool r1157.2), (6, .pointer (some ⟨b1427, 0, none⟩)), (9, .int .i64 r1639.1), (71, .slice p934 x932.length c935)] w1747 (by kernel_rfl) ?_
                  obtain ⟨r1752, hr1752, hm⟩ := gx_bind hm
                  refine W_call 19 #[.slice p934 x932.length c935] (by kernel_rfl) (by kernel_rfl) ?_
                  refine (c_l_toIntS w1747 x932 p934 c935 (h936.mem0 M1749) hr1752).mono ?_
                  rintro e_ w1758 ⟨p1754, c1755, sg1756, rfl, ho1757, K1759⟩
                  have M1760 := M1749.call K1759
                  refine ⟨_, rfl, ?_⟩
                  obtain ⟨r1761, hr1761, hm⟩ := gx_bind hm
                  refine W_call 20 #[.slice p1754 r1752.length c1755] (by kernel_rfl) (by kernel_rfl) ?_
                  refine (c_i_StartCopy w1758 r1752 p1754 c1755 (ho1757.rd M1760 8 (by kernel_rfl)) hr1761).mono ?_
                  rintro e_ w1777 ⟨p1763, c1764, sg1765, p1768, c1769, sg1770, p1773, c1774, sg1775, rfl, ho1766, ho1771, ho1776, K1778⟩
                  have M1779 := M1760.call K1778
                  refine ⟨_, rfl, ?_⟩
                  refine W_run 3 [(3, .pointer (some ⟨b1180, 0, none⟩)), (4, .bool r1157.2), (6, .pointer (some ⟨b1427, 0, none⟩)), (9, .int .i64 r1639.1), (74, .agg #[.slice p1763 r1761.1.Memory.length c1764, .slice p1768 r1761.1.Copy.length c1769, .slice p1773 r1761.1.Dirty.length c1774]), (75, .bool r1761.2)] w1777 (by kernel_rfl) ?_
                  refine W_new (fun b => .pointer (some ⟨b, 0, none⟩)) (.cells ⟨[.slice none 0 0, .slice none 0 0, .slice none 0 0]⟩ 28 (0, 0)) M1779 rfl (by kernel_rfl) (by kernel_rfl) ?_
                  intro b1784 w1785 M1786
                  refine W_store _ _ _ true 3 b1784 0 [.slice none 0 0, .slice none 0 0, .slice none 0 0] 28 (.agg #[.slice p1763 r1761.1.Memory.length c1764, .slice p1768 r1761.1.Copy.length c1769, .slice p1773 r1761.1.Dirty.length c1774]) 12 [.slice p1763 r1761.1.Memory.length c1764, .slice p1768 r1761.1.Copy.length c1769, .slice p1773 r1761.1.Dirty.length c1774] M1786 (by kernel_rfl) rfl (by kernel_rfl) (by kernel_rfl) (by kernel_rfl) (by kernel_rfl) (by kernel_rfl) (by kernel_rfl) (by kernel_rfl) (by kernel_rfl) ?_
                  intro w1787 M1788
                  refine W_run 1 [(3, .pointer (some ⟨b1180, 0, none⟩)), (4, .bool r1157.2), (6, .pointer (some ⟨b1427, 0, none⟩)), (9, .int .i64 r1639.1), (11, .pointer (some ⟨b1784, 0, none⟩)), (12, .bool r1761.2)] w1787 (by kernel_rfl) ?_
                  refine W_nil ?_
                  refine N_then ?_
                  refine G_seq ?_
                  refine G_seq ?_
                  obtain ⟨o1794, ho1795, hm1796⟩ := gx_bind hm
                  refine G_meet (fun a w' => Mem [] w w' [[(b1427, .cells ⟨[.slice p1406 r1639.2.1.length c1407, .slice p1411 r1639.2.2.1.length c1412, .slice p1416 r1639.2.2.2.length c1417]⟩ 28 (0, 0))], sg1640, sg1643, sg1646] ∧ Sat Try.f4.ntmps [(6, .pointer (some ⟨b1427, 0, none⟩)), (9, .int .i64 r1639.1), (84, .bool o1794)] a) ?_ ?_
                  · have hm := ho1795
                    refine G_region ?_
                    refine W_val (.agg #[.slice p1763 r1761.1.Memory.length c1764, .slice p1768 r1761.1.Copy.length c1769, .slice p1773 r1761.1.Dirty.length c1774]) w1787 (by kernel_rfl) (E_load (e := 28) (fr := (0, 0)) _ _ true 3 b1784 0 [.slice p1763 r1761.1.Memory.length c1764, .slice p1768 r1761.1.Copy.length c1769, .slice p1773 r1761.1.Dirty.length c1774] (.agg #[.slice p1763 r1761.1.Memory.length c1764, .slice p1768 r1761.1.Copy.length c1769, .slice p1773 r1761.1.Dirty.length c1774]) rfl (by kernel_rfl) (by kernel_rfl) (by kernel_rfl) (M1788.blk 12 (b := b1784) (o := .cells ⟨[.slice p1763 r1761.1.Memory.length c1764, .slice p1768 r1761.1.Copy.length c1769, .slice p1773 r1761.1.Dirty.length c1774]⟩ 28 (0, 0)) (by kernel_rfl))) ?_
                    refine W_val (.agg #[.slice p1159 r1157.1.Memory.length c1160, .slice p1164 r1157.1.Copy.length c1165, .slice p1169 r1157.1.Dirty.length c1170]) w1787 (by kernel_rfl) (E_load (e := 28) (fr := (0, 0)) _ _ true 3 b1180 0 [.slice p1159 r1157.1.Memory.length c1160, .slice p1164 r1157.1.Copy.length c1165, .slice p1169 r1157.1.Dirty.length c1170] (.agg #[.slice p1159 r1157.1.Memory.length c1160, .slice p1164 r1157.1.Copy.length c1165, .slice p1169 r1157.1.Dirty.length c1170]) rfl (by kernel_rfl) (by kernel_rfl) (by kernel_rfl) (M1788.blk 3 (b := b1180) (o := .cells ⟨[.slice p1159 r1157.1.Memory.length c1160, .slice p1164 r1157.1.Copy.length c1165, .slice p1169 r1157.1.Dirty.length c1170]⟩ 28 (0, 0)) (by kernel_rfl))) ?_
                    obtain ⟨r1797, hr1797, hm⟩ := gx_bind hm
                    refine W_call 17 #[.agg #[.slice p1763 r1761.1.Memory.length c1764, .slice p1768 r1761.1.Copy.length c1769, .slice p1773 r1761.1.Dirty.length c1774], .agg #[.slice p1159 r1157.1.Memory.length c1160, .slice p1164 r1157.1.Copy.length c1165, .slice p1169 r1157.1.Dirty.length c1170]] (by kernel_rfl) (by kernel_rfl) ?_
                    refine (c_l_eqCopying w1787 r1761.1 p1763 c1764 (ho1766.rd M1788 9 (by kernel_rfl)) p1768 c1769 (ho1771.rd M1788 10 (by kernel_rfl)) p1773 c1774 (ho1776.rd M1788 11 (by kernel_rfl)) r1157.1 p1159 c1160 (ho1162.rd M1788 0 (by kernel_rfl)) p1164 c1165 (ho1167.rd M1788 1 (by kernel_rfl)) p1169 c1170 (ho1172.rd M1788 2 (by kernel_rfl)) hr1797).mono ?_
                    rintro e_ w1798 ⟨rfl, K1799⟩
                    have M1800 := M1788.call0 K1799
                    refine ⟨_, rfl, ?_⟩
                    refine W_run 2 [(4, .bool r1157.2), (6, .pointer (some ⟨b1427, 0, none⟩)), (9, .int .i64 r1639.1), (12, .bool r1761.2), (80, .bool (!r1797))] w1798 (by kernel_rfl) ?_
                    rcases gx_bif hm with ⟨hc1801, hm⟩ | ⟨hc1801, hm⟩
                    · refine W_known 80 true (by kernel_rfl) hc1801 ?_
                      refine W_run 4 [(6, .pointer (some ⟨b1427, 0, none⟩)), (9, .int .i64 r1639.1), (84, .bool true)] w1798 (by kernel_rfl) ?_
                      refine W_nil ?_
                      obtain rfl := Option.some.inj hm
                      exact N_meet fun a ha => ⟨M1800.pick [4, 5, 6, 7] (by kernel_rfl), ha.sub (by kernel_rfl)⟩
                    · refine W_known 80 false (by kernel_rfl) hc1801 ?_
                      refine W_run 4 [(6, .pointer (some ⟨b1427, 0, none⟩)), (9, .int .i64 r1639.1), (84, .bool (!(r1761.2 == r1157.2)))] w1798 (by kernel_rfl) ?_
                      refine W_nil ?_
                      obtain rfl := Option.some.inj hm
                      exact N_meet fun a ha => ⟨M1800.pick [4, 5, 6, 7] (by kernel_rfl), ha.sub (by kernel_rfl)⟩
                  · intro a1804 w1802 ⟨M1803, hS1805⟩
                    refine N_use hS1805 ?_
                    have hm := hm1796
                    refine N_then ?_
                    rcases gx_bif hm with ⟨hc1806, hm⟩ | ⟨hc1806, hm⟩
                    · refine G_cond_t (b := o1794) hc1806 (by kernel_rfl) ?_
                      refine G_seq ?_
                      refine G_region ?_
                      refine W_run 1 [(2, .bool false)] w1802 (by kernel_rfl) ?_
                      refine W_nil ?_
                      refine N_then ?_
                      refine G_ret ?_
                      refine N_then_ret ?_
                      obtain rfl := Option.some.inj hm
                      refine N_ret [.bool false] (RVs_cons (RV_tmp (by kernel_rfl)) RVs_nil) ?_
                      exact ⟨rfl, M1803.pick [] (by kernel_rfl)⟩
                    · refine G_cond_f (b := o1794) hc1806 (by kernel_rfl) ?_
                      refine G_skip ?_
                      refine N_then ?_
                      refine G_seq ?_
                      refine G_region ?_
                      refine W_run 1 [(6, .pointer (some ⟨b1427, 0, none⟩)), (9, .int .i64 r1639.1), (10, .int .i64 1)] w1802 (by kernel_rfl) ?_
                      refine W_nil ?_
                      refine N_then ?_
                      refine G_seq ?_
                      refine G_region ?_
                      refine W_val (.agg #[.slice p1406 r1639.2.1.length c1407, .slice p1411 r1639.2.2.1.length c1412, .slice p1416 r1639.2.2.2.length c1417]) w1802 (by kernel_rfl) (E_load (e := 28) (fr := (0, 0)) _ _ true 3 b1427 0 [.slice p1406 r1639.2.1.length c1407, .slice p1411 r1639.2.2.1.length c1412, .slice p1416 r1639.2.2.2.length c1417] (.agg #[.slice p1406 r1639.2.1.length c1407, .slice p1411 r1639.2.2.1.length c1412, .slice p1416 r1639.2.2.2.length c1417]) rfl (by kernel_rfl) (by kernel_rfl) (by kernel_rfl) (M1803.blk 0 (b := b1427) (o := .cells ⟨[.slice p1406 r1639.2.1.length c1407, .slice p1411 r1639.2.2.1.length c1412, .slice p1416 r1639.2.2.2.length c1417]⟩ 28 (0, 0)) (by kernel_rfl))) ?_
                      refine W_run 1 [(9, .int .i64 r1639.1), (10, .int .i64 1), (85, .agg #[.slice p1406 r1639.2.1.length c1407, .slice p1411 r1639.2.2.1.length c1412, .slice p1416 r1639.2.2.2.length c1417]), (86, .int .i64 1)] w1802 (by kernel_rfl) ?_
                      obtain ⟨r1807, hr1807, hm⟩ := gx_bind hm
                      refine W_call 24 #[.agg #[.slice p1406 r1639.2.1.length c1407, .slice p1411 r1639.2.2.1.length c1412, .slice p1416 r1639.2.2.2.length c1417], .int .i64 1] (by kernel_rfl) (by kernel_rfl) ?_
                      refine (c_l_heldCopying w1802 (⟨r1639.2.1, r1639.2.2.1, r1639.2.2.2⟩ : Copying) p1406 c1407 (ho1641.rd M1803 1 (by kernel_rfl)) p1411 c1412 (ho1644.rd M1803 2 (by kernel_rfl)) p1416 c1417 (ho1647.rd M1803 3 (by kernel_rfl)) 1 hr1807).mono ?_
                      rintro e_ w1808 ⟨rfl, K1809⟩
                      have M1810 := M1803.call0 K1809
                      refine ⟨_, rfl, ?_⟩
                      refine W_run 1 [(9, .int .i64 r1639.1), (10, .int .i64 r1807)] w1808 (by kernel_rfl) ?_
                      refine W_nil ?_
                      refine N_then ?_
                      refine G_seq ?_
                      refine G_seq ?_
                      refine G_region ?_
                      refine W_run 2 [(9, .int .i64 r1639.1), (10, .int .i64 r1807), (89, .bool (decide (r1807 < 0)))] w1808 (by kernel_rfl) ?_
                      refine W_nil ?_
                      refine N_then ?_
                      rcases gx_bif hm with ⟨hc1811, hm⟩ | ⟨hc1811, hm⟩
                      · refine G_cond_t (b := (decide (r1807 < 0))) hc1811 (by kernel_rfl) ?_
                        refine G_seq ?_
                        refine G_region ?_
                        refine W_run 1 [(2, .bool false)] w1808 (by kernel_rfl) ?_
                        refine W_nil ?_
                        refine N_then ?_
                        refine G_ret ?_
                        refine N_then_ret ?_
                        obtain rfl := Option.some.inj hm
                        refine N_ret [.bool false] (RVs_cons (RV_tmp (by kernel_rfl)) RVs_nil) ?_
                        exact ⟨rfl, M1810.pick [] (by kernel_rfl)⟩
                      · refine G_cond_f (b := (decide (r1807 < 0))) hc1811 (by kernel_rfl) ?_
                        refine G_skip ?_
                        refine N_then ?_
                        refine G_seq ?_
                        refine G_seq ?_
                        refine G_region ?_
                        refine W_run 3 [(92, .bool (r1807 != r1639.1))] w1808 (by kernel_rfl) ?_
                        refine W_nil ?_
                        refine N_then ?_
                        rcases gx_bif hm with ⟨hc1812, hm⟩ | ⟨hc1812, hm⟩
                        · refine G_cond_t (b := (r1807 != r1639.1)) hc1812 (by kernel_rfl) ?_
                          refine G_seq ?_
                          refine G_region ?_
                          refine W_run 1 [(2, .bool false)] w1808 (by kernel_rfl) ?_
                          refine W_nil ?_
                          refine N_then ?_
                          refine G_ret ?_
                          refine N_then_ret ?_
                          obtain rfl := Option.some.inj hm
                          refine N_ret [.bool false] (RVs_cons (RV_tmp (by kernel_rfl)) RVs_nil) ?_
                          exact ⟨rfl, M1810.pick [] (by kernel_rfl)⟩
                        · refine G_cond_f (b := (r1807 != r1639.1)) hc1812 (by kernel_rfl) ?_
                          refine G_skip ?_
                          refine N_then ?_
                          refine G_seq ?_
                          refine G_region ?_
                          refine W_run 1 [(2, .bool true)] w1808 (by kernel_rfl) ?_
                          refine W_nil ?_
                          refine N_then ?_
                          refine G_ret ?_
                          obtain rfl := Option.some.inj hm
                          refine N_ret [.bool true] (RVs_cons (RV_tmp (by kernel_rfl)) RVs_nil) ?_
                          exact ⟨rfl, M1810.pick [] (by kernel_rfl)⟩
theorem c_s_l19Dirty (w : World) (x1888 : Copying) (p1890 : Option Addr) (c1891 : Nat) (h1892 : rdS encI w x1888.Memory p1890 c1891) (p1894 : Option Addr) (c1895 : Nat) (h1896 : rdS encI w x1888.Copy p1894 c1895) (p1898 : Option Addr) (c1899 : Nat) (h1900 : rdS encB w x1888.Dirty p1898 c1899) {r : (List Int)} (hm : M.s_l19Dirty x1888 = some r) :
    Calls Try.prog 65 #[.agg #[.slice p1890 x1888.Memory.length c1891, .slice p1894 x1888.Copy.length c1895, .slice p1898 x1888.Dirty.length c1899]] w fun e w' => ∃ (p1902 : Option Addr) (c1903 : Nat) (sg1904 : Seg), e = .returned (.slice p1902 r.length c1903) ∧ ownS encI r p1902 c1903 sg1904 ∧ Mem [] w w' [sg1904] := by
  unfold M.s_l19Dirty at hm
  refine C_enter Try.func65 rfl (by kernel_rfl) ?_
  have M0 := Mem.refl [] w
  refine G_seq ?_
  refine G_region ?_
  refine W_new (fun b => .pointer (some ⟨b, 0, none⟩)) (.cells ⟨[.slice p1890 x1888.Memory.length c1891, .slice p1894 x1888.Copy.length c1895, .slice p1898 x1888.Dirty.length c1899]⟩ 28 (0, 0)) M0 rfl (by kernel_rfl) (by kernel_rfl) ?_
  intro b1906 w1907 M1908
  refine W_run 1 [(1, .pointer (some ⟨b1906, 0, none⟩))] w1907 (by kernel_rfl) ?_
  refine W_nil ?_
  refine N_then ?_
  refine G_seq ?_
  refine G_region ?_
  refine W_lit (E := encI) ([] : List Int) 0 [] 3 M1908 (by kernel_rfl) (by kernel_rfl) (by kernel_rfl) (by kernel_rfl) (by kernel_rfl) ?_
  intro p1910 c1911 sg1912 w1913 ho1914 M1915
  refine W_run 1 [(1, .pointer (some ⟨b1906, 0, none⟩)), (3, .slice p1910 ([] : List Int).length c1911)] w1913 (by kernel_rfl) ?_
  refine W_nil ?_
  refine N_then ?_
  refine G_seq ?_
  refine G_seq ?_
  refine G_region ?_
  refine W_run 1 [(1, .pointer (some ⟨b1906, 0, none⟩)), (3, .slice p1910 ([] : List Int).length c1911), (4, .int .i64 0)] w1913 (by kernel_rfl) ?_
  refine W_nil ?_
  refine N_then ?_
  obtain ⟨out2021, hw2022, hmo2023⟩ := gx_bind hm
  refine G_meet (fun a w' => ∃ (p2030 : Option Addr), ∃ (c2031 : Nat), ∃ (sg2032 : Seg), ownS encI out2021 p2030 c2031 sg2032 ∧ Mem [] w w' [sg2032] ∧ Sat Try.f65.ntmps [(3, .slice p2030 out2021.length c2031)] a) ?_ ?_
  · refine G_block ?_
    refine G_while (σ := List Int × Int) (ρ := List Int) (fun s2014 a w' => ∃ (p2024 : Option Addr), ∃ (c2025 : Nat), ∃ (sg2026 : Seg), ownS encI s2014.1 p2024 c2025 sg2026 ∧ Mem [] w w' [[(b1906, .cells ⟨[.slice p1890 x1888.Memory.length c1891, .slice p1894 x1888.Copy.length c1895, .slice p1898 x1888.Dirty.length c1899]⟩ 28 (0, 0))], sg2026] ∧ Sat Try.f65.ntmps [(1, .pointer (some ⟨b1906, 0, none⟩)), (3, .slice p2024 s2014.1.length c2025), (4, .int .i64 s2014.2)] a) hw2022 (fun a ha => ⟨p1910, c1911, sg1912, ho1914, M1915.pick [0, 1] (by kernel_rfl), ha.sub (by kernel_rfl)⟩) ?_
    clear hm
    intro s2014 x2015 hm hout2016 a2017 w2018 ⟨p2024, c2025, sg2026, ho2027, M2019, hS2020⟩
    refine G_use hS2020 ?_
    refine G_seq ?_
    refine G_seq ?_
    refine G_region ?_
    refine W_run 2 [(1, .pointer (some ⟨b1906, 0, none⟩)), (3, .slice p2024 s2014.1.length c2025), (4, .int .i64 s2014.2), (6, .int .i64 s2014.2), (7, .pointer (some ⟨b1906, 2, none⟩))] w2018 (by kernel_rfl) ?_
    refine W_val (.slice p1898 x1888.Dirty.length c1899) w2018 (by kernel_rfl) (E_load (e := 28) (fr := (0, 0)) _ _ false 1 b1906 2 [.slice p1890 x1888.Memory.length c1891, .slice p1894 x1888.Copy.length c1895, .slice p1898 x1888.Dirty.length c1899] (.slice p1898 x1888.Dirty.length c1899) rfl (by kernel_rfl) (by kernel_rfl) (by kernel_rfl) (M2019.blk 0 (b := b1906) (o := .cells ⟨[.slice p1890 x1888.Memory.length c1891, .slice p1894 x1888.Copy.length c1895, .slice p1898 x1888.Dirty.length c1899]⟩ 28 (0, 0)) (by kernel_rfl))) ?_
    refine W_run 2 [(1, .pointer (some ⟨b1906, 0, none⟩)), (3, .slice p2024 s2014.1.length c2025), (4, .int .i64 s2014.2), (10, .bool (decide (s2014.2 < (x1888.Dirty.length : Int))))] w2018 (by kernel_rfl) ?_
    refine W_nil ?_
    refine N_then ?_
    rcases gx_bif hm with ⟨hc2035, hm⟩ | ⟨hc2035, hm⟩
    · refine G_cond_t (b := (decide (s2014.2 < (x1888.Dirty.length : Int)))) hc2035 (by kernel_rfl) ?_
      refine G_skip ?_
      refine N_then ?_
      refine G_seq ?_
      refine G_block ?_
      refine G_seq ?_
      refine G_region ?_
      refine W_run 1 [(1, .pointer (some ⟨b1906, 0, none⟩)), (3, .slice p2024 s2014.1.length c2025), (4, .int .i64 s2014.2), (13, .pointer (some ⟨b1906, 2, none⟩))] w2018 (by kernel_rfl) ?_
      refine W_val (.slice p1898 x1888.Dirty.length c1899) w2018 (by kernel_rfl) (E_load (e := 28) (fr := (0, 0)) _ _ false 1 b1906 2 [.slice p1890 x1888.Memory.length c1891, .slice p1894 x1888.Copy.length c1895, .slice p1898 x1888.Dirty.length c1899] (.slice p1898 x1888.Dirty.length c1899) rfl (by kernel_rfl) (by kernel_rfl) (by kernel_rfl) (M2019.blk 0 (b := b1906) (o := .cells ⟨[.slice p1890 x1888.Memory.length c1891, .slice p1894 x1888.Copy.length c1895, .slice p1898 x1888.Dirty.length c1899]⟩ 28 (0, 0)) (by kernel_rfl))) ?_
      refine W_run 1 [(1, .pointer (some ⟨b1906, 0, none⟩)), (3, .slice p2024 s2014.1.length c2025), (4, .int .i64 s2014.2), (14, .slice p1898 x1888.Dirty.length c1899), (15, .int .i64 s2014.2)] w2018 (by kernel_rfl) ?_
      obtain ⟨y2036, hy2036, hm⟩ := gx_bind hm
      refine W_val (elemP p1898 (s2014.2.toNat * 1)) w2018 (by kernel_rfl) (E_index (E := encB) _ _ _ x1888.Dirty.length c1899 .i64 s2014.2 1 (y := y2036) rfl (by kernel_rfl) (by kernel_rfl) (by kernel_rfl) (h1900.mem0 M2019) rfl hy2036) ?_
      refine W_val (.bool y2036) w2018 (by kernel_rfl) (E_loadE (E := encB) _ _ false 1 s2014.2 0 (s2014.2.toNat * 1) y2036 (.bool y2036) rfl (by kernel_rfl) (by kernel_rfl) (by kernel_rfl) (h1900.mem0 M2019) hy2036 rfl) ?_
      refine W_nil ?_
      refine N_then ?_
      obtain ⟨o2053, ho2054, hm2055⟩ := gx_bind hm
      refine G_meet (fun a w' => ∃ (p2056 : Option Addr), ∃ (c2057 : Nat), ∃ (sg2058 : Seg), ownS encI o2053 p2056 c2057 sg2058 ∧ Mem [] w w' [[(b1906, .cells ⟨[.slice p1890 x1888.Memory.length c1891, .slice p1894 x1888.Copy.length c1895, .slice p1898 x1888.Dirty.length c1899]⟩ 28 (0, 0))], sg2058] ∧ Sat Try.f65.ntmps [(1, .pointer (some ⟨b1906, 0, none⟩)), (3, .slice p2056 o2053.length c2057), (4, .int .i64 s2014.2)] a) ?_ ?_
      · have hm := ho2054
        rcases gx_bif hm with ⟨hc2061, hm⟩ | ⟨hc2061, hm⟩
        · refine G_cond_t (b := y2036) hc2061 (by kernel_rfl) ?_
          refine G_region ?_
          refine W_run 2 [(1, .pointer (some ⟨b1906, 0, none⟩)), (3, .slice p2024 s2014.1.length c2025), (4, .int .i64 s2014.2), (18, .slice p2024 s2014.1.length c2025), (19, .int .i64 s2014.2)] w2018 (by kernel_rfl) ?_
          refine W_lit (E := encI) [s2014.2] 1 [.int .i64 s2014.2] 3 M2019 (by kernel_rfl) (by kernel_rfl) (by kernel_rfl) (by kernel_rfl) (by kernel_rfl) ?_
          intro p2062 c2063 sg2064 w2065 ho2066 M2067
          obtain ⟨ap2069, hap2069, hm⟩ := gx_bind hm
          refine W_append (E := encI) _ _ _ 8 [.int .i64 0] 1 c2063 M2067 ho2027 (by kernel_rfl) (by kernel_rfl) (by kernel_rfl) rfl (by kernel_rfl) (by kernel_rfl) (by kernel_rfl) (by kernel_rfl) (by kernel_rfl) (by kernel_rfl) (ho2066.rd M2067 2 (by kernel_rfl)) hap2069 ?_
          intro p2070 c2071 sg2072 w2073 ho2074 M2075
          refine W_run 1 [(1, .pointer (some ⟨b1906, 0, none⟩)), (3, .slice p2070 ap2069.length c2071), (4, .int .i64 s2014.2)] w2073 (by kernel_rfl) ?_
          refine W_nil ?_
          obtain rfl := Option.some.inj hm
          exact N_meet fun a ha => ⟨p2070, c2071, sg2072, ho2074, M2075.pick [0, 1] (by kernel_rfl), ha.sub (by kernel_rfl)⟩
        · refine G_cond_f (b := y2036) hc2061 (by kernel_rfl) ?_
          refine G_skip ?_
          obtain rfl := Option.some.inj hm
          exact N_meet fun a ha => ⟨p2024, c2025, sg2026, ho2027, M2019.pick [0, 1] (by kernel_rfl), ha.sub (by kernel_rfl)⟩
      · intro a2079 w2077 ⟨p2056, c2057, sg2058, ho2059, M2078, hS2080⟩
        refine N_use hS2080 ?_
        have hm := hm2055
        refine N_block ?_
        refine N_then ?_
        refine G_region ?_
        refine W_run 3 [(1, .pointer (some ⟨b1906, 0, none⟩)), (3, .slice p2056 o2053.length c2057), (4, .int .i64 (w64 (s2014.2 + 1)))] w2077 (by kernel_rfl) ?_
        refine W_nil ?_
        obtain rfl := Option.some.inj hm
        exact N_loop fun a ha => ⟨_, rfl, p2056, c2057, sg2058, ho2059, M2078.pick [0, 1] (by kernel_rfl), ha.sub (by kernel_rfl)⟩
    · refine G_cond_f (b := (decide (s2014.2 < (x1888.Dirty.length : Int)))) hc2035 (by kernel_rfl) ?_
      refine G_exit ?_
      refine N_then_exit ?_
      refine N_then_exit ?_
      refine N_block_eq ?_
      obtain rfl := Option.some.inj hm
      obtain rfl := hout2016 _ rfl
      exact N_meet fun a ha => ⟨p2024, c2025, sg2026, ho2027, M2019.pick [1] (by kernel_rfl), ha.sub (by kernel_rfl)⟩
  · intro a2081 w2082 ⟨p2030, c2031, sg2032, ho2033, M2083, hS2084⟩
    refine N_use hS2084 ?_
    have hm := hmo2023
    refine N_then ?_
    refine G_seq ?_
    refine G_region ?_
    refine W_run 2 [(2, .slice p2030 out2021.length c2031)] w2082 (by kernel_rfl) ?_
    refine W_nil ?_
    refine N_then ?_
    refine G_ret ?_
    obtain rfl := Option.some.inj hm
    refine N_ret [.slice p2030 out2021.length c2031] (RVs_cons (RV_tmp (by kernel_rfl)) RVs_nil) ?_
    exact ⟨p2030, c2031, sg2032, rfl, ho2033, M2083.pick [0] (by kernel_rfl)⟩
theorem c_s_DirtyWords (w : World) (x1854 : Copying) (p1856 : Option Addr) (c1857 : Nat) (h1858 : rdS encI w x1854.Memory p1856 c1857) (p1860 : Option Addr) (c1861 : Nat) (h1862 : rdS encI w x1854.Copy p1860 c1861) (p1864 : Option Addr) (c1865 : Nat) (h1866 : rdS encB w x1854.Dirty p1864 c1865) {r : (List Int) × Bool} (hm : M.s_DirtyWords x1854 = some r) :
    Calls Try.prog 25 #[.agg #[.slice p1856 x1854.Memory.length c1857, .slice p1860 x1854.Copy.length c1861, .slice p1864 x1854.Dirty.length c1865]] w fun e w' => ∃ (p1868 : Option Addr) (c1869 : Nat) (sg1870 : Seg), e = .returned (.tuple #[.slice p1868 r.1.length c1869, .bool r.2]) ∧ ownS encI r.1 p1868 c1869 sg1870 ∧ Mem [] w w' [sg1870] := by
  unfold M.s_DirtyWords at hm
  refine C_enter Try.func25 rfl (by kernel_rfl) ?_
  have M0 := Mem.refl [] w
  refine G_seq ?_
  refine G_region ?_
  refine W_new (fun b => .pointer (some ⟨b, 0, none⟩)) (.cells ⟨[.slice p1856 x1854.Memory.length c1857, .slice p1860 x1854.Copy.length c1861, .slice p1864 x1854.Dirty.length c1865]⟩ 28 (0, 0)) M0 rfl (by kernel_rfl) (by kernel_rfl) ?_
  intro b1872 w1873 M1874
  refine W_run 2 [(1, .pointer (some ⟨b1872, 0, none⟩))] w1873 (by kernel_rfl) ?_
  refine W_nil ?_
  refine N_then ?_
  refine G_seq ?_
  refine G_seq ?_
  refine G_region ?_
  refine W_val (.agg #[.slice p1856 x1854.Memory.length c1857, .slice p1860 x1854.Copy.length c1861, .slice p1864 x1854.Dirty.length c1865]) w1873 (by kernel_rfl) (E_load (e := 28) (fr := (0, 0)) _ _ true 3 b1872 0 [.slice p1856 x1854.Memory.length c1857, .slice p1860 x1854.Copy.length c1861, .slice p1864 x1854.Dirty.length c1865] (.agg #[.slice p1856 x1854.Memory.length c1857, .slice p1860 x1854.Copy.length c1861, .slice p1864 x1854.Dirty.length c1865]) rfl (by kernel_rfl) (by kernel_rfl) (by kernel_rfl) (M1874.blk 0 (b := b1872) (o := .cells ⟨[.slice p1856 x1854.Memory.length c1857, .slice p1860 x1854.Copy.length c1861, .slice p1864 x1854.Dirty.length c1865]⟩ 28 (0, 0)) (by kernel_rfl))) ?_
  obtain ⟨r1876, hr1876, hm⟩ := gx_bind hm
  refine W_call 56 #[.agg #[.slice p1856 x1854.Memory.length c1857, .slice p1860 x1854.Copy.length c1861, .slice p1864 x1854.Dirty.length c1865]] (by kernel_rfl) (by kernel_rfl) ?_
  refine (c_s_l19Good w1873 x1854 p1856 c1857 (h1858.mem0 M1874) p1860 c1861 (h1862.mem0 M1874) p1864 c1865 (h1866.mem0 M1874) hr1876).mono ?_
  rintro e_ w1877 ⟨rfl, K1878⟩
  have M1879 := M1874.call0 K1878
  refine ⟨_, rfl, ?_⟩
  refine W_run 1 [(1, .pointer (some ⟨b1872, 0, none⟩)), (6, .bool (!r1876))] w1877 (by kernel_rfl) ?_
  refine W_nil ?_
  refine N_then ?_
  rcases gx_bif hm with ⟨hc1880, hm⟩ | ⟨hc1880, hm⟩
  · refine G_cond_t (b := (!r1876)) hc1880 (by kernel_rfl) ?_
    refine G_seq ?_
    refine G_region ?_
    refine W_lit (E := encI) ([] : List Int) 0 [] 3 M1879 (by kernel_rfl) (by kernel_rfl) (by kernel_rfl) (by kernel_rfl) (by kernel_rfl) ?_
    intro p1881 c1882 sg1883 w1884 ho1885 M1886
    refine W_run 2 [(2, .slice p1881 ([] : List Int).length c1882), (3, .bool false)] w1884 (by kernel_rfl) ?_
    refine W_nil ?_
    refine N_then ?_
    refine G_ret ?_
    refine N_then_ret ?_
    obtain rfl := Option.some.inj hm
    refine N_ret [.slice p1881 ([] : List Int).length c1882, .bool false] (RVs_cons (RV_tmp (by kernel_rfl)) (RVs_cons (RV_tmp (by kernel_rfl)) RVs_nil)) ?_
    exact ⟨p1881, c1882, sg1883, rfl, ho1885, M1886.pick [1] (by kernel_rfl)⟩
  · refine G_cond_f (b := (!r1876)) hc1880 (by kernel_rfl) ?_
    refine G_skip ?_
    refine N_then ?_
    refine G_seq ?_
    refine G_region ?_
    refine W_val (.agg #[.slice p1856 x1854.Memory.length c1857, .slice p1860 x1854.Copy.length c1861, .slice p1864 x1854.Dirty.length c1865]) w1877 (by kernel_rfl) (E_load (e := 28) (fr := (0, 0)) _ _ true 3 b1872 0 [.slice p1856 x1854.Memory.length c1857, .slice p1860 x1854.Copy.length c1861, .slice p1864 x1854.Dirty.length c1865] (.agg #[.slice p1856 x1854.Memory.length c1857, .slice p1860 x1854.Copy.length c1861, .slice p1864 x1854.Dirty.length c1865]) rfl (by kernel_rfl) (by kernel_rfl) (by kernel_rfl) (M1879.blk 0 (b := b1872) (o := .cells ⟨[.slice p1856 x1854.Memory.length c1857, .slice p1860 x1854.Copy.length c1861, .slice p1864 x1854.Dirty.length c1865]⟩ 28 (0, 0)) (by kernel_rfl))) ?_
    obtain ⟨r2085, hr2085, hm⟩ := gx_bind hm
    refine W_call 65 #[.agg #[.slice p1856 x1854.Memory.length c1857, .slice p1860 x1854.Copy.length c1861, .slice p1864 x1854.Dirty.length c1865]] (by kernel_rfl) (by kernel_rfl) ?_
    refine (c_s_l19Dirty w1877 x1854 p1856 c1857 (h1858.mem0 M1879) p1860 c1861 (h1862.mem0 M1879) p1864 c1865 (h1866.mem0 M1879) hr2085).mono ?_
    rintro e_ w2091 ⟨p2087, c2088, sg2089, rfl, ho2090, K2092⟩
    have M2093 := M1879.call K2092
    refine ⟨_, rfl, ?_⟩
    refine W_run 2 [(2, .slice p2087 r2085.length c2088), (3, .bool true)] w2091 (by kernel_rfl) ?_
    refine W_nil ?_
    refine N_then ?_
    refine G_ret ?_
    obtain rfl := Option.some.inj hm
    refine N_ret [.slice p2087 r2085.length c2088, .bool true] (RVs_cons (RV_tmp (by kernel_rfl)) (RVs_cons (RV_tmp (by kernel_rfl)) RVs_nil)) ?_
    exact ⟨p2087, c2088, sg2089, rfl, ho2090, M2093.pick [1] (by kernel_rfl)⟩
theorem c_i_dirtyWords (w : World) (x2159 : Copying) (p2161 : Option Addr) (c2162 : Nat) (h2163 : rdS encI w x2159.Memory p2161 c2162) (p2165 : Option Addr) (c2166 : Nat) (h2167 : rdS encI w x2159.Copy p2165 c2166) (p2169 : Option Addr) (c2170 : Nat) (h2171 : rdS encB w x2159.Dirty p2169 c2170) {r : (List Int)} (hm : M.i_dirtyWords x2159 = some r) :
    Calls Try.prog 66 #[.agg #[.slice p2161 x2159.Memory.length c2162, .slice p2165 x2159.Copy.length c2166, .slice p2169 x2159.Dirty.length c2170]] w fun e w' => ∃ (p2173 : Option Addr) (c2174 : Nat) (sg2175 : Seg), e = .returned (.slice p2173 r.length c2174) ∧ ownS encI r p2173 c2174 sg2175 ∧ Mem [] w w' [sg2175] := by
  unfold M.i_dirtyWords at hm
  refine C_enter Try.func66 rfl (by kernel_rfl) ?_
  have M0 := Mem.refl [] w
  refine G_seq ?_
  refine G_region ?_
  refine W_new (fun b => .pointer (some ⟨b, 0, none⟩)) (.cells ⟨[.slice p2161 x2159.Memory.length c2162, .slice p2165 x2159.Copy.length c2166, .slice p2169 x2159.Dirty.length c2170]⟩ 28 (0, 0)) M0 rfl (by kernel_rfl) (by kernel_rfl) ?_
  intro b2177 w2178 M2179
  refine W_run 1 [(1, .pointer (some ⟨b2177, 0, none⟩))] w2178 (by kernel_rfl) ?_
  refine W_nil ?_
  refine N_then ?_
  refine G_seq ?_
  refine G_region ?_
  refine W_lit (E := encI) ([] : List Int) 0 [] 3 M2179 (by kernel_rfl) (by kernel_rfl) (by kernel_rfl) (by kernel_rfl) (by kernel_rfl) ?_
  intro p2181 c2182 sg2183 w2184 ho2185 M2186
  refine W_run 1 [(1, .pointer (some ⟨b2177, 0, none⟩)), (3, .slice p2181 ([] : List Int).length c2182)] w2184 (by kernel_rfl) ?_
  refine W_nil ?_
  refine N_then ?_
  refine G_seq ?_
  refine G_seq ?_
  refine G_region ?_
  refine W_run 1 [(3, .slice p2181 ([] : List Int).length c2182), (7, .pointer (some ⟨b2177, 2, none⟩))] w2184 (by kernel_rfl) ?_
  refine W_val (.slice p2169 x2159.Dirty.length c2170) w2184 (by kernel_rfl) (E_load (e := 28) (fr := (0, 0)) _ _ false 1 b2177 2 [.slice p2161 x2159.Memory.length c2162, .slice p2165 x2159.Copy.length c2166, .slice p2169 x2159.Dirty.length c2170] (.slice p2169 x2159.Dirty.length c2170) rfl (by kernel_rfl) (by kernel_rfl) (by kernel_rfl) (M2186.blk 0 (b := b2177) (o := .cells ⟨[.slice p2161 x2159.Memory.length c2162, .slice p2165 x2159.Copy.length c2166, .slice p2169 x2159.Dirty.length c2170]⟩ 28 (0, 0)) (by kernel_rfl))) ?_
  refine W_run 2 [(3, .slice p2181 ([] : List Int).length c2182), (8, .slice p2169 x2159.Dirty.length c2170), (9, .int .i64 (x2159.Dirty.length : Int)), (10, .int .i64 0)] w2184 (by kernel_rfl) ?_
  refine W_nil ?_
  refine N_then ?_
  obtain ⟨out2292, hw2293, hmo2294⟩ := gx_bind hm
  refine G_meet (fun a w' => ∃ (p2301 : Option Addr), ∃ (c2302 : Nat), ∃ (sg2303 : Seg), ownS encI out2292 p2301 c2302 sg2303 ∧ Mem [] w w' [sg2303] ∧ Sat Try.f66.ntmps [(3, .slice p2301 out2292.length c2302)] a) ?_ ?_
  · refine G_block ?_
    refine G_while (σ := List Int × Int) (ρ := List Int) (fun s2285 a w' => ∃ (p2295 : Option Addr), ∃ (c2296 : Nat), ∃ (sg2297 : Seg), ownS encI s2285.1 p2295 c2296 sg2297 ∧ Mem [] w w' [sg2297] ∧ Sat Try.f66.ntmps [(3, .slice p2295 s2285.1.length c2296), (8, .slice p2169 x2159.Dirty.length c2170), (9, .int .i64 (x2159.Dirty.length : Int)), (10, .int .i64 s2285.2)] a) hw2293 (fun a ha => ⟨p2181, c2182, sg2183, ho2185, M2186.pick [1] (by kernel_rfl), ha.sub (by kernel_rfl)⟩) ?_
    clear hm
    intro s2285 x2286 hm hout2287 a2288 w2289 ⟨p2295, c2296, sg2297, ho2298, M2290, hS2291⟩
    refine G_use hS2291 ?_
    refine G_seq ?_
    refine G_region ?_
    refine W_run 1 [(3, .slice p2295 s2285.1.length c2296), (8, .slice p2169 x2159.Dirty.length c2170), (9, .int .i64 (x2159.Dirty.length : Int)), (10, .int .i64 s2285.2), (11, .bool (decide (s2285.2 < (x2159.Dirty.length : Int))))] w2289 (by kernel_rfl) ?_
    refine W_nil ?_
    refine N_then ?_
    refine G_seq ?_
    rcases gx_bif hm with ⟨hc2306, hm⟩ | ⟨hc2306, hm⟩
    · refine G_cond_t (b := (decide (s2285.2 < (x2159.Dirty.length : Int)))) hc2306 (by kernel_rfl) ?_
      refine G_skip ?_
      refine N_then ?_
      refine G_seq ?_
      refine G_block ?_
      refine G_seq ?_
      refine G_region ?_
      refine W_run 1 [(3, .slice p2295 s2285.1.length c2296), (8, .slice p2169 x2159.Dirty.length c2170), (9, .int .i64 (x2159.Dirty.length : Int)), (10, .int .i64 s2285.2), (12, .int .i64 s2285.2)] w2289 (by kernel_rfl) ?_
      obtain ⟨y2307, hy2307, hm⟩ := gx_bind hm
      refine W_val (elemP p2169 (s2285.2.toNat * 1)) w2289 (by kernel_rfl) (E_index (E := encB) _ _ _ x2159.Dirty.length c2170 .i64 s2285.2 1 (y := y2307) rfl (by kernel_rfl) (by kernel_rfl) (by kernel_rfl) (h2171.mem0 M2290) rfl hy2307) ?_
      refine W_val (.bool y2307) w2289 (by kernel_rfl) (E_loadE (E := encB) _ _ false 1 s2285.2 0 (s2285.2.toNat * 1) y2307 (.bool y2307) rfl (by kernel_rfl) (by kernel_rfl) (by kernel_rfl) (h2171.mem0 M2290) hy2307 rfl) ?_
      refine W_run 2 [(3, .slice p2295 s2285.1.length c2296), (4, .int .i64 s2285.2), (5, .bool y2307), (8, .slice p2169 x2159.Dirty.length c2170), (9, .int .i64 (x2159.Dirty.length : Int)), (10, .int .i64 s2285.2)] w2289 (by kernel_rfl) ?_
      refine W_nil ?_
      refine N_then ?_
      refine G_seq ?_
      refine G_region ?_
      refine W_run 1 [(3, .slice p2295 s2285.1.length c2296), (4, .int .i64 s2285.2), (8, .slice p2169 x2159.Dirty.length c2170), (9, .int .i64 (x2159.Dirty.length : Int)), (10, .int .i64 s2285.2), (15, .bool y2307)] w2289 (by kernel_rfl) ?_
      refine W_nil ?_
      refine N_then ?_
      obtain ⟨o2324, ho2325, hm2326⟩ := gx_bind hm
      refine G_meet (fun a w' => ∃ (p2327 : Option Addr), ∃ (c2328 : Nat), ∃ (sg2329 : Seg), ownS encI o2324 p2327 c2328 sg2329 ∧ Mem [] w w' [sg2329] ∧ Sat Try.f66.ntmps [(3, .slice p2327 o2324.length c2328), (8, .slice p2169 x2159.Dirty.length c2170), (9, .int .i64 (x2159.Dirty.length : Int)), (10, .int .i64 s2285.2)] a) ?_ ?_
      · have hm := ho2325
        rcases gx_bif hm with ⟨hc2332, hm⟩ | ⟨hc2332, hm⟩
        · refine G_cond_t (b := y2307) hc2332 (by kernel_rfl) ?_
          refine G_region ?_
          refine W_run 2 [(3, .slice p2295 s2285.1.length c2296), (8, .slice p2169 x2159.Dirty.length c2170), (9, .int .i64 (x2159.Dirty.length : Int)), (10, .int .i64 s2285.2), (16, .slice p2295 s2285.1.length c2296), (17, .int .i64 s2285.2)] w2289 (by kernel_rfl) ?_
          refine W_lit (E := encI) [s2285.2] 1 [.int .i64 s2285.2] 3 M2290 (by kernel_rfl) (by kernel_rfl) (by kernel_rfl) (by kernel_rfl) (by kernel_rfl) ?_
          intro p2333 c2334 sg2335 w2336 ho2337 M2338
          obtain ⟨ap2340, hap2340, hm⟩ := gx_bind hm
          refine W_append (E := encI) _ _ _ 8 [.int .i64 0] 0 c2334 M2338 ho2298 (by kernel_rfl) (by kernel_rfl) (by kernel_rfl) rfl (by kernel_rfl) (by kernel_rfl) (by kernel_rfl) (by kernel_rfl) (by kernel_rfl) (by kernel_rfl) (ho2337.rd M2338 1 (by kernel_rfl)) hap2340 ?_
          intro p2341 c2342 sg2343 w2344 ho2345 M2346
          refine W_run 1 [(3, .slice p2341 ap2340.length c2342), (8, .slice p2169 x2159.Dirty.length c2170), (9, .int .i64 (x2159.Dirty.length : Int)), (10, .int .i64 s2285.2)] w2344 (by kernel_rfl) ?_
          refine W_nil ?_
          obtain rfl := Option.some.inj hm
          exact N_meet fun a ha => ⟨p2341, c2342, sg2343, ho2345, M2346.pick [0] (by kernel_rfl), ha.sub (by kernel_rfl)⟩
        · refine G_cond_f (b := y2307) hc2332 (by kernel_rfl) ?_
          refine G_skip ?_
          obtain rfl := Option.some.inj hm
          exact N_meet fun a ha => ⟨p2295, c2296, sg2297, ho2298, M2290.pick [0] (by kernel_rfl), ha.sub (by kernel_rfl)⟩
      · intro a2350 w2348 ⟨p2327, c2328, sg2329, ho2330, M2349, hS2351⟩
        refine N_use hS2351 ?_
        have hm := hm2326
        refine N_block ?_
        refine N_then ?_
        refine G_region ?_
        refine W_run 2 [(3, .slice p2327 o2324.length c2328), (8, .slice p2169 x2159.Dirty.length c2170), (9, .int .i64 (x2159.Dirty.length : Int)), (10, .int .i64 (w64 (s2285.2 + 1)))] w2348 (by kernel_rfl) ?_
        refine W_nil ?_
        obtain rfl := Option.some.inj hm
        exact N_loop fun a ha => ⟨_, rfl, p2327, c2328, sg2329, ho2330, M2349.pick [0] (by kernel_rfl), ha.sub (by kernel_rfl)⟩
    · refine G_cond_f (b := (decide (s2285.2 < (x2159.Dirty.length : Int)))) hc2306 (by kernel_rfl) ?_
      refine G_exit ?_
      refine N_then_exit ?_
      refine N_then_exit ?_
      refine N_block_eq ?_
      obtain rfl := Option.some.inj hm
      obtain rfl := hout2287 _ rfl
      exact N_meet fun a ha => ⟨p2295, c2296, sg2297, ho2298, M2290.pick [0] (by kernel_rfl), ha.sub (by kernel_rfl)⟩
  · intro a2352 w2353 ⟨p2301, c2302, sg2303, ho2304, M2354, hS2355⟩
    refine N_use hS2355 ?_
    have hm := hmo2294
    refine N_then ?_
    refine G_seq ?_
    refine G_region ?_
    refine W_run 2 [(2, .slice p2301 out2292.length c2302)] w2353 (by kernel_rfl) ?_
    refine W_nil ?_
    refine N_then ?_
    refine G_ret ?_
    obtain rfl := Option.some.inj hm
    refine N_ret [.slice p2301 out2292.length c2302] (RVs_cons (RV_tmp (by kernel_rfl)) RVs_nil) ?_
    exact ⟨p2301, c2302, sg2303, rfl, ho2304, M2354.pick [0] (by kernel_rfl)⟩
theorem c_i_DirtyWords (w : World) (x2131 : Copying) (p2133 : Option Addr) (c2134 : Nat) (h2135 : rdS encI w x2131.Memory p2133 c2134) (p2137 : Option Addr) (c2138 : Nat) (h2139 : rdS encI w x2131.Copy p2137 c2138) (p2141 : Option Addr) (c2142 : Nat) (h2143 : rdS encB w x2131.Dirty p2141 c2142) {r : (List Int) × Bool} (hm : M.i_DirtyWords x2131 = some r) :
    Calls Try.prog 26 #[.agg #[.slice p2133 x2131.Memory.length c2134, .slice p2137 x2131.Copy.length c2138, .slice p2141 x2131.Dirty.length c2142]] w fun e w' => ∃ (p2145 : Option Addr) (c2146 : Nat) (sg2147 : Seg), e = .returned (.tuple #[.slice p2145 r.1.length c2146, .bool r.2]) ∧ ownS encI r.1 p2145 c2146 sg2147 ∧ Mem [] w w' [sg2147] := by
  unfold M.i_DirtyWords at hm
  refine C_enter Try.func26 rfl (by kernel_rfl) ?_
  have M0 := Mem.refl [] w
  refine G_seq ?_
  refine G_region ?_
  refine W_new (fun b => .pointer (some ⟨b, 0, none⟩)) (.cells ⟨[.slice p2133 x2131.Memory.length c2134, .slice p2137 x2131.Copy.length c2138, .slice p2141 x2131.Dirty.length c2142]⟩ 28 (0, 0)) M0 rfl (by kernel_rfl) (by kernel_rfl) ?_
  intro b2149 w2150 M2151
  refine W_run 2 [(1, .pointer (some ⟨b2149, 0, none⟩))] w2150 (by kernel_rfl) ?_
  refine W_nil ?_
  refine N_then ?_
  refine G_seq ?_
  refine G_seq ?_
  refine G_region ?_
  refine W_val (.agg #[.slice p2133 x2131.Memory.length c2134, .slice p2137 x2131.Copy.length c2138, .slice p2141 x2131.Dirty.length c2142]) w2150 (by kernel_rfl) (E_load (e := 28) (fr := (0, 0)) _ _ true 3 b2149 0 [.slice p2133 x2131.Memory.length c2134, .slice p2137 x2131.Copy.length c2138, .slice p2141 x2131.Dirty.length c2142] (.agg #[.slice p2133 x2131.Memory.length c2134, .slice p2137 x2131.Copy.length c2138, .slice p2141 x2131.Dirty.length c2142]) rfl (by kernel_rfl) (by kernel_rfl) (by kernel_rfl) (M2151.blk 0 (b := b2149) (o := .cells ⟨[.slice p2133 x2131.Memory.length c2134, .slice p2137 x2131.Copy.length c2138, .slice p2141 x2131.Dirty.length c2142]⟩ 28 (0, 0)) (by kernel_rfl))) ?_
  obtain ⟨r2153, hr2153, hm⟩ := gx_bind hm
  refine W_call 16 #[.agg #[.slice p2133 x2131.Memory.length c2134, .slice p2137 x2131.Copy.length c2138, .slice p2141 x2131.Dirty.length c2142]] (by kernel_rfl) (by kernel_rfl) ?_
  refine (c_i_IsCopying w2150 x2131 p2133 c2134 (h2135.mem0 M2151) p2137 c2138 (h2139.mem0 M2151) p2141 c2142 (h2143.mem0 M2151) hr2153).mono ?_
  rintro e_ w2154 ⟨rfl, K2155⟩
  have M2156 := M2151.call0 K2155
  refine ⟨_, rfl, ?_⟩
  refine W_run 1 [(1, .pointer (some ⟨b2149, 0, none⟩)), (6, .bool (!r2153))] w2154 (by kernel_rfl) ?_
  refine W_nil ?_
  refine N_then ?_
  rcases gx_bif hm with ⟨hc2157, hm⟩ | ⟨hc2157, hm⟩
  · refine G_cond_t (b := (!r2153)) hc2157 (by kernel_rfl) ?_
    refine G_seq ?_
    refine G_region ?_
    refine W_run 2 [(2, .slice none 0 0), (3, .bool false)] w2154 (by kernel_rfl) ?_
    refine W_nil ?_
    refine N_then ?_
    refine G_ret ?_
    refine N_then_ret ?_
    obtain rfl := Option.some.inj hm
    refine N_ret [.slice none 0 0, .bool false] (RVs_cons (RV_tmp (by kernel_rfl)) (RVs_cons (RV_tmp (by kernel_rfl)) RVs_nil)) ?_
    exact ⟨none, 0, [], rfl, ownS_nil, M2156.pick [100000] (by kernel_rfl)⟩
  · refine G_cond_f (b := (!r2153)) hc2157 (by kernel_rfl) ?_
    refine G_skip ?_
    refine N_then ?_
    refine G_seq ?_
    refine G_region ?_
    refine W_val (.agg #[.slice p2133 x2131.Memory.length c2134, .slice p2137 x2131.Copy.length c2138, .slice p2141 x2131.Dirty.length c2142]) w2154 (by kernel_rfl) (E_load (e := 28) (fr := (0, 0)) _ _ true 3 b2149 0 [.slice p2133 x2131.Memory.length c2134, .slice p2137 x2131.Copy.length c2138, .slice p2141 x2131.Dirty.length c2142] (.agg #[.slice p2133 x2131.Memory.length c2134, .slice p2137 x2131.Copy.length c2138, .slice p2141 x2131.Dirty.length c2142]) rfl (by kernel_rfl) (by kernel_rfl) (by kernel_rfl) (M2156.blk 0 (b := b2149) (o := .cells ⟨[.slice p2133 x2131.Memory.length c2134, .slice p2137 x2131.Copy.length c2138, .slice p2141 x2131.Dirty.length c2142]⟩ 28 (0, 0)) (by kernel_rfl))) ?_
    obtain ⟨r2356, hr2356, hm⟩ := gx_bind hm
    refine W_call 66 #[.agg #[.slice p2133 x2131.Memory.length c2134, .slice p2137 x2131.Copy.length c2138, .slice p2141 x2131.Dirty.length c2142]] (by kernel_rfl) (by kernel_rfl) ?_
    refine (c_i_dirtyWords w2154 x2131 p2133 c2134 (h2135.mem0 M2156) p2137 c2138 (h2139.mem0 M2156) p2141 c2142 (h2143.mem0 M2156) hr2356).mono ?_
    rintro e_ w2362 ⟨p2358, c2359, sg2360, rfl, ho2361, K2363⟩
    have M2364 := M2156.call K2363
    refine ⟨_, rfl, ?_⟩
    refine W_run 2 [(2, .slice p2358 r2356.length c2359), (3, .bool true)] w2362 (by kernel_rfl) ?_
    refine W_nil ?_
    refine N_then ?_
    refine G_ret ?_
    obtain rfl := Option.some.inj hm
    refine N_ret [.slice p2358 r2356.length c2359, .bool true] (RVs_cons (RV_tmp (by kernel_rfl)) (RVs_cons (RV_tmp (by kernel_rfl)) RVs_nil)) ?_
    exact ⟨p2358, c2359, sg2360, rfl, ho2361, M2364.pick [1] (by kernel_rfl)⟩
theorem c_l_FnExactDirtyWords (w : World) (x1813 : Copying) (p1815 : Option Addr) (c1816 : Nat) (h1817 : rdS encI w x1813.Memory p1815 c1816) (p1819 : Option Addr) (c1820 : Nat) (h1821 : rdS encI w x1813.Copy p1819 c1820) (p1823 : Option Addr) (c1824 : Nat) (h1825 : rdS encB w x1813.Dirty p1823 c1824) {r : Bool} (hm : M.l_FnExactDirtyWords x1813 = some r) :
    Calls Try.prog 5 #[.agg #[.slice p1815 x1813.Memory.length c1816, .slice p1819 x1813.Copy.length c1820, .slice p1823 x1813.Dirty.length c1824]] w fun e w' => e = .returned (.bool r) ∧ Mem [] w w' [] := by
  unfold M.l_FnExactDirtyWords at hm
  refine C_enter Try.func5 rfl (by kernel_rfl) ?_
  have M0 := Mem.refl [] w
  refine G_seq ?_
  refine G_region ?_
  refine W_new (fun b => .pointer (some ⟨b, 0, none⟩)) (.cells ⟨[.slice p1815 x1813.Memory.length c1816, .slice p1819 x1813.Copy.length c1820, .slice p1823 x1813.Dirty.length c1824]⟩ 25 (0, 0)) M0 rfl (by kernel_rfl) (by kernel_rfl) ?_
  intro b1827 w1828 M1829
  refine W_run 1 [(1, .pointer (some ⟨b1827, 0, none⟩))] w1828 (by kernel_rfl) ?_
  refine W_nil ?_
  refine N_then ?_
  refine G_seq ?_
  refine G_region ?_
  refine W_run 1 [(1, .pointer (some ⟨b1827, 0, none⟩)), (3, .int .i64 1048576)] w1828 (by kernel_rfl) ?_
  refine W_nil ?_
  refine N_then ?_
  refine G_seq ?_
  refine G_region ?_
  refine W_val (.agg #[.slice p1815 x1813.Memory.length c1816, .slice p1819 x1813.Copy.length c1820, .slice p1823 x1813.Dirty.length c1824]) w1828 (by kernel_rfl) (E_load (e := 25) (fr := (0, 0)) _ _ true 3 b1827 0 [.slice p1815 x1813.Memory.length c1816, .slice p1819 x1813.Copy.length c1820, .slice p1823 x1813.Dirty.length c1824] (.agg #[.slice p1815 x1813.Memory.length c1816, .slice p1819 x1813.Copy.length c1820, .slice p1823 x1813.Dirty.length c1824]) rfl (by kernel_rfl) (by kernel_rfl) (by kernel_rfl) (M1829.blk 0 (b := b1827) (o := .cells ⟨[.slice p1815 x1813.Memory.length c1816, .slice p1819 x1813.Copy.length c1820, .slice p1823 x1813.Dirty.length c1824]⟩ 25 (0, 0)) (by kernel_rfl))) ?_
  refine W_run 1 [(1, .pointer (some ⟨b1827, 0, none⟩)), (3, .int .i64 1048576), (14, .agg #[.slice p1815 x1813.Memory.length c1816, .slice p1819 x1813.Copy.length c1820, .slice p1823 x1813.Dirty.length c1824]), (15, .int .i64 1048576)] w1828 (by kernel_rfl) ?_
  obtain ⟨r1830, hr1830, hm⟩ := gx_bind hm
  refine W_call 13 #[.agg #[.slice p1815 x1813.Memory.length c1816, .slice p1819 x1813.Copy.length c1820, .slice p1823 x1813.Dirty.length c1824], .int .i64 1048576] (by kernel_rfl) (by kernel_rfl) ?_
  refine (c_l_szCopying w1828 x1813 p1815 c1816 (h1817.mem0 M1829) p1819 c1820 (h1821.mem0 M1829) p1823 c1824 (h1825.mem0 M1829) 1048576 hr1830).mono ?_
  rintro e_ w1831 ⟨rfl, K1832⟩
  have M1833 := M1829.call0 K1832
  refine ⟨_, rfl, ?_⟩
  refine W_run 1 [(1, .pointer (some ⟨b1827, 0, none⟩)), (3, .int .i64 r1830)] w1831 (by kernel_rfl) ?_
  refine W_nil ?_
  refine N_then ?_
  refine G_seq ?_
  refine G_seq ?_
  refine G_region ?_
  refine W_run 2 [(1, .pointer (some ⟨b1827, 0, none⟩)), (18, .bool (decide (r1830 < 0)))] w1831 (by kernel_rfl) ?_
  refine W_nil ?_
  refine N_then ?_
  rcases gx_bif hm with ⟨hc1834, hm⟩ | ⟨hc1834, hm⟩
  · refine G_cond_t (b := (decide (r1830 < 0))) hc1834 (by kernel_rfl) ?_
    refine G_seq ?_
    refine G_region ?_
    refine W_run 1 [(2, .bool true)] w1831 (by kernel_rfl) ?_
    refine W_nil ?_
    refine N_then ?_
    refine G_ret ?_
    refine N_then_ret ?_
    obtain rfl := Option.some.inj hm
    refine N_ret [.bool true] (RVs_cons (RV_tmp (by kernel_rfl)) RVs_nil) ?_
    exact ⟨rfl, M1833.pick [] (by kernel_rfl)⟩
  · refine G_cond_f (b := (decide (r1830 < 0))) hc1834 (by kernel_rfl) ?_
    refine G_skip ?_
    refine N_then ?_
    refine G_seq ?_
    refine G_region ?_
    refine W_val (.agg #[.slice p1815 x1813.Memory.length c1816, .slice p1819 x1813.Copy.length c1820, .slice p1823 x1813.Dirty.length c1824]) w1831 (by kernel_rfl) (E_load (e := 25) (fr := (0, 0)) _ _ true 3 b1827 0 [.slice p1815 x1813.Memory.length c1816, .slice p1819 x1813.Copy.length c1820, .slice p1823 x1813.Dirty.length c1824] (.agg #[.slice p1815 x1813.Memory.length c1816, .slice p1819 x1813.Copy.length c1820, .slice p1823 x1813.Dirty.length c1824]) rfl (by kernel_rfl) (by kernel_rfl) (by kernel_rfl) (M1833.blk 0 (b := b1827) (o := .cells ⟨[.slice p1815 x1813.Memory.length c1816, .slice p1819 x1813.Copy.length c1820, .slice p1823 x1813.Dirty.length c1824]⟩ 25 (0, 0)) (by kernel_rfl))) ?_
    obtain ⟨r1835, hr1835, hm⟩ := gx_bind hm
    refine W_call 15 #[.agg #[.slice p1815 x1813.Memory.length c1816, .slice p1819 x1813.Copy.length c1820, .slice p1823 x1813.Dirty.length c1824]] (by kernel_rfl) (by kernel_rfl) ?_
    refine (c_l_toCopying w1831 x1813 p1815 c1816 (h1817.mem0 M1833) p1819 c1820 (h1821.mem0 M1833) p1823 c1824 (h1825.mem0 M1833) hr1835).mono ?_
    rintro e_ w1851 ⟨p1837, c1838, sg1839, p1842, c1843, sg1844, p1847, c1848, sg1849, rfl, ho1840, ho1845, ho1850, K1852⟩
    have M1853 := M1833.call K1852
    refine ⟨_, rfl, ?_⟩
    obtain ⟨r2094, hr2094, hm⟩ := gx_bind hm
    refine W_call 25 #[.agg #[.slice p1837 r1835.Memory.length c1838, .slice p1842 r1835.Copy.length c1843, .slice p1847 r1835.Dirty.length c1848]] (by kernel_rfl) (by kernel_rfl) ?_
    refine (c_s_DirtyWords w1851 r1835 p1837 c1838 (ho1840.rd M1853 1 (by kernel_rfl)) p1842 c1843 (ho1845.rd M1853 2 (by kernel_rfl)) p1847 c1848 (ho1850.rd M1853 3 (by kernel_rfl)) hr2094).mono ?_
    rintro e_ w2100 ⟨p2096, c2097, sg2098, rfl, ho2099, K2101⟩
    have M2102 := M1853.call K2101
    refine ⟨_, rfl, ?_⟩
    refine W_run 5 [(1, .pointer (some ⟨b1827, 0, none⟩)), (4, .slice p2096 r2094.1.length c2097), (5, .bool r2094.2)] w2100 (by kernel_rfl) ?_
    refine W_nil ?_
    refine N_then ?_
    refine G_seq ?_
    refine G_region ?_
    refine W_val (.agg #[.slice p1815 x1813.Memory.length c1816, .slice p1819 x1813.Copy.length c1820, .slice p1823 x1813.Dirty.length c1824]) w2100 (by kernel_rfl) (E_load (e := 25) (fr := (0, 0)) _ _ true 3 b1827 0 [.slice p1815 x1813.Memory.length c1816, .slice p1819 x1813.Copy.length c1820, .slice p1823 x1813.Dirty.length c1824] (.agg #[.slice p1815 x1813.Memory.length c1816, .slice p1819 x1813.Copy.length c1820, .slice p1823 x1813.Dirty.length c1824]) rfl (by kernel_rfl) (by kernel_rfl) (by kernel_rfl) (M2102.blk 0 (b := b1827) (o := .cells ⟨[.slice p1815 x1813.Memory.length c1816, .slice p1819 x1813.Copy.length c1820, .slice p1823 x1813.Dirty.length c1824]⟩ 25 (0, 0)) (by kernel_rfl))) ?_
    obtain ⟨r2103, hr2103, hm⟩ := gx_bind hm
    refine W_call 15 #[.agg #[.slice p1815 x1813.Memory.length c1816, .slice p1819 x1813.Copy.length c1820, .slice p1823 x1813.Dirty.length c1824]] (by kernel_rfl) (by kernel_rfl) ?_
    refine (c_l_toCopying w2100 x1813 p1815 c1816 (h1817.mem0 M2102) p1819 c1820 (h1821.mem0 M2102) p1823 c1824 (h1825.mem0 M2102) hr2103).mono ?_
    rintro e_ w2119 ⟨p2105, c2106, sg2107, p2110, c2111, sg2112, p2115, c2116, sg2117, rfl, ho2108, ho2113, ho2118, K2120⟩
    have M2121 := M2102.call K2120
    refine ⟨_, rfl, ?_⟩
    refine W_new (fun b => .pointer (some ⟨b, 0, none⟩)) (.cells ⟨[.slice none 0 0, .slice none 0 0, .slice none 0 0]⟩ 28 (0, 0)) M2121 rfl (by kernel_rfl) (by kernel_rfl) ?_
    intro b2126 w2127 M2128
    refine W_store _ _ _ true 3 b2126 0 [.slice none 0 0, .slice none 0 0, .slice none 0 0] 28 (.agg #[.slice p2105 r2103.Memory.length c2106, .slice p2110 r2103.Copy.length c2111, .slice p2115 r2103.Dirty.length c2116]) 8 [.slice p2105 r2103.Memory.length c2106, .slice p2110 r2103.Copy.length c2111, .slice p2115 r2103.Dirty.length c2116] M2128 (by kernel_rfl) rfl (by kernel_rfl) (by kernel_rfl) (by kernel_rfl) (by kernel_rfl) (by kernel_rfl) (by kernel_rfl) (by kernel_rfl) (by kernel_rfl) ?_
    intro w2129 M2130
    refine W_nil ?_
    refine N_then ?_
    refine G_seq ?_
    refine G_region ?_
    refine W_val (.agg #[.slice p2105 r2103.Memory.length c2106, .slice p2110 r2103.Copy.length c2111, .slice p2115 r2103.Dirty.length c2116]) w2129 (by kernel_rfl) (E_load (e := 28) (fr := (0, 0)) _ _ true 3 b2126 0 [.slice p2105 r2103.Memory.length c2106, .slice p2110 r2103.Copy.length c2111, .slice p2115 r2103.Dirty.length c2116] (.agg #[.slice p2105 r2103.Memory.length c2106, .slice p2110 r2103.Copy.length c2111, .slice p2115 r2103.Dirty.length c2116]) rfl (by kernel_rfl) (by kernel_rfl) (by kernel_rfl) (M2130.blk 8 (b := b2126) (o := .cells ⟨[.slice p2105 r2103.Memory.length c2106, .slice p2110 r2103.Copy.length c2111, .slice p2115 r2103.Dirty.length c2116]⟩ 28 (0, 0)) (by kernel_rfl))) ?_
    obtain ⟨r2365, hr2365, hm⟩ := gx_bind hm
    refine W_call 26 #[.agg #[.slice p2105 r2103.Memory.length c2106, .slice p2110 r2103.Copy.length c2111, .slice p2115 r2103.Dirty.length c2116]] (by kernel_rfl) (by kernel_rfl) ?_
    refine (c_i_DirtyWords w2129 r2103 p2105 c2106 (ho2108.rd M2130 5 (by kernel_rfl)) p2110 c2111 (ho2113.rd M2130 6 (by kernel_rfl)) p2115 c2116 (ho2118.rd M2130 7 (by kernel_rfl)) hr2365).mono ?_
    rintro e_ w2371 ⟨p2367, c2368, sg2369, rfl, ho2370, K2372⟩
    have M2373 := M2130.call K2372
    refine ⟨_, rfl, ?_⟩
    refine W_run 5 [(1, .pointer (some ⟨b1827, 0, none⟩)), (4, .slice p2096 r2094.1.length c2097), (5, .bool r2094.2), (6, .pointer (some ⟨b2126, 0, none⟩)), (7, .slice p2367 r2365.1.length c2368), (8, .bool r2365.2)] w2371 (by kernel_rfl) ?_
    refine W_nil ?_
    refine N_then ?_
    refine G_seq ?_
    refine G_seq ?_
    obtain ⟨o2379, ho2380, hm2381⟩ := gx_bind hm
    refine G_meet (fun a w' => Mem [] w w' [[(b1827, .cells ⟨[.slice p1815 x1813.Memory.length c1816, .slice p1819 x1813.Copy.length c1820, .slice p1823 x1813.Dirty.length c1824]⟩ 25 (0, 0))], sg2098, sg2107, sg2112, sg2117, [(b2126, .cells ⟨[.slice p2105 r2103.Memory.length c2106, .slice p2110 r2103.Copy.length c2111, .slice p2115 r2103.Dirty.length c2116]⟩ 28 (0, 0))], sg2369] ∧ Sat Try.f5.ntmps [(1, .pointer (some ⟨b1827, 0, none⟩)), (4, .slice p2096 r2094.1.length c2097), (5, .bool r2094.2), (6, .pointer (some ⟨b2126, 0, none⟩)), (7, .slice p2367 r2365.1.length c2368), (8, .bool r2365.2), (40, .bool o2379)] a) ?_ ?_
    · have hm := ho2380
      refine G_region ?_
      refine W_run 2 [(1, .pointer (some ⟨b1827, 0, none⟩)), (4, .slice p2096 r2094.1.length c2097), (5, .bool r2094.2), (6, .pointer (some ⟨b2126, 0, none⟩)), (7, .slice p2367 r2365.1.length c2368), (8, .bool r2365.2), (32, .slice p2367 r2365.1.length c2368), (33, .slice p2096 r2094.1.length c2097)] w2371 (by kernel_rfl) ?_
      obtain ⟨r2382, hr2382, hm⟩ := gx_bind hm
      refine W_call 21 #[.slice p2367 r2365.1.length c2368, .slice p2096 r2094.1.length c2097] (by kernel_rfl) (by kernel_rfl) ?_
      refine (c_l_eqIntS w2371 r2365.1 p2367 c2368 (ho2370.rd M2373 9 (by kernel_rfl)) r2094.1 p2096 c2097 (ho2099.rd M2373 4 (by kernel_rfl)) hr2382).mono ?_
      rintro e_ w2383 ⟨rfl, K2384⟩
      have M2385 := M2373.call0 K2384
      refine ⟨_, rfl, ?_⟩
      refine W_run 2 [(1, .pointer (some ⟨b1827, 0, none⟩)), (4, .slice p2096 r2094.1.length c2097), (5, .bool r2094.2), (6, .pointer (some ⟨b2126, 0, none⟩)), (7, .slice p2367 r2365.1.length c2368), (8, .bool r2365.2), (36, .bool (!r2382))] w2383 (by kernel_rfl) ?_
      rcases gx_bif hm with ⟨hc2386, hm⟩ | ⟨hc2386, hm⟩
      · refine W_known 36 true (by kernel_rfl) hc2386 ?_
        refine W_run 4 [(1, .pointer (some ⟨b1827, 0, none⟩)), (4, .slice p2096 r2094.1.length c2097), (5, .bool r2094.2), (6, .pointer (some ⟨b2126, 0, none⟩)), (7, .slice p2367 r2365.1.length c2368), (8, .bool r2365.2), (40, .bool true)] w2383 (by kernel_rfl) ?_
        refine W_nil ?_
        obtain rfl := Option.some.inj hm
        exact N_meet fun a ha => ⟨M2385.pick [0, 4, 5, 6, 7, 8, 9] (by kernel_rfl), ha.sub (by kernel_rfl)⟩
      · refine W_known 36 false (by kernel_rfl) hc2386 ?_
        refine W_run 4 [(1, .pointer (some ⟨b1827, 0, none⟩)), (4, .slice p2096 r2094.1.length c2097), (5, .bool r2094.2), (6, .pointer (some ⟨b2126, 0, none⟩)), (7, .slice p2367 r2365.1.length c2368), (8, .bool r2365.2), (40, .bool (!(r2365.2 == r2094.2)))] w2383 (by kernel_rfl) ?_
        refine W_nil ?_
        obtain rfl := Option.some.inj hm
        exact N_meet fun a ha => ⟨M2385.pick [0, 4, 5, 6, 7, 8, 9] (by kernel_rfl), ha.sub (by kernel_rfl)⟩
    · intro a2389 w2387 ⟨M2388, hS2390⟩
      refine N_use hS2390 ?_
      have hm := hm2381
      refine N_then ?_
      rcases gx_bif hm with ⟨hc2391, hm⟩ | ⟨hc2391, hm⟩
      · refine G_cond_t (b := o2379) hc2391 (by kernel_rfl) ?_
        refine G_seq ?_
        refine G_region ?_
        refine W_run 1 [(2, .bool false)] w2387 (by kernel_rfl) ?_
        refine W_nil ?_
        refine N_then ?_
        refine G_ret ?_
        refine N_then_ret ?_
        obtain rfl := Option.some.inj hm
        refine N_ret [.bool false] (RVs_cons (RV_tmp (by kernel_rfl)) RVs_nil) ?_
        exact ⟨rfl, M2388.pick [] (by kernel_rfl)⟩
      · refine G_cond_f (b := o2379) hc2391 (by kernel_rfl) ?_
        refine G_skip ?_
        refine N_then ?_
        refine G_seq ?_
        refine G_seq ?_
        obtain ⟨r2394, hr2394, hm⟩ := gx_bind hm
        refine G_sub [(1, .pointer (some ⟨b1827, 0, none⟩)), (4, .slice p2096 r2094.1.length c2097), (5, .bool r2094.2), (6, .pointer (some ⟨b2126, 0, none⟩)), (7, .slice p2367 r2365.1.length c2368), (8, .bool r2365.2), (40, .bool o2379)] (by kernel_rfl) ?_
        refine G_dagL 3 [[], [], [1]] [[], [], []] [[], [], []] [[], [], []] [[], [], []] [[], [], []] (fun _ => []) (fun i => ([fun f v s => v = (.agg #[.slice p2105 r2103.Memory.length c2106, .slice p2110 r2103.Copy.length c2111, .slice p2115 r2103.Dirty.length c2116] : Value) ∧ s = [], fun f v s => v = (.agg #[.slice p1815 x1813.Memory.length c1816, .slice p1819 x1813.Copy.length c1820, .slice p1823 x1813.Dirty.length c1824] : Value) ∧ s = [], fun f v s => ∃ (p2396 : Option Addr) (c2397 : Nat) (sg2398 : Seg), ∃ (p2401 : Option Addr) (c2402 : Nat) (sg2403 : Seg), ∃ (p2406 : Option Addr) (c2407 : Nat) (sg2408 : Seg), v = (.agg #[.slice p2396 r2394.Memory.length c2397, .slice p2401 r2394.Copy.length c2402, .slice p2406 r2394.Dirty.length c2407] : Value) ∧ s = (sg2398 ++ (sg2403 ++ sg2408)) ∧ ownS encI r2394.Memory p2396 c2397 sg2398 ∧ ownS encI r2394.Copy p2401 c2402 sg2403 ∧ ownS encB r2394.Dirty p2406 c2407 sg2408] : List ((Nat → Value) → Value → Seg → Prop)).getD i (fun _ _ _ => False)) (fun j f v => ∃ s, (fun i => ([fun f v s => v = (.agg #[.slice p2105 r2103.Memory.length c2106, .slice p2110 r2103.Copy.length c2111, .slice p2115 r2103.Dirty.length c2116] : Value) ∧ s = [], fun f v s => v = (.agg #[.slice p1815 x1813.Memory.length c1816, .slice p1819 x1813.Copy.length c1820, .slice p1823 x1813.Dirty.length c1824] : Value) ∧ s = [], fun f v s => ∃ (p2396 : Option Addr) (c2397 : Nat) (sg2398 : Seg), ∃ (p2401 : Option Addr) (c2402 : Nat) (sg2403 : Seg), ∃ (p2406 : Option Addr) (c2407 : Nat) (sg2408 : Seg), v = (.agg #[.slice p2396 r2394.Memory.length c2397, .slice p2401 r2394.Copy.length c2402, .slice p2406 r2394.Dirty.length c2407] : Value) ∧ s = (sg2398 ++ (sg2403 ++ sg2408)) ∧ ownS encI r2394.Memory p2396 c2397 sg2398 ∧ ownS encI r2394.Copy p2401 c2402 sg2403 ∧ ownS encB r2394.Dirty p2406 c2407 sg2408] : List ((Nat → Value) → Value → Seg → Prop)).getD i (fun _ _ _ => False)) j f v s) [] [0, 2] [2] (fun _ _ _ s h => ⟨s, h⟩) (by kernel_rfl) (by kernel_rfl) (M2388.preNil 3) (by kernel_rfl) (by kernel_rfl) (by kernel_rfl) (by kernel_rfl) (allOb_cons ?_ (allOb_cons ?_ (allOb_cons ?_ allOb_nil))) ?_
        · intro g2392 f2393
          intro R w2410 M2411
          refine W_val (.agg #[.slice p2105 r2103.Memory.length c2106, .slice p2110 r2103.Copy.length c2111, .slice p2115 r2103.Dirty.length c2116]) w2410 (by kernel_rfl) (E_load (e := 28) (fr := (0, 0)) _ _ true 3 b2126 0 [.slice p2105 r2103.Memory.length c2106, .slice p2110 r2103.Copy.length c2111, .slice p2115 r2103.Dirty.length c2116] (.agg #[.slice p2105 r2103.Memory.length c2106, .slice p2110 r2103.Copy.length c2111, .slice p2115 r2103.Dirty.length c2116]) rfl (by kernel_rfl) (by kernel_rfl) (by kernel_rfl) (M2411.blk 5 (b := b2126) (o := .cells ⟨[.slice p2105 r2103.Memory.length c2106, .slice p2110 r2103.Copy.length c2111, .slice p2115 r2103.Dirty.length c2116]⟩ 28 (0, 0)) (by kernel_rfl))) ?_
          exact W_nil (ob_end (.agg #[.slice p2105 r2103.Memory.length c2106, .slice p2110 r2103.Copy.length c2111, .slice p2115 r2103.Dirty.length c2116]) [] rfl (by kernel_rfl) ⟨by kernel_rfl, rfl⟩ M2411)
        · intro g2392 f2393
          intro R w2414 M2415
          refine W_val (.agg #[.slice p1815 x1813.Memory.length c1816, .slice p1819 x1813.Copy.length c1820, .slice p1823 x1813.Dirty.length c1824]) w2414 (by kernel_rfl) (E_load (e := 25) (fr := (0, 0)) _ _ true 3 b1827 0 [.slice p1815 x1813.Memory.length c1816, .slice p1819 x1813.Copy.length c1820, .slice p1823 x1813.Dirty.length c1824] (.agg #[.slice p1815 x1813.Memory.length c1816, .slice p1819 x1813.Copy.length c1820, .slice p1823 x1813.Dirty.length c1824]) rfl (by kernel_rfl) (by kernel_rfl) (by kernel_rfl) (M2415.blk 0 (b := b1827) (o := .cells ⟨[.slice p1815 x1813.Memory.length c1816, .slice p1819 x1813.Copy.length c1820, .slice p1823 x1813.Dirty.length c1824]⟩ 25 (0, 0)) (by kernel_rfl))) ?_
          exact W_nil (ob_end (.agg #[.slice p1815 x1813.Memory.length c1816, .slice p1819 x1813.Copy.length c1820, .slice p1823 x1813.Dirty.length c1824]) [] rfl (by kernel_rfl) ⟨by kernel_rfl, rfl⟩ M2415)
        · intro g2392 f2393
          intro v1_ hb1_
          obtain ⟨rfl, _⟩ := hb1_
          intro R w2418 M2419
          refine W_call 15 #[.agg #[.slice p1815 x1813.Memory.length c1816, .slice p1819 x1813.Copy.length c1820, .slice p1823 x1813.Dirty.length c1824]] (by kernel_rfl) (by kernel_rfl) ?_
          refine (c_l_toCopying w2418 x1813 p1815 c1816 (h1817.mem0 M2419) p1819 c1820 (h1821.mem0 M2419) p1823 c1824 (h1825.mem0 M2419) hr2394).mono ?_
          rintro e_ w2420 ⟨p2396, c2397, sg2398, p2401, c2402, sg2403, p2406, c2407, sg2408, rfl, ho2399, ho2404, ho2409, K2422⟩
          refine ⟨_, rfl, ?_⟩
          exact W_nil (ob_end (.agg #[.slice p2396 r2394.Memory.length c2397, .slice p2401 r2394.Copy.length c2402, .slice p2406 r2394.Dirty.length c2407]) (sg2398 ++ (sg2403 ++ sg2408)) rfl (by kernel_rfl) ⟨p2396, c2397, sg2398, p2401, c2402, sg2403, p2406, c2407, sg2408, rfl, rfl, ho2399, ho2404, ho2409⟩ (Mem.callMid M2419 (K2422.permF (by simp))))
        · intro g2392 f2393
          intro v0_ hb0_
          obtain ⟨rfl, _⟩ := hb0_
          intro v2_ hb2_
          obtain ⟨p2396, c2397, sg2398, p2401, c2402, sg2403, p2406, c2407, sg2408, rfl, hs2_, ho2399, ho2404, ho2409⟩ := hb2_
          intro w2423 M2424
          have M2425 : Mem [] w w2423 [[(b1827, .cells ⟨[.slice p1815 x1813.Memory.length c1816, .slice p1819 x1813.Copy.length c1820, .slice p1823 x1813.Dirty.length c1824]⟩ 25 (0, 0))], sg2098, sg2107, sg2112, sg2117, [(b2126, .cells ⟨[.slice p2105 r2103.Memory.length c2106, .slice p2110 r2103.Copy.length c2111, .slice p2115 r2103.Dirty.length c2116]⟩ 28 (0, 0))], sg2369, (g2392 2)] := M2424
          rw [hs2_] at M2425
          replace M2425 : Mem [] w w2423 [[(b1827, .cells ⟨[.slice p1815 x1813.Memory.length c1816, .slice p1819 x1813.Copy.length c1820, .slice p1823 x1813.Dirty.length c1824]⟩ 25 (0, 0))], sg2098, sg2107, sg2112, sg2117, [(b2126, .cells ⟨[.slice p2105 r2103.Memory.length c2106, .slice p2110 r2103.Copy.length c2111, .slice p2115 r2103.Dirty.length c2116]⟩ 28 (0, 0))], sg2369, sg2398, sg2403, sg2408] := M2425.permF (by simp)
          obtain ⟨r2426, hr2426, hm⟩ := gx_bind hm
          refine W_call 17 #[.agg #[.slice p2105 r2103.Memory.length c2106, .slice p2110 r2103.Copy.length c2111, .slice p2115 r2103.Dirty.length c2116], .agg #[.slice p2396 r2394.Memory.length c2397, .slice p2401 r2394.Copy.length c2402, .slice p2406 r2394.Dirty.length c2407]] (by kernel_rfl) (by kernel_rfl) ?_
          refine (c_l_eqCopying w2423 r2103 p2105 c2106 (ho2108.rd M2425 2 (by kernel_rfl)) p2110 c2111 (ho2113.rd M2425 3 (by kernel_rfl)) p2115 c2116 (ho2118.rd M2425 4 (by kernel_rfl)) r2394 p2396 c2397 (ho2399.rd M2425 7 (by kernel_rfl)) p2401 c2402 (ho2404.rd M2425 8 (by kernel_rfl)) p2406 c2407 (ho2409.rd M2425 9 (by kernel_rfl)) hr2426).mono ?_
          rintro e_ w2427 ⟨rfl, K2428⟩
          have M2429 := M2425.call0 K2428
          refine ⟨_, rfl, ?_⟩
          refine W_run 1 [(1, .pointer (some ⟨b1827, 0, none⟩)), (4, .slice p2096 r2094.1.length c2097), (5, .bool r2094.2), (6, .pointer (some ⟨b2126, 0, none⟩)), (7, .slice p2367 r2365.1.length c2368), (8, .bool r2365.2), (45, .bool (!r2426))] w2427 (by kernel_rfl) ?_
          refine W_nil ?_
          refine N_then ?_
          rcases gx_bif hm with ⟨hc2430, hm⟩ | ⟨hc2430, hm⟩
          · refine G_cond_t (b := (!r2426)) hc2430 (by kernel_rfl) ?_
            refine G_seq ?_
            refine G_region ?_
            refine W_run 1 [(2, .bool false)] w2427 (by kernel_rfl) ?_
            refine W_nil ?_
            refine N_then ?_
            refine G_ret ?_
            refine N_then_ret ?_
            obtain rfl := Option.some.inj hm
            refine N_ret [.bool false] (RVs_cons (RV_tmp (by kernel_rfl)) RVs_nil) ?_
            exact ⟨rfl, M2429.pick [] (by kernel_rfl)⟩
          · refine G_cond_f (b := (!r2426)) hc2430 (by kernel_rfl) ?_
            refine G_skip ?_
            refine N_then ?_
            refine G_seq ?_
            refine G_region ?_
            refine W_run 1 [(1, .pointer (some ⟨b1827, 0, none⟩)), (4, .slice p2096 r2094.1.length c2097), (5, .bool r2094.2), (6, .pointer (some ⟨b2126, 0, none⟩)), (7, .slice p2367 r2365.1.length c2368), (8, .bool r2365.2), (9, .int .i64 1)] w2427 (by kernel_rfl) ?_
            refine W_nil ?_
            refine N_then ?_
            refine G_seq ?_
            refine G_region ?_
            refine W_val (.agg #[.slice p2105 r2103.Memory.length c2106, .slice p2110 r2103.Copy.length c2111, .slice p2115 r2103.Dirty.length c2116]) w2427 (by kernel_rfl) (E_load (e := 28) (fr := (0, 0)) _ _ true 3 b2126 0 [.slice p2105 r2103.Memory.length c2106, .slice p2110 r2103.Copy.length c2111, .slice p2115 r2103.Dirty.length c2116] (.agg #[.slice p2105 r2103.Memory.length c2106, .slice p2110 r2103.Copy.length c2111, .slice p2115 r2103.Dirty.length c2116]) rfl (by kernel_rfl) (by kernel_rfl) (by kernel_rfl) (M2429.blk 5 (b := b2126) (o := .cells ⟨[.slice p2105 r2103.Memory.length c2106, .slice p2110 r2103.Copy.length c2111, .slice p2115 r2103.Dirty.length c2116]⟩ 28 (0, 0)) (by kernel_rfl))) ?_
            refine W_run 1 [(1, .pointer (some ⟨b1827, 0, none⟩)), (4, .slice p2096 r2094.1.length c2097), (5, .bool r2094.2), (7, .slice p2367 r2365.1.length c2368), (8, .bool r2365.2), (9, .int .i64 1), (46, .agg #[.slice p2105 r2103.Memory.length c2106, .slice p2110 r2103.Copy.length c2111, .slice p2115 r2103.Dirty.length c2116]), (47, .int .i64 1)] w2427 (by kernel_rfl) ?_
            obtain ⟨r2431, hr2431, hm⟩ := gx_bind hm
            refine W_call 23 #[.agg #[.slice p2105 r2103.Memory.length c2106, .slice p2110 r2103.Copy.length c2111, .slice p2115 r2103.Dirty.length c2116], .int .i64 1] (by kernel_rfl) (by kernel_rfl) ?_
            refine (c_l_markCopying w2427 r2103 p2105 c2106 sg2107 ho2108 p2110 c2111 sg2112 ho2113 p2115 c2116 sg2117 ho2118 1 (M2429.hasPick [2, 3, 4]) (M2429.nodupPick [2, 3, 4] (by kernel_rfl)) hr2431).mono ?_
            rintro e_ w2441 ⟨sg2432, sg2435, sg2438, rfl, ho2433, hl2434, ho2436, hl2437, ho2439, hl2440, K2442⟩
            have M2443 := M2429.callF' [2, 3, 4] [0, 1, 5, 6, 7, 8, 9] (by kernel_rfl) K2442
            refine ⟨_, rfl, ?_⟩
            refine W_conv 46 (.agg #[.slice p2105 r2103.Memory.length c2106, .slice p2110 r2103.Copy.length c2111, .slice p2115 r2103.Dirty.length c2116]) (.agg #[.slice p2105 r2431.2.1.length c2106, .slice p2110 r2431.2.2.1.length c2111, .slice p2115 r2431.2.2.2.length c2116]) (by kernel_rfl) (by first | rw [hl2434, hl2437, hl2440] | rw [hl2434] | rw [hl2437] | rw [hl2440]) ?_
            have M2444 : Mem [] w w2441 [[(b1827, .cells ⟨[.slice p1815 x1813.Memory.length c1816, .slice p1819 x1813.Copy.length c1820, .slice p1823 x1813.Dirty.length c1824]⟩ 25 (0, 0))], sg2098, [(b2126, .cells ⟨[.slice p2105 r2431.2.1.length c2106, .slice p2110 r2431.2.2.1.length c2111, .slice p2115 r2431.2.2.2.length c2116]⟩ 28 (0, 0))], sg2369, sg2398, sg2403, sg2408, sg2432, sg2435, sg2438] := by rw [hl2434, hl2437, hl2440]; exact M2443
            refine W_run 1 [(1, .pointer (some ⟨b1827, 0, none⟩)), (4, .slice p2096 r2094.1.length c2097), (5, .bool r2094.2), (7, .slice p2367 r2365.1.length c2368), (8, .bool r2365.2), (9, .int .i64 r2431.1)] w2441 (by kernel_rfl) ?_
            refine W_nil ?_
            refine N_then ?_
            refine G_seq ?_
            refine G_seq ?_
            obtain ⟨o2451, ho2452, hm2453⟩ := gx_bind hm
            refine G_meet (fun a w' => Mem [] w w' [[(b1827, .cells ⟨[.slice p1815 x1813.Memory.length c1816, .slice p1819 x1813.Copy.length c1820, .slice p1823 x1813.Dirty.length c1824]⟩ 25 (0, 0))], sg2098, sg2369] ∧ Sat Try.f5.ntmps [(1, .pointer (some ⟨b1827, 0, none⟩)), (4, .slice p2096 r2094.1.length c2097), (5, .bool r2094.2), (7, .slice p2367 r2365.1.length c2368), (61, .bool o2451)] a) ?_ ?_
            · have hm := ho2452
              refine G_region ?_
              refine W_run 3 [(1, .pointer (some ⟨b1827, 0, none⟩)), (4, .slice p2096 r2094.1.length c2097), (5, .bool r2094.2), (7, .slice p2367 r2365.1.length c2368), (8, .bool r2365.2), (51, .bool (decide (r2431.1 < 0)))] w2441 (by kernel_rfl) ?_
              rcases gx_bif hm with ⟨hc2454, hm⟩ | ⟨hc2454, hm⟩
              · refine W_known 51 true (by kernel_rfl) hc2454 ?_
                refine W_run 10 [(1, .pointer (some ⟨b1827, 0, none⟩)), (4, .slice p2096 r2094.1.length c2097), (5, .bool r2094.2), (7, .slice p2367 r2365.1.length c2368), (61, .bool true)] w2441 (by kernel_rfl) ?_
                refine W_nil ?_
                obtain rfl := Option.some.inj hm
                exact N_meet fun a ha => ⟨M2444.pick [0, 1, 3] (by kernel_rfl), ha.sub (by kernel_rfl)⟩
              · refine W_known 51 false (by kernel_rfl) hc2454 ?_
                refine W_run 2 [(1, .pointer (some ⟨b1827, 0, none⟩)), (4, .slice p2096 r2094.1.length c2097), (5, .bool r2094.2), (7, .slice p2367 r2365.1.length c2368), (8, .bool r2365.2), (51, .bool false), (52, .slice p2367 r2365.1.length c2368), (53, .slice p2096 r2094.1.length c2097)] w2441 (by kernel_rfl) ?_
                obtain ⟨r2455, hr2455, hm⟩ := gx_bind hm
                refine W_call 21 #[.slice p2367 r2365.1.length c2368, .slice p2096 r2094.1.length c2097] (by kernel_rfl) (by kernel_rfl) ?_
                refine (c_l_eqIntS w2441 r2365.1 p2367 c2368 (ho2370.rd M2444 3 (by kernel_rfl)) r2094.1 p2096 c2097 (ho2099.rd M2444 1 (by kernel_rfl)) hr2455).mono ?_
                rintro e_ w2456 ⟨rfl, K2457⟩
                have M2458 := M2444.call0 K2457
                refine ⟨_, rfl, ?_⟩
                refine W_run 3 [(1, .pointer (some ⟨b1827, 0, none⟩)), (4, .slice p2096 r2094.1.length c2097), (5, .bool r2094.2), (7, .slice p2367 r2365.1.length c2368), (8, .bool r2365.2), (57, .bool (!r2455))] w2456 (by kernel_rfl) ?_
                rcases gx_bif hm with ⟨hc2459, hm⟩ | ⟨hc2459, hm⟩
                · refine W_known 57 true (by kernel_rfl) hc2459 ?_
                  refine W_run 4 [(1, .pointer (some ⟨b1827, 0, none⟩)), (4, .slice p2096 r2094.1.length c2097), (5, .bool r2094.2), (7, .slice p2367 r2365.1.length c2368), (61, .bool true)] w2456 (by kernel_rfl) ?_
                  refine W_nil ?_
                  obtain rfl := Option.some.inj hm
                  exact N_meet fun a ha => ⟨M2458.pick [0, 1, 3] (by kernel_rfl), ha.sub (by kernel_rfl)⟩
                · refine W_known 57 false (by kernel_rfl) hc2459 ?_
                  refine W_run 4 [(1, .pointer (some ⟨b1827, 0, none⟩)), (4, .slice p2096 r2094.1.length c2097), (5, .bool r2094.2), (7, .slice p2367 r2365.1.length c2368), (61, .bool (!(r2365.2 == r2094.2)))] w2456 (by kernel_rfl) ?_
                  refine W_nil ?_
                  obtain rfl := Option.some.inj hm
                  exact N_meet fun a ha => ⟨M2458.pick [0, 1, 3] (by kernel_rfl), ha.sub (by kernel_rfl)⟩
            · intro a2462 w2460 ⟨M2461, hS2463⟩
              refine N_use hS2463 ?_
              have hm := hm2453
              refine N_then ?_
              rcases gx_bif hm with ⟨hc2464, hm⟩ | ⟨hc2464, hm⟩
              · refine G_cond_t (b := o2451) hc2464 (by kernel_rfl) ?_
                refine G_seq ?_
                refine G_region ?_
                refine W_run 1 [(2, .bool false)] w2460 (by kernel_rfl) ?_
                refine W_nil ?_
                refine N_then ?_
                refine G_ret ?_
                refine N_then_ret ?_
                obtain rfl := Option.some.inj hm
                refine N_ret [.bool false] (RVs_cons (RV_tmp (by kernel_rfl)) RVs_nil) ?_
                exact ⟨rfl, M2461.pick [] (by kernel_rfl)⟩
              · refine G_cond_f (b := o2451) hc2464 (by kernel_rfl) ?_
                refine G_skip ?_
                refine N_then ?_
                refine G_seq ?_
                refine G_region ?_
                refine W_run 1 [(1, .pointer (some ⟨b1827, 0, none⟩)), (4, .slice p2096 r2094.1.length c2097), (5, .bool r2094.2), (7, .slice p2367 r2365.1.length c2368), (10, .int .i64 1)] w2460 (by kernel_rfl) ?_
                refine W_nil ?_
                refine N_then ?_
                refine G_seq ?_
                refine G_region ?_
                refine W_run 2 [(1, .pointer (some ⟨b1827, 0, none⟩)), (4, .slice p2096 r2094.1.length c2097), (5, .bool r2094.2), (7, .slice p2367 r2365.1.length c2368), (10, .int .i64 1), (62, .slice p2367 r2365.1.length c2368), (63, .int .i64 1)] w2460 (by kernel_rfl) ?_
                obtain ⟨r2465, hr2465, hm⟩ := gx_bind hm
                refine W_call 22 #[.slice p2367 r2365.1.length c2368, .int .i64 1] (by kernel_rfl) (by kernel_rfl) ?_
                refine (c_l_markIntS w2460 r2365.1 p2367 c2368 sg2369 ho2370 1 (M2461.hasPick [2]) (M2461.nodupPick [2] (by kernel_rfl)) hr2465).mono ?_
                rintro e_ w2469 ⟨sg2466, rfl, ho2467, hl2468, K2470⟩
                have M2471 := M2461.callF' [2] [0, 1] (by kernel_rfl) K2470
                refine ⟨_, rfl, ?_⟩
                refine W_conv 7 (.slice p2367 r2365.1.length c2368) (.slice p2367 r2465.2.length c2368) (by kernel_rfl) (by first | rw [hl2468] | rw [hl2468]) ?_
                refine W_conv 62 (.slice p2367 r2365.1.length c2368) (.slice p2367 r2465.2.length c2368) (by kernel_rfl) (by first | rw [hl2468] | rw [hl2468]) ?_
                refine W_run 1 [(1, .pointer (some ⟨b1827, 0, none⟩)), (4, .slice p2096 r2094.1.length c2097), (5, .bool r2094.2), (7, .slice p2367 r2465.2.length c2368), (10, .int .i64 r2465.1)] w2469 (by kernel_rfl) ?_
                refine W_nil ?_
                refine N_then ?_
                refine G_seq ?_
                refine G_region ?_
                refine W_run 1 [(1, .pointer (some ⟨b1827, 0, none⟩)), (4, .slice p2096 r2094.1.length c2097), (5, .bool r2094.2), (7, .slice p2367 r2465.2.length c2368), (10, .int .i64 r2465.1), (11, .int .i64 1)] w2469 (by kernel_rfl) ?_
                refine W_nil ?_
                refine N_then ?_
                refine G_seq ?_
                refine G_region ?_
                refine W_run 2 [(1, .pointer (some ⟨b1827, 0, none⟩)), (4, .slice p2096 r2094.1.length c2097), (5, .bool r2094.2), (7, .slice p2367 r2465.2.length c2368), (10, .int .i64 r2465.1), (11, .int .i64 1), (65, .slice p2367 r2465.2.length c2368), (66, .int .i64 1)] w2469 (by kernel_rfl) ?_
                obtain ⟨r2472, hr2472, hm⟩ := gx_bind hm
                refine W_call 27 #[.slice p2367 r2465.2.length c2368, .int .i64 1] (by kernel_rfl) (by kernel_rfl) ?_
                refine (c_l_heldIntS w2469 r2465.2 p2367 c2368 (ho2467.rd M2471 2 (by kernel_rfl)) 1 hr2472).mono ?_
                rintro e_ w2473 ⟨rfl, K2474⟩
                have M2475 := M2471.call0 K2474
                refine ⟨_, rfl, ?_⟩
                refine W_run 1 [(1, .pointer (some ⟨b1827, 0, none⟩)), (4, .slice p2096 r2094.1.length c2097), (5, .bool r2094.2), (7, .slice p2367 r2465.2.length c2368), (10, .int .i64 r2465.1), (11, .int .i64 r2472)] w2473 (by kernel_rfl) ?_
                refine W_nil ?_
                refine N_then ?_
                refine G_seq ?_
                refine G_seq ?_
                refine G_region ?_
                refine W_run 2 [(1, .pointer (some ⟨b1827, 0, none⟩)), (4, .slice p2096 r2094.1.length c2097), (5, .bool r2094.2), (7, .slice p2367 r2465.2.length c2368), (10, .int .i64 r2465.1), (11, .int .i64 r2472), (69, .bool (decide (r2472 < 0)))] w2473 (by kernel_rfl) ?_
                refine W_nil ?_
                refine N_then ?_
                rcases gx_bif hm with ⟨hc2476, hm⟩ | ⟨hc2476, hm⟩
                · refine G_cond_t (b := (decide (r2472 < 0))) hc2476 (by kernel_rfl) ?_
                  refine G_seq ?_
                  refine G_region ?_
                  refine W_run 1 [(2, .bool false)] w2473 (by kernel_rfl) ?_
                  refine W_nil ?_
                  refine N_then ?_
                  refine G_ret ?_
                  refine N_then_ret ?_
                  obtain rfl := Option.some.inj hm
                  refine N_ret [.bool false] (RVs_cons (RV_tmp (by kernel_rfl)) RVs_nil) ?_
                  exact ⟨rfl, M2475.pick [] (by kernel_rfl)⟩
                · refine G_cond_f (b := (decide (r2472 < 0))) hc2476 (by kernel_rfl) ?_
                  refine G_skip ?_
                  refine N_then ?_
                  refine G_seq ?_
                  refine G_seq ?_
                  refine G_region ?_
                  refine W_run 3 [(1, .pointer (some ⟨b1827, 0, none⟩)), (4, .slice p2096 r2094.1.length c2097), (5, .bool r2094.2), (7, .slice p2367 r2465.2.length c2368), (10, .int .i64 r2465.1), (72, .bool (r2472 != r2465.1))] w2473 (by kernel_rfl) ?_
                  refine W_nil ?_
                  refine N_then ?_
                  rcases gx_bif hm with ⟨hc2477, hm⟩ | ⟨hc2477, hm⟩
                  · refine G_cond_t (b := (r2472 != r2465.1)) hc2477 (by kernel_rfl) ?_
                    refine G_seq ?_
                    refine G_region ?_
                    refine W_run 1 [(2, .bool false)] w2473 (by kernel_rfl) ?_
                    refine W_nil ?_
                    refine N_then ?_
                    refine G_ret ?_
                    refine N_then_ret ?_
                    obtain rfl := Option.some.inj hm
                    refine N_ret [.bool false] (RVs_cons (RV_tmp (by kernel_rfl)) RVs_nil) ?_
                    exact ⟨rfl, M2475.pick [] (by kernel_rfl)⟩
                  · refine G_cond_f (b := (r2472 != r2465.1)) hc2477 (by kernel_rfl) ?_
                    refine G_skip ?_
                    refine N_then ?_
                    refine G_seq ?_
                    refine G_region ?_
                    refine W_val (.agg #[.slice p1815 x1813.Memory.length c1816, .slice p1819 x1813.Copy.length c1820, .slice p1823 x1813.Dirty.length c1824]) w2473 (by kernel_rfl) (E_load (e := 25) (fr := (0, 0)) _ _ true 3 b1827 0 [.slice p1815 x1813.Memory.length c1816, .slice p1819 x1813.Copy.length c1820, .slice p1823 x1813.Dirty.length c1824] (.agg #[.slice p1815 x1813.Memory.length c1816, .slice p1819 x1813.Copy.length c1820, .slice p1823 x1813.Dirty.length c1824]) rfl (by kernel_rfl) (by kernel_rfl) (by kernel_rfl) (M2475.blk 0 (b := b1827) (o := .cells ⟨[.slice p1815 x1813.Memory.length c1816, .slice p1819 x1813.Copy.length c1820, .slice p1823 x1813.Dirty.length c1824]⟩ 25 (0, 0)) (by kernel_rfl))) ?_
                    obtain ⟨r2478, hr2478, hm⟩ := gx_bind hm
                    refine W_call 15 #[.agg #[.slice p1815 x1813.Memory.length c1816, .slice p1819 x1813.Copy.length c1820, .slice p1823 x1813.Dirty.length c1824]] (by kernel_rfl) (by kernel_rfl) ?_
                    refine (c_l_toCopying w2473 x1813 p1815 c1816 (h1817.mem0 M2475) p1819 c1820 (h1821.mem0 M2475) p1823 c1824 (h1825.mem0 M2475) hr2478).mono ?_
                    rintro e_ w2494 ⟨p2480, c2481, sg2482, p2485, c2486, sg2487, p2490, c2491, sg2492, rfl, ho2483, ho2488, ho2493, K2495⟩
                    have M2496 := M2475.call K2495
                    refine ⟨_, rfl, ?_⟩
                    obtain ⟨r2497, hr2497, hm⟩ := gx_bind hm
                    refine W_call 26 #[.agg #[.slice p2480 r2478.Memory.length c2481, .slice p2485 r2478.Copy.length c2486, .slice p2490 r2478.Dirty.length c2491]] (by kernel_rfl) (by kernel_rfl) ?_
                    refine (c_i_DirtyWords w2494 r2478 p2480 c2481 (ho2483.rd M2496 3 (by kernel_rfl)) p2485 c2486 (ho2488.rd M2496 4 (by kernel_rfl)) p2490 c2491 (ho2493.rd M2496 5 (by kernel_rfl)) hr2497).mono ?_
                    rintro e_ w2503 ⟨p2499, c2500, sg2501, rfl, ho2502, K2504⟩
                    have M2505 := M2496.call K2504
                    refine ⟨_, rfl, ?_⟩
                    refine W_run 5 [(4, .slice p2096 r2094.1.length c2097), (5, .bool r2094.2), (7, .slice p2367 r2465.2.length c2368), (10, .int .i64 r2465.1), (12, .slice p2499 r2497.1.length c2500), (13, .bool r2497.2)] w2503 (by kernel_rfl) ?_
                    refine W_nil ?_
                    refine N_then ?_
                    refine G_seq ?_
                    refine G_seq ?_
                    obtain ⟨o2511, ho2512, hm2513⟩ := gx_bind hm
                    refine G_meet (fun a w' => Mem [] w w' [sg2466] ∧ Sat Try.f5.ntmps [(7, .slice p2367 r2465.2.length c2368), (10, .int .i64 r2465.1), (87, .bool o2511)] a) ?_ ?_
                    · have hm := ho2512
                      refine G_region ?_
                      refine W_run 2 [(5, .bool r2094.2), (7, .slice p2367 r2465.2.length c2368), (10, .int .i64 r2465.1), (13, .bool r2497.2), (79, .slice p2499 r2497.1.length c2500), (80, .slice p2096 r2094.1.length c2097)] w2503 (by kernel_rfl) ?_
                      obtain ⟨r2514, hr2514, hm⟩ := gx_bind hm
                      refine W_call 21 #[.slice p2499 r2497.1.length c2500, .slice p2096 r2094.1.length c2097] (by kernel_rfl) (by kernel_rfl) ?_
                      refine (c_l_eqIntS w2503 r2497.1 p2499 c2500 (ho2502.rd M2505 6 (by kernel_rfl)) r2094.1 p2096 c2097 (ho2099.rd M2505 1 (by kernel_rfl)) hr2514).mono ?_
                      rintro e_ w2515 ⟨rfl, K2516⟩
                      have M2517 := M2505.call0 K2516
                      refine ⟨_, rfl, ?_⟩
                      refine W_run 2 [(5, .bool r2094.2), (7, .slice p2367 r2465.2.length c2368), (10, .int .i64 r2465.1), (13, .bool r2497.2), (83, .bool (!r2514))] w2515 (by kernel_rfl) ?_
                      rcases gx_bif hm with ⟨hc2518, hm⟩ | ⟨hc2518, hm⟩
                      · refine W_known 83 true (by kernel_rfl) hc2518 ?_
                        refine W_run 4 [(7, .slice p2367 r2465.2.length c2368), (10, .int .i64 r2465.1), (87, .bool true)] w2515 (by kernel_rfl) ?_
                        refine W_nil ?_
                        obtain rfl := Option.some.inj hm
                        exact N_meet fun a ha => ⟨M2517.pick [2] (by kernel_rfl), ha.sub (by kernel_rfl)⟩
                      · refine W_known 83 false (by kernel_rfl) hc2518 ?_
                        refine W_run 4 [(7, .slice p2367 r2465.2.length c2368), (10, .int .i64 r2465.1), (87, .bool (!(r2497.2 == r2094.2)))] w2515 (by kernel_rfl) ?_
                        refine W_nil ?_
                        obtain rfl := Option.some.inj hm
                        exact N_meet fun a ha => ⟨M2517.pick [2] (by kernel_rfl), ha.sub (by kernel_rfl)⟩
                    · intro a2521 w2519 ⟨M2520, hS2522⟩
                      refine N_use hS2522 ?_
                      have hm := hm2513
                      refine N_then ?_
                      rcases gx_bif hm with ⟨hc2523, hm⟩ | ⟨hc2523, hm⟩
                      · refine G_cond_t (b := o2511) hc2523 (by kernel_rfl) ?_
                        refine G_seq ?_
                        refine G_region ?_
                        refine W_run 1 [(2, .bool false)] w2519 (by kernel_rfl) ?_
                        refine W_nil ?_
                        refine N_then ?_
                        refine G_ret ?_
                        refine N_then_ret ?_
                        obtain rfl := Option.some.inj hm
                        refine N_ret [.bool false] (RVs_cons (RV_tmp (by kernel_rfl)) RVs_nil) ?_
                        exact ⟨rfl, M2520.pick [] (by kernel_rfl)⟩
                      · refine G_cond_f (b := o2511) hc2523 (by kernel_rfl) ?_
                        refine G_skip ?_
                        refine N_then ?_
                        refine G_seq ?_
                        refine G_region ?_
                        refine W_run 1 [(7, .slice p2367 r2465.2.length c2368), (10, .int .i64 r2465.1), (11, .int .i64 1)] w2519 (by kernel_rfl) ?_
                        refine W_nil ?_
                        refine N_then ?_
                        refine G_seq ?_
                        refine G_region ?_
                        refine W_run 2 [(10, .int .i64 r2465.1), (11, .int .i64 1), (88, .slice p2367 r2465.2.length c2368), (89, .int .i64 1)] w2519 (by kernel_rfl) ?_
                        obtain ⟨r2524, hr2524, hm⟩ := gx_bind hm
                        refine W_call 27 #[.slice p2367 r2465.2.length c2368, .int .i64 1] (by kernel_rfl) (by kernel_rfl) ?_
                        refine (c_l_heldIntS w2519 r2465.2 p2367 c2368 (ho2467.rd M2520 0 (by kernel_rfl)) 1 hr2524).mono ?_
                        rintro e_ w2525 ⟨rfl, K2526⟩
                        have M2527 := M2520.call0 K2526
                        refine ⟨_, rfl, ?_⟩
                        refine W_run 1 [(10, .int .i64 r2465.1), (11, .int .i64 r2524)] w2525 (by kernel_rfl) ?_
                        refine W_nil ?_
                        refine N_then ?_
                        refine G_seq ?_
                        refine G_seq ?_
                        refine G_region ?_
                        refine W_run 2 [(10, .int .i64 r2465.1), (11, .int .i64 r2524), (92, .bool (decide (r2524 < 0)))] w2525 (by kernel_rfl) ?_
                        refine W_nil ?_
                        refine N_then ?_
                        rcases gx_bif hm with ⟨hc2528, hm⟩ | ⟨hc2528, hm⟩
                        · refine G_cond_t (b := (decide (r2524 < 0))) hc2528 (by kernel_rfl) ?_
                          refine G_seq ?_
                          refine G_region ?_
                          refine W_run 1 [(2, .bool false)] w2525 (by kernel_rfl) ?_
                          refine W_nil ?_
                          refine N_then ?_
                          refine G_ret ?_
                          refine N_then_ret ?_
                          obtain rfl := Option.some.inj hm
                          refine N_ret [.bool false] (RVs_cons (RV_tmp (by kernel_rfl)) RVs_nil) ?_
                          exact ⟨rfl, M2527.pick [] (by kernel_rfl)⟩
                        · refine G_cond_f (b := (decide (r2524 < 0))) hc2528 (by kernel_rfl) ?_
                          refine G_skip ?_
                          refine N_then ?_
                          refine G_seq ?_
                          refine G_seq ?_
                          refine G_region ?_
                          refine W_run 3 [(95, .bool (r2524 != r2465.1))] w2525 (by kernel_rfl) ?_
                          refine W_nil ?_
                          refine N_then ?_
                          rcases gx_bif hm with ⟨hc2529, hm⟩ | ⟨hc2529, hm⟩
                          · refine G_cond_t (b := (r2524 != r2465.1)) hc2529 (by kernel_rfl) ?_
                            refine G_seq ?_
                            refine G_region ?_
                            refine W_run 1 [(2, .bool false)] w2525 (by kernel_rfl) ?_
                            refine W_nil ?_
                            refine N_then ?_
                            refine G_ret ?_
                            refine N_then_ret ?_
                            obtain rfl := Option.some.inj hm
                            refine N_ret [.bool false] (RVs_cons (RV_tmp (by kernel_rfl)) RVs_nil) ?_
                            exact ⟨rfl, M2527.pick [] (by kernel_rfl)⟩
                          · refine G_cond_f (b := (r2524 != r2465.1)) hc2529 (by kernel_rfl) ?_
                            refine G_skip ?_
                            refine N_then ?_
                            refine G_seq ?_
                            refine G_region ?_
                            refine W_run 1 [(2, .bool true)] w2525 (by kernel_rfl) ?_
                            refine W_nil ?_
                            refine N_then ?_
                            refine G_ret ?_
                            obtain rfl := Option.some.inj hm
                            refine N_ret [.bool true] (RVs_cons (RV_tmp (by kernel_rfl)) RVs_nil) ?_
                            exact ⟨rfl, M2527.pick [] (by kernel_rfl)⟩
theorem c_s_l19Own (w : World) (x2642 : Copying) (p2644 : Option Addr) (c2645 : Nat) (h2646 : rdS encI w x2642.Memory p2644 c2645) (p2648 : Option Addr) (c2649 : Nat) (h2650 : rdS encI w x2642.Copy p2648 c2649) (p2652 : Option Addr) (c2653 : Nat) (h2654 : rdS encB w x2642.Dirty p2652 c2653) {r : Copying} (hm : M.s_l19Own x2642 = some r) :
    Calls Try.prog 96 #[.agg #[.slice p2644 x2642.Memory.length c2645, .slice p2648 x2642.Copy.length c2649, .slice p2652 x2642.Dirty.length c2653]] w fun e w' => ∃ (p2656 : Option Addr) (c2657 : Nat) (sg2658 : Seg), ∃ (p2660 : Option Addr) (c2661 : Nat) (sg2662 : Seg), ∃ (p2664 : Option Addr) (c2665 : Nat) (sg2666 : Seg), e = .returned (.agg #[.slice p2656 r.Memory.length c2657, .slice p2660 r.Copy.length c2661, .slice p2664 r.Dirty.length c2665]) ∧ ownS encI r.Memory p2656 c2657 sg2658 ∧ ownS encI r.Copy p2660 c2661 sg2662 ∧ ownS encB r.Dirty p2664 c2665 sg2666 ∧ Mem [] w w' [sg2658, sg2662, sg2666] := by
  unfold M.s_l19Own at hm
  refine C_enter Try.func96 rfl (by kernel_rfl) ?_
  have M0 := Mem.refl [] w
  refine G_seq ?_
  refine G_region ?_
  refine W_new (fun b => .pointer (some ⟨b, 0, none⟩)) (.cells ⟨[.slice p2644 x2642.Memory.length c2645, .slice p2648 x2642.Copy.length c2649, .slice p2652 x2642.Dirty.length c2653]⟩ 28 (0, 0)) M0 rfl (by kernel_rfl) (by kernel_rfl) ?_
  intro b2668 w2669 M2670
  refine W_new (fun b => .pointer (some ⟨b, 0, none⟩)) (.cells ⟨[.slice none 0 0, .slice none 0 0, .slice none 0 0]⟩ 28 (0, 0)) M2670 rfl (by kernel_rfl) (by kernel_rfl) ?_
  intro b2675 w2676 M2677
  refine W_nil ?_
  refine N_then ?_
  refine G_seq ?_
  obtain ⟨r2680, hr2680, hm⟩ := gx_bind hm
  obtain ⟨r2686, hr2686, hm⟩ := gx_bind hm
  refine G_sub [(0, .agg #[.slice p2644 x2642.Memory.length c2645, .slice p2648 x2642.Copy.length c2649, .slice p2652 x2642.Dirty.length c2653]), (1, .pointer (some ⟨b2668, 0, none⟩)), (2, .pointer (some ⟨b2675, 0, none⟩))] (by kernel_rfl) ?_
  refine G_dagL 9 [[], [0], [1], [], [3], [4], [], [], [7]] [[], [], [], [], [], [], [], [], []] [[], [], [], [], [], [], [], [], []] [[], [], [], [], [], [], [], [], []] [[], [], [], [], [], [], [], [], []] [[], [], [], [], [], [], [], [], []] (fun _ => []) (fun i => ([fun f v s => v = (.pointer (some ⟨b2668, 0, none⟩) : Value) ∧ s = [], fun f v s => v = (.slice p2644 x2642.Memory.length c2645 : Value) ∧ s = [], fun f v s => ∃ (p2682 : Option Addr) (c2683 : Nat), v = (.slice p2682 r2680.length c2683 : Value) ∧ ownS encI r2680 p2682 c2683 s, fun f v s => v = (.pointer (some ⟨b2668, 1, none⟩) : Value) ∧ s = [], fun f v s => v = (.slice p2648 x2642.Copy.length c2649 : Value) ∧ s = [], fun f v s => ∃ (p2688 : Option Addr) (c2689 : Nat), v = (.slice p2688 r2686.length c2689 : Value) ∧ ownS encI r2686 p2688 c2689 s, fun f v s => ∃ (p2693 : Option Addr) (c2694 : Nat), v = (.slice p2693 ([] : List Bool).length c2694 : Value) ∧ ownS encB ([] : List Bool) p2693 c2694 s, fun f v s => v = (.pointer (some ⟨b2668, 2, none⟩) : Value) ∧ s = [], fun f v s => v = (.slice p2652 x2642.Dirty.length c2653 : Value) ∧ s = []] : List ((Nat → Value) → Value → Seg → Prop)).getD i (fun _ _ _ => False)) (fun j f v => ∃ s, (fun i => ([fun f v s => v = (.pointer (some ⟨b2668, 0, none⟩) : Value) ∧ s = [], fun f v s => v = (.slice p2644 x2642.Memory.length c2645 : Value) ∧ s = [], fun f v s => ∃ (p2682 : Option Addr) (c2683 : Nat), v = (.slice p2682 r2680.length c2683 : Value) ∧ ownS encI r2680 p2682 c2683 s, fun f v s => v = (.pointer (some ⟨b2668, 1, none⟩) : Value) ∧ s = [], fun f v s => v = (.slice p2648 x2642.Copy.length c2649 : Value) ∧ s = [], fun f v s => ∃ (p2688 : Option Addr) (c2689 : Nat), v = (.slice p2688 r2686.length c2689 : Value) ∧ ownS encI r2686 p2688 c2689 s, fun f v s => ∃ (p2693 : Option Addr) (c2694 : Nat), v = (.slice p2693 ([] : List Bool).length c2694 : Value) ∧ ownS encB ([] : List Bool) p2693 c2694 s, fun f v s => v = (.pointer (some ⟨b2668, 2, none⟩) : Value) ∧ s = [], fun f v s => v = (.slice p2652 x2642.Dirty.length c2653 : Value) ∧ s = []] : List ((Nat → Value) → Value → Seg → Prop)).getD i (fun _ _ _ => False)) j f v s) [] [2, 5, 6, 8] [2, 5, 6] (fun _ _ _ s h => ⟨s, h⟩) (by kernel_rfl) (by kernel_rfl) (M2677.preNil 9) (by kernel_rfl) (by kernel_rfl) (by kernel_rfl) (by kernel_rfl) (allOb_cons ?_ (allOb_cons ?_ (allOb_cons ?_ (allOb_cons ?_ (allOb_cons ?_ (allOb_cons ?_ (allOb_cons ?_ (allOb_cons ?_ (allOb_cons ?_ allOb_nil))))))))) ?_
  · intro g2678 f2679
    intro R w2697 M2698
    refine W_run 1 [(3, .pointer (some ⟨b2668, 0, none⟩))] w2697 (by kernel_rfl) ?_
    exact W_nil (ob_end (.pointer (some ⟨b2668, 0, none⟩)) [] rfl (by kernel_rfl) ⟨by kernel_rfl, rfl⟩ M2698)
  · intro g2678 f2679
    intro v0_ hb0_
    obtain ⟨rfl, _⟩ := hb0_
    intro R w2701 M2702
    refine W_val (.slice p2644 x2642.Memory.length c2645) w2701 (by kernel_rfl) (E_load (e := 28) (fr := (0, 0)) _ _ false 1 b2668 0 [.slice p2644 x2642.Memory.length c2645, .slice p2648 x2642.Copy.length c2649, .slice p2652 x2642.Dirty.length c2653] (.slice p2644 x2642.Memory.length c2645) rfl (by kernel_rfl) (by kernel_rfl) (by kernel_rfl) (M2702.blk 0 (b := b2668) (o := .cells ⟨[.slice p2644 x2642.Memory.length c2645, .slice p2648 x2642.Copy.length c2649, .slice p2652 x2642.Dirty.length c2653]⟩ 28 (0, 0)) (by kernel_rfl))) ?_
    exact W_nil (ob_end (.slice p2644 x2642.Memory.length c2645) [] rfl (by kernel_rfl) ⟨by kernel_rfl, rfl⟩ M2702)
  · intro g2678 f2679
    intro v1_ hb1_
    obtain ⟨rfl, _⟩ := hb1_
    intro R w2705 M2706
    refine W_call 61 #[.slice p2644 x2642.Memory.length c2645] (by kernel_rfl) (by kernel_rfl) ?_
    refine (c_s_l1Own w2705 x2642.Memory p2644 c2645 (h2646.mem0 M2706) hr2680).mono ?_
    rintro e_ w2707 ⟨p2682, c2683, sg2684, rfl, ho2685, K2709⟩
    refine ⟨_, rfl, ?_⟩
    exact W_nil (ob_end (.slice p2682 r2680.length c2683) sg2684 rfl (by kernel_rfl) ⟨p2682, c2683, rfl, ho2685⟩ (Mem.callMid M2706 K2709))
  · intro g2678 f2679
    intro R w2710 M2711
    refine W_run 1 [(6, .pointer (some ⟨b2668, 1, none⟩))] w2710 (by kernel_rfl) ?_
    exact W_nil (ob_end (.pointer (some ⟨b2668, 1, none⟩)) [] rfl (by kernel_rfl) ⟨by kernel_rfl, rfl⟩ M2711)
  · intro g2678 f2679
    intro v3_ hb3_
    obtain ⟨rfl, _⟩ := hb3_
    intro R w2714 M2715
    refine W_val (.slice p2648 x2642.Copy.length c2649) w2714 (by kernel_rfl) (E_load (e := 28) (fr := (0, 0)) _ _ false 1 b2668 1 [.slice p2644 x2642.Memory.length c2645, .slice p2648 x2642.Copy.length c2649, .slice p2652 x2642.Dirty.length c2653] (.slice p2648 x2642.Copy.length c2649) rfl (by kernel_rfl) (by kernel_rfl) (by kernel_rfl) (M2715.blk 0 (b := b2668) (o := .cells ⟨[.slice p2644 x2642.Memory.length c2645, .slice p2648 x2642.Copy.length c2649, .slice p2652 x2642.Dirty.length c2653]⟩ 28 (0, 0)) (by kernel_rfl))) ?_
    exact W_nil (ob_end (.slice p2648 x2642.Copy.length c2649) [] rfl (by kernel_rfl) ⟨by kernel_rfl, rfl⟩ M2715)
  · intro g2678 f2679
    intro v4_ hb4_
    obtain ⟨rfl, _⟩ := hb4_
    intro R w2718 M2719
    refine W_call 61 #[.slice p2648 x2642.Copy.length c2649] (by kernel_rfl) (by kernel_rfl) ?_
    refine (c_s_l1Own w2718 x2642.Copy p2648 c2649 (h2650.mem0 M2719) hr2686).mono ?_
    rintro e_ w2720 ⟨p2688, c2689, sg2690, rfl, ho2691, K2722⟩
    refine ⟨_, rfl, ?_⟩
    exact W_nil (ob_end (.slice p2688 r2686.length c2689) sg2690 rfl (by kernel_rfl) ⟨p2688, c2689, rfl, ho2691⟩ (Mem.callMid M2719 K2722))
  · intro g2678 f2679
    intro R w2723 M2724
    refine W_lit (E := encB) ([] : List Bool) 0 [] 4 M2724 (by kernel_rfl) (by kernel_rfl) (by kernel_rfl) (by kernel_rfl) (by kernel_rfl) ?_
    intro p2693 c2694 sg2695 w2725 ho2696 M2726
    exact W_nil (ob_end (.slice p2693 ([] : List Bool).length c2694) sg2695 rfl (by kernel_rfl) ⟨p2693, c2694, rfl, ho2696⟩ (Mem.mid M2726))
  · intro g2678 f2679
    intro R w2727 M2728
    refine W_run 1 [(10, .pointer (some ⟨b2668, 2, none⟩))] w2727 (by kernel_rfl) ?_
    exact W_nil (ob_end (.pointer (some ⟨b2668, 2, none⟩)) [] rfl (by kernel_rfl) ⟨by kernel_rfl, rfl⟩ M2728)
  · intro g2678 f2679
    intro v7_ hb7_
    obtain ⟨rfl, _⟩ := hb7_
    intro R w2731 M2732
    refine W_val (.slice p2652 x2642.Dirty.length c2653) w2731 (by kernel_rfl) (E_load (e := 28) (fr := (0, 0)) _ _ false 1 b2668 2 [.slice p2644 x2642.Memory.length c2645, .slice p2648 x2642.Copy.length c2649, .slice p2652 x2642.Dirty.length c2653] (.slice p2652 x2642.Dirty.length c2653) rfl (by kernel_rfl) (by kernel_rfl) (by kernel_rfl) (M2732.blk 0 (b := b2668) (o := .cells ⟨[.slice p2644 x2642.Memory.length c2645, .slice p2648 x2642.Copy.length c2649, .slice p2652 x2642.Dirty.length c2653]⟩ 28 (0, 0)) (by kernel_rfl))) ?_
    exact W_nil (ob_end (.slice p2652 x2642.Dirty.length c2653) [] rfl (by kernel_rfl) ⟨by kernel_rfl, rfl⟩ M2732)
  · intro g2678 f2679
    intro v2_ hb2_
    obtain ⟨p2682, c2683, rfl, ho2685⟩ := hb2_
    intro v5_ hb5_
    obtain ⟨p2688, c2689, rfl, ho2691⟩ := hb5_
    intro v6_ hb6_
    obtain ⟨p2693, c2694, rfl, ho2696⟩ := hb6_
    intro v8_ hb8_
    obtain ⟨rfl, _⟩ := hb8_
    intro w2735 M2736
    have M2737 : Mem [] w w2735 [[(b2668, .cells ⟨[.slice p2644 x2642.Memory.length c2645, .slice p2648 x2642.Copy.length c2649, .slice p2652 x2642.Dirty.length c2653]⟩ 28 (0, 0))], [(b2675, .cells ⟨[.slice none 0 0, .slice none 0 0, .slice none 0 0]⟩ 28 (0, 0))], (g2678 2), (g2678 5), (g2678 6)] := M2736
    obtain ⟨ap2738, hap2738, hm⟩ := gx_bind hm
    refine W_append (E := encB) _ _ _ 1 [.bool false] 4 c2653 M2737 ho2696 (by kernel_rfl) (by kernel_rfl) (by kernel_rfl) rfl (by kernel_rfl) (by kernel_rfl) (by kernel_rfl) (by kernel_rfl) (by kernel_rfl) (by kernel_rfl) (h2654.mem0 M2737) hap2738 ?_
    intro p2739 c2740 sg2741 w2742 ho2743 M2744
    refine W_run 1 [(2, .pointer (some ⟨b2675, 0, none⟩)), (13, .agg #[.slice p2682 r2680.length c2683, .slice p2688 r2686.length c2689, .slice p2739 ap2738.length c2740])] w2742 (by kernel_rfl) ?_
    refine W_store _ _ _ true 3 b2675 0 [.slice none 0 0, .slice none 0 0, .slice none 0 0] 28 (.agg #[.slice p2682 r2680.length c2683, .slice p2688 r2686.length c2689, .slice p2739 ap2738.length c2740]) 1 [.slice p2682 r2680.length c2683, .slice p2688 r2686.length c2689, .slice p2739 ap2738.length c2740] M2744 (by kernel_rfl) rfl (by kernel_rfl) (by kernel_rfl) (by kernel_rfl) (by kernel_rfl) (by kernel_rfl) (by kernel_rfl) (by kernel_rfl) (by kernel_rfl) ?_
    intro w2749 M2750
    refine W_nil ?_
    refine N_then ?_
    refine G_ret ?_
    obtain rfl := Option.some.inj hm
    refine N_ret [.agg #[.slice p2682 r2680.length c2683, .slice p2688 r2686.length c2689, .slice p2739 ap2738.length c2740]] (RVs_cons (RV_cell (g := true) (k := 3) (b := b2675) (off := 0) (cs := [.slice p2682 r2680.length c2683, .slice p2688 r2686.length c2689, .slice p2739 ap2738.length c2740]) (e := 28) (fr := (0, 0)) (v := .agg #[.slice p2682 r2680.length c2683, .slice p2688 r2686.length c2689, .slice p2739 ap2738.length c2740]) (M2750.blk 1 (b := b2675) (o := .cells ⟨[.slice p2682 r2680.length c2683, .slice p2688 r2686.length c2689, .slice p2739 ap2738.length c2740]⟩ 28 (0, 0)) (by kernel_rfl)) (by kernel_rfl) (by kernel_rfl) (by kernel_rfl)) RVs_nil) ?_
    exact ⟨p2682, c2683, (g2678 2), p2688, c2689, (g2678 5), p2739, c2740, sg2741, rfl, ho2685, ho2691, ho2743, M2750.pick [2, 3, 4] (by kernel_rfl)⟩
theorem c_s_l19Round (w : World) (x2605 : Copying) (p2607 : Option Addr) (c2608 : Nat) (h2609 : rdS encI w x2605.Memory p2607 c2608) (p2611 : Option Addr) (c2612 : Nat) (h2613 : rdS encI w x2605.Copy p2611 c2612) (p2615 : Option Addr) (c2616 : Nat) (h2617 : rdS encB w x2605.Dirty p2615 c2616) (x2618 : Int) {r : Copying × Int} (hm : M.s_l19Round x2605 x2618 = some r) :
    Calls Try.prog 67 #[.agg #[.slice p2607 x2605.Memory.length c2608, .slice p2611 x2605.Copy.length c2612, .slice p2615 x2605.Dirty.length c2616], .int .i64 x2618] w fun e w' => ∃ (p2620 : Option Addr) (c2621 : Nat) (sg2622 : Seg), ∃ (p2624 : Option Addr) (c2625 : Nat) (sg2626 : Seg), ∃ (p2628 : Option Addr) (c2629 : Nat) (sg2630 : Seg), e = .returned (.tuple #[.agg #[.slice p2620 r.1.Memory.length c2621, .slice p2624 r.1.Copy.length c2625, .slice p2628 r.1.Dirty.length c2629], .int .i64 r.2]) ∧ ownS encI r.1.Memory p2620 c2621 sg2622 ∧ ownS encI r.1.Copy p2624 c2625 sg2626 ∧ ownS encB r.1.Dirty p2628 c2629 sg2630 ∧ Mem [] w w' [sg2622, sg2626, sg2630] := by
  unfold M.s_l19Round at hm
  refine C_enter Try.func67 rfl (by kernel_rfl) ?_
  have M0 := Mem.refl [] w
  refine G_seq ?_
  refine G_region ?_
  refine W_new (fun b => .pointer (some ⟨b, 0, none⟩)) (.cells ⟨[.slice p2607 x2605.Memory.length c2608, .slice p2611 x2605.Copy.length c2612, .slice p2615 x2605.Dirty.length c2616]⟩ 28 (0, 0)) M0 rfl (by kernel_rfl) (by kernel_rfl) ?_
  intro b2632 w2633 M2634
  refine W_new (fun b => .pointer (some ⟨b, 0, none⟩)) (.cells ⟨[.slice none 0 0, .slice none 0 0, .slice none 0 0]⟩ 28 (0, 0)) M2634 rfl (by kernel_rfl) (by kernel_rfl) ?_
  intro b2639 w2640 M2641
  refine W_run 1 [(1, .int .i64 x2618), (2, .pointer (some ⟨b2632, 0, none⟩)), (4, .pointer (some ⟨b2639, 0, none⟩))] w2640 (by kernel_rfl) ?_
  refine W_nil ?_
  refine N_then ?_
  refine G_seq ?_
  refine G_region ?_
  refine W_val (.agg #[.slice p2607 x2605.Memory.length c2608, .slice p2611 x2605.Copy.length c2612, .slice p2615 x2605.Dirty.length c2616]) w2640 (by kernel_rfl) (E_load (e := 28) (fr := (0, 0)) _ _ true 3 b2632 0 [.slice p2607 x2605.Memory.length c2608, .slice p2611 x2605.Copy.length c2612, .slice p2615 x2605.Dirty.length c2616] (.agg #[.slice p2607 x2605.Memory.length c2608, .slice p2611 x2605.Copy.length c2612, .slice p2615 x2605.Dirty.length c2616]) rfl (by kernel_rfl) (by kernel_rfl) (by kernel_rfl) (M2641.blk 0 (b := b2632) (o := .cells ⟨[.slice p2607 x2605.Memory.length c2608, .slice p2611 x2605.Copy.length c2612, .slice p2615 x2605.Dirty.length c2616]⟩ 28 (0, 0)) (by kernel_rfl))) ?_
  obtain ⟨r2751, hr2751, hm⟩ := gx_bind hm
  refine W_call 96 #[.agg #[.slice p2607 x2605.Memory.length c2608, .slice p2611 x2605.Copy.length c2612, .slice p2615 x2605.Dirty.length c2616]] (by kernel_rfl) (by kernel_rfl) ?_
  refine (c_s_l19Own w2640 x2605 p2607 c2608 (h2609.mem0 M2641) p2611 c2612 (h2613.mem0 M2641) p2615 c2616 (h2617.mem0 M2641) hr2751).mono ?_
  rintro e_ w2767 ⟨p2753, c2754, sg2755, p2758, c2759, sg2760, p2763, c2764, sg2765, rfl, ho2756, ho2761, ho2766, K2768⟩
  have M2769 := M2641.call K2768
  refine ⟨_, rfl, ?_⟩
  refine W_new (fun b => .pointer (some ⟨b, 0, none⟩)) (.cells ⟨[.slice none 0 0, .slice none 0 0, .slice none 0 0]⟩ 28 (0, 0)) M2769 rfl (by kernel_rfl) (by kernel_rfl) ?_
  intro b2774 w2775 M2776
  refine W_store _ _ _ true 3 b2774 0 [.slice none 0 0, .slice none 0 0, .slice none 0 0] 28 (.agg #[.slice p2753 r2751.Memory.length c2754, .slice p2758 r2751.Copy.length c2759, .slice p2763 r2751.Dirty.length c2764]) 5 [.slice p2753 r2751.Memory.length c2754, .slice p2758 r2751.Copy.length c2759, .slice p2763 r2751.Dirty.length c2764] M2776 (by kernel_rfl) rfl (by kernel_rfl) (by kernel_rfl) (by kernel_rfl) (by kernel_rfl) (by kernel_rfl) (by kernel_rfl) (by kernel_rfl) (by kernel_rfl) ?_
  intro w2777 M2778
  refine W_run 1 [(1, .int .i64 x2618), (2, .pointer (some ⟨b2632, 0, none⟩)), (4, .pointer (some ⟨b2639, 0, none⟩)), (6, .pointer (some ⟨b2774, 0, none⟩)), (7, .int .i64 0)] w2777 (by kernel_rfl) ?_
  refine W_nil ?_
  refine N_then ?_
  refine G_seq ?_
  refine G_seq ?_
  refine G_region ?_
  refine W_run 1 [(1, .int .i64 x2618), (2, .pointer (some ⟨b2632, 0, none⟩)), (4, .pointer (some ⟨b2639, 0, none⟩)), (6, .pointer (some ⟨b2774, 0, none⟩)), (7, .int .i64 0), (8, .int .i64 0)] w2777 (by kernel_rfl) ?_
  refine W_nil ?_
  refine N_then ?_
  obtain ⟨out3038, hw3039, hmo3040⟩ := gx_bind hm
  refine G_meet (fun a w' => ∃ (sg3046 : Seg), ∃ (sg3048 : Seg), ownS encI out3038.2.1 p2758 c2759 sg3046 ∧ ownS encB out3038.2.2 p2763 c2764 sg3048 ∧ Mem [] w w' [[(b2639, .cells ⟨[.slice none 0 0, .slice none 0 0, .slice none 0 0]⟩ 28 (0, 0))], sg2755, [(b2774, .cells ⟨[.slice p2753 r2751.Memory.length c2754, .slice p2758 out3038.2.1.length c2759, .slice p2763 out3038.2.2.length c2764]⟩ 28 (0, 0))], sg3046, sg3048] ∧ Sat Try.f67.ntmps [(4, .pointer (some ⟨b2639, 0, none⟩)), (6, .pointer (some ⟨b2774, 0, none⟩)), (7, .int .i64 out3038.1)] a) ?_ ?_
  · refine G_block ?_
    refine G_while (σ := Int × Int × List Int × List Bool) (ρ := Int × List Int × List Bool) (fun s3031 a w' => ∃ (sg3041 : Seg), ∃ (sg3043 : Seg), ownS encI s3031.2.2.1 p2758 c2759 sg3041 ∧ ownS encB s3031.2.2.2 p2763 c2764 sg3043 ∧ Mem [] w w' [[(b2632, .cells ⟨[.slice p2607 x2605.Memory.length c2608, .slice p2611 x2605.Copy.length c2612, .slice p2615 x2605.Dirty.length c2616]⟩ 28 (0, 0))], [(b2639, .cells ⟨[.slice none 0 0, .slice none 0 0, .slice none 0 0]⟩ 28 (0, 0))], sg2755, [(b2774, .cells ⟨[.slice p2753 r2751.Memory.length c2754, .slice p2758 s3031.2.2.1.length c2759, .slice p2763 s3031.2.2.2.length c2764]⟩ 28 (0, 0))], sg3041, sg3043] ∧ Sat Try.f67.ntmps [(1, .int .i64 x2618), (2, .pointer (some ⟨b2632, 0, none⟩)), (4, .pointer (some ⟨b2639, 0, none⟩)), (6, .pointer (some ⟨b2774, 0, none⟩)), (7, .int .i64 s3031.1), (8, .int .i64 s3031.2.1)] a) hw3039 (fun a ha => ⟨sg2760, sg2765, ho2761, ho2766, M2778.pick [0, 1, 2, 5, 3, 4] (by kernel_rfl), ha.sub (by kernel_rfl)⟩) ?_
    clear hm
    intro s3031 x3032 hm hout3033 a3034 w3035 ⟨sg3041, sg3043, ho3042, ho3044, M3036, hS3037⟩
    refine G_use hS3037 ?_
    refine G_seq ?_
    refine G_seq ?_
    obtain ⟨o3051, ho3052, hm3053⟩ := gx_bind hm
    refine G_meet (fun a w' => Mem [] w w' [[(b2632, .cells ⟨[.slice p2607 x2605.Memory.length c2608, .slice p2611 x2605.Copy.length c2612, .slice p2615 x2605.Dirty.length c2616]⟩ 28 (0, 0))], [(b2639, .cells ⟨[.slice none 0 0, .slice none 0 0, .slice none 0 0]⟩ 28 (0, 0))], sg2755, [(b2774, .cells ⟨[.slice p2753 r2751.Memory.length c2754, .slice p2758 s3031.2.2.1.length c2759, .slice p2763 s3031.2.2.2.length c2764]⟩ 28 (0, 0))], sg3041, sg3043] ∧ Sat Try.f67.ntmps [(1, .int .i64 x2618), (2, .pointer (some ⟨b2632, 0, none⟩)), (4, .pointer (some ⟨b2639, 0, none⟩)), (6, .pointer (some ⟨b2774, 0, none⟩)), (7, .int .i64 s3031.1), (8, .int .i64 s3031.2.1), (20, .bool o3051)] a) ?_ ?_
    · have hm := ho3052
      refine G_region ?_
      refine W_run 2 [(1, .int .i64 x2618), (2, .pointer (some ⟨b2632, 0, none⟩)), (4, .pointer (some ⟨b2639, 0, none⟩)), (6, .pointer (some ⟨b2774, 0, none⟩)), (7, .int .i64 s3031.1), (8, .int .i64 s3031.2.1), (11, .int .i64 s3031.2.1), (12, .pointer (some ⟨b2632, 2, none⟩))] w3035 (by kernel_rfl) ?_
      refine W_val (.slice p2615 x2605.Dirty.length c2616) w3035 (by kernel_rfl) (E_load (e := 28) (fr := (0, 0)) _ _ false 1 b2632 2 [.slice p2607 x2605.Memory.length c2608, .slice p2611 x2605.Copy.length c2612, .slice p2615 x2605.Dirty.length c2616] (.slice p2615 x2605.Dirty.length c2616) rfl (by kernel_rfl) (by kernel_rfl) (by kernel_rfl) (M3036.blk 0 (b := b2632) (o := .cells ⟨[.slice p2607 x2605.Memory.length c2608, .slice p2611 x2605.Copy.length c2612, .slice p2615 x2605.Dirty.length c2616]⟩ 28 (0, 0)) (by kernel_rfl))) ?_
      refine W_run 3 [(1, .int .i64 x2618), (2, .pointer (some ⟨b2632, 0, none⟩)), (4, .pointer (some ⟨b2639, 0, none⟩)), (6, .pointer (some ⟨b2774, 0, none⟩)), (7, .int .i64 s3031.1), (8, .int .i64 s3031.2.1), (16, .bool (decide (s3031.2.1 < (x2605.Dirty.length : Int))))] w3035 (by kernel_rfl) ?_
      rcases gx_bif hm with ⟨hc3054, hm⟩ | ⟨hc3054, hm⟩
      · refine W_known 16 true (by kernel_rfl) hc3054 ?_
        refine W_run 4 [(1, .int .i64 x2618), (2, .pointer (some ⟨b2632, 0, none⟩)), (4, .pointer (some ⟨b2639, 0, none⟩)), (6, .pointer (some ⟨b2774, 0, none⟩)), (7, .int .i64 s3031.1), (8, .int .i64 s3031.2.1), (20, .bool (decide (s3031.1 < x2618)))] w3035 (by kernel_rfl) ?_
        refine W_nil ?_
        obtain rfl := Option.some.inj hm
        exact N_meet fun a ha => ⟨M3036.pick [0, 1, 2, 3, 4, 5] (by kernel_rfl), ha.sub (by kernel_rfl)⟩
      · refine W_known 16 false (by kernel_rfl) hc3054 ?_
        refine W_run 4 [(1, .int .i64 x2618), (2, .pointer (some ⟨b2632, 0, none⟩)), (4, .pointer (some ⟨b2639, 0, none⟩)), (6, .pointer (some ⟨b2774, 0, none⟩)), (7, .int .i64 s3031.1), (8, .int .i64 s3031.2.1), (20, .bool false)] w3035 (by kernel_rfl) ?_
        refine W_nil ?_
        obtain rfl := Option.some.inj hm
        exact N_meet fun a ha => ⟨M3036.pick [0, 1, 2, 3, 4, 5] (by kernel_rfl), ha.sub (by kernel_rfl)⟩
    · intro a3057 w3055 ⟨M3056, hS3058⟩
      refine N_use hS3058 ?_
      have hm := hm3053
      refine N_then ?_
      rcases gx_bif hm with ⟨hc3059, hm⟩ | ⟨hc3059, hm⟩
      · refine G_cond_t (b := o3051) hc3059 (by kernel_rfl) ?_
        refine G_skip ?_
        refine N_then ?_
        refine G_seq ?_
        refine G_block ?_
        refine G_seq ?_
        refine G_region ?_
        refine W_run 1 [(1, .int .i64 x2618), (2, .pointer (some ⟨b2632, 0, none⟩)), (4, .pointer (some ⟨b2639, 0, none⟩)), (6, .pointer (some ⟨b2774, 0, none⟩)), (7, .int .i64 s3031.1), (8, .int .i64 s3031.2.1), (23, .pointer (some ⟨b2632, 2, none⟩))] w3055 (by kernel_rfl) ?_
        refine W_val (.slice p2615 x2605.Dirty.length c2616) w3055 (by kernel_rfl) (E_load (e := 28) (fr := (0, 0)) _ _ false 1 b2632 2 [.slice p2607 x2605.Memory.length c2608, .slice p2611 x2605.Copy.length c2612, .slice p2615 x2605.Dirty.length c2616] (.slice p2615 x2605.Dirty.length c2616) rfl (by kernel_rfl) (by kernel_rfl) (by kernel_rfl) (M3056.blk 0 (b := b2632) (o := .cells ⟨[.slice p2607 x2605.Memory.length c2608, .slice p2611 x2605.Copy.length c2612, .slice p2615 x2605.Dirty.length c2616]⟩ 28 (0, 0)) (by kernel_rfl))) ?_
        refine W_run 1 [(1, .int .i64 x2618), (2, .pointer (some ⟨b2632, 0, none⟩)), (4, .pointer (some ⟨b2639, 0, none⟩)), (6, .pointer (some ⟨b2774, 0, none⟩)), (7, .int .i64 s3031.1), (8, .int .i64 s3031.2.1), (24, .slice p2615 x2605.Dirty.length c2616), (25, .int .i64 s3031.2.1)] w3055 (by kernel_rfl) ?_
        obtain ⟨y3060, hy3060, hm⟩ := gx_bind hm
        refine W_val (elemP p2615 (s3031.2.1.toNat * 1)) w3055 (by kernel_rfl) (E_index (E := encB) _ _ _ x2605.Dirty.length c2616 .i64 s3031.2.1 1 (y := y3060) rfl (by kernel_rfl) (by kernel_rfl) (by kernel_rfl) (h2617.mem0 M3056) rfl hy3060) ?_
        refine W_val (.bool y3060) w3055 (by kernel_rfl) (E_loadE (E := encB) _ _ false 1 s3031.2.1 0 (s3031.2.1.toNat * 1) y3060 (.bool y3060) rfl (by kernel_rfl) (by kernel_rfl) (by kernel_rfl) (h2617.mem0 M3056) hy3060 rfl) ?_
        refine W_nil ?_
        refine N_then ?_
        obtain ⟨o3112, ho3113, hm3114⟩ := gx_bind hm
        refine G_meet (fun a w' => ∃ (sg3115 : Seg), ∃ (sg3117 : Seg), ownS encI o3112.2.1 p2758 c2759 sg3115 ∧ ownS encB o3112.2.2 p2763 c2764 sg3117 ∧ Mem [] w w' [[(b2632, .cells ⟨[.slice p2607 x2605.Memory.length c2608, .slice p2611 x2605.Copy.length c2612, .slice p2615 x2605.Dirty.length c2616]⟩ 28 (0, 0))], [(b2639, .cells ⟨[.slice none 0 0, .slice none 0 0, .slice none 0 0]⟩ 28 (0, 0))], sg2755, [(b2774, .cells ⟨[.slice p2753 r2751.Memory.length c2754, .slice p2758 o3112.2.1.length c2759, .slice p2763 o3112.2.2.length c2764]⟩ 28 (0, 0))], sg3115, sg3117] ∧ Sat Try.f67.ntmps [(1, .int .i64 x2618), (2, .pointer (some ⟨b2632, 0, none⟩)), (4, .pointer (some ⟨b2639, 0, none⟩)), (6, .pointer (some ⟨b2774, 0, none⟩)), (7, .int .i64 o3112.1), (8, .int .i64 s3031.2.1)] a) ?_ ?_
        · have hm := ho3113
          rcases gx_bif hm with ⟨hc3119, hm⟩ | ⟨hc3119, hm⟩
          · refine G_cond_t (b := y3060) hc3119 (by kernel_rfl) ?_
            refine G_seq ?_
            obtain ⟨y3122, hy3122, hm⟩ := gx_bind hm
            refine G_sub [(1, .int .i64 x2618), (2, .pointer (some ⟨b2632, 0, none⟩)), (4, .pointer (some ⟨b2639, 0, none⟩)), (6, .pointer (some ⟨b2774, 0, none⟩)), (7, .int .i64 s3031.1), (8, .int .i64 s3031.2.1), (24, .slice p2615 x2605.Dirty.length c2616), (25, .int .i64 s3031.2.1), (26, elemP p2615 (s3031.2.1.toNat * 1)), (27, .bool y3060)] (by kernel_rfl) ?_
            refine G_dagL 8 [[], [0], [], [], [3], [], [4, 5], [6]] [[], [], [], [], [], [], [], []] [[], [], [], [], [], [], [], []] [[], [], [], [], [], [], [], []] [[], [], [], [], [], [], [], []] [[], [], [], [], [], [], [], []] (fun _ => []) (fun i => ([fun f v s => v = (.pointer (some ⟨b2774, 1, none⟩) : Value) ∧ s = [], fun f v s => v = (.slice p2758 s3031.2.2.1.length c2759 : Value) ∧ s = [], fun f v s => v = (.int .i64 s3031.2.1 : Value) ∧ s = [], fun f v s => v = (.pointer (some ⟨b2632, 0, none⟩) : Value) ∧ s = [], fun f v s => v = (.slice p2607 x2605.Memory.length c2608 : Value) ∧ s = [], fun f v s => v = (.int .i64 s3031.2.1 : Value) ∧ s = [], fun f v s => v = (elemP p2607 (s3031.2.1.toNat * 1) : Value) ∧ s = [], fun f v s => v = (.int .i64 y3122 : Value) ∧ s = []] : List ((Nat → Value) → Value → Seg → Prop)).getD i (fun _ _ _ => False)) (fun j f v => ∃ s, (fun i => ([fun f v s => v = (.pointer (some ⟨b2774, 1, none⟩) : Value) ∧ s = [], fun f v s => v = (.slice p2758 s3031.2.2.1.length c2759 : Value) ∧ s = [], fun f v s => v = (.int .i64 s3031.2.1 : Value) ∧ s = [], fun f v s => v = (.pointer (some ⟨b2632, 0, none⟩) : Value) ∧ s = [], fun f v s => v = (.slice p2607 x2605.Memory.length c2608 : Value) ∧ s = [], fun f v s => v = (.int .i64 s3031.2.1 : Value) ∧ s = [], fun f v s => v = (elemP p2607 (s3031.2.1.toNat * 1) : Value) ∧ s = [], fun f v s => v = (.int .i64 y3122 : Value) ∧ s = []] : List ((Nat → Value) → Value → Seg → Prop)).getD i (fun _ _ _ => False)) j f v s) [] [1, 2, 7] [] (fun _ _ _ s h => ⟨s, h⟩) (by kernel_rfl) (by kernel_rfl) (M3056.preNil 8) (by kernel_rfl) (by kernel_rfl) (by kernel_rfl) (by kernel_rfl) (allOb_cons ?_ (allOb_cons ?_ (allOb_cons ?_ (allOb_cons ?_ (allOb_cons ?_ (allOb_cons ?_ (allOb_cons ?_ (allOb_cons ?_ allOb_nil)))))))) ?_
            · intro g3120 f3121
              intro R w3123 M3124
              refine W_run 1 [(28, .pointer (some ⟨b2774, 1, none⟩))] w3123 (by kernel_rfl) ?_
              exact W_nil (ob_end (.pointer (some ⟨b2774, 1, none⟩)) [] rfl (by kernel_rfl) ⟨by kernel_rfl, rfl⟩ M3124)
            · intro g3120 f3121
              intro v0_ hb0_
              obtain ⟨rfl, _⟩ := hb0_
              intro R w3127 M3128
              refine W_val (.slice p2758 s3031.2.2.1.length c2759) w3127 (by kernel_rfl) (E_load (e := 28) (fr := (0, 0)) _ _ false 1 b2774 1 [.slice p2753 r2751.Memory.length c2754, .slice p2758 s3031.2.2.1.length c2759, .slice p2763 s3031.2.2.2.length c2764] (.slice p2758 s3031.2.2.1.length c2759) rfl (by kernel_rfl) (by kernel_rfl) (by kernel_rfl) (M3128.blk 3 (b := b2774) (o := .cells ⟨[.slice p2753 r2751.Memory.length c2754, .slice p2758 s3031.2.2.1.length c2759, .slice p2763 s3031.2.2.2.length c2764]⟩ 28 (0, 0)) (by kernel_rfl))) ?_
              exact W_nil (ob_end (.slice p2758 s3031.2.2.1.length c2759) [] rfl (by kernel_rfl) ⟨by kernel_rfl, rfl⟩ M3128)
            · intro g3120 f3121
              intro R w3131 M3132
              refine W_run 1 [(30, .int .i64 s3031.2.1)] w3131 (by kernel_rfl) ?_
              exact W_nil (ob_end (.int .i64 s3031.2.1) [] rfl (by kernel_rfl) ⟨by kernel_rfl, rfl⟩ M3132)
            · intro g3120 f3121
              intro R w3135 M3136
              refine W_run 1 [(31, .pointer (some ⟨b2632, 0, none⟩))] w3135 (by kernel_rfl) ?_
              exact W_nil (ob_end (.pointer (some ⟨b2632, 0, none⟩)) [] rfl (by kernel_rfl) ⟨by kernel_rfl, rfl⟩ M3136)
            · intro g3120 f3121
              intro v3_ hb3_
              obtain ⟨rfl, _⟩ := hb3_
              intro R w3139 M3140
              refine W_val (.slice p2607 x2605.Memory.length c2608) w3139 (by kernel_rfl) (E_load (e := 28) (fr := (0, 0)) _ _ false 1 b2632 0 [.slice p2607 x2605.Memory.length c2608, .slice p2611 x2605.Copy.length c2612, .slice p2615 x2605.Dirty.length c2616] (.slice p2607 x2605.Memory.length c2608) rfl (by kernel_rfl) (by kernel_rfl) (by kernel_rfl) (M3140.blk 0 (b := b2632) (o := .cells ⟨[.slice p2607 x2605.Memory.length c2608, .slice p2611 x2605.Copy.length c2612, .slice p2615 x2605.Dirty.length c2616]⟩ 28 (0, 0)) (by kernel_rfl))) ?_
              exact W_nil (ob_end (.slice p2607 x2605.Memory.length c2608) [] rfl (by kernel_rfl) ⟨by kernel_rfl, rfl⟩ M3140)
            · intro g3120 f3121
              intro R w3143 M3144
              refine W_run 1 [(33, .int .i64 s3031.2.1)] w3143 (by kernel_rfl) ?_
              exact W_nil (ob_end (.int .i64 s3031.2.1) [] rfl (by kernel_rfl) ⟨by kernel_rfl, rfl⟩ M3144)
            · intro g3120 f3121
              intro v4_ hb4_
              obtain ⟨rfl, _⟩ := hb4_
              intro v5_ hb5_
              obtain ⟨rfl, _⟩ := hb5_
              intro R w3147 M3148
              refine W_val (elemP p2607 (s3031.2.1.toNat * 1)) w3147 (by kernel_rfl) (E_index (E := encI) _ _ _ x2605.Memory.length c2608 .i64 s3031.2.1 1 (y := y3122) rfl (by kernel_rfl) (by kernel_rfl) (by kernel_rfl) (h2609.mem0 M3148) rfl hy3122) ?_
              exact W_nil (ob_end (elemP p2607 (s3031.2.1.toNat * 1)) [] rfl (by kernel_rfl) ⟨by kernel_rfl, rfl⟩ M3148)
            · intro g3120 f3121
              intro v6_ hb6_
              obtain ⟨rfl, _⟩ := hb6_
              intro R w3151 M3152
              refine W_val (.int .i64 y3122) w3151 (by kernel_rfl) (E_loadE (E := encI) _ _ false 1 s3031.2.1 0 (s3031.2.1.toNat * 1) y3122 (.int .i64 y3122) rfl (by kernel_rfl) (by kernel_rfl) (by kernel_rfl) (h2609.mem0 M3152) hy3122 rfl) ?_
              exact W_nil (ob_end (.int .i64 y3122) [] rfl (by kernel_rfl) ⟨by kernel_rfl, rfl⟩ M3152)
            · intro g3120 f3121
              intro v1_ hb1_
              obtain ⟨rfl, _⟩ := hb1_
              intro v2_ hb2_
              obtain ⟨rfl, _⟩ := hb2_
              intro v7_ hb7_
              obtain ⟨rfl, _⟩ := hb7_
              intro w3155 M3156
              have M3157 : Mem [] w w3155 [[(b2632, .cells ⟨[.slice p2607 x2605.Memory.length c2608, .slice p2611 x2605.Copy.length c2612, .slice p2615 x2605.Dirty.length c2616]⟩ 28 (0, 0))], [(b2639, .cells ⟨[.slice none 0 0, .slice none 0 0, .slice none 0 0]⟩ 28 (0, 0))], sg2755, [(b2774, .cells ⟨[.slice p2753 r2751.Memory.length c2754, .slice p2758 s3031.2.2.1.length c2759, .slice p2763 s3031.2.2.2.length c2764]⟩ 28 (0, 0))], sg3041, sg3043] := M3156
              obtain ⟨y3158, hy3158, hm⟩ := gx_bind hm
              refine W_val (elemP p2758 (s3031.2.1.toNat * 1)) w3155 (by kernel_rfl) (E_index (E := encI) _ _ _ s3031.2.2.1.length c2759 .i64 s3031.2.1 1 (y := y3158) rfl (by kernel_rfl) (by kernel_rfl) (by kernel_rfl) (ho3042.rd M3157 4 (by kernel_rfl)) rfl hy3158) ?_
              refine W_storeE (E := encI) _ _ _ false 1 s3031.2.1.toNat 0 (s3031.2.1.toNat * 1) y3158 y3122 (.int .i64 y3122) 4 M3157 ho3042 (by kernel_rfl) (by kernel_rfl) rfl (by kernel_rfl) (by kernel_rfl) (by kernel_rfl) (by kernel_rfl) (by kernel_rfl) (by kernel_rfl) (by kernel_rfl) (gxIdx_spec hy3158).2 rfl ?_
              intro w3159 sg3161 ho3162 M3160
              refine W_conv 29 (.slice p2758 s3031.2.2.1.length c2759) (.slice p2758 (s3031.2.2.1.set s3031.2.1.toNat y3122).length c2759) (by kernel_rfl) (by rw [@List.length_set _ s3031.2.2.1 s3031.2.1.toNat y3122]) ?_
              have M3163 : Mem [] w w3159 [[(b2632, .cells ⟨[.slice p2607 x2605.Memory.length c2608, .slice p2611 x2605.Copy.length c2612, .slice p2615 x2605.Dirty.length c2616]⟩ 28 (0, 0))], [(b2639, .cells ⟨[.slice none 0 0, .slice none 0 0, .slice none 0 0]⟩ 28 (0, 0))], sg2755, [(b2774, .cells ⟨[.slice p2753 r2751.Memory.length c2754, .slice p2758 (s3031.2.2.1.set s3031.2.1.toNat y3122).length c2759, .slice p2763 s3031.2.2.2.length c2764]⟩ 28 (0, 0))], sg3161, sg3043] := by rw [@List.length_set _ s3031.2.2.1 s3031.2.1.toNat y3122]; exact M3160
              refine W_nil ?_
              refine N_then ?_
              refine G_seq ?_
              refine G_region ?_
              refine W_run 1 [(1, .int .i64 x2618), (2, .pointer (some ⟨b2632, 0, none⟩)), (4, .pointer (some ⟨b2639, 0, none⟩)), (6, .pointer (some ⟨b2774, 0, none⟩)), (7, .int .i64 s3031.1), (8, .int .i64 s3031.2.1), (37, .pointer (some ⟨b2774, 2, none⟩))] w3159 (by kernel_rfl) ?_
              refine W_val (.slice p2763 s3031.2.2.2.length c2764) w3159 (by kernel_rfl) (E_load (e := 28) (fr := (0, 0)) _ _ false 1 b2774 2 [.slice p2753 r2751.Memory.length c2754, .slice p2758 (s3031.2.2.1.set s3031.2.1.toNat y3122).length c2759, .slice p2763 s3031.2.2.2.length c2764] (.slice p2763 s3031.2.2.2.length c2764) rfl (by kernel_rfl) (by kernel_rfl) (by kernel_rfl) (M3163.blk 3 (b := b2774) (o := .cells ⟨[.slice p2753 r2751.Memory.length c2754, .slice p2758 (s3031.2.2.1.set s3031.2.1.toNat y3122).length c2759, .slice p2763 s3031.2.2.2.length c2764]⟩ 28 (0, 0)) (by kernel_rfl))) ?_
              refine W_run 1 [(1, .int .i64 x2618), (2, .pointer (some ⟨b2632, 0, none⟩)), (4, .pointer (some ⟨b2639, 0, none⟩)), (6, .pointer (some ⟨b2774, 0, none⟩)), (7, .int .i64 s3031.1), (8, .int .i64 s3031.2.1), (38, .slice p2763 s3031.2.2.2.length c2764), (39, .int .i64 s3031.2.1)] w3159 (by kernel_rfl) ?_
              obtain ⟨y3164, hy3164, hm⟩ := gx_bind hm
              refine W_val (elemP p2763 (s3031.2.1.toNat * 1)) w3159 (by kernel_rfl) (E_index (E := encB) _ _ _ s3031.2.2.2.length c2764 .i64 s3031.2.1 1 (y := y3164) rfl (by kernel_rfl) (by kernel_rfl) (by kernel_rfl) (ho3044.rd M3163 5 (by kernel_rfl)) rfl hy3164) ?_
              refine W_storeE (E := encB) _ _ _ false 1 s3031.2.1.toNat 0 (s3031.2.1.toNat * 1) y3164 false (.bool false) 5 M3163 ho3044 (by kernel_rfl) (by kernel_rfl) rfl (by kernel_rfl) (by kernel_rfl) (by kernel_rfl) (by kernel_rfl) (by kernel_rfl) (by kernel_rfl) (by kernel_rfl) (gxIdx_spec hy3164).2 rfl ?_
              intro w3165 sg3167 ho3168 M3166
              refine W_conv 38 (.slice p2763 s3031.2.2.2.length c2764) (.slice p2763 (s3031.2.2.2.set s3031.2.1.toNat false).length c2764) (by kernel_rfl) (by rw [@List.length_set _ s3031.2.2.2 s3031.2.1.toNat false]) ?_
              have M3169 : Mem [] w w3165 [[(b2632, .cells ⟨[.slice p2607 x2605.Memory.length c2608, .slice p2611 x2605.Copy.length c2612, .slice p2615 x2605.Dirty.length c2616]⟩ 28 (0, 0))], [(b2639, .cells ⟨[.slice none 0 0, .slice none 0 0, .slice none 0 0]⟩ 28 (0, 0))], sg2755, [(b2774, .cells ⟨[.slice p2753 r2751.Memory.length c2754, .slice p2758 (s3031.2.2.1.set s3031.2.1.toNat y3122).length c2759, .slice p2763 (s3031.2.2.2.set s3031.2.1.toNat false).length c2764]⟩ 28 (0, 0))], sg3161, sg3167] := by rw [@List.length_set _ s3031.2.2.2 s3031.2.1.toNat false]; exact M3166
              refine W_nil ?_
              refine N_then ?_
              refine G_region ?_
              refine W_run 3 [(1, .int .i64 x2618), (2, .pointer (some ⟨b2632, 0, none⟩)), (4, .pointer (some ⟨b2639, 0, none⟩)), (6, .pointer (some ⟨b2774, 0, none⟩)), (7, .int .i64 (w64 (s3031.1 + 1))), (8, .int .i64 s3031.2.1)] w3165 (by kernel_rfl) ?_
              refine W_nil ?_
              obtain rfl := Option.some.inj hm
              exact N_meet fun a ha => ⟨sg3161, sg3167, ho3162, ho3168, M3169.pick [0, 1, 2, 3, 4, 5] (by kernel_rfl), ha.sub (by kernel_rfl)⟩
          · refine G_cond_f (b := y3060) hc3119 (by kernel_rfl) ?_
            refine G_skip ?_
            obtain rfl := Option.some.inj hm
            exact N_meet fun a ha => ⟨sg3041, sg3043, ho3042, ho3044, M3056.pick [0, 1, 2, 3, 4, 5] (by kernel_rfl), ha.sub (by kernel_rfl)⟩
        · intro a3172 w3170 ⟨sg3115, sg3117, ho3116, ho3118, M3171, hS3173⟩
          refine N_use hS3173 ?_
          have hm := hm3114
          refine N_block ?_
          refine N_then ?_
          refine G_region ?_
          refine W_run 3 [(1, .int .i64 x2618), (2, .pointer (some ⟨b2632, 0, none⟩)), (4, .pointer (some ⟨b2639, 0, none⟩)), (6, .pointer (some ⟨b2774, 0, none⟩)), (7, .int .i64 o3112.1), (8, .int .i64 (w64 (s3031.2.1 + 1)))] w3170 (by kernel_rfl) ?_
          refine W_nil ?_
          obtain rfl := Option.some.inj hm
          exact N_loop fun a ha => ⟨_, rfl, sg3115, sg3117, ho3116, ho3118, M3171.pick [0, 1, 2, 3, 4, 5] (by kernel_rfl), ha.sub (by kernel_rfl)⟩
      · refine G_cond_f (b := o3051) hc3059 (by kernel_rfl) ?_
        refine G_exit ?_
        refine N_then_exit ?_
        refine N_then_exit ?_
        refine N_block_eq ?_
        obtain rfl := Option.some.inj hm
        obtain rfl := hout3033 _ rfl
        exact N_meet fun a ha => ⟨sg3041, sg3043, ho3042, ho3044, M3056.pick [1, 2, 3, 4, 5] (by kernel_rfl), ha.sub (by kernel_rfl)⟩
  · intro a3174 w3175 ⟨sg3046, sg3048, ho3047, ho3049, M3176, hS3177⟩
    refine N_use hS3177 ?_
    have hm := hmo3040
    refine N_then ?_
    refine G_seq ?_
    refine G_region ?_
    refine W_val (.agg #[.slice p2753 r2751.Memory.length c2754, .slice p2758 out3038.2.1.length c2759, .slice p2763 out3038.2.2.length c2764]) w3175 (by kernel_rfl) (E_load (e := 28) (fr := (0, 0)) _ _ true 3 b2774 0 [.slice p2753 r2751.Memory.length c2754, .slice p2758 out3038.2.1.length c2759, .slice p2763 out3038.2.2.length c2764] (.agg #[.slice p2753 r2751.Memory.length c2754, .slice p2758 out3038.2.1.length c2759, .slice p2763 out3038.2.2.length c2764]) rfl (by kernel_rfl) (by kernel_rfl) (by kernel_rfl) (M3176.blk 2 (b := b2774) (o := .cells ⟨[.slice p2753 r2751.Memory.length c2754, .slice p2758 out3038.2.1.length c2759, .slice p2763 out3038.2.2.length c2764]⟩ 28 (0, 0)) (by kernel_rfl))) ?_
    refine W_run 1 [(4, .pointer (some ⟨b2639, 0, none⟩)), (43, .agg #[.slice p2753 r2751.Memory.length c2754, .slice p2758 out3038.2.1.length c2759, .slice p2763 out3038.2.2.length c2764]), (44, .int .i64 out3038.1)] w3175 (by kernel_rfl) ?_
    refine W_store _ _ _ true 3 b2639 0 [.slice none 0 0, .slice none 0 0, .slice none 0 0] 28 (.agg #[.slice p2753 r2751.Memory.length c2754, .slice p2758 out3038.2.1.length c2759, .slice p2763 out3038.2.2.length c2764]) 0 [.slice p2753 r2751.Memory.length c2754, .slice p2758 out3038.2.1.length c2759, .slice p2763 out3038.2.2.length c2764] M3176 (by kernel_rfl) rfl (by kernel_rfl) (by kernel_rfl) (by kernel_rfl) (by kernel_rfl) (by kernel_rfl) (by kernel_rfl) (by kernel_rfl) (by kernel_rfl) ?_
    intro w3178 M3179
    refine W_run 1 [(4, .pointer (some ⟨b2639, 0, none⟩)), (5, .int .i64 out3038.1)] w3178 (by kernel_rfl) ?_
    refine W_nil ?_
    refine N_then ?_
    refine G_ret ?_
    obtain rfl := Option.some.inj hm
    refine N_ret [.agg #[.slice p2753 r2751.Memory.length c2754, .slice p2758 out3038.2.1.length c2759, .slice p2763 out3038.2.2.length c2764], .int .i64 out3038.1] (RVs_cons (RV_cell (g := true) (k := 3) (b := b2639) (off := 0) (cs := [.slice p2753 r2751.Memory.length c2754, .slice p2758 out3038.2.1.length c2759, .slice p2763 out3038.2.2.length c2764]) (e := 28) (fr := (0, 0)) (v := .agg #[.slice p2753 r2751.Memory.length c2754, .slice p2758 out3038.2.1.length c2759, .slice p2763 out3038.2.2.length c2764]) (M3179.blk 0 (b := b2639) (o := .cells ⟨[.slice p2753 r2751.Memory.length c2754, .slice p2758 out3038.2.1.length c2759, .slice p2763 out3038.2.2.length c2764]⟩ 28 (0, 0)) (by kernel_rfl)) (by kernel_rfl) (by kernel_rfl) (by kernel_rfl)) (RVs_cons (RV_tmp (by kernel_rfl)) RVs_nil)) ?_
    exact ⟨p2753, c2754, sg2755, p2758, c2759, sg3046, p2763, c2764, sg3048, rfl, ho2756, ho3047, ho3049, M3179.pick [1, 3, 4] (by kernel_rfl)⟩
theorem c_s_FinishCopy (w : World) (x2571 : Copying) (p2573 : Option Addr) (c2574 : Nat) (h2575 : rdS encI w x2571.Memory p2573 c2574) (p2577 : Option Addr) (c2578 : Nat) (h2579 : rdS encI w x2571.Copy p2577 c2578) (p2581 : Option Addr) (c2582 : Nat) (h2583 : rdS encB w x2571.Dirty p2581 c2582) {r : (List Int) × Int × Bool} (hm : M.s_FinishCopy x2571 = some r) :
    Calls Try.prog 28 #[.agg #[.slice p2573 x2571.Memory.length c2574, .slice p2577 x2571.Copy.length c2578, .slice p2581 x2571.Dirty.length c2582]] w fun e w' => ∃ (p2585 : Option Addr) (c2586 : Nat) (sg2587 : Seg), e = .returned (.tuple #[.slice p2585 r.1.length c2586, .int .i64 r.2.1, .bool r.2.2]) ∧ ownS encI r.1 p2585 c2586 sg2587 ∧ Mem [] w w' [sg2587] := by
  unfold M.s_FinishCopy at hm
  refine C_enter Try.func28 rfl (by kernel_rfl) ?_
  have M0 := Mem.refl [] w
  refine G_seq ?_
  refine G_region ?_
  refine W_new (fun b => .pointer (some ⟨b, 0, none⟩)) (.cells ⟨[.slice p2573 x2571.Memory.length c2574, .slice p2577 x2571.Copy.length c2578, .slice p2581 x2571.Dirty.length c2582]⟩ 28 (0, 0)) M0 rfl (by kernel_rfl) (by kernel_rfl) ?_
  intro b2589 w2590 M2591
  refine W_run 3 [(1, .pointer (some ⟨b2589, 0, none⟩))] w2590 (by kernel_rfl) ?_
  refine W_nil ?_
  refine N_then ?_
  refine G_seq ?_
  refine G_seq ?_
  refine G_region ?_
  refine W_val (.agg #[.slice p2573 x2571.Memory.length c2574, .slice p2577 x2571.Copy.length c2578, .slice p2581 x2571.Dirty.length c2582]) w2590 (by kernel_rfl) (E_load (e := 28) (fr := (0, 0)) _ _ true 3 b2589 0 [.slice p2573 x2571.Memory.length c2574, .slice p2577 x2571.Copy.length c2578, .slice p2581 x2571.Dirty.length c2582] (.agg #[.slice p2573 x2571.Memory.length c2574, .slice p2577 x2571.Copy.length c2578, .slice p2581 x2571.Dirty.length c2582]) rfl (by kernel_rfl) (by kernel_rfl) (by kernel_rfl) (M2591.blk 0 (b := b2589) (o := .cells ⟨[.slice p2573 x2571.Memory.length c2574, .slice p2577 x2571.Copy.length c2578, .slice p2581 x2571.Dirty.length c2582]⟩ 28 (0, 0)) (by kernel_rfl))) ?_
  obtain ⟨r2593, hr2593, hm⟩ := gx_bind hm
  refine W_call 56 #[.agg #[.slice p2573 x2571.Memory.length c2574, .slice p2577 x2571.Copy.length c2578, .slice p2581 x2571.Dirty.length c2582]] (by kernel_rfl) (by kernel_rfl) ?_
  refine (c_s_l19Good w2590 x2571 p2573 c2574 (h2575.mem0 M2591) p2577 c2578 (h2579.mem0 M2591) p2581 c2582 (h2583.mem0 M2591) hr2593).mono ?_
  rintro e_ w2594 ⟨rfl, K2595⟩
  have M2596 := M2591.call0 K2595
  refine ⟨_, rfl, ?_⟩
  refine W_run 1 [(1, .pointer (some ⟨b2589, 0, none⟩)), (9, .bool (!r2593))] w2594 (by kernel_rfl) ?_
  refine W_nil ?_
  refine N_then ?_
  rcases gx_bif hm with ⟨hc2597, hm⟩ | ⟨hc2597, hm⟩
  · refine G_cond_t (b := (!r2593)) hc2597 (by kernel_rfl) ?_
    refine G_seq ?_
    refine G_region ?_
    refine W_lit (E := encI) ([] : List Int) 0 [] 3 M2596 (by kernel_rfl) (by kernel_rfl) (by kernel_rfl) (by kernel_rfl) (by kernel_rfl) ?_
    intro p2598 c2599 sg2600 w2601 ho2602 M2603
    refine W_run 3 [(2, .slice p2598 ([] : List Int).length c2599), (3, .int .i64 0), (4, .bool false)] w2601 (by kernel_rfl) ?_
    refine W_nil ?_
    refine N_then ?_
    refine G_ret ?_
    refine N_then_ret ?_
    obtain rfl := Option.some.inj hm
    refine N_ret [.slice p2598 ([] : List Int).length c2599, .int .i64 0, .bool false] (RVs_cons (RV_tmp (by kernel_rfl)) (RVs_cons (RV_tmp (by kernel_rfl)) (RVs_cons (RV_tmp (by kernel_rfl)) RVs_nil))) ?_
    exact ⟨p2598, c2599, sg2600, rfl, ho2602, M2603.pick [1] (by kernel_rfl)⟩
  · refine G_cond_f (b := (!r2593)) hc2597 (by kernel_rfl) ?_
    refine G_skip ?_
    refine N_then ?_
    refine G_seq ?_
    refine G_region ?_
    refine W_val (.agg #[.slice p2573 x2571.Memory.length c2574, .slice p2577 x2571.Copy.length c2578, .slice p2581 x2571.Dirty.length c2582]) w2594 (by kernel_rfl) (E_load (e := 28) (fr := (0, 0)) _ _ true 3 b2589 0 [.slice p2573 x2571.Memory.length c2574, .slice p2577 x2571.Copy.length c2578, .slice p2581 x2571.Dirty.length c2582] (.agg #[.slice p2573 x2571.Memory.length c2574, .slice p2577 x2571.Copy.length c2578, .slice p2581 x2571.Dirty.length c2582]) rfl (by kernel_rfl) (by kernel_rfl) (by kernel_rfl) (M2596.blk 0 (b := b2589) (o := .cells ⟨[.slice p2573 x2571.Memory.length c2574, .slice p2577 x2571.Copy.length c2578, .slice p2581 x2571.Dirty.length c2582]⟩ 28 (0, 0)) (by kernel_rfl))) ?_
    obtain ⟨r3180, hr3180, hm⟩ := gx_bind hm
    refine W_call 67 #[.agg #[.slice p2573 x2571.Memory.length c2574, .slice p2577 x2571.Copy.length c2578, .slice p2581 x2571.Dirty.length c2582], .int .i64 12] (by kernel_rfl) (by kernel_rfl) ?_
    refine (c_s_l19Round w2594 x2571 p2573 c2574 (h2575.mem0 M2596) p2577 c2578 (h2579.mem0 M2596) p2581 c2582 (h2583.mem0 M2596) 12 hr3180).mono ?_
    rintro e_ w3196 ⟨p3182, c3183, sg3184, p3187, c3188, sg3189, p3192, c3193, sg3194, rfl, ho3185, ho3190, ho3195, K3197⟩
    have M3198 := M2596.call K3197
    refine ⟨_, rfl, ?_⟩
    refine W_run 3 [(14, .agg #[.slice p3182 r3180.1.Memory.length c3183, .slice p3187 r3180.1.Copy.length c3188, .slice p3192 r3180.1.Dirty.length c3193]), (15, .int .i64 r3180.2)] w3196 (by kernel_rfl) ?_
    refine W_new (fun b => .pointer (some ⟨b, 0, none⟩)) (.cells ⟨[.slice none 0 0, .slice none 0 0, .slice none 0 0]⟩ 28 (0, 0)) M3198 rfl (by kernel_rfl) (by kernel_rfl) ?_
    intro b3203 w3204 M3205
    refine W_store _ _ _ true 3 b3203 0 [.slice none 0 0, .slice none 0 0, .slice none 0 0] 28 (.agg #[.slice p3182 r3180.1.Memory.length c3183, .slice p3187 r3180.1.Copy.length c3188, .slice p3192 r3180.1.Dirty.length c3193]) 4 [.slice p3182 r3180.1.Memory.length c3183, .slice p3187 r3180.1.Copy.length c3188, .slice p3192 r3180.1.Dirty.length c3193] M3205 (by kernel_rfl) rfl (by kernel_rfl) (by kernel_rfl) (by kernel_rfl) (by kernel_rfl) (by kernel_rfl) (by kernel_rfl) (by kernel_rfl) (by kernel_rfl) ?_
    intro w3206 M3207
    refine W_run 1 [(5, .pointer (some ⟨b3203, 0, none⟩)), (6, .int .i64 r3180.2)] w3206 (by kernel_rfl) ?_
    refine W_nil ?_
    refine N_then ?_
    refine G_seq ?_
    refine G_region ?_
    refine W_run 1 [(6, .int .i64 r3180.2), (16, .pointer (some ⟨b3203, 1, none⟩))] w3206 (by kernel_rfl) ?_
    refine W_val (.slice p3187 r3180.1.Copy.length c3188) w3206 (by kernel_rfl) (E_load (e := 28) (fr := (0, 0)) _ _ false 1 b3203 1 [.slice p3182 r3180.1.Memory.length c3183, .slice p3187 r3180.1.Copy.length c3188, .slice p3192 r3180.1.Dirty.length c3193] (.slice p3187 r3180.1.Copy.length c3188) rfl (by kernel_rfl) (by kernel_rfl) (by kernel_rfl) (M3207.blk 4 (b := b3203) (o := .cells ⟨[.slice p3182 r3180.1.Memory.length c3183, .slice p3187 r3180.1.Copy.length c3188, .slice p3192 r3180.1.Dirty.length c3193]⟩ 28 (0, 0)) (by kernel_rfl))) ?_
    refine W_run 4 [(2, .slice p3187 r3180.1.Copy.length c3188), (3, .int .i64 r3180.2), (4, .bool true)] w3206 (by kernel_rfl) ?_
    refine W_nil ?_
    refine N_then ?_
    refine G_ret ?_
    obtain rfl := Option.some.inj hm
    refine N_ret [.slice p3187 r3180.1.Copy.length c3188, .int .i64 r3180.2, .bool true] (RVs_cons (RV_tmp (by kernel_rfl)) (RVs_cons (RV_tmp (by kernel_rfl)) (RVs_cons (RV_tmp (by kernel_rfl)) RVs_nil))) ?_
    exact ⟨p3187, c3188, sg3189, rfl, ho3190, M3207.pick [2] (by kernel_rfl)⟩
theorem c_i_FinishCopy (w : World) (x3245 : Copying) (p3247 : Option Addr) (c3248 : Nat) (h3249 : rdS encI w x3245.Memory p3247 c3248) (p3251 : Option Addr) (c3252 : Nat) (h3253 : rdS encI w x3245.Copy p3251 c3252) (p3255 : Option Addr) (c3256 : Nat) (h3257 : rdS encB w x3245.Dirty p3255 c3256) {r : (List Int) × Int × Bool} (hm : M.i_FinishCopy x3245 = some r) :
    Calls Try.prog 29 #[.agg #[.slice p3247 x3245.Memory.length c3248, .slice p3251 x3245.Copy.length c3252, .slice p3255 x3245.Dirty.length c3256]] w fun e w' => ∃ (p3259 : Option Addr) (c3260 : Nat) (sg3261 : Seg), e = .returned (.tuple #[.slice p3259 r.1.length c3260, .int .i64 r.2.1, .bool r.2.2]) ∧ ownS encI r.1 p3259 c3260 sg3261 ∧ Mem [] w w' [sg3261] := by
  unfold M.i_FinishCopy at hm
  refine C_enter Try.func29 rfl (by kernel_rfl) ?_
  have M0 := Mem.refl [] w
  refine G_seq ?_
  refine G_region ?_
  refine W_new (fun b => .pointer (some ⟨b, 0, none⟩)) (.cells ⟨[.slice p3247 x3245.Memory.length c3248, .slice p3251 x3245.Copy.length c3252, .slice p3255 x3245.Dirty.length c3256]⟩ 28 (0, 0)) M0 rfl (by kernel_rfl) (by kernel_rfl) ?_
  intro b3263 w3264 M3265
  refine W_run 3 [(1, .pointer (some ⟨b3263, 0, none⟩))] w3264 (by kernel_rfl) ?_
  refine W_nil ?_
  refine N_then ?_
  refine G_seq ?_
  refine G_seq ?_
  refine G_region ?_
  refine W_val (.agg #[.slice p3247 x3245.Memory.length c3248, .slice p3251 x3245.Copy.length c3252, .slice p3255 x3245.Dirty.length c3256]) w3264 (by kernel_rfl) (E_load (e := 28) (fr := (0, 0)) _ _ true 3 b3263 0 [.slice p3247 x3245.Memory.length c3248, .slice p3251 x3245.Copy.length c3252, .slice p3255 x3245.Dirty.length c3256] (.agg #[.slice p3247 x3245.Memory.length c3248, .slice p3251 x3245.Copy.length c3252, .slice p3255 x3245.Dirty.length c3256]) rfl (by kernel_rfl) (by kernel_rfl) (by kernel_rfl) (M3265.blk 0 (b := b3263) (o := .cells ⟨[.slice p3247 x3245.Memory.length c3248, .slice p3251 x3245.Copy.length c3252, .slice p3255 x3245.Dirty.length c3256]⟩ 28 (0, 0)) (by kernel_rfl))) ?_
  obtain ⟨r3267, hr3267, hm⟩ := gx_bind hm
  refine W_call 16 #[.agg #[.slice p3247 x3245.Memory.length c3248, .slice p3251 x3245.Copy.length c3252, .slice p3255 x3245.Dirty.length c3256]] (by kernel_rfl) (by kernel_rfl) ?_
  refine (c_i_IsCopying w3264 x3245 p3247 c3248 (h3249.mem0 M3265) p3251 c3252 (h3253.mem0 M3265) p3255 c3256 (h3257.mem0 M3265) hr3267).mono ?_
  rintro e_ w3268 ⟨rfl, K3269⟩
  have M3270 := M3265.call0 K3269
  refine ⟨_, rfl, ?_⟩
  refine W_run 1 [(1, .pointer (some ⟨b3263, 0, none⟩)), (7, .bool (!r3267))] w3268 (by kernel_rfl) ?_
  refine W_nil ?_
  refine N_then ?_
  rcases gx_bif hm with ⟨hc3271, hm⟩ | ⟨hc3271, hm⟩
  · refine G_cond_t (b := (!r3267)) hc3271 (by kernel_rfl) ?_
    refine G_seq ?_
    refine G_region ?_
    refine W_run 3 [(2, .slice none 0 0), (3, .int .i64 0), (4, .bool false)] w3268 (by kernel_rfl) ?_
    refine W_nil ?_
    refine N_then ?_
    refine G_ret ?_
    refine N_then_ret ?_
    obtain rfl := Option.some.inj hm
    refine N_ret [.slice none 0 0, .int .i64 0, .bool false] (RVs_cons (RV_tmp (by kernel_rfl)) (RVs_cons (RV_tmp (by kernel_rfl)) (RVs_cons (RV_tmp (by kernel_rfl)) RVs_nil))) ?_
    exact ⟨none, 0, [], rfl, ownS_nil, M3270.pick [100000] (by kernel_rfl)⟩
  · refine G_cond_f (b := (!r3267)) hc3271 (by kernel_rfl) ?_
    refine G_skip ?_
    refine N_then ?_
    refine G_seq ?_
    obtain ⟨r3275, hr3275, hm⟩ := gx_bind hm
    obtain ⟨r3281, hr3281, hm⟩ := gx_bind hm
    refine G_sub [(1, .pointer (some ⟨b3263, 0, none⟩)), (7, .bool (!r3267))] (by kernel_rfl) ?_
    refine G_dagL 7 [[], [0], [1], [], [3], [], []] [[], [], [], [], [], [], []] [[], [], [], [], [], [], []] [[], [], [], [], [], [4], [2]] [[], [], [], [], [], [], [2]] [[], [], [], [], [], [], []] (fun _ => []) (fun i => ([fun f v s => v = (.pointer (some ⟨b3263, 0, none⟩) : Value) ∧ s = [], fun f v s => v = (.slice p3247 x3245.Memory.length c3248 : Value) ∧ s = [], fun f v s => ∃ (p3277 : Option Addr) (c3278 : Nat), v = (.slice p3277 r3275.length c3278 : Value) ∧ ownS encI r3275 p3277 c3278 s, fun f v s => v = (.agg #[.slice p3247 x3245.Memory.length c3248, .slice p3251 x3245.Copy.length c3252, .slice p3255 x3245.Dirty.length c3256] : Value) ∧ s = [], fun f v s => ∃ (p3283 : Option Addr) (c3284 : Nat), v = (.slice p3283 r3281.length c3284 : Value) ∧ ownS encI r3281 p3283 c3284 s, fun f v s => v = (.int .i64 (r3281.length : Int) : Value) ∧ s = [], fun f v s => v = ((atPath (f 2) []) : Value) ∧ s = []] : List ((Nat → Value) → Value → Seg → Prop)).getD i (fun _ _ _ => False)) (fun j f v => ∃ s, (fun i => ([fun f v s => v = (.pointer (some ⟨b3263, 0, none⟩) : Value) ∧ s = [], fun f v s => v = (.slice p3247 x3245.Memory.length c3248 : Value) ∧ s = [], fun f v s => ∃ (p3277 : Option Addr) (c3278 : Nat), v = (.slice p3277 r3275.length c3278 : Value) ∧ ownS encI r3275 p3277 c3278 s, fun f v s => v = (.agg #[.slice p3247 x3245.Memory.length c3248, .slice p3251 x3245.Copy.length c3252, .slice p3255 x3245.Dirty.length c3256] : Value) ∧ s = [], fun f v s => ∃ (p3283 : Option Addr) (c3284 : Nat), v = (.slice p3283 r3281.length c3284 : Value) ∧ ownS encI r3281 p3283 c3284 s, fun f v s => v = (.int .i64 (r3281.length : Int) : Value) ∧ s = [], fun f v s => v = ((atPath (f 2) []) : Value) ∧ s = []] : List ((Nat → Value) → Value → Seg → Prop)).getD i (fun _ _ _ => False)) j f v s) [] [2, 4, 5, 6] [2, 4] (fun _ _ _ s h => ⟨s, h⟩) (by kernel_rfl) (by kernel_rfl) (M3270.preNil 7) (by kernel_rfl) (by kernel_rfl) (by kernel_rfl) (by kernel_rfl) (allOb_cons ?_ (allOb_cons ?_ (allOb_cons ?_ (allOb_cons ?_ (allOb_cons ?_ (allOb_cons ?_ (allOb_cons ?_ allOb_nil))))))) ?_
    · intro g3273 f3274
      intro R w3287 M3288
      refine W_run 1 [(8, .pointer (some ⟨b3263, 0, none⟩))] w3287 (by kernel_rfl) ?_
      exact W_nil (ob_end (.pointer (some ⟨b3263, 0, none⟩)) [] rfl (by kernel_rfl) ⟨by kernel_rfl, rfl⟩ M3288)
    · intro g3273 f3274
      intro v0_ hb0_
      obtain ⟨rfl, _⟩ := hb0_
      intro R w3291 M3292
      refine W_val (.slice p3247 x3245.Memory.length c3248) w3291 (by kernel_rfl) (E_load (e := 28) (fr := (0, 0)) _ _ false 1 b3263 0 [.slice p3247 x3245.Memory.length c3248, .slice p3251 x3245.Copy.length c3252, .slice p3255 x3245.Dirty.length c3256] (.slice p3247 x3245.Memory.length c3248) rfl (by kernel_rfl) (by kernel_rfl) (by kernel_rfl) (M3292.blk 0 (b := b3263) (o := .cells ⟨[.slice p3247 x3245.Memory.length c3248, .slice p3251 x3245.Copy.length c3252, .slice p3255 x3245.Dirty.length c3256]⟩ 28 (0, 0)) (by kernel_rfl))) ?_
      exact W_nil (ob_end (.slice p3247 x3245.Memory.length c3248) [] rfl (by kernel_rfl) ⟨by kernel_rfl, rfl⟩ M3292)
    · intro g3273 f3274
      intro v1_ hb1_
      obtain ⟨rfl, _⟩ := hb1_
      intro R w3295 M3296
      refine W_call 62 #[.slice p3247 x3245.Memory.length c3248] (by kernel_rfl) (by kernel_rfl) ?_
      refine (c_i_copyInts w3295 x3245.Memory p3247 c3248 (h3249.mem0 M3296) hr3275).mono ?_
      rintro e_ w3297 ⟨p3277, c3278, sg3279, rfl, ho3280, K3299⟩
      refine ⟨_, rfl, ?_⟩
      exact W_nil (ob_end (.slice p3277 r3275.length c3278) sg3279 rfl (by kernel_rfl) ⟨p3277, c3278, rfl, ho3280⟩ (Mem.callMid M3296 K3299))
    · intro g3273 f3274
      intro R w3300 M3301
      refine W_val (.agg #[.slice p3247 x3245.Memory.length c3248, .slice p3251 x3245.Copy.length c3252, .slice p3255 x3245.Dirty.length c3256]) w3300 (by kernel_rfl) (E_load (e := 28) (fr := (0, 0)) _ _ true 3 b3263 0 [.slice p3247 x3245.Memory.length c3248, .slice p3251 x3245.Copy.length c3252, .slice p3255 x3245.Dirty.length c3256] (.agg #[.slice p3247 x3245.Memory.length c3248, .slice p3251 x3245.Copy.length c3252, .slice p3255 x3245.Dirty.length c3256]) rfl (by kernel_rfl) (by kernel_rfl) (by kernel_rfl) (M3301.blk 0 (b := b3263) (o := .cells ⟨[.slice p3247 x3245.Memory.length c3248, .slice p3251 x3245.Copy.length c3252, .slice p3255 x3245.Dirty.length c3256]⟩ 28 (0, 0)) (by kernel_rfl))) ?_
      exact W_nil (ob_end (.agg #[.slice p3247 x3245.Memory.length c3248, .slice p3251 x3245.Copy.length c3252, .slice p3255 x3245.Dirty.length c3256]) [] rfl (by kernel_rfl) ⟨by kernel_rfl, rfl⟩ M3301)
    · intro g3273 f3274
      intro v3_ hb3_
      obtain ⟨rfl, _⟩ := hb3_
      intro R w3304 M3305
      refine W_call 66 #[.agg #[.slice p3247 x3245.Memory.length c3248, .slice p3251 x3245.Copy.length c3252, .slice p3255 x3245.Dirty.length c3256]] (by kernel_rfl) (by kernel_rfl) ?_
      refine (c_i_dirtyWords w3304 x3245 p3247 c3248 (h3249.mem0 M3305) p3251 c3252 (h3253.mem0 M3305) p3255 c3256 (h3257.mem0 M3305) hr3281).mono ?_
      rintro e_ w3306 ⟨p3283, c3284, sg3285, rfl, ho3286, K3308⟩
      refine ⟨_, rfl, ?_⟩
      exact W_nil (ob_end (.slice p3283 r3281.length c3284) sg3285 rfl (by kernel_rfl) ⟨p3283, c3284, rfl, ho3286⟩ (Mem.callMid M3305 K3308))
    · intro g3273 f3274
      intro v4_ hb4_
      obtain ⟨_, p3283, c3284, rfl, _⟩ := hb4_
      intro R w3309 M3310
      refine W_run 1 [(13, .int .i64 (r3281.length : Int))] w3309 (by kernel_rfl) ?_
      exact W_nil (ob_end (.int .i64 (r3281.length : Int)) [] rfl (by kernel_rfl) ⟨by kernel_rfl, rfl⟩ M3310)
    · intro g3273 f3274
      intro v2_ hb2_
      obtain ⟨_, p3277, c3278, rfl, _⟩ := hb2_
      intro R w3313 M3314
      refine W_run 1 [(2, .slice p3277 r3275.length c3278)] w3313 (by kernel_rfl) ?_
      exact W_nil (ob_end (.slice p3277 r3275.length c3278) [] rfl (by kernel_rfl) ⟨by kernel_rfl, rfl⟩ M3314)
    · intro g3273 f3274
      intro v2_ hb2_
      obtain ⟨p3277, c3278, rfl, ho3280⟩ := hb2_
      intro v4_ hb4_
      obtain ⟨p3283, c3284, rfl, ho3286⟩ := hb4_
      intro v5_ hb5_
      obtain ⟨rfl, _⟩ := hb5_
      intro v6_ hb6_
      obtain ⟨hv6_, _⟩ := hb6_
      obtain rfl : v6_ = (.slice p3277 r3275.length c3278 : Value) := hv6_.trans (by kernel_rfl)
      intro w3317 M3318
      have M3319 : Mem [] w w3317 [[(b3263, .cells ⟨[.slice p3247 x3245.Memory.length c3248, .slice p3251 x3245.Copy.length c3252, .slice p3255 x3245.Dirty.length c3256]⟩ 28 (0, 0))], (g3273 2), (g3273 4)] := M3318
      refine W_run 2 [(2, .slice p3277 r3275.length c3278), (3, .int .i64 (r3281.length : Int)), (4, .bool true)] w3317 (by kernel_rfl) ?_
      refine W_nil ?_
      refine N_then ?_
      refine G_ret ?_
      obtain rfl := Option.some.inj hm
      refine N_ret [.slice p3277 r3275.length c3278, .int .i64 (r3281.length : Int), .bool true] (RVs_cons (RV_tmp (by kernel_rfl)) (RVs_cons (RV_tmp (by kernel_rfl)) (RVs_cons (RV_tmp (by kernel_rfl)) RVs_nil))) ?_
      exact ⟨p3277, c3278, (g3273 2), rfl, ho3280, M3319.pick [1] (by kernel_rfl)⟩
theorem c_l_FnExactFinishCopy (w : World) (x2530 : Copying) (p2532 : Option Addr) (c2533 : Nat) (h2534 : rdS encI w x2530.Memory p2532 c2533) (p2536 : Option Addr) (c2537 : Nat) (h2538 : rdS encI w x2530.Copy p2536 c2537) (p2540 : Option Addr) (c2541 : Nat) (h2542 : rdS encB w x2530.Dirty p2540 c2541) {r : Bool} (hm : M.l_FnExactFinishCopy x2530 = some r) :
    Calls Try.prog 6 #[.agg #[.slice p2532 x2530.Memory.length c2533, .slice p2536 x2530.Copy.length c2537, .slice p2540 x2530.Dirty.length c2541]] w fun e w' => e = .returned (.bool r) ∧ Mem [] w w' [] := by
  unfold M.l_FnExactFinishCopy at hm
  refine C_enter Try.func6 rfl (by kernel_rfl) ?_
  have M0 := Mem.refl [] w
  refine G_seq ?_
  refine G_region ?_
  refine W_new (fun b => .pointer (some ⟨b, 0, none⟩)) (.cells ⟨[.slice p2532 x2530.Memory.length c2533, .slice p2536 x2530.Copy.length c2537, .slice p2540 x2530.Dirty.length c2541]⟩ 25 (0, 0)) M0 rfl (by kernel_rfl) (by kernel_rfl) ?_
  intro b2544 w2545 M2546
  refine W_run 1 [(1, .pointer (some ⟨b2544, 0, none⟩))] w2545 (by kernel_rfl) ?_
  refine W_nil ?_
  refine N_then ?_
  refine G_seq ?_
  refine G_region ?_
  refine W_run 1 [(1, .pointer (some ⟨b2544, 0, none⟩)), (3, .int .i64 1048576)] w2545 (by kernel_rfl) ?_
  refine W_nil ?_
  refine N_then ?_
  refine G_seq ?_
  refine G_region ?_
  refine W_val (.agg #[.slice p2532 x2530.Memory.length c2533, .slice p2536 x2530.Copy.length c2537, .slice p2540 x2530.Dirty.length c2541]) w2545 (by kernel_rfl) (E_load (e := 25) (fr := (0, 0)) _ _ true 3 b2544 0 [.slice p2532 x2530.Memory.length c2533, .slice p2536 x2530.Copy.length c2537, .slice p2540 x2530.Dirty.length c2541] (.agg #[.slice p2532 x2530.Memory.length c2533, .slice p2536 x2530.Copy.length c2537, .slice p2540 x2530.Dirty.length c2541]) rfl (by kernel_rfl) (by kernel_rfl) (by kernel_rfl) (M2546.blk 0 (b := b2544) (o := .cells ⟨[.slice p2532 x2530.Memory.length c2533, .slice p2536 x2530.Copy.length c2537, .slice p2540 x2530.Dirty.length c2541]⟩ 25 (0, 0)) (by kernel_rfl))) ?_
  refine W_run 1 [(1, .pointer (some ⟨b2544, 0, none⟩)), (3, .int .i64 1048576), (17, .agg #[.slice p2532 x2530.Memory.length c2533, .slice p2536 x2530.Copy.length c2537, .slice p2540 x2530.Dirty.length c2541]), (18, .int .i64 1048576)] w2545 (by kernel_rfl) ?_
  obtain ⟨r2547, hr2547, hm⟩ := gx_bind hm
  refine W_call 13 #[.agg #[.slice p2532 x2530.Memory.length c2533, .slice p2536 x2530.Copy.length c2537, .slice p2540 x2530.Dirty.length c2541], .int .i64 1048576] (by kernel_rfl) (by kernel_rfl) ?_
  refine (c_l_szCopying w2545 x2530 p2532 c2533 (h2534.mem0 M2546) p2536 c2537 (h2538.mem0 M2546) p2540 c2541 (h2542.mem0 M2546) 1048576 hr2547).mono ?_
  rintro e_ w2548 ⟨rfl, K2549⟩
  have M2550 := M2546.call0 K2549
  refine ⟨_, rfl, ?_⟩
  refine W_run 1 [(1, .pointer (some ⟨b2544, 0, none⟩)), (3, .int .i64 r2547)] w2548 (by kernel_rfl) ?_
  refine W_nil ?_
  refine N_then ?_
  refine G_seq ?_
  refine G_seq ?_
  refine G_region ?_
  refine W_run 2 [(1, .pointer (some ⟨b2544, 0, none⟩)), (21, .bool (decide (r2547 < 0)))] w2548 (by kernel_rfl) ?_
  refine W_nil ?_
  refine N_then ?_
  rcases gx_bif hm with ⟨hc2551, hm⟩ | ⟨hc2551, hm⟩
  · refine G_cond_t (b := (decide (r2547 < 0))) hc2551 (by kernel_rfl) ?_
    refine G_seq ?_
    refine G_region ?_
    refine W_run 1 [(2, .bool true)] w2548 (by kernel_rfl) ?_
    refine W_nil ?_
    refine N_then ?_
    refine G_ret ?_
    refine N_then_ret ?_
    obtain rfl := Option.some.inj hm
    refine N_ret [.bool true] (RVs_cons (RV_tmp (by kernel_rfl)) RVs_nil) ?_
    exact ⟨rfl, M2550.pick [] (by kernel_rfl)⟩
  · refine G_cond_f (b := (decide (r2547 < 0))) hc2551 (by kernel_rfl) ?_
    refine G_skip ?_
    refine N_then ?_
    refine G_seq ?_
    refine G_region ?_
    refine W_val (.agg #[.slice p2532 x2530.Memory.length c2533, .slice p2536 x2530.Copy.length c2537, .slice p2540 x2530.Dirty.length c2541]) w2548 (by kernel_rfl) (E_load (e := 25) (fr := (0, 0)) _ _ true 3 b2544 0 [.slice p2532 x2530.Memory.length c2533, .slice p2536 x2530.Copy.length c2537, .slice p2540 x2530.Dirty.length c2541] (.agg #[.slice p2532 x2530.Memory.length c2533, .slice p2536 x2530.Copy.length c2537, .slice p2540 x2530.Dirty.length c2541]) rfl (by kernel_rfl) (by kernel_rfl) (by kernel_rfl) (M2550.blk 0 (b := b2544) (o := .cells ⟨[.slice p2532 x2530.Memory.length c2533, .slice p2536 x2530.Copy.length c2537, .slice p2540 x2530.Dirty.length c2541]⟩ 25 (0, 0)) (by kernel_rfl))) ?_
    obtain ⟨r2552, hr2552, hm⟩ := gx_bind hm
    refine W_call 15 #[.agg #[.slice p2532 x2530.Memory.length c2533, .slice p2536 x2530.Copy.length c2537, .slice p2540 x2530.Dirty.length c2541]] (by kernel_rfl) (by kernel_rfl) ?_
    refine (c_l_toCopying w2548 x2530 p2532 c2533 (h2534.mem0 M2550) p2536 c2537 (h2538.mem0 M2550) p2540 c2541 (h2542.mem0 M2550) hr2552).mono ?_
    rintro e_ w2568 ⟨p2554, c2555, sg2556, p2559, c2560, sg2561, p2564, c2565, sg2566, rfl, ho2557, ho2562, ho2567, K2569⟩
    have M2570 := M2550.call K2569
    refine ⟨_, rfl, ?_⟩
    obtain ⟨r3208, hr3208, hm⟩ := gx_bind hm
    refine W_call 28 #[.agg #[.slice p2554 r2552.Memory.length c2555, .slice p2559 r2552.Copy.length c2560, .slice p2564 r2552.Dirty.length c2565]] (by kernel_rfl) (by kernel_rfl) ?_
    refine (c_s_FinishCopy w2568 r2552 p2554 c2555 (ho2557.rd M2570 1 (by kernel_rfl)) p2559 c2560 (ho2562.rd M2570 2 (by kernel_rfl)) p2564 c2565 (ho2567.rd M2570 3 (by kernel_rfl)) hr3208).mono ?_
    rintro e_ w3214 ⟨p3210, c3211, sg3212, rfl, ho3213, K3215⟩
    have M3216 := M2570.call K3215
    refine ⟨_, rfl, ?_⟩
    refine W_run 7 [(1, .pointer (some ⟨b2544, 0, none⟩)), (4, .slice p3210 r3208.1.length c3211), (5, .int .i64 r3208.2.1), (6, .bool r3208.2.2)] w3214 (by kernel_rfl) ?_
    refine W_nil ?_
    refine N_then ?_
    refine G_seq ?_
    refine G_region ?_
    refine W_val (.agg #[.slice p2532 x2530.Memory.length c2533, .slice p2536 x2530.Copy.length c2537, .slice p2540 x2530.Dirty.length c2541]) w3214 (by kernel_rfl) (E_load (e := 25) (fr := (0, 0)) _ _ true 3 b2544 0 [.slice p2532 x2530.Memory.length c2533, .slice p2536 x2530.Copy.length c2537, .slice p2540 x2530.Dirty.length c2541] (.agg #[.slice p2532 x2530.Memory.length c2533, .slice p2536 x2530.Copy.length c2537, .slice p2540 x2530.Dirty.length c2541]) rfl (by kernel_rfl) (by kernel_rfl) (by kernel_rfl) (M3216.blk 0 (b := b2544) (o := .cells ⟨[.slice p2532 x2530.Memory.length c2533, .slice p2536 x2530.Copy.length c2537, .slice p2540 x2530.Dirty.length c2541]⟩ 25 (0, 0)) (by kernel_rfl))) ?_
    obtain ⟨r3217, hr3217, hm⟩ := gx_bind hm
    refine W_call 15 #[.agg #[.slice p2532 x2530.Memory.length c2533, .slice p2536 x2530.Copy.length c2537, .slice p2540 x2530.Dirty.length c2541]] (by kernel_rfl) (by kernel_rfl) ?_
    refine (c_l_toCopying w3214 x2530 p2532 c2533 (h2534.mem0 M3216) p2536 c2537 (h2538.mem0 M3216) p2540 c2541 (h2542.mem0 M3216) hr3217).mono ?_
    rintro e_ w3233 ⟨p3219, c3220, sg3221, p3224, c3225, sg3226, p3229, c3230, sg3231, rfl, ho3222, ho3227, ho3232, K3234⟩
    have M3235 := M3216.call K3234
    refine ⟨_, rfl, ?_⟩
    refine W_new (fun b => .pointer (some ⟨b, 0, none⟩)) (.cells ⟨[.slice none 0 0, .slice none 0 0, .slice none 0 0]⟩ 28 (0, 0)) M3235 rfl (by kernel_rfl) (by kernel_rfl) ?_
    intro b3240 w3241 M3242
    refine W_store _ _ _ true 3 b3240 0 [.slice none 0 0, .slice none 0 0, .slice none 0 0] 28 (.agg #[.slice p3219 r3217.Memory.length c3220, .slice p3224 r3217.Copy.length c3225, .slice p3229 r3217.Dirty.length c3230]) 8 [.slice p3219 r3217.Memory.length c3220, .slice p3224 r3217.Copy.length c3225, .slice p3229 r3217.Dirty.length c3230] M3242 (by kernel_rfl) rfl (by kernel_rfl) (by kernel_rfl) (by kernel_rfl) (by kernel_rfl) (by kernel_rfl) (by kernel_rfl) (by kernel_rfl) (by kernel_rfl) ?_
    intro w3243 M3244
    refine W_nil ?_
    refine N_then ?_
    refine G_seq ?_
    refine G_region ?_
    refine W_val (.agg #[.slice p3219 r3217.Memory.length c3220, .slice p3224 r3217.Copy.length c3225, .slice p3229 r3217.Dirty.length c3230]) w3243 (by kernel_rfl) (E_load (e := 28) (fr := (0, 0)) _ _ true 3 b3240 0 [.slice p3219 r3217.Memory.length c3220, .slice p3224 r3217.Copy.length c3225, .slice p3229 r3217.Dirty.length c3230] (.agg #[.slice p3219 r3217.Memory.length c3220, .slice p3224 r3217.Copy.length c3225, .slice p3229 r3217.Dirty.length c3230]) rfl (by kernel_rfl) (by kernel_rfl) (by kernel_rfl) (M3244.blk 8 (b := b3240) (o := .cells ⟨[.slice p3219 r3217.Memory.length c3220, .slice p3224 r3217.Copy.length c3225, .slice p3229 r3217.Dirty.length c3230]⟩ 28 (0, 0)) (by kernel_rfl))) ?_
    obtain ⟨r3320, hr3320, hm⟩ := gx_bind hm
    refine W_call 29 #[.agg #[.slice p3219 r3217.Memory.length c3220, .slice p3224 r3217.Copy.length c3225, .slice p3229 r3217.Dirty.length c3230]] (by kernel_rfl) (by kernel_rfl) ?_
    refine (c_i_FinishCopy w3243 r3217 p3219 c3220 (ho3222.rd M3244 5 (by kernel_rfl)) p3224 c3225 (ho3227.rd M3244 6 (by kernel_rfl)) p3229 c3230 (ho3232.rd M3244 7 (by kernel_rfl)) hr3320).mono ?_
    rintro e_ w3326 ⟨p3322, c3323, sg3324, rfl, ho3325, K3327⟩
    have M3328 := M3244.call K3327
    refine ⟨_, rfl, ?_⟩
    refine W_run 7 [(1, .pointer (some ⟨b2544, 0, none⟩)), (4, .slice p3210 r3208.1.length c3211), (5, .int .i64 r3208.2.1), (6, .bool r3208.2.2), (7, .pointer (some ⟨b3240, 0, none⟩)), (8, .slice p3322 r3320.1.length c3323), (9, .int .i64 r3320.2.1), (10, .bool r3320.2.2)] w3326 (by kernel_rfl) ?_
    refine W_nil ?_
    refine N_then ?_
    refine G_seq ?_
    refine G_seq ?_
    obtain ⟨o3335, ho3336, hm3337⟩ := gx_bind hm
    refine G_meet (fun a w' => Mem [] w w' [[(b2544, .cells ⟨[.slice p2532 x2530.Memory.length c2533, .slice p2536 x2530.Copy.length c2537, .slice p2540 x2530.Dirty.length c2541]⟩ 25 (0, 0))], sg3212, sg3221, sg3226, sg3231, [(b3240, .cells ⟨[.slice p3219 r3217.Memory.length c3220, .slice p3224 r3217.Copy.length c3225, .slice p3229 r3217.Dirty.length c3230]⟩ 28 (0, 0))], sg3324] ∧ Sat Try.f6.ntmps [(1, .pointer (some ⟨b2544, 0, none⟩)), (4, .slice p3210 r3208.1.length c3211), (5, .int .i64 r3208.2.1), (6, .bool r3208.2.2), (7, .pointer (some ⟨b3240, 0, none⟩)), (8, .slice p3322 r3320.1.length c3323), (9, .int .i64 r3320.2.1), (10, .bool r3320.2.2), (50, .bool o3335)] a) ?_ ?_
    · have hm := ho3336
      refine G_region ?_
      refine W_run 2 [(1, .pointer (some ⟨b2544, 0, none⟩)), (4, .slice p3210 r3208.1.length c3211), (5, .int .i64 r3208.2.1), (6, .bool r3208.2.2), (7, .pointer (some ⟨b3240, 0, none⟩)), (8, .slice p3322 r3320.1.length c3323), (9, .int .i64 r3320.2.1), (10, .bool r3320.2.2), (37, .slice p3322 r3320.1.length c3323), (38, .slice p3210 r3208.1.length c3211)] w3326 (by kernel_rfl) ?_
      obtain ⟨r3338, hr3338, hm⟩ := gx_bind hm
      refine W_call 21 #[.slice p3322 r3320.1.length c3323, .slice p3210 r3208.1.length c3211] (by kernel_rfl) (by kernel_rfl) ?_
      refine (c_l_eqIntS w3326 r3320.1 p3322 c3323 (ho3325.rd M3328 9 (by kernel_rfl)) r3208.1 p3210 c3211 (ho3213.rd M3328 4 (by kernel_rfl)) hr3338).mono ?_
      rintro e_ w3339 ⟨rfl, K3340⟩
      have M3341 := M3328.call0 K3340
      refine ⟨_, rfl, ?_⟩
      refine W_run 2 [(1, .pointer (some ⟨b2544, 0, none⟩)), (4, .slice p3210 r3208.1.length c3211), (5, .int .i64 r3208.2.1), (6, .bool r3208.2.2), (7, .pointer (some ⟨b3240, 0, none⟩)), (8, .slice p3322 r3320.1.length c3323), (9, .int .i64 r3320.2.1), (10, .bool r3320.2.2), (41, .bool (!r3338))] w3339 (by kernel_rfl) ?_
      rcases gx_bif hm with ⟨hc3342, hm⟩ | ⟨hc3342, hm⟩
      · refine W_known 41 true (by kernel_rfl) hc3342 ?_
        refine W_run 9 [(1, .pointer (some ⟨b2544, 0, none⟩)), (4, .slice p3210 r3208.1.length c3211), (5, .int .i64 r3208.2.1), (6, .bool r3208.2.2), (7, .pointer (some ⟨b3240, 0, none⟩)), (8, .slice p3322 r3320.1.length c3323), (9, .int .i64 r3320.2.1), (10, .bool r3320.2.2), (50, .bool true)] w3339 (by kernel_rfl) ?_
        refine W_nil ?_
        obtain rfl := Option.some.inj hm
        exact N_meet fun a ha => ⟨M3341.pick [0, 4, 5, 6, 7, 8, 9] (by kernel_rfl), ha.sub (by kernel_rfl)⟩
      · refine W_known 41 false (by kernel_rfl) hc3342 ?_
        refine W_run 5 [(1, .pointer (some ⟨b2544, 0, none⟩)), (4, .slice p3210 r3208.1.length c3211), (5, .int .i64 r3208.2.1), (6, .bool r3208.2.2), (7, .pointer (some ⟨b3240, 0, none⟩)), (8, .slice p3322 r3320.1.length c3323), (9, .int .i64 r3320.2.1), (10, .bool r3320.2.2), (46, .bool (r3320.2.1 != r3208.2.1))] w3339 (by kernel_rfl) ?_
        rcases gx_bif hm with ⟨hc3343, hm⟩ | ⟨hc3343, hm⟩
        · refine W_known 46 true (by kernel_rfl) hc3343 ?_
          refine W_run 4 [(1, .pointer (some ⟨b2544, 0, none⟩)), (4, .slice p3210 r3208.1.length c3211), (5, .int .i64 r3208.2.1), (6, .bool r3208.2.2), (7, .pointer (some ⟨b3240, 0, none⟩)), (8, .slice p3322 r3320.1.length c3323), (9, .int .i64 r3320.2.1), (10, .bool r3320.2.2), (50, .bool true)] w3339 (by kernel_rfl) ?_
          refine W_nil ?_
          obtain rfl := Option.some.inj hm
          exact N_meet fun a ha => ⟨M3341.pick [0, 4, 5, 6, 7, 8, 9] (by kernel_rfl), ha.sub (by kernel_rfl)⟩
        · refine W_known 46 false (by kernel_rfl) hc3343 ?_
          refine W_run 4 [(1, .pointer (some ⟨b2544, 0, none⟩)), (4, .slice p3210 r3208.1.length c3211), (5, .int .i64 r3208.2.1), (6, .bool r3208.2.2), (7, .pointer (some ⟨b3240, 0, none⟩)), (8, .slice p3322 r3320.1.length c3323), (9, .int .i64 r3320.2.1), (10, .bool r3320.2.2), (50, .bool (!(r3320.2.2 == r3208.2.2)))] w3339 (by kernel_rfl) ?_
          refine W_nil ?_
          obtain rfl := Option.some.inj hm
          exact N_meet fun a ha => ⟨M3341.pick [0, 4, 5, 6, 7, 8, 9] (by kernel_rfl), ha.sub (by kernel_rfl)⟩
    · intro a3346 w3344 ⟨M3345, hS3347⟩
      refine N_use hS3347 ?_
      have hm := hm3337
      refine N_then ?_
      rcases gx_bif hm with ⟨hc3348, hm⟩ | ⟨hc3348, hm⟩
      · refine G_cond_t (b := o3335) hc3348 (by kernel_rfl) ?_
        refine G_seq ?_
        refine G_region ?_
        refine W_run 1 [(2, .bool false)] w3344 (by kernel_rfl) ?_
        refine W_nil ?_
        refine N_then ?_
        refine G_ret ?_
        refine N_then_ret ?_
        obtain rfl := Option.some.inj hm
        refine N_ret [.bool false] (RVs_cons (RV_tmp (by kernel_rfl)) RVs_nil) ?_
        exact ⟨rfl, M3345.pick [] (by kernel_rfl)⟩
      · refine G_cond_f (b := o3335) hc3348 (by kernel_rfl) ?_
        refine G_skip ?_
        refine N_then ?_
        refine G_seq ?_
        refine G_seq ?_
        obtain ⟨r3351, hr3351, hm⟩ := gx_bind hm
        refine G_sub [(1, .pointer (some ⟨b2544, 0, none⟩)), (4, .slice p3210 r3208.1.length c3211), (5, .int .i64 r3208.2.1), (6, .bool r3208.2.2), (7, .pointer (some ⟨b3240, 0, none⟩)), (8, .slice p3322 r3320.1.length c3323), (9, .int .i64 r3320.2.1), (10, .bool r3320.2.2), (50, .bool o3335)] (by kernel_rfl) ?_
        refine G_dagL 3 [[], [], [1]] [[], [], []] [[], [], []] [[], [], []] [[], [], []] [[], [], []] (fun _ => []) (fun i => ([fun f v s => v = (.agg #[.slice p3219 r3217.Memory.length c3220, .slice p3224 r3217.Copy.length c3225, .slice p3229 r3217.Dirty.length c3230] : Value) ∧ s = [], fun f v s => v = (.agg #[.slice p2532 x2530.Memory.length c2533, .slice p2536 x2530.Copy.length c2537, .slice p2540 x2530.Dirty.length c2541] : Value) ∧ s = [], fun f v s => ∃ (p3353 : Option Addr) (c3354 : Nat) (sg3355 : Seg), ∃ (p3358 : Option Addr) (c3359 : Nat) (sg3360 : Seg), ∃ (p3363 : Option Addr) (c3364 : Nat) (sg3365 : Seg), v = (.agg #[.slice p3353 r3351.Memory.length c3354, .slice p3358 r3351.Copy.length c3359, .slice p3363 r3351.Dirty.length c3364] : Value) ∧ s = (sg3355 ++ (sg3360 ++ sg3365)) ∧ ownS encI r3351.Memory p3353 c3354 sg3355 ∧ ownS encI r3351.Copy p3358 c3359 sg3360 ∧ ownS encB r3351.Dirty p3363 c3364 sg3365] : List ((Nat → Value) → Value → Seg → Prop)).getD i (fun _ _ _ => False)) (fun j f v => ∃ s, (fun i => ([fun f v s => v = (.agg #[.slice p3219 r3217.Memory.length c3220, .slice p3224 r3217.Copy.length c3225, .slice p3229 r3217.Dirty.length c3230] : Value) ∧ s = [], fun f v s => v = (.agg #[.slice p2532 x2530.Memory.length c2533, .slice p2536 x2530.Copy.length c2537, .slice p2540 x2530.Dirty.length c2541] : Value) ∧ s = [], fun f v s => ∃ (p3353 : Option Addr) (c3354 : Nat) (sg3355 : Seg), ∃ (p3358 : Option Addr) (c3359 : Nat) (sg3360 : Seg), ∃ (p3363 : Option Addr) (c3364 : Nat) (sg3365 : Seg), v = (.agg #[.slice p3353 r3351.Memory.length c3354, .slice p3358 r3351.Copy.length c3359, .slice p3363 r3351.Dirty.length c3364] : Value) ∧ s = (sg3355 ++ (sg3360 ++ sg3365)) ∧ ownS encI r3351.Memory p3353 c3354 sg3355 ∧ ownS encI r3351.Copy p3358 c3359 sg3360 ∧ ownS encB r3351.Dirty p3363 c3364 sg3365] : List ((Nat → Value) → Value → Seg → Prop)).getD i (fun _ _ _ => False)) j f v s) [] [0, 2] [2] (fun _ _ _ s h => ⟨s, h⟩) (by kernel_rfl) (by kernel_rfl) (M3345.preNil 3) (by kernel_rfl) (by kernel_rfl) (by kernel_rfl) (by kernel_rfl) (allOb_cons ?_ (allOb_cons ?_ (allOb_cons ?_ allOb_nil))) ?_
        · intro g3349 f3350
          intro R w3367 M3368
          refine W_val (.agg #[.slice p3219 r3217.Memory.length c3220, .slice p3224 r3217.Copy.length c3225, .slice p3229 r3217.Dirty.length c3230]) w3367 (by kernel_rfl) (E_load (e := 28) (fr := (0, 0)) _ _ true 3 b3240 0 [.slice p3219 r3217.Memory.length c3220, .slice p3224 r3217.Copy.length c3225, .slice p3229 r3217.Dirty.length c3230] (.agg #[.slice p3219 r3217.Memory.length c3220, .slice p3224 r3217.Copy.length c3225, .slice p3229 r3217.Dirty.length c3230]) rfl (by kernel_rfl) (by kernel_rfl) (by kernel_rfl) (M3368.blk 5 (b := b3240) (o := .cells ⟨[.slice p3219 r3217.Memory.length c3220, .slice p3224 r3217.Copy.length c3225, .slice p3229 r3217.Dirty.length c3230]⟩ 28 (0, 0)) (by kernel_rfl))) ?_
          exact W_nil (ob_end (.agg #[.slice p3219 r3217.Memory.length c3220, .slice p3224 r3217.Copy.length c3225, .slice p3229 r3217.Dirty.length c3230]) [] rfl (by kernel_rfl) ⟨by kernel_rfl, rfl⟩ M3368)
        · intro g3349 f3350
          intro R w3371 M3372
          refine W_val (.agg #[.slice p2532 x2530.Memory.length c2533, .slice p2536 x2530.Copy.length c2537, .slice p2540 x2530.Dirty.length c2541]) w3371 (by kernel_rfl) (E_load (e := 25) (fr := (0, 0)) _ _ true 3 b2544 0 [.slice p2532 x2530.Memory.length c2533, .slice p2536 x2530.Copy.length c2537, .slice p2540 x2530.Dirty.length c2541] (.agg #[.slice p2532 x2530.Memory.length c2533, .slice p2536 x2530.Copy.length c2537, .slice p2540 x2530.Dirty.length c2541]) rfl (by kernel_rfl) (by kernel_rfl) (by kernel_rfl) (M3372.blk 0 (b := b2544) (o := .cells ⟨[.slice p2532 x2530.Memory.length c2533, .slice p2536 x2530.Copy.length c2537, .slice p2540 x2530.Dirty.length c2541]⟩ 25 (0, 0)) (by kernel_rfl))) ?_
          exact W_nil (ob_end (.agg #[.slice p2532 x2530.Memory.length c2533, .slice p2536 x2530.Copy.length c2537, .slice p2540 x2530.Dirty.length c2541]) [] rfl (by kernel_rfl) ⟨by kernel_rfl, rfl⟩ M3372)
        · intro g3349 f3350
          intro v1_ hb1_
          obtain ⟨rfl, _⟩ := hb1_
          intro R w3375 M3376
          refine W_call 15 #[.agg #[.slice p2532 x2530.Memory.length c2533, .slice p2536 x2530.Copy.length c2537, .slice p2540 x2530.Dirty.length c2541]] (by kernel_rfl) (by kernel_rfl) ?_
          refine (c_l_toCopying w3375 x2530 p2532 c2533 (h2534.mem0 M3376) p2536 c2537 (h2538.mem0 M3376) p2540 c2541 (h2542.mem0 M3376) hr3351).mono ?_
          rintro e_ w3377 ⟨p3353, c3354, sg3355, p3358, c3359, sg3360, p3363, c3364, sg3365, rfl, ho3356, ho3361, ho3366, K3379⟩
          refine ⟨_, rfl, ?_⟩
          exact W_nil (ob_end (.agg #[.slice p3353 r3351.Memory.length c3354, .slice p3358 r3351.Copy.length c3359, .slice p3363 r3351.Dirty.length c3364]) (sg3355 ++ (sg3360 ++ sg3365)) rfl (by kernel_rfl) ⟨p3353, c3354, sg3355, p3358, c3359, sg3360, p3363, c3364, sg3365, rfl, rfl, ho3356, ho3361, ho3366⟩ (Mem.callMid M3376 (K3379.permF (by simp))))
        · intro g3349 f3350
          intro v0_ hb0_
          obtain ⟨rfl, _⟩ := hb0_
          intro v2_ hb2_
          obtain ⟨p3353, c3354, sg3355, p3358, c3359, sg3360, p3363, c3364, sg3365, rfl, hs2_, ho3356, ho3361, ho3366⟩ := hb2_
          intro w3380 M3381
          have M3382 : Mem [] w w3380 [[(b2544, .cells ⟨[.slice p2532 x2530.Memory.length c2533, .slice p2536 x2530.Copy.length c2537, .slice p2540 x2530.Dirty.length c2541]⟩ 25 (0, 0))], sg3212, sg3221, sg3226, sg3231, [(b3240, .cells ⟨[.slice p3219 r3217.Memory.length c3220, .slice p3224 r3217.Copy.length c3225, .slice p3229 r3217.Dirty.length c3230]⟩ 28 (0, 0))], sg3324, (g3349 2)] := M3381
          rw [hs2_] at M3382
          replace M3382 : Mem [] w w3380 [[(b2544, .cells ⟨[.slice p2532 x2530.Memory.length c2533, .slice p2536 x2530.Copy.length c2537, .slice p2540 x2530.Dirty.length c2541]⟩ 25 (0, 0))], sg3212, sg3221, sg3226, sg3231, [(b3240, .cells ⟨[.slice p3219 r3217.Memory.length c3220, .slice p3224 r3217.Copy.length c3225, .slice p3229 r3217.Dirty.length c3230]⟩ 28 (0, 0))], sg3324, sg3355, sg3360, sg3365] := M3382.permF (by simp)
          obtain ⟨r3383, hr3383, hm⟩ := gx_bind hm
          refine W_call 17 #[.agg #[.slice p3219 r3217.Memory.length c3220, .slice p3224 r3217.Copy.length c3225, .slice p3229 r3217.Dirty.length c3230], .agg #[.slice p3353 r3351.Memory.length c3354, .slice p3358 r3351.Copy.length c3359, .slice p3363 r3351.Dirty.length c3364]] (by kernel_rfl) (by kernel_rfl) ?_
          refine (c_l_eqCopying w3380 r3217 p3219 c3220 (ho3222.rd M3382 2 (by kernel_rfl)) p3224 c3225 (ho3227.rd M3382 3 (by kernel_rfl)) p3229 c3230 (ho3232.rd M3382 4 (by kernel_rfl)) r3351 p3353 c3354 (ho3356.rd M3382 7 (by kernel_rfl)) p3358 c3359 (ho3361.rd M3382 8 (by kernel_rfl)) p3363 c3364 (ho3366.rd M3382 9 (by kernel_rfl)) hr3383).mono ?_
          rintro e_ w3384 ⟨rfl, K3385⟩
          have M3386 := M3382.call0 K3385
          refine ⟨_, rfl, ?_⟩
          refine W_run 1 [(1, .pointer (some ⟨b2544, 0, none⟩)), (4, .slice p3210 r3208.1.length c3211), (5, .int .i64 r3208.2.1), (6, .bool r3208.2.2), (7, .pointer (some ⟨b3240, 0, none⟩)), (8, .slice p3322 r3320.1.length c3323), (9, .int .i64 r3320.2.1), (10, .bool r3320.2.2), (55, .bool (!r3383))] w3384 (by kernel_rfl) ?_
          refine W_nil ?_
          refine N_then ?_
          rcases gx_bif hm with ⟨hc3387, hm⟩ | ⟨hc3387, hm⟩
          · refine G_cond_t (b := (!r3383)) hc3387 (by kernel_rfl) ?_
            refine G_seq ?_
            refine G_region ?_
            refine W_run 1 [(2, .bool false)] w3384 (by kernel_rfl) ?_
            refine W_nil ?_
            refine N_then ?_
            refine G_ret ?_
            refine N_then_ret ?_
            obtain rfl := Option.some.inj hm
            refine N_ret [.bool false] (RVs_cons (RV_tmp (by kernel_rfl)) RVs_nil) ?_
            exact ⟨rfl, M3386.pick [] (by kernel_rfl)⟩
          · refine G_cond_f (b := (!r3383)) hc3387 (by kernel_rfl) ?_
            refine G_skip ?_
            refine N_then ?_
            refine G_seq ?_
            refine G_region ?_
            refine W_run 1 [(1, .pointer (some ⟨b2544, 0, none⟩)), (4, .slice p3210 r3208.1.length c3211), (5, .int .i64 r3208.2.1), (6, .bool r3208.2.2), (7, .pointer (some ⟨b3240, 0, none⟩)), (8, .slice p3322 r3320.1.length c3323), (9, .int .i64 r3320.2.1), (10, .bool r3320.2.2), (11, .int .i64 1)] w3384 (by kernel_rfl) ?_
            refine W_nil ?_
            refine N_then ?_
            refine G_seq ?_
            refine G_region ?_
            refine W_val (.agg #[.slice p3219 r3217.Memory.length c3220, .slice p3224 r3217.Copy.length c3225, .slice p3229 r3217.Dirty.length c3230]) w3384 (by kernel_rfl) (E_load (e := 28) (fr := (0, 0)) _ _ true 3 b3240 0 [.slice p3219 r3217.Memory.length c3220, .slice p3224 r3217.Copy.length c3225, .slice p3229 r3217.Dirty.length c3230] (.agg #[.slice p3219 r3217.Memory.length c3220, .slice p3224 r3217.Copy.length c3225, .slice p3229 r3217.Dirty.length c3230]) rfl (by kernel_rfl) (by kernel_rfl) (by kernel_rfl) (M3386.blk 5 (b := b3240) (o := .cells ⟨[.slice p3219 r3217.Memory.length c3220, .slice p3224 r3217.Copy.length c3225, .slice p3229 r3217.Dirty.length c3230]⟩ 28 (0, 0)) (by kernel_rfl))) ?_
            refine W_run 1 [(1, .pointer (some ⟨b2544, 0, none⟩)), (4, .slice p3210 r3208.1.length c3211), (5, .int .i64 r3208.2.1), (6, .bool r3208.2.2), (8, .slice p3322 r3320.1.length c3323), (9, .int .i64 r3320.2.1), (10, .bool r3320.2.2), (11, .int .i64 1), (56, .agg #[.slice p3219 r3217.Memory.length c3220, .slice p3224 r3217.Copy.length c3225, .slice p3229 r3217.Dirty.length c3230]), (57, .int .i64 1)] w3384 (by kernel_rfl) ?_
            obtain ⟨r3388, hr3388, hm⟩ := gx_bind hm
            refine W_call 23 #[.agg #[.slice p3219 r3217.Memory.length c3220, .slice p3224 r3217.Copy.length c3225, .slice p3229 r3217.Dirty.length c3230], .int .i64 1] (by kernel_rfl) (by kernel_rfl) ?_
            refine (c_l_markCopying w3384 r3217 p3219 c3220 sg3221 ho3222 p3224 c3225 sg3226 ho3227 p3229 c3230 sg3231 ho3232 1 (M3386.hasPick [2, 3, 4]) (M3386.nodupPick [2, 3, 4] (by kernel_rfl)) hr3388).mono ?_
            rintro e_ w3398 ⟨sg3389, sg3392, sg3395, rfl, ho3390, hl3391, ho3393, hl3394, ho3396, hl3397, K3399⟩
            have M3400 := M3386.callF' [2, 3, 4] [0, 1, 5, 6, 7, 8, 9] (by kernel_rfl) K3399
            refine ⟨_, rfl, ?_⟩
            refine W_conv 56 (.agg #[.slice p3219 r3217.Memory.length c3220, .slice p3224 r3217.Copy.length c3225, .slice p3229 r3217.Dirty.length c3230]) (.agg #[.slice p3219 r3388.2.1.length c3220, .slice p3224 r3388.2.2.1.length c3225, .slice p3229 r3388.2.2.2.length c3230]) (by kernel_rfl) (by first | rw [hl3391, hl3394, hl3397] | rw [hl3391] | rw [hl3394] | rw [hl3397]) ?_
            have M3401 : Mem [] w w3398 [[(b2544, .cells ⟨[.slice p2532 x2530.Memory.length c2533, .slice p2536 x2530.Copy.length c2537, .slice p2540 x2530.Dirty.length c2541]⟩ 25 (0, 0))], sg3212, [(b3240, .cells ⟨[.slice p3219 r3388.2.1.length c3220, .slice p3224 r3388.2.2.1.length c3225, .slice p3229 r3388.2.2.2.length c3230]⟩ 28 (0, 0))], sg3324, sg3355, sg3360, sg3365, sg3389, sg3392, sg3395] := by rw [hl3391, hl3394, hl3397]; exact M3400
            refine W_run 1 [(1, .pointer (some ⟨b2544, 0, none⟩)), (4, .slice p3210 r3208.1.length c3211), (5, .int .i64 r3208.2.1), (6, .bool r3208.2.2), (8, .slice p3322 r3320.1.length c3323), (9, .int .i64 r3320.2.1), (10, .bool r3320.2.2), (11, .int .i64 r3388.1)] w3398 (by kernel_rfl) ?_
            refine W_nil ?_
            refine N_then ?_
            refine G_seq ?_
            refine G_seq ?_
            obtain ⟨o3409, ho3410, hm3411⟩ := gx_bind hm
            refine G_meet (fun a w' => Mem [] w w' [[(b2544, .cells ⟨[.slice p2532 x2530.Memory.length c2533, .slice p2536 x2530.Copy.length c2537, .slice p2540 x2530.Dirty.length c2541]⟩ 25 (0, 0))], sg3212, sg3324] ∧ Sat Try.f6.ntmps [(1, .pointer (some ⟨b2544, 0, none⟩)), (4, .slice p3210 r3208.1.length c3211), (5, .int .i64 r3208.2.1), (6, .bool r3208.2.2), (8, .slice p3322 r3320.1.length c3323), (76, .bool o3409)] a) ?_ ?_
            · have hm := ho3410
              refine G_region ?_
              refine W_run 3 [(1, .pointer (some ⟨b2544, 0, none⟩)), (4, .slice p3210 r3208.1.length c3211), (5, .int .i64 r3208.2.1), (6, .bool r3208.2.2), (8, .slice p3322 r3320.1.length c3323), (9, .int .i64 r3320.2.1), (10, .bool r3320.2.2), (61, .bool (decide (r3388.1 < 0)))] w3398 (by kernel_rfl) ?_
              rcases gx_bif hm with ⟨hc3412, hm⟩ | ⟨hc3412, hm⟩
              · refine W_known 61 true (by kernel_rfl) hc3412 ?_
                refine W_run 15 [(1, .pointer (some ⟨b2544, 0, none⟩)), (4, .slice p3210 r3208.1.length c3211), (5, .int .i64 r3208.2.1), (6, .bool r3208.2.2), (8, .slice p3322 r3320.1.length c3323), (76, .bool true)] w3398 (by kernel_rfl) ?_
                refine W_nil ?_
                obtain rfl := Option.some.inj hm
                exact N_meet fun a ha => ⟨M3401.pick [0, 1, 3] (by kernel_rfl), ha.sub (by kernel_rfl)⟩
              · refine W_known 61 false (by kernel_rfl) hc3412 ?_
                refine W_run 2 [(1, .pointer (some ⟨b2544, 0, none⟩)), (4, .slice p3210 r3208.1.length c3211), (5, .int .i64 r3208.2.1), (6, .bool r3208.2.2), (8, .slice p3322 r3320.1.length c3323), (9, .int .i64 r3320.2.1), (10, .bool r3320.2.2), (61, .bool false), (62, .slice p3322 r3320.1.length c3323), (63, .slice p3210 r3208.1.length c3211)] w3398 (by kernel_rfl) ?_
                obtain ⟨r3413, hr3413, hm⟩ := gx_bind hm
                refine W_call 21 #[.slice p3322 r3320.1.length c3323, .slice p3210 r3208.1.length c3211] (by kernel_rfl) (by kernel_rfl) ?_
                refine (c_l_eqIntS w3398 r3320.1 p3322 c3323 (ho3325.rd M3401 3 (by kernel_rfl)) r3208.1 p3210 c3211 (ho3213.rd M3401 1 (by kernel_rfl)) hr3413).mono ?_
                rintro e_ w3414 ⟨rfl, K3415⟩
                have M3416 := M3401.call0 K3415
                refine ⟨_, rfl, ?_⟩
                refine W_run 3 [(1, .pointer (some ⟨b2544, 0, none⟩)), (4, .slice p3210 r3208.1.length c3211), (5, .int .i64 r3208.2.1), (6, .bool r3208.2.2), (8, .slice p3322 r3320.1.length c3323), (9, .int .i64 r3320.2.1), (10, .bool r3320.2.2), (67, .bool (!r3413))] w3414 (by kernel_rfl) ?_
                rcases gx_bif hm with ⟨hc3417, hm⟩ | ⟨hc3417, hm⟩
                · refine W_known 67 true (by kernel_rfl) hc3417 ?_
                  refine W_run 9 [(1, .pointer (some ⟨b2544, 0, none⟩)), (4, .slice p3210 r3208.1.length c3211), (5, .int .i64 r3208.2.1), (6, .bool r3208.2.2), (8, .slice p3322 r3320.1.length c3323), (76, .bool true)] w3414 (by kernel_rfl) ?_
                  refine W_nil ?_
                  obtain rfl := Option.some.inj hm
                  exact N_meet fun a ha => ⟨M3416.pick [0, 1, 3] (by kernel_rfl), ha.sub (by kernel_rfl)⟩
                · refine W_known 67 false (by kernel_rfl) hc3417 ?_
                  refine W_run 5 [(1, .pointer (some ⟨b2544, 0, none⟩)), (4, .slice p3210 r3208.1.length c3211), (5, .int .i64 r3208.2.1), (6, .bool r3208.2.2), (8, .slice p3322 r3320.1.length c3323), (10, .bool r3320.2.2), (72, .bool (r3320.2.1 != r3208.2.1))] w3414 (by kernel_rfl) ?_
                  rcases gx_bif hm with ⟨hc3418, hm⟩ | ⟨hc3418, hm⟩
                  · refine W_known 72 true (by kernel_rfl) hc3418 ?_
                    refine W_run 4 [(1, .pointer (some ⟨b2544, 0, none⟩)), (4, .slice p3210 r3208.1.length c3211), (5, .int .i64 r3208.2.1), (6, .bool r3208.2.2), (8, .slice p3322 r3320.1.length c3323), (76, .bool true)] w3414 (by kernel_rfl) ?_
                    refine W_nil ?_
                    obtain rfl := Option.some.inj hm
                    exact N_meet fun a ha => ⟨M3416.pick [0, 1, 3] (by kernel_rfl), ha.sub (by kernel_rfl)⟩
                  · refine W_known 72 false (by kernel_rfl) hc3418 ?_
                    refine W_run 4 [(1, .pointer (some ⟨b2544, 0, none⟩)), (4, .slice p3210 r3208.1.length c3211), (5, .int .i64 r3208.2.1), (6, .bool r3208.2.2), (8, .slice p3322 r3320.1.length c3323), (76, .bool (!(r3320.2.2 == r3208.2.2)))] w3414 (by kernel_rfl) ?_
                    refine W_nil ?_
                    obtain rfl := Option.some.inj hm
                    exact N_meet fun a ha => ⟨M3416.pick [0, 1, 3] (by kernel_rfl), ha.sub (by kernel_rfl)⟩
            · intro a3421 w3419 ⟨M3420, hS3422⟩
              refine N_use hS3422 ?_
              have hm := hm3411
              refine N_then ?_
              rcases gx_bif hm with ⟨hc3423, hm⟩ | ⟨hc3423, hm⟩
              · refine G_cond_t (b := o3409) hc3423 (by kernel_rfl) ?_
                refine G_seq ?_
                refine G_region ?_
                refine W_run 1 [(2, .bool false)] w3419 (by kernel_rfl) ?_
                refine W_nil ?_
                refine N_then ?_
                refine G_ret ?_
                refine N_then_ret ?_
                obtain rfl := Option.some.inj hm
                refine N_ret [.bool false] (RVs_cons (RV_tmp (by kernel_rfl)) RVs_nil) ?_
                exact ⟨rfl, M3420.pick [] (by kernel_rfl)⟩
              · refine G_cond_f (b := o3409) hc3423 (by kernel_rfl) ?_
                refine G_skip ?_
                refine N_then ?_
                refine G_seq ?_
                refine G_region ?_
                refine W_run 1 [(1, .pointer (some ⟨b2544, 0, none⟩)), (4, .slice p3210 r3208.1.length c3211), (5, .int .i64 r3208.2.1), (6, .bool r3208.2.2), (8, .slice p3322 r3320.1.length c3323), (12, .int .i64 1)] w3419 (by kernel_rfl) ?_
                refine W_nil ?_
                refine N_then ?_
                refine G_seq ?_
                refine G_region ?_
                refine W_run 2 [(1, .pointer (some ⟨b2544, 0, none⟩)), (4, .slice p3210 r3208.1.length c3211), (5, .int .i64 r3208.2.1), (6, .bool r3208.2.2), (8, .slice p3322 r3320.1.length c3323), (12, .int .i64 1), (77, .slice p3322 r3320.1.length c3323), (78, .int .i64 1)] w3419 (by kernel_rfl) ?_
                obtain ⟨r3424, hr3424, hm⟩ := gx_bind hm
                refine W_call 22 #[.slice p3322 r3320.1.length c3323, .int .i64 1] (by kernel_rfl) (by kernel_rfl) ?_
                refine (c_l_markIntS w3419 r3320.1 p3322 c3323 sg3324 ho3325 1 (M3420.hasPick [2]) (M3420.nodupPick [2] (by kernel_rfl)) hr3424).mono ?_
                rintro e_ w3428 ⟨sg3425, rfl, ho3426, hl3427, K3429⟩
                have M3430 := M3420.callF' [2] [0, 1] (by kernel_rfl) K3429
                refine ⟨_, rfl, ?_⟩
                refine W_conv 8 (.slice p3322 r3320.1.length c3323) (.slice p3322 r3424.2.length c3323) (by kernel_rfl) (by first | rw [hl3427] | rw [hl3427]) ?_
                refine W_conv 77 (.slice p3322 r3320.1.length c3323) (.slice p3322 r3424.2.length c3323) (by kernel_rfl) (by first | rw [hl3427] | rw [hl3427]) ?_
                refine W_run 1 [(1, .pointer (some ⟨b2544, 0, none⟩)), (4, .slice p3210 r3208.1.length c3211), (5, .int .i64 r3208.2.1), (6, .bool r3208.2.2), (8, .slice p3322 r3424.2.length c3323), (12, .int .i64 r3424.1)] w3428 (by kernel_rfl) ?_
                refine W_nil ?_
                refine N_then ?_
                refine G_seq ?_
                refine G_region ?_
                refine W_run 1 [(1, .pointer (some ⟨b2544, 0, none⟩)), (4, .slice p3210 r3208.1.length c3211), (5, .int .i64 r3208.2.1), (6, .bool r3208.2.2), (8, .slice p3322 r3424.2.length c3323), (12, .int .i64 r3424.1), (13, .int .i64 1)] w3428 (by kernel_rfl) ?_
                refine W_nil ?_
                refine N_then ?_
                refine G_seq ?_
                refine G_region ?_
                refine W_run 2 [(1, .pointer (some ⟨b2544, 0, none⟩)), (4, .slice p3210 r3208.1.length c3211), (5, .int .i64 r3208.2.1), (6, .bool r3208.2.2), (8, .slice p3322 r3424.2.length c3323), (12, .int .i64 r3424.1), (13, .int .i64 1), (80, .slice p3322 r3424.2.length c3323), (81, .int .i64 1)] w3428 (by kernel_rfl) ?_
                obtain ⟨r3431, hr3431, hm⟩ := gx_bind hm
                refine W_call 27 #[.slice p3322 r3424.2.length c3323, .int .i64 1] (by kernel_rfl) (by kernel_rfl) ?_
                refine (c_l_heldIntS w3428 r3424.2 p3322 c3323 (ho3426.rd M3430 2 (by kernel_rfl)) 1 hr3431).mono ?_
                rintro e_ w3432 ⟨rfl, K3433⟩
                have M3434 := M3430.call0 K3433
                refine ⟨_, rfl, ?_⟩
                refine W_run 1 [(1, .pointer (some ⟨b2544, 0, none⟩)), (4, .slice p3210 r3208.1.length c3211), (5, .int .i64 r3208.2.1), (6, .bool r3208.2.2), (8, .slice p3322 r3424.2.length c3323), (12, .int .i64 r3424.1), (13, .int .i64 r3431)] w3432 (by kernel_rfl) ?_
                refine W_nil ?_
                refine N_then ?_
                refine G_seq ?_
                refine G_seq ?_
                refine G_region ?_
                refine W_run 2 [(1, .pointer (some ⟨b2544, 0, none⟩)), (4, .slice p3210 r3208.1.length c3211), (5, .int .i64 r3208.2.1), (6, .bool r3208.2.2), (8, .slice p3322 r3424.2.length c3323), (12, .int .i64 r3424.1), (13, .int .i64 r3431), (84, .bool (decide (r3431 < 0)))] w3432 (by kernel_rfl) ?_
                refine W_nil ?_
                refine N_then ?_
                rcases gx_bif hm with ⟨hc3435, hm⟩ | ⟨hc3435, hm⟩
                · refine G_cond_t (b := (decide (r3431 < 0))) hc3435 (by kernel_rfl) ?_
                  refine G_seq ?_
                  refine G_region ?_
                  refine W_run 1 [(2, .bool false)] w3432 (by kernel_rfl) ?_
                  refine W_nil ?_
                  refine N_then ?_
                  refine G_ret ?_
                  refine N_then_ret ?_
                  obtain rfl := Option.some.inj hm
                  refine N_ret [.bool false] (RVs_cons (RV_tmp (by kernel_rfl)) RVs_nil) ?_
                  exact ⟨rfl, M3434.pick [] (by kernel_rfl)⟩
                · refine G_cond_f (b := (decide (r3431 < 0))) hc3435 (by kernel_rfl) ?_
                  refine G_skip ?_
                  refine N_then ?_
                  refine G_seq ?_
                  refine G_seq ?_
                  refine G_region ?_
                  refine W_run 3 [(1, .pointer (some ⟨b2544, 0, none⟩)), (4, .slice p3210 r3208.1.length c3211), (5, .int .i64 r3208.2.1), (6, .bool r3208.2.2), (8, .slice p3322 r3424.2.length c3323), (12, .int .i64 r3424.1), (87, .bool (r3431 != r3424.1))] w3432 (by kernel_rfl) ?_
                  refine W_nil ?_
                  refine N_then ?_
                  rcases gx_bif hm with ⟨hc3436, hm⟩ | ⟨hc3436, hm⟩
                  · refine G_cond_t (b := (r3431 != r3424.1)) hc3436 (by kernel_rfl) ?_
                    refine G_seq ?_
                    refine G_region ?_
                    refine W_run 1 [(2, .bool false)] w3432 (by kernel_rfl) ?_
                    refine W_nil ?_
                    refine N_then ?_
                    refine G_ret ?_
                    refine N_then_ret ?_
                    obtain rfl := Option.some.inj hm
                    refine N_ret [.bool false] (RVs_cons (RV_tmp (by kernel_rfl)) RVs_nil) ?_
                    exact ⟨rfl, M3434.pick [] (by kernel_rfl)⟩
                  · refine G_cond_f (b := (r3431 != r3424.1)) hc3436 (by kernel_rfl) ?_
                    refine G_skip ?_
                    refine N_then ?_
                    refine G_seq ?_
                    refine G_region ?_
                    refine W_val (.agg #[.slice p2532 x2530.Memory.length c2533, .slice p2536 x2530.Copy.length c2537, .slice p2540 x2530.Dirty.length c2541]) w3432 (by kernel_rfl) (E_load (e := 25) (fr := (0, 0)) _ _ true 3 b2544 0 [.slice p2532 x2530.Memory.length c2533, .slice p2536 x2530.Copy.length c2537, .slice p2540 x2530.Dirty.length c2541] (.agg #[.slice p2532 x2530.Memory.length c2533, .slice p2536 x2530.Copy.length c2537, .slice p2540 x2530.Dirty.length c2541]) rfl (by kernel_rfl) (by kernel_rfl) (by kernel_rfl) (M3434.blk 0 (b := b2544) (o := .cells ⟨[.slice p2532 x2530.Memory.length c2533, .slice p2536 x2530.Copy.length c2537, .slice p2540 x2530.Dirty.length c2541]⟩ 25 (0, 0)) (by kernel_rfl))) ?_
                    obtain ⟨r3437, hr3437, hm⟩ := gx_bind hm
                    refine W_call 15 #[.agg #[.slice p2532 x2530.Memory.length c2533, .slice p2536 x2530.Copy.length c2537, .slice p2540 x2530.Dirty.length c2541]] (by kernel_rfl) (by kernel_rfl) ?_
                    refine (c_l_toCopying w3432 x2530 p2532 c2533 (h2534.mem0 M3434) p2536 c2537 (h2538.mem0 M3434) p2540 c2541 (h2542.mem0 M3434) hr3437).mono ?_
                    rintro e_ w3453 ⟨p3439, c3440, sg3441, p3444, c3445, sg3446, p3449, c3450, sg3451, rfl, ho3442, ho3447, ho3452, K3454⟩
                    have M3455 := M3434.call K3454
                    refine ⟨_, rfl, ?_⟩
                    obtain ⟨r3456, hr3456, hm⟩ := gx_bind hm
                    refine W_call 29 #[.agg #[.slice p3439 r3437.Memory.length c3440, .slice p3444 r3437.Copy.length c3445, .slice p3449 r3437.Dirty.length c3450]] (by kernel_rfl) (by kernel_rfl) ?_
                    refine (c_i_FinishCopy w3453 r3437 p3439 c3440 (ho3442.rd M3455 3 (by kernel_rfl)) p3444 c3445 (ho3447.rd M3455 4 (by kernel_rfl)) p3449 c3450 (ho3452.rd M3455 5 (by kernel_rfl)) hr3456).mono ?_
                    rintro e_ w3462 ⟨p3458, c3459, sg3460, rfl, ho3461, K3463⟩
                    have M3464 := M3455.call K3463
                    refine ⟨_, rfl, ?_⟩
                    refine W_run 7 [(4, .slice p3210 r3208.1.length c3211), (5, .int .i64 r3208.2.1), (6, .bool r3208.2.2), (8, .slice p3322 r3424.2.length c3323), (12, .int .i64 r3424.1), (14, .slice p3458 r3456.1.length c3459), (15, .int .i64 r3456.2.1), (16, .bool r3456.2.2)] w3462 (by kernel_rfl) ?_
                    refine W_nil ?_
                    refine N_then ?_
                    refine G_seq ?_
                    refine G_seq ?_
                    obtain ⟨o3471, ho3472, hm3473⟩ := gx_bind hm
                    refine G_meet (fun a w' => Mem [] w w' [sg3425] ∧ Sat Try.f6.ntmps [(8, .slice p3322 r3424.2.length c3323), (12, .int .i64 r3424.1), (108, .bool o3471)] a) ?_ ?_
                    · have hm := ho3472
                      refine G_region ?_
                      refine W_run 2 [(5, .int .i64 r3208.2.1), (6, .bool r3208.2.2), (8, .slice p3322 r3424.2.length c3323), (12, .int .i64 r3424.1), (15, .int .i64 r3456.2.1), (16, .bool r3456.2.2), (95, .slice p3458 r3456.1.length c3459), (96, .slice p3210 r3208.1.length c3211)] w3462 (by kernel_rfl) ?_
                      obtain ⟨r3474, hr3474, hm⟩ := gx_bind hm
                      refine W_call 21 #[.slice p3458 r3456.1.length c3459, .slice p3210 r3208.1.length c3211] (by kernel_rfl) (by kernel_rfl) ?_
                      refine (c_l_eqIntS w3462 r3456.1 p3458 c3459 (ho3461.rd M3464 6 (by kernel_rfl)) r3208.1 p3210 c3211 (ho3213.rd M3464 1 (by kernel_rfl)) hr3474).mono ?_
                      rintro e_ w3475 ⟨rfl, K3476⟩
                      have M3477 := M3464.call0 K3476
                      refine ⟨_, rfl, ?_⟩
                      refine W_run 2 [(5, .int .i64 r3208.2.1), (6, .bool r3208.2.2), (8, .slice p3322 r3424.2.length c3323), (12, .int .i64 r3424.1), (15, .int .i64 r3456.2.1), (16, .bool r3456.2.2), (99, .bool (!r3474))] w3475 (by kernel_rfl) ?_
                      rcases gx_bif hm with ⟨hc3478, hm⟩ | ⟨hc3478, hm⟩
                      · refine W_known 99 true (by kernel_rfl) hc3478 ?_
                        refine W_run 9 [(8, .slice p3322 r3424.2.length c3323), (12, .int .i64 r3424.1), (108, .bool true)] w3475 (by kernel_rfl) ?_
                        refine W_nil ?_
                        obtain rfl := Option.some.inj hm
                        exact N_meet fun a ha => ⟨M3477.pick [2] (by kernel_rfl), ha.sub (by kernel_rfl)⟩
                      · refine W_known 99 false (by kernel_rfl) hc3478 ?_
                        refine W_run 5 [(6, .bool r3208.2.2), (8, .slice p3322 r3424.2.length c3323), (12, .int .i64 r3424.1), (16, .bool r3456.2.2), (104, .bool (r3456.2.1 != r3208.2.1))] w3475 (by kernel_rfl) ?_
                        rcases gx_bif hm with ⟨hc3479, hm⟩ | ⟨hc3479, hm⟩
                        · refine W_known 104 true (by kernel_rfl) hc3479 ?_
                          refine W_run 4 [(8, .slice p3322 r3424.2.length c3323), (12, .int .i64 r3424.1), (108, .bool true)] w3475 (by kernel_rfl) ?_
                          refine W_nil ?_
                          obtain rfl := Option.some.inj hm
                          exact N_meet fun a ha => ⟨M3477.pick [2] (by kernel_rfl), ha.sub (by kernel_rfl)⟩
                        · refine W_known 104 false (by kernel_rfl) hc3479 ?_
                          refine W_run 4 [(8, .slice p3322 r3424.2.length c3323), (12, .int .i64 r3424.1), (108, .bool (!(r3456.2.2 == r3208.2.2)))] w3475 (by kernel_rfl) ?_
                          refine W_nil ?_
                          obtain rfl := Option.some.inj hm
                          exact N_meet fun a ha => ⟨M3477.pick [2] (by kernel_rfl), ha.sub (by kernel_rfl)⟩
                    · intro a3482 w3480 ⟨M3481, hS3483⟩
                      refine N_use hS3483 ?_
                      have hm := hm3473
                      refine N_then ?_
                      rcases gx_bif hm with ⟨hc3484, hm⟩ | ⟨hc3484, hm⟩
                      · refine G_cond_t (b := o3471) hc3484 (by kernel_rfl) ?_
                        refine G_seq ?_
                        refine G_region ?_
                        refine W_run 1 [(2, .bool false)] w3480 (by kernel_rfl) ?_
                        refine W_nil ?_
                        refine N_then ?_
                        refine G_ret ?_
                        refine N_then_ret ?_
                        obtain rfl := Option.some.inj hm
                        refine N_ret [.bool false] (RVs_cons (RV_tmp (by kernel_rfl)) RVs_nil) ?_
                        exact ⟨rfl, M3481.pick [] (by kernel_rfl)⟩
                      · refine G_cond_f (b := o3471) hc3484 (by kernel_rfl) ?_
                        refine G_skip ?_
                        refine N_then ?_
                        refine G_seq ?_
                        refine G_region ?_
                        refine W_run 1 [(8, .slice p3322 r3424.2.length c3323), (12, .int .i64 r3424.1), (13, .int .i64 1)] w3480 (by kernel_rfl) ?_
                        refine W_nil ?_
                        refine N_then ?_
                        refine G_seq ?_
                        refine G_region ?_
                        refine W_run 2 [(12, .int .i64 r3424.1), (13, .int .i64 1), (109, .slice p3322 r3424.2.length c3323), (110, .int .i64 1)] w3480 (by kernel_rfl) ?_
                        obtain ⟨r3485, hr3485, hm⟩ := gx_bind hm
                        refine W_call 27 #[.slice p3322 r3424.2.length c3323, .int .i64 1] (by kernel_rfl) (by kernel_rfl) ?_
                        refine (c_l_heldIntS w3480 r3424.2 p3322 c3323 (ho3426.rd M3481 0 (by kernel_rfl)) 1 hr3485).mono ?_
                        rintro e_ w3486 ⟨rfl, K3487⟩
                        have M3488 := M3481.call0 K3487
                        refine ⟨_, rfl, ?_⟩
                        refine W_run 1 [(12, .int .i64 r3424.1), (13, .int .i64 r3485)] w3486 (by kernel_rfl) ?_
                        refine W_nil ?_
                        refine N_then ?_
                        refine G_seq ?_
                        refine G_seq ?_
                        refine G_region ?_
                        refine W_run 2 [(12, .int .i64 r3424.1), (13, .int .i64 r3485), (113, .bool (decide (r3485 < 0)))] w3486 (by kernel_rfl) ?_
                        refine W_nil ?_
                        refine N_then ?_
                        rcases gx_bif hm with ⟨hc3489, hm⟩ | ⟨hc3489, hm⟩
                        · refine G_cond_t (b := (decide (r3485 < 0))) hc3489 (by kernel_rfl) ?_
                          refine G_seq ?_
                          refine G_region ?_
                          refine W_run 1 [(2, .bool false)] w3486 (by kernel_rfl) ?_
                          refine W_nil ?_
                          refine N_then ?_
                          refine G_ret ?_
                          refine N_then_ret ?_
                          obtain rfl := Option.some.inj hm
                          refine N_ret [.bool false] (RVs_cons (RV_tmp (by kernel_rfl)) RVs_nil) ?_
                          exact ⟨rfl, M3488.pick [] (by kernel_rfl)⟩
                        · refine G_cond_f (b := (decide (r3485 < 0))) hc3489 (by kernel_rfl) ?_
                          refine G_skip ?_
                          refine N_then ?_
                          refine G_seq ?_
                          refine G_seq ?_
                          refine G_region ?_
                          refine W_run 3 [(116, .bool (r3485 != r3424.1))] w3486 (by kernel_rfl) ?_
                          refine W_nil ?_
                          refine N_then ?_
                          rcases gx_bif hm with ⟨hc3490, hm⟩ | ⟨hc3490, hm⟩
                          · refine G_cond_t (b := (r3485 != r3424.1)) hc3490 (by kernel_rfl) ?_
                            refine G_seq ?_
                            refine G_region ?_
                            refine W_run 1 [(2, .bool false)] w3486 (by kernel_rfl) ?_
                            refine W_nil ?_
                            refine N_then ?_
                            refine G_ret ?_
                            refine N_then_ret ?_
                            obtain rfl := Option.some.inj hm
                            refine N_ret [.bool false] (RVs_cons (RV_tmp (by kernel_rfl)) RVs_nil) ?_
                            exact ⟨rfl, M3488.pick [] (by kernel_rfl)⟩
                          · refine G_cond_f (b := (r3485 != r3424.1)) hc3490 (by kernel_rfl) ?_
                            refine G_skip ?_
                            refine N_then ?_
                            refine G_seq ?_
                            refine G_region ?_
                            refine W_run 1 [(2, .bool true)] w3486 (by kernel_rfl) ?_
                            refine W_nil ?_
                            refine N_then ?_
                            refine G_ret ?_
                            obtain rfl := Option.some.inj hm
                            refine N_ret [.bool true] (RVs_cons (RV_tmp (by kernel_rfl)) RVs_nil) ?_
                            exact ⟨rfl, M3488.pick [] (by kernel_rfl)⟩
end Go.Proofs.Ytjbblcdajdpfkaa
