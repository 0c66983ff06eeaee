/- The walks, printed by program: whenever the model gives r, the call returns r. Part 2. -/
import Derived.Test.YtphinfkojhecdaaM
import Derived.Test.YtphinfkojhecdaaProg
import Derived.Test.YtphinfkojhecdaaC1
set_option linter.unusedVariables false
set_option maxRecDepth 100000
set_option maxHeartbeats 4000000
namespace Go.Proofs.Ytphinfkojhecdaa
open Go.Gx
theorem c_s_UnitsBetween (w : World) (x1345 : List Region) (p1347 : Option Addr) (c1348 : Nat) (h1349 : rdS encRegion w x1345 p1347 c1348) (x1350 : Int) (x1351 : Int) {r : (List Int) × Bool} (hm : M.s_UnitsBetween x1345 x1350 x1351 = some r) :
    Calls Try.prog 21 #[.slice p1347 x1345.length c1348, .int .i64 x1350, .int .i64 x1351] w fun e w' => ∃ (p1353 : Option Addr) (c1354 : Nat) (sg1355 : Seg), e = .returned (.tuple #[.slice p1353 r.1.length c1354, .bool r.2]) ∧ ownS encI r.1 p1353 c1354 sg1355 ∧ Mem [] w w' [sg1355] := by
  unfold M.s_UnitsBetween at hm
  refine C_enter Try.func21 rfl (by kernel_rfl) ?_
  have M0 := Mem.refl [] w
  refine G_seq ?_
  refine G_region ?_
  refine W_run 2 [(0, .slice p1347 x1345.length c1348), (1, .int .i64 x1350), (2, .int .i64 x1351)] w (by kernel_rfl) ?_
  refine W_nil ?_
  refine N_then ?_
  refine G_seq ?_
  refine G_region ?_
  refine W_lit (E := encI) ([] : List Int) 0 [] 3 M0 (by kernel_rfl) (by kernel_rfl) (by kernel_rfl) (by kernel_rfl) (by kernel_rfl) ?_
  intro p1357 c1358 sg1359 w1360 ho1361 M1362
  refine W_run 1 [(0, .slice p1347 x1345.length c1348), (1, .int .i64 x1350), (2, .int .i64 x1351), (8, .slice p1357 ([] : List Int).length c1358)] w1360 (by kernel_rfl) ?_
  refine W_nil ?_
  refine N_then ?_
  refine G_seq ?_
  refine G_seq ?_
  obtain ⟨o1379, ho1380, hm1381⟩ := gx_bind hm
  refine G_meet (fun a w' => Mem [] w w' [sg1359] ∧ Sat Try.f21.ntmps [(0, .slice p1347 x1345.length c1348), (1, .int .i64 x1350), (2, .int .i64 x1351), (8, .slice p1357 ([] : List Int).length c1358), (29, .bool o1379)] a) ?_ ?_
  · have hm := ho1380
    refine G_region ?_
    refine W_run 1 [(0, .slice p1347 x1345.length c1348), (1, .int .i64 x1350), (2, .int .i64 x1351), (8, .slice p1357 ([] : List Int).length c1358), (12, .slice p1347 x1345.length c1348)] w1360 (by kernel_rfl) ?_
    obtain ⟨r1382, hr1382, hm⟩ := gx_bind hm
    refine W_call 60 #[.slice p1347 x1345.length c1348] (by kernel_rfl) (by kernel_rfl) ?_
    refine (c_s_l17Good w1360 x1345 p1347 c1348 (h1349.mem0 M1362) hr1382).mono ?_
    rintro e_ w1383 ⟨rfl, K1384⟩
    have M1385 := M1362.call0 K1384
    refine ⟨_, rfl, ?_⟩
    refine W_run 2 [(0, .slice p1347 x1345.length c1348), (1, .int .i64 x1350), (2, .int .i64 x1351), (8, .slice p1357 ([] : List Int).length c1358), (15, .bool (!r1382))] w1383 (by kernel_rfl) ?_
    rcases gx_bif hm with ⟨hc1386, hm⟩ | ⟨hc1386, hm⟩
    · refine W_known 15 true (by kernel_rfl) hc1386 ?_
      refine W_run 14 [(0, .slice p1347 x1345.length c1348), (1, .int .i64 x1350), (2, .int .i64 x1351), (8, .slice p1357 ([] : List Int).length c1358), (29, .bool true)] w1383 (by kernel_rfl) ?_
      refine W_nil ?_
      obtain rfl := Option.some.inj hm
      exact N_meet fun a ha => ⟨M1385.pick [0] (by kernel_rfl), ha.sub (by kernel_rfl)⟩
    · refine W_known 15 false (by kernel_rfl) hc1386 ?_
      refine W_run 1 [(0, .slice p1347 x1345.length c1348), (1, .int .i64 x1350), (2, .int .i64 x1351), (8, .slice p1357 ([] : List Int).length c1358), (15, .bool false), (16, .int .i64 x1350)] w1383 (by kernel_rfl) ?_
      obtain ⟨r1387, hr1387, hm⟩ := gx_bind hm
      refine W_call 68 #[.int .i64 x1350] (by kernel_rfl) (by kernel_rfl) ?_
      refine (c_s_l17Address w1383 x1350 hr1387).mono ?_
      rintro e_ w1388 ⟨rfl, K1389⟩
      have M1390 := M1385.call0 K1389
      refine ⟨_, rfl, ?_⟩
      refine W_run 3 [(0, .slice p1347 x1345.length c1348), (1, .int .i64 x1350), (2, .int .i64 x1351), (8, .slice p1357 ([] : List Int).length c1358), (20, .bool (!r1387))] w1388 (by kernel_rfl) ?_
      rcases gx_bif hm with ⟨hc1391, hm⟩ | ⟨hc1391, hm⟩
      · refine W_known 20 true (by kernel_rfl) hc1391 ?_
        refine W_run 9 [(0, .slice p1347 x1345.length c1348), (1, .int .i64 x1350), (2, .int .i64 x1351), (8, .slice p1357 ([] : List Int).length c1358), (29, .bool true)] w1388 (by kernel_rfl) ?_
        refine W_nil ?_
        obtain rfl := Option.some.inj hm
        exact N_meet fun a ha => ⟨M1390.pick [0] (by kernel_rfl), ha.sub (by kernel_rfl)⟩
      · refine W_known 20 false (by kernel_rfl) hc1391 ?_
        refine W_run 1 [(0, .slice p1347 x1345.length c1348), (1, .int .i64 x1350), (2, .int .i64 x1351), (8, .slice p1357 ([] : List Int).length c1358), (20, .bool false), (21, .int .i64 x1351)] w1388 (by kernel_rfl) ?_
        obtain ⟨r1392, hr1392, hm⟩ := gx_bind hm
        refine W_call 68 #[.int .i64 x1351] (by kernel_rfl) (by kernel_rfl) ?_
        refine (c_s_l17Address w1388 x1351 hr1392).mono ?_
        rintro e_ w1393 ⟨rfl, K1394⟩
        have M1395 := M1390.call0 K1394
        refine ⟨_, rfl, ?_⟩
        refine W_run 3 [(0, .slice p1347 x1345.length c1348), (1, .int .i64 x1350), (2, .int .i64 x1351), (8, .slice p1357 ([] : List Int).length c1358), (25, .bool (!r1392))] w1393 (by kernel_rfl) ?_
        rcases gx_bif hm with ⟨hc1396, hm⟩ | ⟨hc1396, hm⟩
        · refine W_known 25 true (by kernel_rfl) hc1396 ?_
          refine W_run 4 [(0, .slice p1347 x1345.length c1348), (1, .int .i64 x1350), (2, .int .i64 x1351), (8, .slice p1357 ([] : List Int).length c1358), (29, .bool true)] w1393 (by kernel_rfl) ?_
          refine W_nil ?_
          obtain rfl := Option.some.inj hm
          exact N_meet fun a ha => ⟨M1395.pick [0] (by kernel_rfl), ha.sub (by kernel_rfl)⟩
        · refine W_known 25 false (by kernel_rfl) hc1396 ?_
          refine W_run 4 [(0, .slice p1347 x1345.length c1348), (1, .int .i64 x1350), (2, .int .i64 x1351), (8, .slice p1357 ([] : List Int).length c1358), (29, .bool (decide (x1350 > x1351)))] w1393 (by kernel_rfl) ?_
          refine W_nil ?_
          obtain rfl := Option.some.inj hm
          exact N_meet fun a ha => ⟨M1395.pick [0] (by kernel_rfl), ha.sub (by kernel_rfl)⟩
  · intro a1399 w1397 ⟨M1398, hS1400⟩
    refine N_use hS1400 ?_
    have hm := hm1381
    refine N_then ?_
    rcases gx_bif hm with ⟨hc1401, hm⟩ | ⟨hc1401, hm⟩
    · refine G_cond_t (b := o1379) hc1401 (by kernel_rfl) ?_
      refine G_seq ?_
      refine G_region ?_
      refine W_run 3 [(6, .slice p1357 ([] : List Int).length c1358), (7, .bool false)] w1397 (by kernel_rfl) ?_
      refine W_nil ?_
      refine N_then ?_
      refine G_ret ?_
      refine N_then_ret ?_
      obtain rfl := Option.some.inj hm
      refine N_ret [.slice p1357 ([] : List Int).length c1358, .bool false] (RVs_cons (RV_tmp (by kernel_rfl)) (RVs_cons (RV_tmp (by kernel_rfl)) RVs_nil)) ?_
      exact ⟨p1357, c1358, sg1359, rfl, ho1361, M1398.pick [0] (by kernel_rfl)⟩
    · refine G_cond_f (b := o1379) hc1401 (by kernel_rfl) ?_
      refine G_skip ?_
      refine N_then ?_
      refine G_seq ?_
      refine G_seq ?_
      refine G_region ?_
      refine W_run 1 [(0, .slice p1347 x1345.length c1348), (1, .int .i64 x1350), (2, .int .i64 x1351), (8, .slice p1357 ([] : List Int).length c1358), (9, .int .i64 0)] w1397 (by kernel_rfl) ?_
      refine W_nil ?_
      refine N_then ?_
      obtain ⟨out1536, hw1537, hmo1538⟩ := gx_bind hm
      refine G_meet (fun a w' => ∃ (p1545 : Option Addr), ∃ (c1546 : Nat), ∃ (sg1547 : Seg), ownS encI out1536 p1545 c1546 sg1547 ∧ Mem [] w w' [sg1547] ∧ Sat Try.f21.ntmps [(8, .slice p1545 out1536.length c1546)] a) ?_ ?_
      · refine G_block ?_
        refine G_while (σ := List Int × Int) (ρ := List Int) (fun s1529 a w' => ∃ (p1539 : Option Addr), ∃ (c1540 : Nat), ∃ (sg1541 : Seg), ownS encI s1529.1 p1539 c1540 sg1541 ∧ Mem [] w w' [sg1541] ∧ Sat Try.f21.ntmps [(0, .slice p1347 x1345.length c1348), (1, .int .i64 x1350), (2, .int .i64 x1351), (8, .slice p1539 s1529.1.length c1540), (9, .int .i64 s1529.2)] a) hw1537 (fun a ha => ⟨p1357, c1358, sg1359, ho1361, M1398.pick [0] (by kernel_rfl), ha.sub (by kernel_rfl)⟩) ?_
        clear hm
        intro s1529 x1530 hm hout1531 a1532 w1533 ⟨p1539, c1540, sg1541, ho1542, M1534, hS1535⟩
        refine G_use hS1535 ?_
        refine G_seq ?_
        refine G_seq ?_
        refine G_region ?_
        refine W_run 4 [(0, .slice p1347 x1345.length c1348), (1, .int .i64 x1350), (2, .int .i64 x1351), (8, .slice p1539 s1529.1.length c1540), (9, .int .i64 s1529.2), (34, .bool (decide (s1529.2 < (x1345.length : Int))))] w1533 (by kernel_rfl) ?_
        refine W_nil ?_
        refine N_then ?_
        rcases gx_bif hm with ⟨hc1550, hm⟩ | ⟨hc1550, hm⟩
        · refine G_cond_t (b := (decide (s1529.2 < (x1345.length : Int)))) hc1550 (by kernel_rfl) ?_
          refine G_skip ?_
          refine N_then ?_
          refine G_seq ?_
          refine G_block ?_
          refine G_seq ?_
          refine G_region ?_
          refine W_run 2 [(0, .slice p1347 x1345.length c1348), (1, .int .i64 x1350), (2, .int .i64 x1351), (8, .slice p1539 s1529.1.length c1540), (9, .int .i64 s1529.2), (37, .slice p1347 x1345.length c1348), (38, .int .i64 s1529.2)] w1533 (by kernel_rfl) ?_
          obtain ⟨y1551, hy1551, hm⟩ := gx_bind hm
          refine W_val (elemP p1347 (s1529.2.toNat * 4)) w1533 (by kernel_rfl) (E_index (E := encRegion) _ _ _ x1345.length c1348 .i64 s1529.2 4 (y := y1551) rfl (by kernel_rfl) (by kernel_rfl) (by kernel_rfl) (h1349.mem0 M1534) rfl hy1551) ?_
          refine W_val (.agg #[.int .i64 y1551.Base, .int .i64 y1551.Size, .int .i64 y1551.Kind, .int .i64 y1551.Unit]) w1533 (by kernel_rfl) (E_loadE (E := encRegion) _ _ true 4 s1529.2 0 (s1529.2.toNat * 4) y1551 (.agg #[.int .i64 y1551.Base, .int .i64 y1551.Size, .int .i64 y1551.Kind, .int .i64 y1551.Unit]) rfl (by kernel_rfl) (by kernel_rfl) (by kernel_rfl) (h1349.mem0 M1534) hy1551 rfl) ?_
          refine W_new (fun b => .pointer (some ⟨b, 0, none⟩)) (.cells ⟨[.int .i64 0, .int .i64 0, .int .i64 0, .int .i64 0]⟩ 59 (0, 0)) M1534 rfl (by kernel_rfl) (by kernel_rfl) ?_
          intro b1553 w1554 M1555
          refine W_store _ _ _ true 4 b1553 0 [.int .i64 0, .int .i64 0, .int .i64 0, .int .i64 0] 59 (.agg #[.int .i64 y1551.Base, .int .i64 y1551.Size, .int .i64 y1551.Kind, .int .i64 y1551.Unit]) 1 [.int .i64 y1551.Base, .int .i64 y1551.Size, .int .i64 y1551.Kind, .int .i64 y1551.Unit] M1555 (by kernel_rfl) rfl (by kernel_rfl) (by kernel_rfl) (by kernel_rfl) (by kernel_rfl) (by kernel_rfl) (by kernel_rfl) (by kernel_rfl) (by kernel_rfl) ?_
          intro w1556 M1557
          refine W_nil ?_
          refine N_then ?_
          refine G_seq ?_
          obtain ⟨o1559, ho1560, hm1561⟩ := gx_bind hm
          refine G_meet (fun a w' => Mem [] w w' [sg1541, [(b1553, .cells ⟨[.int .i64 y1551.Base, .int .i64 y1551.Size, .int .i64 y1551.Kind, .int .i64 y1551.Unit]⟩ 59 (0, 0))]] ∧ Sat Try.f21.ntmps [(0, .slice p1347 x1345.length c1348), (1, .int .i64 x1350), (2, .int .i64 x1351), (8, .slice p1539 s1529.1.length c1540), (9, .int .i64 s1529.2), (10, .pointer (some ⟨b1553, 0, none⟩)), (53, .bool o1559)] a) ?_ ?_
          · have hm := ho1560
            refine G_region ?_
            refine W_run 1 [(0, .slice p1347 x1345.length c1348), (1, .int .i64 x1350), (2, .int .i64 x1351), (8, .slice p1539 s1529.1.length c1540), (9, .int .i64 s1529.2), (10, .pointer (some ⟨b1553, 0, none⟩)), (41, .pointer (some ⟨b1553, 0, none⟩))] w1556 (by kernel_rfl) ?_
            refine W_val (.int .i64 y1551.Base) w1556 (by kernel_rfl) (E_load (e := 59) (fr := (0, 0)) _ _ false 1 b1553 0 [.int .i64 y1551.Base, .int .i64 y1551.Size, .int .i64 y1551.Kind, .int .i64 y1551.Unit] (.int .i64 y1551.Base) rfl (by kernel_rfl) (by kernel_rfl) (by kernel_rfl) (M1557.blk 1 (b := b1553) (o := .cells ⟨[.int .i64 y1551.Base, .int .i64 y1551.Size, .int .i64 y1551.Kind, .int .i64 y1551.Unit]⟩ 59 (0, 0)) (by kernel_rfl))) ?_
            refine W_run 3 [(0, .slice p1347 x1345.length c1348), (1, .int .i64 x1350), (2, .int .i64 x1351), (8, .slice p1539 s1529.1.length c1540), (9, .int .i64 s1529.2), (10, .pointer (some ⟨b1553, 0, none⟩)), (45, .bool (decide (y1551.Base ≤ x1351)))] w1556 (by kernel_rfl) ?_
            rcases gx_bif hm with ⟨hc1562, hm⟩ | ⟨hc1562, hm⟩
            · refine W_known 45 true (by kernel_rfl) hc1562 ?_
              refine W_run 1 [(0, .slice p1347 x1345.length c1348), (1, .int .i64 x1350), (2, .int .i64 x1351), (8, .slice p1539 s1529.1.length c1540), (9, .int .i64 s1529.2), (10, .pointer (some ⟨b1553, 0, none⟩)), (45, .bool true), (46, .pointer (some ⟨b1553, 0, none⟩))] w1556 (by kernel_rfl) ?_
              refine W_val (.int .i64 y1551.Base) w1556 (by kernel_rfl) (E_load (e := 59) (fr := (0, 0)) _ _ false 1 b1553 0 [.int .i64 y1551.Base, .int .i64 y1551.Size, .int .i64 y1551.Kind, .int .i64 y1551.Unit] (.int .i64 y1551.Base) rfl (by kernel_rfl) (by kernel_rfl) (by kernel_rfl) (M1557.blk 1 (b := b1553) (o := .cells ⟨[.int .i64 y1551.Base, .int .i64 y1551.Size, .int .i64 y1551.Kind, .int .i64 y1551.Unit]⟩ 59 (0, 0)) (by kernel_rfl))) ?_
              refine W_run 1 [(0, .slice p1347 x1345.length c1348), (1, .int .i64 x1350), (2, .int .i64 x1351), (8, .slice p1539 s1529.1.length c1540), (9, .int .i64 s1529.2), (10, .pointer (some ⟨b1553, 0, none⟩)), (45, .bool true), (47, .int .i64 y1551.Base), (48, .pointer (some ⟨b1553, 1, none⟩))] w1556 (by kernel_rfl) ?_
              refine W_val (.int .i64 y1551.Size) w1556 (by kernel_rfl) (E_load (e := 59) (fr := (0, 0)) _ _ false 1 b1553 1 [.int .i64 y1551.Base, .int .i64 y1551.Size, .int .i64 y1551.Kind, .int .i64 y1551.Unit] (.int .i64 y1551.Size) rfl (by kernel_rfl) (by kernel_rfl) (by kernel_rfl) (M1557.blk 1 (b := b1553) (o := .cells ⟨[.int .i64 y1551.Base, .int .i64 y1551.Size, .int .i64 y1551.Kind, .int .i64 y1551.Unit]⟩ 59 (0, 0)) (by kernel_rfl))) ?_
              refine W_run 4 [(0, .slice p1347 x1345.length c1348), (1, .int .i64 x1350), (2, .int .i64 x1351), (8, .slice p1539 s1529.1.length c1540), (9, .int .i64 s1529.2), (10, .pointer (some ⟨b1553, 0, none⟩)), (53, .bool (decide ((w64 (y1551.Base + y1551.Size)) > x1350)))] w1556 (by kernel_rfl) ?_
              refine W_nil ?_
              obtain rfl := Option.some.inj hm
              exact N_meet fun a ha => ⟨M1557.pick [0, 1] (by kernel_rfl), ha.sub (by kernel_rfl)⟩
            · refine W_known 45 false (by kernel_rfl) hc1562 ?_
              refine W_run 8 [(0, .slice p1347 x1345.length c1348), (1, .int .i64 x1350), (2, .int .i64 x1351), (8, .slice p1539 s1529.1.length c1540), (9, .int .i64 s1529.2), (10, .pointer (some ⟨b1553, 0, none⟩)), (53, .bool false)] w1556 (by kernel_rfl) ?_
              refine W_nil ?_
              obtain rfl := Option.some.inj hm
              exact N_meet fun a ha => ⟨M1557.pick [0, 1] (by kernel_rfl), ha.sub (by kernel_rfl)⟩
          · intro a1565 w1563 ⟨M1564, hS1566⟩
            refine N_use hS1566 ?_
            have hm := hm1561
            refine N_then ?_
            obtain ⟨o1583, ho1584, hm1585⟩ := gx_bind hm
            refine G_meet (fun a w' => ∃ (p1586 : Option Addr), ∃ (c1587 : Nat), ∃ (sg1588 : Seg), ownS encI o1583 p1586 c1587 sg1588 ∧ Mem [] w w' [sg1588] ∧ Sat Try.f21.ntmps [(0, .slice p1347 x1345.length c1348), (1, .int .i64 x1350), (2, .int .i64 x1351), (8, .slice p1586 o1583.length c1587), (9, .int .i64 s1529.2)] a) ?_ ?_
            · have hm := ho1584
              rcases gx_bif hm with ⟨hc1591, hm⟩ | ⟨hc1591, hm⟩
              · refine G_cond_t (b := o1559) hc1591 (by kernel_rfl) ?_
                refine G_region ?_
                refine W_run 2 [(0, .slice p1347 x1345.length c1348), (1, .int .i64 x1350), (2, .int .i64 x1351), (8, .slice p1539 s1529.1.length c1540), (9, .int .i64 s1529.2), (54, .slice p1539 s1529.1.length c1540), (55, .pointer (some ⟨b1553, 3, none⟩))] w1563 (by kernel_rfl) ?_
                refine W_val (.int .i64 y1551.Unit) w1563 (by kernel_rfl) (E_load (e := 59) (fr := (0, 0)) _ _ false 1 b1553 3 [.int .i64 y1551.Base, .int .i64 y1551.Size, .int .i64 y1551.Kind, .int .i64 y1551.Unit] (.int .i64 y1551.Unit) rfl (by kernel_rfl) (by kernel_rfl) (by kernel_rfl) (M1564.blk 1 (b := b1553) (o := .cells ⟨[.int .i64 y1551.Base, .int .i64 y1551.Size, .int .i64 y1551.Kind, .int .i64 y1551.Unit]⟩ 59 (0, 0)) (by kernel_rfl))) ?_
                refine W_lit (E := encI) [y1551.Unit] 1 [.int .i64 y1551.Unit] 3 M1564 (by kernel_rfl) (by kernel_rfl) (by kernel_rfl) (by kernel_rfl) (by kernel_rfl) ?_
                intro p1592 c1593 sg1594 w1595 ho1596 M1597
                obtain ⟨ap1599, hap1599, hm⟩ := gx_bind hm
                refine W_append (E := encI) _ _ _ 8 [.int .i64 0] 0 c1593 M1597 ho1542 (by kernel_rfl) (by kernel_rfl) (by kernel_rfl) rfl (by kernel_rfl) (by kernel_rfl) (by kernel_rfl) (by kernel_rfl) (by kernel_rfl) (by kernel_rfl) (ho1596.rd M1597 2 (by kernel_rfl)) hap1599 ?_
                intro p1600 c1601 sg1602 w1603 ho1604 M1605
                refine W_run 1 [(0, .slice p1347 x1345.length c1348), (1, .int .i64 x1350), (2, .int .i64 x1351), (8, .slice p1600 ap1599.length c1601), (9, .int .i64 s1529.2)] w1603 (by kernel_rfl) ?_
                refine W_nil ?_
                obtain rfl := Option.some.inj hm
                exact N_meet fun a ha => ⟨p1600, c1601, sg1602, ho1604, M1605.pick [0] (by kernel_rfl), ha.sub (by kernel_rfl)⟩
              · refine G_cond_f (b := o1559) hc1591 (by kernel_rfl) ?_
                refine G_skip ?_
                obtain rfl := Option.some.inj hm
                exact N_meet fun a ha => ⟨p1539, c1540, sg1541, ho1542, M1564.pick [0] (by kernel_rfl), ha.sub (by kernel_rfl)⟩
            · intro a1609 w1607 ⟨p1586, c1587, sg1588, ho1589, M1608, hS1610⟩
              refine N_use hS1610 ?_
              have hm := hm1585
              refine N_block ?_
              refine N_then ?_
              refine G_region ?_
              refine W_run 3 [(0, .slice p1347 x1345.length c1348), (1, .int .i64 x1350), (2, .int .i64 x1351), (8, .slice p1586 o1583.length c1587), (9, .int .i64 (w64 (s1529.2 + 1)))] w1607 (by kernel_rfl) ?_
              refine W_nil ?_
              obtain rfl := Option.some.inj hm
              exact N_loop fun a ha => ⟨_, rfl, p1586, c1587, sg1588, ho1589, M1608.pick [0] (by kernel_rfl), ha.sub (by kernel_rfl)⟩
        · refine G_cond_f (b := (decide (s1529.2 < (x1345.length : Int)))) hc1550 (by kernel_rfl) ?_
          refine G_exit ?_
          refine N_then_exit ?_
          refine N_then_exit ?_
          refine N_block_eq ?_
          obtain rfl := Option.some.inj hm
          obtain rfl := hout1531 _ rfl
          exact N_meet fun a ha => ⟨p1539, c1540, sg1541, ho1542, M1534.pick [0] (by kernel_rfl), ha.sub (by kernel_rfl)⟩
      · intro a1611 w1612 ⟨p1545, c1546, sg1547, ho1548, M1613, hS1614⟩
        refine N_use hS1614 ?_
        have hm := hmo1538
        refine N_then ?_
        refine G_seq ?_
        refine G_region ?_
        refine W_run 3 [(6, .slice p1545 out1536.length c1546), (7, .bool true)] w1612 (by kernel_rfl) ?_
        refine W_nil ?_
        refine N_then ?_
        refine G_ret ?_
        obtain rfl := Option.some.inj hm
        refine N_ret [.slice p1545 out1536.length c1546, .bool true] (RVs_cons (RV_tmp (by kernel_rfl)) (RVs_cons (RV_tmp (by kernel_rfl)) RVs_nil)) ?_
        exact ⟨p1545, c1546, sg1547, rfl, ho1548, M1613.pick [0] (by kernel_rfl)⟩
theorem c_i_UnitsBetween (w : World) (x1633 : List Region) (p1635 : Option Addr) (c1636 : Nat) (h1637 : rdS encRegion w x1633 p1635 c1636) (x1638 : Int) (x1639 : Int) {r : (List Int) × Bool} (hm : M.i_UnitsBetween x1633 x1638 x1639 = some r) :
    Calls Try.prog 22 #[.slice p1635 x1633.length c1636, .int .i64 x1638, .int .i64 x1639] w fun e w' => ∃ (p1641 : Option Addr) (c1642 : Nat) (sg1643 : Seg), e = .returned (.tuple #[.slice p1641 r.1.length c1642, .bool r.2]) ∧ ownS encI r.1 p1641 c1642 sg1643 ∧ Mem [] w w' [sg1643] := by
  unfold M.i_UnitsBetween at hm
  refine C_enter Try.func22 rfl (by kernel_rfl) ?_
  have M0 := Mem.refl [] w
  refine G_seq ?_
  refine G_region ?_
  refine W_run 2 [(0, .slice p1635 x1633.length c1636), (1, .int .i64 x1638), (2, .int .i64 x1639)] w (by kernel_rfl) ?_
  refine W_nil ?_
  refine N_then ?_
  refine G_seq ?_
  refine G_seq ?_
  obtain ⟨o1660, ho1661, hm1662⟩ := gx_bind hm
  refine G_meet (fun a w' => Mem [] w w' [] ∧ Sat Try.f22.ntmps [(0, .slice p1635 x1633.length c1636), (1, .int .i64 x1638), (2, .int .i64 x1639), (28, .bool o1660)] a) ?_ ?_
  · have hm := ho1661
    refine G_region ?_
    refine W_run 1 [(0, .slice p1635 x1633.length c1636), (1, .int .i64 x1638), (2, .int .i64 x1639), (11, .slice p1635 x1633.length c1636)] w (by kernel_rfl) ?_
    obtain ⟨r1663, hr1663, hm⟩ := gx_bind hm
    refine W_call 49 #[.slice p1635 x1633.length c1636] (by kernel_rfl) (by kernel_rfl) ?_
    refine (c_i_IsMap w x1633 p1635 c1636 (h1637.mem0 M0) hr1663).mono ?_
    rintro e_ w1664 ⟨rfl, K1665⟩
    have M1666 := M0.call0 K1665
    refine ⟨_, rfl, ?_⟩
    refine W_run 2 [(0, .slice p1635 x1633.length c1636), (1, .int .i64 x1638), (2, .int .i64 x1639), (14, .bool (!r1663))] w1664 (by kernel_rfl) ?_
    rcases gx_bif hm with ⟨hc1667, hm⟩ | ⟨hc1667, hm⟩
    · refine W_known 14 true (by kernel_rfl) hc1667 ?_
      refine W_run 14 [(0, .slice p1635 x1633.length c1636), (1, .int .i64 x1638), (2, .int .i64 x1639), (28, .bool true)] w1664 (by kernel_rfl) ?_
      refine W_nil ?_
      obtain rfl := Option.some.inj hm
      exact N_meet fun a ha => ⟨M1666.pick [] (by kernel_rfl), ha.sub (by kernel_rfl)⟩
    · refine W_known 14 false (by kernel_rfl) hc1667 ?_
      refine W_run 1 [(0, .slice p1635 x1633.length c1636), (1, .int .i64 x1638), (2, .int .i64 x1639), (14, .bool false), (15, .int .i64 x1638)] w1664 (by kernel_rfl) ?_
      obtain ⟨r1668, hr1668, hm⟩ := gx_bind hm
      refine W_call 69 #[.int .i64 x1638] (by kernel_rfl) (by kernel_rfl) ?_
      refine (c_i_isWord16 w1664 x1638 hr1668).mono ?_
      rintro e_ w1669 ⟨rfl, K1670⟩
      have M1671 := M1666.call0 K1670
      refine ⟨_, rfl, ?_⟩
      refine W_run 3 [(0, .slice p1635 x1633.length c1636), (1, .int .i64 x1638), (2, .int .i64 x1639), (19, .bool (!r1668))] w1669 (by kernel_rfl) ?_
      rcases gx_bif hm with ⟨hc1672, hm⟩ | ⟨hc1672, hm⟩
      · refine W_known 19 true (by kernel_rfl) hc1672 ?_
        refine W_run 9 [(0, .slice p1635 x1633.length c1636), (1, .int .i64 x1638), (2, .int .i64 x1639), (28, .bool true)] w1669 (by kernel_rfl) ?_
        refine W_nil ?_
        obtain rfl := Option.some.inj hm
        exact N_meet fun a ha => ⟨M1671.pick [] (by kernel_rfl), ha.sub (by kernel_rfl)⟩
      · refine W_known 19 false (by kernel_rfl) hc1672 ?_
        refine W_run 1 [(0, .slice p1635 x1633.length c1636), (1, .int .i64 x1638), (2, .int .i64 x1639), (19, .bool false), (20, .int .i64 x1639)] w1669 (by kernel_rfl) ?_
        obtain ⟨r1673, hr1673, hm⟩ := gx_bind hm
        refine W_call 69 #[.int .i64 x1639] (by kernel_rfl) (by kernel_rfl) ?_
        refine (c_i_isWord16 w1669 x1639 hr1673).mono ?_
        rintro e_ w1674 ⟨rfl, K1675⟩
        have M1676 := M1671.call0 K1675
        refine ⟨_, rfl, ?_⟩
        refine W_run 3 [(0, .slice p1635 x1633.length c1636), (1, .int .i64 x1638), (2, .int .i64 x1639), (24, .bool (!r1673))] w1674 (by kernel_rfl) ?_
        rcases gx_bif hm with ⟨hc1677, hm⟩ | ⟨hc1677, hm⟩
        · refine W_known 24 true (by kernel_rfl) hc1677 ?_
          refine W_run 4 [(0, .slice p1635 x1633.length c1636), (1, .int .i64 x1638), (2, .int .i64 x1639), (28, .bool true)] w1674 (by kernel_rfl) ?_
          refine W_nil ?_
          obtain rfl := Option.some.inj hm
          exact N_meet fun a ha => ⟨M1676.pick [] (by kernel_rfl), ha.sub (by kernel_rfl)⟩
        · refine W_known 24 false (by kernel_rfl) hc1677 ?_
          refine W_run 4 [(0, .slice p1635 x1633.length c1636), (1, .int .i64 x1638), (2, .int .i64 x1639), (28, .bool (decide (x1638 > x1639)))] w1674 (by kernel_rfl) ?_
          refine W_nil ?_
          obtain rfl := Option.some.inj hm
          exact N_meet fun a ha => ⟨M1676.pick [] (by kernel_rfl), ha.sub (by kernel_rfl)⟩
  · intro a1680 w1678 ⟨M1679, hS1681⟩
    refine N_use hS1681 ?_
    have hm := hm1662
    refine N_then ?_
    rcases gx_bif hm with ⟨hc1682, hm⟩ | ⟨hc1682, hm⟩
    · refine G_cond_t (b := o1660) hc1682 (by kernel_rfl) ?_
      refine G_seq ?_
      refine G_region ?_
      refine W_run 2 [(6, .slice none 0 0), (7, .bool false)] w1678 (by kernel_rfl) ?_
      refine W_nil ?_
      refine N_then ?_
      refine G_ret ?_
      refine N_then_ret ?_
      obtain rfl := Option.some.inj hm
      refine N_ret [.slice none 0 0, .bool false] (RVs_cons (RV_tmp (by kernel_rfl)) (RVs_cons (RV_tmp (by kernel_rfl)) RVs_nil)) ?_
      exact ⟨none, 0, [], rfl, ownS_nil, M1679.pick [100000] (by kernel_rfl)⟩
    · refine G_cond_f (b := o1660) hc1682 (by kernel_rfl) ?_
      refine G_skip ?_
      refine N_then ?_
      refine G_seq ?_
      refine G_region ?_
      refine W_lit (E := encI) ([] : List Int) 0 [] 3 M1679 (by kernel_rfl) (by kernel_rfl) (by kernel_rfl) (by kernel_rfl) (by kernel_rfl) ?_
      intro p1684 c1685 sg1686 w1687 ho1688 M1689
      refine W_run 1 [(0, .slice p1635 x1633.length c1636), (1, .int .i64 x1638), (2, .int .i64 x1639), (8, .slice p1684 ([] : List Int).length c1685)] w1687 (by kernel_rfl) ?_
      refine W_nil ?_
      refine N_then ?_
      refine G_seq ?_
      refine G_seq ?_
      refine G_region ?_
      refine W_run 3 [(1, .int .i64 x1638), (2, .int .i64 x1639), (8, .slice p1684 ([] : List Int).length c1685), (30, .slice p1635 x1633.length c1636), (31, .int .i64 (x1633.length : Int)), (32, .int .i64 0)] w1687 (by kernel_rfl) ?_
      refine W_nil ?_
      refine N_then ?_
      obtain ⟨out1807, hw1808, hmo1809⟩ := gx_bind hm
      refine G_meet (fun a w' => ∃ (p1816 : Option Addr), ∃ (c1817 : Nat), ∃ (sg1818 : Seg), ownS encI out1807 p1816 c1817 sg1818 ∧ Mem [] w w' [sg1818] ∧ Sat Try.f22.ntmps [(8, .slice p1816 out1807.length c1817)] a) ?_ ?_
      · refine G_block ?_
        refine G_while (σ := List Int × Int) (ρ := List Int) (fun s1800 a w' => ∃ (p1810 : Option Addr), ∃ (c1811 : Nat), ∃ (sg1812 : Seg), ownS encI s1800.1 p1810 c1811 sg1812 ∧ Mem [] w w' [sg1812] ∧ Sat Try.f22.ntmps [(1, .int .i64 x1638), (2, .int .i64 x1639), (8, .slice p1810 s1800.1.length c1811), (30, .slice p1635 x1633.length c1636), (31, .int .i64 (x1633.length : Int)), (32, .int .i64 s1800.2)] a) hw1808 (fun a ha => ⟨p1684, c1685, sg1686, ho1688, M1689.pick [0] (by kernel_rfl), ha.sub (by kernel_rfl)⟩) ?_
        clear hm
        intro s1800 x1801 hm hout1802 a1803 w1804 ⟨p1810, c1811, sg1812, ho1813, M1805, hS1806⟩
        refine G_use hS1806 ?_
        refine G_seq ?_
        refine G_region ?_
        refine W_run 1 [(1, .int .i64 x1638), (2, .int .i64 x1639), (8, .slice p1810 s1800.1.length c1811), (30, .slice p1635 x1633.length c1636), (31, .int .i64 (x1633.length : Int)), (32, .int .i64 s1800.2), (33, .bool (decide (s1800.2 < (x1633.length : Int))))] w1804 (by kernel_rfl) ?_
        refine W_nil ?_
        refine N_then ?_
        refine G_seq ?_
        rcases gx_bif hm with ⟨hc1821, hm⟩ | ⟨hc1821, hm⟩
        · refine G_cond_t (b := (decide (s1800.2 < (x1633.length : Int)))) hc1821 (by kernel_rfl) ?_
          refine G_skip ?_
          refine N_then ?_
          refine G_seq ?_
          refine G_block ?_
          refine G_seq ?_
          refine G_region ?_
          obtain ⟨y1822, hy1822, hm⟩ := gx_bind hm
          refine W_val (elemP p1635 (s1800.2.toNat * 4)) w1804 (by kernel_rfl) (E_index (E := encRegion) _ _ _ x1633.length c1636 .i64 s1800.2 4 (y := y1822) rfl (by kernel_rfl) (by kernel_rfl) (by kernel_rfl) (h1637.mem0 M1805) rfl hy1822) ?_
          refine W_val (.agg #[.int .i64 y1822.Base, .int .i64 y1822.Size, .int .i64 y1822.Kind, .int .i64 y1822.Unit]) w1804 (by kernel_rfl) (E_loadE (E := encRegion) _ _ true 4 s1800.2 0 (s1800.2.toNat * 4) y1822 (.agg #[.int .i64 y1822.Base, .int .i64 y1822.Size, .int .i64 y1822.Kind, .int .i64 y1822.Unit]) rfl (by kernel_rfl) (by kernel_rfl) (by kernel_rfl) (h1637.mem0 M1805) hy1822 rfl) ?_
          refine W_new (fun b => .pointer (some ⟨b, 0, none⟩)) (.cells ⟨[.int .i64 0, .int .i64 0, .int .i64 0, .int .i64 0]⟩ 59 (0, 0)) M1805 rfl (by kernel_rfl) (by kernel_rfl) ?_
          intro b1824 w1825 M1826
          refine W_store _ _ _ true 4 b1824 0 [.int .i64 0, .int .i64 0, .int .i64 0, .int .i64 0] 59 (.agg #[.int .i64 y1822.Base, .int .i64 y1822.Size, .int .i64 y1822.Kind, .int .i64 y1822.Unit]) 1 [.int .i64 y1822.Base, .int .i64 y1822.Size, .int .i64 y1822.Kind, .int .i64 y1822.Unit] M1826 (by kernel_rfl) rfl (by kernel_rfl) (by kernel_rfl) (by kernel_rfl) (by kernel_rfl) (by kernel_rfl) (by kernel_rfl) (by kernel_rfl) (by kernel_rfl) ?_
          intro w1827 M1828
          refine W_nil ?_
          refine N_then ?_
          refine G_seq ?_
          refine G_region ?_
          refine W_run 2 [(1, .int .i64 x1638), (2, .int .i64 x1639), (8, .slice p1810 s1800.1.length c1811), (10, .pointer (some ⟨b1824, 0, none⟩)), (30, .slice p1635 x1633.length c1636), (31, .int .i64 (x1633.length : Int)), (32, .int .i64 s1800.2), (36, .int .i64 x1638), (37, .pointer (some ⟨b1824, 0, none⟩))] w1827 (by kernel_rfl) ?_
          refine W_val (.int .i64 y1822.Base) w1827 (by kernel_rfl) (E_load (e := 59) (fr := (0, 0)) _ _ false 1 b1824 0 [.int .i64 y1822.Base, .int .i64 y1822.Size, .int .i64 y1822.Kind, .int .i64 y1822.Unit] (.int .i64 y1822.Base) rfl (by kernel_rfl) (by kernel_rfl) (by kernel_rfl) (M1828.blk 1 (b := b1824) (o := .cells ⟨[.int .i64 y1822.Base, .int .i64 y1822.Size, .int .i64 y1822.Kind, .int .i64 y1822.Unit]⟩ 59 (0, 0)) (by kernel_rfl))) ?_
          refine W_run 3 [(1, .int .i64 x1638), (2, .int .i64 x1639), (8, .slice p1810 s1800.1.length c1811), (10, .pointer (some ⟨b1824, 0, none⟩)), (30, .slice p1635 x1633.length c1636), (31, .int .i64 (x1633.length : Int)), (32, .int .i64 s1800.2), (39, .int .i64 (gxMax x1638 y1822.Base)), (40, .int .i64 x1639), (41, .pointer (some ⟨b1824, 0, none⟩))] w1827 (by kernel_rfl) ?_
          refine W_val (.int .i64 y1822.Base) w1827 (by kernel_rfl) (E_load (e := 59) (fr := (0, 0)) _ _ false 1 b1824 0 [.int .i64 y1822.Base, .int .i64 y1822.Size, .int .i64 y1822.Kind, .int .i64 y1822.Unit] (.int .i64 y1822.Base) rfl (by kernel_rfl) (by kernel_rfl) (by kernel_rfl) (M1828.blk 1 (b := b1824) (o := .cells ⟨[.int .i64 y1822.Base, .int .i64 y1822.Size, .int .i64 y1822.Kind, .int .i64 y1822.Unit]⟩ 59 (0, 0)) (by kernel_rfl))) ?_
          refine W_run 1 [(1, .int .i64 x1638), (2, .int .i64 x1639), (8, .slice p1810 s1800.1.length c1811), (10, .pointer (some ⟨b1824, 0, none⟩)), (30, .slice p1635 x1633.length c1636), (31, .int .i64 (x1633.length : Int)), (32, .int .i64 s1800.2), (39, .int .i64 (gxMax x1638 y1822.Base)), (40, .int .i64 x1639), (42, .int .i64 y1822.Base), (43, .pointer (some ⟨b1824, 1, none⟩))] w1827 (by kernel_rfl) ?_
          refine W_val (.int .i64 y1822.Size) w1827 (by kernel_rfl) (E_load (e := 59) (fr := (0, 0)) _ _ false 1 b1824 1 [.int .i64 y1822.Base, .int .i64 y1822.Size, .int .i64 y1822.Kind, .int .i64 y1822.Unit] (.int .i64 y1822.Size) rfl (by kernel_rfl) (by kernel_rfl) (by kernel_rfl) (M1828.blk 1 (b := b1824) (o := .cells ⟨[.int .i64 y1822.Base, .int .i64 y1822.Size, .int .i64 y1822.Kind, .int .i64 y1822.Unit]⟩ 59 (0, 0)) (by kernel_rfl))) ?_
          refine W_run 4 [(1, .int .i64 x1638), (2, .int .i64 x1639), (8, .slice p1810 s1800.1.length c1811), (10, .pointer (some ⟨b1824, 0, none⟩)), (30, .slice p1635 x1633.length c1636), (31, .int .i64 (x1633.length : Int)), (32, .int .i64 s1800.2), (48, .bool (decide ((gxMax x1638 y1822.Base) ≤ (gxMin x1639 (w64 ((w64 (y1822.Base + y1822.Size)) - 1))))))] w1827 (by kernel_rfl) ?_
          refine W_nil ?_
          refine N_then ?_
          obtain ⟨o1845, ho1846, hm1847⟩ := gx_bind hm
          refine G_meet (fun a w' => ∃ (p1848 : Option Addr), ∃ (c1849 : Nat), ∃ (sg1850 : Seg), ownS encI o1845 p1848 c1849 sg1850 ∧ Mem [] w w' [sg1850] ∧ Sat Try.f22.ntmps [(1, .int .i64 x1638), (2, .int .i64 x1639), (8, .slice p1848 o1845.length c1849), (30, .slice p1635 x1633.length c1636), (31, .int .i64 (x1633.length : Int)), (32, .int .i64 s1800.2)] a) ?_ ?_
          · have hm := ho1846
            rcases gx_bif hm with ⟨hc1853, hm⟩ | ⟨hc1853, hm⟩
            · refine G_cond_t (b := (decide ((gxMax x1638 y1822.Base) ≤ (gxMin x1639 (w64 ((w64 (y1822.Base + y1822.Size)) - 1)))))) hc1853 (by kernel_rfl) ?_
              refine G_region ?_
              refine W_run 2 [(1, .int .i64 x1638), (2, .int .i64 x1639), (8, .slice p1810 s1800.1.length c1811), (30, .slice p1635 x1633.length c1636), (31, .int .i64 (x1633.length : Int)), (32, .int .i64 s1800.2), (49, .slice p1810 s1800.1.length c1811), (50, .pointer (some ⟨b1824, 3, none⟩))] w1827 (by kernel_rfl) ?_
              refine W_val (.int .i64 y1822.Unit) w1827 (by kernel_rfl) (E_load (e := 59) (fr := (0, 0)) _ _ false 1 b1824 3 [.int .i64 y1822.Base, .int .i64 y1822.Size, .int .i64 y1822.Kind, .int .i64 y1822.Unit] (.int .i64 y1822.Unit) rfl (by kernel_rfl) (by kernel_rfl) (by kernel_rfl) (M1828.blk 1 (b := b1824) (o := .cells ⟨[.int .i64 y1822.Base, .int .i64 y1822.Size, .int .i64 y1822.Kind, .int .i64 y1822.Unit]⟩ 59 (0, 0)) (by kernel_rfl))) ?_
              refine W_lit (E := encI) [y1822.Unit] 1 [.int .i64 y1822.Unit] 3 M1828 (by kernel_rfl) (by kernel_rfl) (by kernel_rfl) (by kernel_rfl) (by kernel_rfl) ?_
              intro p1854 c1855 sg1856 w1857 ho1858 M1859
              obtain ⟨ap1861, hap1861, hm⟩ := gx_bind hm
              refine W_append (E := encI) _ _ _ 8 [.int .i64 0] 0 c1855 M1859 ho1813 (by kernel_rfl) (by kernel_rfl) (by kernel_rfl) rfl (by kernel_rfl) (by kernel_rfl) (by kernel_rfl) (by kernel_rfl) (by kernel_rfl) (by kernel_rfl) (ho1858.rd M1859 2 (by kernel_rfl)) hap1861 ?_
              intro p1862 c1863 sg1864 w1865 ho1866 M1867
              refine W_run 1 [(1, .int .i64 x1638), (2, .int .i64 x1639), (8, .slice p1862 ap1861.length c1863), (30, .slice p1635 x1633.length c1636), (31, .int .i64 (x1633.length : Int)), (32, .int .i64 s1800.2)] w1865 (by kernel_rfl) ?_
              refine W_nil ?_
              obtain rfl := Option.some.inj hm
              exact N_meet fun a ha => ⟨p1862, c1863, sg1864, ho1866, M1867.pick [0] (by kernel_rfl), ha.sub (by kernel_rfl)⟩
            · refine G_cond_f (b := (decide ((gxMax x1638 y1822.Base) ≤ (gxMin x1639 (w64 ((w64 (y1822.Base + y1822.Size)) - 1)))))) hc1853 (by kernel_rfl) ?_
              refine G_skip ?_
              obtain rfl := Option.some.inj hm
              exact N_meet fun a ha => ⟨p1810, c1811, sg1812, ho1813, M1828.pick [0] (by kernel_rfl), ha.sub (by kernel_rfl)⟩
          · intro a1871 w1869 ⟨p1848, c1849, sg1850, ho1851, M1870, hS1872⟩
            refine N_use hS1872 ?_
            have hm := hm1847
            refine N_block ?_
            refine N_then ?_
            refine G_region ?_
            refine W_run 2 [(1, .int .i64 x1638), (2, .int .i64 x1639), (8, .slice p1848 o1845.length c1849), (30, .slice p1635 x1633.length c1636), (31, .int .i64 (x1633.length : Int)), (32, .int .i64 (w64 (s1800.2 + 1)))] w1869 (by kernel_rfl) ?_
            refine W_nil ?_
            obtain rfl := Option.some.inj hm
            exact N_loop fun a ha => ⟨_, rfl, p1848, c1849, sg1850, ho1851, M1870.pick [0] (by kernel_rfl), ha.sub (by kernel_rfl)⟩
        · refine G_cond_f (b := (decide (s1800.2 < (x1633.length : Int)))) hc1821 (by kernel_rfl) ?_
          refine G_exit ?_
          refine N_then_exit ?_
          refine N_then_exit ?_
          refine N_block_eq ?_
          obtain rfl := Option.some.inj hm
          obtain rfl := hout1802 _ rfl
          exact N_meet fun a ha => ⟨p1810, c1811, sg1812, ho1813, M1805.pick [0] (by kernel_rfl), ha.sub (by kernel_rfl)⟩
      · intro a1873 w1874 ⟨p1816, c1817, sg1818, ho1819, M1875, hS1876⟩
        refine N_use hS1876 ?_
        have hm := hmo1809
        refine N_then ?_
        refine G_seq ?_
        refine G_region ?_
        refine W_run 3 [(6, .slice p1816 out1807.length c1817), (7, .bool true)] w1874 (by kernel_rfl) ?_
        refine W_nil ?_
        refine N_then ?_
        refine G_ret ?_
        obtain rfl := Option.some.inj hm
        refine N_ret [.slice p1816 out1807.length c1817, .bool true] (RVs_cons (RV_tmp (by kernel_rfl)) (RVs_cons (RV_tmp (by kernel_rfl)) RVs_nil)) ?_
        exact ⟨p1816, c1817, sg1818, rfl, ho1819, M1875.pick [0] (by kernel_rfl)⟩
theorem c_l_eqIntS (w : World) (x1886 : List Int) (p1888 : Option Addr) (c1889 : Nat) (h1890 : rdS encI w x1886 p1888 c1889) (x1891 : List Int) (p1893 : Option Addr) (c1894 : Nat) (h1895 : rdS encI w x1891 p1893 c1894) {r : Bool} (hm : M.l_eqIntS x1886 x1891 = some r) :
    Calls Try.prog 23 #[.slice p1888 x1886.length c1889, .slice p1893 x1891.length c1894] w fun e w' => e = .returned (.bool r) ∧ Mem [] w w' [] := by
  unfold M.l_eqIntS at hm
  refine C_enter Try.func23 rfl (by kernel_rfl) ?_
  have M0 := Mem.refl [] w
  refine G_seq ?_
  refine G_region ?_
  refine W_run 1 [(0, .slice p1888 x1886.length c1889), (1, .slice p1893 x1891.length c1894)] w (by kernel_rfl) ?_
  refine W_nil ?_
  refine N_then ?_
  refine G_seq ?_
  refine G_seq ?_
  refine G_region ?_
  refine W_run 5 [(0, .slice p1888 x1886.length c1889), (1, .slice p1893 x1891.length c1894), (10, .bool ((x1886.length : Int) != (x1891.length : Int)))] w (by kernel_rfl) ?_
  refine W_nil ?_
  refine N_then ?_
  rcases gx_bif hm with ⟨hc1896, hm⟩ | ⟨hc1896, hm⟩
  · refine G_cond_t (b := ((x1886.length : Int) != (x1891.length : Int))) hc1896 (by kernel_rfl) ?_
    refine G_seq ?_
    refine G_region ?_
    refine W_run 1 [(4, .bool false)] w (by kernel_rfl) ?_
    refine W_nil ?_
    refine N_then ?_
    refine G_ret ?_
    refine N_then_ret ?_
    obtain rfl := Option.some.inj hm
    refine N_ret [.bool false] (RVs_cons (RV_tmp (by kernel_rfl)) RVs_nil) ?_
    exact ⟨rfl, M0.pick [] (by kernel_rfl)⟩
  · refine G_cond_f (b := ((x1886.length : Int) != (x1891.length : Int))) hc1896 (by kernel_rfl) ?_
    refine G_skip ?_
    refine N_then ?_
    refine G_seq ?_
    refine G_seq ?_
    refine G_region ?_
    refine W_run 1 [(0, .slice p1888 x1886.length c1889), (1, .slice p1893 x1891.length c1894), (5, .int .i64 0)] w (by kernel_rfl) ?_
    refine W_nil ?_
    refine N_then ?_
    obtain ⟨out1916, hw1917, hmo1918⟩ := gx_bind hm
    refine G_meet (fun a w' => ∃ (o1919 : Unit), out1916 = .inl o1919 ∧ Mem [] w w' [] ∧ Sat Try.f23.ntmps [] a) ?_ ?_
    · refine G_block ?_
      refine G_while (σ := Int) (ρ := (Unit) ⊕ (Bool)) (fun s1909 a w' => Mem [] w w' [] ∧ Sat Try.f23.ntmps [(0, .slice p1888 x1886.length c1889), (1, .slice p1893 x1891.length c1894), (5, .int .i64 s1909)] a) hw1917 (fun a ha => ⟨M0.pick [] (by kernel_rfl), ha.sub (by kernel_rfl)⟩) ?_
      clear hm
      intro s1909 x1910 hm hout1911 a1912 w1913 ⟨M1914, hS1915⟩
      refine G_use hS1915 ?_
      refine G_seq ?_
      refine G_seq ?_
      refine G_region ?_
      refine W_run 4 [(0, .slice p1888 x1886.length c1889), (1, .slice p1893 x1891.length c1894), (5, .int .i64 s1909), (14, .bool (decide (s1909 < (x1886.length : Int))))] w1913 (by kernel_rfl) ?_
      refine W_nil ?_
      refine N_then ?_
      rcases gx_bif hm with ⟨hc1920, hm⟩ | ⟨hc1920, hm⟩
      · refine G_cond_t (b := (decide (s1909 < (x1886.length : Int)))) hc1920 (by kernel_rfl) ?_
        refine G_skip ?_
        refine N_then ?_
        refine G_seq ?_
        refine G_block ?_
        refine G_seq ?_
        refine G_quiet (by kernel_rfl) (by kernel_rfl) M1914 ?_
        refine Z_runs [.slice p1888 x1886.length c1889, .int .i64 s1909] [(0, .slice p1888 x1886.length c1889), (1, .slice p1893 x1891.length c1894), (5, .int .i64 s1909), (17, .slice p1888 x1886.length c1889), (18, .int .i64 s1909)] (fun w_ => by kernel_rfl) (by kernel_rfl) ?_
        obtain ⟨y1921, hy1921, hm⟩ := gx_bind hm
        refine Z_val (elemP p1888 (s1909.toNat * 1)) (by kernel_rfl) (fun w_ M_ => (E_index (E := encI) _ _ _ x1886.length c1889 .i64 s1909 1 (y := y1921) rfl (by kernel_rfl) (by kernel_rfl) (by kernel_rfl) (h1890.mem0 M_) rfl hy1921)) ?_
        refine Z_val (.int .i64 y1921) (by kernel_rfl) (fun w_ M_ => (E_loadE (E := encI) _ _ false 1 s1909 0 (s1909.toNat * 1) y1921 (.int .i64 y1921) rfl (by kernel_rfl) (by kernel_rfl) (by kernel_rfl) (h1890.mem0 M_) hy1921 rfl)) ?_
        refine Z_runs [.slice p1893 x1891.length c1894, .int .i64 s1909] [(0, .slice p1888 x1886.length c1889), (1, .slice p1893 x1891.length c1894), (5, .int .i64 s1909), (20, .int .i64 y1921), (21, .slice p1893 x1891.length c1894), (22, .int .i64 s1909)] (fun w_ => by kernel_rfl) (by kernel_rfl) ?_
        obtain ⟨y1922, hy1922, hm⟩ := gx_bind hm
        refine Z_val (elemP p1893 (s1909.toNat * 1)) (by kernel_rfl) (fun w_ M_ => (E_index (E := encI) _ _ _ x1891.length c1894 .i64 s1909 1 (y := y1922) rfl (by kernel_rfl) (by kernel_rfl) (by kernel_rfl) (h1895.mem0 M_) rfl hy1922)) ?_
        refine Z_val (.int .i64 y1922) (by kernel_rfl) (fun w_ M_ => (E_loadE (E := encI) _ _ false 1 s1909 0 (s1909.toNat * 1) y1922 (.int .i64 y1922) rfl (by kernel_rfl) (by kernel_rfl) (by kernel_rfl) (h1895.mem0 M_) hy1922 rfl)) ?_
        refine Z_runs [.bool (y1921 != y1922)] [(0, .slice p1888 x1886.length c1889), (1, .slice p1893 x1891.length c1894), (5, .int .i64 s1909), (25, .bool (y1921 != y1922))] (fun w_ => by kernel_rfl) (by kernel_rfl) ?_
        refine Z_end fun w1923 M1924 => ?_
        refine N_then ?_
        rcases gx_bif hm with ⟨hc1925, hm⟩ | ⟨hc1925, hm⟩
        · refine G_cond_t (b := (y1921 != y1922)) hc1925 (by kernel_rfl) ?_
          refine G_seq ?_
          refine G_region ?_
          refine W_run 1 [(4, .bool false)] w1923 (by kernel_rfl) ?_
          refine W_nil ?_
          refine N_then ?_
          refine G_ret ?_
          refine N_block_ret ?_
          refine N_then_ret ?_
          refine N_then_ret ?_
          obtain rfl := Option.some.inj hm
          obtain rfl := hout1911 _ rfl
          have hm := hmo1918; simp only [Sum.elim_inr] at hm
          refine N_block_ret ?_
          refine N_meet_ret ?_
          refine N_then_ret ?_
          obtain rfl := Option.some.inj hm
          refine N_ret [.bool false] (RVs_cons (RV_tmp (by kernel_rfl)) RVs_nil) ?_
          exact ⟨rfl, M1924.pick [] (by kernel_rfl)⟩
        · refine G_cond_f (b := (y1921 != y1922)) hc1925 (by kernel_rfl) ?_
          refine G_skip ?_
          refine N_block ?_
          refine N_then ?_
          refine G_region ?_
          refine W_run 3 [(0, .slice p1888 x1886.length c1889), (1, .slice p1893 x1891.length c1894), (5, .int .i64 (w64 (s1909 + 1)))] w1923 (by kernel_rfl) ?_
          refine W_nil ?_
          obtain rfl := Option.some.inj hm
          exact N_loop fun a ha => ⟨_, rfl, M1924.pick [] (by kernel_rfl), ha.sub (by kernel_rfl)⟩
      · refine G_cond_f (b := (decide (s1909 < (x1886.length : Int)))) hc1920 (by kernel_rfl) ?_
        refine G_exit ?_
        refine N_then_exit ?_
        refine N_then_exit ?_
        refine N_block_eq ?_
        obtain rfl := Option.some.inj hm
        obtain rfl := hout1911 _ rfl
        exact N_meet fun a ha => ⟨_, rfl, M1914.pick [] (by kernel_rfl), ha.sub (by kernel_rfl)⟩
    · intro a1926 w1927 ⟨o1919, hout_, M1928, hS1929⟩
      refine N_use hS1929 ?_
      subst hout_
      have hm := hmo1918; simp only [Sum.elim_inl] at hm
      refine N_then ?_
      refine G_seq ?_
      refine G_region ?_
      refine W_run 1 [(4, .bool true)] w1927 (by kernel_rfl) ?_
      refine W_nil ?_
      refine N_then ?_
      refine G_ret ?_
      obtain rfl := Option.some.inj hm
      refine N_ret [.bool true] (RVs_cons (RV_tmp (by kernel_rfl)) RVs_nil) ?_
      exact ⟨rfl, M1928.pick [] (by kernel_rfl)⟩
theorem c_l_markRegionS (w : World) (x1962 : List Region) (p1964 : Option Addr) (c1965 : Nat) (sg1966 : Seg) (ho1967 : ownS encRegion x1962 p1964 c1965 sg1966) (x1968 : Int) (hA : ∀ q ∈ List.flatten [sg1966], w.heap[q.1]? = some q.2) (hN : (idsOf [sg1966]).Nodup) {r : Int × (List Region)} (hm : M.l_markRegionS x1962 x1968 = some r) :
    Calls Try.prog 24 #[.slice p1964 x1962.length c1965, .int .i64 x1968] w fun e w' => ∃ (sg1969 : Seg), e = .returned (.int .i64 r.1) ∧ ownS encRegion r.2 p1964 c1965 sg1969 ∧ r.2.length = x1962.length ∧ Mem (idsOf [sg1966]) w w' [sg1969] := by
  unfold M.l_markRegionS at hm
  refine C_enter Try.func24 rfl (by kernel_rfl) ?_
  have M0 := Mem.start' w [sg1966] hA hN
  refine G_seq ?_
  refine G_region ?_
  refine W_run 1 [(0, .slice p1964 x1962.length c1965), (1, .int .i64 x1968)] w (by kernel_rfl) ?_
  refine W_nil ?_
  refine N_then ?_
  refine G_seq ?_
  refine G_seq ?_
  refine G_region ?_
  refine W_run 1 [(0, .slice p1964 x1962.length c1965), (1, .int .i64 x1968), (5, .int .i64 0)] w (by kernel_rfl) ?_
  refine W_nil ?_
  refine N_then ?_
  obtain ⟨out2022, hw2023, hmo2024⟩ := gx_bind hm
  refine G_meet (fun a w' => ∃ (sg2029 : Seg), ownS encRegion out2022.2 p1964 c1965 sg2029 ∧ out2022.2.length = x1962.length ∧ Mem (idsOf [sg1966]) w w' [sg2029] ∧ Sat Try.f24.ntmps [(1, .int .i64 out2022.1)] a) ?_ ?_
  · refine G_block ?_
    refine G_while (σ := Int × Int × List Region) (ρ := Int × List Region) (fun s2015 a w' => ∃ (sg2025 : Seg), ownS encRegion s2015.2.2 p1964 c1965 sg2025 ∧ s2015.2.2.length = x1962.length ∧ Mem (idsOf [sg1966]) w w' [sg2025] ∧ Sat Try.f24.ntmps [(0, .slice p1964 s2015.2.2.length c1965), (1, .int .i64 s2015.1), (5, .int .i64 s2015.2.1)] a) hw2023 (fun a ha => ⟨sg1966, ho1967, rfl, M0.pick [0] (by kernel_rfl), ha.sub (by kernel_rfl)⟩) ?_
    clear hm
    intro s2015 x2016 hm hout2017 a2018 w2019 ⟨sg2025, ho2026, hl2027, M2020, hS2021⟩
    refine G_use hS2021 ?_
    refine G_seq ?_
    refine G_seq ?_
    refine G_region ?_
    refine W_run 4 [(0, .slice p1964 s2015.2.2.length c1965), (1, .int .i64 s2015.1), (5, .int .i64 s2015.2.1), (9, .bool (decide (s2015.2.1 < (s2015.2.2.length : Int))))] w2019 (by kernel_rfl) ?_
    refine W_nil ?_
    refine N_then ?_
    rcases gx_bif hm with ⟨hc2032, hm⟩ | ⟨hc2032, hm⟩
    · refine G_cond_t (b := (decide (s2015.2.1 < (s2015.2.2.length : Int)))) hc2032 (by kernel_rfl) ?_
      refine G_skip ?_
      refine N_then ?_
      refine G_seq ?_
      refine G_block ?_
      refine G_seq ?_
      refine G_region ?_
      refine W_run 3 [(0, .slice p1964 s2015.2.2.length c1965), (1, .int .i64 s2015.1), (5, .int .i64 s2015.2.1), (12, .slice p1964 s2015.2.2.length c1965), (13, .int .i64 s2015.2.1), (14, .int .i64 s2015.1)] w2019 (by kernel_rfl) ?_
      obtain ⟨y2033, hy2033, hm⟩ := gx_bind hm
      refine W_val (elemP p1964 (s2015.2.1.toNat * 4)) w2019 (by kernel_rfl) (E_index (E := encRegion) _ _ _ s2015.2.2.length c1965 .i64 s2015.2.1 4 (y := y2033) rfl (by kernel_rfl) (by kernel_rfl) (by kernel_rfl) (ho2026.rd M2020 0 (by kernel_rfl)) rfl hy2033) ?_
      refine W_val (elemP p1964 (s2015.2.1.toNat * 4 + 0)) w2019 (by kernel_rfl) (E_fieldE (E := encRegion) _ _ 0 (s2015.2.1.toNat * 4) 0 rfl (by kernel_rfl) (by kernel_rfl) (ho2026.rd M2020 0 (by kernel_rfl)) hy2033) ?_
      refine W_storeE (E := encRegion) _ _ _ false 1 s2015.2.1.toNat 0 (s2015.2.1.toNat * 4 + 0) y2033 (⟨s2015.1, y2033.Size, y2033.Kind, y2033.Unit⟩ : Region) (.int .i64 s2015.1) 0 M2020 ho2026 (by kernel_rfl) (by kernel_rfl) rfl (by kernel_rfl) (by kernel_rfl) (by kernel_rfl) (by kernel_rfl) (by kernel_rfl) (by kernel_rfl) (by kernel_rfl) (gxIdx_spec hy2033).2 rfl ?_
      intro w2034 sg2036 ho2037 M2035
      refine W_conv 0 (.slice p1964 s2015.2.2.length c1965) (.slice p1964 (s2015.2.2.set s2015.2.1.toNat (⟨s2015.1, y2033.Size, y2033.Kind, y2033.Unit⟩ : Region)).length c1965) (by kernel_rfl) (by rw [@List.length_set _ s2015.2.2 s2015.2.1.toNat (⟨s2015.1, y2033.Size, y2033.Kind, y2033.Unit⟩ : Region)]) ?_
      refine W_conv 12 (.slice p1964 s2015.2.2.length c1965) (.slice p1964 (s2015.2.2.set s2015.2.1.toNat (⟨s2015.1, y2033.Size, y2033.Kind, y2033.Unit⟩ : Region)).length c1965) (by kernel_rfl) (by rw [@List.length_set _ s2015.2.2 s2015.2.1.toNat (⟨s2015.1, y2033.Size, y2033.Kind, y2033.Unit⟩ : Region)]) ?_
      refine W_nil ?_
      refine N_then ?_
      refine G_seq ?_
      refine G_region ?_
      refine W_run 3 [(0, .slice p1964 (s2015.2.2.set s2015.2.1.toNat (⟨s2015.1, y2033.Size, y2033.Kind, y2033.Unit⟩ : Region)).length c1965), (1, .int .i64 (w64 (s2015.1 + 1))), (5, .int .i64 s2015.2.1)] w2034 (by kernel_rfl) ?_
      refine W_nil ?_
      refine N_then ?_
      refine G_seq ?_
      refine G_region ?_
      refine W_run 3 [(0, .slice p1964 (s2015.2.2.set s2015.2.1.toNat (⟨s2015.1, y2033.Size, y2033.Kind, y2033.Unit⟩ : Region)).length c1965), (1, .int .i64 (w64 (s2015.1 + 1))), (5, .int .i64 s2015.2.1), (19, .slice p1964 (s2015.2.2.set s2015.2.1.toNat (⟨s2015.1, y2033.Size, y2033.Kind, y2033.Unit⟩ : Region)).length c1965), (20, .int .i64 s2015.2.1), (21, .int .i64 (w64 (s2015.1 + 1)))] w2034 (by kernel_rfl) ?_
      obtain ⟨y2038, hy2038, hm⟩ := gx_bind hm
      refine W_val (elemP p1964 (s2015.2.1.toNat * 4)) w2034 (by kernel_rfl) (E_index (E := encRegion) _ _ _ (s2015.2.2.set s2015.2.1.toNat (⟨s2015.1, y2033.Size, y2033.Kind, y2033.Unit⟩ : Region)).length c1965 .i64 s2015.2.1 4 (y := y2038) rfl (by kernel_rfl) (by kernel_rfl) (by kernel_rfl) (ho2037.rd M2035 0 (by kernel_rfl)) rfl hy2038) ?_
      refine W_val (elemP p1964 (s2015.2.1.toNat * 4 + 1)) w2034 (by kernel_rfl) (E_fieldE (E := encRegion) _ _ 1 (s2015.2.1.toNat * 4) 1 rfl (by kernel_rfl) (by kernel_rfl) (ho2037.rd M2035 0 (by kernel_rfl)) hy2038) ?_
      refine W_storeE (E := encRegion) _ _ _ false 1 s2015.2.1.toNat 1 (s2015.2.1.toNat * 4 + 1) y2038 (⟨y2038.Base, w64 (s2015.1 + 1), y2038.Kind, y2038.Unit⟩ : Region) (.int .i64 (w64 (s2015.1 + 1))) 0 M2035 ho2037 (by kernel_rfl) (by kernel_rfl) rfl (by kernel_rfl) (by kernel_rfl) (by kernel_rfl) (by kernel_rfl) (by kernel_rfl) (by kernel_rfl) (by kernel_rfl) (gxIdx_spec hy2038).2 rfl ?_
      intro w2039 sg2041 ho2042 M2040
      refine W_conv 0 (.slice p1964 (s2015.2.2.set s2015.2.1.toNat (⟨s2015.1, y2033.Size, y2033.Kind, y2033.Unit⟩ : Region)).length c1965) (.slice p1964 ((s2015.2.2.set s2015.2.1.toNat (⟨s2015.1, y2033.Size, y2033.Kind, y2033.Unit⟩ : Region)).set s2015.2.1.toNat (⟨y2038.Base, w64 (s2015.1 + 1), y2038.Kind, y2038.Unit⟩ : Region)).length c1965) (by kernel_rfl) (by rw [@List.length_set _ (s2015.2.2.set s2015.2.1.toNat (⟨s2015.1, y2033.Size, y2033.Kind, y2033.Unit⟩ : Region)) s2015.2.1.toNat (⟨y2038.Base, w64 (s2015.1 + 1), y2038.Kind, y2038.Unit⟩ : Region)]) ?_
      refine W_conv 19 (.slice p1964 (s2015.2.2.set s2015.2.1.toNat (⟨s2015.1, y2033.Size, y2033.Kind, y2033.Unit⟩ : Region)).length c1965) (.slice p1964 ((s2015.2.2.set s2015.2.1.toNat (⟨s2015.1, y2033.Size, y2033.Kind, y2033.Unit⟩ : Region)).set s2015.2.1.toNat (⟨y2038.Base, w64 (s2015.1 + 1), y2038.Kind, y2038.Unit⟩ : Region)).length c1965) (by kernel_rfl) (by rw [@List.length_set _ (s2015.2.2.set s2015.2.1.toNat (⟨s2015.1, y2033.Size, y2033.Kind, y2033.Unit⟩ : Region)) s2015.2.1.toNat (⟨y2038.Base, w64 (s2015.1 + 1), y2038.Kind, y2038.Unit⟩ : Region)]) ?_
      refine W_nil ?_
      refine N_then ?_
      refine G_seq ?_
      refine G_region ?_
      refine W_run 3 [(0, .slice p1964 ((s2015.2.2.set s2015.2.1.toNat (⟨s2015.1, y2033.Size, y2033.Kind, y2033.Unit⟩ : Region)).set s2015.2.1.toNat (⟨y2038.Base, w64 (s2015.1 + 1), y2038.Kind, y2038.Unit⟩ : Region)).length c1965), (1, .int .i64 (w64 ((w64 (s2015.1 + 1)) + 1))), (5, .int .i64 s2015.2.1)] w2039 (by kernel_rfl) ?_
      refine W_nil ?_
      refine N_then ?_
      refine G_seq ?_
      refine G_region ?_
      refine W_run 3 [(0, .slice p1964 ((s2015.2.2.set s2015.2.1.toNat (⟨s2015.1, y2033.Size, y2033.Kind, y2033.Unit⟩ : Region)).set s2015.2.1.toNat (⟨y2038.Base, w64 (s2015.1 + 1), y2038.Kind, y2038.Unit⟩ : Region)).length c1965), (1, .int .i64 (w64 ((w64 (s2015.1 + 1)) + 1))), (5, .int .i64 s2015.2.1), (26, .slice p1964 ((s2015.2.2.set s2015.2.1.toNat (⟨s2015.1, y2033.Size, y2033.Kind, y2033.Unit⟩ : Region)).set s2015.2.1.toNat (⟨y2038.Base, w64 (s2015.1 + 1), y2038.Kind, y2038.Unit⟩ : Region)).length c1965), (27, .int .i64 s2015.2.1), (28, .int .i64 (w64 ((w64 (s2015.1 + 1)) + 1)))] w2039 (by kernel_rfl) ?_
      obtain ⟨y2043, hy2043, hm⟩ := gx_bind hm
      refine W_val (elemP p1964 (s2015.2.1.toNat * 4)) w2039 (by kernel_rfl) (E_index (E := encRegion) _ _ _ ((s2015.2.2.set s2015.2.1.toNat (⟨s2015.1, y2033.Size, y2033.Kind, y2033.Unit⟩ : Region)).set s2015.2.1.toNat (⟨y2038.Base, w64 (s2015.1 + 1), y2038.Kind, y2038.Unit⟩ : Region)).length c1965 .i64 s2015.2.1 4 (y := y2043) rfl (by kernel_rfl) (by kernel_rfl) (by kernel_rfl) (ho2042.rd M2040 0 (by kernel_rfl)) rfl hy2043) ?_
      refine W_val (elemP p1964 (s2015.2.1.toNat * 4 + 2)) w2039 (by kernel_rfl) (E_fieldE (E := encRegion) _ _ 2 (s2015.2.1.toNat * 4) 2 rfl (by kernel_rfl) (by kernel_rfl) (ho2042.rd M2040 0 (by kernel_rfl)) hy2043) ?_
      refine W_storeE (E := encRegion) _ _ _ false 1 s2015.2.1.toNat 2 (s2015.2.1.toNat * 4 + 2) y2043 (⟨y2043.Base, y2043.Size, w64 ((w64 (s2015.1 + 1)) + 1), y2043.Unit⟩ : Region) (.int .i64 (w64 ((w64 (s2015.1 + 1)) + 1))) 0 M2040 ho2042 (by kernel_rfl) (by kernel_rfl) rfl (by kernel_rfl) (by kernel_rfl) (by kernel_rfl) (by kernel_rfl) (by kernel_rfl) (by kernel_rfl) (by kernel_rfl) (gxIdx_spec hy2043).2 rfl ?_
      intro w2044 sg2046 ho2047 M2045
      refine W_conv 0 (.slice p1964 ((s2015.2.2.set s2015.2.1.toNat (⟨s2015.1, y2033.Size, y2033.Kind, y2033.Unit⟩ : Region)).set s2015.2.1.toNat (⟨y2038.Base, w64 (s2015.1 + 1), y2038.Kind, y2038.Unit⟩ : Region)).length c1965) (.slice p1964 (((s2015.2.2.set s2015.2.1.toNat (⟨s2015.1, y2033.Size, y2033.Kind, y2033.Unit⟩ : Region)).set s2015.2.1.toNat (⟨y2038.Base, w64 (s2015.1 + 1), y2038.Kind, y2038.Unit⟩ : Region)).set s2015.2.1.toNat (⟨y2043.Base, y2043.Size, w64 ((w64 (s2015.1 + 1)) + 1), y2043.Unit⟩ : Region)).length c1965) (by kernel_rfl) (by rw [@List.length_set _ ((s2015.2.2.set s2015.2.1.toNat (⟨s2015.1, y2033.Size, y2033.Kind, y2033.Unit⟩ : Region)).set s2015.2.1.toNat (⟨y2038.Base, w64 (s2015.1 + 1), y2038.Kind, y2038.Unit⟩ : Region)) s2015.2.1.toNat (⟨y2043.Base, y2043.Size, w64 ((w64 (s2015.1 + 1)) + 1), y2043.Unit⟩ : Region)]) ?_
      refine W_conv 26 (.slice p1964 ((s2015.2.2.set s2015.2.1.toNat (⟨s2015.1, y2033.Size, y2033.Kind, y2033.Unit⟩ : Region)).set s2015.2.1.toNat (⟨y2038.Base, w64 (s2015.1 + 1), y2038.Kind, y2038.Unit⟩ : Region)).length c1965) (.slice p1964 (((s2015.2.2.set s2015.2.1.toNat (⟨s2015.1, y2033.Size, y2033.Kind, y2033.Unit⟩ : Region)).set s2015.2.1.toNat (⟨y2038.Base, w64 (s2015.1 + 1), y2038.Kind, y2038.Unit⟩ : Region)).set s2015.2.1.toNat (⟨y2043.Base, y2043.Size, w64 ((w64 (s2015.1 + 1)) + 1), y2043.Unit⟩ : Region)).length c1965) (by kernel_rfl) (by rw [@List.length_set _ ((s2015.2.2.set s2015.2.1.toNat (⟨s2015.1, y2033.Size, y2033.Kind, y2033.Unit⟩ : Region)).set s2015.2.1.toNat (⟨y2038.Base, w64 (s2015.1 + 1), y2038.Kind, y2038.Unit⟩ : Region)) s2015.2.1.toNat (⟨y2043.Base, y2043.Size, w64 ((w64 (s2015.1 + 1)) + 1), y2043.Unit⟩ : Region)]) ?_
      refine W_nil ?_
      refine N_then ?_
      refine G_seq ?_
      refine G_region ?_
      refine W_run 3 [(0, .slice p1964 (((s2015.2.2.set s2015.2.1.toNat (⟨s2015.1, y2033.Size, y2033.Kind, y2033.Unit⟩ : Region)).set s2015.2.1.toNat (⟨y2038.Base, w64 (s2015.1 + 1), y2038.Kind, y2038.Unit⟩ : Region)).set s2015.2.1.toNat (⟨y2043.Base, y2043.Size, w64 ((w64 (s2015.1 + 1)) + 1), y2043.Unit⟩ : Region)).length c1965), (1, .int .i64 (w64 ((w64 ((w64 (s2015.1 + 1)) + 1)) + 1))), (5, .int .i64 s2015.2.1)] w2044 (by kernel_rfl) ?_
      refine W_nil ?_
      refine N_then ?_
      refine G_seq ?_
      refine G_region ?_
      refine W_run 3 [(0, .slice p1964 (((s2015.2.2.set s2015.2.1.toNat (⟨s2015.1, y2033.Size, y2033.Kind, y2033.Unit⟩ : Region)).set s2015.2.1.toNat (⟨y2038.Base, w64 (s2015.1 + 1), y2038.Kind, y2038.Unit⟩ : Region)).set s2015.2.1.toNat (⟨y2043.Base, y2043.Size, w64 ((w64 (s2015.1 + 1)) + 1), y2043.Unit⟩ : Region)).length c1965), (1, .int .i64 (w64 ((w64 ((w64 (s2015.1 + 1)) + 1)) + 1))), (5, .int .i64 s2015.2.1), (33, .slice p1964 (((s2015.2.2.set s2015.2.1.toNat (⟨s2015.1, y2033.Size, y2033.Kind, y2033.Unit⟩ : Region)).set s2015.2.1.toNat (⟨y2038.Base, w64 (s2015.1 + 1), y2038.Kind, y2038.Unit⟩ : Region)).set s2015.2.1.toNat (⟨y2043.Base, y2043.Size, w64 ((w64 (s2015.1 + 1)) + 1), y2043.Unit⟩ : Region)).length c1965), (34, .int .i64 s2015.2.1), (35, .int .i64 (w64 ((w64 ((w64 (s2015.1 + 1)) + 1)) + 1)))] w2044 (by kernel_rfl) ?_
      obtain ⟨y2048, hy2048, hm⟩ := gx_bind hm
      refine W_val (elemP p1964 (s2015.2.1.toNat * 4)) w2044 (by kernel_rfl) (E_index (E := encRegion) _ _ _ (((s2015.2.2.set s2015.2.1.toNat (⟨s2015.1, y2033.Size, y2033.Kind, y2033.Unit⟩ : Region)).set s2015.2.1.toNat (⟨y2038.Base, w64 (s2015.1 + 1), y2038.Kind, y2038.Unit⟩ : Region)).set s2015.2.1.toNat (⟨y2043.Base, y2043.Size, w64 ((w64 (s2015.1 + 1)) + 1), y2043.Unit⟩ : Region)).length c1965 .i64 s2015.2.1 4 (y := y2048) rfl (by kernel_rfl) (by kernel_rfl) (by kernel_rfl) (ho2047.rd M2045 0 (by kernel_rfl)) rfl hy2048) ?_
      refine W_val (elemP p1964 (s2015.2.1.toNat * 4 + 3)) w2044 (by kernel_rfl) (E_fieldE (E := encRegion) _ _ 3 (s2015.2.1.toNat * 4) 3 rfl (by kernel_rfl) (by kernel_rfl) (ho2047.rd M2045 0 (by kernel_rfl)) hy2048) ?_
      refine W_storeE (E := encRegion) _ _ _ false 1 s2015.2.1.toNat 3 (s2015.2.1.toNat * 4 + 3) y2048 (⟨y2048.Base, y2048.Size, y2048.Kind, w64 ((w64 ((w64 (s2015.1 + 1)) + 1)) + 1)⟩ : Region) (.int .i64 (w64 ((w64 ((w64 (s2015.1 + 1)) + 1)) + 1))) 0 M2045 ho2047 (by kernel_rfl) (by kernel_rfl) rfl (by kernel_rfl) (by kernel_rfl) (by kernel_rfl) (by kernel_rfl) (by kernel_rfl) (by kernel_rfl) (by kernel_rfl) (gxIdx_spec hy2048).2 rfl ?_
      intro w2049 sg2051 ho2052 M2050
      refine W_conv 0 (.slice p1964 (((s2015.2.2.set s2015.2.1.toNat (⟨s2015.1, y2033.Size, y2033.Kind, y2033.Unit⟩ : Region)).set s2015.2.1.toNat (⟨y2038.Base, w64 (s2015.1 + 1), y2038.Kind, y2038.Unit⟩ : Region)).set s2015.2.1.toNat (⟨y2043.Base, y2043.Size, w64 ((w64 (s2015.1 + 1)) + 1), y2043.Unit⟩ : Region)).length c1965) (.slice p1964 ((((s2015.2.2.set s2015.2.1.toNat (⟨s2015.1, y2033.Size, y2033.Kind, y2033.Unit⟩ : Region)).set s2015.2.1.toNat (⟨y2038.Base, w64 (s2015.1 + 1), y2038.Kind, y2038.Unit⟩ : Region)).set s2015.2.1.toNat (⟨y2043.Base, y2043.Size, w64 ((w64 (s2015.1 + 1)) + 1), y2043.Unit⟩ : Region)).set s2015.2.1.toNat (⟨y2048.Base, y2048.Size, y2048.Kind, w64 ((w64 ((w64 (s2015.1 + 1)) + 1)) + 1)⟩ : Region)).length c1965) (by kernel_rfl) (by rw [@List.length_set _ (((s2015.2.2.set s2015.2.1.toNat (⟨s2015.1, y2033.Size, y2033.Kind, y2033.Unit⟩ : Region)).set s2015.2.1.toNat (⟨y2038.Base, w64 (s2015.1 + 1), y2038.Kind, y2038.Unit⟩ : Region)).set s2015.2.1.toNat (⟨y2043.Base, y2043.Size, w64 ((w64 (s2015.1 + 1)) + 1), y2043.Unit⟩ : Region)) s2015.2.1.toNat (⟨y2048.Base, y2048.Size, y2048.Kind, w64 ((w64 ((w64 (s2015.1 + 1)) + 1)) + 1)⟩ : Region)]) ?_
      refine W_conv 33 (.slice p1964 (((s2015.2.2.set s2015.2.1.toNat (⟨s2015.1, y2033.Size, y2033.Kind, y2033.Unit⟩ : Region)).set s2015.2.1.toNat (⟨y2038.Base, w64 (s2015.1 + 1), y2038.Kind, y2038.Unit⟩ : Region)).set s2015.2.1.toNat (⟨y2043.Base, y2043.Size, w64 ((w64 (s2015.1 + 1)) + 1), y2043.Unit⟩ : Region)).length c1965) (.slice p1964 ((((s2015.2.2.set s2015.2.1.toNat (⟨s2015.1, y2033.Size, y2033.Kind, y2033.Unit⟩ : Region)).set s2015.2.1.toNat (⟨y2038.Base, w64 (s2015.1 + 1), y2038.Kind, y2038.Unit⟩ : Region)).set s2015.2.1.toNat (⟨y2043.Base, y2043.Size, w64 ((w64 (s2015.1 + 1)) + 1), y2043.Unit⟩ : Region)).set s2015.2.1.toNat (⟨y2048.Base, y2048.Size, y2048.Kind, w64 ((w64 ((w64 (s2015.1 + 1)) + 1)) + 1)⟩ : Region)).length c1965) (by kernel_rfl) (by rw [@List.length_set _ (((s2015.2.2.set s2015.2.1.toNat (⟨s2015.1, y2033.Size, y2033.Kind, y2033.Unit⟩ : Region)).set s2015.2.1.toNat (⟨y2038.Base, w64 (s2015.1 + 1), y2038.Kind, y2038.Unit⟩ : Region)).set s2015.2.1.toNat (⟨y2043.Base, y2043.Size, w64 ((w64 (s2015.1 + 1)) + 1), y2043.Unit⟩ : Region)) s2015.2.1.toNat (⟨y2048.Base, y2048.Size, y2048.Kind, w64 ((w64 ((w64 (s2015.1 + 1)) + 1)) + 1)⟩ : Region)]) ?_
      refine W_nil ?_
      refine N_then ?_
      refine G_region ?_
      refine W_run 3 [(0, .slice p1964 ((((s2015.2.2.set s2015.2.1.toNat (⟨s2015.1, y2033.Size, y2033.Kind, y2033.Unit⟩ : Region)).set s2015.2.1.toNat (⟨y2038.Base, w64 (s2015.1 + 1), y2038.Kind, y2038.Unit⟩ : Region)).set s2015.2.1.toNat (⟨y2043.Base, y2043.Size, w64 ((w64 (s2015.1 + 1)) + 1), y2043.Unit⟩ : Region)).set s2015.2.1.toNat (⟨y2048.Base, y2048.Size, y2048.Kind, w64 ((w64 ((w64 (s2015.1 + 1)) + 1)) + 1)⟩ : Region)).length c1965), (1, .int .i64 (w64 ((w64 ((w64 ((w64 (s2015.1 + 1)) + 1)) + 1)) + 1))), (5, .int .i64 s2015.2.1)] w2049 (by kernel_rfl) ?_
      refine W_nil ?_
      refine N_block ?_
      refine N_then ?_
      refine G_region ?_
      refine W_run 3 [(0, .slice p1964 ((((s2015.2.2.set s2015.2.1.toNat (⟨s2015.1, y2033.Size, y2033.Kind, y2033.Unit⟩ : Region)).set s2015.2.1.toNat (⟨y2038.Base, w64 (s2015.1 + 1), y2038.Kind, y2038.Unit⟩ : Region)).set s2015.2.1.toNat (⟨y2043.Base, y2043.Size, w64 ((w64 (s2015.1 + 1)) + 1), y2043.Unit⟩ : Region)).set s2015.2.1.toNat (⟨y2048.Base, y2048.Size, y2048.Kind, w64 ((w64 ((w64 (s2015.1 + 1)) + 1)) + 1)⟩ : Region)).length c1965), (1, .int .i64 (w64 ((w64 ((w64 ((w64 (s2015.1 + 1)) + 1)) + 1)) + 1))), (5, .int .i64 (w64 (s2015.2.1 + 1)))] w2049 (by kernel_rfl) ?_
      refine W_nil ?_
      obtain rfl := Option.some.inj hm
      exact N_loop fun a ha => ⟨_, rfl, sg2051, ho2052, (List.length_set.trans (List.length_set.trans (List.length_set.trans (List.length_set.trans hl2027)))), M2050.pick [0] (by kernel_rfl), ha.sub (by kernel_rfl)⟩
    · refine G_cond_f (b := (decide (s2015.2.1 < (s2015.2.2.length : Int)))) hc2032 (by kernel_rfl) ?_
      refine G_exit ?_
      refine N_then_exit ?_
      refine N_then_exit ?_
      refine N_block_eq ?_
      obtain rfl := Option.some.inj hm
      obtain rfl := hout2017 _ rfl
      exact N_meet fun a ha => ⟨sg2025, ho2026, hl2027, M2020.pick [0] (by kernel_rfl), ha.sub (by kernel_rfl)⟩
  · intro a2053 w2054 ⟨sg2029, ho2030, hl2031, M2055, hS2056⟩
    refine N_use hS2056 ?_
    have hm := hmo2024
    refine N_then ?_
    refine G_seq ?_
    refine G_region ?_
    refine W_run 2 [(4, .int .i64 out2022.1)] w2054 (by kernel_rfl) ?_
    refine W_nil ?_
    refine N_then ?_
    refine G_ret ?_
    obtain rfl := Option.some.inj hm
    refine N_ret [.int .i64 out2022.1] (RVs_cons (RV_tmp (by kernel_rfl)) RVs_nil) ?_
    exact ⟨sg2029, rfl, ho2030, hl2031, M2055.pick [0] (by kernel_rfl)⟩
theorem c_l_markIntS (w : World) (x2084 : List Int) (p2086 : Option Addr) (c2087 : Nat) (sg2088 : Seg) (ho2089 : ownS encI x2084 p2086 c2087 sg2088) (x2090 : Int) (hA : ∀ q ∈ List.flatten [sg2088], w.heap[q.1]? = some q.2) (hN : (idsOf [sg2088]).Nodup) {r : Int × (List Int)} (hm : M.l_markIntS x2084 x2090 = some r) :
    Calls Try.prog 25 #[.slice p2086 x2084.length c2087, .int .i64 x2090] w fun e w' => ∃ (sg2091 : Seg), e = .returned (.int .i64 r.1) ∧ ownS encI r.2 p2086 c2087 sg2091 ∧ r.2.length = x2084.length ∧ Mem (idsOf [sg2088]) w w' [sg2091] := by
  unfold M.l_markIntS at hm
  refine C_enter Try.func25 rfl (by kernel_rfl) ?_
  have M0 := Mem.start' w [sg2088] hA hN
  refine G_seq ?_
  refine G_region ?_
  refine W_run 1 [(0, .slice p2086 x2084.length c2087), (1, .int .i64 x2090)] w (by kernel_rfl) ?_
  refine W_nil ?_
  refine N_then ?_
  refine G_seq ?_
  refine G_seq ?_
  refine G_region ?_
  refine W_run 1 [(0, .slice p2086 x2084.length c2087), (1, .int .i64 x2090), (5, .int .i64 0)] w (by kernel_rfl) ?_
  refine W_nil ?_
  refine N_then ?_
  obtain ⟨out2114, hw2115, hmo2116⟩ := gx_bind hm
  refine G_meet (fun a w' => ∃ (sg2121 : Seg), ownS encI out2114.2 p2086 c2087 sg2121 ∧ out2114.2.length = x2084.length ∧ Mem (idsOf [sg2088]) w w' [sg2121] ∧ Sat Try.f25.ntmps [(1, .int .i64 out2114.1)] a) ?_ ?_
  · refine G_block ?_
    refine G_while (σ := Int × Int × List Int) (ρ := Int × List Int) (fun s2107 a w' => ∃ (sg2117 : Seg), ownS encI s2107.2.2 p2086 c2087 sg2117 ∧ s2107.2.2.length = x2084.length ∧ Mem (idsOf [sg2088]) w w' [sg2117] ∧ Sat Try.f25.ntmps [(0, .slice p2086 s2107.2.2.length c2087), (1, .int .i64 s2107.1), (5, .int .i64 s2107.2.1)] a) hw2115 (fun a ha => ⟨sg2088, ho2089, rfl, M0.pick [0] (by kernel_rfl), ha.sub (by kernel_rfl)⟩) ?_
    clear hm
    intro s2107 x2108 hm hout2109 a2110 w2111 ⟨sg2117, ho2118, hl2119, M2112, hS2113⟩
    refine G_use hS2113 ?_
    refine G_seq ?_
    refine G_seq ?_
    refine G_region ?_
    refine W_run 4 [(0, .slice p2086 s2107.2.2.length c2087), (1, .int .i64 s2107.1), (5, .int .i64 s2107.2.1), (9, .bool (decide (s2107.2.1 < (s2107.2.2.length : Int))))] w2111 (by kernel_rfl) ?_
    refine W_nil ?_
    refine N_then ?_
    rcases gx_bif hm with ⟨hc2124, hm⟩ | ⟨hc2124, hm⟩
    · refine G_cond_t (b := (decide (s2107.2.1 < (s2107.2.2.length : Int)))) hc2124 (by kernel_rfl) ?_
      refine G_skip ?_
      refine N_then ?_
      refine G_seq ?_
      refine G_block ?_
      refine G_seq ?_
      refine G_region ?_
      refine W_run 3 [(0, .slice p2086 s2107.2.2.length c2087), (1, .int .i64 s2107.1), (5, .int .i64 s2107.2.1), (12, .slice p2086 s2107.2.2.length c2087), (13, .int .i64 s2107.2.1), (14, .int .i64 s2107.1)] w2111 (by kernel_rfl) ?_
      obtain ⟨y2125, hy2125, hm⟩ := gx_bind hm
      refine W_val (elemP p2086 (s2107.2.1.toNat * 1)) w2111 (by kernel_rfl) (E_index (E := encI) _ _ _ s2107.2.2.length c2087 .i64 s2107.2.1 1 (y := y2125) rfl (by kernel_rfl) (by kernel_rfl) (by kernel_rfl) (ho2118.rd M2112 0 (by kernel_rfl)) rfl hy2125) ?_
      refine W_storeE (E := encI) _ _ _ false 1 s2107.2.1.toNat 0 (s2107.2.1.toNat * 1) y2125 s2107.1 (.int .i64 s2107.1) 0 M2112 ho2118 (by kernel_rfl) (by kernel_rfl) rfl (by kernel_rfl) (by kernel_rfl) (by kernel_rfl) (by kernel_rfl) (by kernel_rfl) (by kernel_rfl) (by kernel_rfl) (gxIdx_spec hy2125).2 rfl ?_
      intro w2126 sg2128 ho2129 M2127
      refine W_conv 0 (.slice p2086 s2107.2.2.length c2087) (.slice p2086 (s2107.2.2.set s2107.2.1.toNat s2107.1).length c2087) (by kernel_rfl) (by rw [@List.length_set _ s2107.2.2 s2107.2.1.toNat s2107.1]) ?_
      refine W_conv 12 (.slice p2086 s2107.2.2.length c2087) (.slice p2086 (s2107.2.2.set s2107.2.1.toNat s2107.1).length c2087) (by kernel_rfl) (by rw [@List.length_set _ s2107.2.2 s2107.2.1.toNat s2107.1]) ?_
      refine W_nil ?_
      refine N_then ?_
      refine G_region ?_
      refine W_run 3 [(0, .slice p2086 (s2107.2.2.set s2107.2.1.toNat s2107.1).length c2087), (1, .int .i64 (w64 (s2107.1 + 1))), (5, .int .i64 s2107.2.1)] w2126 (by kernel_rfl) ?_
      refine W_nil ?_
      refine N_block ?_
      refine N_then ?_
      refine G_region ?_
      refine W_run 3 [(0, .slice p2086 (s2107.2.2.set s2107.2.1.toNat s2107.1).length c2087), (1, .int .i64 (w64 (s2107.1 + 1))), (5, .int .i64 (w64 (s2107.2.1 + 1)))] w2126 (by kernel_rfl) ?_
      refine W_nil ?_
      obtain rfl := Option.some.inj hm
      exact N_loop fun a ha => ⟨_, rfl, sg2128, ho2129, (List.length_set.trans hl2119), M2127.pick [0] (by kernel_rfl), ha.sub (by kernel_rfl)⟩
    · refine G_cond_f (b := (decide (s2107.2.1 < (s2107.2.2.length : Int)))) hc2124 (by kernel_rfl) ?_
      refine G_exit ?_
      refine N_then_exit ?_
      refine N_then_exit ?_
      refine N_block_eq ?_
      obtain rfl := Option.some.inj hm
      obtain rfl := hout2109 _ rfl
      exact N_meet fun a ha => ⟨sg2117, ho2118, hl2119, M2112.pick [0] (by kernel_rfl), ha.sub (by kernel_rfl)⟩
  · intro a2130 w2131 ⟨sg2121, ho2122, hl2123, M2132, hS2133⟩
    refine N_use hS2133 ?_
    have hm := hmo2116
    refine N_then ?_
    refine G_seq ?_
    refine G_region ?_
    refine W_run 2 [(4, .int .i64 out2114.1)] w2131 (by kernel_rfl) ?_
    refine W_nil ?_
    refine N_then ?_
    refine G_ret ?_
    obtain rfl := Option.some.inj hm
    refine N_ret [.int .i64 out2114.1] (RVs_cons (RV_tmp (by kernel_rfl)) RVs_nil) ?_
    exact ⟨sg2121, rfl, ho2122, hl2123, M2132.pick [0] (by kernel_rfl)⟩
theorem c_l_heldIntS (w : World) (x2141 : List Int) (p2143 : Option Addr) (c2144 : Nat) (h2145 : rdS encI w x2141 p2143 c2144) (x2146 : Int) {r : Int} (hm : M.l_heldIntS x2141 x2146 = some r) :
    Calls Try.prog 26 #[.slice p2143 x2141.length c2144, .int .i64 x2146] w fun e w' => e = .returned (.int .i64 r) ∧ Mem [] w w' [] := by
  unfold M.l_heldIntS at hm
  refine C_enter Try.func26 rfl (by kernel_rfl) ?_
  have M0 := Mem.refl [] w
  refine G_seq ?_
  refine G_region ?_
  refine W_run 1 [(0, .slice p2143 x2141.length c2144), (1, .int .i64 x2146)] w (by kernel_rfl) ?_
  refine W_nil ?_
  refine N_then ?_
  refine G_seq ?_
  refine G_seq ?_
  refine G_region ?_
  refine W_run 1 [(0, .slice p2143 x2141.length c2144), (1, .int .i64 x2146), (5, .int .i64 0)] w (by kernel_rfl) ?_
  refine W_nil ?_
  refine N_then ?_
  obtain ⟨out2160, hw2161, hmo2162⟩ := gx_bind hm
  refine G_meet (fun a w' => ∃ (o2163 : Int), out2160 = .inl o2163 ∧ Mem [] w w' [] ∧ Sat Try.f26.ntmps [(1, .int .i64 o2163)] a) ?_ ?_
  · refine G_block ?_
    refine G_while (σ := Int × Int) (ρ := (Int) ⊕ (Int)) (fun s2153 a w' => Mem [] w w' [] ∧ Sat Try.f26.ntmps [(0, .slice p2143 x2141.length c2144), (1, .int .i64 s2153.1), (5, .int .i64 s2153.2)] a) hw2161 (fun a ha => ⟨M0.pick [] (by kernel_rfl), ha.sub (by kernel_rfl)⟩) ?_
    clear hm
    intro s2153 x2154 hm hout2155 a2156 w2157 ⟨M2158, hS2159⟩
    refine G_use hS2159 ?_
    refine G_seq ?_
    refine G_seq ?_
    refine G_region ?_
    refine W_run 4 [(0, .slice p2143 x2141.length c2144), (1, .int .i64 s2153.1), (5, .int .i64 s2153.2), (9, .bool (decide (s2153.2 < (x2141.length : Int))))] w2157 (by kernel_rfl) ?_
    refine W_nil ?_
    refine N_then ?_
    rcases gx_bif hm with ⟨hc2164, hm⟩ | ⟨hc2164, hm⟩
    · refine G_cond_t (b := (decide (s2153.2 < (x2141.length : Int)))) hc2164 (by kernel_rfl) ?_
      refine G_skip ?_
      refine N_then ?_
      refine G_seq ?_
      refine G_block ?_
      refine G_seq ?_
      refine G_seq ?_
      refine G_region ?_
      refine W_run 2 [(0, .slice p2143 x2141.length c2144), (1, .int .i64 s2153.1), (5, .int .i64 s2153.2), (12, .slice p2143 x2141.length c2144), (13, .int .i64 s2153.2)] w2157 (by kernel_rfl) ?_
      obtain ⟨y2165, hy2165, hm⟩ := gx_bind hm
      refine W_val (elemP p2143 (s2153.2.toNat * 1)) w2157 (by kernel_rfl) (E_index (E := encI) _ _ _ x2141.length c2144 .i64 s2153.2 1 (y := y2165) rfl (by kernel_rfl) (by kernel_rfl) (by kernel_rfl) (h2145.mem0 M2158) rfl hy2165) ?_
      refine W_val (.int .i64 y2165) w2157 (by kernel_rfl) (E_loadE (E := encI) _ _ false 1 s2153.2 0 (s2153.2.toNat * 1) y2165 (.int .i64 y2165) rfl (by kernel_rfl) (by kernel_rfl) (by kernel_rfl) (h2145.mem0 M2158) hy2165 rfl) ?_
      refine W_run 2 [(0, .slice p2143 x2141.length c2144), (1, .int .i64 s2153.1), (5, .int .i64 s2153.2), (17, .bool (y2165 != s2153.1))] w2157 (by kernel_rfl) ?_
      refine W_nil ?_
      refine N_then ?_
      rcases gx_bif hm with ⟨hc2166, hm⟩ | ⟨hc2166, hm⟩
      · refine G_cond_t (b := (y2165 != s2153.1)) hc2166 (by kernel_rfl) ?_
        refine G_seq ?_
        refine G_region ?_
        refine W_run 1 [(4, .int .i64 (-1))] w2157 (by kernel_rfl) ?_
        refine W_nil ?_
        refine N_then ?_
        refine G_ret ?_
        refine N_then_ret ?_
        refine N_block_ret ?_
        refine N_then_ret ?_
        refine N_then_ret ?_
        obtain rfl := Option.some.inj hm
        obtain rfl := hout2155 _ rfl
        have hm := hmo2162; simp only [Sum.elim_inr] at hm
        refine N_block_ret ?_
        refine N_meet_ret ?_
        refine N_then_ret ?_
        obtain rfl := Option.some.inj hm
        refine N_ret [.int .i64 (-1)] (RVs_cons (RV_tmp (by kernel_rfl)) RVs_nil) ?_
        exact ⟨rfl, M2158.pick [] (by kernel_rfl)⟩
      · refine G_cond_f (b := (y2165 != s2153.1)) hc2166 (by kernel_rfl) ?_
        refine G_skip ?_
        refine N_then ?_
        refine G_region ?_
        refine W_run 3 [(0, .slice p2143 x2141.length c2144), (1, .int .i64 (w64 (s2153.1 + 1))), (5, .int .i64 s2153.2)] w2157 (by kernel_rfl) ?_
        refine W_nil ?_
        refine N_block ?_
        refine N_then ?_
        refine G_region ?_
        refine W_run 3 [(0, .slice p2143 x2141.length c2144), (1, .int .i64 (w64 (s2153.1 + 1))), (5, .int .i64 (w64 (s2153.2 + 1)))] w2157 (by kernel_rfl) ?_
        refine W_nil ?_
        obtain rfl := Option.some.inj hm
        exact N_loop fun a ha => ⟨_, rfl, M2158.pick [] (by kernel_rfl), ha.sub (by kernel_rfl)⟩
    · refine G_cond_f (b := (decide (s2153.2 < (x2141.length : Int)))) hc2164 (by kernel_rfl) ?_
      refine G_exit ?_
      refine N_then_exit ?_
      refine N_then_exit ?_
      refine N_block_eq ?_
      obtain rfl := Option.some.inj hm
      obtain rfl := hout2155 _ rfl
      exact N_meet fun a ha => ⟨_, rfl, M2158.pick [] (by kernel_rfl), ha.sub (by kernel_rfl)⟩
  · intro a2167 w2168 ⟨o2163, hout_, M2169, hS2170⟩
    refine N_use hS2170 ?_
    subst hout_
    have hm := hmo2162; simp only [Sum.elim_inl] at hm
    refine N_then ?_
    refine G_seq ?_
    refine G_region ?_
    refine W_run 2 [(4, .int .i64 o2163)] w2168 (by kernel_rfl) ?_
    refine W_nil ?_
    refine N_then ?_
    refine G_ret ?_
    obtain rfl := Option.some.inj hm
    refine N_ret [.int .i64 o2163] (RVs_cons (RV_tmp (by kernel_rfl)) RVs_nil) ?_
    exact ⟨rfl, M2169.pick [] (by kernel_rfl)⟩
theorem c_l_FnExactUnitsBetween (w : World) (x1324 : List Region) (p1326 : Option Addr) (c1327 : Nat) (h1328 : rdS encRegion w x1324 p1326 c1327) (x1329 : Int) (x1330 : Int) {r : Bool} (hm : M.l_FnExactUnitsBetween x1324 x1329 x1330 = some r) :
    Calls Try.prog 5 #[.slice p1326 x1324.length c1327, .int .i64 x1329, .int .i64 x1330] w fun e w' => e = .returned (.bool r) ∧ Mem [] w w' [] := by
  unfold M.l_FnExactUnitsBetween at hm
  refine C_enter Try.func5 rfl (by kernel_rfl) ?_
  have M0 := Mem.refl [] w
  refine G_seq ?_
  refine G_region ?_
  refine W_run 1 [(0, .slice p1326 x1324.length c1327), (1, .int .i64 x1329), (2, .int .i64 x1330)] w (by kernel_rfl) ?_
  refine W_nil ?_
  refine N_then ?_
  refine G_seq ?_
  refine G_region ?_
  refine W_run 1 [(0, .slice p1326 x1324.length c1327), (1, .int .i64 x1329), (2, .int .i64 x1330), (7, .int .i64 1048576)] w (by kernel_rfl) ?_
  refine W_nil ?_
  refine N_then ?_
  refine G_seq ?_
  refine G_region ?_
  refine W_run 2 [(0, .slice p1326 x1324.length c1327), (1, .int .i64 x1329), (2, .int .i64 x1330), (7, .int .i64 1048576), (18, .slice p1326 x1324.length c1327), (19, .int .i64 1048576)] w (by kernel_rfl) ?_
  obtain ⟨r1331, hr1331, hm⟩ := gx_bind hm
  refine W_call 15 #[.slice p1326 x1324.length c1327, .int .i64 1048576] (by kernel_rfl) (by kernel_rfl) ?_
  refine (c_l_szRegionS w x1324 p1326 c1327 (h1328.mem0 M0) 1048576 hr1331).mono ?_
  rintro e_ w1332 ⟨rfl, K1333⟩
  have M1334 := M0.call0 K1333
  refine ⟨_, rfl, ?_⟩
  refine W_run 1 [(0, .slice p1326 x1324.length c1327), (1, .int .i64 x1329), (2, .int .i64 x1330), (7, .int .i64 r1331)] w1332 (by kernel_rfl) ?_
  refine W_nil ?_
  refine N_then ?_
  refine G_seq ?_
  refine G_seq ?_
  refine G_region ?_
  refine W_run 2 [(0, .slice p1326 x1324.length c1327), (1, .int .i64 x1329), (2, .int .i64 x1330), (22, .bool (decide (r1331 < 0)))] w1332 (by kernel_rfl) ?_
  refine W_nil ?_
  refine N_then ?_
  rcases gx_bif hm with ⟨hc1335, hm⟩ | ⟨hc1335, hm⟩
  · refine G_cond_t (b := (decide (r1331 < 0))) hc1335 (by kernel_rfl) ?_
    refine G_seq ?_
    refine G_region ?_
    refine W_run 1 [(6, .bool true)] w1332 (by kernel_rfl) ?_
    refine W_nil ?_
    refine N_then ?_
    refine G_ret ?_
    refine N_then_ret ?_
    obtain rfl := Option.some.inj hm
    refine N_ret [.bool true] (RVs_cons (RV_tmp (by kernel_rfl)) RVs_nil) ?_
    exact ⟨rfl, M1334.pick [] (by kernel_rfl)⟩
  · refine G_cond_f (b := (decide (r1331 < 0))) hc1335 (by kernel_rfl) ?_
    refine G_skip ?_
    refine N_then ?_
    refine G_seq ?_
    refine G_region ?_
    refine W_run 1 [(0, .slice p1326 x1324.length c1327), (1, .int .i64 x1329), (2, .int .i64 x1330), (24, .slice p1326 x1324.length c1327)] w1332 (by kernel_rfl) ?_
    obtain ⟨r1336, hr1336, hm⟩ := gx_bind hm
    refine W_call 17 #[.slice p1326 x1324.length c1327] (by kernel_rfl) (by kernel_rfl) ?_
    refine (c_l_toRegionS w1332 x1324 p1326 c1327 (h1328.mem0 M1334) hr1336).mono ?_
    rintro e_ w1342 ⟨p1338, c1339, sg1340, rfl, ho1341, K1343⟩
    have M1344 := M1334.call K1343
    refine ⟨_, rfl, ?_⟩
    refine W_run 2 [(0, .slice p1326 x1324.length c1327), (1, .int .i64 x1329), (2, .int .i64 x1330), (25, .slice p1338 r1336.length c1339), (26, .int .i64 x1329), (27, .int .i64 x1330)] w1342 (by kernel_rfl) ?_
    obtain ⟨r1615, hr1615, hm⟩ := gx_bind hm
    refine W_call 21 #[.slice p1338 r1336.length c1339, .int .i64 x1329, .int .i64 x1330] (by kernel_rfl) (by kernel_rfl) ?_
    refine (c_s_UnitsBetween w1342 r1336 p1338 c1339 (ho1341.rd M1344 0 (by kernel_rfl)) x1329 x1330 hr1615).mono ?_
    rintro e_ w1621 ⟨p1617, c1618, sg1619, rfl, ho1620, K1622⟩
    have M1623 := M1344.call K1622
    refine ⟨_, rfl, ?_⟩
    refine W_run 5 [(0, .slice p1326 x1324.length c1327), (1, .int .i64 x1329), (2, .int .i64 x1330), (8, .slice p1617 r1615.1.length c1618), (9, .bool r1615.2)] w1621 (by kernel_rfl) ?_
    refine W_nil ?_
    refine N_then ?_
    refine G_seq ?_
    refine G_region ?_
    refine W_run 1 [(0, .slice p1326 x1324.length c1327), (1, .int .i64 x1329), (2, .int .i64 x1330), (8, .slice p1617 r1615.1.length c1618), (9, .bool r1615.2), (31, .slice p1326 x1324.length c1327)] w1621 (by kernel_rfl) ?_
    obtain ⟨r1624, hr1624, hm⟩ := gx_bind hm
    refine W_call 17 #[.slice p1326 x1324.length c1327] (by kernel_rfl) (by kernel_rfl) ?_
    refine (c_l_toRegionS w1621 x1324 p1326 c1327 (h1328.mem0 M1623) hr1624).mono ?_
    rintro e_ w1630 ⟨p1626, c1627, sg1628, rfl, ho1629, K1631⟩
    have M1632 := M1623.call K1631
    refine ⟨_, rfl, ?_⟩
    refine W_run 1 [(0, .slice p1326 x1324.length c1327), (1, .int .i64 x1329), (2, .int .i64 x1330), (8, .slice p1617 r1615.1.length c1618), (9, .bool r1615.2), (10, .slice p1626 r1624.length c1627)] w1630 (by kernel_rfl) ?_
    refine W_nil ?_
    refine N_then ?_
    refine G_seq ?_
    refine G_region ?_
    refine W_run 3 [(0, .slice p1326 x1324.length c1327), (1, .int .i64 x1329), (2, .int .i64 x1330), (8, .slice p1617 r1615.1.length c1618), (9, .bool r1615.2), (10, .slice p1626 r1624.length c1627), (34, .slice p1626 r1624.length c1627), (35, .int .i64 x1329), (36, .int .i64 x1330)] w1630 (by kernel_rfl) ?_
    obtain ⟨r1877, hr1877, hm⟩ := gx_bind hm
    refine W_call 22 #[.slice p1626 r1624.length c1627, .int .i64 x1329, .int .i64 x1330] (by kernel_rfl) (by kernel_rfl) ?_
    refine (c_i_UnitsBetween w1630 r1624 p1626 c1627 (ho1629.rd M1632 2 (by kernel_rfl)) x1329 x1330 hr1877).mono ?_
    rintro e_ w1883 ⟨p1879, c1880, sg1881, rfl, ho1882, K1884⟩
    have M1885 := M1632.call K1884
    refine ⟨_, rfl, ?_⟩
    refine W_run 5 [(0, .slice p1326 x1324.length c1327), (1, .int .i64 x1329), (2, .int .i64 x1330), (8, .slice p1617 r1615.1.length c1618), (9, .bool r1615.2), (10, .slice p1626 r1624.length c1627), (11, .slice p1879 r1877.1.length c1880), (12, .bool r1877.2)] w1883 (by kernel_rfl) ?_
    refine W_nil ?_
    refine N_then ?_
    refine G_seq ?_
    refine G_seq ?_
    obtain ⟨o1935, ho1936, hm1937⟩ := gx_bind hm
    refine G_meet (fun a w' => Mem [] w w' [sg1619, sg1628, sg1881] ∧ Sat Try.f5.ntmps [(0, .slice p1326 x1324.length c1327), (1, .int .i64 x1329), (2, .int .i64 x1330), (8, .slice p1617 r1615.1.length c1618), (9, .bool r1615.2), (10, .slice p1626 r1624.length c1627), (11, .slice p1879 r1877.1.length c1880), (12, .bool r1877.2), (48, .bool o1935)] a) ?_ ?_
    · have hm := ho1936
      refine G_region ?_
      refine W_run 2 [(0, .slice p1326 x1324.length c1327), (1, .int .i64 x1329), (2, .int .i64 x1330), (8, .slice p1617 r1615.1.length c1618), (9, .bool r1615.2), (10, .slice p1626 r1624.length c1627), (11, .slice p1879 r1877.1.length c1880), (12, .bool r1877.2), (40, .slice p1879 r1877.1.length c1880), (41, .slice p1617 r1615.1.length c1618)] w1883 (by kernel_rfl) ?_
      obtain ⟨r1938, hr1938, hm⟩ := gx_bind hm
      refine W_call 23 #[.slice p1879 r1877.1.length c1880, .slice p1617 r1615.1.length c1618] (by kernel_rfl) (by kernel_rfl) ?_
      refine (c_l_eqIntS w1883 r1877.1 p1879 c1880 (ho1882.rd M1885 3 (by kernel_rfl)) r1615.1 p1617 c1618 (ho1620.rd M1885 1 (by kernel_rfl)) hr1938).mono ?_
      rintro e_ w1939 ⟨rfl, K1940⟩
      have M1941 := M1885.call0 K1940
      refine ⟨_, rfl, ?_⟩
      refine W_run 2 [(0, .slice p1326 x1324.length c1327), (1, .int .i64 x1329), (2, .int .i64 x1330), (8, .slice p1617 r1615.1.length c1618), (9, .bool r1615.2), (10, .slice p1626 r1624.length c1627), (11, .slice p1879 r1877.1.length c1880), (12, .bool r1877.2), (44, .bool (!r1938))] w1939 (by kernel_rfl) ?_
      rcases gx_bif hm with ⟨hc1942, hm⟩ | ⟨hc1942, hm⟩
      · refine W_known 44 true (by kernel_rfl) hc1942 ?_
        refine W_run 4 [(0, .slice p1326 x1324.length c1327), (1, .int .i64 x1329), (2, .int .i64 x1330), (8, .slice p1617 r1615.1.length c1618), (9, .bool r1615.2), (10, .slice p1626 r1624.length c1627), (11, .slice p1879 r1877.1.length c1880), (12, .bool r1877.2), (48, .bool true)] w1939 (by kernel_rfl) ?_
        refine W_nil ?_
        obtain rfl := Option.some.inj hm
        exact N_meet fun a ha => ⟨M1941.pick [1, 2, 3] (by kernel_rfl), ha.sub (by kernel_rfl)⟩
      · refine W_known 44 false (by kernel_rfl) hc1942 ?_
        refine W_run 4 [(0, .slice p1326 x1324.length c1327), (1, .int .i64 x1329), (2, .int .i64 x1330), (8, .slice p1617 r1615.1.length c1618), (9, .bool r1615.2), (10, .slice p1626 r1624.length c1627), (11, .slice p1879 r1877.1.length c1880), (12, .bool r1877.2), (48, .bool (!(r1877.2 == r1615.2)))] w1939 (by kernel_rfl) ?_
        refine W_nil ?_
        obtain rfl := Option.some.inj hm
        exact N_meet fun a ha => ⟨M1941.pick [1, 2, 3] (by kernel_rfl), ha.sub (by kernel_rfl)⟩
    · intro a1945 w1943 ⟨M1944, hS1946⟩
      refine N_use hS1946 ?_
      have hm := hm1937
      refine N_then ?_
      rcases gx_bif hm with ⟨hc1947, hm⟩ | ⟨hc1947, hm⟩
      · refine G_cond_t (b := o1935) hc1947 (by kernel_rfl) ?_
        refine G_seq ?_
        refine G_region ?_
        refine W_run 1 [(6, .bool false)] w1943 (by kernel_rfl) ?_
        refine W_nil ?_
        refine N_then ?_
        refine G_ret ?_
        refine N_then_ret ?_
        obtain rfl := Option.some.inj hm
        refine N_ret [.bool false] (RVs_cons (RV_tmp (by kernel_rfl)) RVs_nil) ?_
        exact ⟨rfl, M1944.pick [] (by kernel_rfl)⟩
      · refine G_cond_f (b := o1935) hc1947 (by kernel_rfl) ?_
        refine G_skip ?_
        refine N_then ?_
        refine G_seq ?_
        refine G_seq ?_
        refine G_region ?_
        refine W_run 2 [(0, .slice p1326 x1324.length c1327), (1, .int .i64 x1329), (2, .int .i64 x1330), (8, .slice p1617 r1615.1.length c1618), (9, .bool r1615.2), (10, .slice p1626 r1624.length c1627), (11, .slice p1879 r1877.1.length c1880), (12, .bool r1877.2), (49, .slice p1626 r1624.length c1627), (50, .slice p1326 x1324.length c1327)] w1943 (by kernel_rfl) ?_
        obtain ⟨r1948, hr1948, hm⟩ := gx_bind hm
        refine W_call 17 #[.slice p1326 x1324.length c1327] (by kernel_rfl) (by kernel_rfl) ?_
        refine (c_l_toRegionS w1943 x1324 p1326 c1327 (h1328.mem0 M1944) hr1948).mono ?_
        rintro e_ w1954 ⟨p1950, c1951, sg1952, rfl, ho1953, K1955⟩
        have M1956 := M1944.call K1955
        refine ⟨_, rfl, ?_⟩
        obtain ⟨r1957, hr1957, hm⟩ := gx_bind hm
        refine W_call 20 #[.slice p1626 r1624.length c1627, .slice p1950 r1948.length c1951] (by kernel_rfl) (by kernel_rfl) ?_
        refine (c_l_eqRegionS w1954 r1624 p1626 c1627 (ho1629.rd M1956 1 (by kernel_rfl)) r1948 p1950 c1951 (ho1953.rd M1956 3 (by kernel_rfl)) hr1957).mono ?_
        rintro e_ w1958 ⟨rfl, K1959⟩
        have M1960 := M1956.call0 K1959
        refine ⟨_, rfl, ?_⟩
        refine W_run 1 [(0, .slice p1326 x1324.length c1327), (1, .int .i64 x1329), (2, .int .i64 x1330), (8, .slice p1617 r1615.1.length c1618), (9, .bool r1615.2), (10, .slice p1626 r1624.length c1627), (11, .slice p1879 r1877.1.length c1880), (12, .bool r1877.2), (53, .bool (!r1957))] w1958 (by kernel_rfl) ?_
        refine W_nil ?_
        refine N_then ?_
        rcases gx_bif hm with ⟨hc1961, hm⟩ | ⟨hc1961, hm⟩
        · refine G_cond_t (b := (!r1957)) hc1961 (by kernel_rfl) ?_
          refine G_seq ?_
          refine G_region ?_
          refine W_run 1 [(6, .bool false)] w1958 (by kernel_rfl) ?_
          refine W_nil ?_
          refine N_then ?_
          refine G_ret ?_
          refine N_then_ret ?_
          obtain rfl := Option.some.inj hm
          refine N_ret [.bool false] (RVs_cons (RV_tmp (by kernel_rfl)) RVs_nil) ?_
          exact ⟨rfl, M1960.pick [] (by kernel_rfl)⟩
        · refine G_cond_f (b := (!r1957)) hc1961 (by kernel_rfl) ?_
          refine G_skip ?_
          refine N_then ?_
          refine G_seq ?_
          refine G_region ?_
          refine W_run 1 [(0, .slice p1326 x1324.length c1327), (1, .int .i64 x1329), (2, .int .i64 x1330), (8, .slice p1617 r1615.1.length c1618), (9, .bool r1615.2), (10, .slice p1626 r1624.length c1627), (11, .slice p1879 r1877.1.length c1880), (12, .bool r1877.2), (13, .int .i64 1)] w1958 (by kernel_rfl) ?_
          refine W_nil ?_
          refine N_then ?_
          refine G_seq ?_
          refine G_region ?_
          refine W_run 2 [(0, .slice p1326 x1324.length c1327), (1, .int .i64 x1329), (2, .int .i64 x1330), (8, .slice p1617 r1615.1.length c1618), (9, .bool r1615.2), (11, .slice p1879 r1877.1.length c1880), (12, .bool r1877.2), (13, .int .i64 1), (54, .slice p1626 r1624.length c1627), (55, .int .i64 1)] w1958 (by kernel_rfl) ?_
          obtain ⟨r2057, hr2057, hm⟩ := gx_bind hm
          refine W_call 24 #[.slice p1626 r1624.length c1627, .int .i64 1] (by kernel_rfl) (by kernel_rfl) ?_
          refine (c_l_markRegionS w1958 r1624 p1626 c1627 sg1628 ho1629 1 (M1960.hasPick [1]) (M1960.nodupPick [1] (by kernel_rfl)) hr2057).mono ?_
          rintro e_ w2061 ⟨sg2058, rfl, ho2059, hl2060, K2062⟩
          have M2063 := M1960.callF' [1] [0, 2, 3] (by kernel_rfl) K2062
          refine ⟨_, rfl, ?_⟩
          refine W_conv 54 (.slice p1626 r1624.length c1627) (.slice p1626 r2057.2.length c1627) (by kernel_rfl) (by first | rw [hl2060] | rw [hl2060]) ?_
          refine W_run 1 [(0, .slice p1326 x1324.length c1327), (1, .int .i64 x1329), (2, .int .i64 x1330), (8, .slice p1617 r1615.1.length c1618), (9, .bool r1615.2), (11, .slice p1879 r1877.1.length c1880), (12, .bool r1877.2), (13, .int .i64 r2057.1)] w2061 (by kernel_rfl) ?_
          refine W_nil ?_
          refine N_then ?_
          refine G_seq ?_
          refine G_seq ?_
          obtain ⟨o2070, ho2071, hm2072⟩ := gx_bind hm
          refine G_meet (fun a w' => Mem [] w w' [sg1619, sg1881] ∧ Sat Try.f5.ntmps [(0, .slice p1326 x1324.length c1327), (1, .int .i64 x1329), (2, .int .i64 x1330), (8, .slice p1617 r1615.1.length c1618), (9, .bool r1615.2), (11, .slice p1879 r1877.1.length c1880), (69, .bool o2070)] a) ?_ ?_
          · have hm := ho2071
            refine G_region ?_
            refine W_run 3 [(0, .slice p1326 x1324.length c1327), (1, .int .i64 x1329), (2, .int .i64 x1330), (8, .slice p1617 r1615.1.length c1618), (9, .bool r1615.2), (11, .slice p1879 r1877.1.length c1880), (12, .bool r1877.2), (59, .bool (decide (r2057.1 < 0)))] w2061 (by kernel_rfl) ?_
            rcases gx_bif hm with ⟨hc2073, hm⟩ | ⟨hc2073, hm⟩
            · refine W_known 59 true (by kernel_rfl) hc2073 ?_
              refine W_run 10 [(0, .slice p1326 x1324.length c1327), (1, .int .i64 x1329), (2, .int .i64 x1330), (8, .slice p1617 r1615.1.length c1618), (9, .bool r1615.2), (11, .slice p1879 r1877.1.length c1880), (69, .bool true)] w2061 (by kernel_rfl) ?_
              refine W_nil ?_
              obtain rfl := Option.some.inj hm
              exact N_meet fun a ha => ⟨M2063.pick [0, 1] (by kernel_rfl), ha.sub (by kernel_rfl)⟩
            · refine W_known 59 false (by kernel_rfl) hc2073 ?_
              refine W_run 2 [(0, .slice p1326 x1324.length c1327), (1, .int .i64 x1329), (2, .int .i64 x1330), (8, .slice p1617 r1615.1.length c1618), (9, .bool r1615.2), (11, .slice p1879 r1877.1.length c1880), (12, .bool r1877.2), (59, .bool false), (60, .slice p1879 r1877.1.length c1880), (61, .slice p1617 r1615.1.length c1618)] w2061 (by kernel_rfl) ?_
              obtain ⟨r2074, hr2074, hm⟩ := gx_bind hm
              refine W_call 23 #[.slice p1879 r1877.1.length c1880, .slice p1617 r1615.1.length c1618] (by kernel_rfl) (by kernel_rfl) ?_
              refine (c_l_eqIntS w2061 r1877.1 p1879 c1880 (ho1882.rd M2063 1 (by kernel_rfl)) r1615.1 p1617 c1618 (ho1620.rd M2063 0 (by kernel_rfl)) hr2074).mono ?_
              rintro e_ w2075 ⟨rfl, K2076⟩
              have M2077 := M2063.call0 K2076
              refine ⟨_, rfl, ?_⟩
              refine W_run 3 [(0, .slice p1326 x1324.length c1327), (1, .int .i64 x1329), (2, .int .i64 x1330), (8, .slice p1617 r1615.1.length c1618), (9, .bool r1615.2), (11, .slice p1879 r1877.1.length c1880), (12, .bool r1877.2), (65, .bool (!r2074))] w2075 (by kernel_rfl) ?_
              rcases gx_bif hm with ⟨hc2078, hm⟩ | ⟨hc2078, hm⟩
              · refine W_known 65 true (by kernel_rfl) hc2078 ?_
                refine W_run 4 [(0, .slice p1326 x1324.length c1327), (1, .int .i64 x1329), (2, .int .i64 x1330), (8, .slice p1617 r1615.1.length c1618), (9, .bool r1615.2), (11, .slice p1879 r1877.1.length c1880), (69, .bool true)] w2075 (by kernel_rfl) ?_
                refine W_nil ?_
                obtain rfl := Option.some.inj hm
                exact N_meet fun a ha => ⟨M2077.pick [0, 1] (by kernel_rfl), ha.sub (by kernel_rfl)⟩
              · refine W_known 65 false (by kernel_rfl) hc2078 ?_
                refine W_run 4 [(0, .slice p1326 x1324.length c1327), (1, .int .i64 x1329), (2, .int .i64 x1330), (8, .slice p1617 r1615.1.length c1618), (9, .bool r1615.2), (11, .slice p1879 r1877.1.length c1880), (69, .bool (!(r1877.2 == r1615.2)))] w2075 (by kernel_rfl) ?_
                refine W_nil ?_
                obtain rfl := Option.some.inj hm
                exact N_meet fun a ha => ⟨M2077.pick [0, 1] (by kernel_rfl), ha.sub (by kernel_rfl)⟩
          · intro a2081 w2079 ⟨M2080, hS2082⟩
            refine N_use hS2082 ?_
            have hm := hm2072
            refine N_then ?_
            rcases gx_bif hm with ⟨hc2083, hm⟩ | ⟨hc2083, hm⟩
            · refine G_cond_t (b := o2070) hc2083 (by kernel_rfl) ?_
              refine G_seq ?_
              refine G_region ?_
              refine W_run 1 [(6, .bool false)] w2079 (by kernel_rfl) ?_
              refine W_nil ?_
              refine N_then ?_
              refine G_ret ?_
              refine N_then_ret ?_
              obtain rfl := Option.some.inj hm
              refine N_ret [.bool false] (RVs_cons (RV_tmp (by kernel_rfl)) RVs_nil) ?_
              exact ⟨rfl, M2080.pick [] (by kernel_rfl)⟩
            · refine G_cond_f (b := o2070) hc2083 (by kernel_rfl) ?_
              refine G_skip ?_
              refine N_then ?_
              refine G_seq ?_
              refine G_region ?_
              refine W_run 1 [(0, .slice p1326 x1324.length c1327), (1, .int .i64 x1329), (2, .int .i64 x1330), (8, .slice p1617 r1615.1.length c1618), (9, .bool r1615.2), (11, .slice p1879 r1877.1.length c1880), (14, .int .i64 1)] w2079 (by kernel_rfl) ?_
              refine W_nil ?_
              refine N_then ?_
              refine G_seq ?_
              refine G_region ?_
              refine W_run 2 [(0, .slice p1326 x1324.length c1327), (1, .int .i64 x1329), (2, .int .i64 x1330), (8, .slice p1617 r1615.1.length c1618), (9, .bool r1615.2), (11, .slice p1879 r1877.1.length c1880), (14, .int .i64 1), (70, .slice p1879 r1877.1.length c1880), (71, .int .i64 1)] w2079 (by kernel_rfl) ?_
              obtain ⟨r2134, hr2134, hm⟩ := gx_bind hm
              refine W_call 25 #[.slice p1879 r1877.1.length c1880, .int .i64 1] (by kernel_rfl) (by kernel_rfl) ?_
              refine (c_l_markIntS w2079 r1877.1 p1879 c1880 sg1881 ho1882 1 (M2080.hasPick [1]) (M2080.nodupPick [1] (by kernel_rfl)) hr2134).mono ?_
              rintro e_ w2138 ⟨sg2135, rfl, ho2136, hl2137, K2139⟩
              have M2140 := M2080.callF' [1] [0] (by kernel_rfl) K2139
              refine ⟨_, rfl, ?_⟩
              refine W_conv 11 (.slice p1879 r1877.1.length c1880) (.slice p1879 r2134.2.length c1880) (by kernel_rfl) (by first | rw [hl2137] | rw [hl2137]) ?_
              refine W_conv 70 (.slice p1879 r1877.1.length c1880) (.slice p1879 r2134.2.length c1880) (by kernel_rfl) (by first | rw [hl2137] | rw [hl2137]) ?_
              refine W_run 1 [(0, .slice p1326 x1324.length c1327), (1, .int .i64 x1329), (2, .int .i64 x1330), (8, .slice p1617 r1615.1.length c1618), (9, .bool r1615.2), (11, .slice p1879 r2134.2.length c1880), (14, .int .i64 r2134.1)] w2138 (by kernel_rfl) ?_
              refine W_nil ?_
              refine N_then ?_
              refine G_seq ?_
              refine G_region ?_
              refine W_run 1 [(0, .slice p1326 x1324.length c1327), (1, .int .i64 x1329), (2, .int .i64 x1330), (8, .slice p1617 r1615.1.length c1618), (9, .bool r1615.2), (11, .slice p1879 r2134.2.length c1880), (14, .int .i64 r2134.1), (15, .int .i64 1)] w2138 (by kernel_rfl) ?_
              refine W_nil ?_
              refine N_then ?_
              refine G_seq ?_
              refine G_region ?_
              refine W_run 2 [(0, .slice p1326 x1324.length c1327), (1, .int .i64 x1329), (2, .int .i64 x1330), (8, .slice p1617 r1615.1.length c1618), (9, .bool r1615.2), (11, .slice p1879 r2134.2.length c1880), (14, .int .i64 r2134.1), (15, .int .i64 1), (73, .slice p1879 r2134.2.length c1880), (74, .int .i64 1)] w2138 (by kernel_rfl) ?_
              obtain ⟨r2171, hr2171, hm⟩ := gx_bind hm
              refine W_call 26 #[.slice p1879 r2134.2.length c1880, .int .i64 1] (by kernel_rfl) (by kernel_rfl) ?_
              refine (c_l_heldIntS w2138 r2134.2 p1879 c1880 (ho2136.rd M2140 1 (by kernel_rfl)) 1 hr2171).mono ?_
              rintro e_ w2172 ⟨rfl, K2173⟩
              have M2174 := M2140.call0 K2173
              refine ⟨_, rfl, ?_⟩
              refine W_run 1 [(0, .slice p1326 x1324.length c1327), (1, .int .i64 x1329), (2, .int .i64 x1330), (8, .slice p1617 r1615.1.length c1618), (9, .bool r1615.2), (11, .slice p1879 r2134.2.length c1880), (14, .int .i64 r2134.1), (15, .int .i64 r2171)] w2172 (by kernel_rfl) ?_
              refine W_nil ?_
              refine N_then ?_
              refine G_seq ?_
              refine G_seq ?_
              refine G_region ?_
              refine W_run 2 [(0, .slice p1326 x1324.length c1327), (1, .int .i64 x1329), (2, .int .i64 x1330), (8, .slice p1617 r1615.1.length c1618), (9, .bool r1615.2), (11, .slice p1879 r2134.2.length c1880), (14, .int .i64 r2134.1), (15, .int .i64 r2171), (77, .bool (decide (r2171 < 0)))] w2172 (by kernel_rfl) ?_
              refine W_nil ?_
              refine N_then ?_
              rcases gx_bif hm with ⟨hc2175, hm⟩ | ⟨hc2175, hm⟩
              · refine G_cond_t (b := (decide (r2171 < 0))) hc2175 (by kernel_rfl) ?_
                refine G_seq ?_
                refine G_region ?_
                refine W_run 1 [(6, .bool false)] w2172 (by kernel_rfl) ?_
                refine W_nil ?_
                refine N_then ?_
                refine G_ret ?_
                refine N_then_ret ?_
                obtain rfl := Option.some.inj hm
                refine N_ret [.bool false] (RVs_cons (RV_tmp (by kernel_rfl)) RVs_nil) ?_
                exact ⟨rfl, M2174.pick [] (by kernel_rfl)⟩
              · refine G_cond_f (b := (decide (r2171 < 0))) hc2175 (by kernel_rfl) ?_
                refine G_skip ?_
                refine N_then ?_
                refine G_seq ?_
                refine G_seq ?_
                refine G_region ?_
                refine W_run 3 [(0, .slice p1326 x1324.length c1327), (1, .int .i64 x1329), (2, .int .i64 x1330), (8, .slice p1617 r1615.1.length c1618), (9, .bool r1615.2), (11, .slice p1879 r2134.2.length c1880), (14, .int .i64 r2134.1), (80, .bool (r2171 != r2134.1))] w2172 (by kernel_rfl) ?_
                refine W_nil ?_
                refine N_then ?_
                rcases gx_bif hm with ⟨hc2176, hm⟩ | ⟨hc2176, hm⟩
                · refine G_cond_t (b := (r2171 != r2134.1)) hc2176 (by kernel_rfl) ?_
                  refine G_seq ?_
                  refine G_region ?_
                  refine W_run 1 [(6, .bool false)] w2172 (by kernel_rfl) ?_
                  refine W_nil ?_
                  refine N_then ?_
                  refine G_ret ?_
                  refine N_then_ret ?_
                  obtain rfl := Option.some.inj hm
                  refine N_ret [.bool false] (RVs_cons (RV_tmp (by kernel_rfl)) RVs_nil) ?_
                  exact ⟨rfl, M2174.pick [] (by kernel_rfl)⟩
                · refine G_cond_f (b := (r2171 != r2134.1)) hc2176 (by kernel_rfl) ?_
                  refine G_skip ?_
                  refine N_then ?_
                  refine G_seq ?_
                  refine G_region ?_
                  refine W_run 1 [(1, .int .i64 x1329), (2, .int .i64 x1330), (8, .slice p1617 r1615.1.length c1618), (9, .bool r1615.2), (11, .slice p1879 r2134.2.length c1880), (14, .int .i64 r2134.1), (82, .slice p1326 x1324.length c1327)] w2172 (by kernel_rfl) ?_
                  obtain ⟨r2177, hr2177, hm⟩ := gx_bind hm
                  refine W_call 17 #[.slice p1326 x1324.length c1327] (by kernel_rfl) (by kernel_rfl) ?_
                  refine (c_l_toRegionS w2172 x1324 p1326 c1327 (h1328.mem0 M2174) hr2177).mono ?_
                  rintro e_ w2183 ⟨p2179, c2180, sg2181, rfl, ho2182, K2184⟩
                  have M2185 := M2174.call K2184
                  refine ⟨_, rfl, ?_⟩
                  refine W_run 2 [(8, .slice p1617 r1615.1.length c1618), (9, .bool r1615.2), (11, .slice p1879 r2134.2.length c1880), (14, .int .i64 r2134.1), (83, .slice p2179 r2177.length c2180), (84, .int .i64 x1329), (85, .int .i64 x1330)] w2183 (by kernel_rfl) ?_
                  obtain ⟨r2186, hr2186, hm⟩ := gx_bind hm
                  refine W_call 22 #[.slice p2179 r2177.length c2180, .int .i64 x1329, .int .i64 x1330] (by kernel_rfl) (by kernel_rfl) ?_
                  refine (c_i_UnitsBetween w2183 r2177 p2179 c2180 (ho2182.rd M2185 2 (by kernel_rfl)) x1329 x1330 hr2186).mono ?_
                  rintro e_ w2192 ⟨p2188, c2189, sg2190, rfl, ho2191, K2193⟩
                  have M2194 := M2185.call K2193
                  refine ⟨_, rfl, ?_⟩
                  refine W_run 5 [(8, .slice p1617 r1615.1.length c1618), (9, .bool r1615.2), (11, .slice p1879 r2134.2.length c1880), (14, .int .i64 r2134.1), (16, .slice p2188 r2186.1.length c2189), (17, .bool r2186.2)] w2192 (by kernel_rfl) ?_
                  refine W_nil ?_
                  refine N_then ?_
                  refine G_seq ?_
                  refine G_seq ?_
                  obtain ⟨o2200, ho2201, hm2202⟩ := gx_bind hm
                  refine G_meet (fun a w' => Mem [] w w' [sg2135] ∧ Sat Try.f5.ntmps [(11, .slice p1879 r2134.2.length c1880), (14, .int .i64 r2134.1), (97, .bool o2200)] a) ?_ ?_
                  · have hm := ho2201
                    refine G_region ?_
                    refine W_run 2 [(9, .bool r1615.2), (11, .slice p1879 r2134.2.length c1880), (14, .int .i64 r2134.1), (17, .bool r2186.2), (89, .slice p2188 r2186.1.length c2189), (90, .slice p1617 r1615.1.length c1618)] w2192 (by kernel_rfl) ?_
                    obtain ⟨r2203, hr2203, hm⟩ := gx_bind hm
                    refine W_call 23 #[.slice p2188 r2186.1.length c2189, .slice p1617 r1615.1.length c1618] (by kernel_rfl) (by kernel_rfl) ?_
                    refine (c_l_eqIntS w2192 r2186.1 p2188 c2189 (ho2191.rd M2194 3 (by kernel_rfl)) r1615.1 p1617 c1618 (ho1620.rd M2194 0 (by kernel_rfl)) hr2203).mono ?_
                    rintro e_ w2204 ⟨rfl, K2205⟩
                    have M2206 := M2194.call0 K2205
                    refine ⟨_, rfl, ?_⟩
                    refine W_run 2 [(9, .bool r1615.2), (11, .slice p1879 r2134.2.length c1880), (14, .int .i64 r2134.1), (17, .bool r2186.2), (93, .bool (!r2203))] w2204 (by kernel_rfl) ?_
                    rcases gx_bif hm with ⟨hc2207, hm⟩ | ⟨hc2207, hm⟩
                    · refine W_known 93 true (by kernel_rfl) hc2207 ?_
                      refine W_run 4 [(11, .slice p1879 r2134.2.length c1880), (14, .int .i64 r2134.1), (97, .bool true)] w2204 (by kernel_rfl) ?_
                      refine W_nil ?_
                      obtain rfl := Option.some.inj hm
                      exact N_meet fun a ha => ⟨M2206.pick [1] (by kernel_rfl), ha.sub (by kernel_rfl)⟩
                    · refine W_known 93 false (by kernel_rfl) hc2207 ?_
                      refine W_run 4 [(11, .slice p1879 r2134.2.length c1880), (14, .int .i64 r2134.1), (97, .bool (!(r2186.2 == r1615.2)))] w2204 (by kernel_rfl) ?_
                      refine W_nil ?_
                      obtain rfl := Option.some.inj hm
                      exact N_meet fun a ha => ⟨M2206.pick [1] (by kernel_rfl), ha.sub (by kernel_rfl)⟩
                  · intro a2210 w2208 ⟨M2209, hS2211⟩
                    refine N_use hS2211 ?_
                    have hm := hm2202
                    refine N_then ?_
                    rcases gx_bif hm with ⟨hc2212, hm⟩ | ⟨hc2212, hm⟩
                    · refine G_cond_t (b := o2200) hc2212 (by kernel_rfl) ?_
                      refine G_seq ?_
                      refine G_region ?_
                      refine W_run 1 [(6, .bool false)] w2208 (by kernel_rfl) ?_
                      refine W_nil ?_
                      refine N_then ?_
                      refine G_ret ?_
                      refine N_then_ret ?_
                      obtain rfl := Option.some.inj hm
                      refine N_ret [.bool false] (RVs_cons (RV_tmp (by kernel_rfl)) RVs_nil) ?_
                      exact ⟨rfl, M2209.pick [] (by kernel_rfl)⟩
                    · refine G_cond_f (b := o2200) hc2212 (by kernel_rfl) ?_
                      refine G_skip ?_
                      refine N_then ?_
                      refine G_seq ?_
                      refine G_region ?_
                      refine W_run 1 [(11, .slice p1879 r2134.2.length c1880), (14, .int .i64 r2134.1), (15, .int .i64 1)] w2208 (by kernel_rfl) ?_
                      refine W_nil ?_
                      refine N_then ?_
                      refine G_seq ?_
                      refine G_region ?_
                      refine W_run 2 [(14, .int .i64 r2134.1), (15, .int .i64 1), (98, .slice p1879 r2134.2.length c1880), (99, .int .i64 1)] w2208 (by kernel_rfl) ?_
                      obtain ⟨r2213, hr2213, hm⟩ := gx_bind hm
                      refine W_call 26 #[.slice p1879 r2134.2.length c1880, .int .i64 1] (by kernel_rfl) (by kernel_rfl) ?_
                      refine (c_l_heldIntS w2208 r2134.2 p1879 c1880 (ho2136.rd M2209 0 (by kernel_rfl)) 1 hr2213).mono ?_
                      rintro e_ w2214 ⟨rfl, K2215⟩
                      have M2216 := M2209.call0 K2215
                      refine ⟨_, rfl, ?_⟩
                      refine W_run 1 [(14, .int .i64 r2134.1), (15, .int .i64 r2213)] w2214 (by kernel_rfl) ?_
                      refine W_nil ?_
                      refine N_then ?_
                      refine G_seq ?_
                      refine G_seq ?_
                      refine G_region ?_
                      refine W_run 2 [(14, .int .i64 r2134.1), (15, .int .i64 r2213), (102, .bool (decide (r2213 < 0)))] w2214 (by kernel_rfl) ?_
                      refine W_nil ?_
                      refine N_then ?_
                      rcases gx_bif hm with ⟨hc2217, hm⟩ | ⟨hc2217, hm⟩
                      · refine G_cond_t (b := (decide (r2213 < 0))) hc2217 (by kernel_rfl) ?_
                        refine G_seq ?_
                        refine G_region ?_
                        refine W_run 1 [(6, .bool false)] w2214 (by kernel_rfl) ?_
                        refine W_nil ?_
                        refine N_then ?_
                        refine G_ret ?_
                        refine N_then_ret ?_
                        obtain rfl := Option.some.inj hm
                        refine N_ret [.bool false] (RVs_cons (RV_tmp (by kernel_rfl)) RVs_nil) ?_
                        exact ⟨rfl, M2216.pick [] (by kernel_rfl)⟩
                      · refine G_cond_f (b := (decide (r2213 < 0))) hc2217 (by kernel_rfl) ?_
                        refine G_skip ?_
                        refine N_then ?_
                        refine G_seq ?_
                        refine G_seq ?_
                        refine G_region ?_
                        refine W_run 3 [(105, .bool (r2213 != r2134.1))] w2214 (by kernel_rfl) ?_
                        refine W_nil ?_
                        refine N_then ?_
                        rcases gx_bif hm with ⟨hc2218, hm⟩ | ⟨hc2218, hm⟩
                        · refine G_cond_t (b := (r2213 != r2134.1)) hc2218 (by kernel_rfl) ?_
                          refine G_seq ?_
                          refine G_region ?_
                          refine W_run 1 [(6, .bool false)] w2214 (by kernel_rfl) ?_
                          refine W_nil ?_
                          refine N_then ?_
                          refine G_ret ?_
                          refine N_then_ret ?_
                          obtain rfl := Option.some.inj hm
                          refine N_ret [.bool false] (RVs_cons (RV_tmp (by kernel_rfl)) RVs_nil) ?_
                          exact ⟨rfl, M2216.pick [] (by kernel_rfl)⟩
                        · refine G_cond_f (b := (r2213 != r2134.1)) hc2218 (by kernel_rfl) ?_
                          refine G_skip ?_
                          refine N_then ?_
                          refine G_seq ?_
                          refine G_region ?_
                          refine W_run 1 [(6, .bool true)] w2214 (by kernel_rfl) ?_
                          refine W_nil ?_
                          refine N_then ?_
                          refine G_ret ?_
                          obtain rfl := Option.some.inj hm
                          refine N_ret [.bool true] (RVs_cons (RV_tmp (by kernel_rfl)) RVs_nil) ?_
                          exact ⟨rfl, M2216.pick [] (by kernel_rfl)⟩
theorem c_s_SplitAccess (w : World) (x2243 : List Region) (p2245 : Option Addr) (c2246 : Nat) (h2247 : rdS encRegion w x2243 p2245 c2246) (x2248 : Access) {r : (List Access) × Bool} (hm : M.s_SplitAccess x2243 x2248 = some r) :
    Calls Try.prog 27 #[.slice p2245 x2243.length c2246, .agg #[.int .i64 x2248.Address, .int .i64 x2248.Width, .bool x2248.Store]] w fun e w' => ∃ (p2250 : Option Addr) (c2251 : Nat) (sg2252 : Seg), e = .returned (.tuple #[.slice p2250 r.1.length c2251, .bool r.2]) ∧ ownS encAccess r.1 p2250 c2251 sg2252 ∧ Mem [] w w' [sg2252] := by
  unfold M.s_SplitAccess at hm
  refine C_enter Try.func27 rfl (by kernel_rfl) ?_
  have M0 := Mem.refl [] w
  refine G_seq ?_
  refine G_region ?_
  refine W_new (fun b => .pointer (some ⟨b, 0, none⟩)) (.cells ⟨[.int .i64 x2248.Address, .int .i64 x2248.Width, .bool x2248.Store]⟩ 36 (0, 0)) M0 rfl (by kernel_rfl) (by kernel_rfl) ?_
  intro b2254 w2255 M2256
  refine W_run 2 [(0, .slice p2245 x2243.length c2246), (3, .pointer (some ⟨b2254, 0, none⟩))] w2255 (by kernel_rfl) ?_
  refine W_nil ?_
  refine N_then ?_
  refine G_seq ?_
  refine G_region ?_
  refine W_lit (E := encAccess) ([] : List Access) 0 [] 36 M2256 (by kernel_rfl) (by kernel_rfl) (by kernel_rfl) (by kernel_rfl) (by kernel_rfl) ?_
  intro p2258 c2259 sg2260 w2261 ho2262 M2263
  refine W_run 1 [(0, .slice p2245 x2243.length c2246), (3, .pointer (some ⟨b2254, 0, none⟩)), (6, .slice p2258 ([] : List Access).length c2259)] w2261 (by kernel_rfl) ?_
  refine W_nil ?_
  refine N_then ?_
  refine G_seq ?_
  refine G_seq ?_
  obtain ⟨o2281, ho2282, hm2283⟩ := gx_bind hm
  refine G_meet (fun a w' => Mem [] w w' [[(b2254, .cells ⟨[.int .i64 x2248.Address, .int .i64 x2248.Width, .bool x2248.Store]⟩ 36 (0, 0))], sg2260] ∧ Sat Try.f27.ntmps [(0, .slice p2245 x2243.length c2246), (3, .pointer (some ⟨b2254, 0, none⟩)), (6, .slice p2258 ([] : List Access).length c2259), (33, .bool o2281)] a) ?_ ?_
  · have hm := ho2282
    refine G_region ?_
    refine W_run 1 [(0, .slice p2245 x2243.length c2246), (3, .pointer (some ⟨b2254, 0, none⟩)), (6, .slice p2258 ([] : List Access).length c2259), (11, .slice p2245 x2243.length c2246)] w2261 (by kernel_rfl) ?_
    obtain ⟨r2284, hr2284, hm⟩ := gx_bind hm
    refine W_call 60 #[.slice p2245 x2243.length c2246] (by kernel_rfl) (by kernel_rfl) ?_
    refine (c_s_l17Good w2261 x2243 p2245 c2246 (h2247.mem0 M2263) hr2284).mono ?_
    rintro e_ w2285 ⟨rfl, K2286⟩
    have M2287 := M2263.call0 K2286
    refine ⟨_, rfl, ?_⟩
    refine W_run 2 [(0, .slice p2245 x2243.length c2246), (3, .pointer (some ⟨b2254, 0, none⟩)), (6, .slice p2258 ([] : List Access).length c2259), (14, .bool (!r2284))] w2285 (by kernel_rfl) ?_
    rcases gx_bif hm with ⟨hc2288, hm⟩ | ⟨hc2288, hm⟩
    · refine W_known 14 true (by kernel_rfl) hc2288 ?_
      refine W_run 19 [(0, .slice p2245 x2243.length c2246), (3, .pointer (some ⟨b2254, 0, none⟩)), (6, .slice p2258 ([] : List Access).length c2259), (33, .bool true)] w2285 (by kernel_rfl) ?_
      refine W_nil ?_
      obtain rfl := Option.some.inj hm
      exact N_meet fun a ha => ⟨M2287.pick [0, 1] (by kernel_rfl), ha.sub (by kernel_rfl)⟩
    · refine W_known 14 false (by kernel_rfl) hc2288 ?_
      refine W_val (.agg #[.int .i64 x2248.Address, .int .i64 x2248.Width, .bool x2248.Store]) w2285 (by kernel_rfl) (E_load (e := 36) (fr := (0, 0)) _ _ true 3 b2254 0 [.int .i64 x2248.Address, .int .i64 x2248.Width, .bool x2248.Store] (.agg #[.int .i64 x2248.Address, .int .i64 x2248.Width, .bool x2248.Store]) rfl (by kernel_rfl) (by kernel_rfl) (by kernel_rfl) (M2287.blk 0 (b := b2254) (o := .cells ⟨[.int .i64 x2248.Address, .int .i64 x2248.Width, .bool x2248.Store]⟩ 36 (0, 0)) (by kernel_rfl))) ?_
      obtain ⟨r2289, hr2289, hm⟩ := gx_bind hm
      refine W_call 61 #[.agg #[.int .i64 x2248.Address, .int .i64 x2248.Width, .bool x2248.Store]] (by kernel_rfl) (by kernel_rfl) ?_
      refine (c_s_l17Access w2285 x2248 hr2289).mono ?_
      rintro e_ w2290 ⟨rfl, K2291⟩
      have M2292 := M2287.call0 K2291
      refine ⟨_, rfl, ?_⟩
      refine W_run 3 [(0, .slice p2245 x2243.length c2246), (3, .pointer (some ⟨b2254, 0, none⟩)), (6, .slice p2258 ([] : List Access).length c2259), (19, .bool (!r2289))] w2290 (by kernel_rfl) ?_
      rcases gx_bif hm with ⟨hc2293, hm⟩ | ⟨hc2293, hm⟩
      · refine W_known 19 true (by kernel_rfl) hc2293 ?_
        refine W_run 14 [(0, .slice p2245 x2243.length c2246), (3, .pointer (some ⟨b2254, 0, none⟩)), (6, .slice p2258 ([] : List Access).length c2259), (33, .bool true)] w2290 (by kernel_rfl) ?_
        refine W_nil ?_
        obtain rfl := Option.some.inj hm
        exact N_meet fun a ha => ⟨M2292.pick [0, 1] (by kernel_rfl), ha.sub (by kernel_rfl)⟩
      · refine W_known 19 false (by kernel_rfl) hc2293 ?_
        refine W_run 1 [(0, .slice p2245 x2243.length c2246), (3, .pointer (some ⟨b2254, 0, none⟩)), (6, .slice p2258 ([] : List Access).length c2259), (19, .bool false), (20, .pointer (some ⟨b2254, 0, none⟩))] w2290 (by kernel_rfl) ?_
        refine W_val (.int .i64 x2248.Address) w2290 (by kernel_rfl) (E_load (e := 36) (fr := (0, 0)) _ _ false 1 b2254 0 [.int .i64 x2248.Address, .int .i64 x2248.Width, .bool x2248.Store] (.int .i64 x2248.Address) rfl (by kernel_rfl) (by kernel_rfl) (by kernel_rfl) (M2292.blk 0 (b := b2254) (o := .cells ⟨[.int .i64 x2248.Address, .int .i64 x2248.Width, .bool x2248.Store]⟩ 36 (0, 0)) (by kernel_rfl))) ?_
        refine W_run 1 [(0, .slice p2245 x2243.length c2246), (3, .pointer (some ⟨b2254, 0, none⟩)), (6, .slice p2258 ([] : List Access).length c2259), (19, .bool false), (21, .int .i64 x2248.Address), (22, .pointer (some ⟨b2254, 1, none⟩))] w2290 (by kernel_rfl) ?_
        refine W_val (.int .i64 x2248.Width) w2290 (by kernel_rfl) (E_load (e := 36) (fr := (0, 0)) _ _ false 1 b2254 1 [.int .i64 x2248.Address, .int .i64 x2248.Width, .bool x2248.Store] (.int .i64 x2248.Width) rfl (by kernel_rfl) (by kernel_rfl) (by kernel_rfl) (M2292.blk 0 (b := b2254) (o := .cells ⟨[.int .i64 x2248.Address, .int .i64 x2248.Width, .bool x2248.Store]⟩ 36 (0, 0)) (by kernel_rfl))) ?_
        obtain ⟨q2294, hq2294, hm⟩ := gx_bind hm
        refine W_val (.int .i64 q2294) w2290 (by kernel_rfl) (E_rem _ _ _ _ x2248.Address x2248.Width q2294 rfl (by kernel_rfl) (by kernel_rfl) hq2294) ?_
        refine W_run 3 [(0, .slice p2245 x2243.length c2246), (3, .pointer (some ⟨b2254, 0, none⟩)), (6, .slice p2258 ([] : List Access).length c2259), (27, .bool (q2294 != 0))] w2290 (by kernel_rfl) ?_
        rcases gx_bif hm with ⟨hc2295, hm⟩ | ⟨hc2295, hm⟩
        · refine W_known 27 true (by kernel_rfl) hc2295 ?_
          refine W_run 6 [(0, .slice p2245 x2243.length c2246), (3, .pointer (some ⟨b2254, 0, none⟩)), (6, .slice p2258 ([] : List Access).length c2259), (33, .bool true)] w2290 (by kernel_rfl) ?_
          refine W_nil ?_
          obtain rfl := Option.some.inj hm
          exact N_meet fun a ha => ⟨M2292.pick [0, 1] (by kernel_rfl), ha.sub (by kernel_rfl)⟩
        · refine W_known 27 false (by kernel_rfl) hc2295 ?_
          refine W_run 2 [(0, .slice p2245 x2243.length c2246), (3, .pointer (some ⟨b2254, 0, none⟩)), (6, .slice p2258 ([] : List Access).length c2259), (27, .bool false), (28, .slice p2245 x2243.length c2246), (29, .pointer (some ⟨b2254, 0, none⟩))] w2290 (by kernel_rfl) ?_
          refine W_val (.int .i64 x2248.Address) w2290 (by kernel_rfl) (E_load (e := 36) (fr := (0, 0)) _ _ false 1 b2254 0 [.int .i64 x2248.Address, .int .i64 x2248.Width, .bool x2248.Store] (.int .i64 x2248.Address) rfl (by kernel_rfl) (by kernel_rfl) (by kernel_rfl) (M2292.blk 0 (b := b2254) (o := .cells ⟨[.int .i64 x2248.Address, .int .i64 x2248.Width, .bool x2248.Store]⟩ 36 (0, 0)) (by kernel_rfl))) ?_
          obtain ⟨r2296, hr2296, hm⟩ := gx_bind hm
          refine W_call 62 #[.slice p2245 x2243.length c2246, .int .i64 x2248.Address] (by kernel_rfl) (by kernel_rfl) ?_
          refine (c_s_l17Find w2290 x2243 p2245 c2246 (h2247.mem0 M2292) x2248.Address hr2296).mono ?_
          rintro e_ w2297 ⟨rfl, K2298⟩
          have M2299 := M2292.call0 K2298
          refine ⟨_, rfl, ?_⟩
          refine W_run 2 [(0, .slice p2245 x2243.length c2246), (3, .pointer (some ⟨b2254, 0, none⟩)), (6, .slice p2258 ([] : List Access).length c2259), (33, .bool (decide (r2296 < 0)))] w2297 (by kernel_rfl) ?_
          refine W_nil ?_
          obtain rfl := Option.some.inj hm
          exact N_meet fun a ha => ⟨M2299.pick [0, 1] (by kernel_rfl), ha.sub (by kernel_rfl)⟩
  · intro a2302 w2300 ⟨M2301, hS2303⟩
    refine N_use hS2303 ?_
    have hm := hm2283
    refine N_then ?_
    rcases gx_bif hm with ⟨hc2304, hm⟩ | ⟨hc2304, hm⟩
    · refine G_cond_t (b := o2281) hc2304 (by kernel_rfl) ?_
      refine G_seq ?_
      refine G_region ?_
      refine W_run 3 [(4, .slice p2258 ([] : List Access).length c2259), (5, .bool false)] w2300 (by kernel_rfl) ?_
      refine W_nil ?_
      refine N_then ?_
      refine G_ret ?_
      refine N_then_ret ?_
      obtain rfl := Option.some.inj hm
      refine N_ret [.slice p2258 ([] : List Access).length c2259, .bool false] (RVs_cons (RV_tmp (by kernel_rfl)) (RVs_cons (RV_tmp (by kernel_rfl)) RVs_nil)) ?_
      exact ⟨p2258, c2259, sg2260, rfl, ho2262, M2301.pick [1] (by kernel_rfl)⟩
    · refine G_cond_f (b := o2281) hc2304 (by kernel_rfl) ?_
      refine G_skip ?_
      refine N_then ?_
      refine G_seq ?_
      refine G_region ?_
      refine W_run 3 [(3, .pointer (some ⟨b2254, 0, none⟩)), (6, .slice p2258 ([] : List Access).length c2259), (35, .slice p2245 x2243.length c2246), (36, .slice p2245 x2243.length c2246), (37, .pointer (some ⟨b2254, 0, none⟩))] w2300 (by kernel_rfl) ?_
      refine W_val (.int .i64 x2248.Address) w2300 (by kernel_rfl) (E_load (e := 36) (fr := (0, 0)) _ _ false 1 b2254 0 [.int .i64 x2248.Address, .int .i64 x2248.Width, .bool x2248.Store] (.int .i64 x2248.Address) rfl (by kernel_rfl) (by kernel_rfl) (by kernel_rfl) (M2301.blk 0 (b := b2254) (o := .cells ⟨[.int .i64 x2248.Address, .int .i64 x2248.Width, .bool x2248.Store]⟩ 36 (0, 0)) (by kernel_rfl))) ?_
      obtain ⟨r2305, hr2305, hm⟩ := gx_bind hm
      refine W_call 62 #[.slice p2245 x2243.length c2246, .int .i64 x2248.Address] (by kernel_rfl) (by kernel_rfl) ?_
      refine (c_s_l17Find w2300 x2243 p2245 c2246 (h2247.mem0 M2301) x2248.Address hr2305).mono ?_
      rintro e_ w2306 ⟨rfl, K2307⟩
      have M2308 := M2301.call0 K2307
      refine ⟨_, rfl, ?_⟩
      obtain ⟨y2309, hy2309, hm⟩ := gx_bind hm
      refine W_val (elemP p2245 (r2305.toNat * 4)) w2306 (by kernel_rfl) (E_index (E := encRegion) _ _ _ x2243.length c2246 .i64 r2305 4 (y := y2309) rfl (by kernel_rfl) (by kernel_rfl) (by kernel_rfl) (h2247.mem0 M2308) rfl hy2309) ?_
      refine W_val (.agg #[.int .i64 y2309.Base, .int .i64 y2309.Size, .int .i64 y2309.Kind, .int .i64 y2309.Unit]) w2306 (by kernel_rfl) (E_loadE (E := encRegion) _ _ true 4 r2305 0 (r2305.toNat * 4) y2309 (.agg #[.int .i64 y2309.Base, .int .i64 y2309.Size, .int .i64 y2309.Kind, .int .i64 y2309.Unit]) rfl (by kernel_rfl) (by kernel_rfl) (by kernel_rfl) (h2247.mem0 M2308) hy2309 rfl) ?_
      refine W_new (fun b => .pointer (some ⟨b, 0, none⟩)) (.cells ⟨[.int .i64 0, .int .i64 0, .int .i64 0, .int .i64 0]⟩ 59 (0, 0)) M2308 rfl (by kernel_rfl) (by kernel_rfl) ?_
      intro b2311 w2312 M2313
      refine W_store _ _ _ true 4 b2311 0 [.int .i64 0, .int .i64 0, .int .i64 0, .int .i64 0] 59 (.agg #[.int .i64 y2309.Base, .int .i64 y2309.Size, .int .i64 y2309.Kind, .int .i64 y2309.Unit]) 2 [.int .i64 y2309.Base, .int .i64 y2309.Size, .int .i64 y2309.Kind, .int .i64 y2309.Unit] M2313 (by kernel_rfl) rfl (by kernel_rfl) (by kernel_rfl) (by kernel_rfl) (by kernel_rfl) (by kernel_rfl) (by kernel_rfl) (by kernel_rfl) (by kernel_rfl) ?_
      intro w2314 M2315
      refine W_nil ?_
      refine N_then ?_
      refine G_seq ?_
      refine G_seq ?_
      refine G_region ?_
      refine W_run 1 [(3, .pointer (some ⟨b2254, 0, none⟩)), (6, .slice p2258 ([] : List Access).length c2259), (7, .pointer (some ⟨b2311, 0, none⟩)), (42, .pointer (some ⟨b2254, 1, none⟩))] w2314 (by kernel_rfl) ?_
      refine W_val (.int .i64 x2248.Width) w2314 (by kernel_rfl) (E_load (e := 36) (fr := (0, 0)) _ _ false 1 b2254 1 [.int .i64 x2248.Address, .int .i64 x2248.Width, .bool x2248.Store] (.int .i64 x2248.Width) rfl (by kernel_rfl) (by kernel_rfl) (by kernel_rfl) (M2315.blk 0 (b := b2254) (o := .cells ⟨[.int .i64 x2248.Address, .int .i64 x2248.Width, .bool x2248.Store]⟩ 36 (0, 0)) (by kernel_rfl))) ?_
      refine W_run 1 [(3, .pointer (some ⟨b2254, 0, none⟩)), (6, .slice p2258 ([] : List Access).length c2259), (7, .pointer (some ⟨b2311, 0, none⟩)), (8, .int .i64 x2248.Width)] w2314 (by kernel_rfl) ?_
      refine W_nil ?_
      refine N_then ?_
      obtain ⟨out2491, hw2492, hmo2493⟩ := gx_bind hm
      refine G_meet (fun a w' => ∃ (o2494 : Unit), out2491 = .inl o2494 ∧ Mem [] w w' [sg2260] ∧ Sat Try.f27.ntmps [(6, .slice p2258 ([] : List Access).length c2259)] a) ?_ ?_
      · refine G_block ?_
        refine G_while (σ := Int) (ρ := (Unit) ⊕ ((List Access) × Bool)) (fun s2484 a w' => Mem [] w w' [[(b2254, .cells ⟨[.int .i64 x2248.Address, .int .i64 x2248.Width, .bool x2248.Store]⟩ 36 (0, 0))], sg2260, [(b2311, .cells ⟨[.int .i64 y2309.Base, .int .i64 y2309.Size, .int .i64 y2309.Kind, .int .i64 y2309.Unit]⟩ 59 (0, 0))]] ∧ Sat Try.f27.ntmps [(3, .pointer (some ⟨b2254, 0, none⟩)), (6, .slice p2258 ([] : List Access).length c2259), (7, .pointer (some ⟨b2311, 0, none⟩)), (8, .int .i64 s2484)] a) hw2492 (fun a ha => ⟨M2315.pick [0, 1, 2] (by kernel_rfl), ha.sub (by kernel_rfl)⟩) ?_
        clear hm
        intro s2484 x2485 hm hout2486 a2487 w2488 ⟨M2489, hS2490⟩
        refine G_use hS2490 ?_
        refine G_seq ?_
        refine G_seq ?_
        refine G_region ?_
        refine W_run 2 [(3, .pointer (some ⟨b2254, 0, none⟩)), (6, .slice p2258 ([] : List Access).length c2259), (7, .pointer (some ⟨b2311, 0, none⟩)), (8, .int .i64 s2484), (45, .bool (decide (s2484 ≥ 1)))] w2488 (by kernel_rfl) ?_
        refine W_nil ?_
        refine N_then ?_
        rcases gx_bif hm with ⟨hc2495, hm⟩ | ⟨hc2495, hm⟩
        · refine G_cond_t (b := (decide (s2484 ≥ 1))) hc2495 (by kernel_rfl) ?_
          refine G_skip ?_
          refine N_then ?_
          refine G_seq ?_
          refine G_block ?_
          refine G_seq ?_
          refine G_seq ?_
          refine G_region ?_
          refine W_val (.agg #[.int .i64 y2309.Base, .int .i64 y2309.Size, .int .i64 y2309.Kind, .int .i64 y2309.Unit]) w2488 (by kernel_rfl) (E_load (e := 59) (fr := (0, 0)) _ _ true 4 b2311 0 [.int .i64 y2309.Base, .int .i64 y2309.Size, .int .i64 y2309.Kind, .int .i64 y2309.Unit] (.agg #[.int .i64 y2309.Base, .int .i64 y2309.Size, .int .i64 y2309.Kind, .int .i64 y2309.Unit]) rfl (by kernel_rfl) (by kernel_rfl) (by kernel_rfl) (M2489.blk 2 (b := b2311) (o := .cells ⟨[.int .i64 y2309.Base, .int .i64 y2309.Size, .int .i64 y2309.Kind, .int .i64 y2309.Unit]⟩ 59 (0, 0)) (by kernel_rfl))) ?_
          refine W_run 1 [(3, .pointer (some ⟨b2254, 0, none⟩)), (6, .slice p2258 ([] : List Access).length c2259), (7, .pointer (some ⟨b2311, 0, none⟩)), (8, .int .i64 s2484), (48, .agg #[.int .i64 y2309.Base, .int .i64 y2309.Size, .int .i64 y2309.Kind, .int .i64 y2309.Unit]), (49, .int .i64 s2484)] w2488 (by kernel_rfl) ?_
          obtain ⟨r2496, hr2496, hm⟩ := gx_bind hm
          refine W_call 63 #[.agg #[.int .i64 y2309.Base, .int .i64 y2309.Size, .int .i64 y2309.Kind, .int .i64 y2309.Unit], .int .i64 s2484] (by kernel_rfl) (by kernel_rfl) ?_
          refine (c_s_l17Allows w2488 y2309 s2484 hr2496).mono ?_
          rintro e_ w2497 ⟨rfl, K2498⟩
          have M2499 := M2489.call0 K2498
          refine ⟨_, rfl, ?_⟩
          refine W_run 1 [(3, .pointer (some ⟨b2254, 0, none⟩)), (6, .slice p2258 ([] : List Access).length c2259), (7, .pointer (some ⟨b2311, 0, none⟩)), (8, .int .i64 s2484), (51, .bool (!r2496))] w2497 (by kernel_rfl) ?_
          refine W_nil ?_
          refine N_then ?_
          rcases gx_bif hm with ⟨hc2500, hm⟩ | ⟨hc2500, hm⟩
          · refine G_cond_t (b := (!r2496)) hc2500 (by kernel_rfl) ?_
            refine G_exit ?_
            refine N_then_exit ?_
            refine N_block_eq ?_
            refine N_then ?_
            refine G_region ?_
            refine W_run 3 [(3, .pointer (some ⟨b2254, 0, none⟩)), (6, .slice p2258 ([] : List Access).length c2259), (7, .pointer (some ⟨b2311, 0, none⟩)), (8, .int .i64 (w64 (s2484.tdiv 2)))] w2497 (by kernel_rfl) ?_
            refine W_nil ?_
            obtain rfl := Option.some.inj hm
            exact N_loop fun a ha => ⟨_, rfl, M2499.pick [0, 1, 2] (by kernel_rfl), ha.sub (by kernel_rfl)⟩
          · refine G_cond_f (b := (!r2496)) hc2500 (by kernel_rfl) ?_
            refine G_skip ?_
            refine N_then ?_
            refine G_seq ?_
            refine G_seq ?_
            refine G_region ?_
            refine W_run 1 [(3, .pointer (some ⟨b2254, 0, none⟩)), (6, .slice p2258 ([] : List Access).length c2259), (8, .int .i64 s2484), (9, .int .i64 0)] w2497 (by kernel_rfl) ?_
            refine W_nil ?_
            refine N_then ?_
            obtain ⟨out2545, hw2546, hmo2547⟩ := gx_bind hm
            refine G_meet (fun a w' => ∃ (p2554 : Option Addr), ∃ (c2555 : Nat), ∃ (sg2556 : Seg), ownS encAccess out2545 p2554 c2555 sg2556 ∧ Mem [] w w' [sg2556] ∧ Sat Try.f27.ntmps [(6, .slice p2554 out2545.length c2555)] a) ?_ ?_
            · refine G_block ?_
              refine G_while (σ := List Access × Int) (ρ := List Access) (fun s2538 a w' => ∃ (p2548 : Option Addr), ∃ (c2549 : Nat), ∃ (sg2550 : Seg), ownS encAccess s2538.1 p2548 c2549 sg2550 ∧ Mem [] w w' [[(b2254, .cells ⟨[.int .i64 x2248.Address, .int .i64 x2248.Width, .bool x2248.Store]⟩ 36 (0, 0))], sg2550] ∧ Sat Try.f27.ntmps [(3, .pointer (some ⟨b2254, 0, none⟩)), (6, .slice p2548 s2538.1.length c2549), (8, .int .i64 s2484), (9, .int .i64 s2538.2)] a) hw2546 (fun a ha => ⟨p2258, c2259, sg2260, ho2262, M2499.pick [0, 1] (by kernel_rfl), ha.sub (by kernel_rfl)⟩) ?_
              clear hm
              intro s2538 x2539 hm hout2540 a2541 w2542 ⟨p2548, c2549, sg2550, ho2551, M2543, hS2544⟩
              refine G_use hS2544 ?_
              refine G_seq ?_
              refine G_seq ?_
              refine G_region ?_
              refine W_run 2 [(3, .pointer (some ⟨b2254, 0, none⟩)), (6, .slice p2548 s2538.1.length c2549), (8, .int .i64 s2484), (9, .int .i64 s2538.2), (52, .int .i64 s2538.2), (53, .pointer (some ⟨b2254, 1, none⟩))] w2542 (by kernel_rfl) ?_
              refine W_val (.int .i64 x2248.Width) w2542 (by kernel_rfl) (E_load (e := 36) (fr := (0, 0)) _ _ false 1 b2254 1 [.int .i64 x2248.Address, .int .i64 x2248.Width, .bool x2248.Store] (.int .i64 x2248.Width) rfl (by kernel_rfl) (by kernel_rfl) (by kernel_rfl) (M2543.blk 0 (b := b2254) (o := .cells ⟨[.int .i64 x2248.Address, .int .i64 x2248.Width, .bool x2248.Store]⟩ 36 (0, 0)) (by kernel_rfl))) ?_
              refine W_run 1 [(3, .pointer (some ⟨b2254, 0, none⟩)), (6, .slice p2548 s2538.1.length c2549), (8, .int .i64 s2484), (9, .int .i64 s2538.2), (55, .bool (decide (s2538.2 < x2248.Width)))] w2542 (by kernel_rfl) ?_
              refine W_nil ?_
              refine N_then ?_
              rcases gx_bif hm with ⟨hc2559, hm⟩ | ⟨hc2559, hm⟩
              · refine G_cond_t (b := (decide (s2538.2 < x2248.Width))) hc2559 (by kernel_rfl) ?_
                refine G_skip ?_
                refine N_then ?_
                refine G_seq ?_
                refine G_block ?_
                refine G_region ?_
                refine W_run 2 [(3, .pointer (some ⟨b2254, 0, none⟩)), (6, .slice p2548 s2538.1.length c2549), (8, .int .i64 s2484), (9, .int .i64 s2538.2), (59, .slice p2548 s2538.1.length c2549), (60, .pointer (some ⟨b2254, 0, none⟩))] w2542 (by kernel_rfl) ?_
                refine W_val (.int .i64 x2248.Address) w2542 (by kernel_rfl) (E_load (e := 36) (fr := (0, 0)) _ _ false 1 b2254 0 [.int .i64 x2248.Address, .int .i64 x2248.Width, .bool x2248.Store] (.int .i64 x2248.Address) rfl (by kernel_rfl) (by kernel_rfl) (by kernel_rfl) (M2543.blk 0 (b := b2254) (o := .cells ⟨[.int .i64 x2248.Address, .int .i64 x2248.Width, .bool x2248.Store]⟩ 36 (0, 0)) (by kernel_rfl))) ?_
                refine W_run 4 [(3, .pointer (some ⟨b2254, 0, none⟩)), (6, .slice p2548 s2538.1.length c2549), (8, .int .i64 s2484), (9, .int .i64 s2538.2), (59, .slice p2548 s2538.1.length c2549), (63, .int .i64 (w64 (x2248.Address + s2538.2))), (64, .int .i64 s2484), (65, .pointer (some ⟨b2254, 2, none⟩))] w2542 (by kernel_rfl) ?_
                refine W_val (.bool x2248.Store) w2542 (by kernel_rfl) (E_load (e := 36) (fr := (0, 0)) _ _ false 1 b2254 2 [.int .i64 x2248.Address, .int .i64 x2248.Width, .bool x2248.Store] (.bool x2248.Store) rfl (by kernel_rfl) (by kernel_rfl) (by kernel_rfl) (M2543.blk 0 (b := b2254) (o := .cells ⟨[.int .i64 x2248.Address, .int .i64 x2248.Width, .bool x2248.Store]⟩ 36 (0, 0)) (by kernel_rfl))) ?_
                refine W_run 1 [(3, .pointer (some ⟨b2254, 0, none⟩)), (6, .slice p2548 s2538.1.length c2549), (8, .int .i64 s2484), (9, .int .i64 s2538.2), (59, .slice p2548 s2538.1.length c2549), (67, .agg #[.int .i64 (w64 (x2248.Address + s2538.2)), .int .i64 s2484, .bool x2248.Store])] w2542 (by kernel_rfl) ?_
                refine W_lit (E := encAccess) [(⟨w64 (x2248.Address + s2538.2), s2484, x2248.Store⟩ : Access)] 1 [.int .i64 (w64 (x2248.Address + s2538.2)), .int .i64 s2484, .bool x2248.Store] 36 M2543 (by kernel_rfl) (by kernel_rfl) (by kernel_rfl) (by kernel_rfl) (by kernel_rfl) ?_
                intro p2560 c2561 sg2562 w2563 ho2564 M2565
                obtain ⟨ap2567, hap2567, hm⟩ := gx_bind hm
                refine W_append (E := encAccess) _ _ _ 24 [.int .i64 0, .int .i64 0, .bool false] 1 c2561 M2565 ho2551 (by kernel_rfl) (by kernel_rfl) (by kernel_rfl) rfl (by kernel_rfl) (by kernel_rfl) (by kernel_rfl) (by kernel_rfl) (by kernel_rfl) (by kernel_rfl) (ho2564.rd M2565 2 (by kernel_rfl)) hap2567 ?_
                intro p2568 c2569 sg2570 w2571 ho2572 M2573
                refine W_run 1 [(3, .pointer (some ⟨b2254, 0, none⟩)), (6, .slice p2568 ap2567.length c2569), (8, .int .i64 s2484), (9, .int .i64 s2538.2)] w2571 (by kernel_rfl) ?_
                refine W_nil ?_
                refine N_block ?_
                refine N_then ?_
                refine G_region ?_
                refine W_run 4 [(3, .pointer (some ⟨b2254, 0, none⟩)), (6, .slice p2568 ap2567.length c2569), (8, .int .i64 s2484), (9, .int .i64 (w64 (s2538.2 + s2484)))] w2571 (by kernel_rfl) ?_
                refine W_nil ?_
                obtain rfl := Option.some.inj hm
                exact N_loop fun a ha => ⟨_, rfl, p2568, c2569, sg2570, ho2572, M2573.pick [0, 1] (by kernel_rfl), ha.sub (by kernel_rfl)⟩
              · refine G_cond_f (b := (decide (s2538.2 < x2248.Width))) hc2559 (by kernel_rfl) ?_
                refine G_exit ?_
                refine N_then_exit ?_
                refine N_then_exit ?_
                refine N_block_eq ?_
                obtain rfl := Option.some.inj hm
                obtain rfl := hout2540 _ rfl
                exact N_meet fun a ha => ⟨p2548, c2549, sg2550, ho2551, M2543.pick [1] (by kernel_rfl), ha.sub (by kernel_rfl)⟩
            · intro a2575 w2576 ⟨p2554, c2555, sg2556, ho2557, M2577, hS2578⟩
              refine N_use hS2578 ?_
              have hm := hmo2547
              refine N_then ?_
              refine G_seq ?_
              refine G_region ?_
              refine W_run 3 [(4, .slice p2554 out2545.length c2555), (5, .bool true)] w2576 (by kernel_rfl) ?_
              refine W_nil ?_
              refine N_then ?_
              refine G_ret ?_
              refine N_block_ret ?_
              refine N_then_ret ?_
              refine N_then_ret ?_
              obtain rfl := Option.some.inj hm
              obtain rfl := hout2486 _ rfl
              have hm := hmo2493; simp only [Sum.elim_inr] at hm
              refine N_block_ret ?_
              refine N_meet_ret ?_
              refine N_then_ret ?_
              obtain rfl := Option.some.inj hm
              refine N_ret [.slice p2554 out2545.length c2555, .bool true] (RVs_cons (RV_tmp (by kernel_rfl)) (RVs_cons (RV_tmp (by kernel_rfl)) RVs_nil)) ?_
              exact ⟨p2554, c2555, sg2556, rfl, ho2557, M2577.pick [0] (by kernel_rfl)⟩
        · refine G_cond_f (b := (decide (s2484 ≥ 1))) hc2495 (by kernel_rfl) ?_
          refine G_exit ?_
          refine N_then_exit ?_
          refine N_then_exit ?_
          refine N_block_eq ?_
          obtain rfl := Option.some.inj hm
          obtain rfl := hout2486 _ rfl
          exact N_meet fun a ha => ⟨_, rfl, M2489.pick [1] (by kernel_rfl), ha.sub (by kernel_rfl)⟩
      · intro a2579 w2580 ⟨o2494, hout_, M2581, hS2582⟩
        refine N_use hS2582 ?_
        subst hout_
        have hm := hmo2493; simp only [Sum.elim_inl] at hm
        refine N_then ?_
        refine G_seq ?_
        refine G_region ?_
        refine W_run 3 [(4, .slice p2258 ([] : List Access).length c2259), (5, .bool false)] w2580 (by kernel_rfl) ?_
        refine W_nil ?_
        refine N_then ?_
        refine G_ret ?_
        obtain rfl := Option.some.inj hm
        refine N_ret [.slice p2258 ([] : List Access).length c2259, .bool false] (RVs_cons (RV_tmp (by kernel_rfl)) (RVs_cons (RV_tmp (by kernel_rfl)) RVs_nil)) ?_
        exact ⟨p2258, c2259, sg2260, rfl, ho2262, M2581.pick [0] (by kernel_rfl)⟩
theorem c_i_SplitAccess (w : World) (x2644 : List Region) (p2646 : Option Addr) (c2647 : Nat) (h2648 : rdS encRegion w x2644 p2646 c2647) (x2649 : Access) {r : (List Access) × Bool} (hm : M.i_SplitAccess x2644 x2649 = some r) :
    Calls Try.prog 28 #[.slice p2646 x2644.length c2647, .agg #[.int .i64 x2649.Address, .int .i64 x2649.Width, .bool x2649.Store]] w fun e w' => ∃ (p2651 : Option Addr) (c2652 : Nat) (sg2653 : Seg), e = .returned (.tuple #[.slice p2651 r.1.length c2652, .bool r.2]) ∧ ownS encAccess r.1 p2651 c2652 sg2653 ∧ Mem [] w w' [sg2653] := by
  unfold M.i_SplitAccess at hm
  refine C_enter Try.func28 rfl (by kernel_rfl) ?_
  have M0 := Mem.refl [] w
  refine G_seq ?_
  refine G_region ?_
  refine W_new (fun b => .pointer (some ⟨b, 0, none⟩)) (.cells ⟨[.int .i64 x2649.Address, .int .i64 x2649.Width, .bool x2649.Store]⟩ 36 (0, 0)) M0 rfl (by kernel_rfl) (by kernel_rfl) ?_
  intro b2655 w2656 M2657
  refine W_run 2 [(0, .slice p2646 x2644.length c2647), (3, .pointer (some ⟨b2655, 0, none⟩))] w2656 (by kernel_rfl) ?_
  refine W_nil ?_
  refine N_then ?_
  refine G_seq ?_
  refine G_seq ?_
  obtain ⟨o2670, ho2671, hm2672⟩ := gx_bind hm
  refine G_meet (fun a w' => Mem [] w w' [[(b2655, .cells ⟨[.int .i64 x2649.Address, .int .i64 x2649.Width, .bool x2649.Store]⟩ 36 (0, 0))]] ∧ Sat Try.f28.ntmps [(0, .slice p2646 x2644.length c2647), (3, .pointer (some ⟨b2655, 0, none⟩)), (25, .bool o2670)] a) ?_ ?_
  · have hm := ho2671
    refine G_region ?_
    refine W_run 1 [(0, .slice p2646 x2644.length c2647), (3, .pointer (some ⟨b2655, 0, none⟩)), (10, .slice p2646 x2644.length c2647)] w2656 (by kernel_rfl) ?_
    obtain ⟨r2673, hr2673, hm⟩ := gx_bind hm
    refine W_call 49 #[.slice p2646 x2644.length c2647] (by kernel_rfl) (by kernel_rfl) ?_
    refine (c_i_IsMap w2656 x2644 p2646 c2647 (h2648.mem0 M2657) hr2673).mono ?_
    rintro e_ w2674 ⟨rfl, K2675⟩
    have M2676 := M2657.call0 K2675
    refine ⟨_, rfl, ?_⟩
    refine W_run 2 [(0, .slice p2646 x2644.length c2647), (3, .pointer (some ⟨b2655, 0, none⟩)), (13, .bool (!r2673))] w2674 (by kernel_rfl) ?_
    rcases gx_bif hm with ⟨hc2677, hm⟩ | ⟨hc2677, hm⟩
    · refine W_known 13 true (by kernel_rfl) hc2677 ?_
      refine W_run 12 [(0, .slice p2646 x2644.length c2647), (3, .pointer (some ⟨b2655, 0, none⟩)), (25, .bool true)] w2674 (by kernel_rfl) ?_
      refine W_nil ?_
      obtain rfl := Option.some.inj hm
      exact N_meet fun a ha => ⟨M2676.pick [0] (by kernel_rfl), ha.sub (by kernel_rfl)⟩
    · refine W_known 13 false (by kernel_rfl) hc2677 ?_
      refine W_val (.agg #[.int .i64 x2649.Address, .int .i64 x2649.Width, .bool x2649.Store]) w2674 (by kernel_rfl) (E_load (e := 36) (fr := (0, 0)) _ _ true 3 b2655 0 [.int .i64 x2649.Address, .int .i64 x2649.Width, .bool x2649.Store] (.agg #[.int .i64 x2649.Address, .int .i64 x2649.Width, .bool x2649.Store]) rfl (by kernel_rfl) (by kernel_rfl) (by kernel_rfl) (M2676.blk 0 (b := b2655) (o := .cells ⟨[.int .i64 x2649.Address, .int .i64 x2649.Width, .bool x2649.Store]⟩ 36 (0, 0)) (by kernel_rfl))) ?_
      obtain ⟨r2678, hr2678, hm⟩ := gx_bind hm
      refine W_call 64 #[.agg #[.int .i64 x2649.Address, .int .i64 x2649.Width, .bool x2649.Store]] (by kernel_rfl) (by kernel_rfl) ?_
      refine (c_i_isAccess w2674 x2649 hr2678).mono ?_
      rintro e_ w2679 ⟨rfl, K2680⟩
      have M2681 := M2676.call0 K2680
      refine ⟨_, rfl, ?_⟩
      refine W_run 3 [(0, .slice p2646 x2644.length c2647), (3, .pointer (some ⟨b2655, 0, none⟩)), (18, .bool (!r2678))] w2679 (by kernel_rfl) ?_
      rcases gx_bif hm with ⟨hc2682, hm⟩ | ⟨hc2682, hm⟩
      · refine W_known 18 true (by kernel_rfl) hc2682 ?_
        refine W_run 7 [(0, .slice p2646 x2644.length c2647), (3, .pointer (some ⟨b2655, 0, none⟩)), (25, .bool true)] w2679 (by kernel_rfl) ?_
        refine W_nil ?_
        obtain rfl := Option.some.inj hm
        exact N_meet fun a ha => ⟨M2681.pick [0] (by kernel_rfl), ha.sub (by kernel_rfl)⟩
      · refine W_known 18 false (by kernel_rfl) hc2682 ?_
        refine W_run 1 [(0, .slice p2646 x2644.length c2647), (3, .pointer (some ⟨b2655, 0, none⟩)), (18, .bool false), (19, .pointer (some ⟨b2655, 0, none⟩))] w2679 (by kernel_rfl) ?_
        refine W_val (.int .i64 x2649.Address) w2679 (by kernel_rfl) (E_load (e := 36) (fr := (0, 0)) _ _ false 1 b2655 0 [.int .i64 x2649.Address, .int .i64 x2649.Width, .bool x2649.Store] (.int .i64 x2649.Address) rfl (by kernel_rfl) (by kernel_rfl) (by kernel_rfl) (M2681.blk 0 (b := b2655) (o := .cells ⟨[.int .i64 x2649.Address, .int .i64 x2649.Width, .bool x2649.Store]⟩ 36 (0, 0)) (by kernel_rfl))) ?_
        refine W_run 1 [(0, .slice p2646 x2644.length c2647), (3, .pointer (some ⟨b2655, 0, none⟩)), (18, .bool false), (20, .int .i64 x2649.Address), (21, .pointer (some ⟨b2655, 1, none⟩))] w2679 (by kernel_rfl) ?_
        refine W_val (.int .i64 x2649.Width) w2679 (by kernel_rfl) (E_load (e := 36) (fr := (0, 0)) _ _ false 1 b2655 1 [.int .i64 x2649.Address, .int .i64 x2649.Width, .bool x2649.Store] (.int .i64 x2649.Width) rfl (by kernel_rfl) (by kernel_rfl) (by kernel_rfl) (M2681.blk 0 (b := b2655) (o := .cells ⟨[.int .i64 x2649.Address, .int .i64 x2649.Width, .bool x2649.Store]⟩ 36 (0, 0)) (by kernel_rfl))) ?_
        obtain ⟨q2683, hq2683, hm⟩ := gx_bind hm
        refine W_val (.int .i64 q2683) w2679 (by kernel_rfl) (E_rem _ _ _ _ x2649.Address x2649.Width q2683 rfl (by kernel_rfl) (by kernel_rfl) hq2683) ?_
        refine W_run 2 [(0, .slice p2646 x2644.length c2647), (3, .pointer (some ⟨b2655, 0, none⟩)), (25, .bool (q2683 != 0))] w2679 (by kernel_rfl) ?_
        refine W_nil ?_
        obtain rfl := Option.some.inj hm
        exact N_meet fun a ha => ⟨M2681.pick [0] (by kernel_rfl), ha.sub (by kernel_rfl)⟩
  · intro a2686 w2684 ⟨M2685, hS2687⟩
    refine N_use hS2687 ?_
    have hm := hm2672
    refine N_then ?_
    rcases gx_bif hm with ⟨hc2688, hm⟩ | ⟨hc2688, hm⟩
    · refine G_cond_t (b := o2670) hc2688 (by kernel_rfl) ?_
      refine G_seq ?_
      refine G_region ?_
      refine W_run 2 [(4, .slice none 0 0), (5, .bool false)] w2684 (by kernel_rfl) ?_
      refine W_nil ?_
      refine N_then ?_
      refine G_ret ?_
      refine N_then_ret ?_
      obtain rfl := Option.some.inj hm
      refine N_ret [.slice none 0 0, .bool false] (RVs_cons (RV_tmp (by kernel_rfl)) (RVs_cons (RV_tmp (by kernel_rfl)) RVs_nil)) ?_
      exact ⟨none, 0, [], rfl, ownS_nil, M2685.pick [100000] (by kernel_rfl)⟩
    · refine G_cond_f (b := o2670) hc2688 (by kernel_rfl) ?_
      refine G_skip ?_
      refine N_then ?_
      refine G_seq ?_
      refine G_region ?_
      refine W_run 2 [(0, .slice p2646 x2644.length c2647), (3, .pointer (some ⟨b2655, 0, none⟩)), (26, .slice p2646 x2644.length c2647), (27, .pointer (some ⟨b2655, 0, none⟩))] w2684 (by kernel_rfl) ?_
      refine W_val (.int .i64 x2649.Address) w2684 (by kernel_rfl) (E_load (e := 36) (fr := (0, 0)) _ _ false 1 b2655 0 [.int .i64 x2649.Address, .int .i64 x2649.Width, .bool x2649.Store] (.int .i64 x2649.Address) rfl (by kernel_rfl) (by kernel_rfl) (by kernel_rfl) (M2685.blk 0 (b := b2655) (o := .cells ⟨[.int .i64 x2649.Address, .int .i64 x2649.Width, .bool x2649.Store]⟩ 36 (0, 0)) (by kernel_rfl))) ?_
      obtain ⟨r2690, hr2690, hm⟩ := gx_bind hm
      refine W_call 65 #[.slice p2646 x2644.length c2647, .int .i64 x2649.Address] (by kernel_rfl) (by kernel_rfl) ?_
      refine (c_i_findRegion w2684 x2644 p2646 c2647 (h2648.mem0 M2685) x2649.Address hr2690).mono ?_
      rintro e_ w2691 ⟨rfl, K2692⟩
      have M2693 := M2685.call0 K2692
      refine ⟨_, rfl, ?_⟩
      refine W_run 1 [(0, .slice p2646 x2644.length c2647), (3, .pointer (some ⟨b2655, 0, none⟩)), (6, .int .i64 r2690)] w2691 (by kernel_rfl) ?_
      refine W_nil ?_
      refine N_then ?_
      refine G_seq ?_
      refine G_seq ?_
      refine G_region ?_
      refine W_run 2 [(0, .slice p2646 x2644.length c2647), (3, .pointer (some ⟨b2655, 0, none⟩)), (6, .int .i64 r2690), (31, .bool (decide (r2690 < 0)))] w2691 (by kernel_rfl) ?_
      refine W_nil ?_
      refine N_then ?_
      rcases gx_bif hm with ⟨hc2694, hm⟩ | ⟨hc2694, hm⟩
      · refine G_cond_t (b := (decide (r2690 < 0))) hc2694 (by kernel_rfl) ?_
        refine G_seq ?_
        refine G_region ?_
        refine W_run 2 [(4, .slice none 0 0), (5, .bool false)] w2691 (by kernel_rfl) ?_
        refine W_nil ?_
        refine N_then ?_
        refine G_ret ?_
        refine N_then_ret ?_
        obtain rfl := Option.some.inj hm
        refine N_ret [.slice none 0 0, .bool false] (RVs_cons (RV_tmp (by kernel_rfl)) (RVs_cons (RV_tmp (by kernel_rfl)) RVs_nil)) ?_
        exact ⟨none, 0, [], rfl, ownS_nil, M2693.pick [100000] (by kernel_rfl)⟩
      · refine G_cond_f (b := (decide (r2690 < 0))) hc2694 (by kernel_rfl) ?_
        refine G_skip ?_
        refine N_then ?_
        refine G_seq ?_
        refine G_region ?_
        refine W_run 1 [(0, .slice p2646 x2644.length c2647), (3, .pointer (some ⟨b2655, 0, none⟩)), (6, .int .i64 r2690), (32, .pointer (some ⟨b2655, 1, none⟩))] w2691 (by kernel_rfl) ?_
        refine W_val (.int .i64 x2649.Width) w2691 (by kernel_rfl) (E_load (e := 36) (fr := (0, 0)) _ _ false 1 b2655 1 [.int .i64 x2649.Address, .int .i64 x2649.Width, .bool x2649.Store] (.int .i64 x2649.Width) rfl (by kernel_rfl) (by kernel_rfl) (by kernel_rfl) (M2693.blk 0 (b := b2655) (o := .cells ⟨[.int .i64 x2649.Address, .int .i64 x2649.Width, .bool x2649.Store]⟩ 36 (0, 0)) (by kernel_rfl))) ?_
        refine W_run 1 [(0, .slice p2646 x2644.length c2647), (3, .pointer (some ⟨b2655, 0, none⟩)), (6, .int .i64 r2690), (7, .int .i64 x2649.Width)] w2691 (by kernel_rfl) ?_
        refine W_nil ?_
        refine N_then ?_
        refine G_seq ?_
        obtain ⟨out2743, hw2744, hmo2745⟩ := gx_bind hm
        refine G_meet (fun a w' => Mem [] w w' [[(b2655, .cells ⟨[.int .i64 x2649.Address, .int .i64 x2649.Width, .bool x2649.Store]⟩ 36 (0, 0))]] ∧ Sat Try.f28.ntmps [(3, .pointer (some ⟨b2655, 0, none⟩)), (7, .int .i64 out2743)] a) ?_ ?_
        · refine G_block ?_
          refine G_while (σ := Int) (ρ := Int) (fun s2736 a w' => Mem [] w w' [[(b2655, .cells ⟨[.int .i64 x2649.Address, .int .i64 x2649.Width, .bool x2649.Store]⟩ 36 (0, 0))]] ∧ Sat Try.f28.ntmps [(0, .slice p2646 x2644.length c2647), (3, .pointer (some ⟨b2655, 0, none⟩)), (6, .int .i64 r2690), (7, .int .i64 s2736)] a) hw2744 (fun a ha => ⟨M2693.pick [0] (by kernel_rfl), ha.sub (by kernel_rfl)⟩) ?_
          clear hm
          intro s2736 x2737 hm hout2738 a2739 w2740 ⟨M2741, hS2742⟩
          refine G_use hS2742 ?_
          refine G_seq ?_
          refine G_seq ?_
          obtain ⟨o2753, ho2754, hm2755⟩ := gx_bind hm
          refine G_meet (fun a w' => Mem [] w w' [[(b2655, .cells ⟨[.int .i64 x2649.Address, .int .i64 x2649.Width, .bool x2649.Store]⟩ 36 (0, 0))]] ∧ Sat Try.f28.ntmps [(0, .slice p2646 x2644.length c2647), (3, .pointer (some ⟨b2655, 0, none⟩)), (6, .int .i64 r2690), (7, .int .i64 s2736), (44, .bool o2753)] a) ?_ ?_
          · have hm := ho2754
            refine G_region ?_
            refine W_run 3 [(0, .slice p2646 x2644.length c2647), (3, .pointer (some ⟨b2655, 0, none⟩)), (6, .int .i64 r2690), (7, .int .i64 s2736), (36, .bool (decide (s2736 > 0)))] w2740 (by kernel_rfl) ?_
            rcases gx_bif hm with ⟨hc2756, hm⟩ | ⟨hc2756, hm⟩
            · refine W_known 36 true (by kernel_rfl) hc2756 ?_
              refine W_run 2 [(0, .slice p2646 x2644.length c2647), (3, .pointer (some ⟨b2655, 0, none⟩)), (6, .int .i64 r2690), (7, .int .i64 s2736), (36, .bool true), (37, .slice p2646 x2644.length c2647), (38, .int .i64 r2690)] w2740 (by kernel_rfl) ?_
              obtain ⟨y2757, hy2757, hm⟩ := gx_bind hm
              refine W_val (elemP p2646 (r2690.toNat * 4)) w2740 (by kernel_rfl) (E_index (E := encRegion) _ _ _ x2644.length c2647 .i64 r2690 4 (y := y2757) rfl (by kernel_rfl) (by kernel_rfl) (by kernel_rfl) (h2648.mem0 M2741) rfl hy2757) ?_
              refine W_val (.agg #[.int .i64 y2757.Base, .int .i64 y2757.Size, .int .i64 y2757.Kind, .int .i64 y2757.Unit]) w2740 (by kernel_rfl) (E_loadE (E := encRegion) _ _ true 4 r2690 0 (r2690.toNat * 4) y2757 (.agg #[.int .i64 y2757.Base, .int .i64 y2757.Size, .int .i64 y2757.Kind, .int .i64 y2757.Unit]) rfl (by kernel_rfl) (by kernel_rfl) (by kernel_rfl) (h2648.mem0 M2741) hy2757 rfl) ?_
              refine W_run 1 [(0, .slice p2646 x2644.length c2647), (3, .pointer (some ⟨b2655, 0, none⟩)), (6, .int .i64 r2690), (7, .int .i64 s2736), (36, .bool true), (40, .agg #[.int .i64 y2757.Base, .int .i64 y2757.Size, .int .i64 y2757.Kind, .int .i64 y2757.Unit]), (41, .int .i64 s2736)] w2740 (by kernel_rfl) ?_
              obtain ⟨r2758, hr2758, hm⟩ := gx_bind hm
              refine W_call 66 #[.agg #[.int .i64 y2757.Base, .int .i64 y2757.Size, .int .i64 y2757.Kind, .int .i64 y2757.Unit], .int .i64 s2736] (by kernel_rfl) (by kernel_rfl) ?_
              refine (c_i_allows w2740 y2757 s2736 hr2758).mono ?_
              rintro e_ w2759 ⟨rfl, K2760⟩
              have M2761 := M2741.call0 K2760
              refine ⟨_, rfl, ?_⟩
              refine W_run 2 [(0, .slice p2646 x2644.length c2647), (3, .pointer (some ⟨b2655, 0, none⟩)), (6, .int .i64 r2690), (7, .int .i64 s2736), (44, .bool (!r2758))] w2759 (by kernel_rfl) ?_
              refine W_nil ?_
              obtain rfl := Option.some.inj hm
              exact N_meet fun a ha => ⟨M2761.pick [0] (by kernel_rfl), ha.sub (by kernel_rfl)⟩
            · refine W_known 36 false (by kernel_rfl) hc2756 ?_
              refine W_run 8 [(0, .slice p2646 x2644.length c2647), (3, .pointer (some ⟨b2655, 0, none⟩)), (6, .int .i64 r2690), (7, .int .i64 s2736), (44, .bool false)] w2740 (by kernel_rfl) ?_
              refine W_nil ?_
              obtain rfl := Option.some.inj hm
              exact N_meet fun a ha => ⟨M2741.pick [0] (by kernel_rfl), ha.sub (by kernel_rfl)⟩
          · intro a2764 w2762 ⟨M2763, hS2765⟩
            refine N_use hS2765 ?_
            have hm := hm2755
            refine N_then ?_
            rcases gx_bif hm with ⟨hc2766, hm⟩ | ⟨hc2766, hm⟩
            · refine G_cond_t (b := o2753) hc2766 (by kernel_rfl) ?_
              refine G_skip ?_
              refine N_then ?_
              refine G_block ?_
              refine G_region ?_
              refine W_run 3 [(0, .slice p2646 x2644.length c2647), (3, .pointer (some ⟨b2655, 0, none⟩)), (6, .int .i64 r2690), (7, .int .i64 (w64 (s2736.tdiv 2)))] w2762 (by kernel_rfl) ?_
              refine W_nil ?_
              refine N_block ?_
              obtain rfl := Option.some.inj hm
              exact N_loop fun a ha => ⟨_, rfl, M2763.pick [0] (by kernel_rfl), ha.sub (by kernel_rfl)⟩
            · refine G_cond_f (b := o2753) hc2766 (by kernel_rfl) ?_
              refine G_exit ?_
              refine N_then_exit ?_
              refine N_then_exit ?_
              refine N_block_eq ?_
              obtain rfl := Option.some.inj hm
              obtain rfl := hout2738 _ rfl
              exact N_meet fun a ha => ⟨M2763.pick [0] (by kernel_rfl), ha.sub (by kernel_rfl)⟩
        · intro a2767 w2768 ⟨M2769, hS2770⟩
          refine N_use hS2770 ?_
          have hm := hmo2745
          refine N_then ?_
          refine G_seq ?_
          refine G_seq ?_
          refine G_region ?_
          refine W_run 2 [(3, .pointer (some ⟨b2655, 0, none⟩)), (7, .int .i64 out2743), (48, .bool (out2743 == 0))] w2768 (by kernel_rfl) ?_
          refine W_nil ?_
          refine N_then ?_
          rcases gx_bif hm with ⟨hc2771, hm⟩ | ⟨hc2771, hm⟩
          · refine G_cond_t (b := (out2743 == 0)) hc2771 (by kernel_rfl) ?_
            refine G_seq ?_
            refine G_region ?_
            refine W_run 2 [(4, .slice none 0 0), (5, .bool false)] w2768 (by kernel_rfl) ?_
            refine W_nil ?_
            refine N_then ?_
            refine G_ret ?_
            refine N_then_ret ?_
            obtain rfl := Option.some.inj hm
            refine N_ret [.slice none 0 0, .bool false] (RVs_cons (RV_tmp (by kernel_rfl)) (RVs_cons (RV_tmp (by kernel_rfl)) RVs_nil)) ?_
            exact ⟨none, 0, [], rfl, ownS_nil, M2769.pick [100000] (by kernel_rfl)⟩
          · refine G_cond_f (b := (out2743 == 0)) hc2771 (by kernel_rfl) ?_
            refine G_skip ?_
            refine N_then ?_
            refine G_seq ?_
            refine G_region ?_
            refine W_lit (E := encAccess) ([] : List Access) 0 [] 36 M2769 (by kernel_rfl) (by kernel_rfl) (by kernel_rfl) (by kernel_rfl) (by kernel_rfl) ?_
            intro p2773 c2774 sg2775 w2776 ho2777 M2778
            refine W_run 1 [(3, .pointer (some ⟨b2655, 0, none⟩)), (7, .int .i64 out2743), (8, .slice p2773 ([] : List Access).length c2774)] w2776 (by kernel_rfl) ?_
            refine W_nil ?_
            refine N_then ?_
            refine G_seq ?_
            refine G_seq ?_
            refine G_region ?_
            refine W_run 1 [(3, .pointer (some ⟨b2655, 0, none⟩)), (7, .int .i64 out2743), (8, .slice p2773 ([] : List Access).length c2774), (9, .int .i64 0)] w2776 (by kernel_rfl) ?_
            refine W_nil ?_
            refine N_then ?_
            obtain ⟨out2824, hw2825, hmo2826⟩ := gx_bind hm
            refine G_meet (fun a w' => ∃ (p2833 : Option Addr), ∃ (c2834 : Nat), ∃ (sg2835 : Seg), ownS encAccess out2824 p2833 c2834 sg2835 ∧ Mem [] w w' [sg2835] ∧ Sat Try.f28.ntmps [(8, .slice p2833 out2824.length c2834)] a) ?_ ?_
            · refine G_block ?_
              refine G_while (σ := List Access × Int) (ρ := List Access) (fun s2817 a w' => ∃ (p2827 : Option Addr), ∃ (c2828 : Nat), ∃ (sg2829 : Seg), ownS encAccess s2817.1 p2827 c2828 sg2829 ∧ Mem [] w w' [[(b2655, .cells ⟨[.int .i64 x2649.Address, .int .i64 x2649.Width, .bool x2649.Store]⟩ 36 (0, 0))], sg2829] ∧ Sat Try.f28.ntmps [(3, .pointer (some ⟨b2655, 0, none⟩)), (7, .int .i64 out2743), (8, .slice p2827 s2817.1.length c2828), (9, .int .i64 s2817.2)] a) hw2825 (fun a ha => ⟨p2773, c2774, sg2775, ho2777, M2778.pick [0, 1] (by kernel_rfl), ha.sub (by kernel_rfl)⟩) ?_
              clear hm
              intro s2817 x2818 hm hout2819 a2820 w2821 ⟨p2827, c2828, sg2829, ho2830, M2822, hS2823⟩
              refine G_use hS2823 ?_
              refine G_seq ?_
              refine G_seq ?_
              refine G_region ?_
              refine W_run 2 [(3, .pointer (some ⟨b2655, 0, none⟩)), (7, .int .i64 out2743), (8, .slice p2827 s2817.1.length c2828), (9, .int .i64 s2817.2), (50, .int .i64 s2817.2), (51, .pointer (some ⟨b2655, 1, none⟩))] w2821 (by kernel_rfl) ?_
              refine W_val (.int .i64 x2649.Width) w2821 (by kernel_rfl) (E_load (e := 36) (fr := (0, 0)) _ _ false 1 b2655 1 [.int .i64 x2649.Address, .int .i64 x2649.Width, .bool x2649.Store] (.int .i64 x2649.Width) rfl (by kernel_rfl) (by kernel_rfl) (by kernel_rfl) (M2822.blk 0 (b := b2655) (o := .cells ⟨[.int .i64 x2649.Address, .int .i64 x2649.Width, .bool x2649.Store]⟩ 36 (0, 0)) (by kernel_rfl))) ?_
              refine W_run 1 [(3, .pointer (some ⟨b2655, 0, none⟩)), (7, .int .i64 out2743), (8, .slice p2827 s2817.1.length c2828), (9, .int .i64 s2817.2), (53, .bool (decide (s2817.2 < x2649.Width)))] w2821 (by kernel_rfl) ?_
              refine W_nil ?_
              refine N_then ?_
              rcases gx_bif hm with ⟨hc2838, hm⟩ | ⟨hc2838, hm⟩
              · refine G_cond_t (b := (decide (s2817.2 < x2649.Width))) hc2838 (by kernel_rfl) ?_
                refine G_skip ?_
                refine N_then ?_
                refine G_seq ?_
                refine G_block ?_
                refine G_region ?_
                refine W_run 2 [(3, .pointer (some ⟨b2655, 0, none⟩)), (7, .int .i64 out2743), (8, .slice p2827 s2817.1.length c2828), (9, .int .i64 s2817.2), (57, .slice p2827 s2817.1.length c2828), (58, .pointer (some ⟨b2655, 0, none⟩))] w2821 (by kernel_rfl) ?_
                refine W_val (.int .i64 x2649.Address) w2821 (by kernel_rfl) (E_load (e := 36) (fr := (0, 0)) _ _ false 1 b2655 0 [.int .i64 x2649.Address, .int .i64 x2649.Width, .bool x2649.Store] (.int .i64 x2649.Address) rfl (by kernel_rfl) (by kernel_rfl) (by kernel_rfl) (M2822.blk 0 (b := b2655) (o := .cells ⟨[.int .i64 x2649.Address, .int .i64 x2649.Width, .bool x2649.Store]⟩ 36 (0, 0)) (by kernel_rfl))) ?_
                refine W_run 4 [(3, .pointer (some ⟨b2655, 0, none⟩)), (7, .int .i64 out2743), (8, .slice p2827 s2817.1.length c2828), (9, .int .i64 s2817.2), (57, .slice p2827 s2817.1.length c2828), (61, .int .i64 (w64 (x2649.Address + s2817.2))), (62, .int .i64 out2743), (63, .pointer (some ⟨b2655, 2, none⟩))] w2821 (by kernel_rfl) ?_
                refine W_val (.bool x2649.Store) w2821 (by kernel_rfl) (E_load (e := 36) (fr := (0, 0)) _ _ false 1 b2655 2 [.int .i64 x2649.Address, .int .i64 x2649.Width, .bool x2649.Store] (.bool x2649.Store) rfl (by kernel_rfl) (by kernel_rfl) (by kernel_rfl) (M2822.blk 0 (b := b2655) (o := .cells ⟨[.int .i64 x2649.Address, .int .i64 x2649.Width, .bool x2649.Store]⟩ 36 (0, 0)) (by kernel_rfl))) ?_
                refine W_run 1 [(3, .pointer (some ⟨b2655, 0, none⟩)), (7, .int .i64 out2743), (8, .slice p2827 s2817.1.length c2828), (9, .int .i64 s2817.2), (57, .slice p2827 s2817.1.length c2828), (65, .agg #[.int .i64 (w64 (x2649.Address + s2817.2)), .int .i64 out2743, .bool x2649.Store])] w2821 (by kernel_rfl) ?_
                refine W_lit (E := encAccess) [(⟨w64 (x2649.Address + s2817.2), out2743, x2649.Store⟩ : Access)] 1 [.int .i64 (w64 (x2649.Address + s2817.2)), .int .i64 out2743, .bool x2649.Store] 36 M2822 (by kernel_rfl) (by kernel_rfl) (by kernel_rfl) (by kernel_rfl) (by kernel_rfl) ?_
                intro p2839 c2840 sg2841 w2842 ho2843 M2844
                obtain ⟨ap2846, hap2846, hm⟩ := gx_bind hm
                refine W_append (E := encAccess) _ _ _ 24 [.int .i64 0, .int .i64 0, .bool false] 1 c2840 M2844 ho2830 (by kernel_rfl) (by kernel_rfl) (by kernel_rfl) rfl (by kernel_rfl) (by kernel_rfl) (by kernel_rfl) (by kernel_rfl) (by kernel_rfl) (by kernel_rfl) (ho2843.rd M2844 2 (by kernel_rfl)) hap2846 ?_
                intro p2847 c2848 sg2849 w2850 ho2851 M2852
                refine W_run 1 [(3, .pointer (some ⟨b2655, 0, none⟩)), (7, .int .i64 out2743), (8, .slice p2847 ap2846.length c2848), (9, .int .i64 s2817.2)] w2850 (by kernel_rfl) ?_
                refine W_nil ?_
                refine N_block ?_
                refine N_then ?_
                refine G_region ?_
                refine W_run 4 [(3, .pointer (some ⟨b2655, 0, none⟩)), (7, .int .i64 out2743), (8, .slice p2847 ap2846.length c2848), (9, .int .i64 (w64 (s2817.2 + out2743)))] w2850 (by kernel_rfl) ?_
                refine W_nil ?_
                obtain rfl := Option.some.inj hm
                exact N_loop fun a ha => ⟨_, rfl, p2847, c2848, sg2849, ho2851, M2852.pick [0, 1] (by kernel_rfl), ha.sub (by kernel_rfl)⟩
              · refine G_cond_f (b := (decide (s2817.2 < x2649.Width))) hc2838 (by kernel_rfl) ?_
                refine G_exit ?_
                refine N_then_exit ?_
                refine N_then_exit ?_
                refine N_block_eq ?_
                obtain rfl := Option.some.inj hm
                obtain rfl := hout2819 _ rfl
                exact N_meet fun a ha => ⟨p2827, c2828, sg2829, ho2830, M2822.pick [1] (by kernel_rfl), ha.sub (by kernel_rfl)⟩
            · intro a2854 w2855 ⟨p2833, c2834, sg2835, ho2836, M2856, hS2857⟩
              refine N_use hS2857 ?_
              have hm := hmo2826
              refine N_then ?_
              refine G_seq ?_
              refine G_region ?_
              refine W_run 3 [(4, .slice p2833 out2824.length c2834), (5, .bool true)] w2855 (by kernel_rfl) ?_
              refine W_nil ?_
              refine N_then ?_
              refine G_ret ?_
              obtain rfl := Option.some.inj hm
              refine N_ret [.slice p2833 out2824.length c2834, .bool true] (RVs_cons (RV_tmp (by kernel_rfl)) (RVs_cons (RV_tmp (by kernel_rfl)) RVs_nil)) ?_
              exact ⟨p2833, c2834, sg2835, rfl, ho2836, M2856.pick [0] (by kernel_rfl)⟩
theorem c_l_eqAccess (w : World) (x2881 : Access) (x2882 : Access) {r : Bool} (hm : M.l_eqAccess x2881 x2882 = some r) :
    Calls Try.prog 70 #[.agg #[.int .i64 x2881.Address, .int .i64 x2881.Width, .bool x2881.Store], .agg #[.int .i64 x2882.Address, .int .i64 x2882.Width, .bool x2882.Store]] w fun e w' => e = .returned (.bool r) ∧ Mem [] w w' [] := by
  unfold M.l_eqAccess at hm
  refine C_enter Try.func70 rfl (by kernel_rfl) ?_
  have M0 := Mem.refl [] w
  refine G_seq ?_
  refine G_region ?_
  refine W_new (fun b => .pointer (some ⟨b, 0, none⟩)) (.cells ⟨[.int .i64 x2881.Address, .int .i64 x2881.Width, .bool x2881.Store]⟩ 36 (0, 0)) M0 rfl (by kernel_rfl) (by kernel_rfl) ?_
  intro b2884 w2885 M2886
  refine W_new (fun b => .pointer (some ⟨b, 0, none⟩)) (.cells ⟨[.int .i64 x2882.Address, .int .i64 x2882.Width, .bool x2882.Store]⟩ 36 (0, 0)) M2886 rfl (by kernel_rfl) (by kernel_rfl) ?_
  intro b2888 w2889 M2890
  refine W_run 1 [(2, .pointer (some ⟨b2884, 0, none⟩)), (3, .pointer (some ⟨b2888, 0, none⟩))] w2889 (by kernel_rfl) ?_
  refine W_nil ?_
  refine N_then ?_
  refine G_seq ?_
  refine G_seq ?_
  refine G_region ?_
  refine W_run 1 [(2, .pointer (some ⟨b2884, 0, none⟩)), (3, .pointer (some ⟨b2888, 0, none⟩)), (5, .pointer (some ⟨b2884, 0, none⟩))] w2889 (by kernel_rfl) ?_
  refine W_val (.int .i64 x2881.Address) w2889 (by kernel_rfl) (E_load (e := 36) (fr := (0, 0)) _ _ false 1 b2884 0 [.int .i64 x2881.Address, .int .i64 x2881.Width, .bool x2881.Store] (.int .i64 x2881.Address) rfl (by kernel_rfl) (by kernel_rfl) (by kernel_rfl) (M2890.blk 0 (b := b2884) (o := .cells ⟨[.int .i64 x2881.Address, .int .i64 x2881.Width, .bool x2881.Store]⟩ 36 (0, 0)) (by kernel_rfl))) ?_
  refine W_run 1 [(2, .pointer (some ⟨b2884, 0, none⟩)), (3, .pointer (some ⟨b2888, 0, none⟩)), (6, .int .i64 x2881.Address), (7, .pointer (some ⟨b2888, 0, none⟩))] w2889 (by kernel_rfl) ?_
  refine W_val (.int .i64 x2882.Address) w2889 (by kernel_rfl) (E_load (e := 36) (fr := (0, 0)) _ _ false 1 b2888 0 [.int .i64 x2882.Address, .int .i64 x2882.Width, .bool x2882.Store] (.int .i64 x2882.Address) rfl (by kernel_rfl) (by kernel_rfl) (by kernel_rfl) (M2890.blk 1 (b := b2888) (o := .cells ⟨[.int .i64 x2882.Address, .int .i64 x2882.Width, .bool x2882.Store]⟩ 36 (0, 0)) (by kernel_rfl))) ?_
  refine W_run 1 [(2, .pointer (some ⟨b2884, 0, none⟩)), (3, .pointer (some ⟨b2888, 0, none⟩)), (9, .bool (x2881.Address != x2882.Address))] w2889 (by kernel_rfl) ?_
  refine W_nil ?_
  refine N_then ?_
  rcases gx_bif hm with ⟨hc2891, hm⟩ | ⟨hc2891, hm⟩
  · refine G_cond_t (b := (x2881.Address != x2882.Address)) hc2891 (by kernel_rfl) ?_
    refine G_seq ?_
    refine G_region ?_
    refine W_run 1 [(4, .bool false)] w2889 (by kernel_rfl) ?_
    refine W_nil ?_
    refine N_then ?_
    refine G_ret ?_
    refine N_then_ret ?_
    obtain rfl := Option.some.inj hm
    refine N_ret [.bool false] (RVs_cons (RV_tmp (by kernel_rfl)) RVs_nil) ?_
    exact ⟨rfl, M2890.pick [] (by kernel_rfl)⟩
  · refine G_cond_f (b := (x2881.Address != x2882.Address)) hc2891 (by kernel_rfl) ?_
    refine G_skip ?_
    refine N_then ?_
    refine G_seq ?_
    refine G_seq ?_
    refine G_region ?_
    refine W_run 1 [(2, .pointer (some ⟨b2884, 0, none⟩)), (3, .pointer (some ⟨b2888, 0, none⟩)), (10, .pointer (some ⟨b2884, 1, none⟩))] w2889 (by kernel_rfl) ?_
    refine W_val (.int .i64 x2881.Width) w2889 (by kernel_rfl) (E_load (e := 36) (fr := (0, 0)) _ _ false 1 b2884 1 [.int .i64 x2881.Address, .int .i64 x2881.Width, .bool x2881.Store] (.int .i64 x2881.Width) rfl (by kernel_rfl) (by kernel_rfl) (by kernel_rfl) (M2890.blk 0 (b := b2884) (o := .cells ⟨[.int .i64 x2881.Address, .int .i64 x2881.Width, .bool x2881.Store]⟩ 36 (0, 0)) (by kernel_rfl))) ?_
    refine W_run 1 [(2, .pointer (some ⟨b2884, 0, none⟩)), (3, .pointer (some ⟨b2888, 0, none⟩)), (11, .int .i64 x2881.Width), (12, .pointer (some ⟨b2888, 1, none⟩))] w2889 (by kernel_rfl) ?_
    refine W_val (.int .i64 x2882.Width) w2889 (by kernel_rfl) (E_load (e := 36) (fr := (0, 0)) _ _ false 1 b2888 1 [.int .i64 x2882.Address, .int .i64 x2882.Width, .bool x2882.Store] (.int .i64 x2882.Width) rfl (by kernel_rfl) (by kernel_rfl) (by kernel_rfl) (M2890.blk 1 (b := b2888) (o := .cells ⟨[.int .i64 x2882.Address, .int .i64 x2882.Width, .bool x2882.Store]⟩ 36 (0, 0)) (by kernel_rfl))) ?_
    refine W_run 1 [(2, .pointer (some ⟨b2884, 0, none⟩)), (3, .pointer (some ⟨b2888, 0, none⟩)), (14, .bool (x2881.Width != x2882.Width))] w2889 (by kernel_rfl) ?_
    refine W_nil ?_
    refine N_then ?_
    rcases gx_bif hm with ⟨hc2892, hm⟩ | ⟨hc2892, hm⟩
    · refine G_cond_t (b := (x2881.Width != x2882.Width)) hc2892 (by kernel_rfl) ?_
      refine G_seq ?_
      refine G_region ?_
      refine W_run 1 [(4, .bool false)] w2889 (by kernel_rfl) ?_
      refine W_nil ?_
      refine N_then ?_
      refine G_ret ?_
      refine N_then_ret ?_
      obtain rfl := Option.some.inj hm
      refine N_ret [.bool false] (RVs_cons (RV_tmp (by kernel_rfl)) RVs_nil) ?_
      exact ⟨rfl, M2890.pick [] (by kernel_rfl)⟩
    · refine G_cond_f (b := (x2881.Width != x2882.Width)) hc2892 (by kernel_rfl) ?_
      refine G_skip ?_
      refine N_then ?_
      refine G_seq ?_
      refine G_seq ?_
      refine G_region ?_
      refine W_run 1 [(3, .pointer (some ⟨b2888, 0, none⟩)), (15, .pointer (some ⟨b2884, 2, none⟩))] w2889 (by kernel_rfl) ?_
      refine W_val (.bool x2881.Store) w2889 (by kernel_rfl) (E_load (e := 36) (fr := (0, 0)) _ _ false 1 b2884 2 [.int .i64 x2881.Address, .int .i64 x2881.Width, .bool x2881.Store] (.bool x2881.Store) rfl (by kernel_rfl) (by kernel_rfl) (by kernel_rfl) (M2890.blk 0 (b := b2884) (o := .cells ⟨[.int .i64 x2881.Address, .int .i64 x2881.Width, .bool x2881.Store]⟩ 36 (0, 0)) (by kernel_rfl))) ?_
      refine W_run 1 [(16, .bool x2881.Store), (17, .pointer (some ⟨b2888, 2, none⟩))] w2889 (by kernel_rfl) ?_
      refine W_val (.bool x2882.Store) w2889 (by kernel_rfl) (E_load (e := 36) (fr := (0, 0)) _ _ false 1 b2888 2 [.int .i64 x2882.Address, .int .i64 x2882.Width, .bool x2882.Store] (.bool x2882.Store) rfl (by kernel_rfl) (by kernel_rfl) (by kernel_rfl) (M2890.blk 1 (b := b2888) (o := .cells ⟨[.int .i64 x2882.Address, .int .i64 x2882.Width, .bool x2882.Store]⟩ 36 (0, 0)) (by kernel_rfl))) ?_
      refine W_run 1 [(19, .bool (!(x2881.Store == x2882.Store)))] w2889 (by kernel_rfl) ?_
      refine W_nil ?_
      refine N_then ?_
      rcases gx_bif hm with ⟨hc2893, hm⟩ | ⟨hc2893, hm⟩
      · refine G_cond_t (b := (!(x2881.Store == x2882.Store))) hc2893 (by kernel_rfl) ?_
        refine G_seq ?_
        refine G_region ?_
        refine W_run 1 [(4, .bool false)] w2889 (by kernel_rfl) ?_
        refine W_nil ?_
        refine N_then ?_
        refine G_ret ?_
        refine N_then_ret ?_
        obtain rfl := Option.some.inj hm
        refine N_ret [.bool false] (RVs_cons (RV_tmp (by kernel_rfl)) RVs_nil) ?_
        exact ⟨rfl, M2890.pick [] (by kernel_rfl)⟩
      · refine G_cond_f (b := (!(x2881.Store == x2882.Store))) hc2893 (by kernel_rfl) ?_
        refine G_skip ?_
        refine N_then ?_
        refine G_seq ?_
        refine G_region ?_
        refine W_run 1 [(4, .bool true)] w2889 (by kernel_rfl) ?_
        refine W_nil ?_
        refine N_then ?_
        refine G_ret ?_
        obtain rfl := Option.some.inj hm
        refine N_ret [.bool true] (RVs_cons (RV_tmp (by kernel_rfl)) RVs_nil) ?_
        exact ⟨rfl, M2890.pick [] (by kernel_rfl)⟩
theorem c_l_eqAccessS (w : World) (x2867 : List Access) (p2869 : Option Addr) (c2870 : Nat) (h2871 : rdS encAccess w x2867 p2869 c2870) (x2872 : List Access) (p2874 : Option Addr) (c2875 : Nat) (h2876 : rdS encAccess w x2872 p2874 c2875) {r : Bool} (hm : M.l_eqAccessS x2867 x2872 = some r) :
    Calls Try.prog 29 #[.slice p2869 x2867.length c2870, .slice p2874 x2872.length c2875] w fun e w' => e = .returned (.bool r) ∧ Mem [] w w' [] := by
  unfold M.l_eqAccessS at hm
  refine C_enter Try.func29 rfl (by kernel_rfl) ?_
  have M0 := Mem.refl [] w
  refine G_seq ?_
  refine G_region ?_
  refine W_run 1 [(0, .slice p2869 x2867.length c2870), (1, .slice p2874 x2872.length c2875)] w (by kernel_rfl) ?_
  refine W_nil ?_
  refine N_then ?_
  refine G_seq ?_
  refine G_seq ?_
  refine G_region ?_
  refine W_run 5 [(0, .slice p2869 x2867.length c2870), (1, .slice p2874 x2872.length c2875), (10, .bool ((x2867.length : Int) != (x2872.length : Int)))] w (by kernel_rfl) ?_
  refine W_nil ?_
  refine N_then ?_
  rcases gx_bif hm with ⟨hc2877, hm⟩ | ⟨hc2877, hm⟩
  · refine G_cond_t (b := ((x2867.length : Int) != (x2872.length : Int))) hc2877 (by kernel_rfl) ?_
    refine G_seq ?_
    refine G_region ?_
    refine W_run 1 [(4, .bool false)] w (by kernel_rfl) ?_
    refine W_nil ?_
    refine N_then ?_
    refine G_ret ?_
    refine N_then_ret ?_
    obtain rfl := Option.some.inj hm
    refine N_ret [.bool false] (RVs_cons (RV_tmp (by kernel_rfl)) RVs_nil) ?_
    exact ⟨rfl, M0.pick [] (by kernel_rfl)⟩
  · refine G_cond_f (b := ((x2867.length : Int) != (x2872.length : Int))) hc2877 (by kernel_rfl) ?_
    refine G_skip ?_
    refine N_then ?_
    refine G_seq ?_
    refine G_seq ?_
    refine G_region ?_
    refine W_run 1 [(0, .slice p2869 x2867.length c2870), (1, .slice p2874 x2872.length c2875), (5, .int .i64 0)] w (by kernel_rfl) ?_
    refine W_nil ?_
    refine N_then ?_
    obtain ⟨out2918, hw2919, hmo2920⟩ := gx_bind hm
    refine G_meet (fun a w' => ∃ (o2921 : Unit), out2918 = .inl o2921 ∧ Mem [] w w' [] ∧ Sat Try.f29.ntmps [] a) ?_ ?_
    · refine G_block ?_
      refine G_while (σ := Int) (ρ := (Unit) ⊕ (Bool)) (fun s2911 a w' => Mem [] w w' [] ∧ Sat Try.f29.ntmps [(0, .slice p2869 x2867.length c2870), (1, .slice p2874 x2872.length c2875), (5, .int .i64 s2911)] a) hw2919 (fun a ha => ⟨M0.pick [] (by kernel_rfl), ha.sub (by kernel_rfl)⟩) ?_
      clear hm
      intro s2911 x2912 hm hout2913 a2914 w2915 ⟨M2916, hS2917⟩
      refine G_use hS2917 ?_
      refine G_seq ?_
      refine G_seq ?_
      refine G_region ?_
      refine W_run 4 [(0, .slice p2869 x2867.length c2870), (1, .slice p2874 x2872.length c2875), (5, .int .i64 s2911), (14, .bool (decide (s2911 < (x2867.length : Int))))] w2915 (by kernel_rfl) ?_
      refine W_nil ?_
      refine N_then ?_
      rcases gx_bif hm with ⟨hc2922, hm⟩ | ⟨hc2922, hm⟩
      · refine G_cond_t (b := (decide (s2911 < (x2867.length : Int)))) hc2922 (by kernel_rfl) ?_
        refine G_skip ?_
        refine N_then ?_
        refine G_seq ?_
        refine G_block ?_
        refine G_seq ?_
        refine G_quiet (by kernel_rfl) (by kernel_rfl) M2916 ?_
        refine Z_runs [.slice p2869 x2867.length c2870, .int .i64 s2911] [(0, .slice p2869 x2867.length c2870), (1, .slice p2874 x2872.length c2875), (5, .int .i64 s2911), (17, .slice p2869 x2867.length c2870), (18, .int .i64 s2911)] (fun w_ => by kernel_rfl) (by kernel_rfl) ?_
        obtain ⟨y2923, hy2923, hm⟩ := gx_bind hm
        refine Z_val (elemP p2869 (s2911.toNat * 3)) (by kernel_rfl) (fun w_ M_ => (E_index (E := encAccess) _ _ _ x2867.length c2870 .i64 s2911 3 (y := y2923) rfl (by kernel_rfl) (by kernel_rfl) (by kernel_rfl) (h2871.mem0 M_) rfl hy2923)) ?_
        refine Z_val (.agg #[.int .i64 y2923.Address, .int .i64 y2923.Width, .bool y2923.Store]) (by kernel_rfl) (fun w_ M_ => (E_loadE (E := encAccess) _ _ true 3 s2911 0 (s2911.toNat * 3) y2923 (.agg #[.int .i64 y2923.Address, .int .i64 y2923.Width, .bool y2923.Store]) rfl (by kernel_rfl) (by kernel_rfl) (by kernel_rfl) (h2871.mem0 M_) hy2923 rfl)) ?_
        refine Z_runs [.slice p2874 x2872.length c2875, .int .i64 s2911] [(0, .slice p2869 x2867.length c2870), (1, .slice p2874 x2872.length c2875), (5, .int .i64 s2911), (20, .agg #[.int .i64 y2923.Address, .int .i64 y2923.Width, .bool y2923.Store]), (21, .slice p2874 x2872.length c2875), (22, .int .i64 s2911)] (fun w_ => by kernel_rfl) (by kernel_rfl) ?_
        obtain ⟨y2924, hy2924, hm⟩ := gx_bind hm
        refine Z_val (elemP p2874 (s2911.toNat * 3)) (by kernel_rfl) (fun w_ M_ => (E_index (E := encAccess) _ _ _ x2872.length c2875 .i64 s2911 3 (y := y2924) rfl (by kernel_rfl) (by kernel_rfl) (by kernel_rfl) (h2876.mem0 M_) rfl hy2924)) ?_
        refine Z_val (.agg #[.int .i64 y2924.Address, .int .i64 y2924.Width, .bool y2924.Store]) (by kernel_rfl) (fun w_ M_ => (E_loadE (E := encAccess) _ _ true 3 s2911 0 (s2911.toNat * 3) y2924 (.agg #[.int .i64 y2924.Address, .int .i64 y2924.Width, .bool y2924.Store]) rfl (by kernel_rfl) (by kernel_rfl) (by kernel_rfl) (h2876.mem0 M_) hy2924 rfl)) ?_
        obtain ⟨r2925, hr2925, hm⟩ := gx_bind hm
        refine Z_call 70 #[.agg #[.int .i64 y2923.Address, .int .i64 y2923.Width, .bool y2923.Store], .agg #[.int .i64 y2924.Address, .int .i64 y2924.Width, .bool y2924.Store]] (.bool r2925) (by kernel_rfl) (fun w_ => by kernel_rfl) (fun w_ M_ => (c_l_eqAccess w_ y2923 y2924 hr2925).mono fun e w2_ h_ => ⟨h_.1, M_.call0 h_.2⟩) ?_
        refine Z_runs [.bool (!r2925)] [(0, .slice p2869 x2867.length c2870), (1, .slice p2874 x2872.length c2875), (5, .int .i64 s2911), (26, .bool (!r2925))] (fun w_ => by kernel_rfl) (by kernel_rfl) ?_
        refine Z_end fun w2929 M2930 => ?_
        refine N_then ?_
        rcases gx_bif hm with ⟨hc2931, hm⟩ | ⟨hc2931, hm⟩
        · refine G_cond_t (b := (!r2925)) hc2931 (by kernel_rfl) ?_
          refine G_seq ?_
          refine G_region ?_
          refine W_run 1 [(4, .bool false)] w2929 (by kernel_rfl) ?_
          refine W_nil ?_
          refine N_then ?_
          refine G_ret ?_
          refine N_block_ret ?_
          refine N_then_ret ?_
          refine N_then_ret ?_
          obtain rfl := Option.some.inj hm
          obtain rfl := hout2913 _ rfl
          have hm := hmo2920; simp only [Sum.elim_inr] at hm
          refine N_block_ret ?_
          refine N_meet_ret ?_
          refine N_then_ret ?_
          obtain rfl := Option.some.inj hm
          refine N_ret [.bool false] (RVs_cons (RV_tmp (by kernel_rfl)) RVs_nil) ?_
          exact ⟨rfl, M2930.pick [] (by kernel_rfl)⟩
        · refine G_cond_f (b := (!r2925)) hc2931 (by kernel_rfl) ?_
          refine G_skip ?_
          refine N_block ?_
          refine N_then ?_
          refine G_region ?_
          refine W_run 3 [(0, .slice p2869 x2867.length c2870), (1, .slice p2874 x2872.length c2875), (5, .int .i64 (w64 (s2911 + 1)))] w2929 (by kernel_rfl) ?_
          refine W_nil ?_
          obtain rfl := Option.some.inj hm
          exact N_loop fun a ha => ⟨_, rfl, M2930.pick [] (by kernel_rfl), ha.sub (by kernel_rfl)⟩
      · refine G_cond_f (b := (decide (s2911 < (x2867.length : Int)))) hc2922 (by kernel_rfl) ?_
        refine G_exit ?_
        refine N_then_exit ?_
        refine N_then_exit ?_
        refine N_block_eq ?_
        obtain rfl := Option.some.inj hm
        obtain rfl := hout2913 _ rfl
        exact N_meet fun a ha => ⟨_, rfl, M2916.pick [] (by kernel_rfl), ha.sub (by kernel_rfl)⟩
    · intro a2932 w2933 ⟨o2921, hout_, M2934, hS2935⟩
      refine N_use hS2935 ?_
      subst hout_
      have hm := hmo2920; simp only [Sum.elim_inl] at hm
      refine N_then ?_
      refine G_seq ?_
      refine G_region ?_
      refine W_run 1 [(4, .bool true)] w2933 (by kernel_rfl) ?_
      refine W_nil ?_
      refine N_then ?_
      refine G_ret ?_
      obtain rfl := Option.some.inj hm
      refine N_ret [.bool true] (RVs_cons (RV_tmp (by kernel_rfl)) RVs_nil) ?_
      exact ⟨rfl, M2934.pick [] (by kernel_rfl)⟩
theorem c_l_markAccessS (w : World) (x2995 : List Access) (p2997 : Option Addr) (c2998 : Nat) (sg2999 : Seg) (ho3000 : ownS encAccess x2995 p2997 c2998 sg2999) (x3001 : Int) (hA : ∀ q ∈ List.flatten [sg2999], w.heap[q.1]? = some q.2) (hN : (idsOf [sg2999]).Nodup) {r : Int × (List Access)} (hm : M.l_markAccessS x2995 x3001 = some r) :
    Calls Try.prog 30 #[.slice p2997 x2995.length c2998, .int .i64 x3001] w fun e w' => ∃ (sg3002 : Seg), e = .returned (.int .i64 r.1) ∧ ownS encAccess r.2 p2997 c2998 sg3002 ∧ r.2.length = x2995.length ∧ Mem (idsOf [sg2999]) w w' [sg3002] := by
  unfold M.l_markAccessS at hm
  refine C_enter Try.func30 rfl (by kernel_rfl) ?_
  have M0 := Mem.start' w [sg2999] hA hN
  refine G_seq ?_
  refine G_region ?_
  refine W_run 1 [(0, .slice p2997 x2995.length c2998), (1, .int .i64 x3001)] w (by kernel_rfl) ?_
  refine W_nil ?_
  refine N_then ?_
  refine G_seq ?_
  refine G_seq ?_
  refine G_region ?_
  refine W_run 1 [(0, .slice p2997 x2995.length c2998), (1, .int .i64 x3001), (5, .int .i64 0)] w (by kernel_rfl) ?_
  refine W_nil ?_
  refine N_then ?_
  obtain ⟨out3045, hw3046, hmo3047⟩ := gx_bind hm
  refine G_meet (fun a w' => ∃ (sg3052 : Seg), ownS encAccess out3045.2 p2997 c2998 sg3052 ∧ out3045.2.length = x2995.length ∧ Mem (idsOf [sg2999]) w w' [sg3052] ∧ Sat Try.f30.ntmps [(1, .int .i64 out3045.1)] a) ?_ ?_
  · refine G_block ?_
    refine G_while (σ := Int × Int × List Access) (ρ := Int × List Access) (fun s3038 a w' => ∃ (sg3048 : Seg), ownS encAccess s3038.2.2 p2997 c2998 sg3048 ∧ s3038.2.2.length = x2995.length ∧ Mem (idsOf [sg2999]) w w' [sg3048] ∧ Sat Try.f30.ntmps [(0, .slice p2997 s3038.2.2.length c2998), (1, .int .i64 s3038.1), (5, .int .i64 s3038.2.1)] a) hw3046 (fun a ha => ⟨sg2999, ho3000, rfl, M0.pick [0] (by kernel_rfl), ha.sub (by kernel_rfl)⟩) ?_
    clear hm
    intro s3038 x3039 hm hout3040 a3041 w3042 ⟨sg3048, ho3049, hl3050, M3043, hS3044⟩
    refine G_use hS3044 ?_
    refine G_seq ?_
    refine G_seq ?_
    refine G_region ?_
    refine W_run 4 [(0, .slice p2997 s3038.2.2.length c2998), (1, .int .i64 s3038.1), (5, .int .i64 s3038.2.1), (9, .bool (decide (s3038.2.1 < (s3038.2.2.length : Int))))] w3042 (by kernel_rfl) ?_
    refine W_nil ?_
    refine N_then ?_
    rcases gx_bif hm with ⟨hc3055, hm⟩ | ⟨hc3055, hm⟩
    · refine G_cond_t (b := (decide (s3038.2.1 < (s3038.2.2.length : Int)))) hc3055 (by kernel_rfl) ?_
      refine G_skip ?_
      refine N_then ?_
      refine G_seq ?_
      refine G_block ?_
      refine G_seq ?_
      refine G_region ?_
      refine W_run 3 [(0, .slice p2997 s3038.2.2.length c2998), (1, .int .i64 s3038.1), (5, .int .i64 s3038.2.1), (12, .slice p2997 s3038.2.2.length c2998), (13, .int .i64 s3038.2.1), (14, .int .i64 s3038.1)] w3042 (by kernel_rfl) ?_
      obtain ⟨y3056, hy3056, hm⟩ := gx_bind hm
      refine W_val (elemP p2997 (s3038.2.1.toNat * 3)) w3042 (by kernel_rfl) (E_index (E := encAccess) _ _ _ s3038.2.2.length c2998 .i64 s3038.2.1 3 (y := y3056) rfl (by kernel_rfl) (by kernel_rfl) (by kernel_rfl) (ho3049.rd M3043 0 (by kernel_rfl)) rfl hy3056) ?_
      refine W_val (elemP p2997 (s3038.2.1.toNat * 3 + 0)) w3042 (by kernel_rfl) (E_fieldE (E := encAccess) _ _ 0 (s3038.2.1.toNat * 3) 0 rfl (by kernel_rfl) (by kernel_rfl) (ho3049.rd M3043 0 (by kernel_rfl)) hy3056) ?_
      refine W_storeE (E := encAccess) _ _ _ false 1 s3038.2.1.toNat 0 (s3038.2.1.toNat * 3 + 0) y3056 (⟨s3038.1, y3056.Width, y3056.Store⟩ : Access) (.int .i64 s3038.1) 0 M3043 ho3049 (by kernel_rfl) (by kernel_rfl) rfl (by kernel_rfl) (by kernel_rfl) (by kernel_rfl) (by kernel_rfl) (by kernel_rfl) (by kernel_rfl) (by kernel_rfl) (gxIdx_spec hy3056).2 rfl ?_
      intro w3057 sg3059 ho3060 M3058
      refine W_conv 0 (.slice p2997 s3038.2.2.length c2998) (.slice p2997 (s3038.2.2.set s3038.2.1.toNat (⟨s3038.1, y3056.Width, y3056.Store⟩ : Access)).length c2998) (by kernel_rfl) (by rw [@List.length_set _ s3038.2.2 s3038.2.1.toNat (⟨s3038.1, y3056.Width, y3056.Store⟩ : Access)]) ?_
      refine W_conv 12 (.slice p2997 s3038.2.2.length c2998) (.slice p2997 (s3038.2.2.set s3038.2.1.toNat (⟨s3038.1, y3056.Width, y3056.Store⟩ : Access)).length c2998) (by kernel_rfl) (by rw [@List.length_set _ s3038.2.2 s3038.2.1.toNat (⟨s3038.1, y3056.Width, y3056.Store⟩ : Access)]) ?_
      refine W_nil ?_
      refine N_then ?_
      refine G_seq ?_
      refine G_region ?_
      refine W_run 3 [(0, .slice p2997 (s3038.2.2.set s3038.2.1.toNat (⟨s3038.1, y3056.Width, y3056.Store⟩ : Access)).length c2998), (1, .int .i64 (w64 (s3038.1 + 1))), (5, .int .i64 s3038.2.1)] w3057 (by kernel_rfl) ?_
      refine W_nil ?_
      refine N_then ?_
      refine G_seq ?_
      refine G_region ?_
      refine W_run 3 [(0, .slice p2997 (s3038.2.2.set s3038.2.1.toNat (⟨s3038.1, y3056.Width, y3056.Store⟩ : Access)).length c2998), (1, .int .i64 (w64 (s3038.1 + 1))), (5, .int .i64 s3038.2.1), (19, .slice p2997 (s3038.2.2.set s3038.2.1.toNat (⟨s3038.1, y3056.Width, y3056.Store⟩ : Access)).length c2998), (20, .int .i64 s3038.2.1), (21, .int .i64 (w64 (s3038.1 + 1)))] w3057 (by kernel_rfl) ?_
      obtain ⟨y3061, hy3061, hm⟩ := gx_bind hm
      refine W_val (elemP p2997 (s3038.2.1.toNat * 3)) w3057 (by kernel_rfl) (E_index (E := encAccess) _ _ _ (s3038.2.2.set s3038.2.1.toNat (⟨s3038.1, y3056.Width, y3056.Store⟩ : Access)).length c2998 .i64 s3038.2.1 3 (y := y3061) rfl (by kernel_rfl) (by kernel_rfl) (by kernel_rfl) (ho3060.rd M3058 0 (by kernel_rfl)) rfl hy3061) ?_
      refine W_val (elemP p2997 (s3038.2.1.toNat * 3 + 1)) w3057 (by kernel_rfl) (E_fieldE (E := encAccess) _ _ 1 (s3038.2.1.toNat * 3) 1 rfl (by kernel_rfl) (by kernel_rfl) (ho3060.rd M3058 0 (by kernel_rfl)) hy3061) ?_
      refine W_storeE (E := encAccess) _ _ _ false 1 s3038.2.1.toNat 1 (s3038.2.1.toNat * 3 + 1) y3061 (⟨y3061.Address, w64 (s3038.1 + 1), y3061.Store⟩ : Access) (.int .i64 (w64 (s3038.1 + 1))) 0 M3058 ho3060 (by kernel_rfl) (by kernel_rfl) rfl (by kernel_rfl) (by kernel_rfl) (by kernel_rfl) (by kernel_rfl) (by kernel_rfl) (by kernel_rfl) (by kernel_rfl) (gxIdx_spec hy3061).2 rfl ?_
      intro w3062 sg3064 ho3065 M3063
      refine W_conv 0 (.slice p2997 (s3038.2.2.set s3038.2.1.toNat (⟨s3038.1, y3056.Width, y3056.Store⟩ : Access)).length c2998) (.slice p2997 ((s3038.2.2.set s3038.2.1.toNat (⟨s3038.1, y3056.Width, y3056.Store⟩ : Access)).set s3038.2.1.toNat (⟨y3061.Address, w64 (s3038.1 + 1), y3061.Store⟩ : Access)).length c2998) (by kernel_rfl) (by rw [@List.length_set _ (s3038.2.2.set s3038.2.1.toNat (⟨s3038.1, y3056.Width, y3056.Store⟩ : Access)) s3038.2.1.toNat (⟨y3061.Address, w64 (s3038.1 + 1), y3061.Store⟩ : Access)]) ?_
      refine W_conv 19 (.slice p2997 (s3038.2.2.set s3038.2.1.toNat (⟨s3038.1, y3056.Width, y3056.Store⟩ : Access)).length c2998) (.slice p2997 ((s3038.2.2.set s3038.2.1.toNat (⟨s3038.1, y3056.Width, y3056.Store⟩ : Access)).set s3038.2.1.toNat (⟨y3061.Address, w64 (s3038.1 + 1), y3061.Store⟩ : Access)).length c2998) (by kernel_rfl) (by rw [@List.length_set _ (s3038.2.2.set s3038.2.1.toNat (⟨s3038.1, y3056.Width, y3056.Store⟩ : Access)) s3038.2.1.toNat (⟨y3061.Address, w64 (s3038.1 + 1), y3061.Store⟩ : Access)]) ?_
      refine W_nil ?_
      refine N_then ?_
      refine G_seq ?_
      refine G_region ?_
      refine W_run 3 [(0, .slice p2997 ((s3038.2.2.set s3038.2.1.toNat (⟨s3038.1, y3056.Width, y3056.Store⟩ : Access)).set s3038.2.1.toNat (⟨y3061.Address, w64 (s3038.1 + 1), y3061.Store⟩ : Access)).length c2998), (1, .int .i64 (w64 ((w64 (s3038.1 + 1)) + 1))), (5, .int .i64 s3038.2.1)] w3062 (by kernel_rfl) ?_
      refine W_nil ?_
      refine N_then ?_
      refine G_seq ?_
      refine G_region ?_
      refine W_run 5 [(0, .slice p2997 ((s3038.2.2.set s3038.2.1.toNat (⟨s3038.1, y3056.Width, y3056.Store⟩ : Access)).set s3038.2.1.toNat (⟨y3061.Address, w64 (s3038.1 + 1), y3061.Store⟩ : Access)).length c2998), (1, .int .i64 (w64 ((w64 (s3038.1 + 1)) + 1))), (5, .int .i64 s3038.2.1), (26, .slice p2997 ((s3038.2.2.set s3038.2.1.toNat (⟨s3038.1, y3056.Width, y3056.Store⟩ : Access)).set s3038.2.1.toNat (⟨y3061.Address, w64 (s3038.1 + 1), y3061.Store⟩ : Access)).length c2998), (27, .int .i64 s3038.2.1), (30, .bool (((w64 ((w64 (s3038.1 + 1)) + 1)).tmod 3) == 0))] w3062 (by kernel_rfl) ?_
      obtain ⟨y3066, hy3066, hm⟩ := gx_bind hm
      refine W_val (elemP p2997 (s3038.2.1.toNat * 3)) w3062 (by kernel_rfl) (E_index (E := encAccess) _ _ _ ((s3038.2.2.set s3038.2.1.toNat (⟨s3038.1, y3056.Width, y3056.Store⟩ : Access)).set s3038.2.1.toNat (⟨y3061.Address, w64 (s3038.1 + 1), y3061.Store⟩ : Access)).length c2998 .i64 s3038.2.1 3 (y := y3066) rfl (by kernel_rfl) (by kernel_rfl) (by kernel_rfl) (ho3065.rd M3063 0 (by kernel_rfl)) rfl hy3066) ?_
      refine W_val (elemP p2997 (s3038.2.1.toNat * 3 + 2)) w3062 (by kernel_rfl) (E_fieldE (E := encAccess) _ _ 2 (s3038.2.1.toNat * 3) 2 rfl (by kernel_rfl) (by kernel_rfl) (ho3065.rd M3063 0 (by kernel_rfl)) hy3066) ?_
      refine W_storeE (E := encAccess) _ _ _ false 1 s3038.2.1.toNat 2 (s3038.2.1.toNat * 3 + 2) y3066 (⟨y3066.Address, y3066.Width, ((w64 ((w64 (s3038.1 + 1)) + 1)).tmod 3) == 0⟩ : Access) (.bool (((w64 ((w64 (s3038.1 + 1)) + 1)).tmod 3) == 0)) 0 M3063 ho3065 (by kernel_rfl) (by kernel_rfl) rfl (by kernel_rfl) (by kernel_rfl) (by kernel_rfl) (by kernel_rfl) (by kernel_rfl) (by kernel_rfl) (by kernel_rfl) (gxIdx_spec hy3066).2 rfl ?_
      intro w3067 sg3069 ho3070 M3068
      refine W_conv 0 (.slice p2997 ((s3038.2.2.set s3038.2.1.toNat (⟨s3038.1, y3056.Width, y3056.Store⟩ : Access)).set s3038.2.1.toNat (⟨y3061.Address, w64 (s3038.1 + 1), y3061.Store⟩ : Access)).length c2998) (.slice p2997 (((s3038.2.2.set s3038.2.1.toNat (⟨s3038.1, y3056.Width, y3056.Store⟩ : Access)).set s3038.2.1.toNat (⟨y3061.Address, w64 (s3038.1 + 1), y3061.Store⟩ : Access)).set s3038.2.1.toNat (⟨y3066.Address, y3066.Width, ((w64 ((w64 (s3038.1 + 1)) + 1)).tmod 3) == 0⟩ : Access)).length c2998) (by kernel_rfl) (by rw [@List.length_set _ ((s3038.2.2.set s3038.2.1.toNat (⟨s3038.1, y3056.Width, y3056.Store⟩ : Access)).set s3038.2.1.toNat (⟨y3061.Address, w64 (s3038.1 + 1), y3061.Store⟩ : Access)) s3038.2.1.toNat (⟨y3066.Address, y3066.Width, ((w64 ((w64 (s3038.1 + 1)) + 1)).tmod 3) == 0⟩ : Access)]) ?_
      refine W_conv 26 (.slice p2997 ((s3038.2.2.set s3038.2.1.toNat (⟨s3038.1, y3056.Width, y3056.Store⟩ : Access)).set s3038.2.1.toNat (⟨y3061.Address, w64 (s3038.1 + 1), y3061.Store⟩ : Access)).length c2998) (.slice p2997 (((s3038.2.2.set s3038.2.1.toNat (⟨s3038.1, y3056.Width, y3056.Store⟩ : Access)).set s3038.2.1.toNat (⟨y3061.Address, w64 (s3038.1 + 1), y3061.Store⟩ : Access)).set s3038.2.1.toNat (⟨y3066.Address, y3066.Width, ((w64 ((w64 (s3038.1 + 1)) + 1)).tmod 3) == 0⟩ : Access)).length c2998) (by kernel_rfl) (by rw [@List.length_set _ ((s3038.2.2.set s3038.2.1.toNat (⟨s3038.1, y3056.Width, y3056.Store⟩ : Access)).set s3038.2.1.toNat (⟨y3061.Address, w64 (s3038.1 + 1), y3061.Store⟩ : Access)) s3038.2.1.toNat (⟨y3066.Address, y3066.Width, ((w64 ((w64 (s3038.1 + 1)) + 1)).tmod 3) == 0⟩ : Access)]) ?_
      refine W_nil ?_
      refine N_then ?_
      refine G_region ?_
      refine W_run 3 [(0, .slice p2997 (((s3038.2.2.set s3038.2.1.toNat (⟨s3038.1, y3056.Width, y3056.Store⟩ : Access)).set s3038.2.1.toNat (⟨y3061.Address, w64 (s3038.1 + 1), y3061.Store⟩ : Access)).set s3038.2.1.toNat (⟨y3066.Address, y3066.Width, ((w64 ((w64 (s3038.1 + 1)) + 1)).tmod 3) == 0⟩ : Access)).length c2998), (1, .int .i64 (w64 ((w64 ((w64 (s3038.1 + 1)) + 1)) + 1))), (5, .int .i64 s3038.2.1)] w3067 (by kernel_rfl) ?_
      refine W_nil ?_
      refine N_block ?_
      refine N_then ?_
      refine G_region ?_
      refine W_run 3 [(0, .slice p2997 (((s3038.2.2.set s3038.2.1.toNat (⟨s3038.1, y3056.Width, y3056.Store⟩ : Access)).set s3038.2.1.toNat (⟨y3061.Address, w64 (s3038.1 + 1), y3061.Store⟩ : Access)).set s3038.2.1.toNat (⟨y3066.Address, y3066.Width, ((w64 ((w64 (s3038.1 + 1)) + 1)).tmod 3) == 0⟩ : Access)).length c2998), (1, .int .i64 (w64 ((w64 ((w64 (s3038.1 + 1)) + 1)) + 1))), (5, .int .i64 (w64 (s3038.2.1 + 1)))] w3067 (by kernel_rfl) ?_
      refine W_nil ?_
      obtain rfl := Option.some.inj hm
      exact N_loop fun a ha => ⟨_, rfl, sg3069, ho3070, (List.length_set.trans (List.length_set.trans (List.length_set.trans hl3050))), M3068.pick [0] (by kernel_rfl), ha.sub (by kernel_rfl)⟩
    · refine G_cond_f (b := (decide (s3038.2.1 < (s3038.2.2.length : Int)))) hc3055 (by kernel_rfl) ?_
      refine G_exit ?_
      refine N_then_exit ?_
      refine N_then_exit ?_
      refine N_block_eq ?_
      obtain rfl := Option.some.inj hm
      obtain rfl := hout3040 _ rfl
      exact N_meet fun a ha => ⟨sg3048, ho3049, hl3050, M3043.pick [0] (by kernel_rfl), ha.sub (by kernel_rfl)⟩
  · intro a3071 w3072 ⟨sg3052, ho3053, hl3054, M3073, hS3074⟩
    refine N_use hS3074 ?_
    have hm := hmo3047
    refine N_then ?_
    refine G_seq ?_
    refine G_region ?_
    refine W_run 2 [(4, .int .i64 out3045.1)] w3072 (by kernel_rfl) ?_
    refine W_nil ?_
    refine N_then ?_
    refine G_ret ?_
    obtain rfl := Option.some.inj hm
    refine N_ret [.int .i64 out3045.1] (RVs_cons (RV_tmp (by kernel_rfl)) RVs_nil) ?_
    exact ⟨sg3052, rfl, ho3053, hl3054, M3073.pick [0] (by kernel_rfl)⟩
theorem c_l_heldAccessS (w : World) (x3082 : List Access) (p3084 : Option Addr) (c3085 : Nat) (h3086 : rdS encAccess w x3082 p3084 c3085) (x3087 : Int) {r : Int} (hm : M.l_heldAccessS x3082 x3087 = some r) :
    Calls Try.prog 31 #[.slice p3084 x3082.length c3085, .int .i64 x3087] w fun e w' => e = .returned (.int .i64 r) ∧ Mem [] w w' [] := by
  unfold M.l_heldAccessS at hm
  refine C_enter Try.func31 rfl (by kernel_rfl) ?_
  have M0 := Mem.refl [] w
  refine G_seq ?_
  refine G_region ?_
  refine W_run 1 [(0, .slice p3084 x3082.length c3085), (1, .int .i64 x3087)] w (by kernel_rfl) ?_
  refine W_nil ?_
  refine N_then ?_
  refine G_seq ?_
  refine G_seq ?_
  refine G_region ?_
  refine W_run 1 [(0, .slice p3084 x3082.length c3085), (1, .int .i64 x3087), (5, .int .i64 0)] w (by kernel_rfl) ?_
  refine W_nil ?_
  refine N_then ?_
  obtain ⟨out3109, hw3110, hmo3111⟩ := gx_bind hm
  refine G_meet (fun a w' => ∃ (o3112 : Int), out3109 = .inl o3112 ∧ Mem [] w w' [] ∧ Sat Try.f31.ntmps [(1, .int .i64 o3112)] a) ?_ ?_
  · refine G_block ?_
    refine G_while (σ := Int × Int) (ρ := (Int) ⊕ (Int)) (fun s3102 a w' => Mem [] w w' [] ∧ Sat Try.f31.ntmps [(0, .slice p3084 x3082.length c3085), (1, .int .i64 s3102.1), (5, .int .i64 s3102.2)] a) hw3110 (fun a ha => ⟨M0.pick [] (by kernel_rfl), ha.sub (by kernel_rfl)⟩) ?_
    clear hm
    intro s3102 x3103 hm hout3104 a3105 w3106 ⟨M3107, hS3108⟩
    refine G_use hS3108 ?_
    refine G_seq ?_
    refine G_seq ?_
    refine G_region ?_
    refine W_run 4 [(0, .slice p3084 x3082.length c3085), (1, .int .i64 s3102.1), (5, .int .i64 s3102.2), (9, .bool (decide (s3102.2 < (x3082.length : Int))))] w3106 (by kernel_rfl) ?_
    refine W_nil ?_
    refine N_then ?_
    rcases gx_bif hm with ⟨hc3113, hm⟩ | ⟨hc3113, hm⟩
    · refine G_cond_t (b := (decide (s3102.2 < (x3082.length : Int)))) hc3113 (by kernel_rfl) ?_
      refine G_skip ?_
      refine N_then ?_
      refine G_seq ?_
      refine G_block ?_
      refine G_seq ?_
      refine G_seq ?_
      refine G_region ?_
      refine W_run 2 [(0, .slice p3084 x3082.length c3085), (1, .int .i64 s3102.1), (5, .int .i64 s3102.2), (12, .slice p3084 x3082.length c3085), (13, .int .i64 s3102.2)] w3106 (by kernel_rfl) ?_
      obtain ⟨y3114, hy3114, hm⟩ := gx_bind hm
      refine W_val (elemP p3084 (s3102.2.toNat * 3)) w3106 (by kernel_rfl) (E_index (E := encAccess) _ _ _ x3082.length c3085 .i64 s3102.2 3 (y := y3114) rfl (by kernel_rfl) (by kernel_rfl) (by kernel_rfl) (h3086.mem0 M3107) rfl hy3114) ?_
      refine W_val (elemP p3084 (s3102.2.toNat * 3 + 0)) w3106 (by kernel_rfl) (E_fieldE (E := encAccess) _ _ 0 (s3102.2.toNat * 3) 0 rfl (by kernel_rfl) (by kernel_rfl) (h3086.mem0 M3107) hy3114) ?_
      refine W_val (.int .i64 y3114.Address) w3106 (by kernel_rfl) (E_loadE (E := encAccess) _ _ false 1 s3102.2 0 (s3102.2.toNat * 3 + 0) y3114 (.int .i64 y3114.Address) rfl (by kernel_rfl) (by kernel_rfl) (by kernel_rfl) (h3086.mem0 M3107) hy3114 rfl) ?_
      refine W_run 2 [(0, .slice p3084 x3082.length c3085), (1, .int .i64 s3102.1), (5, .int .i64 s3102.2), (18, .bool (y3114.Address != s3102.1))] w3106 (by kernel_rfl) ?_
      refine W_nil ?_
      refine N_then ?_
      rcases gx_bif hm with ⟨hc3115, hm⟩ | ⟨hc3115, hm⟩
      · refine G_cond_t (b := (y3114.Address != s3102.1)) hc3115 (by kernel_rfl) ?_
        refine G_seq ?_
        refine G_region ?_
        refine W_run 1 [(4, .int .i64 (-1))] w3106 (by kernel_rfl) ?_
        refine W_nil ?_
        refine N_then ?_
        refine G_ret ?_
        refine N_then_ret ?_
        refine N_block_ret ?_
        refine N_then_ret ?_
        refine N_then_ret ?_
        obtain rfl := Option.some.inj hm
        obtain rfl := hout3104 _ rfl
        have hm := hmo3111; simp only [Sum.elim_inr] at hm
        refine N_block_ret ?_
        refine N_meet_ret ?_
        refine N_then_ret ?_
        obtain rfl := Option.some.inj hm
        refine N_ret [.int .i64 (-1)] (RVs_cons (RV_tmp (by kernel_rfl)) RVs_nil) ?_
        exact ⟨rfl, M3107.pick [] (by kernel_rfl)⟩
      · refine G_cond_f (b := (y3114.Address != s3102.1)) hc3115 (by kernel_rfl) ?_
        refine G_skip ?_
        refine N_then ?_
        refine G_seq ?_
        refine G_region ?_
        refine W_run 3 [(0, .slice p3084 x3082.length c3085), (1, .int .i64 (w64 (s3102.1 + 1))), (5, .int .i64 s3102.2)] w3106 (by kernel_rfl) ?_
        refine W_nil ?_
        refine N_then ?_
        refine G_seq ?_
        refine G_seq ?_
        refine G_region ?_
        refine W_run 2 [(0, .slice p3084 x3082.length c3085), (1, .int .i64 (w64 (s3102.1 + 1))), (5, .int .i64 s3102.2), (21, .slice p3084 x3082.length c3085), (22, .int .i64 s3102.2)] w3106 (by kernel_rfl) ?_
        obtain ⟨y3116, hy3116, hm⟩ := gx_bind hm
        refine W_val (elemP p3084 (s3102.2.toNat * 3)) w3106 (by kernel_rfl) (E_index (E := encAccess) _ _ _ x3082.length c3085 .i64 s3102.2 3 (y := y3116) rfl (by kernel_rfl) (by kernel_rfl) (by kernel_rfl) (h3086.mem0 M3107) rfl hy3116) ?_
        refine W_val (elemP p3084 (s3102.2.toNat * 3 + 1)) w3106 (by kernel_rfl) (E_fieldE (E := encAccess) _ _ 1 (s3102.2.toNat * 3) 1 rfl (by kernel_rfl) (by kernel_rfl) (h3086.mem0 M3107) hy3116) ?_
        refine W_val (.int .i64 y3116.Width) w3106 (by kernel_rfl) (E_loadE (E := encAccess) _ _ false 1 s3102.2 1 (s3102.2.toNat * 3 + 1) y3116 (.int .i64 y3116.Width) rfl (by kernel_rfl) (by kernel_rfl) (by kernel_rfl) (h3086.mem0 M3107) hy3116 rfl) ?_
        refine W_run 2 [(0, .slice p3084 x3082.length c3085), (1, .int .i64 (w64 (s3102.1 + 1))), (5, .int .i64 s3102.2), (27, .bool (y3116.Width != (w64 (s3102.1 + 1))))] w3106 (by kernel_rfl) ?_
        refine W_nil ?_
        refine N_then ?_
        rcases gx_bif hm with ⟨hc3117, hm⟩ | ⟨hc3117, hm⟩
        · refine G_cond_t (b := (y3116.Width != (w64 (s3102.1 + 1)))) hc3117 (by kernel_rfl) ?_
          refine G_seq ?_
          refine G_region ?_
          refine W_run 1 [(4, .int .i64 (-1))] w3106 (by kernel_rfl) ?_
          refine W_nil ?_
          refine N_then ?_
          refine G_ret ?_
          refine N_then_ret ?_
          refine N_block_ret ?_
          refine N_then_ret ?_
          refine N_then_ret ?_
          obtain rfl := Option.some.inj hm
          obtain rfl := hout3104 _ rfl
          have hm := hmo3111; simp only [Sum.elim_inr] at hm
          refine N_block_ret ?_
          refine N_meet_ret ?_
          refine N_then_ret ?_
          obtain rfl := Option.some.inj hm
          refine N_ret [.int .i64 (-1)] (RVs_cons (RV_tmp (by kernel_rfl)) RVs_nil) ?_
          exact ⟨rfl, M3107.pick [] (by kernel_rfl)⟩
        · refine G_cond_f (b := (y3116.Width != (w64 (s3102.1 + 1)))) hc3117 (by kernel_rfl) ?_
          refine G_skip ?_
          refine N_then ?_
          refine G_seq ?_
          refine G_region ?_
          refine W_run 3 [(0, .slice p3084 x3082.length c3085), (1, .int .i64 (w64 ((w64 (s3102.1 + 1)) + 1))), (5, .int .i64 s3102.2)] w3106 (by kernel_rfl) ?_
          refine W_nil ?_
          refine N_then ?_
          refine G_seq ?_
          refine G_seq ?_
          refine G_region ?_
          refine W_run 2 [(0, .slice p3084 x3082.length c3085), (1, .int .i64 (w64 ((w64 (s3102.1 + 1)) + 1))), (5, .int .i64 s3102.2), (30, .slice p3084 x3082.length c3085), (31, .int .i64 s3102.2)] w3106 (by kernel_rfl) ?_
          obtain ⟨y3118, hy3118, hm⟩ := gx_bind hm
          refine W_val (elemP p3084 (s3102.2.toNat * 3)) w3106 (by kernel_rfl) (E_index (E := encAccess) _ _ _ x3082.length c3085 .i64 s3102.2 3 (y := y3118) rfl (by kernel_rfl) (by kernel_rfl) (by kernel_rfl) (h3086.mem0 M3107) rfl hy3118) ?_
          refine W_val (elemP p3084 (s3102.2.toNat * 3 + 2)) w3106 (by kernel_rfl) (E_fieldE (E := encAccess) _ _ 2 (s3102.2.toNat * 3) 2 rfl (by kernel_rfl) (by kernel_rfl) (h3086.mem0 M3107) hy3118) ?_
          refine W_val (.bool y3118.Store) w3106 (by kernel_rfl) (E_loadE (E := encAccess) _ _ false 1 s3102.2 2 (s3102.2.toNat * 3 + 2) y3118 (.bool y3118.Store) rfl (by kernel_rfl) (by kernel_rfl) (by kernel_rfl) (h3086.mem0 M3107) hy3118 rfl) ?_
          refine W_run 4 [(0, .slice p3084 x3082.length c3085), (1, .int .i64 (w64 ((w64 (s3102.1 + 1)) + 1))), (5, .int .i64 s3102.2), (38, .bool (!(y3118.Store == (((w64 ((w64 (s3102.1 + 1)) + 1)).tmod 3) == 0))))] w3106 (by kernel_rfl) ?_
          refine W_nil ?_
          refine N_then ?_
          rcases gx_bif hm with ⟨hc3119, hm⟩ | ⟨hc3119, hm⟩
          · refine G_cond_t (b := (!(y3118.Store == (((w64 ((w64 (s3102.1 + 1)) + 1)).tmod 3) == 0)))) hc3119 (by kernel_rfl) ?_
            refine G_seq ?_
            refine G_region ?_
            refine W_run 1 [(4, .int .i64 (-1))] w3106 (by kernel_rfl) ?_
            refine W_nil ?_
            refine N_then ?_
            refine G_ret ?_
            refine N_then_ret ?_
            refine N_block_ret ?_
            refine N_then_ret ?_
            refine N_then_ret ?_
            obtain rfl := Option.some.inj hm
            obtain rfl := hout3104 _ rfl
            have hm := hmo3111; simp only [Sum.elim_inr] at hm
            refine N_block_ret ?_
            refine N_meet_ret ?_
            refine N_then_ret ?_
            obtain rfl := Option.some.inj hm
            refine N_ret [.int .i64 (-1)] (RVs_cons (RV_tmp (by kernel_rfl)) RVs_nil) ?_
            exact ⟨rfl, M3107.pick [] (by kernel_rfl)⟩
          · refine G_cond_f (b := (!(y3118.Store == (((w64 ((w64 (s3102.1 + 1)) + 1)).tmod 3) == 0)))) hc3119 (by kernel_rfl) ?_
            refine G_skip ?_
            refine N_then ?_
            refine G_region ?_
            refine W_run 3 [(0, .slice p3084 x3082.length c3085), (1, .int .i64 (w64 ((w64 ((w64 (s3102.1 + 1)) + 1)) + 1))), (5, .int .i64 s3102.2)] w3106 (by kernel_rfl) ?_
            refine W_nil ?_
            refine N_block ?_
            refine N_then ?_
            refine G_region ?_
            refine W_run 3 [(0, .slice p3084 x3082.length c3085), (1, .int .i64 (w64 ((w64 ((w64 (s3102.1 + 1)) + 1)) + 1))), (5, .int .i64 (w64 (s3102.2 + 1)))] w3106 (by kernel_rfl) ?_
            refine W_nil ?_
            obtain rfl := Option.some.inj hm
            exact N_loop fun a ha => ⟨_, rfl, M3107.pick [] (by kernel_rfl), ha.sub (by kernel_rfl)⟩
    · refine G_cond_f (b := (decide (s3102.2 < (x3082.length : Int)))) hc3113 (by kernel_rfl) ?_
      refine G_exit ?_
      refine N_then_exit ?_
      refine N_then_exit ?_
      refine N_block_eq ?_
      obtain rfl := Option.some.inj hm
      obtain rfl := hout3104 _ rfl
      exact N_meet fun a ha => ⟨_, rfl, M3107.pick [] (by kernel_rfl), ha.sub (by kernel_rfl)⟩
  · intro a3120 w3121 ⟨o3112, hout_, M3122, hS3123⟩
    refine N_use hS3123 ?_
    subst hout_
    have hm := hmo3111; simp only [Sum.elim_inl] at hm
    refine N_then ?_
    refine G_seq ?_
    refine G_region ?_
    refine W_run 2 [(4, .int .i64 o3112)] w3121 (by kernel_rfl) ?_
    refine W_nil ?_
    refine N_then ?_
    refine G_ret ?_
    obtain rfl := Option.some.inj hm
    refine N_ret [.int .i64 o3112] (RVs_cons (RV_tmp (by kernel_rfl)) RVs_nil) ?_
    exact ⟨rfl, M3122.pick [] (by kernel_rfl)⟩
end Go.Proofs.Ytphinfkojhecdaa
