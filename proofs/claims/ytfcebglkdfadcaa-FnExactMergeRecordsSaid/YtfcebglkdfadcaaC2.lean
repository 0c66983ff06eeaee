/- The walks, printed by program: whenever the model gives r, the call returns r. Part 2. -/
import Derived.Test.YtfcebglkdfadcaaM
import Derived.Test.YtfcebglkdfadcaaProg
import Derived.Test.YtfcebglkdfadcaaSh
import Derived.Test.YtfcebglkdfadcaaC1
set_option linter.unusedVariables false
set_option maxRecDepth 100000
set_option maxHeartbeats 4000000
namespace Go.Proofs.Ytfcebglkdfadcaa
open Go.Gx
theorem c_i_EventsOf (w : World) (x1643 : List Event) (p1645 : Option Addr) (c1646 : Nat) (h1647 : rdS encEvent w x1643 p1645 c1646) (x1648 : Int) {r : (List Event) × Bool} (hm : M.i_EventsOf x1643 x1648 = some r) :
    Calls Try.prog 27 #[.slice p1645 x1643.length c1646, .int .i64 x1648] w fun e w' => ∃ (p1650 : Option Addr) (c1651 : Nat) (sg1652 : Seg), e = .returned (.tuple #[.slice p1650 r.1.length c1651, .bool r.2]) ∧ ownS encEvent r.1 p1650 c1651 sg1652 ∧ Mem [] w w' [sg1652] := by
  unfold M.i_EventsOf at hm
  refine C_enter Try.func27 rfl (by kernel_rfl) ?_
  have M0 := Mem.refl [] w
  refine G_seq ?_
  refine G_region ?_
  refine W_new (fun b => .pointer (some ⟨b, 0, none⟩)) (.cells ⟨[.int .i64 x1648]⟩ 3 (0, 0)) M0 rfl (by kernel_rfl) (by kernel_rfl) ?_
  intro b1654 w1655 M1656
  refine W_run 2 [(0, .slice p1645 x1643.length c1646), (3, .pointer (some ⟨b1654, 0, none⟩))] w1655 (by kernel_rfl) ?_
  refine W_nil ?_
  refine N_then ?_
  refine G_seq ?_
  refine G_seq ?_
  obtain ⟨o1667, ho1668, hm1669⟩ := gx_bind hm
  refine G_meet (fun a w' => Mem [] w w' [[(b1654, .cells ⟨[.int .i64 x1648]⟩ 3 (0, 0))]] ∧ Sat Try.f27.ntmps [(0, .slice p1645 x1643.length c1646), (3, .pointer (some ⟨b1654, 0, none⟩)), (13, .bool o1667)] a) ?_ ?_
  · have hm := ho1668
    refine G_region ?_
    refine W_run 1 [(0, .slice p1645 x1643.length c1646), (3, .pointer (some ⟨b1654, 0, none⟩)), (6, .slice p1645 x1643.length c1646)] w1655 (by kernel_rfl) ?_
    obtain ⟨r1670, hr1670, hm⟩ := gx_bind hm
    refine W_call 20 #[.slice p1645 x1643.length c1646] (by kernel_rfl) (by kernel_rfl) ?_
    refine (c_i_IsRecord w1655 x1643 p1645 c1646 (h1647.mem0 M1656) hr1670).mono ?_
    rintro e_ w1671 ⟨rfl, K1672⟩
    have M1673 := M1656.call0 K1672
    refine ⟨_, rfl, ?_⟩
    refine W_run 2 [(0, .slice p1645 x1643.length c1646), (3, .pointer (some ⟨b1654, 0, none⟩)), (9, .bool (!r1670))] w1671 (by kernel_rfl) ?_
    rcases gx_bif hm with ⟨hc1674, hm⟩ | ⟨hc1674, hm⟩
    · refine W_known 9 true (by kernel_rfl) hc1674 ?_
      refine W_run 4 [(0, .slice p1645 x1643.length c1646), (3, .pointer (some ⟨b1654, 0, none⟩)), (13, .bool true)] w1671 (by kernel_rfl) ?_
      refine W_nil ?_
      obtain rfl := Option.some.inj hm
      exact N_meet fun a ha => ⟨M1673.pick [0] (by kernel_rfl), ha.sub (by kernel_rfl)⟩
    refine W_known 9 false (by kernel_rfl) hc1674 ?_
    refine W_val (.int .i64 x1648) w1671 (by kernel_rfl) (E_load (e := 3) (fr := (0, 0)) _ _ false 1 b1654 0 [.int .i64 x1648] (.int .i64 x1648) rfl (by kernel_rfl) (by kernel_rfl) (by kernel_rfl) (M1673.blk 0 (b := b1654) (o := .cells ⟨[.int .i64 x1648]⟩ 3 (0, 0)) (by kernel_rfl))) ?_
    obtain ⟨r1675, hr1675, hm⟩ := gx_bind hm
    refine W_call 53 #[.int .i64 x1648] (by kernel_rfl) (by kernel_rfl) ?_
    refine (c_i_isParty w1671 x1648 hr1675).mono ?_
    rintro e_ w1676 ⟨rfl, K1677⟩
    have M1678 := M1673.call0 K1677
    refine ⟨_, rfl, ?_⟩
    refine W_run 2 [(0, .slice p1645 x1643.length c1646), (3, .pointer (some ⟨b1654, 0, none⟩)), (13, .bool (!r1675))] w1676 (by kernel_rfl) ?_
    refine W_nil ?_
    obtain rfl := Option.some.inj hm
    exact N_meet fun a ha => ⟨M1678.pick [0] (by kernel_rfl), ha.sub (by kernel_rfl)⟩
  intro a1681 w1679 ⟨M1680, hS1682⟩
  refine N_use hS1682 ?_
  have hm := hm1669
  refine N_then ?_
  rcases gx_bif hm with ⟨hc1683, hm⟩ | ⟨hc1683, hm⟩
  · refine G_cond_t (b := o1667) hc1683 (by kernel_rfl) ?_
    refine G_seq ?_
    refine G_region ?_
    refine W_run 2 [(4, .slice none 0 0), (5, .bool false)] w1679 (by kernel_rfl) ?_
    refine W_nil ?_
    refine N_then ?_
    refine G_ret ?_
    refine N_then_ret ?_
    obtain rfl := Option.some.inj hm
    refine N_ret [.slice none 0 0, .bool false] (RVs_cons (RV_tmp (by kernel_rfl)) (RVs_cons (RV_tmp (by kernel_rfl)) RVs_nil)) ?_
    exact ⟨none, 0, [], rfl, ownS_nil, M1680.pick [100000] (by kernel_rfl)⟩
  refine G_cond_f (b := o1667) hc1683 (by kernel_rfl) ?_
  refine G_skip ?_
  refine N_then ?_
  refine G_seq ?_
  refine G_region ?_
  refine W_run 2 [(14, .slice p1645 x1643.length c1646), (15, .func (.func 63) #[] #[.pointer (some ⟨b1654, 0, none⟩)])] w1679 (by kernel_rfl) ?_
  obtain ⟨r2012, hr2012, hm⟩ := gx_bind hm
  refine W_call 62 #[.slice p1645 x1643.length c1646, .func (.func 63) #[] #[.pointer (some ⟨b1654, 0, none⟩)]] (by kernel_rfl) (by kernel_rfl) ?_
  refine (c_i_eventsWhere__i_EventsOf_1 w1679 x1643 p1645 c1646 (h1647.mem0 M1680) x1648 b1654 (M1680.blk 0 (b := b1654) (o := .cells ⟨[.int .i64 x1648]⟩ 3 (0, 0)) (by kernel_rfl)) hr2012).mono ?_
  rintro e_ w2018 ⟨p2014, c2015, sg2016, rfl, ho2017, K2019⟩
  have M2020 := M1680.call K2019
  refine ⟨_, rfl, ?_⟩
  refine W_run 2 [(4, .slice p2014 r2012.length c2015), (5, .bool true)] w2018 (by kernel_rfl) ?_
  refine W_nil ?_
  refine N_then ?_
  refine G_ret ?_
  obtain rfl := Option.some.inj hm
  refine N_ret [.slice p2014 r2012.length c2015, .bool true] (RVs_cons (RV_tmp (by kernel_rfl)) (RVs_cons (RV_tmp (by kernel_rfl)) RVs_nil)) ?_
  exact ⟨p2014, c2015, sg2016, rfl, ho2017, M2020.pick [1] (by kernel_rfl)⟩
theorem c_l_markText (w : World) (x2083 : Int) {r : ByteArray} (hm : M.l_markText x2083 = some r) :
    Calls Try.prog 64 #[.int .i64 x2083] w fun e w' => e = .returned (.string r) ∧ Mem [] w w' [] := by
  unfold M.l_markText at hm
  refine C_enter Try.func64 rfl (by kernel_rfl) ?_
  have M0 := Mem.refl [] w
  refine G_seq ?_
  refine G_region ?_
  refine W_run 1 [(0, .int .i64 x2083)] w (by kernel_rfl) ?_
  refine W_nil ?_
  refine N_then ?_
  refine G_seq ?_
  refine G_seq ?_
  refine G_region ?_
  refine W_run 2 [(0, .int .i64 x2083), (5, .bool (decide (x2083 ≤ 0)))] w (by kernel_rfl) ?_
  refine W_nil ?_
  refine N_then ?_
  rcases gx_bif hm with ⟨hc2084, hm⟩ | ⟨hc2084, hm⟩
  · refine G_cond_t (b := (decide (x2083 ≤ 0))) hc2084 (by kernel_rfl) ?_
    refine G_seq ?_
    refine G_region ?_
    refine W_run 1 [(2, .string (ByteArray.mk #[109, 48]))] w (by kernel_rfl) ?_
    refine W_nil ?_
    refine N_then ?_
    refine G_ret ?_
    refine N_then_ret ?_
    obtain rfl := Option.some.inj hm
    refine N_ret [.string (ByteArray.mk #[109, 48])] (RVs_cons (RV_tmp (by kernel_rfl)) RVs_nil) ?_
    exact ⟨rfl, M0.pick [] (by kernel_rfl)⟩
  refine G_cond_f (b := (decide (x2083 ≤ 0))) hc2084 (by kernel_rfl) ?_
  refine G_skip ?_
  refine N_then ?_
  refine G_seq ?_
  refine G_region ?_
  refine W_run 1 [(0, .int .i64 x2083), (3, .string (ByteArray.mk #[]))] w (by kernel_rfl) ?_
  refine W_nil ?_
  refine N_then ?_
  refine G_seq ?_
  obtain ⟨out2110, hw2111, hmo2112⟩ := gx_bind hm
  refine G_meet (fun a w' => Mem [] w w' [] ∧ Sat Try.f64.ntmps [(3, .string out2110)] a) ?_ ?_
  · refine G_block ?_
    refine G_while (σ := Int × ByteArray) (ρ := ByteArray) (fun s2103 a w' => Mem [] w w' [] ∧ Sat Try.f64.ntmps [(0, .int .i64 s2103.1), (3, .string s2103.2)] a) hw2111 (fun a ha => ⟨M0.pick [] (by kernel_rfl), ha.sub (by kernel_rfl)⟩) ?_
    clear hm
    intro s2103 x2104 hm hout2105 a2106 w2107 ⟨M2108, hS2109⟩
    refine G_use hS2109 ?_
    refine G_seq ?_
    refine G_seq ?_
    refine G_region ?_
    refine W_run 2 [(0, .int .i64 s2103.1), (3, .string s2103.2), (7, .bool (decide (s2103.1 > 0)))] w2107 (by kernel_rfl) ?_
    refine W_nil ?_
    refine N_then ?_
    rcases gx_bif hm with ⟨hc2114, hm⟩ | ⟨hc2114, hm⟩
    · refine G_cond_t (b := (decide (s2103.1 > 0))) hc2114 (by kernel_rfl) ?_
      refine G_skip ?_
      refine N_then ?_
      refine G_block ?_
      refine G_seq ?_
      refine G_region ?_
      refine W_run 4 [(0, .int .i64 s2103.1), (3, .string s2103.2), (11, .int .u8 (IntKind.u8.wrap (w64 (48 + (s2103.1.tmod 10)))))] w2107 (by kernel_rfl) ?_
      refine W_lit (E := Gx.encU8) [IntKind.u8.wrap (w64 (48 + (s2103.1.tmod 10)))] 1 [.int .u8 (IntKind.u8.wrap (w64 (48 + (s2103.1.tmod 10))))] 5 M2108 (by kernel_rfl) (by kernel_rfl) (by kernel_rfl) (by kernel_rfl) (by kernel_rfl) ?_
      intro p2115 c2116 sg2117 w2118 ho2119 M2120
      refine W_val (.string (gxStr [IntKind.u8.wrap (w64 (48 + (s2103.1.tmod 10)))])) w2118 (by kernel_rfl) (E_bytesStr _ _ 5 _ [IntKind.u8.wrap (w64 (48 + (s2103.1.tmod 10)))] rfl (by kernel_rfl) (by kernel_rfl) (by kernel_rfl) (by kernel_rfl) (ho2119.rd M2120 0 (by kernel_rfl))) ?_
      refine W_run 1 [(0, .int .i64 s2103.1), (3, .string s2103.2), (13, .string (gxStr [IntKind.u8.wrap (w64 (48 + (s2103.1.tmod 10)))])), (14, .string s2103.2)] w2118 (by kernel_rfl) ?_
      obtain ⟨q2122, hq2122, hm⟩ := gx_bind hm
      refine W_val (.string q2122) w2118 (by kernel_rfl) (E_strCat _ _ _ _ (gxStr [IntKind.u8.wrap (w64 (48 + (s2103.1.tmod 10)))]) s2103.2 q2122 rfl (by kernel_rfl) (by kernel_rfl) hq2122) ?_
      refine W_run 1 [(0, .int .i64 s2103.1), (3, .string q2122)] w2118 (by kernel_rfl) ?_
      refine W_nil ?_
      refine N_then ?_
      refine G_region ?_
      refine W_run 3 [(0, .int .i64 (w64 (s2103.1.tdiv 10))), (3, .string q2122)] w2118 (by kernel_rfl) ?_
      refine W_nil ?_
      refine N_block ?_
      obtain rfl := Option.some.inj hm
      exact N_loop fun a ha => ⟨_, rfl, M2120.pick [] (by kernel_rfl), ha.sub (by kernel_rfl)⟩
    refine G_cond_f (b := (decide (s2103.1 > 0))) hc2114 (by kernel_rfl) ?_
    refine G_exit ?_
    refine N_then_exit ?_
    refine N_then_exit ?_
    refine N_block_eq ?_
    obtain rfl := Option.some.inj hm
    obtain rfl := hout2105 _ rfl
    exact N_meet fun a ha => ⟨M2108.pick [] (by kernel_rfl), ha.sub (by kernel_rfl)⟩
  intro a2123 w2124 ⟨M2125, hS2126⟩
  refine N_use hS2126 ?_
  have hm := hmo2112
  refine N_then ?_
  refine G_seq ?_
  refine G_region ?_
  refine W_run 1 [(18, .string out2110)] w2124 (by kernel_rfl) ?_
  obtain ⟨q2127, hq2127, hm⟩ := gx_bind hm
  refine W_val (.string q2127) w2124 (by kernel_rfl) (E_strCat _ _ _ _ (ByteArray.mk #[109]) out2110 q2127 rfl (by kernel_rfl) (by kernel_rfl) hq2127) ?_
  refine W_run 1 [(2, .string q2127)] w2124 (by kernel_rfl) ?_
  refine W_nil ?_
  refine N_then ?_
  refine G_ret ?_
  obtain rfl := Option.some.inj hm
  refine N_ret [.string q2127] (RVs_cons (RV_tmp (by kernel_rfl)) RVs_nil) ?_
  exact ⟨rfl, M2125.pick [] (by kernel_rfl)⟩
theorem c_l_markEventS (w : World) (x2062 : List Event) (p2064 : Option Addr) (c2065 : Nat) (sg2066 : Seg) (ho2067 : ownS encEvent x2062 p2064 c2065 sg2066) (x2068 : Int) (hA : ∀ q ∈ List.flatten [sg2066], w.heap[q.1]? = some q.2) (hN : (idsOf [sg2066]).Nodup) {r : Int × (List Event)} (hm : M.l_markEventS x2062 x2068 = some r) :
    Calls Try.prog 28 #[.slice p2064 x2062.length c2065, .int .i64 x2068] w fun e w' => ∃ (sg2069 : Seg), e = .returned (.int .i64 r.1) ∧ ownS encEvent r.2 p2064 c2065 sg2069 ∧ r.2.length = x2062.length ∧ Mem (idsOf [sg2066]) w w' [sg2069] := by
  unfold M.l_markEventS at hm
  refine C_enter Try.func28 rfl (by kernel_rfl) ?_
  have M0 := Mem.start' w [sg2066] hA hN
  refine G_seq ?_
  refine G_region ?_
  refine W_run 1 [(0, .slice p2064 x2062.length c2065), (1, .int .i64 x2068)] w (by kernel_rfl) ?_
  refine W_nil ?_
  refine N_then ?_
  refine G_seq ?_
  refine G_seq ?_
  refine G_region ?_
  refine W_run 1 [(0, .slice p2064 x2062.length c2065), (1, .int .i64 x2068), (5, .int .i64 0)] w (by kernel_rfl) ?_
  refine W_nil ?_
  refine N_then ?_
  obtain ⟨out2183, hw2184, hmo2185⟩ := gx_bind hm
  refine G_meet (fun a w' => ∃ (sg2190 : Seg), ownS encEvent out2183.2 p2064 c2065 sg2190 ∧ out2183.2.length = x2062.length ∧ Mem (idsOf [sg2066]) w w' [sg2190] ∧ Sat Try.f28.ntmps [(1, .int .i64 out2183.1)] a) ?_ ?_
  · refine G_block ?_
    refine G_while (σ := Int × Int × List Event) (ρ := Int × List Event) (fun s2176 a w' => ∃ (sg2186 : Seg), ownS encEvent s2176.2.2 p2064 c2065 sg2186 ∧ s2176.2.2.length = x2062.length ∧ Mem (idsOf [sg2066]) w w' [sg2186] ∧ Sat Try.f28.ntmps [(0, .slice p2064 s2176.2.2.length c2065), (1, .int .i64 s2176.1), (5, .int .i64 s2176.2.1)] a) hw2184 (fun a ha => ⟨sg2066, ho2067, rfl, M0.pick [0] (by kernel_rfl), ha.sub (by kernel_rfl)⟩) ?_
    clear hm
    intro s2176 x2177 hm hout2178 a2179 w2180 ⟨sg2186, ho2187, hl2188, M2181, hS2182⟩
    refine G_use hS2182 ?_
    refine G_seq ?_
    refine G_seq ?_
    refine G_region ?_
    refine W_run 4 [(0, .slice p2064 s2176.2.2.length c2065), (1, .int .i64 s2176.1), (5, .int .i64 s2176.2.1), (9, .bool (decide (s2176.2.1 < (s2176.2.2.length : Int))))] w2180 (by kernel_rfl) ?_
    refine W_nil ?_
    refine N_then ?_
    rcases gx_bif hm with ⟨hc2193, hm⟩ | ⟨hc2193, hm⟩
    · refine G_cond_t (b := (decide (s2176.2.1 < (s2176.2.2.length : Int)))) hc2193 (by kernel_rfl) ?_
      refine G_skip ?_
      refine N_then ?_
      refine G_seq ?_
      refine G_block ?_
      refine G_seq ?_
      refine G_region ?_
      refine W_run 3 [(0, .slice p2064 s2176.2.2.length c2065), (1, .int .i64 s2176.1), (5, .int .i64 s2176.2.1), (12, .slice p2064 s2176.2.2.length c2065), (13, .int .i64 s2176.2.1), (14, .int .i64 s2176.1)] w2180 (by kernel_rfl) ?_
      obtain ⟨y2194, hy2194, hm⟩ := gx_bind hm
      refine W_val (elemP p2064 (s2176.2.1.toNat * 4)) w2180 (by kernel_rfl) (E_index (E := encEvent) _ _ _ s2176.2.2.length c2065 .i64 s2176.2.1 4 (y := y2194) rfl (by kernel_rfl) (by kernel_rfl) (by kernel_rfl) (ho2187.rd M2181 0 (by kernel_rfl)) rfl hy2194) ?_
      refine W_val (elemP p2064 (s2176.2.1.toNat * 4 + 0)) w2180 (by kernel_rfl) (E_fieldE (E := encEvent) _ _ 0 (s2176.2.1.toNat * 4) 0 rfl (by kernel_rfl) (by kernel_rfl) (ho2187.rd M2181 0 (by kernel_rfl)) hy2194) ?_
      refine W_storeE (E := encEvent) _ _ _ false 1 s2176.2.1.toNat 0 (s2176.2.1.toNat * 4 + 0) y2194 (⟨s2176.1, y2194.Guest, y2194.Kind, y2194.Value⟩ : Event) (.int .i64 s2176.1) 0 M2181 ho2187 (by kernel_rfl) (by kernel_rfl) rfl (by kernel_rfl) (by kernel_rfl) (by kernel_rfl) (by kernel_rfl) (by kernel_rfl) (by kernel_rfl) (by kernel_rfl) (gxIdx_spec hy2194).2 rfl ?_
      intro w2195 sg2197 ho2198 M2196
      have hput2199 := gxIdx_put (⟨s2176.1, y2194.Guest, y2194.Kind, y2194.Value⟩ : Event) hy2194
      refine W_conv 0 (.slice p2064 s2176.2.2.length c2065) (.slice p2064 (s2176.2.2.set s2176.2.1.toNat (⟨s2176.1, y2194.Guest, y2194.Kind, y2194.Value⟩ : Event)).length c2065) (by kernel_rfl) (by rw [@List.length_set _ s2176.2.2 s2176.2.1.toNat (⟨s2176.1, y2194.Guest, y2194.Kind, y2194.Value⟩ : Event)]) ?_
      refine W_conv 12 (.slice p2064 s2176.2.2.length c2065) (.slice p2064 (s2176.2.2.set s2176.2.1.toNat (⟨s2176.1, y2194.Guest, y2194.Kind, y2194.Value⟩ : Event)).length c2065) (by kernel_rfl) (by rw [@List.length_set _ s2176.2.2 s2176.2.1.toNat (⟨s2176.1, y2194.Guest, y2194.Kind, y2194.Value⟩ : Event)]) ?_
      refine W_nil ?_
      refine N_then ?_
      refine G_seq ?_
      refine G_region ?_
      refine W_run 3 [(0, .slice p2064 (s2176.2.2.set s2176.2.1.toNat (⟨s2176.1, y2194.Guest, y2194.Kind, y2194.Value⟩ : Event)).length c2065), (1, .int .i64 (w64 (s2176.1 + 1))), (5, .int .i64 s2176.2.1)] w2195 (by kernel_rfl) ?_
      refine W_nil ?_
      refine N_then ?_
      refine G_seq ?_
      refine G_region ?_
      refine W_run 3 [(0, .slice p2064 (s2176.2.2.set s2176.2.1.toNat (⟨s2176.1, y2194.Guest, y2194.Kind, y2194.Value⟩ : Event)).length c2065), (1, .int .i64 (w64 (s2176.1 + 1))), (5, .int .i64 s2176.2.1), (19, .slice p2064 (s2176.2.2.set s2176.2.1.toNat (⟨s2176.1, y2194.Guest, y2194.Kind, y2194.Value⟩ : Event)).length c2065), (20, .int .i64 s2176.2.1), (21, .int .i64 (w64 (s2176.1 + 1)))] w2195 (by kernel_rfl) ?_
      obtain ⟨y2200, hy2200, hm⟩ := gx_bind hm
      refine W_val (elemP p2064 (s2176.2.1.toNat * 4)) w2195 (by kernel_rfl) (E_index (E := encEvent) _ _ _ (s2176.2.2.set s2176.2.1.toNat (⟨s2176.1, y2194.Guest, y2194.Kind, y2194.Value⟩ : Event)).length c2065 .i64 s2176.2.1 4 (y := y2200) rfl (by kernel_rfl) (by kernel_rfl) (by kernel_rfl) (ho2198.rd M2196 0 (by kernel_rfl)) rfl hy2200) ?_
      refine W_val (elemP p2064 (s2176.2.1.toNat * 4 + 1)) w2195 (by kernel_rfl) (E_fieldE (E := encEvent) _ _ 1 (s2176.2.1.toNat * 4) 1 rfl (by kernel_rfl) (by kernel_rfl) (ho2198.rd M2196 0 (by kernel_rfl)) hput2199) ?_
      refine W_storeE (E := encEvent) _ _ _ false 1 s2176.2.1.toNat 1 (s2176.2.1.toNat * 4 + 1) (⟨s2176.1, y2194.Guest, y2194.Kind, y2194.Value⟩ : Event) (⟨(⟨s2176.1, y2194.Guest, y2194.Kind, y2194.Value⟩ : Event).Tick, w64 (s2176.1 + 1), (⟨s2176.1, y2194.Guest, y2194.Kind, y2194.Value⟩ : Event).Kind, (⟨s2176.1, y2194.Guest, y2194.Kind, y2194.Value⟩ : Event).Value⟩ : Event) (.int .i64 (w64 (s2176.1 + 1))) 0 M2196 ho2198 (by kernel_rfl) (by kernel_rfl) rfl (by kernel_rfl) (by kernel_rfl) (by kernel_rfl) (by kernel_rfl) (by kernel_rfl) (by kernel_rfl) (by kernel_rfl) (gxIdx_spec hput2199).2 rfl ?_
      intro w2201 sg2203 ho2204 M2202
      have hput2205 := gxIdx_put (⟨(⟨s2176.1, y2194.Guest, y2194.Kind, y2194.Value⟩ : Event).Tick, w64 (s2176.1 + 1), (⟨s2176.1, y2194.Guest, y2194.Kind, y2194.Value⟩ : Event).Kind, (⟨s2176.1, y2194.Guest, y2194.Kind, y2194.Value⟩ : Event).Value⟩ : Event) hput2199
      refine W_conv 0 (.slice p2064 (s2176.2.2.set s2176.2.1.toNat (⟨s2176.1, y2194.Guest, y2194.Kind, y2194.Value⟩ : Event)).length c2065) (.slice p2064 ((s2176.2.2.set s2176.2.1.toNat (⟨s2176.1, y2194.Guest, y2194.Kind, y2194.Value⟩ : Event)).set s2176.2.1.toNat (⟨(⟨s2176.1, y2194.Guest, y2194.Kind, y2194.Value⟩ : Event).Tick, w64 (s2176.1 + 1), (⟨s2176.1, y2194.Guest, y2194.Kind, y2194.Value⟩ : Event).Kind, (⟨s2176.1, y2194.Guest, y2194.Kind, y2194.Value⟩ : Event).Value⟩ : Event)).length c2065) (by kernel_rfl) (by rw [@List.length_set _ (s2176.2.2.set s2176.2.1.toNat (⟨s2176.1, y2194.Guest, y2194.Kind, y2194.Value⟩ : Event)) s2176.2.1.toNat (⟨(⟨s2176.1, y2194.Guest, y2194.Kind, y2194.Value⟩ : Event).Tick, w64 (s2176.1 + 1), (⟨s2176.1, y2194.Guest, y2194.Kind, y2194.Value⟩ : Event).Kind, (⟨s2176.1, y2194.Guest, y2194.Kind, y2194.Value⟩ : Event).Value⟩ : Event)]) ?_
      refine W_conv 19 (.slice p2064 (s2176.2.2.set s2176.2.1.toNat (⟨s2176.1, y2194.Guest, y2194.Kind, y2194.Value⟩ : Event)).length c2065) (.slice p2064 ((s2176.2.2.set s2176.2.1.toNat (⟨s2176.1, y2194.Guest, y2194.Kind, y2194.Value⟩ : Event)).set s2176.2.1.toNat (⟨(⟨s2176.1, y2194.Guest, y2194.Kind, y2194.Value⟩ : Event).Tick, w64 (s2176.1 + 1), (⟨s2176.1, y2194.Guest, y2194.Kind, y2194.Value⟩ : Event).Kind, (⟨s2176.1, y2194.Guest, y2194.Kind, y2194.Value⟩ : Event).Value⟩ : Event)).length c2065) (by kernel_rfl) (by rw [@List.length_set _ (s2176.2.2.set s2176.2.1.toNat (⟨s2176.1, y2194.Guest, y2194.Kind, y2194.Value⟩ : Event)) s2176.2.1.toNat (⟨(⟨s2176.1, y2194.Guest, y2194.Kind, y2194.Value⟩ : Event).Tick, w64 (s2176.1 + 1), (⟨s2176.1, y2194.Guest, y2194.Kind, y2194.Value⟩ : Event).Kind, (⟨s2176.1, y2194.Guest, y2194.Kind, y2194.Value⟩ : Event).Value⟩ : Event)]) ?_
      refine W_nil ?_
      refine N_then ?_
      refine G_seq ?_
      refine G_region ?_
      refine W_run 3 [(0, .slice p2064 ((s2176.2.2.set s2176.2.1.toNat (⟨s2176.1, y2194.Guest, y2194.Kind, y2194.Value⟩ : Event)).set s2176.2.1.toNat (⟨(⟨s2176.1, y2194.Guest, y2194.Kind, y2194.Value⟩ : Event).Tick, w64 (s2176.1 + 1), (⟨s2176.1, y2194.Guest, y2194.Kind, y2194.Value⟩ : Event).Kind, (⟨s2176.1, y2194.Guest, y2194.Kind, y2194.Value⟩ : Event).Value⟩ : Event)).length c2065), (1, .int .i64 (w64 ((w64 (s2176.1 + 1)) + 1))), (5, .int .i64 s2176.2.1)] w2201 (by kernel_rfl) ?_
      refine W_nil ?_
      refine N_then ?_
      refine G_seq ?_
      refine G_region ?_
      refine W_run 3 [(0, .slice p2064 ((s2176.2.2.set s2176.2.1.toNat (⟨s2176.1, y2194.Guest, y2194.Kind, y2194.Value⟩ : Event)).set s2176.2.1.toNat (⟨(⟨s2176.1, y2194.Guest, y2194.Kind, y2194.Value⟩ : Event).Tick, w64 (s2176.1 + 1), (⟨s2176.1, y2194.Guest, y2194.Kind, y2194.Value⟩ : Event).Kind, (⟨s2176.1, y2194.Guest, y2194.Kind, y2194.Value⟩ : Event).Value⟩ : Event)).length c2065), (1, .int .i64 (w64 ((w64 (s2176.1 + 1)) + 1))), (5, .int .i64 s2176.2.1), (26, .slice p2064 ((s2176.2.2.set s2176.2.1.toNat (⟨s2176.1, y2194.Guest, y2194.Kind, y2194.Value⟩ : Event)).set s2176.2.1.toNat (⟨(⟨s2176.1, y2194.Guest, y2194.Kind, y2194.Value⟩ : Event).Tick, w64 (s2176.1 + 1), (⟨s2176.1, y2194.Guest, y2194.Kind, y2194.Value⟩ : Event).Kind, (⟨s2176.1, y2194.Guest, y2194.Kind, y2194.Value⟩ : Event).Value⟩ : Event)).length c2065), (27, .int .i64 s2176.2.1), (28, .int .i64 (w64 ((w64 (s2176.1 + 1)) + 1)))] w2201 (by kernel_rfl) ?_
      obtain ⟨r2206, hr2206, hm⟩ := gx_bind hm
      refine W_call 64 #[.int .i64 (w64 ((w64 (s2176.1 + 1)) + 1))] (by kernel_rfl) (by kernel_rfl) ?_
      refine (c_l_markText w2201 (w64 ((w64 (s2176.1 + 1)) + 1)) hr2206).mono ?_
      rintro e_ w2207 ⟨rfl, K2208⟩
      have M2209 := M2202.call0 K2208
      refine ⟨_, rfl, ?_⟩
      obtain ⟨y2210, hy2210, hm⟩ := gx_bind hm
      refine W_val (elemP p2064 (s2176.2.1.toNat * 4)) w2207 (by kernel_rfl) (E_index (E := encEvent) _ _ _ ((s2176.2.2.set s2176.2.1.toNat (⟨s2176.1, y2194.Guest, y2194.Kind, y2194.Value⟩ : Event)).set s2176.2.1.toNat (⟨(⟨s2176.1, y2194.Guest, y2194.Kind, y2194.Value⟩ : Event).Tick, w64 (s2176.1 + 1), (⟨s2176.1, y2194.Guest, y2194.Kind, y2194.Value⟩ : Event).Kind, (⟨s2176.1, y2194.Guest, y2194.Kind, y2194.Value⟩ : Event).Value⟩ : Event)).length c2065 .i64 s2176.2.1 4 (y := y2210) rfl (by kernel_rfl) (by kernel_rfl) (by kernel_rfl) (ho2204.rd M2209 0 (by kernel_rfl)) rfl hy2210) ?_
      refine W_val (elemP p2064 (s2176.2.1.toNat * 4 + 2)) w2207 (by kernel_rfl) (E_fieldE (E := encEvent) _ _ 2 (s2176.2.1.toNat * 4) 2 rfl (by kernel_rfl) (by kernel_rfl) (ho2204.rd M2209 0 (by kernel_rfl)) hput2205) ?_
      refine W_storeE (E := encEvent) _ _ _ false 1 s2176.2.1.toNat 2 (s2176.2.1.toNat * 4 + 2) (⟨(⟨s2176.1, y2194.Guest, y2194.Kind, y2194.Value⟩ : Event).Tick, w64 (s2176.1 + 1), (⟨s2176.1, y2194.Guest, y2194.Kind, y2194.Value⟩ : Event).Kind, (⟨s2176.1, y2194.Guest, y2194.Kind, y2194.Value⟩ : Event).Value⟩ : Event) (⟨(⟨(⟨s2176.1, y2194.Guest, y2194.Kind, y2194.Value⟩ : Event).Tick, w64 (s2176.1 + 1), (⟨s2176.1, y2194.Guest, y2194.Kind, y2194.Value⟩ : Event).Kind, (⟨s2176.1, y2194.Guest, y2194.Kind, y2194.Value⟩ : Event).Value⟩ : Event).Tick, (⟨(⟨s2176.1, y2194.Guest, y2194.Kind, y2194.Value⟩ : Event).Tick, w64 (s2176.1 + 1), (⟨s2176.1, y2194.Guest, y2194.Kind, y2194.Value⟩ : Event).Kind, (⟨s2176.1, y2194.Guest, y2194.Kind, y2194.Value⟩ : Event).Value⟩ : Event).Guest, r2206, (⟨(⟨s2176.1, y2194.Guest, y2194.Kind, y2194.Value⟩ : Event).Tick, w64 (s2176.1 + 1), (⟨s2176.1, y2194.Guest, y2194.Kind, y2194.Value⟩ : Event).Kind, (⟨s2176.1, y2194.Guest, y2194.Kind, y2194.Value⟩ : Event).Value⟩ : Event).Value⟩ : Event) (.string r2206) 0 M2209 ho2204 (by kernel_rfl) (by kernel_rfl) rfl (by kernel_rfl) (by kernel_rfl) (by kernel_rfl) (by kernel_rfl) (by kernel_rfl) (by kernel_rfl) (by kernel_rfl) (gxIdx_spec hput2205).2 rfl ?_
      intro w2211 sg2213 ho2214 M2212
      have hput2215 := gxIdx_put (⟨(⟨(⟨s2176.1, y2194.Guest, y2194.Kind, y2194.Value⟩ : Event).Tick, w64 (s2176.1 + 1), (⟨s2176.1, y2194.Guest, y2194.Kind, y2194.Value⟩ : Event).Kind, (⟨s2176.1, y2194.Guest, y2194.Kind, y2194.Value⟩ : Event).Value⟩ : Event).Tick, (⟨(⟨s2176.1, y2194.Guest, y2194.Kind, y2194.Value⟩ : Event).Tick, w64 (s2176.1 + 1), (⟨s2176.1, y2194.Guest, y2194.Kind, y2194.Value⟩ : Event).Kind, (⟨s2176.1, y2194.Guest, y2194.Kind, y2194.Value⟩ : Event).Value⟩ : Event).Guest, r2206, (⟨(⟨s2176.1, y2194.Guest, y2194.Kind, y2194.Value⟩ : Event).Tick, w64 (s2176.1 + 1), (⟨s2176.1, y2194.Guest, y2194.Kind, y2194.Value⟩ : Event).Kind, (⟨s2176.1, y2194.Guest, y2194.Kind, y2194.Value⟩ : Event).Value⟩ : Event).Value⟩ : Event) hput2205
      refine W_conv 0 (.slice p2064 ((s2176.2.2.set s2176.2.1.toNat (⟨s2176.1, y2194.Guest, y2194.Kind, y2194.Value⟩ : Event)).set s2176.2.1.toNat (⟨(⟨s2176.1, y2194.Guest, y2194.Kind, y2194.Value⟩ : Event).Tick, w64 (s2176.1 + 1), (⟨s2176.1, y2194.Guest, y2194.Kind, y2194.Value⟩ : Event).Kind, (⟨s2176.1, y2194.Guest, y2194.Kind, y2194.Value⟩ : Event).Value⟩ : Event)).length c2065) (.slice p2064 (((s2176.2.2.set s2176.2.1.toNat (⟨s2176.1, y2194.Guest, y2194.Kind, y2194.Value⟩ : Event)).set s2176.2.1.toNat (⟨(⟨s2176.1, y2194.Guest, y2194.Kind, y2194.Value⟩ : Event).Tick, w64 (s2176.1 + 1), (⟨s2176.1, y2194.Guest, y2194.Kind, y2194.Value⟩ : Event).Kind, (⟨s2176.1, y2194.Guest, y2194.Kind, y2194.Value⟩ : Event).Value⟩ : Event)).set s2176.2.1.toNat (⟨(⟨(⟨s2176.1, y2194.Guest, y2194.Kind, y2194.Value⟩ : Event).Tick, w64 (s2176.1 + 1), (⟨s2176.1, y2194.Guest, y2194.Kind, y2194.Value⟩ : Event).Kind, (⟨s2176.1, y2194.Guest, y2194.Kind, y2194.Value⟩ : Event).Value⟩ : Event).Tick, (⟨(⟨s2176.1, y2194.Guest, y2194.Kind, y2194.Value⟩ : Event).Tick, w64 (s2176.1 + 1), (⟨s2176.1, y2194.Guest, y2194.Kind, y2194.Value⟩ : Event).Kind, (⟨s2176.1, y2194.Guest, y2194.Kind, y2194.Value⟩ : Event).Value⟩ : Event).Guest, r2206, (⟨(⟨s2176.1, y2194.Guest, y2194.Kind, y2194.Value⟩ : Event).Tick, w64 (s2176.1 + 1), (⟨s2176.1, y2194.Guest, y2194.Kind, y2194.Value⟩ : Event).Kind, (⟨s2176.1, y2194.Guest, y2194.Kind, y2194.Value⟩ : Event).Value⟩ : Event).Value⟩ : Event)).length c2065) (by kernel_rfl) (by rw [@List.length_set _ ((s2176.2.2.set s2176.2.1.toNat (⟨s2176.1, y2194.Guest, y2194.Kind, y2194.Value⟩ : Event)).set s2176.2.1.toNat (⟨(⟨s2176.1, y2194.Guest, y2194.Kind, y2194.Value⟩ : Event).Tick, w64 (s2176.1 + 1), (⟨s2176.1, y2194.Guest, y2194.Kind, y2194.Value⟩ : Event).Kind, (⟨s2176.1, y2194.Guest, y2194.Kind, y2194.Value⟩ : Event).Value⟩ : Event)) s2176.2.1.toNat (⟨(⟨(⟨s2176.1, y2194.Guest, y2194.Kind, y2194.Value⟩ : Event).Tick, w64 (s2176.1 + 1), (⟨s2176.1, y2194.Guest, y2194.Kind, y2194.Value⟩ : Event).Kind, (⟨s2176.1, y2194.Guest, y2194.Kind, y2194.Value⟩ : Event).Value⟩ : Event).Tick, (⟨(⟨s2176.1, y2194.Guest, y2194.Kind, y2194.Value⟩ : Event).Tick, w64 (s2176.1 + 1), (⟨s2176.1, y2194.Guest, y2194.Kind, y2194.Value⟩ : Event).Kind, (⟨s2176.1, y2194.Guest, y2194.Kind, y2194.Value⟩ : Event).Value⟩ : Event).Guest, r2206, (⟨(⟨s2176.1, y2194.Guest, y2194.Kind, y2194.Value⟩ : Event).Tick, w64 (s2176.1 + 1), (⟨s2176.1, y2194.Guest, y2194.Kind, y2194.Value⟩ : Event).Kind, (⟨s2176.1, y2194.Guest, y2194.Kind, y2194.Value⟩ : Event).Value⟩ : Event).Value⟩ : Event)]) ?_
      refine W_conv 26 (.slice p2064 ((s2176.2.2.set s2176.2.1.toNat (⟨s2176.1, y2194.Guest, y2194.Kind, y2194.Value⟩ : Event)).set s2176.2.1.toNat (⟨(⟨s2176.1, y2194.Guest, y2194.Kind, y2194.Value⟩ : Event).Tick, w64 (s2176.1 + 1), (⟨s2176.1, y2194.Guest, y2194.Kind, y2194.Value⟩ : Event).Kind, (⟨s2176.1, y2194.Guest, y2194.Kind, y2194.Value⟩ : Event).Value⟩ : Event)).length c2065) (.slice p2064 (((s2176.2.2.set s2176.2.1.toNat (⟨s2176.1, y2194.Guest, y2194.Kind, y2194.Value⟩ : Event)).set s2176.2.1.toNat (⟨(⟨s2176.1, y2194.Guest, y2194.Kind, y2194.Value⟩ : Event).Tick, w64 (s2176.1 + 1), (⟨s2176.1, y2194.Guest, y2194.Kind, y2194.Value⟩ : Event).Kind, (⟨s2176.1, y2194.Guest, y2194.Kind, y2194.Value⟩ : Event).Value⟩ : Event)).set s2176.2.1.toNat (⟨(⟨(⟨s2176.1, y2194.Guest, y2194.Kind, y2194.Value⟩ : Event).Tick, w64 (s2176.1 + 1), (⟨s2176.1, y2194.Guest, y2194.Kind, y2194.Value⟩ : Event).Kind, (⟨s2176.1, y2194.Guest, y2194.Kind, y2194.Value⟩ : Event).Value⟩ : Event).Tick, (⟨(⟨s2176.1, y2194.Guest, y2194.Kind, y2194.Value⟩ : Event).Tick, w64 (s2176.1 + 1), (⟨s2176.1, y2194.Guest, y2194.Kind, y2194.Value⟩ : Event).Kind, (⟨s2176.1, y2194.Guest, y2194.Kind, y2194.Value⟩ : Event).Value⟩ : Event).Guest, r2206, (⟨(⟨s2176.1, y2194.Guest, y2194.Kind, y2194.Value⟩ : Event).Tick, w64 (s2176.1 + 1), (⟨s2176.1, y2194.Guest, y2194.Kind, y2194.Value⟩ : Event).Kind, (⟨s2176.1, y2194.Guest, y2194.Kind, y2194.Value⟩ : Event).Value⟩ : Event).Value⟩ : Event)).length c2065) (by kernel_rfl) (by rw [@List.length_set _ ((s2176.2.2.set s2176.2.1.toNat (⟨s2176.1, y2194.Guest, y2194.Kind, y2194.Value⟩ : Event)).set s2176.2.1.toNat (⟨(⟨s2176.1, y2194.Guest, y2194.Kind, y2194.Value⟩ : Event).Tick, w64 (s2176.1 + 1), (⟨s2176.1, y2194.Guest, y2194.Kind, y2194.Value⟩ : Event).Kind, (⟨s2176.1, y2194.Guest, y2194.Kind, y2194.Value⟩ : Event).Value⟩ : Event)) s2176.2.1.toNat (⟨(⟨(⟨s2176.1, y2194.Guest, y2194.Kind, y2194.Value⟩ : Event).Tick, w64 (s2176.1 + 1), (⟨s2176.1, y2194.Guest, y2194.Kind, y2194.Value⟩ : Event).Kind, (⟨s2176.1, y2194.Guest, y2194.Kind, y2194.Value⟩ : Event).Value⟩ : Event).Tick, (⟨(⟨s2176.1, y2194.Guest, y2194.Kind, y2194.Value⟩ : Event).Tick, w64 (s2176.1 + 1), (⟨s2176.1, y2194.Guest, y2194.Kind, y2194.Value⟩ : Event).Kind, (⟨s2176.1, y2194.Guest, y2194.Kind, y2194.Value⟩ : Event).Value⟩ : Event).Guest, r2206, (⟨(⟨s2176.1, y2194.Guest, y2194.Kind, y2194.Value⟩ : Event).Tick, w64 (s2176.1 + 1), (⟨s2176.1, y2194.Guest, y2194.Kind, y2194.Value⟩ : Event).Kind, (⟨s2176.1, y2194.Guest, y2194.Kind, y2194.Value⟩ : Event).Value⟩ : Event).Value⟩ : Event)]) ?_
      refine W_nil ?_
      refine N_then ?_
      refine G_seq ?_
      refine G_region ?_
      refine W_run 3 [(0, .slice p2064 (((s2176.2.2.set s2176.2.1.toNat (⟨s2176.1, y2194.Guest, y2194.Kind, y2194.Value⟩ : Event)).set s2176.2.1.toNat (⟨(⟨s2176.1, y2194.Guest, y2194.Kind, y2194.Value⟩ : Event).Tick, w64 (s2176.1 + 1), (⟨s2176.1, y2194.Guest, y2194.Kind, y2194.Value⟩ : Event).Kind, (⟨s2176.1, y2194.Guest, y2194.Kind, y2194.Value⟩ : Event).Value⟩ : Event)).set s2176.2.1.toNat (⟨(⟨(⟨s2176.1, y2194.Guest, y2194.Kind, y2194.Value⟩ : Event).Tick, w64 (s2176.1 + 1), (⟨s2176.1, y2194.Guest, y2194.Kind, y2194.Value⟩ : Event).Kind, (⟨s2176.1, y2194.Guest, y2194.Kind, y2194.Value⟩ : Event).Value⟩ : Event).Tick, (⟨(⟨s2176.1, y2194.Guest, y2194.Kind, y2194.Value⟩ : Event).Tick, w64 (s2176.1 + 1), (⟨s2176.1, y2194.Guest, y2194.Kind, y2194.Value⟩ : Event).Kind, (⟨s2176.1, y2194.Guest, y2194.Kind, y2194.Value⟩ : Event).Value⟩ : Event).Guest, r2206, (⟨(⟨s2176.1, y2194.Guest, y2194.Kind, y2194.Value⟩ : Event).Tick, w64 (s2176.1 + 1), (⟨s2176.1, y2194.Guest, y2194.Kind, y2194.Value⟩ : Event).Kind, (⟨s2176.1, y2194.Guest, y2194.Kind, y2194.Value⟩ : Event).Value⟩ : Event).Value⟩ : Event)).length c2065), (1, .int .i64 (w64 ((w64 ((w64 (s2176.1 + 1)) + 1)) + 1))), (5, .int .i64 s2176.2.1)] w2211 (by kernel_rfl) ?_
      refine W_nil ?_
      refine N_then ?_
      refine G_seq ?_
      refine G_region ?_
      refine W_run 3 [(0, .slice p2064 (((s2176.2.2.set s2176.2.1.toNat (⟨s2176.1, y2194.Guest, y2194.Kind, y2194.Value⟩ : Event)).set s2176.2.1.toNat (⟨(⟨s2176.1, y2194.Guest, y2194.Kind, y2194.Value⟩ : Event).Tick, w64 (s2176.1 + 1), (⟨s2176.1, y2194.Guest, y2194.Kind, y2194.Value⟩ : Event).Kind, (⟨s2176.1, y2194.Guest, y2194.Kind, y2194.Value⟩ : Event).Value⟩ : Event)).set s2176.2.1.toNat (⟨(⟨(⟨s2176.1, y2194.Guest, y2194.Kind, y2194.Value⟩ : Event).Tick, w64 (s2176.1 + 1), (⟨s2176.1, y2194.Guest, y2194.Kind, y2194.Value⟩ : Event).Kind, (⟨s2176.1, y2194.Guest, y2194.Kind, y2194.Value⟩ : Event).Value⟩ : Event).Tick, (⟨(⟨s2176.1, y2194.Guest, y2194.Kind, y2194.Value⟩ : Event).Tick, w64 (s2176.1 + 1), (⟨s2176.1, y2194.Guest, y2194.Kind, y2194.Value⟩ : Event).Kind, (⟨s2176.1, y2194.Guest, y2194.Kind, y2194.Value⟩ : Event).Value⟩ : Event).Guest, r2206, (⟨(⟨s2176.1, y2194.Guest, y2194.Kind, y2194.Value⟩ : Event).Tick, w64 (s2176.1 + 1), (⟨s2176.1, y2194.Guest, y2194.Kind, y2194.Value⟩ : Event).Kind, (⟨s2176.1, y2194.Guest, y2194.Kind, y2194.Value⟩ : Event).Value⟩ : Event).Value⟩ : Event)).length c2065), (1, .int .i64 (w64 ((w64 ((w64 (s2176.1 + 1)) + 1)) + 1))), (5, .int .i64 s2176.2.1), (34, .slice p2064 (((s2176.2.2.set s2176.2.1.toNat (⟨s2176.1, y2194.Guest, y2194.Kind, y2194.Value⟩ : Event)).set s2176.2.1.toNat (⟨(⟨s2176.1, y2194.Guest, y2194.Kind, y2194.Value⟩ : Event).Tick, w64 (s2176.1 + 1), (⟨s2176.1, y2194.Guest, y2194.Kind, y2194.Value⟩ : Event).Kind, (⟨s2176.1, y2194.Guest, y2194.Kind, y2194.Value⟩ : Event).Value⟩ : Event)).set s2176.2.1.toNat (⟨(⟨(⟨s2176.1, y2194.Guest, y2194.Kind, y2194.Value⟩ : Event).Tick, w64 (s2176.1 + 1), (⟨s2176.1, y2194.Guest, y2194.Kind, y2194.Value⟩ : Event).Kind, (⟨s2176.1, y2194.Guest, y2194.Kind, y2194.Value⟩ : Event).Value⟩ : Event).Tick, (⟨(⟨s2176.1, y2194.Guest, y2194.Kind, y2194.Value⟩ : Event).Tick, w64 (s2176.1 + 1), (⟨s2176.1, y2194.Guest, y2194.Kind, y2194.Value⟩ : Event).Kind, (⟨s2176.1, y2194.Guest, y2194.Kind, y2194.Value⟩ : Event).Value⟩ : Event).Guest, r2206, (⟨(⟨s2176.1, y2194.Guest, y2194.Kind, y2194.Value⟩ : Event).Tick, w64 (s2176.1 + 1), (⟨s2176.1, y2194.Guest, y2194.Kind, y2194.Value⟩ : Event).Kind, (⟨s2176.1, y2194.Guest, y2194.Kind, y2194.Value⟩ : Event).Value⟩ : Event).Value⟩ : Event)).length c2065), (35, .int .i64 s2176.2.1), (36, .int .i64 (w64 ((w64 ((w64 (s2176.1 + 1)) + 1)) + 1)))] w2211 (by kernel_rfl) ?_
      obtain ⟨y2216, hy2216, hm⟩ := gx_bind hm
      refine W_val (elemP p2064 (s2176.2.1.toNat * 4)) w2211 (by kernel_rfl) (E_index (E := encEvent) _ _ _ (((s2176.2.2.set s2176.2.1.toNat (⟨s2176.1, y2194.Guest, y2194.Kind, y2194.Value⟩ : Event)).set s2176.2.1.toNat (⟨(⟨s2176.1, y2194.Guest, y2194.Kind, y2194.Value⟩ : Event).Tick, w64 (s2176.1 + 1), (⟨s2176.1, y2194.Guest, y2194.Kind, y2194.Value⟩ : Event).Kind, (⟨s2176.1, y2194.Guest, y2194.Kind, y2194.Value⟩ : Event).Value⟩ : Event)).set s2176.2.1.toNat (⟨(⟨(⟨s2176.1, y2194.Guest, y2194.Kind, y2194.Value⟩ : Event).Tick, w64 (s2176.1 + 1), (⟨s2176.1, y2194.Guest, y2194.Kind, y2194.Value⟩ : Event).Kind, (⟨s2176.1, y2194.Guest, y2194.Kind, y2194.Value⟩ : Event).Value⟩ : Event).Tick, (⟨(⟨s2176.1, y2194.Guest, y2194.Kind, y2194.Value⟩ : Event).Tick, w64 (s2176.1 + 1), (⟨s2176.1, y2194.Guest, y2194.Kind, y2194.Value⟩ : Event).Kind, (⟨s2176.1, y2194.Guest, y2194.Kind, y2194.Value⟩ : Event).Value⟩ : Event).Guest, r2206, (⟨(⟨s2176.1, y2194.Guest, y2194.Kind, y2194.Value⟩ : Event).Tick, w64 (s2176.1 + 1), (⟨s2176.1, y2194.Guest, y2194.Kind, y2194.Value⟩ : Event).Kind, (⟨s2176.1, y2194.Guest, y2194.Kind, y2194.Value⟩ : Event).Value⟩ : Event).Value⟩ : Event)).length c2065 .i64 s2176.2.1 4 (y := y2216) rfl (by kernel_rfl) (by kernel_rfl) (by kernel_rfl) (ho2214.rd M2212 0 (by kernel_rfl)) rfl hy2216) ?_
      refine W_val (elemP p2064 (s2176.2.1.toNat * 4 + 3)) w2211 (by kernel_rfl) (E_fieldE (E := encEvent) _ _ 3 (s2176.2.1.toNat * 4) 3 rfl (by kernel_rfl) (by kernel_rfl) (ho2214.rd M2212 0 (by kernel_rfl)) hput2215) ?_
      refine W_storeE (E := encEvent) _ _ _ false 1 s2176.2.1.toNat 3 (s2176.2.1.toNat * 4 + 3) (⟨(⟨(⟨s2176.1, y2194.Guest, y2194.Kind, y2194.Value⟩ : Event).Tick, w64 (s2176.1 + 1), (⟨s2176.1, y2194.Guest, y2194.Kind, y2194.Value⟩ : Event).Kind, (⟨s2176.1, y2194.Guest, y2194.Kind, y2194.Value⟩ : Event).Value⟩ : Event).Tick, (⟨(⟨s2176.1, y2194.Guest, y2194.Kind, y2194.Value⟩ : Event).Tick, w64 (s2176.1 + 1), (⟨s2176.1, y2194.Guest, y2194.Kind, y2194.Value⟩ : Event).Kind, (⟨s2176.1, y2194.Guest, y2194.Kind, y2194.Value⟩ : Event).Value⟩ : Event).Guest, r2206, (⟨(⟨s2176.1, y2194.Guest, y2194.Kind, y2194.Value⟩ : Event).Tick, w64 (s2176.1 + 1), (⟨s2176.1, y2194.Guest, y2194.Kind, y2194.Value⟩ : Event).Kind, (⟨s2176.1, y2194.Guest, y2194.Kind, y2194.Value⟩ : Event).Value⟩ : Event).Value⟩ : Event) (⟨(⟨(⟨(⟨s2176.1, y2194.Guest, y2194.Kind, y2194.Value⟩ : Event).Tick, w64 (s2176.1 + 1), (⟨s2176.1, y2194.Guest, y2194.Kind, y2194.Value⟩ : Event).Kind, (⟨s2176.1, y2194.Guest, y2194.Kind, y2194.Value⟩ : Event).Value⟩ : Event).Tick, (⟨(⟨s2176.1, y2194.Guest, y2194.Kind, y2194.Value⟩ : Event).Tick, w64 (s2176.1 + 1), (⟨s2176.1, y2194.Guest, y2194.Kind, y2194.Value⟩ : Event).Kind, (⟨s2176.1, y2194.Guest, y2194.Kind, y2194.Value⟩ : Event).Value⟩ : Event).Guest, r2206, (⟨(⟨s2176.1, y2194.Guest, y2194.Kind, y2194.Value⟩ : Event).Tick, w64 (s2176.1 + 1), (⟨s2176.1, y2194.Guest, y2194.Kind, y2194.Value⟩ : Event).Kind, (⟨s2176.1, y2194.Guest, y2194.Kind, y2194.Value⟩ : Event).Value⟩ : Event).Value⟩ : Event).Tick, (⟨(⟨(⟨s2176.1, y2194.Guest, y2194.Kind, y2194.Value⟩ : Event).Tick, w64 (s2176.1 + 1), (⟨s2176.1, y2194.Guest, y2194.Kind, y2194.Value⟩ : Event).Kind, (⟨s2176.1, y2194.Guest, y2194.Kind, y2194.Value⟩ : Event).Value⟩ : Event).Tick, (⟨(⟨s2176.1, y2194.Guest, y2194.Kind, y2194.Value⟩ : Event).Tick, w64 (s2176.1 + 1), (⟨s2176.1, y2194.Guest, y2194.Kind, y2194.Value⟩ : Event).Kind, (⟨s2176.1, y2194.Guest, y2194.Kind, y2194.Value⟩ : Event).Value⟩ : Event).Guest, r2206, (⟨(⟨s2176.1, y2194.Guest, y2194.Kind, y2194.Value⟩ : Event).Tick, w64 (s2176.1 + 1), (⟨s2176.1, y2194.Guest, y2194.Kind, y2194.Value⟩ : Event).Kind, (⟨s2176.1, y2194.Guest, y2194.Kind, y2194.Value⟩ : Event).Value⟩ : Event).Value⟩ : Event).Guest, (⟨(⟨(⟨s2176.1, y2194.Guest, y2194.Kind, y2194.Value⟩ : Event).Tick, w64 (s2176.1 + 1), (⟨s2176.1, y2194.Guest, y2194.Kind, y2194.Value⟩ : Event).Kind, (⟨s2176.1, y2194.Guest, y2194.Kind, y2194.Value⟩ : Event).Value⟩ : Event).Tick, (⟨(⟨s2176.1, y2194.Guest, y2194.Kind, y2194.Value⟩ : Event).Tick, w64 (s2176.1 + 1), (⟨s2176.1, y2194.Guest, y2194.Kind, y2194.Value⟩ : Event).Kind, (⟨s2176.1, y2194.Guest, y2194.Kind, y2194.Value⟩ : Event).Value⟩ : Event).Guest, r2206, (⟨(⟨s2176.1, y2194.Guest, y2194.Kind, y2194.Value⟩ : Event).Tick, w64 (s2176.1 + 1), (⟨s2176.1, y2194.Guest, y2194.Kind, y2194.Value⟩ : Event).Kind, (⟨s2176.1, y2194.Guest, y2194.Kind, y2194.Value⟩ : Event).Value⟩ : Event).Value⟩ : Event).Kind, w64 ((w64 ((w64 (s2176.1 + 1)) + 1)) + 1)⟩ : Event) (.int .i64 (w64 ((w64 ((w64 (s2176.1 + 1)) + 1)) + 1))) 0 M2212 ho2214 (by kernel_rfl) (by kernel_rfl) rfl (by kernel_rfl) (by kernel_rfl) (by kernel_rfl) (by kernel_rfl) (by kernel_rfl) (by kernel_rfl) (by kernel_rfl) (gxIdx_spec hput2215).2 rfl ?_
      intro w2217 sg2219 ho2220 M2218
      have hput2221 := gxIdx_put (⟨(⟨(⟨(⟨s2176.1, y2194.Guest, y2194.Kind, y2194.Value⟩ : Event).Tick, w64 (s2176.1 + 1), (⟨s2176.1, y2194.Guest, y2194.Kind, y2194.Value⟩ : Event).Kind, (⟨s2176.1, y2194.Guest, y2194.Kind, y2194.Value⟩ : Event).Value⟩ : Event).Tick, (⟨(⟨s2176.1, y2194.Guest, y2194.Kind, y2194.Value⟩ : Event).Tick, w64 (s2176.1 + 1), (⟨s2176.1, y2194.Guest, y2194.Kind, y2194.Value⟩ : Event).Kind, (⟨s2176.1, y2194.Guest, y2194.Kind, y2194.Value⟩ : Event).Value⟩ : Event).Guest, r2206, (⟨(⟨s2176.1, y2194.Guest, y2194.Kind, y2194.Value⟩ : Event).Tick, w64 (s2176.1 + 1), (⟨s2176.1, y2194.Guest, y2194.Kind, y2194.Value⟩ : Event).Kind, (⟨s2176.1, y2194.Guest, y2194.Kind, y2194.Value⟩ : Event).Value⟩ : Event).Value⟩ : Event).Tick, (⟨(⟨(⟨s2176.1, y2194.Guest, y2194.Kind, y2194.Value⟩ : Event).Tick, w64 (s2176.1 + 1), (⟨s2176.1, y2194.Guest, y2194.Kind, y2194.Value⟩ : Event).Kind, (⟨s2176.1, y2194.Guest, y2194.Kind, y2194.Value⟩ : Event).Value⟩ : Event).Tick, (⟨(⟨s2176.1, y2194.Guest, y2194.Kind, y2194.Value⟩ : Event).Tick, w64 (s2176.1 + 1), (⟨s2176.1, y2194.Guest, y2194.Kind, y2194.Value⟩ : Event).Kind, (⟨s2176.1, y2194.Guest, y2194.Kind, y2194.Value⟩ : Event).Value⟩ : Event).Guest, r2206, (⟨(⟨s2176.1, y2194.Guest, y2194.Kind, y2194.Value⟩ : Event).Tick, w64 (s2176.1 + 1), (⟨s2176.1, y2194.Guest, y2194.Kind, y2194.Value⟩ : Event).Kind, (⟨s2176.1, y2194.Guest, y2194.Kind, y2194.Value⟩ : Event).Value⟩ : Event).Value⟩ : Event).Guest, (⟨(⟨(⟨s2176.1, y2194.Guest, y2194.Kind, y2194.Value⟩ : Event).Tick, w64 (s2176.1 + 1), (⟨s2176.1, y2194.Guest, y2194.Kind, y2194.Value⟩ : Event).Kind, (⟨s2176.1, y2194.Guest, y2194.Kind, y2194.Value⟩ : Event).Value⟩ : Event).Tick, (⟨(⟨s2176.1, y2194.Guest, y2194.Kind, y2194.Value⟩ : Event).Tick, w64 (s2176.1 + 1), (⟨s2176.1, y2194.Guest, y2194.Kind, y2194.Value⟩ : Event).Kind, (⟨s2176.1, y2194.Guest, y2194.Kind, y2194.Value⟩ : Event).Value⟩ : Event).Guest, r2206, (⟨(⟨s2176.1, y2194.Guest, y2194.Kind, y2194.Value⟩ : Event).Tick, w64 (s2176.1 + 1), (⟨s2176.1, y2194.Guest, y2194.Kind, y2194.Value⟩ : Event).Kind, (⟨s2176.1, y2194.Guest, y2194.Kind, y2194.Value⟩ : Event).Value⟩ : Event).Value⟩ : Event).Kind, w64 ((w64 ((w64 (s2176.1 + 1)) + 1)) + 1)⟩ : Event) hput2215
      refine W_conv 0 (.slice p2064 (((s2176.2.2.set s2176.2.1.toNat (⟨s2176.1, y2194.Guest, y2194.Kind, y2194.Value⟩ : Event)).set s2176.2.1.toNat (⟨(⟨s2176.1, y2194.Guest, y2194.Kind, y2194.Value⟩ : Event).Tick, w64 (s2176.1 + 1), (⟨s2176.1, y2194.Guest, y2194.Kind, y2194.Value⟩ : Event).Kind, (⟨s2176.1, y2194.Guest, y2194.Kind, y2194.Value⟩ : Event).Value⟩ : Event)).set s2176.2.1.toNat (⟨(⟨(⟨s2176.1, y2194.Guest, y2194.Kind, y2194.Value⟩ : Event).Tick, w64 (s2176.1 + 1), (⟨s2176.1, y2194.Guest, y2194.Kind, y2194.Value⟩ : Event).Kind, (⟨s2176.1, y2194.Guest, y2194.Kind, y2194.Value⟩ : Event).Value⟩ : Event).Tick, (⟨(⟨s2176.1, y2194.Guest, y2194.Kind, y2194.Value⟩ : Event).Tick, w64 (s2176.1 + 1), (⟨s2176.1, y2194.Guest, y2194.Kind, y2194.Value⟩ : Event).Kind, (⟨s2176.1, y2194.Guest, y2194.Kind, y2194.Value⟩ : Event).Value⟩ : Event).Guest, r2206, (⟨(⟨s2176.1, y2194.Guest, y2194.Kind, y2194.Value⟩ : Event).Tick, w64 (s2176.1 + 1), (⟨s2176.1, y2194.Guest, y2194.Kind, y2194.Value⟩ : Event).Kind, (⟨s2176.1, y2194.Guest, y2194.Kind, y2194.Value⟩ : Event).Value⟩ : Event).Value⟩ : Event)).length c2065) (.slice p2064 ((((s2176.2.2.set s2176.2.1.toNat (⟨s2176.1, y2194.Guest, y2194.Kind, y2194.Value⟩ : Event)).set s2176.2.1.toNat (⟨(⟨s2176.1, y2194.Guest, y2194.Kind, y2194.Value⟩ : Event).Tick, w64 (s2176.1 + 1), (⟨s2176.1, y2194.Guest, y2194.Kind, y2194.Value⟩ : Event).Kind, (⟨s2176.1, y2194.Guest, y2194.Kind, y2194.Value⟩ : Event).Value⟩ : Event)).set s2176.2.1.toNat (⟨(⟨(⟨s2176.1, y2194.Guest, y2194.Kind, y2194.Value⟩ : Event).Tick, w64 (s2176.1 + 1), (⟨s2176.1, y2194.Guest, y2194.Kind, y2194.Value⟩ : Event).Kind, (⟨s2176.1, y2194.Guest, y2194.Kind, y2194.Value⟩ : Event).Value⟩ : Event).Tick, (⟨(⟨s2176.1, y2194.Guest, y2194.Kind, y2194.Value⟩ : Event).Tick, w64 (s2176.1 + 1), (⟨s2176.1, y2194.Guest, y2194.Kind, y2194.Value⟩ : Event).Kind, (⟨s2176.1, y2194.Guest, y2194.Kind, y2194.Value⟩ : Event).Value⟩ : Event).Guest, r2206, (⟨(⟨s2176.1, y2194.Guest, y2194.Kind, y2194.Value⟩ : Event).Tick, w64 (s2176.1 + 1), (⟨s2176.1, y2194.Guest, y2194.Kind, y2194.Value⟩ : Event).Kind, (⟨s2176.1, y2194.Guest, y2194.Kind, y2194.Value⟩ : Event).Value⟩ : Event).Value⟩ : Event)).set s2176.2.1.toNat (⟨(⟨(⟨(⟨s2176.1, y2194.Guest, y2194.Kind, y2194.Value⟩ : Event).Tick, w64 (s2176.1 + 1), (⟨s2176.1, y2194.Guest, y2194.Kind, y2194.Value⟩ : Event).Kind, (⟨s2176.1, y2194.Guest, y2194.Kind, y2194.Value⟩ : Event).Value⟩ : Event).Tick, (⟨(⟨s2176.1, y2194.Guest, y2194.Kind, y2194.Value⟩ : Event).Tick, w64 (s2176.1 + 1), (⟨s2176.1, y2194.Guest, y2194.Kind, y2194.Value⟩ : Event).Kind, (⟨s2176.1, y2194.Guest, y2194.Kind, y2194.Value⟩ : Event).Value⟩ : Event).Guest, r2206, (⟨(⟨s2176.1, y2194.Guest, y2194.Kind, y2194.Value⟩ : Event).Tick, w64 (s2176.1 + 1), (⟨s2176.1, y2194.Guest, y2194.Kind, y2194.Value⟩ : Event).Kind, (⟨s2176.1, y2194.Guest, y2194.Kind, y2194.Value⟩ : Event).Value⟩ : Event).Value⟩ : Event).Tick, (⟨(⟨(⟨s2176.1, y2194.Guest, y2194.Kind, y2194.Value⟩ : Event).Tick, w64 (s2176.1 + 1), (⟨s2176.1, y2194.Guest, y2194.Kind, y2194.Value⟩ : Event).Kind, (⟨s2176.1, y2194.Guest, y2194.Kind, y2194.Value⟩ : Event).Value⟩ : Event).Tick, (⟨(⟨s2176.1, y2194.Guest, y2194.Kind, y2194.Value⟩ : Event).Tick, w64 (s2176.1 + 1), (⟨s2176.1, y2194.Guest, y2194.Kind, y2194.Value⟩ : Event).Kind, (⟨s2176.1, y2194.Guest, y2194.Kind, y2194.Value⟩ : Event).Value⟩ : Event).Guest, r2206, (⟨(⟨s2176.1, y2194.Guest, y2194.Kind, y2194.Value⟩ : Event).Tick, w64 (s2176.1 + 1), (⟨s2176.1, y2194.Guest, y2194.Kind, y2194.Value⟩ : Event).Kind, (⟨s2176.1, y2194.Guest, y2194.Kind, y2194.Value⟩ : Event).Value⟩ : Event).Value⟩ : Event).Guest, (⟨(⟨(⟨s2176.1, y2194.Guest, y2194.Kind, y2194.Value⟩ : Event).Tick, w64 (s2176.1 + 1), (⟨s2176.1, y2194.Guest, y2194.Kind, y2194.Value⟩ : Event).Kind, (⟨s2176.1, y2194.Guest, y2194.Kind, y2194.Value⟩ : Event).Value⟩ : Event).Tick, (⟨(⟨s2176.1, y2194.Guest, y2194.Kind, y2194.Value⟩ : Event).Tick, w64 (s2176.1 + 1), (⟨s2176.1, y2194.Guest, y2194.Kind, y2194.Value⟩ : Event).Kind, (⟨s2176.1, y2194.Guest, y2194.Kind, y2194.Value⟩ : Event).Value⟩ : Event).Guest, r2206, (⟨(⟨s2176.1, y2194.Guest, y2194.Kind, y2194.Value⟩ : Event).Tick, w64 (s2176.1 + 1), (⟨s2176.1, y2194.Guest, y2194.Kind, y2194.Value⟩ : Event).Kind, (⟨s2176.1, y2194.Guest, y2194.Kind, y2194.Value⟩ : Event).Value⟩ : Event).Value⟩ : Event).Kind, w64 ((w64 ((w64 (s2176.1 + 1)) + 1)) + 1)⟩ : Event)).length c2065) (by kernel_rfl) (by rw [@List.length_set _ (((s2176.2.2.set s2176.2.1.toNat (⟨s2176.1, y2194.Guest, y2194.Kind, y2194.Value⟩ : Event)).set s2176.2.1.toNat (⟨(⟨s2176.1, y2194.Guest, y2194.Kind, y2194.Value⟩ : Event).Tick, w64 (s2176.1 + 1), (⟨s2176.1, y2194.Guest, y2194.Kind, y2194.Value⟩ : Event).Kind, (⟨s2176.1, y2194.Guest, y2194.Kind, y2194.Value⟩ : Event).Value⟩ : Event)).set s2176.2.1.toNat (⟨(⟨(⟨s2176.1, y2194.Guest, y2194.Kind, y2194.Value⟩ : Event).Tick, w64 (s2176.1 + 1), (⟨s2176.1, y2194.Guest, y2194.Kind, y2194.Value⟩ : Event).Kind, (⟨s2176.1, y2194.Guest, y2194.Kind, y2194.Value⟩ : Event).Value⟩ : Event).Tick, (⟨(⟨s2176.1, y2194.Guest, y2194.Kind, y2194.Value⟩ : Event).Tick, w64 (s2176.1 + 1), (⟨s2176.1, y2194.Guest, y2194.Kind, y2194.Value⟩ : Event).Kind, (⟨s2176.1, y2194.Guest, y2194.Kind, y2194.Value⟩ : Event).Value⟩ : Event).Guest, r2206, (⟨(⟨s2176.1, y2194.Guest, y2194.Kind, y2194.Value⟩ : Event).Tick, w64 (s2176.1 + 1), (⟨s2176.1, y2194.Guest, y2194.Kind, y2194.Value⟩ : Event).Kind, (⟨s2176.1, y2194.Guest, y2194.Kind, y2194.Value⟩ : Event).Value⟩ : Event).Value⟩ : Event)) s2176.2.1.toNat (⟨(⟨(⟨(⟨s2176.1, y2194.Guest, y2194.Kind, y2194.Value⟩ : Event).Tick, w64 (s2176.1 + 1), (⟨s2176.1, y2194.Guest, y2194.Kind, y2194.Value⟩ : Event).Kind, (⟨s2176.1, y2194.Guest, y2194.Kind, y2194.Value⟩ : Event).Value⟩ : Event).Tick, (⟨(⟨s2176.1, y2194.Guest, y2194.Kind, y2194.Value⟩ : Event).Tick, w64 (s2176.1 + 1), (⟨s2176.1, y2194.Guest, y2194.Kind, y2194.Value⟩ : Event).Kind, (⟨s2176.1, y2194.Guest, y2194.Kind, y2194.Value⟩ : Event).Value⟩ : Event).Guest, r2206, (⟨(⟨s2176.1, y2194.Guest, y2194.Kind, y2194.Value⟩ : Event).Tick, w64 (s2176.1 + 1), (⟨s2176.1, y2194.Guest, y2194.Kind, y2194.Value⟩ : Event).Kind, (⟨s2176.1, y2194.Guest, y2194.Kind, y2194.Value⟩ : Event).Value⟩ : Event).Value⟩ : Event).Tick, (⟨(⟨(⟨s2176.1, y2194.Guest, y2194.Kind, y2194.Value⟩ : Event).Tick, w64 (s2176.1 + 1), (⟨s2176.1, y2194.Guest, y2194.Kind, y2194.Value⟩ : Event).Kind, (⟨s2176.1, y2194.Guest, y2194.Kind, y2194.Value⟩ : Event).Value⟩ : Event).Tick, (⟨(⟨s2176.1, y2194.Guest, y2194.Kind, y2194.Value⟩ : Event).Tick, w64 (s2176.1 + 1), (⟨s2176.1, y2194.Guest, y2194.Kind, y2194.Value⟩ : Event).Kind, (⟨s2176.1, y2194.Guest, y2194.Kind, y2194.Value⟩ : Event).Value⟩ : Event).Guest, r2206, (⟨(⟨s2176.1, y2194.Guest, y2194.Kind, y2194.Value⟩ : Event).Tick, w64 (s2176.1 + 1), (⟨s2176.1, y2194.Guest, y2194.Kind, y2194.Value⟩ : Event).Kind, (⟨s2176.1, y2194.Guest, y2194.Kind, y2194.Value⟩ : Event).Value⟩ : Event).Value⟩ : Event).Guest, (⟨(⟨(⟨s2176.1, y2194.Guest, y2194.Kind, y2194.Value⟩ : Event).Tick, w64 (s2176.1 + 1), (⟨s2176.1, y2194.Guest, y2194.Kind, y2194.Value⟩ : Event).Kind, (⟨s2176.1, y2194.Guest, y2194.Kind, y2194.Value⟩ : Event).Value⟩ : Event).Tick, (⟨(⟨s2176.1, y2194.Guest, y2194.Kind, y2194.Value⟩ : Event).Tick, w64 (s2176.1 + 1), (⟨s2176.1, y2194.Guest, y2194.Kind, y2194.Value⟩ : Event).Kind, (⟨s2176.1, y2194.Guest, y2194.Kind, y2194.Value⟩ : Event).Value⟩ : Event).Guest, r2206, (⟨(⟨s2176.1, y2194.Guest, y2194.Kind, y2194.Value⟩ : Event).Tick, w64 (s2176.1 + 1), (⟨s2176.1, y2194.Guest, y2194.Kind, y2194.Value⟩ : Event).Kind, (⟨s2176.1, y2194.Guest, y2194.Kind, y2194.Value⟩ : Event).Value⟩ : Event).Value⟩ : Event).Kind, w64 ((w64 ((w64 (s2176.1 + 1)) + 1)) + 1)⟩ : Event)]) ?_
      refine W_conv 34 (.slice p2064 (((s2176.2.2.set s2176.2.1.toNat (⟨s2176.1, y2194.Guest, y2194.Kind, y2194.Value⟩ : Event)).set s2176.2.1.toNat (⟨(⟨s2176.1, y2194.Guest, y2194.Kind, y2194.Value⟩ : Event).Tick, w64 (s2176.1 + 1), (⟨s2176.1, y2194.Guest, y2194.Kind, y2194.Value⟩ : Event).Kind, (⟨s2176.1, y2194.Guest, y2194.Kind, y2194.Value⟩ : Event).Value⟩ : Event)).set s2176.2.1.toNat (⟨(⟨(⟨s2176.1, y2194.Guest, y2194.Kind, y2194.Value⟩ : Event).Tick, w64 (s2176.1 + 1), (⟨s2176.1, y2194.Guest, y2194.Kind, y2194.Value⟩ : Event).Kind, (⟨s2176.1, y2194.Guest, y2194.Kind, y2194.Value⟩ : Event).Value⟩ : Event).Tick, (⟨(⟨s2176.1, y2194.Guest, y2194.Kind, y2194.Value⟩ : Event).Tick, w64 (s2176.1 + 1), (⟨s2176.1, y2194.Guest, y2194.Kind, y2194.Value⟩ : Event).Kind, (⟨s2176.1, y2194.Guest, y2194.Kind, y2194.Value⟩ : Event).Value⟩ : Event).Guest, r2206, (⟨(⟨s2176.1, y2194.Guest, y2194.Kind, y2194.Value⟩ : Event).Tick, w64 (s2176.1 + 1), (⟨s2176.1, y2194.Guest, y2194.Kind, y2194.Value⟩ : Event).Kind, (⟨s2176.1, y2194.Guest, y2194.Kind, y2194.Value⟩ : Event).Value⟩ : Event).Value⟩ : Event)).length c2065) (.slice p2064 ((((s2176.2.2.set s2176.2.1.toNat (⟨s2176.1, y2194.Guest, y2194.Kind, y2194.Value⟩ : Event)).set s2176.2.1.toNat (⟨(⟨s2176.1, y2194.Guest, y2194.Kind, y2194.Value⟩ : Event).Tick, w64 (s2176.1 + 1), (⟨s2176.1, y2194.Guest, y2194.Kind, y2194.Value⟩ : Event).Kind, (⟨s2176.1, y2194.Guest, y2194.Kind, y2194.Value⟩ : Event).Value⟩ : Event)).set s2176.2.1.toNat (⟨(⟨(⟨s2176.1, y2194.Guest, y2194.Kind, y2194.Value⟩ : Event).Tick, w64 (s2176.1 + 1), (⟨s2176.1, y2194.Guest, y2194.Kind, y2194.Value⟩ : Event).Kind, (⟨s2176.1, y2194.Guest, y2194.Kind, y2194.Value⟩ : Event).Value⟩ : Event).Tick, (⟨(⟨s2176.1, y2194.Guest, y2194.Kind, y2194.Value⟩ : Event).Tick, w64 (s2176.1 + 1), (⟨s2176.1, y2194.Guest, y2194.Kind, y2194.Value⟩ : Event).Kind, (⟨s2176.1, y2194.Guest, y2194.Kind, y2194.Value⟩ : Event).Value⟩ : Event).Guest, r2206, (⟨(⟨s2176.1, y2194.Guest, y2194.Kind, y2194.Value⟩ : Event).Tick, w64 (s2176.1 + 1), (⟨s2176.1, y2194.Guest, y2194.Kind, y2194.Value⟩ : Event).Kind, (⟨s2176.1, y2194.Guest, y2194.Kind, y2194.Value⟩ : Event).Value⟩ : Event).Value⟩ : Event)).set s2176.2.1.toNat (⟨(⟨(⟨(⟨s2176.1, y2194.Guest, y2194.Kind, y2194.Value⟩ : Event).Tick, w64 (s2176.1 + 1), (⟨s2176.1, y2194.Guest, y2194.Kind, y2194.Value⟩ : Event).Kind, (⟨s2176.1, y2194.Guest, y2194.Kind, y2194.Value⟩ : Event).Value⟩ : Event).Tick, (⟨(⟨s2176.1, y2194.Guest, y2194.Kind, y2194.Value⟩ : Event).Tick, w64 (s2176.1 + 1), (⟨s2176.1, y2194.Guest, y2194.Kind, y2194.Value⟩ : Event).Kind, (⟨s2176.1, y2194.Guest, y2194.Kind, y2194.Value⟩ : Event).Value⟩ : Event).Guest, r2206, (⟨(⟨s2176.1, y2194.Guest, y2194.Kind, y2194.Value⟩ : Event).Tick, w64 (s2176.1 + 1), (⟨s2176.1, y2194.Guest, y2194.Kind, y2194.Value⟩ : Event).Kind, (⟨s2176.1, y2194.Guest, y2194.Kind, y2194.Value⟩ : Event).Value⟩ : Event).Value⟩ : Event).Tick, (⟨(⟨(⟨s2176.1, y2194.Guest, y2194.Kind, y2194.Value⟩ : Event).Tick, w64 (s2176.1 + 1), (⟨s2176.1, y2194.Guest, y2194.Kind, y2194.Value⟩ : Event).Kind, (⟨s2176.1, y2194.Guest, y2194.Kind, y2194.Value⟩ : Event).Value⟩ : Event).Tick, (⟨(⟨s2176.1, y2194.Guest, y2194.Kind, y2194.Value⟩ : Event).Tick, w64 (s2176.1 + 1), (⟨s2176.1, y2194.Guest, y2194.Kind, y2194.Value⟩ : Event).Kind, (⟨s2176.1, y2194.Guest, y2194.Kind, y2194.Value⟩ : Event).Value⟩ : Event).Guest, r2206, (⟨(⟨s2176.1, y2194.Guest, y2194.Kind, y2194.Value⟩ : Event).Tick, w64 (s2176.1 + 1), (⟨s2176.1, y2194.Guest, y2194.Kind, y2194.Value⟩ : Event).Kind, (⟨s2176.1, y2194.Guest, y2194.Kind, y2194.Value⟩ : Event).Value⟩ : Event).Value⟩ : Event).Guest, (⟨(⟨(⟨s2176.1, y2194.Guest, y2194.Kind, y2194.Value⟩ : Event).Tick, w64 (s2176.1 + 1), (⟨s2176.1, y2194.Guest, y2194.Kind, y2194.Value⟩ : Event).Kind, (⟨s2176.1, y2194.Guest, y2194.Kind, y2194.Value⟩ : Event).Value⟩ : Event).Tick, (⟨(⟨s2176.1, y2194.Guest, y2194.Kind, y2194.Value⟩ : Event).Tick, w64 (s2176.1 + 1), (⟨s2176.1, y2194.Guest, y2194.Kind, y2194.Value⟩ : Event).Kind, (⟨s2176.1, y2194.Guest, y2194.Kind, y2194.Value⟩ : Event).Value⟩ : Event).Guest, r2206, (⟨(⟨s2176.1, y2194.Guest, y2194.Kind, y2194.Value⟩ : Event).Tick, w64 (s2176.1 + 1), (⟨s2176.1, y2194.Guest, y2194.Kind, y2194.Value⟩ : Event).Kind, (⟨s2176.1, y2194.Guest, y2194.Kind, y2194.Value⟩ : Event).Value⟩ : Event).Value⟩ : Event).Kind, w64 ((w64 ((w64 (s2176.1 + 1)) + 1)) + 1)⟩ : Event)).length c2065) (by kernel_rfl) (by rw [@List.length_set _ (((s2176.2.2.set s2176.2.1.toNat (⟨s2176.1, y2194.Guest, y2194.Kind, y2194.Value⟩ : Event)).set s2176.2.1.toNat (⟨(⟨s2176.1, y2194.Guest, y2194.Kind, y2194.Value⟩ : Event).Tick, w64 (s2176.1 + 1), (⟨s2176.1, y2194.Guest, y2194.Kind, y2194.Value⟩ : Event).Kind, (⟨s2176.1, y2194.Guest, y2194.Kind, y2194.Value⟩ : Event).Value⟩ : Event)).set s2176.2.1.toNat (⟨(⟨(⟨s2176.1, y2194.Guest, y2194.Kind, y2194.Value⟩ : Event).Tick, w64 (s2176.1 + 1), (⟨s2176.1, y2194.Guest, y2194.Kind, y2194.Value⟩ : Event).Kind, (⟨s2176.1, y2194.Guest, y2194.Kind, y2194.Value⟩ : Event).Value⟩ : Event).Tick, (⟨(⟨s2176.1, y2194.Guest, y2194.Kind, y2194.Value⟩ : Event).Tick, w64 (s2176.1 + 1), (⟨s2176.1, y2194.Guest, y2194.Kind, y2194.Value⟩ : Event).Kind, (⟨s2176.1, y2194.Guest, y2194.Kind, y2194.Value⟩ : Event).Value⟩ : Event).Guest, r2206, (⟨(⟨s2176.1, y2194.Guest, y2194.Kind, y2194.Value⟩ : Event).Tick, w64 (s2176.1 + 1), (⟨s2176.1, y2194.Guest, y2194.Kind, y2194.Value⟩ : Event).Kind, (⟨s2176.1, y2194.Guest, y2194.Kind, y2194.Value⟩ : Event).Value⟩ : Event).Value⟩ : Event)) s2176.2.1.toNat (⟨(⟨(⟨(⟨s2176.1, y2194.Guest, y2194.Kind, y2194.Value⟩ : Event).Tick, w64 (s2176.1 + 1), (⟨s2176.1, y2194.Guest, y2194.Kind, y2194.Value⟩ : Event).Kind, (⟨s2176.1, y2194.Guest, y2194.Kind, y2194.Value⟩ : Event).Value⟩ : Event).Tick, (⟨(⟨s2176.1, y2194.Guest, y2194.Kind, y2194.Value⟩ : Event).Tick, w64 (s2176.1 + 1), (⟨s2176.1, y2194.Guest, y2194.Kind, y2194.Value⟩ : Event).Kind, (⟨s2176.1, y2194.Guest, y2194.Kind, y2194.Value⟩ : Event).Value⟩ : Event).Guest, r2206, (⟨(⟨s2176.1, y2194.Guest, y2194.Kind, y2194.Value⟩ : Event).Tick, w64 (s2176.1 + 1), (⟨s2176.1, y2194.Guest, y2194.Kind, y2194.Value⟩ : Event).Kind, (⟨s2176.1, y2194.Guest, y2194.Kind, y2194.Value⟩ : Event).Value⟩ : Event).Value⟩ : Event).Tick, (⟨(⟨(⟨s2176.1, y2194.Guest, y2194.Kind, y2194.Value⟩ : Event).Tick, w64 (s2176.1 + 1), (⟨s2176.1, y2194.Guest, y2194.Kind, y2194.Value⟩ : Event).Kind, (⟨s2176.1, y2194.Guest, y2194.Kind, y2194.Value⟩ : Event).Value⟩ : Event).Tick, (⟨(⟨s2176.1, y2194.Guest, y2194.Kind, y2194.Value⟩ : Event).Tick, w64 (s2176.1 + 1), (⟨s2176.1, y2194.Guest, y2194.Kind, y2194.Value⟩ : Event).Kind, (⟨s2176.1, y2194.Guest, y2194.Kind, y2194.Value⟩ : Event).Value⟩ : Event).Guest, r2206, (⟨(⟨s2176.1, y2194.Guest, y2194.Kind, y2194.Value⟩ : Event).Tick, w64 (s2176.1 + 1), (⟨s2176.1, y2194.Guest, y2194.Kind, y2194.Value⟩ : Event).Kind, (⟨s2176.1, y2194.Guest, y2194.Kind, y2194.Value⟩ : Event).Value⟩ : Event).Value⟩ : Event).Guest, (⟨(⟨(⟨s2176.1, y2194.Guest, y2194.Kind, y2194.Value⟩ : Event).Tick, w64 (s2176.1 + 1), (⟨s2176.1, y2194.Guest, y2194.Kind, y2194.Value⟩ : Event).Kind, (⟨s2176.1, y2194.Guest, y2194.Kind, y2194.Value⟩ : Event).Value⟩ : Event).Tick, (⟨(⟨s2176.1, y2194.Guest, y2194.Kind, y2194.Value⟩ : Event).Tick, w64 (s2176.1 + 1), (⟨s2176.1, y2194.Guest, y2194.Kind, y2194.Value⟩ : Event).Kind, (⟨s2176.1, y2194.Guest, y2194.Kind, y2194.Value⟩ : Event).Value⟩ : Event).Guest, r2206, (⟨(⟨s2176.1, y2194.Guest, y2194.Kind, y2194.Value⟩ : Event).Tick, w64 (s2176.1 + 1), (⟨s2176.1, y2194.Guest, y2194.Kind, y2194.Value⟩ : Event).Kind, (⟨s2176.1, y2194.Guest, y2194.Kind, y2194.Value⟩ : Event).Value⟩ : Event).Value⟩ : Event).Kind, w64 ((w64 ((w64 (s2176.1 + 1)) + 1)) + 1)⟩ : Event)]) ?_
      refine W_nil ?_
      refine N_then ?_
      refine G_region ?_
      refine W_run 3 [(0, .slice p2064 ((((s2176.2.2.set s2176.2.1.toNat (⟨s2176.1, y2194.Guest, y2194.Kind, y2194.Value⟩ : Event)).set s2176.2.1.toNat (⟨(⟨s2176.1, y2194.Guest, y2194.Kind, y2194.Value⟩ : Event).Tick, w64 (s2176.1 + 1), (⟨s2176.1, y2194.Guest, y2194.Kind, y2194.Value⟩ : Event).Kind, (⟨s2176.1, y2194.Guest, y2194.Kind, y2194.Value⟩ : Event).Value⟩ : Event)).set s2176.2.1.toNat (⟨(⟨(⟨s2176.1, y2194.Guest, y2194.Kind, y2194.Value⟩ : Event).Tick, w64 (s2176.1 + 1), (⟨s2176.1, y2194.Guest, y2194.Kind, y2194.Value⟩ : Event).Kind, (⟨s2176.1, y2194.Guest, y2194.Kind, y2194.Value⟩ : Event).Value⟩ : Event).Tick, (⟨(⟨s2176.1, y2194.Guest, y2194.Kind, y2194.Value⟩ : Event).Tick, w64 (s2176.1 + 1), (⟨s2176.1, y2194.Guest, y2194.Kind, y2194.Value⟩ : Event).Kind, (⟨s2176.1, y2194.Guest, y2194.Kind, y2194.Value⟩ : Event).Value⟩ : Event).Guest, r2206, (⟨(⟨s2176.1, y2194.Guest, y2194.Kind, y2194.Value⟩ : Event).Tick, w64 (s2176.1 + 1), (⟨s2176.1, y2194.Guest, y2194.Kind, y2194.Value⟩ : Event).Kind, (⟨s2176.1, y2194.Guest, y2194.Kind, y2194.Value⟩ : Event).Value⟩ : Event).Value⟩ : Event)).set s2176.2.1.toNat (⟨(⟨(⟨(⟨s2176.1, y2194.Guest, y2194.Kind, y2194.Value⟩ : Event).Tick, w64 (s2176.1 + 1), (⟨s2176.1, y2194.Guest, y2194.Kind, y2194.Value⟩ : Event).Kind, (⟨s2176.1, y2194.Guest, y2194.Kind, y2194.Value⟩ : Event).Value⟩ : Event).Tick, (⟨(⟨s2176.1, y2194.Guest, y2194.Kind, y2194.Value⟩ : Event).Tick, w64 (s2176.1 + 1), (⟨s2176.1, y2194.Guest, y2194.Kind, y2194.Value⟩ : Event).Kind, (⟨s2176.1, y2194.Guest, y2194.Kind, y2194.Value⟩ : Event).Value⟩ : Event).Guest, r2206, (⟨(⟨s2176.1, y2194.Guest, y2194.Kind, y2194.Value⟩ : Event).Tick, w64 (s2176.1 + 1), (⟨s2176.1, y2194.Guest, y2194.Kind, y2194.Value⟩ : Event).Kind, (⟨s2176.1, y2194.Guest, y2194.Kind, y2194.Value⟩ : Event).Value⟩ : Event).Value⟩ : Event).Tick, (⟨(⟨(⟨s2176.1, y2194.Guest, y2194.Kind, y2194.Value⟩ : Event).Tick, w64 (s2176.1 + 1), (⟨s2176.1, y2194.Guest, y2194.Kind, y2194.Value⟩ : Event).Kind, (⟨s2176.1, y2194.Guest, y2194.Kind, y2194.Value⟩ : Event).Value⟩ : Event).Tick, (⟨(⟨s2176.1, y2194.Guest, y2194.Kind, y2194.Value⟩ : Event).Tick, w64 (s2176.1 + 1), (⟨s2176.1, y2194.Guest, y2194.Kind, y2194.Value⟩ : Event).Kind, (⟨s2176.1, y2194.Guest, y2194.Kind, y2194.Value⟩ : Event).Value⟩ : Event).Guest, r2206, (⟨(⟨s2176.1, y2194.Guest, y2194.Kind, y2194.Value⟩ : Event).Tick, w64 (s2176.1 + 1), (⟨s2176.1, y2194.Guest, y2194.Kind, y2194.Value⟩ : Event).Kind, (⟨s2176.1, y2194.Guest, y2194.Kind, y2194.Value⟩ : Event).Value⟩ : Event).Value⟩ : Event).Guest, (⟨(⟨(⟨s2176.1, y2194.Guest, y2194.Kind, y2194.Value⟩ : Event).Tick, w64 (s2176.1 + 1), (⟨s2176.1, y2194.Guest, y2194.Kind, y2194.Value⟩ : Event).Kind, (⟨s2176.1, y2194.Guest, y2194.Kind, y2194.Value⟩ : Event).Value⟩ : Event).Tick, (⟨(⟨s2176.1, y2194.Guest, y2194.Kind, y2194.Value⟩ : Event).Tick, w64 (s2176.1 + 1), (⟨s2176.1, y2194.Guest, y2194.Kind, y2194.Value⟩ : Event).Kind, (⟨s2176.1, y2194.Guest, y2194.Kind, y2194.Value⟩ : Event).Value⟩ : Event).Guest, r2206, (⟨(⟨s2176.1, y2194.Guest, y2194.Kind, y2194.Value⟩ : Event).Tick, w64 (s2176.1 + 1), (⟨s2176.1, y2194.Guest, y2194.Kind, y2194.Value⟩ : Event).Kind, (⟨s2176.1, y2194.Guest, y2194.Kind, y2194.Value⟩ : Event).Value⟩ : Event).Value⟩ : Event).Kind, w64 ((w64 ((w64 (s2176.1 + 1)) + 1)) + 1)⟩ : Event)).length c2065), (1, .int .i64 (w64 ((w64 ((w64 ((w64 (s2176.1 + 1)) + 1)) + 1)) + 1))), (5, .int .i64 s2176.2.1)] w2217 (by kernel_rfl) ?_
      refine W_nil ?_
      refine N_block ?_
      refine N_then ?_
      refine G_region ?_
      refine W_run 3 [(0, .slice p2064 ((((s2176.2.2.set s2176.2.1.toNat (⟨s2176.1, y2194.Guest, y2194.Kind, y2194.Value⟩ : Event)).set s2176.2.1.toNat (⟨(⟨s2176.1, y2194.Guest, y2194.Kind, y2194.Value⟩ : Event).Tick, w64 (s2176.1 + 1), (⟨s2176.1, y2194.Guest, y2194.Kind, y2194.Value⟩ : Event).Kind, (⟨s2176.1, y2194.Guest, y2194.Kind, y2194.Value⟩ : Event).Value⟩ : Event)).set s2176.2.1.toNat (⟨(⟨(⟨s2176.1, y2194.Guest, y2194.Kind, y2194.Value⟩ : Event).Tick, w64 (s2176.1 + 1), (⟨s2176.1, y2194.Guest, y2194.Kind, y2194.Value⟩ : Event).Kind, (⟨s2176.1, y2194.Guest, y2194.Kind, y2194.Value⟩ : Event).Value⟩ : Event).Tick, (⟨(⟨s2176.1, y2194.Guest, y2194.Kind, y2194.Value⟩ : Event).Tick, w64 (s2176.1 + 1), (⟨s2176.1, y2194.Guest, y2194.Kind, y2194.Value⟩ : Event).Kind, (⟨s2176.1, y2194.Guest, y2194.Kind, y2194.Value⟩ : Event).Value⟩ : Event).Guest, r2206, (⟨(⟨s2176.1, y2194.Guest, y2194.Kind, y2194.Value⟩ : Event).Tick, w64 (s2176.1 + 1), (⟨s2176.1, y2194.Guest, y2194.Kind, y2194.Value⟩ : Event).Kind, (⟨s2176.1, y2194.Guest, y2194.Kind, y2194.Value⟩ : Event).Value⟩ : Event).Value⟩ : Event)).set s2176.2.1.toNat (⟨(⟨(⟨(⟨s2176.1, y2194.Guest, y2194.Kind, y2194.Value⟩ : Event).Tick, w64 (s2176.1 + 1), (⟨s2176.1, y2194.Guest, y2194.Kind, y2194.Value⟩ : Event).Kind, (⟨s2176.1, y2194.Guest, y2194.Kind, y2194.Value⟩ : Event).Value⟩ : Event).Tick, (⟨(⟨s2176.1, y2194.Guest, y2194.Kind, y2194.Value⟩ : Event).Tick, w64 (s2176.1 + 1), (⟨s2176.1, y2194.Guest, y2194.Kind, y2194.Value⟩ : Event).Kind, (⟨s2176.1, y2194.Guest, y2194.Kind, y2194.Value⟩ : Event).Value⟩ : Event).Guest, r2206, (⟨(⟨s2176.1, y2194.Guest, y2194.Kind, y2194.Value⟩ : Event).Tick, w64 (s2176.1 + 1), (⟨s2176.1, y2194.Guest, y2194.Kind, y2194.Value⟩ : Event).Kind, (⟨s2176.1, y2194.Guest, y2194.Kind, y2194.Value⟩ : Event).Value⟩ : Event).Value⟩ : Event).Tick, (⟨(⟨(⟨s2176.1, y2194.Guest, y2194.Kind, y2194.Value⟩ : Event).Tick, w64 (s2176.1 + 1), (⟨s2176.1, y2194.Guest, y2194.Kind, y2194.Value⟩ : Event).Kind, (⟨s2176.1, y2194.Guest, y2194.Kind, y2194.Value⟩ : Event).Value⟩ : Event).Tick, (⟨(⟨s2176.1, y2194.Guest, y2194.Kind, y2194.Value⟩ : Event).Tick, w64 (s2176.1 + 1), (⟨s2176.1, y2194.Guest, y2194.Kind, y2194.Value⟩ : Event).Kind, (⟨s2176.1, y2194.Guest, y2194.Kind, y2194.Value⟩ : Event).Value⟩ : Event).Guest, r2206, (⟨(⟨s2176.1, y2194.Guest, y2194.Kind, y2194.Value⟩ : Event).Tick, w64 (s2176.1 + 1), (⟨s2176.1, y2194.Guest, y2194.Kind, y2194.Value⟩ : Event).Kind, (⟨s2176.1, y2194.Guest, y2194.Kind, y2194.Value⟩ : Event).Value⟩ : Event).Value⟩ : Event).Guest, (⟨(⟨(⟨s2176.1, y2194.Guest, y2194.Kind, y2194.Value⟩ : Event).Tick, w64 (s2176.1 + 1), (⟨s2176.1, y2194.Guest, y2194.Kind, y2194.Value⟩ : Event).Kind, (⟨s2176.1, y2194.Guest, y2194.Kind, y2194.Value⟩ : Event).Value⟩ : Event).Tick, (⟨(⟨s2176.1, y2194.Guest, y2194.Kind, y2194.Value⟩ : Event).Tick, w64 (s2176.1 + 1), (⟨s2176.1, y2194.Guest, y2194.Kind, y2194.Value⟩ : Event).Kind, (⟨s2176.1, y2194.Guest, y2194.Kind, y2194.Value⟩ : Event).Value⟩ : Event).Guest, r2206, (⟨(⟨s2176.1, y2194.Guest, y2194.Kind, y2194.Value⟩ : Event).Tick, w64 (s2176.1 + 1), (⟨s2176.1, y2194.Guest, y2194.Kind, y2194.Value⟩ : Event).Kind, (⟨s2176.1, y2194.Guest, y2194.Kind, y2194.Value⟩ : Event).Value⟩ : Event).Value⟩ : Event).Kind, w64 ((w64 ((w64 (s2176.1 + 1)) + 1)) + 1)⟩ : Event)).length c2065), (1, .int .i64 (w64 ((w64 ((w64 ((w64 (s2176.1 + 1)) + 1)) + 1)) + 1))), (5, .int .i64 (w64 (s2176.2.1 + 1)))] w2217 (by kernel_rfl) ?_
      refine W_nil ?_
      obtain rfl := Option.some.inj hm
      exact N_loop fun a ha => ⟨_, rfl, sg2219, ho2220, (List.length_set.trans (List.length_set.trans (List.length_set.trans (List.length_set.trans hl2188)))), M2218.pick [0] (by kernel_rfl), ha.sub (by kernel_rfl)⟩
    refine G_cond_f (b := (decide (s2176.2.1 < (s2176.2.2.length : Int)))) hc2193 (by kernel_rfl) ?_
    refine G_exit ?_
    refine N_then_exit ?_
    refine N_then_exit ?_
    refine N_block_eq ?_
    obtain rfl := Option.some.inj hm
    obtain rfl := hout2178 _ rfl
    exact N_meet fun a ha => ⟨sg2186, ho2187, hl2188, M2181.pick [0] (by kernel_rfl), ha.sub (by kernel_rfl)⟩
  intro a2222 w2223 ⟨sg2190, ho2191, hl2192, M2224, hS2225⟩
  refine N_use hS2225 ?_
  have hm := hmo2185
  refine N_then ?_
  refine G_seq ?_
  refine G_region ?_
  refine W_run 2 [(4, .int .i64 out2183.1)] w2223 (by kernel_rfl) ?_
  refine W_nil ?_
  refine N_then ?_
  refine G_ret ?_
  obtain rfl := Option.some.inj hm
  refine N_ret [.int .i64 out2183.1] (RVs_cons (RV_tmp (by kernel_rfl)) RVs_nil) ?_
  exact ⟨sg2190, rfl, ho2191, hl2192, M2224.pick [0] (by kernel_rfl)⟩
theorem c_l_heldEventS (w : World) (x2260 : List Event) (p2262 : Option Addr) (c2263 : Nat) (h2264 : rdS encEvent w x2260 p2262 c2263) (x2265 : Int) {r : Int} (hm : M.l_heldEventS x2260 x2265 = some r) :
    Calls Try.prog 29 #[.slice p2262 x2260.length c2263, .int .i64 x2265] w fun e w' => e = .returned (.int .i64 r) ∧ Mem [] w w' [] := by
  unfold M.l_heldEventS at hm
  refine C_enter Try.func29 rfl (by kernel_rfl) ?_
  have M0 := Mem.refl [] w
  refine G_seq ?_
  refine G_region ?_
  refine W_run 1 [(0, .slice p2262 x2260.length c2263), (1, .int .i64 x2265)] w (by kernel_rfl) ?_
  refine W_nil ?_
  refine N_then ?_
  refine G_seq ?_
  refine G_seq ?_
  refine G_region ?_
  refine W_run 1 [(0, .slice p2262 x2260.length c2263), (1, .int .i64 x2265), (5, .int .i64 0)] w (by kernel_rfl) ?_
  refine W_nil ?_
  refine N_then ?_
  obtain ⟨out2303, hw2304, hmo2305⟩ := gx_bind hm
  refine G_meet (fun a w' => ∃ (o2306 : Int), out2303 = .inl o2306 ∧ Mem [] w w' [] ∧ Sat Try.f29.ntmps [(1, .int .i64 o2306)] a) ?_ ?_
  · refine G_block ?_
    refine G_while (σ := Int × Int) (ρ := (Int) ⊕ (Int)) (fun s2296 a w' => Mem [] w w' [] ∧ Sat Try.f29.ntmps [(0, .slice p2262 x2260.length c2263), (1, .int .i64 s2296.1), (5, .int .i64 s2296.2)] a) hw2304 (fun a ha => ⟨M0.pick [] (by kernel_rfl), ha.sub (by kernel_rfl)⟩) ?_
    clear hm
    intro s2296 x2297 hm hout2298 a2299 w2300 ⟨M2301, hS2302⟩
    refine G_use hS2302 ?_
    refine G_seq ?_
    refine G_seq ?_
    refine G_region ?_
    refine W_run 4 [(0, .slice p2262 x2260.length c2263), (1, .int .i64 s2296.1), (5, .int .i64 s2296.2), (9, .bool (decide (s2296.2 < (x2260.length : Int))))] w2300 (by kernel_rfl) ?_
    refine W_nil ?_
    refine N_then ?_
    rcases gx_bif hm with ⟨hc2307, hm⟩ | ⟨hc2307, hm⟩
    · refine G_cond_t (b := (decide (s2296.2 < (x2260.length : Int)))) hc2307 (by kernel_rfl) ?_
      refine G_skip ?_
      refine N_then ?_
      refine G_seq ?_
      refine G_block ?_
      refine G_seq ?_
      refine G_seq ?_
      refine G_region ?_
      refine W_run 2 [(0, .slice p2262 x2260.length c2263), (1, .int .i64 s2296.1), (5, .int .i64 s2296.2), (12, .slice p2262 x2260.length c2263), (13, .int .i64 s2296.2)] w2300 (by kernel_rfl) ?_
      obtain ⟨y2308, hy2308, hm⟩ := gx_bind hm
      refine W_val (elemP p2262 (s2296.2.toNat * 4)) w2300 (by kernel_rfl) (E_index (E := encEvent) _ _ _ x2260.length c2263 .i64 s2296.2 4 (y := y2308) rfl (by kernel_rfl) (by kernel_rfl) (by kernel_rfl) (h2264.mem0 M2301) rfl hy2308) ?_
      refine W_val (elemP p2262 (s2296.2.toNat * 4 + 0)) w2300 (by kernel_rfl) (E_fieldE (E := encEvent) _ _ 0 (s2296.2.toNat * 4) 0 rfl (by kernel_rfl) (by kernel_rfl) (h2264.mem0 M2301) hy2308) ?_
      refine W_val (.int .i64 y2308.Tick) w2300 (by kernel_rfl) (E_loadE (E := encEvent) _ _ false 1 s2296.2 0 (s2296.2.toNat * 4 + 0) y2308 (.int .i64 y2308.Tick) rfl (by kernel_rfl) (by kernel_rfl) (by kernel_rfl) (h2264.mem0 M2301) hy2308 rfl) ?_
      refine W_run 2 [(0, .slice p2262 x2260.length c2263), (1, .int .i64 s2296.1), (5, .int .i64 s2296.2), (18, .bool (y2308.Tick != s2296.1))] w2300 (by kernel_rfl) ?_
      refine W_nil ?_
      refine N_then ?_
      rcases gx_bif hm with ⟨hc2309, hm⟩ | ⟨hc2309, hm⟩
      · refine G_cond_t (b := (y2308.Tick != s2296.1)) hc2309 (by kernel_rfl) ?_
        refine G_seq ?_
        refine G_region ?_
        refine W_run 1 [(4, .int .i64 (-1))] w2300 (by kernel_rfl) ?_
        refine W_nil ?_
        refine N_then ?_
        refine G_ret ?_
        refine N_then_ret ?_
        refine N_block_ret ?_
        refine N_then_ret ?_
        refine N_then_ret ?_
        obtain rfl := Option.some.inj hm
        obtain rfl := hout2298 _ rfl
        have hm := hmo2305; simp only [Sum.elim_inr] at hm
        refine N_block_ret ?_
        refine N_meet_ret ?_
        refine N_then_ret ?_
        obtain rfl := Option.some.inj hm
        refine N_ret [.int .i64 (-1)] (RVs_cons (RV_tmp (by kernel_rfl)) RVs_nil) ?_
        exact ⟨rfl, M2301.pick [] (by kernel_rfl)⟩
      refine G_cond_f (b := (y2308.Tick != s2296.1)) hc2309 (by kernel_rfl) ?_
      refine G_skip ?_
      refine N_then ?_
      refine G_seq ?_
      refine G_region ?_
      refine W_run 3 [(0, .slice p2262 x2260.length c2263), (1, .int .i64 (w64 (s2296.1 + 1))), (5, .int .i64 s2296.2)] w2300 (by kernel_rfl) ?_
      refine W_nil ?_
      refine N_then ?_
      refine G_seq ?_
      refine G_seq ?_
      refine G_region ?_
      refine W_run 2 [(0, .slice p2262 x2260.length c2263), (1, .int .i64 (w64 (s2296.1 + 1))), (5, .int .i64 s2296.2), (21, .slice p2262 x2260.length c2263), (22, .int .i64 s2296.2)] w2300 (by kernel_rfl) ?_
      obtain ⟨y2310, hy2310, hm⟩ := gx_bind hm
      refine W_val (elemP p2262 (s2296.2.toNat * 4)) w2300 (by kernel_rfl) (E_index (E := encEvent) _ _ _ x2260.length c2263 .i64 s2296.2 4 (y := y2310) rfl (by kernel_rfl) (by kernel_rfl) (by kernel_rfl) (h2264.mem0 M2301) rfl hy2310) ?_
      refine W_val (elemP p2262 (s2296.2.toNat * 4 + 1)) w2300 (by kernel_rfl) (E_fieldE (E := encEvent) _ _ 1 (s2296.2.toNat * 4) 1 rfl (by kernel_rfl) (by kernel_rfl) (h2264.mem0 M2301) hy2310) ?_
      refine W_val (.int .i64 y2310.Guest) w2300 (by kernel_rfl) (E_loadE (E := encEvent) _ _ false 1 s2296.2 1 (s2296.2.toNat * 4 + 1) y2310 (.int .i64 y2310.Guest) rfl (by kernel_rfl) (by kernel_rfl) (by kernel_rfl) (h2264.mem0 M2301) hy2310 rfl) ?_
      refine W_run 2 [(0, .slice p2262 x2260.length c2263), (1, .int .i64 (w64 (s2296.1 + 1))), (5, .int .i64 s2296.2), (27, .bool (y2310.Guest != (w64 (s2296.1 + 1))))] w2300 (by kernel_rfl) ?_
      refine W_nil ?_
      refine N_then ?_
      rcases gx_bif hm with ⟨hc2311, hm⟩ | ⟨hc2311, hm⟩
      · refine G_cond_t (b := (y2310.Guest != (w64 (s2296.1 + 1)))) hc2311 (by kernel_rfl) ?_
        refine G_seq ?_
        refine G_region ?_
        refine W_run 1 [(4, .int .i64 (-1))] w2300 (by kernel_rfl) ?_
        refine W_nil ?_
        refine N_then ?_
        refine G_ret ?_
        refine N_then_ret ?_
        refine N_block_ret ?_
        refine N_then_ret ?_
        refine N_then_ret ?_
        obtain rfl := Option.some.inj hm
        obtain rfl := hout2298 _ rfl
        have hm := hmo2305; simp only [Sum.elim_inr] at hm
        refine N_block_ret ?_
        refine N_meet_ret ?_
        refine N_then_ret ?_
        obtain rfl := Option.some.inj hm
        refine N_ret [.int .i64 (-1)] (RVs_cons (RV_tmp (by kernel_rfl)) RVs_nil) ?_
        exact ⟨rfl, M2301.pick [] (by kernel_rfl)⟩
      refine G_cond_f (b := (y2310.Guest != (w64 (s2296.1 + 1)))) hc2311 (by kernel_rfl) ?_
      refine G_skip ?_
      refine N_then ?_
      refine G_seq ?_
      refine G_region ?_
      refine W_run 3 [(0, .slice p2262 x2260.length c2263), (1, .int .i64 (w64 ((w64 (s2296.1 + 1)) + 1))), (5, .int .i64 s2296.2)] w2300 (by kernel_rfl) ?_
      refine W_nil ?_
      refine N_then ?_
      refine G_seq ?_
      refine G_seq ?_
      refine G_quiet (by kernel_rfl) (by kernel_rfl) M2301 ?_
      refine Z_runs [.slice p2262 x2260.length c2263, .int .i64 s2296.2] [(0, .slice p2262 x2260.length c2263), (1, .int .i64 (w64 ((w64 (s2296.1 + 1)) + 1))), (5, .int .i64 s2296.2), (30, .slice p2262 x2260.length c2263), (31, .int .i64 s2296.2)] (fun w_ => by kernel_rfl) (by kernel_rfl) ?_
      obtain ⟨y2312, hy2312, hm⟩ := gx_bind hm
      refine Z_val (elemP p2262 (s2296.2.toNat * 4)) (by kernel_rfl) (fun w_ M_ => (E_index (E := encEvent) _ _ _ x2260.length c2263 .i64 s2296.2 4 (y := y2312) rfl (by kernel_rfl) (by kernel_rfl) (by kernel_rfl) (h2264.mem0 M_) rfl hy2312)) ?_
      refine Z_val (elemP p2262 (s2296.2.toNat * 4 + 2)) (by kernel_rfl) (fun w_ M_ => (E_fieldE (E := encEvent) _ _ 2 (s2296.2.toNat * 4) 2 rfl (by kernel_rfl) (by kernel_rfl) (h2264.mem0 M_) hy2312)) ?_
      refine Z_val (.string y2312.Kind) (by kernel_rfl) (fun w_ M_ => (E_loadE (E := encEvent) _ _ false 1 s2296.2 2 (s2296.2.toNat * 4 + 2) y2312 (.string y2312.Kind) rfl (by kernel_rfl) (by kernel_rfl) (by kernel_rfl) (h2264.mem0 M_) hy2312 rfl)) ?_
      refine Z_runs [.int .i64 (w64 ((w64 (s2296.1 + 1)) + 1))] [(0, .slice p2262 x2260.length c2263), (1, .int .i64 (w64 ((w64 (s2296.1 + 1)) + 1))), (5, .int .i64 s2296.2), (34, .string y2312.Kind), (35, .int .i64 (w64 ((w64 (s2296.1 + 1)) + 1)))] (fun w_ => by kernel_rfl) (by kernel_rfl) ?_
      obtain ⟨r2313, hr2313, hm⟩ := gx_bind hm
      refine Z_call 64 #[.int .i64 (w64 ((w64 (s2296.1 + 1)) + 1))] (.string r2313) (by kernel_rfl) (fun w_ => by kernel_rfl) (fun w_ M_ => (c_l_markText w_ (w64 ((w64 (s2296.1 + 1)) + 1)) hr2313).mono fun e w2_ h_ => ⟨h_.1, M_.call0 h_.2⟩) ?_
      refine Z_runs [.bool (!(y2312.Kind.toList == r2313.toList))] [(0, .slice p2262 x2260.length c2263), (1, .int .i64 (w64 ((w64 (s2296.1 + 1)) + 1))), (5, .int .i64 s2296.2), (37, .bool (!(y2312.Kind.toList == r2313.toList)))] (fun w_ => by kernel_rfl) (by kernel_rfl) ?_
      refine Z_end fun w2317 M2318 => ?_
      refine N_then ?_
      rcases gx_bif hm with ⟨hc2319, hm⟩ | ⟨hc2319, hm⟩
      · refine G_cond_t (b := (!(y2312.Kind.toList == r2313.toList))) hc2319 (by kernel_rfl) ?_
        refine G_seq ?_
        refine G_region ?_
        refine W_run 1 [(4, .int .i64 (-1))] w2317 (by kernel_rfl) ?_
        refine W_nil ?_
        refine N_then ?_
        refine G_ret ?_
        refine N_then_ret ?_
        refine N_block_ret ?_
        refine N_then_ret ?_
        refine N_then_ret ?_
        obtain rfl := Option.some.inj hm
        obtain rfl := hout2298 _ rfl
        have hm := hmo2305; simp only [Sum.elim_inr] at hm
        refine N_block_ret ?_
        refine N_meet_ret ?_
        refine N_then_ret ?_
        obtain rfl := Option.some.inj hm
        refine N_ret [.int .i64 (-1)] (RVs_cons (RV_tmp (by kernel_rfl)) RVs_nil) ?_
        exact ⟨rfl, M2318.pick [] (by kernel_rfl)⟩
      refine G_cond_f (b := (!(y2312.Kind.toList == r2313.toList))) hc2319 (by kernel_rfl) ?_
      refine G_skip ?_
      refine N_then ?_
      refine G_seq ?_
      refine G_region ?_
      refine W_run 3 [(0, .slice p2262 x2260.length c2263), (1, .int .i64 (w64 ((w64 ((w64 (s2296.1 + 1)) + 1)) + 1))), (5, .int .i64 s2296.2)] w2317 (by kernel_rfl) ?_
      refine W_nil ?_
      refine N_then ?_
      refine G_seq ?_
      refine G_seq ?_
      refine G_region ?_
      refine W_run 2 [(0, .slice p2262 x2260.length c2263), (1, .int .i64 (w64 ((w64 ((w64 (s2296.1 + 1)) + 1)) + 1))), (5, .int .i64 s2296.2), (40, .slice p2262 x2260.length c2263), (41, .int .i64 s2296.2)] w2317 (by kernel_rfl) ?_
      obtain ⟨y2320, hy2320, hm⟩ := gx_bind hm
      refine W_val (elemP p2262 (s2296.2.toNat * 4)) w2317 (by kernel_rfl) (E_index (E := encEvent) _ _ _ x2260.length c2263 .i64 s2296.2 4 (y := y2320) rfl (by kernel_rfl) (by kernel_rfl) (by kernel_rfl) (h2264.mem0 M2318) rfl hy2320) ?_
      refine W_val (elemP p2262 (s2296.2.toNat * 4 + 3)) w2317 (by kernel_rfl) (E_fieldE (E := encEvent) _ _ 3 (s2296.2.toNat * 4) 3 rfl (by kernel_rfl) (by kernel_rfl) (h2264.mem0 M2318) hy2320) ?_
      refine W_val (.int .i64 y2320.Value) w2317 (by kernel_rfl) (E_loadE (E := encEvent) _ _ false 1 s2296.2 3 (s2296.2.toNat * 4 + 3) y2320 (.int .i64 y2320.Value) rfl (by kernel_rfl) (by kernel_rfl) (by kernel_rfl) (h2264.mem0 M2318) hy2320 rfl) ?_
      refine W_run 2 [(0, .slice p2262 x2260.length c2263), (1, .int .i64 (w64 ((w64 ((w64 (s2296.1 + 1)) + 1)) + 1))), (5, .int .i64 s2296.2), (46, .bool (y2320.Value != (w64 ((w64 ((w64 (s2296.1 + 1)) + 1)) + 1))))] w2317 (by kernel_rfl) ?_
      refine W_nil ?_
      refine N_then ?_
      rcases gx_bif hm with ⟨hc2321, hm⟩ | ⟨hc2321, hm⟩
      · refine G_cond_t (b := (y2320.Value != (w64 ((w64 ((w64 (s2296.1 + 1)) + 1)) + 1)))) hc2321 (by kernel_rfl) ?_
        refine G_seq ?_
        refine G_region ?_
        refine W_run 1 [(4, .int .i64 (-1))] w2317 (by kernel_rfl) ?_
        refine W_nil ?_
        refine N_then ?_
        refine G_ret ?_
        refine N_then_ret ?_
        refine N_block_ret ?_
        refine N_then_ret ?_
        refine N_then_ret ?_
        obtain rfl := Option.some.inj hm
        obtain rfl := hout2298 _ rfl
        have hm := hmo2305; simp only [Sum.elim_inr] at hm
        refine N_block_ret ?_
        refine N_meet_ret ?_
        refine N_then_ret ?_
        obtain rfl := Option.some.inj hm
        refine N_ret [.int .i64 (-1)] (RVs_cons (RV_tmp (by kernel_rfl)) RVs_nil) ?_
        exact ⟨rfl, M2318.pick [] (by kernel_rfl)⟩
      refine G_cond_f (b := (y2320.Value != (w64 ((w64 ((w64 (s2296.1 + 1)) + 1)) + 1)))) hc2321 (by kernel_rfl) ?_
      refine G_skip ?_
      refine N_then ?_
      refine G_region ?_
      refine W_run 3 [(0, .slice p2262 x2260.length c2263), (1, .int .i64 (w64 ((w64 ((w64 ((w64 (s2296.1 + 1)) + 1)) + 1)) + 1))), (5, .int .i64 s2296.2)] w2317 (by kernel_rfl) ?_
      refine W_nil ?_
      refine N_block ?_
      refine N_then ?_
      refine G_region ?_
      refine W_run 3 [(0, .slice p2262 x2260.length c2263), (1, .int .i64 (w64 ((w64 ((w64 ((w64 (s2296.1 + 1)) + 1)) + 1)) + 1))), (5, .int .i64 (w64 (s2296.2 + 1)))] w2317 (by kernel_rfl) ?_
      refine W_nil ?_
      obtain rfl := Option.some.inj hm
      exact N_loop fun a ha => ⟨_, rfl, M2318.pick [] (by kernel_rfl), ha.sub (by kernel_rfl)⟩
    refine G_cond_f (b := (decide (s2296.2 < (x2260.length : Int)))) hc2307 (by kernel_rfl) ?_
    refine G_exit ?_
    refine N_then_exit ?_
    refine N_then_exit ?_
    refine N_block_eq ?_
    obtain rfl := Option.some.inj hm
    obtain rfl := hout2298 _ rfl
    exact N_meet fun a ha => ⟨_, rfl, M2301.pick [] (by kernel_rfl), ha.sub (by kernel_rfl)⟩
  intro a2322 w2323 ⟨o2306, hout_, M2324, hS2325⟩
  refine N_use hS2325 ?_
  subst hout_
  have hm := hmo2305; simp only [Sum.elim_inl] at hm
  refine N_then ?_
  refine G_seq ?_
  refine G_region ?_
  refine W_run 2 [(4, .int .i64 o2306)] w2323 (by kernel_rfl) ?_
  refine W_nil ?_
  refine N_then ?_
  refine G_ret ?_
  obtain rfl := Option.some.inj hm
  refine N_ret [.int .i64 o2306] (RVs_cons (RV_tmp (by kernel_rfl)) RVs_nil) ?_
  exact ⟨rfl, M2324.pick [] (by kernel_rfl)⟩
theorem c_l_FnExactEventsOf (w : World) (x1387 : List Event) (p1389 : Option Addr) (c1390 : Nat) (h1391 : rdS encEvent w x1387 p1389 c1390) (x1392 : Int) {r : Bool} (hm : M.l_FnExactEventsOf x1387 x1392 = some r) :
    Calls Try.prog 7 #[.slice p1389 x1387.length c1390, .int .i64 x1392] w fun e w' => e = .returned (.bool r) ∧ Mem [] w w' [] := by
  unfold M.l_FnExactEventsOf at hm
  refine C_enter Try.func7 rfl (by kernel_rfl) ?_
  have M0 := Mem.refl [] w
  refine G_seq ?_
  refine G_region ?_
  refine W_run 1 [(0, .slice p1389 x1387.length c1390), (1, .int .i64 x1392)] w (by kernel_rfl) ?_
  refine W_nil ?_
  refine N_then ?_
  refine G_seq ?_
  refine G_region ?_
  refine W_run 1 [(0, .slice p1389 x1387.length c1390), (1, .int .i64 x1392), (5, .int .i64 1048576)] w (by kernel_rfl) ?_
  refine W_nil ?_
  refine N_then ?_
  refine G_seq ?_
  refine G_region ?_
  refine W_run 2 [(0, .slice p1389 x1387.length c1390), (1, .int .i64 x1392), (5, .int .i64 1048576), (16, .slice p1389 x1387.length c1390), (17, .int .i64 1048576)] w (by kernel_rfl) ?_
  obtain ⟨r1393, hr1393, hm⟩ := gx_bind hm
  refine W_call 17 #[.slice p1389 x1387.length c1390, .int .i64 1048576] (by kernel_rfl) (by kernel_rfl) ?_
  refine (c_l_szEventS w x1387 p1389 c1390 (h1391.mem0 M0) 1048576 hr1393).mono ?_
  rintro e_ w1394 ⟨rfl, K1395⟩
  have M1396 := M0.call0 K1395
  refine ⟨_, rfl, ?_⟩
  refine W_run 1 [(0, .slice p1389 x1387.length c1390), (1, .int .i64 x1392), (5, .int .i64 r1393)] w1394 (by kernel_rfl) ?_
  refine W_nil ?_
  refine N_then ?_
  refine G_seq ?_
  refine G_seq ?_
  refine G_region ?_
  refine W_run 2 [(0, .slice p1389 x1387.length c1390), (1, .int .i64 x1392), (20, .bool (decide (r1393 < 0)))] w1394 (by kernel_rfl) ?_
  refine W_nil ?_
  refine N_then ?_
  rcases gx_bif hm with ⟨hc1397, hm⟩ | ⟨hc1397, hm⟩
  · refine G_cond_t (b := (decide (r1393 < 0))) hc1397 (by kernel_rfl) ?_
    refine G_seq ?_
    refine G_region ?_
    refine W_run 1 [(4, .bool true)] w1394 (by kernel_rfl) ?_
    refine W_nil ?_
    refine N_then ?_
    refine G_ret ?_
    refine N_then_ret ?_
    obtain rfl := Option.some.inj hm
    refine N_ret [.bool true] (RVs_cons (RV_tmp (by kernel_rfl)) RVs_nil) ?_
    exact ⟨rfl, M1396.pick [] (by kernel_rfl)⟩
  refine G_cond_f (b := (decide (r1393 < 0))) hc1397 (by kernel_rfl) ?_
  refine G_skip ?_
  refine N_then ?_
  refine G_seq ?_
  refine G_region ?_
  refine W_run 1 [(0, .slice p1389 x1387.length c1390), (1, .int .i64 x1392), (22, .slice p1389 x1387.length c1390)] w1394 (by kernel_rfl) ?_
  obtain ⟨r1398, hr1398, hm⟩ := gx_bind hm
  refine W_call 19 #[.slice p1389 x1387.length c1390] (by kernel_rfl) (by kernel_rfl) ?_
  refine (c_l_toEventS w1394 x1387 p1389 c1390 (h1391.mem0 M1396) hr1398).mono ?_
  rintro e_ w1404 ⟨p1400, c1401, sg1402, rfl, ho1403, K1405⟩
  have M1406 := M1396.call K1405
  refine ⟨_, rfl, ?_⟩
  refine W_run 1 [(0, .slice p1389 x1387.length c1390), (1, .int .i64 x1392), (23, .slice p1400 r1398.length c1401), (24, .int .i64 x1392)] w1404 (by kernel_rfl) ?_
  obtain ⟨r1625, hr1625, hm⟩ := gx_bind hm
  refine W_call 26 #[.slice p1400 r1398.length c1401, .int .i64 x1392] (by kernel_rfl) (by kernel_rfl) ?_
  refine (c_s_EventsOf w1404 r1398 p1400 c1401 (ho1403.rd M1406 0 (by kernel_rfl)) x1392 hr1625).mono ?_
  rintro e_ w1631 ⟨p1627, c1628, sg1629, rfl, ho1630, K1632⟩
  have M1633 := M1406.call K1632
  refine ⟨_, rfl, ?_⟩
  refine W_run 5 [(0, .slice p1389 x1387.length c1390), (1, .int .i64 x1392), (6, .slice p1627 r1625.1.length c1628), (7, .bool r1625.2)] w1631 (by kernel_rfl) ?_
  refine W_nil ?_
  refine N_then ?_
  refine G_seq ?_
  refine G_region ?_
  refine W_run 1 [(0, .slice p1389 x1387.length c1390), (1, .int .i64 x1392), (6, .slice p1627 r1625.1.length c1628), (7, .bool r1625.2), (28, .slice p1389 x1387.length c1390)] w1631 (by kernel_rfl) ?_
  obtain ⟨r1634, hr1634, hm⟩ := gx_bind hm
  refine W_call 19 #[.slice p1389 x1387.length c1390] (by kernel_rfl) (by kernel_rfl) ?_
  refine (c_l_toEventS w1631 x1387 p1389 c1390 (h1391.mem0 M1633) hr1634).mono ?_
  rintro e_ w1640 ⟨p1636, c1637, sg1638, rfl, ho1639, K1641⟩
  have M1642 := M1633.call K1641
  refine ⟨_, rfl, ?_⟩
  refine W_run 1 [(0, .slice p1389 x1387.length c1390), (1, .int .i64 x1392), (6, .slice p1627 r1625.1.length c1628), (7, .bool r1625.2), (8, .slice p1636 r1634.length c1637)] w1640 (by kernel_rfl) ?_
  refine W_nil ?_
  refine N_then ?_
  refine G_seq ?_
  refine G_region ?_
  refine W_run 2 [(0, .slice p1389 x1387.length c1390), (1, .int .i64 x1392), (6, .slice p1627 r1625.1.length c1628), (7, .bool r1625.2), (8, .slice p1636 r1634.length c1637), (31, .slice p1636 r1634.length c1637), (32, .int .i64 x1392)] w1640 (by kernel_rfl) ?_
  obtain ⟨r2021, hr2021, hm⟩ := gx_bind hm
  refine W_call 27 #[.slice p1636 r1634.length c1637, .int .i64 x1392] (by kernel_rfl) (by kernel_rfl) ?_
  refine (c_i_EventsOf w1640 r1634 p1636 c1637 (ho1639.rd M1642 2 (by kernel_rfl)) x1392 hr2021).mono ?_
  rintro e_ w2027 ⟨p2023, c2024, sg2025, rfl, ho2026, K2028⟩
  have M2029 := M1642.call K2028
  refine ⟨_, rfl, ?_⟩
  refine W_run 5 [(0, .slice p1389 x1387.length c1390), (1, .int .i64 x1392), (6, .slice p1627 r1625.1.length c1628), (7, .bool r1625.2), (8, .slice p1636 r1634.length c1637), (9, .slice p2023 r2021.1.length c2024), (10, .bool r2021.2)] w2027 (by kernel_rfl) ?_
  refine W_nil ?_
  refine N_then ?_
  refine G_seq ?_
  refine G_seq ?_
  obtain ⟨o2035, ho2036, hm2037⟩ := gx_bind hm
  refine G_meet (fun a w' => Mem [] w w' [sg1629, sg1638, sg2025] ∧ Sat Try.f7.ntmps [(0, .slice p1389 x1387.length c1390), (1, .int .i64 x1392), (6, .slice p1627 r1625.1.length c1628), (7, .bool r1625.2), (8, .slice p1636 r1634.length c1637), (9, .slice p2023 r2021.1.length c2024), (10, .bool r2021.2), (44, .bool o2035)] a) ?_ ?_
  · have hm := ho2036
    refine G_region ?_
    refine W_run 2 [(0, .slice p1389 x1387.length c1390), (1, .int .i64 x1392), (6, .slice p1627 r1625.1.length c1628), (7, .bool r1625.2), (8, .slice p1636 r1634.length c1637), (9, .slice p2023 r2021.1.length c2024), (10, .bool r2021.2), (36, .slice p2023 r2021.1.length c2024), (37, .slice p1627 r1625.1.length c1628)] w2027 (by kernel_rfl) ?_
    obtain ⟨r2038, hr2038, hm⟩ := gx_bind hm
    refine W_call 21 #[.slice p2023 r2021.1.length c2024, .slice p1627 r1625.1.length c1628] (by kernel_rfl) (by kernel_rfl) ?_
    refine (c_l_eqEventS w2027 r2021.1 p2023 c2024 (ho2026.rd M2029 3 (by kernel_rfl)) r1625.1 p1627 c1628 (ho1630.rd M2029 1 (by kernel_rfl)) hr2038).mono ?_
    rintro e_ w2039 ⟨rfl, K2040⟩
    have M2041 := M2029.call0 K2040
    refine ⟨_, rfl, ?_⟩
    refine W_run 2 [(0, .slice p1389 x1387.length c1390), (1, .int .i64 x1392), (6, .slice p1627 r1625.1.length c1628), (7, .bool r1625.2), (8, .slice p1636 r1634.length c1637), (9, .slice p2023 r2021.1.length c2024), (10, .bool r2021.2), (40, .bool (!r2038))] w2039 (by kernel_rfl) ?_
    rcases gx_bif hm with ⟨hc2042, hm⟩ | ⟨hc2042, hm⟩
    · refine W_known 40 true (by kernel_rfl) hc2042 ?_
      refine W_run 4 [(0, .slice p1389 x1387.length c1390), (1, .int .i64 x1392), (6, .slice p1627 r1625.1.length c1628), (7, .bool r1625.2), (8, .slice p1636 r1634.length c1637), (9, .slice p2023 r2021.1.length c2024), (10, .bool r2021.2), (44, .bool true)] w2039 (by kernel_rfl) ?_
      refine W_nil ?_
      obtain rfl := Option.some.inj hm
      exact N_meet fun a ha => ⟨M2041.pick [1, 2, 3] (by kernel_rfl), ha.sub (by kernel_rfl)⟩
    refine W_known 40 false (by kernel_rfl) hc2042 ?_
    refine W_run 4 [(0, .slice p1389 x1387.length c1390), (1, .int .i64 x1392), (6, .slice p1627 r1625.1.length c1628), (7, .bool r1625.2), (8, .slice p1636 r1634.length c1637), (9, .slice p2023 r2021.1.length c2024), (10, .bool r2021.2), (44, .bool (!(r2021.2 == r1625.2)))] w2039 (by kernel_rfl) ?_
    refine W_nil ?_
    obtain rfl := Option.some.inj hm
    exact N_meet fun a ha => ⟨M2041.pick [1, 2, 3] (by kernel_rfl), ha.sub (by kernel_rfl)⟩
  intro a2045 w2043 ⟨M2044, hS2046⟩
  refine N_use hS2046 ?_
  have hm := hm2037
  refine N_then ?_
  rcases gx_bif hm with ⟨hc2047, hm⟩ | ⟨hc2047, hm⟩
  · refine G_cond_t (b := o2035) hc2047 (by kernel_rfl) ?_
    refine G_seq ?_
    refine G_region ?_
    refine W_run 1 [(4, .bool false)] w2043 (by kernel_rfl) ?_
    refine W_nil ?_
    refine N_then ?_
    refine G_ret ?_
    refine N_then_ret ?_
    obtain rfl := Option.some.inj hm
    refine N_ret [.bool false] (RVs_cons (RV_tmp (by kernel_rfl)) RVs_nil) ?_
    exact ⟨rfl, M2044.pick [] (by kernel_rfl)⟩
  refine G_cond_f (b := o2035) hc2047 (by kernel_rfl) ?_
  refine G_skip ?_
  refine N_then ?_
  refine G_seq ?_
  refine G_seq ?_
  refine G_region ?_
  refine W_run 2 [(0, .slice p1389 x1387.length c1390), (1, .int .i64 x1392), (6, .slice p1627 r1625.1.length c1628), (7, .bool r1625.2), (8, .slice p1636 r1634.length c1637), (9, .slice p2023 r2021.1.length c2024), (10, .bool r2021.2), (45, .slice p1636 r1634.length c1637), (46, .slice p1389 x1387.length c1390)] w2043 (by kernel_rfl) ?_
  obtain ⟨r2048, hr2048, hm⟩ := gx_bind hm
  refine W_call 19 #[.slice p1389 x1387.length c1390] (by kernel_rfl) (by kernel_rfl) ?_
  refine (c_l_toEventS w2043 x1387 p1389 c1390 (h1391.mem0 M2044) hr2048).mono ?_
  rintro e_ w2054 ⟨p2050, c2051, sg2052, rfl, ho2053, K2055⟩
  have M2056 := M2044.call K2055
  refine ⟨_, rfl, ?_⟩
  obtain ⟨r2057, hr2057, hm⟩ := gx_bind hm
  refine W_call 21 #[.slice p1636 r1634.length c1637, .slice p2050 r2048.length c2051] (by kernel_rfl) (by kernel_rfl) ?_
  refine (c_l_eqEventS w2054 r1634 p1636 c1637 (ho1639.rd M2056 1 (by kernel_rfl)) r2048 p2050 c2051 (ho2053.rd M2056 3 (by kernel_rfl)) hr2057).mono ?_
  rintro e_ w2058 ⟨rfl, K2059⟩
  have M2060 := M2056.call0 K2059
  refine ⟨_, rfl, ?_⟩
  refine W_run 1 [(0, .slice p1389 x1387.length c1390), (1, .int .i64 x1392), (6, .slice p1627 r1625.1.length c1628), (7, .bool r1625.2), (8, .slice p1636 r1634.length c1637), (9, .slice p2023 r2021.1.length c2024), (10, .bool r2021.2), (49, .bool (!r2057))] w2058 (by kernel_rfl) ?_
  refine W_nil ?_
  refine N_then ?_
  rcases gx_bif hm with ⟨hc2061, hm⟩ | ⟨hc2061, hm⟩
  · refine G_cond_t (b := (!r2057)) hc2061 (by kernel_rfl) ?_
    refine G_seq ?_
    refine G_region ?_
    refine W_run 1 [(4, .bool false)] w2058 (by kernel_rfl) ?_
    refine W_nil ?_
    refine N_then ?_
    refine G_ret ?_
    refine N_then_ret ?_
    obtain rfl := Option.some.inj hm
    refine N_ret [.bool false] (RVs_cons (RV_tmp (by kernel_rfl)) RVs_nil) ?_
    exact ⟨rfl, M2060.pick [] (by kernel_rfl)⟩
  refine G_cond_f (b := (!r2057)) hc2061 (by kernel_rfl) ?_
  refine G_skip ?_
  refine N_then ?_
  refine G_seq ?_
  refine G_region ?_
  refine W_run 1 [(0, .slice p1389 x1387.length c1390), (1, .int .i64 x1392), (6, .slice p1627 r1625.1.length c1628), (7, .bool r1625.2), (8, .slice p1636 r1634.length c1637), (9, .slice p2023 r2021.1.length c2024), (10, .bool r2021.2), (11, .int .i64 1)] w2058 (by kernel_rfl) ?_
  refine W_nil ?_
  refine N_then ?_
  refine G_seq ?_
  refine G_region ?_
  refine W_run 2 [(0, .slice p1389 x1387.length c1390), (1, .int .i64 x1392), (6, .slice p1627 r1625.1.length c1628), (7, .bool r1625.2), (9, .slice p2023 r2021.1.length c2024), (10, .bool r2021.2), (11, .int .i64 1), (50, .slice p1636 r1634.length c1637), (51, .int .i64 1)] w2058 (by kernel_rfl) ?_
  obtain ⟨r2226, hr2226, hm⟩ := gx_bind hm
  refine W_call 28 #[.slice p1636 r1634.length c1637, .int .i64 1] (by kernel_rfl) (by kernel_rfl) ?_
  refine (c_l_markEventS w2058 r1634 p1636 c1637 sg1638 ho1639 1 (M2060.hasPick [1]) (M2060.nodupPick [1] (by kernel_rfl)) hr2226).mono ?_
  rintro e_ w2230 ⟨sg2227, rfl, ho2228, hl2229, K2231⟩
  have M2232 := M2060.callF' [1] [0, 2, 3] (by kernel_rfl) K2231
  refine ⟨_, rfl, ?_⟩
  refine W_conv 50 (.slice p1636 r1634.length c1637) (.slice p1636 r2226.2.length c1637) (by kernel_rfl) (by first | rw [hl2229] | rw [hl2229]) ?_
  refine W_run 1 [(0, .slice p1389 x1387.length c1390), (1, .int .i64 x1392), (6, .slice p1627 r1625.1.length c1628), (7, .bool r1625.2), (9, .slice p2023 r2021.1.length c2024), (10, .bool r2021.2), (11, .int .i64 r2226.1)] w2230 (by kernel_rfl) ?_
  refine W_nil ?_
  refine N_then ?_
  refine G_seq ?_
  refine G_seq ?_
  obtain ⟨o2239, ho2240, hm2241⟩ := gx_bind hm
  refine G_meet (fun a w' => Mem [] w w' [sg1629, sg2025] ∧ Sat Try.f7.ntmps [(0, .slice p1389 x1387.length c1390), (1, .int .i64 x1392), (6, .slice p1627 r1625.1.length c1628), (7, .bool r1625.2), (9, .slice p2023 r2021.1.length c2024), (65, .bool o2239)] a) ?_ ?_
  · have hm := ho2240
    refine G_region ?_
    refine W_run 3 [(0, .slice p1389 x1387.length c1390), (1, .int .i64 x1392), (6, .slice p1627 r1625.1.length c1628), (7, .bool r1625.2), (9, .slice p2023 r2021.1.length c2024), (10, .bool r2021.2), (55, .bool (decide (r2226.1 < 0)))] w2230 (by kernel_rfl) ?_
    rcases gx_bif hm with ⟨hc2242, hm⟩ | ⟨hc2242, hm⟩
    · refine W_known 55 true (by kernel_rfl) hc2242 ?_
      refine W_run 10 [(0, .slice p1389 x1387.length c1390), (1, .int .i64 x1392), (6, .slice p1627 r1625.1.length c1628), (7, .bool r1625.2), (9, .slice p2023 r2021.1.length c2024), (65, .bool true)] w2230 (by kernel_rfl) ?_
      refine W_nil ?_
      obtain rfl := Option.some.inj hm
      exact N_meet fun a ha => ⟨M2232.pick [0, 1] (by kernel_rfl), ha.sub (by kernel_rfl)⟩
    refine W_known 55 false (by kernel_rfl) hc2242 ?_
    refine W_run 2 [(0, .slice p1389 x1387.length c1390), (1, .int .i64 x1392), (6, .slice p1627 r1625.1.length c1628), (7, .bool r1625.2), (9, .slice p2023 r2021.1.length c2024), (10, .bool r2021.2), (55, .bool false), (56, .slice p2023 r2021.1.length c2024), (57, .slice p1627 r1625.1.length c1628)] w2230 (by kernel_rfl) ?_
    obtain ⟨r2243, hr2243, hm⟩ := gx_bind hm
    refine W_call 21 #[.slice p2023 r2021.1.length c2024, .slice p1627 r1625.1.length c1628] (by kernel_rfl) (by kernel_rfl) ?_
    refine (c_l_eqEventS w2230 r2021.1 p2023 c2024 (ho2026.rd M2232 1 (by kernel_rfl)) r1625.1 p1627 c1628 (ho1630.rd M2232 0 (by kernel_rfl)) hr2243).mono ?_
    rintro e_ w2244 ⟨rfl, K2245⟩
    have M2246 := M2232.call0 K2245
    refine ⟨_, rfl, ?_⟩
    refine W_run 3 [(0, .slice p1389 x1387.length c1390), (1, .int .i64 x1392), (6, .slice p1627 r1625.1.length c1628), (7, .bool r1625.2), (9, .slice p2023 r2021.1.length c2024), (10, .bool r2021.2), (61, .bool (!r2243))] w2244 (by kernel_rfl) ?_
    rcases gx_bif hm with ⟨hc2247, hm⟩ | ⟨hc2247, hm⟩
    · refine W_known 61 true (by kernel_rfl) hc2247 ?_
      refine W_run 4 [(0, .slice p1389 x1387.length c1390), (1, .int .i64 x1392), (6, .slice p1627 r1625.1.length c1628), (7, .bool r1625.2), (9, .slice p2023 r2021.1.length c2024), (65, .bool true)] w2244 (by kernel_rfl) ?_
      refine W_nil ?_
      obtain rfl := Option.some.inj hm
      exact N_meet fun a ha => ⟨M2246.pick [0, 1] (by kernel_rfl), ha.sub (by kernel_rfl)⟩
    refine W_known 61 false (by kernel_rfl) hc2247 ?_
    refine W_run 4 [(0, .slice p1389 x1387.length c1390), (1, .int .i64 x1392), (6, .slice p1627 r1625.1.length c1628), (7, .bool r1625.2), (9, .slice p2023 r2021.1.length c2024), (65, .bool (!(r2021.2 == r1625.2)))] w2244 (by kernel_rfl) ?_
    refine W_nil ?_
    obtain rfl := Option.some.inj hm
    exact N_meet fun a ha => ⟨M2246.pick [0, 1] (by kernel_rfl), ha.sub (by kernel_rfl)⟩
  intro a2250 w2248 ⟨M2249, hS2251⟩
  refine N_use hS2251 ?_
  have hm := hm2241
  refine N_then ?_
  rcases gx_bif hm with ⟨hc2252, hm⟩ | ⟨hc2252, hm⟩
  · refine G_cond_t (b := o2239) hc2252 (by kernel_rfl) ?_
    refine G_seq ?_
    refine G_region ?_
    refine W_run 1 [(4, .bool false)] w2248 (by kernel_rfl) ?_
    refine W_nil ?_
    refine N_then ?_
    refine G_ret ?_
    refine N_then_ret ?_
    obtain rfl := Option.some.inj hm
    refine N_ret [.bool false] (RVs_cons (RV_tmp (by kernel_rfl)) RVs_nil) ?_
    exact ⟨rfl, M2249.pick [] (by kernel_rfl)⟩
  refine G_cond_f (b := o2239) hc2252 (by kernel_rfl) ?_
  refine G_skip ?_
  refine N_then ?_
  refine G_seq ?_
  refine G_region ?_
  refine W_run 1 [(0, .slice p1389 x1387.length c1390), (1, .int .i64 x1392), (6, .slice p1627 r1625.1.length c1628), (7, .bool r1625.2), (9, .slice p2023 r2021.1.length c2024), (12, .int .i64 1)] w2248 (by kernel_rfl) ?_
  refine W_nil ?_
  refine N_then ?_
  refine G_seq ?_
  refine G_region ?_
  refine W_run 2 [(0, .slice p1389 x1387.length c1390), (1, .int .i64 x1392), (6, .slice p1627 r1625.1.length c1628), (7, .bool r1625.2), (9, .slice p2023 r2021.1.length c2024), (12, .int .i64 1), (66, .slice p2023 r2021.1.length c2024), (67, .int .i64 1)] w2248 (by kernel_rfl) ?_
  obtain ⟨r2253, hr2253, hm⟩ := gx_bind hm
  refine W_call 28 #[.slice p2023 r2021.1.length c2024, .int .i64 1] (by kernel_rfl) (by kernel_rfl) ?_
  refine (c_l_markEventS w2248 r2021.1 p2023 c2024 sg2025 ho2026 1 (M2249.hasPick [1]) (M2249.nodupPick [1] (by kernel_rfl)) hr2253).mono ?_
  rintro e_ w2257 ⟨sg2254, rfl, ho2255, hl2256, K2258⟩
  have M2259 := M2249.callF' [1] [0] (by kernel_rfl) K2258
  refine ⟨_, rfl, ?_⟩
  refine W_conv 9 (.slice p2023 r2021.1.length c2024) (.slice p2023 r2253.2.length c2024) (by kernel_rfl) (by first | rw [hl2256] | rw [hl2256]) ?_
  refine W_conv 66 (.slice p2023 r2021.1.length c2024) (.slice p2023 r2253.2.length c2024) (by kernel_rfl) (by first | rw [hl2256] | rw [hl2256]) ?_
  refine W_run 1 [(0, .slice p1389 x1387.length c1390), (1, .int .i64 x1392), (6, .slice p1627 r1625.1.length c1628), (7, .bool r1625.2), (9, .slice p2023 r2253.2.length c2024), (12, .int .i64 r2253.1)] w2257 (by kernel_rfl) ?_
  refine W_nil ?_
  refine N_then ?_
  refine G_seq ?_
  refine G_region ?_
  refine W_run 1 [(0, .slice p1389 x1387.length c1390), (1, .int .i64 x1392), (6, .slice p1627 r1625.1.length c1628), (7, .bool r1625.2), (9, .slice p2023 r2253.2.length c2024), (12, .int .i64 r2253.1), (13, .int .i64 1)] w2257 (by kernel_rfl) ?_
  refine W_nil ?_
  refine N_then ?_
  refine G_seq ?_
  refine G_region ?_
  refine W_run 2 [(0, .slice p1389 x1387.length c1390), (1, .int .i64 x1392), (6, .slice p1627 r1625.1.length c1628), (7, .bool r1625.2), (9, .slice p2023 r2253.2.length c2024), (12, .int .i64 r2253.1), (13, .int .i64 1), (69, .slice p2023 r2253.2.length c2024), (70, .int .i64 1)] w2257 (by kernel_rfl) ?_
  obtain ⟨r2326, hr2326, hm⟩ := gx_bind hm
  refine W_call 29 #[.slice p2023 r2253.2.length c2024, .int .i64 1] (by kernel_rfl) (by kernel_rfl) ?_
  refine (c_l_heldEventS w2257 r2253.2 p2023 c2024 (ho2255.rd M2259 1 (by kernel_rfl)) 1 hr2326).mono ?_
  rintro e_ w2327 ⟨rfl, K2328⟩
  have M2329 := M2259.call0 K2328
  refine ⟨_, rfl, ?_⟩
  refine W_run 1 [(0, .slice p1389 x1387.length c1390), (1, .int .i64 x1392), (6, .slice p1627 r1625.1.length c1628), (7, .bool r1625.2), (9, .slice p2023 r2253.2.length c2024), (12, .int .i64 r2253.1), (13, .int .i64 r2326)] w2327 (by kernel_rfl) ?_
  refine W_nil ?_
  refine N_then ?_
  refine G_seq ?_
  refine G_seq ?_
  refine G_region ?_
  refine W_run 2 [(0, .slice p1389 x1387.length c1390), (1, .int .i64 x1392), (6, .slice p1627 r1625.1.length c1628), (7, .bool r1625.2), (9, .slice p2023 r2253.2.length c2024), (12, .int .i64 r2253.1), (13, .int .i64 r2326), (73, .bool (decide (r2326 < 0)))] w2327 (by kernel_rfl) ?_
  refine W_nil ?_
  refine N_then ?_
  rcases gx_bif hm with ⟨hc2330, hm⟩ | ⟨hc2330, hm⟩
  · refine G_cond_t (b := (decide (r2326 < 0))) hc2330 (by kernel_rfl) ?_
    refine G_seq ?_
    refine G_region ?_
    refine W_run 1 [(4, .bool false)] w2327 (by kernel_rfl) ?_
    refine W_nil ?_
    refine N_then ?_
    refine G_ret ?_
    refine N_then_ret ?_
    obtain rfl := Option.some.inj hm
    refine N_ret [.bool false] (RVs_cons (RV_tmp (by kernel_rfl)) RVs_nil) ?_
    exact ⟨rfl, M2329.pick [] (by kernel_rfl)⟩
  refine G_cond_f (b := (decide (r2326 < 0))) hc2330 (by kernel_rfl) ?_
  refine G_skip ?_
  refine N_then ?_
  refine G_seq ?_
  refine G_seq ?_
  refine G_region ?_
  refine W_run 3 [(0, .slice p1389 x1387.length c1390), (1, .int .i64 x1392), (6, .slice p1627 r1625.1.length c1628), (7, .bool r1625.2), (9, .slice p2023 r2253.2.length c2024), (12, .int .i64 r2253.1), (76, .bool (r2326 != r2253.1))] w2327 (by kernel_rfl) ?_
  refine W_nil ?_
  refine N_then ?_
  rcases gx_bif hm with ⟨hc2331, hm⟩ | ⟨hc2331, hm⟩
  · refine G_cond_t (b := (r2326 != r2253.1)) hc2331 (by kernel_rfl) ?_
    refine G_seq ?_
    refine G_region ?_
    refine W_run 1 [(4, .bool false)] w2327 (by kernel_rfl) ?_
    refine W_nil ?_
    refine N_then ?_
    refine G_ret ?_
    refine N_then_ret ?_
    obtain rfl := Option.some.inj hm
    refine N_ret [.bool false] (RVs_cons (RV_tmp (by kernel_rfl)) RVs_nil) ?_
    exact ⟨rfl, M2329.pick [] (by kernel_rfl)⟩
  refine G_cond_f (b := (r2326 != r2253.1)) hc2331 (by kernel_rfl) ?_
  refine G_skip ?_
  refine N_then ?_
  refine G_seq ?_
  refine G_region ?_
  refine W_run 1 [(1, .int .i64 x1392), (6, .slice p1627 r1625.1.length c1628), (7, .bool r1625.2), (9, .slice p2023 r2253.2.length c2024), (12, .int .i64 r2253.1), (78, .slice p1389 x1387.length c1390)] w2327 (by kernel_rfl) ?_
  obtain ⟨r2332, hr2332, hm⟩ := gx_bind hm
  refine W_call 19 #[.slice p1389 x1387.length c1390] (by kernel_rfl) (by kernel_rfl) ?_
  refine (c_l_toEventS w2327 x1387 p1389 c1390 (h1391.mem0 M2329) hr2332).mono ?_
  rintro e_ w2338 ⟨p2334, c2335, sg2336, rfl, ho2337, K2339⟩
  have M2340 := M2329.call K2339
  refine ⟨_, rfl, ?_⟩
  refine W_run 1 [(6, .slice p1627 r1625.1.length c1628), (7, .bool r1625.2), (9, .slice p2023 r2253.2.length c2024), (12, .int .i64 r2253.1), (79, .slice p2334 r2332.length c2335), (80, .int .i64 x1392)] w2338 (by kernel_rfl) ?_
  obtain ⟨r2341, hr2341, hm⟩ := gx_bind hm
  refine W_call 27 #[.slice p2334 r2332.length c2335, .int .i64 x1392] (by kernel_rfl) (by kernel_rfl) ?_
  refine (c_i_EventsOf w2338 r2332 p2334 c2335 (ho2337.rd M2340 2 (by kernel_rfl)) x1392 hr2341).mono ?_
  rintro e_ w2347 ⟨p2343, c2344, sg2345, rfl, ho2346, K2348⟩
  have M2349 := M2340.call K2348
  refine ⟨_, rfl, ?_⟩
  refine W_run 5 [(6, .slice p1627 r1625.1.length c1628), (7, .bool r1625.2), (9, .slice p2023 r2253.2.length c2024), (12, .int .i64 r2253.1), (14, .slice p2343 r2341.1.length c2344), (15, .bool r2341.2)] w2347 (by kernel_rfl) ?_
  refine W_nil ?_
  refine N_then ?_
  refine G_seq ?_
  refine G_seq ?_
  obtain ⟨o2355, ho2356, hm2357⟩ := gx_bind hm
  refine G_meet (fun a w' => Mem [] w w' [sg2254] ∧ Sat Try.f7.ntmps [(9, .slice p2023 r2253.2.length c2024), (12, .int .i64 r2253.1), (92, .bool o2355)] a) ?_ ?_
  · have hm := ho2356
    refine G_region ?_
    refine W_run 2 [(7, .bool r1625.2), (9, .slice p2023 r2253.2.length c2024), (12, .int .i64 r2253.1), (15, .bool r2341.2), (84, .slice p2343 r2341.1.length c2344), (85, .slice p1627 r1625.1.length c1628)] w2347 (by kernel_rfl) ?_
    obtain ⟨r2358, hr2358, hm⟩ := gx_bind hm
    refine W_call 21 #[.slice p2343 r2341.1.length c2344, .slice p1627 r1625.1.length c1628] (by kernel_rfl) (by kernel_rfl) ?_
    refine (c_l_eqEventS w2347 r2341.1 p2343 c2344 (ho2346.rd M2349 3 (by kernel_rfl)) r1625.1 p1627 c1628 (ho1630.rd M2349 0 (by kernel_rfl)) hr2358).mono ?_
    rintro e_ w2359 ⟨rfl, K2360⟩
    have M2361 := M2349.call0 K2360
    refine ⟨_, rfl, ?_⟩
    refine W_run 2 [(7, .bool r1625.2), (9, .slice p2023 r2253.2.length c2024), (12, .int .i64 r2253.1), (15, .bool r2341.2), (88, .bool (!r2358))] w2359 (by kernel_rfl) ?_
    rcases gx_bif hm with ⟨hc2362, hm⟩ | ⟨hc2362, hm⟩
    · refine W_known 88 true (by kernel_rfl) hc2362 ?_
      refine W_run 4 [(9, .slice p2023 r2253.2.length c2024), (12, .int .i64 r2253.1), (92, .bool true)] w2359 (by kernel_rfl) ?_
      refine W_nil ?_
      obtain rfl := Option.some.inj hm
      exact N_meet fun a ha => ⟨M2361.pick [1] (by kernel_rfl), ha.sub (by kernel_rfl)⟩
    refine W_known 88 false (by kernel_rfl) hc2362 ?_
    refine W_run 4 [(9, .slice p2023 r2253.2.length c2024), (12, .int .i64 r2253.1), (92, .bool (!(r2341.2 == r1625.2)))] w2359 (by kernel_rfl) ?_
    refine W_nil ?_
    obtain rfl := Option.some.inj hm
    exact N_meet fun a ha => ⟨M2361.pick [1] (by kernel_rfl), ha.sub (by kernel_rfl)⟩
  intro a2365 w2363 ⟨M2364, hS2366⟩
  refine N_use hS2366 ?_
  have hm := hm2357
  refine N_then ?_
  rcases gx_bif hm with ⟨hc2367, hm⟩ | ⟨hc2367, hm⟩
  · refine G_cond_t (b := o2355) hc2367 (by kernel_rfl) ?_
    refine G_seq ?_
    refine G_region ?_
    refine W_run 1 [(4, .bool false)] w2363 (by kernel_rfl) ?_
    refine W_nil ?_
    refine N_then ?_
    refine G_ret ?_
    refine N_then_ret ?_
    obtain rfl := Option.some.inj hm
    refine N_ret [.bool false] (RVs_cons (RV_tmp (by kernel_rfl)) RVs_nil) ?_
    exact ⟨rfl, M2364.pick [] (by kernel_rfl)⟩
  refine G_cond_f (b := o2355) hc2367 (by kernel_rfl) ?_
  refine G_skip ?_
  refine N_then ?_
  refine G_seq ?_
  refine G_region ?_
  refine W_run 1 [(9, .slice p2023 r2253.2.length c2024), (12, .int .i64 r2253.1), (13, .int .i64 1)] w2363 (by kernel_rfl) ?_
  refine W_nil ?_
  refine N_then ?_
  refine G_seq ?_
  refine G_region ?_
  refine W_run 2 [(12, .int .i64 r2253.1), (13, .int .i64 1), (93, .slice p2023 r2253.2.length c2024), (94, .int .i64 1)] w2363 (by kernel_rfl) ?_
  obtain ⟨r2368, hr2368, hm⟩ := gx_bind hm
  refine W_call 29 #[.slice p2023 r2253.2.length c2024, .int .i64 1] (by kernel_rfl) (by kernel_rfl) ?_
  refine (c_l_heldEventS w2363 r2253.2 p2023 c2024 (ho2255.rd M2364 0 (by kernel_rfl)) 1 hr2368).mono ?_
  rintro e_ w2369 ⟨rfl, K2370⟩
  have M2371 := M2364.call0 K2370
  refine ⟨_, rfl, ?_⟩
  refine W_run 1 [(12, .int .i64 r2253.1), (13, .int .i64 r2368)] w2369 (by kernel_rfl) ?_
  refine W_nil ?_
  refine N_then ?_
  refine G_seq ?_
  refine G_seq ?_
  refine G_region ?_
  refine W_run 2 [(12, .int .i64 r2253.1), (13, .int .i64 r2368), (97, .bool (decide (r2368 < 0)))] w2369 (by kernel_rfl) ?_
  refine W_nil ?_
  refine N_then ?_
  rcases gx_bif hm with ⟨hc2372, hm⟩ | ⟨hc2372, hm⟩
  · refine G_cond_t (b := (decide (r2368 < 0))) hc2372 (by kernel_rfl) ?_
    refine G_seq ?_
    refine G_region ?_
    refine W_run 1 [(4, .bool false)] w2369 (by kernel_rfl) ?_
    refine W_nil ?_
    refine N_then ?_
    refine G_ret ?_
    refine N_then_ret ?_
    obtain rfl := Option.some.inj hm
    refine N_ret [.bool false] (RVs_cons (RV_tmp (by kernel_rfl)) RVs_nil) ?_
    exact ⟨rfl, M2371.pick [] (by kernel_rfl)⟩
  refine G_cond_f (b := (decide (r2368 < 0))) hc2372 (by kernel_rfl) ?_
  refine G_skip ?_
  refine N_then ?_
  refine G_seq ?_
  refine G_seq ?_
  refine G_region ?_
  refine W_run 3 [(100, .bool (r2368 != r2253.1))] w2369 (by kernel_rfl) ?_
  refine W_nil ?_
  refine N_then ?_
  rcases gx_bif hm with ⟨hc2373, hm⟩ | ⟨hc2373, hm⟩
  · refine G_cond_t (b := (r2368 != r2253.1)) hc2373 (by kernel_rfl) ?_
    refine G_seq ?_
    refine G_region ?_
    refine W_run 1 [(4, .bool false)] w2369 (by kernel_rfl) ?_
    refine W_nil ?_
    refine N_then ?_
    refine G_ret ?_
    refine N_then_ret ?_
    obtain rfl := Option.some.inj hm
    refine N_ret [.bool false] (RVs_cons (RV_tmp (by kernel_rfl)) RVs_nil) ?_
    exact ⟨rfl, M2371.pick [] (by kernel_rfl)⟩
  refine G_cond_f (b := (r2368 != r2253.1)) hc2373 (by kernel_rfl) ?_
  refine G_skip ?_
  refine N_then ?_
  refine G_seq ?_
  refine G_region ?_
  refine W_run 1 [(4, .bool true)] w2369 (by kernel_rfl) ?_
  refine W_nil ?_
  refine N_then ?_
  refine G_ret ?_
  obtain rfl := Option.some.inj hm
  refine N_ret [.bool true] (RVs_cons (RV_tmp (by kernel_rfl)) RVs_nil) ?_
  exact ⟨rfl, M2371.pick [] (by kernel_rfl)⟩
theorem c_s_EventsWithin (w : World) (x2395 : List Event) (p2397 : Option Addr) (c2398 : Nat) (h2399 : rdS encEvent w x2395 p2397 c2398) (x2400 : Int) (x2401 : Int) {r : (List Event) × Bool} (hm : M.s_EventsWithin x2395 x2400 x2401 = some r) :
    Calls Try.prog 30 #[.slice p2397 x2395.length c2398, .int .i64 x2400, .int .i64 x2401] w fun e w' => ∃ (p2403 : Option Addr) (c2404 : Nat) (sg2405 : Seg), e = .returned (.tuple #[.slice p2403 r.1.length c2404, .bool r.2]) ∧ ownS encEvent r.1 p2403 c2404 sg2405 ∧ Mem [] w w' [sg2405] := by
  unfold M.s_EventsWithin at hm
  refine C_enter Try.func30 rfl (by kernel_rfl) ?_
  have M0 := Mem.refl [] w
  refine G_seq ?_
  refine G_region ?_
  refine W_run 2 [(0, .slice p2397 x2395.length c2398), (1, .int .i64 x2400), (2, .int .i64 x2401)] w (by kernel_rfl) ?_
  refine W_nil ?_
  refine N_then ?_
  refine G_seq ?_
  refine G_region ?_
  refine W_lit (E := encEvent) ([] : List Event) 0 [] 26 M0 (by kernel_rfl) (by kernel_rfl) (by kernel_rfl) (by kernel_rfl) (by kernel_rfl) ?_
  intro p2407 c2408 sg2409 w2410 ho2411 M2412
  refine W_run 1 [(0, .slice p2397 x2395.length c2398), (1, .int .i64 x2400), (2, .int .i64 x2401), (8, .slice p2407 ([] : List Event).length c2408)] w2410 (by kernel_rfl) ?_
  refine W_nil ?_
  refine N_then ?_
  refine G_seq ?_
  refine G_seq ?_
  obtain ⟨o2429, ho2430, hm2431⟩ := gx_bind hm
  refine G_meet (fun a w' => Mem [] w w' [sg2409] ∧ Sat Try.f30.ntmps [(0, .slice p2397 x2395.length c2398), (1, .int .i64 x2400), (2, .int .i64 x2401), (8, .slice p2407 ([] : List Event).length c2408), (28, .bool o2429)] a) ?_ ?_
  · have hm := ho2430
    refine G_region ?_
    refine W_run 1 [(0, .slice p2397 x2395.length c2398), (1, .int .i64 x2400), (2, .int .i64 x2401), (8, .slice p2407 ([] : List Event).length c2408), (11, .slice p2397 x2395.length c2398)] w2410 (by kernel_rfl) ?_
    obtain ⟨r2432, hr2432, hm⟩ := gx_bind hm
    refine W_call 56 #[.slice p2397 x2395.length c2398] (by kernel_rfl) (by kernel_rfl) ?_
    refine (c_s_l22Good w2410 x2395 p2397 c2398 (h2399.mem0 M2412) hr2432).mono ?_
    rintro e_ w2433 ⟨rfl, K2434⟩
    have M2435 := M2412.call0 K2434
    refine ⟨_, rfl, ?_⟩
    refine W_run 2 [(0, .slice p2397 x2395.length c2398), (1, .int .i64 x2400), (2, .int .i64 x2401), (8, .slice p2407 ([] : List Event).length c2408), (14, .bool (!r2432))] w2433 (by kernel_rfl) ?_
    rcases gx_bif hm with ⟨hc2436, hm⟩ | ⟨hc2436, hm⟩
    · refine W_known 14 true (by kernel_rfl) hc2436 ?_
      refine W_run 14 [(0, .slice p2397 x2395.length c2398), (1, .int .i64 x2400), (2, .int .i64 x2401), (8, .slice p2407 ([] : List Event).length c2408), (28, .bool true)] w2433 (by kernel_rfl) ?_
      refine W_nil ?_
      obtain rfl := Option.some.inj hm
      exact N_meet fun a ha => ⟨M2435.pick [0] (by kernel_rfl), ha.sub (by kernel_rfl)⟩
    refine W_known 14 false (by kernel_rfl) hc2436 ?_
    refine W_run 1 [(0, .slice p2397 x2395.length c2398), (1, .int .i64 x2400), (2, .int .i64 x2401), (8, .slice p2407 ([] : List Event).length c2408), (14, .bool false), (15, .int .i64 x2400)] w2433 (by kernel_rfl) ?_
    obtain ⟨r2437, hr2437, hm⟩ := gx_bind hm
    refine W_call 65 #[.int .i64 x2400] (by kernel_rfl) (by kernel_rfl) ?_
    refine (c_s_l11Tick w2433 x2400 hr2437).mono ?_
    rintro e_ w2438 ⟨rfl, K2439⟩
    have M2440 := M2435.call0 K2439
    refine ⟨_, rfl, ?_⟩
    refine W_run 3 [(0, .slice p2397 x2395.length c2398), (1, .int .i64 x2400), (2, .int .i64 x2401), (8, .slice p2407 ([] : List Event).length c2408), (19, .bool (!r2437))] w2438 (by kernel_rfl) ?_
    rcases gx_bif hm with ⟨hc2441, hm⟩ | ⟨hc2441, hm⟩
    · refine W_known 19 true (by kernel_rfl) hc2441 ?_
      refine W_run 9 [(0, .slice p2397 x2395.length c2398), (1, .int .i64 x2400), (2, .int .i64 x2401), (8, .slice p2407 ([] : List Event).length c2408), (28, .bool true)] w2438 (by kernel_rfl) ?_
      refine W_nil ?_
      obtain rfl := Option.some.inj hm
      exact N_meet fun a ha => ⟨M2440.pick [0] (by kernel_rfl), ha.sub (by kernel_rfl)⟩
    refine W_known 19 false (by kernel_rfl) hc2441 ?_
    refine W_run 1 [(0, .slice p2397 x2395.length c2398), (1, .int .i64 x2400), (2, .int .i64 x2401), (8, .slice p2407 ([] : List Event).length c2408), (19, .bool false), (20, .int .i64 x2401)] w2438 (by kernel_rfl) ?_
    obtain ⟨r2442, hr2442, hm⟩ := gx_bind hm
    refine W_call 65 #[.int .i64 x2401] (by kernel_rfl) (by kernel_rfl) ?_
    refine (c_s_l11Tick w2438 x2401 hr2442).mono ?_
    rintro e_ w2443 ⟨rfl, K2444⟩
    have M2445 := M2440.call0 K2444
    refine ⟨_, rfl, ?_⟩
    refine W_run 3 [(0, .slice p2397 x2395.length c2398), (1, .int .i64 x2400), (2, .int .i64 x2401), (8, .slice p2407 ([] : List Event).length c2408), (24, .bool (!r2442))] w2443 (by kernel_rfl) ?_
    rcases gx_bif hm with ⟨hc2446, hm⟩ | ⟨hc2446, hm⟩
    · refine W_known 24 true (by kernel_rfl) hc2446 ?_
      refine W_run 4 [(0, .slice p2397 x2395.length c2398), (1, .int .i64 x2400), (2, .int .i64 x2401), (8, .slice p2407 ([] : List Event).length c2408), (28, .bool true)] w2443 (by kernel_rfl) ?_
      refine W_nil ?_
      obtain rfl := Option.some.inj hm
      exact N_meet fun a ha => ⟨M2445.pick [0] (by kernel_rfl), ha.sub (by kernel_rfl)⟩
    refine W_known 24 false (by kernel_rfl) hc2446 ?_
    refine W_run 4 [(0, .slice p2397 x2395.length c2398), (1, .int .i64 x2400), (2, .int .i64 x2401), (8, .slice p2407 ([] : List Event).length c2408), (28, .bool (decide (x2400 > x2401)))] w2443 (by kernel_rfl) ?_
    refine W_nil ?_
    obtain rfl := Option.some.inj hm
    exact N_meet fun a ha => ⟨M2445.pick [0] (by kernel_rfl), ha.sub (by kernel_rfl)⟩
  intro a2449 w2447 ⟨M2448, hS2450⟩
  refine N_use hS2450 ?_
  have hm := hm2431
  refine N_then ?_
  rcases gx_bif hm with ⟨hc2451, hm⟩ | ⟨hc2451, hm⟩
  · refine G_cond_t (b := o2429) hc2451 (by kernel_rfl) ?_
    refine G_seq ?_
    refine G_region ?_
    refine W_run 3 [(6, .slice p2407 ([] : List Event).length c2408), (7, .bool false)] w2447 (by kernel_rfl) ?_
    refine W_nil ?_
    refine N_then ?_
    refine G_ret ?_
    refine N_then_ret ?_
    obtain rfl := Option.some.inj hm
    refine N_ret [.slice p2407 ([] : List Event).length c2408, .bool false] (RVs_cons (RV_tmp (by kernel_rfl)) (RVs_cons (RV_tmp (by kernel_rfl)) RVs_nil)) ?_
    exact ⟨p2407, c2408, sg2409, rfl, ho2411, M2448.pick [0] (by kernel_rfl)⟩
  refine G_cond_f (b := o2429) hc2451 (by kernel_rfl) ?_
  refine G_skip ?_
  refine N_then ?_
  refine G_seq ?_
  refine G_seq ?_
  refine G_region ?_
  refine W_run 1 [(0, .slice p2397 x2395.length c2398), (1, .int .i64 x2400), (2, .int .i64 x2401), (8, .slice p2407 ([] : List Event).length c2408), (9, .int .i64 0)] w2447 (by kernel_rfl) ?_
  refine W_nil ?_
  refine N_then ?_
  obtain ⟨out2568, hw2569, hmo2570⟩ := gx_bind hm
  refine G_meet (fun a w' => ∃ (p2577 : Option Addr), ∃ (c2578 : Nat), ∃ (sg2579 : Seg), ownS encEvent out2568 p2577 c2578 sg2579 ∧ Mem [] w w' [sg2579] ∧ Sat Try.f30.ntmps [(8, .slice p2577 out2568.length c2578)] a) ?_ ?_
  · refine G_block ?_
    refine G_while (σ := List Event × Int) (ρ := List Event) (fun s2561 a w' => ∃ (p2571 : Option Addr), ∃ (c2572 : Nat), ∃ (sg2573 : Seg), ownS encEvent s2561.1 p2571 c2572 sg2573 ∧ Mem [] w w' [sg2573] ∧ Sat Try.f30.ntmps [(0, .slice p2397 x2395.length c2398), (1, .int .i64 x2400), (2, .int .i64 x2401), (8, .slice p2571 s2561.1.length c2572), (9, .int .i64 s2561.2)] a) hw2569 (fun a ha => ⟨p2407, c2408, sg2409, ho2411, M2448.pick [0] (by kernel_rfl), ha.sub (by kernel_rfl)⟩) ?_
    clear hm
    intro s2561 x2562 hm hout2563 a2564 w2565 ⟨p2571, c2572, sg2573, ho2574, M2566, hS2567⟩
    refine G_use hS2567 ?_
    refine G_seq ?_
    refine G_seq ?_
    refine G_region ?_
    refine W_run 4 [(0, .slice p2397 x2395.length c2398), (1, .int .i64 x2400), (2, .int .i64 x2401), (8, .slice p2571 s2561.1.length c2572), (9, .int .i64 s2561.2), (33, .bool (decide (s2561.2 < (x2395.length : Int))))] w2565 (by kernel_rfl) ?_
    refine W_nil ?_
    refine N_then ?_
    rcases gx_bif hm with ⟨hc2582, hm⟩ | ⟨hc2582, hm⟩
    · refine G_cond_t (b := (decide (s2561.2 < (x2395.length : Int)))) hc2582 (by kernel_rfl) ?_
      refine G_skip ?_
      refine N_then ?_
      refine G_seq ?_
      refine G_block ?_
      refine G_seq ?_
      refine G_region ?_
      refine W_run 2 [(0, .slice p2397 x2395.length c2398), (1, .int .i64 x2400), (2, .int .i64 x2401), (8, .slice p2571 s2561.1.length c2572), (9, .int .i64 s2561.2), (36, .slice p2397 x2395.length c2398), (37, .int .i64 s2561.2)] w2565 (by kernel_rfl) ?_
      obtain ⟨y2583, hy2583, hm⟩ := gx_bind hm
      refine W_val (elemP p2397 (s2561.2.toNat * 4)) w2565 (by kernel_rfl) (E_index (E := encEvent) _ _ _ x2395.length c2398 .i64 s2561.2 4 (y := y2583) rfl (by kernel_rfl) (by kernel_rfl) (by kernel_rfl) (h2399.mem0 M2566) rfl hy2583) ?_
      refine W_val (elemP p2397 (s2561.2.toNat * 4 + 0)) w2565 (by kernel_rfl) (E_fieldE (E := encEvent) _ _ 0 (s2561.2.toNat * 4) 0 rfl (by kernel_rfl) (by kernel_rfl) (h2399.mem0 M2566) hy2583) ?_
      refine W_val (.int .i64 y2583.Tick) w2565 (by kernel_rfl) (E_loadE (E := encEvent) _ _ false 1 s2561.2 0 (s2561.2.toNat * 4 + 0) y2583 (.int .i64 y2583.Tick) rfl (by kernel_rfl) (by kernel_rfl) (by kernel_rfl) (h2399.mem0 M2566) hy2583 rfl) ?_
      refine W_run 2 [(0, .slice p2397 x2395.length c2398), (1, .int .i64 x2400), (2, .int .i64 x2401), (8, .slice p2571 s2561.1.length c2572), (9, .int .i64 s2561.2), (40, .int .i64 y2583.Tick), (41, .int .i64 x2400), (42, .int .i64 x2401)] w2565 (by kernel_rfl) ?_
      obtain ⟨r2584, hr2584, hm⟩ := gx_bind hm
      refine W_call 58 #[.int .i64 y2583.Tick, .int .i64 x2400, .int .i64 x2401] (by kernel_rfl) (by kernel_rfl) ?_
      refine (c_s_l1In w2565 y2583.Tick x2400 x2401 hr2584).mono ?_
      rintro e_ w2585 ⟨rfl, K2586⟩
      have M2587 := M2566.call0 K2586
      refine ⟨_, rfl, ?_⟩
      refine W_nil ?_
      refine N_then ?_
      obtain ⟨o2605, ho2606, hm2607⟩ := gx_bind hm
      refine G_meet (fun a w' => ∃ (p2608 : Option Addr), ∃ (c2609 : Nat), ∃ (sg2610 : Seg), ownS encEvent o2605 p2608 c2609 sg2610 ∧ Mem [] w w' [sg2610] ∧ Sat Try.f30.ntmps [(0, .slice p2397 x2395.length c2398), (1, .int .i64 x2400), (2, .int .i64 x2401), (8, .slice p2608 o2605.length c2609), (9, .int .i64 s2561.2)] a) ?_ ?_
      · have hm := ho2606
        rcases gx_bif hm with ⟨hc2613, hm⟩ | ⟨hc2613, hm⟩
        · refine G_cond_t (b := r2584) hc2613 (by kernel_rfl) ?_
          refine G_region ?_
          refine W_run 3 [(0, .slice p2397 x2395.length c2398), (1, .int .i64 x2400), (2, .int .i64 x2401), (8, .slice p2571 s2561.1.length c2572), (9, .int .i64 s2561.2), (44, .slice p2571 s2561.1.length c2572), (45, .slice p2397 x2395.length c2398), (46, .int .i64 s2561.2)] w2585 (by kernel_rfl) ?_
          obtain ⟨y2614, hy2614, hm⟩ := gx_bind hm
          refine W_val (elemP p2397 (s2561.2.toNat * 4)) w2585 (by kernel_rfl) (E_index (E := encEvent) _ _ _ x2395.length c2398 .i64 s2561.2 4 (y := y2614) rfl (by kernel_rfl) (by kernel_rfl) (by kernel_rfl) (h2399.mem0 M2587) rfl hy2614) ?_
          refine W_val (.agg #[.int .i64 y2614.Tick, .int .i64 y2614.Guest, .string y2614.Kind, .int .i64 y2614.Value]) w2585 (by kernel_rfl) (E_loadE (E := encEvent) _ _ true 4 s2561.2 0 (s2561.2.toNat * 4) y2614 (.agg #[.int .i64 y2614.Tick, .int .i64 y2614.Guest, .string y2614.Kind, .int .i64 y2614.Value]) rfl (by kernel_rfl) (by kernel_rfl) (by kernel_rfl) (h2399.mem0 M2587) hy2614 rfl) ?_
          refine W_lit (E := encEvent) [y2614] 1 [.int .i64 y2614.Tick, .int .i64 y2614.Guest, .string y2614.Kind, .int .i64 y2614.Value] 26 M2587 (by kernel_rfl) (by kernel_rfl) (by kernel_rfl) (by kernel_rfl) (by kernel_rfl) ?_
          intro p2615 c2616 sg2617 w2618 ho2619 M2620
          obtain ⟨ap2622, hap2622, hm⟩ := gx_bind hm
          refine W_append (E := encEvent) _ _ _ 40 [.int .i64 0, .int .i64 0, .string ByteArray.empty, .int .i64 0] 0 c2616 M2620 ho2574 (by kernel_rfl) (by kernel_rfl) (by kernel_rfl) rfl (by kernel_rfl) (by kernel_rfl) (by kernel_rfl) (by kernel_rfl) (by kernel_rfl) (by kernel_rfl) (ho2619.rd M2620 1 (by kernel_rfl)) hap2622 ?_
          intro p2623 c2624 sg2625 w2626 ho2627 M2628
          refine W_run 1 [(0, .slice p2397 x2395.length c2398), (1, .int .i64 x2400), (2, .int .i64 x2401), (8, .slice p2623 ap2622.length c2624), (9, .int .i64 s2561.2)] w2626 (by kernel_rfl) ?_
          refine W_nil ?_
          obtain rfl := Option.some.inj hm
          exact N_meet fun a ha => ⟨p2623, c2624, sg2625, ho2627, M2628.pick [0] (by kernel_rfl), ha.sub (by kernel_rfl)⟩
        refine G_cond_f (b := r2584) hc2613 (by kernel_rfl) ?_
        refine G_skip ?_
        obtain rfl := Option.some.inj hm
        exact N_meet fun a ha => ⟨p2571, c2572, sg2573, ho2574, M2587.pick [0] (by kernel_rfl), ha.sub (by kernel_rfl)⟩
      intro a2632 w2630 ⟨p2608, c2609, sg2610, ho2611, M2631, hS2633⟩
      refine N_use hS2633 ?_
      have hm := hm2607
      refine N_block ?_
      refine N_then ?_
      refine G_region ?_
      refine W_run 3 [(0, .slice p2397 x2395.length c2398), (1, .int .i64 x2400), (2, .int .i64 x2401), (8, .slice p2608 o2605.length c2609), (9, .int .i64 (w64 (s2561.2 + 1)))] w2630 (by kernel_rfl) ?_
      refine W_nil ?_
      obtain rfl := Option.some.inj hm
      exact N_loop fun a ha => ⟨_, rfl, p2608, c2609, sg2610, ho2611, M2631.pick [0] (by kernel_rfl), ha.sub (by kernel_rfl)⟩
    refine G_cond_f (b := (decide (s2561.2 < (x2395.length : Int)))) hc2582 (by kernel_rfl) ?_
    refine G_exit ?_
    refine N_then_exit ?_
    refine N_then_exit ?_
    refine N_block_eq ?_
    obtain rfl := Option.some.inj hm
    obtain rfl := hout2563 _ rfl
    exact N_meet fun a ha => ⟨p2571, c2572, sg2573, ho2574, M2566.pick [0] (by kernel_rfl), ha.sub (by kernel_rfl)⟩
  intro a2634 w2635 ⟨p2577, c2578, sg2579, ho2580, M2636, hS2637⟩
  refine N_use hS2637 ?_
  have hm := hmo2570
  refine N_then ?_
  refine G_seq ?_
  refine G_region ?_
  refine W_run 3 [(6, .slice p2577 out2568.length c2578), (7, .bool true)] w2635 (by kernel_rfl) ?_
  refine W_nil ?_
  refine N_then ?_
  refine G_ret ?_
  obtain rfl := Option.some.inj hm
  refine N_ret [.slice p2577 out2568.length c2578, .bool true] (RVs_cons (RV_tmp (by kernel_rfl)) (RVs_cons (RV_tmp (by kernel_rfl)) RVs_nil)) ?_
  exact ⟨p2577, c2578, sg2579, rfl, ho2580, M2636.pick [0] (by kernel_rfl)⟩
theorem c_i_EventsWithin_1 (w : World) (x2811 : Event) (x2812 : Int) (b2813 : Nat) (hb2814 : w.heap[b2813]? = some (.cells ⟨[.int .i64 x2812]⟩ 3 (0, 0))) (x2816 : Int) (b2817 : Nat) (hb2818 : w.heap[b2817]? = some (.cells ⟨[.int .i64 x2816]⟩ 3 (0, 0))) {r : Bool} (hm : M.i_EventsWithin_1 x2811 x2812 x2816 = some r) :
    Calls Try.prog 66 #[.agg #[.int .i64 x2811.Tick, .int .i64 x2811.Guest, .string x2811.Kind, .int .i64 x2811.Value], .pointer (some ⟨b2813, 0, none⟩), .pointer (some ⟨b2817, 0, none⟩)] w fun e w' => e = .returned (.bool r) ∧ Mem [] w w' [] := by
  unfold M.i_EventsWithin_1 at hm
  refine C_enter Try.func66 rfl (by kernel_rfl) ?_
  have M0 := Mem.refl [] w
  refine G_seq ?_
  refine G_region ?_
  refine W_new (fun b => .pointer (some ⟨b, 0, none⟩)) (.cells ⟨[.int .i64 x2811.Tick, .int .i64 x2811.Guest, .string x2811.Kind, .int .i64 x2811.Value]⟩ 26 (0, 0)) M0 rfl (by kernel_rfl) (by kernel_rfl) ?_
  intro b2821 w2822 M2823
  refine W_run 1 [(1, .pointer (some ⟨b2813, 0, none⟩)), (2, .pointer (some ⟨b2817, 0, none⟩)), (3, .pointer (some ⟨b2821, 0, none⟩))] w2822 (by kernel_rfl) ?_
  refine W_nil ?_
  refine N_then ?_
  refine G_seq ?_
  refine G_region ?_
  refine W_run 1 [(1, .pointer (some ⟨b2813, 0, none⟩)), (2, .pointer (some ⟨b2817, 0, none⟩)), (5, .pointer (some ⟨b2821, 0, none⟩))] w2822 (by kernel_rfl) ?_
  refine W_val (.int .i64 x2811.Tick) w2822 (by kernel_rfl) (E_load (e := 26) (fr := (0, 0)) _ _ false 1 b2821 0 [.int .i64 x2811.Tick, .int .i64 x2811.Guest, .string x2811.Kind, .int .i64 x2811.Value] (.int .i64 x2811.Tick) rfl (by kernel_rfl) (by kernel_rfl) (by kernel_rfl) (M2823.blk 0 (b := b2821) (o := .cells ⟨[.int .i64 x2811.Tick, .int .i64 x2811.Guest, .string x2811.Kind, .int .i64 x2811.Value]⟩ 26 (0, 0)) (by kernel_rfl))) ?_
  refine W_val (.int .i64 x2812) w2822 (by kernel_rfl) (E_load (e := 3) (fr := (0, 0)) _ _ false 1 b2813 0 [.int .i64 x2812] (.int .i64 x2812) rfl (by kernel_rfl) (by kernel_rfl) (by kernel_rfl) (M2823.ro hb2814)) ?_
  refine W_val (.int .i64 x2816) w2822 (by kernel_rfl) (E_load (e := 3) (fr := (0, 0)) _ _ false 1 b2817 0 [.int .i64 x2816] (.int .i64 x2816) rfl (by kernel_rfl) (by kernel_rfl) (by kernel_rfl) (M2823.ro hb2818)) ?_
  obtain ⟨r2824, hr2824, hm⟩ := gx_bind hm
  refine W_call 67 #[.int .i64 x2811.Tick, .int .i64 x2812, .int .i64 x2816] (by kernel_rfl) (by kernel_rfl) ?_
  refine (c_i_inside w2822 x2811.Tick x2812 x2816 hr2824).mono ?_
  rintro e_ w2825 ⟨rfl, K2826⟩
  have M2827 := M2823.call0 K2826
  refine ⟨_, rfl, ?_⟩
  refine W_run 1 [(4, .bool r2824)] w2825 (by kernel_rfl) ?_
  refine W_nil ?_
  refine N_then ?_
  refine G_ret ?_
  obtain rfl := Option.some.inj hm
  refine N_ret [.bool r2824] (RVs_cons (RV_tmp (by kernel_rfl)) RVs_nil) ?_
  exact ⟨rfl, M2827.pick [] (by kernel_rfl)⟩
theorem c_i_eventsWhere_1__i_EventsWithin_1 (w : World) (x2795 : Event) (x2796 : Int) (b2797 : Nat) (hb2798 : w.heap[b2797]? = some (.cells ⟨[.int .i64 x2796]⟩ 3 (0, 0))) (x2800 : Int) (b2801 : Nat) (hb2802 : w.heap[b2801]? = some (.cells ⟨[.int .i64 x2800]⟩ 3 (0, 0))) (b2804 : Nat) (hb2805 : w.heap[b2804]? = some (.cells ⟨[.func (.func 66) #[] #[.pointer (some ⟨b2797, 0, none⟩), .pointer (some ⟨b2801, 0, none⟩)]]⟩ 25 (0, 0))) {r : Bool} (hm : M.i_eventsWhere_1__i_EventsWithin_1 x2795 x2796 x2800 = some r) :
    Calls Try.prog 82 #[.agg #[.int .i64 x2795.Tick, .int .i64 x2795.Guest, .string x2795.Kind, .int .i64 x2795.Value], .pointer (some ⟨b2804, 0, none⟩)] w fun e w' => e = .returned (.bool r) ∧ Mem [] w w' [] := by
  unfold M.i_eventsWhere_1__i_EventsWithin_1 at hm
  refine C_enter Try.func82 rfl (by kernel_rfl) ?_
  have M0 := Mem.refl [] w
  refine G_seq ?_
  refine G_region ?_
  refine W_new (fun b => .pointer (some ⟨b, 0, none⟩)) (.cells ⟨[.int .i64 x2795.Tick, .int .i64 x2795.Guest, .string x2795.Kind, .int .i64 x2795.Value]⟩ 26 (0, 0)) M0 rfl (by kernel_rfl) (by kernel_rfl) ?_
  intro b2808 w2809 M2810
  refine W_run 1 [(1, .pointer (some ⟨b2804, 0, none⟩)), (2, .pointer (some ⟨b2808, 0, none⟩))] w2809 (by kernel_rfl) ?_
  refine W_nil ?_
  refine N_then ?_
  refine G_seq ?_
  refine G_region ?_
  refine W_val (.func (.func 66) #[] #[.pointer (some ⟨b2797, 0, none⟩), .pointer (some ⟨b2801, 0, none⟩)]) w2809 (by kernel_rfl) (E_load (e := 25) (fr := (0, 0)) _ _ false 1 b2804 0 [.func (.func 66) #[] #[.pointer (some ⟨b2797, 0, none⟩), .pointer (some ⟨b2801, 0, none⟩)]] (.func (.func 66) #[] #[.pointer (some ⟨b2797, 0, none⟩), .pointer (some ⟨b2801, 0, none⟩)]) rfl (by kernel_rfl) (by kernel_rfl) (by kernel_rfl) (M2810.ro hb2805)) ?_
  refine W_val (.agg #[.int .i64 x2795.Tick, .int .i64 x2795.Guest, .string x2795.Kind, .int .i64 x2795.Value]) w2809 (by kernel_rfl) (E_load (e := 26) (fr := (0, 0)) _ _ true 4 b2808 0 [.int .i64 x2795.Tick, .int .i64 x2795.Guest, .string x2795.Kind, .int .i64 x2795.Value] (.agg #[.int .i64 x2795.Tick, .int .i64 x2795.Guest, .string x2795.Kind, .int .i64 x2795.Value]) rfl (by kernel_rfl) (by kernel_rfl) (by kernel_rfl) (M2810.blk 0 (b := b2808) (o := .cells ⟨[.int .i64 x2795.Tick, .int .i64 x2795.Guest, .string x2795.Kind, .int .i64 x2795.Value]⟩ 26 (0, 0)) (by kernel_rfl))) ?_
  obtain ⟨r2828, hr2828, hm⟩ := gx_bind hm
  refine W_call 66 #[.agg #[.int .i64 x2795.Tick, .int .i64 x2795.Guest, .string x2795.Kind, .int .i64 x2795.Value], .pointer (some ⟨b2797, 0, none⟩), .pointer (some ⟨b2801, 0, none⟩)] (by kernel_rfl) (by kernel_rfl) ?_
  refine (c_i_EventsWithin_1 w2809 x2795 x2796 b2797 (M2810.ro hb2798) x2800 b2801 (M2810.ro hb2802) hr2828).mono ?_
  rintro e_ w2829 ⟨rfl, K2830⟩
  have M2831 := M2810.call0 K2830
  refine ⟨_, rfl, ?_⟩
  refine W_run 2 [(3, .bool (!r2828))] w2829 (by kernel_rfl) ?_
  refine W_nil ?_
  refine N_then ?_
  refine G_ret ?_
  obtain rfl := Option.some.inj hm
  refine N_ret [.bool (!r2828)] (RVs_cons (RV_tmp (by kernel_rfl)) RVs_nil) ?_
  exact ⟨rfl, M2831.pick [] (by kernel_rfl)⟩
theorem c_slices_IndexFunc_59__i_eventsWhere_1__i_EventsWithin_1 (w : World) (x2777 : List Event) (p2779 : Option Addr) (c2780 : Nat) (h2781 : rdS encEvent w x2777 p2779 c2780) (x2782 : Int) (b2783 : Nat) (hb2784 : w.heap[b2783]? = some (.cells ⟨[.int .i64 x2782]⟩ 3 (0, 0))) (x2786 : Int) (b2787 : Nat) (hb2788 : w.heap[b2787]? = some (.cells ⟨[.int .i64 x2786]⟩ 3 (0, 0))) (b2790 : Nat) (hb2791 : w.heap[b2790]? = some (.cells ⟨[.func (.func 66) #[] #[.pointer (some ⟨b2783, 0, none⟩), .pointer (some ⟨b2787, 0, none⟩)]]⟩ 25 (0, 0))) {r : Int} (hm : M.slices_IndexFunc_59__i_eventsWhere_1__i_EventsWithin_1 x2777 x2782 x2786 = some r) :
    Calls Try.prog 59 #[.slice p2779 x2777.length c2780, .func (.func 82) #[] #[.pointer (some ⟨b2790, 0, none⟩)]] w fun e w' => e = .returned (.int .i64 r) ∧ Mem [] w w' [] := by
  unfold M.slices_IndexFunc_59__i_eventsWhere_1__i_EventsWithin_1 at hm
  refine C_enter Try.func59 rfl (by kernel_rfl) ?_
  have M0 := Mem.refl [] w
  refine G_seq ?_
  refine G_region ?_
  refine W_run 1 [(0, .slice p2779 x2777.length c2780), (1, .func (.func 82) #[] #[.pointer (some ⟨b2790, 0, none⟩)])] w (by kernel_rfl) ?_
  refine W_nil ?_
  refine N_then ?_
  refine G_seq ?_
  refine G_seq ?_
  refine G_region ?_
  refine W_run 3 [(0, .slice p2779 x2777.length c2780), (1, .func (.func 82) #[] #[.pointer (some ⟨b2790, 0, none⟩)]), (7, .int .i64 (x2777.length : Int)), (8, .int .i64 0)] w (by kernel_rfl) ?_
  refine W_nil ?_
  refine N_then ?_
  obtain ⟨out2851, hw2852, hmo2853⟩ := gx_bind hm
  refine G_meet (fun a w' => ∃ (o2854 : Unit), out2851 = .inl o2854 ∧ Mem [] w w' [] ∧ Sat Try.f59.ntmps [] a) ?_ ?_
  · refine G_block ?_
    refine G_while (σ := Int) (ρ := (Unit) ⊕ (Int)) (fun s2844 a w' => Mem [] w w' [] ∧ Sat Try.f59.ntmps [(0, .slice p2779 x2777.length c2780), (1, .func (.func 82) #[] #[.pointer (some ⟨b2790, 0, none⟩)]), (7, .int .i64 (x2777.length : Int)), (8, .int .i64 s2844)] a) hw2852 (fun a ha => ⟨M0.pick [] (by kernel_rfl), ha.sub (by kernel_rfl)⟩) ?_
    clear hm
    intro s2844 x2845 hm hout2846 a2847 w2848 ⟨M2849, hS2850⟩
    refine G_use hS2850 ?_
    refine G_seq ?_
    refine G_region ?_
    refine W_run 1 [(0, .slice p2779 x2777.length c2780), (1, .func (.func 82) #[] #[.pointer (some ⟨b2790, 0, none⟩)]), (7, .int .i64 (x2777.length : Int)), (8, .int .i64 s2844), (9, .bool (decide (s2844 < (x2777.length : Int))))] w2848 (by kernel_rfl) ?_
    refine W_nil ?_
    refine N_then ?_
    refine G_seq ?_
    rcases gx_bif hm with ⟨hc2855, hm⟩ | ⟨hc2855, hm⟩
    · refine G_cond_t (b := (decide (s2844 < (x2777.length : Int)))) hc2855 (by kernel_rfl) ?_
      refine G_skip ?_
      refine N_then ?_
      refine G_seq ?_
      refine G_block ?_
      refine G_seq ?_
      refine G_region ?_
      refine W_run 2 [(0, .slice p2779 x2777.length c2780), (1, .func (.func 82) #[] #[.pointer (some ⟨b2790, 0, none⟩)]), (5, .int .i64 s2844), (7, .int .i64 (x2777.length : Int)), (8, .int .i64 s2844)] w2848 (by kernel_rfl) ?_
      refine W_nil ?_
      refine N_then ?_
      refine G_seq ?_
      refine G_region ?_
      refine W_run 3 [(0, .slice p2779 x2777.length c2780), (1, .func (.func 82) #[] #[.pointer (some ⟨b2790, 0, none⟩)]), (5, .int .i64 s2844), (7, .int .i64 (x2777.length : Int)), (8, .int .i64 s2844), (11, .func (.func 82) #[] #[.pointer (some ⟨b2790, 0, none⟩)]), (12, .slice p2779 x2777.length c2780), (13, .int .i64 s2844)] w2848 (by kernel_rfl) ?_
      obtain ⟨y2856, hy2856, hm⟩ := gx_bind hm
      refine W_val (elemP p2779 (s2844.toNat * 4)) w2848 (by kernel_rfl) (E_index (E := encEvent) _ _ _ x2777.length c2780 .i64 s2844 4 (y := y2856) rfl (by kernel_rfl) (by kernel_rfl) (by kernel_rfl) (h2781.mem0 M2849) rfl hy2856) ?_
      refine W_val (.agg #[.int .i64 y2856.Tick, .int .i64 y2856.Guest, .string y2856.Kind, .int .i64 y2856.Value]) w2848 (by kernel_rfl) (E_loadE (E := encEvent) _ _ true 4 s2844 0 (s2844.toNat * 4) y2856 (.agg #[.int .i64 y2856.Tick, .int .i64 y2856.Guest, .string y2856.Kind, .int .i64 y2856.Value]) rfl (by kernel_rfl) (by kernel_rfl) (by kernel_rfl) (h2781.mem0 M2849) hy2856 rfl) ?_
      obtain ⟨r2857, hr2857, hm⟩ := gx_bind hm
      refine W_call 82 #[.agg #[.int .i64 y2856.Tick, .int .i64 y2856.Guest, .string y2856.Kind, .int .i64 y2856.Value], .pointer (some ⟨b2790, 0, none⟩)] (by kernel_rfl) (by kernel_rfl) ?_
      refine (c_i_eventsWhere_1__i_EventsWithin_1 w2848 y2856 x2782 b2783 (M2849.ro hb2784) x2786 b2787 (M2849.ro hb2788) b2790 (M2849.ro hb2791) hr2857).mono ?_
      rintro e_ w2858 ⟨rfl, K2859⟩
      have M2860 := M2849.call0 K2859
      refine ⟨_, rfl, ?_⟩
      refine W_nil ?_
      refine N_then ?_
      rcases gx_bif hm with ⟨hc2861, hm⟩ | ⟨hc2861, hm⟩
      · refine G_cond_t (b := r2857) hc2861 (by kernel_rfl) ?_
        refine G_seq ?_
        refine G_region ?_
        refine W_run 2 [(4, .int .i64 s2844)] w2858 (by kernel_rfl) ?_
        refine W_nil ?_
        refine N_then ?_
        refine G_ret ?_
        refine N_block_ret ?_
        refine N_then_ret ?_
        refine N_then_ret ?_
        obtain rfl := Option.some.inj hm
        obtain rfl := hout2846 _ rfl
        have hm := hmo2853; simp only [Sum.elim_inr] at hm
        refine N_block_ret ?_
        refine N_meet_ret ?_
        refine N_then_ret ?_
        obtain rfl := Option.some.inj hm
        refine N_ret [.int .i64 s2844] (RVs_cons (RV_tmp (by kernel_rfl)) RVs_nil) ?_
        exact ⟨rfl, M2860.pick [] (by kernel_rfl)⟩
      refine G_cond_f (b := r2857) hc2861 (by kernel_rfl) ?_
      refine G_skip ?_
      refine N_block ?_
      refine N_then ?_
      refine G_region ?_
      refine W_run 2 [(0, .slice p2779 x2777.length c2780), (1, .func (.func 82) #[] #[.pointer (some ⟨b2790, 0, none⟩)]), (7, .int .i64 (x2777.length : Int)), (8, .int .i64 (w64 (s2844 + 1)))] w2858 (by kernel_rfl) ?_
      refine W_nil ?_
      obtain rfl := Option.some.inj hm
      exact N_loop fun a ha => ⟨_, rfl, M2860.pick [] (by kernel_rfl), ha.sub (by kernel_rfl)⟩
    refine G_cond_f (b := (decide (s2844 < (x2777.length : Int)))) hc2855 (by kernel_rfl) ?_
    refine G_exit ?_
    refine N_then_exit ?_
    refine N_then_exit ?_
    refine N_block_eq ?_
    obtain rfl := Option.some.inj hm
    obtain rfl := hout2846 _ rfl
    exact N_meet fun a ha => ⟨_, rfl, M2849.pick [] (by kernel_rfl), ha.sub (by kernel_rfl)⟩
  intro a2862 w2863 ⟨o2854, hout_, M2864, hS2865⟩
  refine N_use hS2865 ?_
  subst hout_
  have hm := hmo2853; simp only [Sum.elim_inl] at hm
  refine N_then ?_
  refine G_seq ?_
  refine G_region ?_
  refine W_run 1 [(4, .int .i64 (-1))] w2863 (by kernel_rfl) ?_
  refine W_nil ?_
  refine N_then ?_
  refine G_ret ?_
  obtain rfl := Option.some.inj hm
  refine N_ret [.int .i64 (-1)] (RVs_cons (RV_tmp (by kernel_rfl)) RVs_nil) ?_
  exact ⟨rfl, M2864.pick [] (by kernel_rfl)⟩
theorem c_slices_DeleteFunc_81__i_eventsWhere_1__i_EventsWithin_1 (w : World) (x2752 : List Event) (p2754 : Option Addr) (c2755 : Nat) (sg2756 : Seg) (ho2757 : ownS encEvent x2752 p2754 c2755 sg2756) (x2758 : Int) (b2759 : Nat) (hb2760 : w.heap[b2759]? = some (.cells ⟨[.int .i64 x2758]⟩ 3 (0, 0))) (x2763 : Int) (b2764 : Nat) (hb2765 : w.heap[b2764]? = some (.cells ⟨[.int .i64 x2763]⟩ 3 (0, 0))) (b2768 : Nat) (hb2769 : w.heap[b2768]? = some (.cells ⟨[.func (.func 66) #[] #[.pointer (some ⟨b2759, 0, none⟩), .pointer (some ⟨b2764, 0, none⟩)]]⟩ 25 (0, 0))) (hA : ∀ q ∈ List.flatten [sg2756], w.heap[q.1]? = some q.2) (hN : (idsOf [sg2756]).Nodup) (nf2762 : b2759 ∉ (idsOf [sg2756])) (nf2767 : b2764 ∉ (idsOf [sg2756])) (nf2771 : b2768 ∉ (idsOf [sg2756])) {r : (List Event) × (List Event)} (hm : M.slices_DeleteFunc_81__i_eventsWhere_1__i_EventsWithin_1 x2752 x2758 x2763 = some r) :
    Calls Try.prog 81 #[.slice p2754 x2752.length c2755, .func (.func 82) #[] #[.pointer (some ⟨b2768, 0, none⟩)]] w fun e w' => ∃ (sg2772 : Seg), ∃ (p2774 : Option Addr) (c2775 : Nat), e = .returned (.slice p2774 r.1.length c2775) ∧ ownS encEvent r.2 p2754 c2755 sg2772 ∧ r.2.length = x2752.length ∧ viewS 4 r.2 p2754 c2755 p2774 c2775 r.1 ∧ Mem (idsOf [sg2756]) w w' [sg2772] := by
  unfold M.slices_DeleteFunc_81__i_eventsWhere_1__i_EventsWithin_1 at hm
  refine C_enter Try.func81 rfl (by kernel_rfl) ?_
  have M0 := Mem.start' w [sg2756] hA hN
  refine G_seq ?_
  refine G_region ?_
  refine W_run 1 [(0, .slice p2754 x2752.length c2755), (1, .func (.func 82) #[] #[.pointer (some ⟨b2768, 0, none⟩)])] w (by kernel_rfl) ?_
  refine W_nil ?_
  refine N_then ?_
  refine G_seq ?_
  refine G_region ?_
  refine W_run 2 [(0, .slice p2754 x2752.length c2755), (1, .func (.func 82) #[] #[.pointer (some ⟨b2768, 0, none⟩)]), (8, .slice p2754 x2752.length c2755), (9, .func (.func 82) #[] #[.pointer (some ⟨b2768, 0, none⟩)])] w (by kernel_rfl) ?_
  obtain ⟨r2866, hr2866, hm⟩ := gx_bind hm
  refine W_call 59 #[.slice p2754 x2752.length c2755, .func (.func 82) #[] #[.pointer (some ⟨b2768, 0, none⟩)]] (by kernel_rfl) (by kernel_rfl) ?_
  refine (c_slices_IndexFunc_59__i_eventsWhere_1__i_EventsWithin_1 w x2752 p2754 c2755 (ho2757.rd M0 0 (by kernel_rfl)) x2758 b2759 (M0.roX hb2760 nf2762) x2763 b2764 (M0.roX hb2765 nf2767) b2768 (M0.roX hb2769 nf2771) hr2866).mono ?_
  rintro e_ w2867 ⟨rfl, K2868⟩
  have M2869 := M0.call0 K2868
  refine ⟨_, rfl, ?_⟩
  refine W_run 1 [(0, .slice p2754 x2752.length c2755), (1, .func (.func 82) #[] #[.pointer (some ⟨b2768, 0, none⟩)]), (5, .int .i64 r2866)] w2867 (by kernel_rfl) ?_
  refine W_nil ?_
  refine N_then ?_
  refine G_seq ?_
  refine G_seq ?_
  refine G_region ?_
  refine W_run 2 [(0, .slice p2754 x2752.length c2755), (1, .func (.func 82) #[] #[.pointer (some ⟨b2768, 0, none⟩)]), (5, .int .i64 r2866), (12, .bool (r2866 == (-1)))] w2867 (by kernel_rfl) ?_
  refine W_nil ?_
  refine N_then ?_
  rcases gx_bif hm with ⟨hc2870, hm⟩ | ⟨hc2870, hm⟩
  · refine G_cond_t (b := (r2866 == (-1))) hc2870 (by kernel_rfl) ?_
    refine G_seq ?_
    refine G_region ?_
    refine W_run 2 [(4, .slice p2754 x2752.length c2755)] w2867 (by kernel_rfl) ?_
    refine W_nil ?_
    refine N_then ?_
    refine G_ret ?_
    refine N_then_ret ?_
    obtain rfl := Option.some.inj hm
    refine N_ret [.slice p2754 x2752.length c2755] (RVs_cons (RV_tmp (by kernel_rfl)) RVs_nil) ?_
    exact ⟨sg2756, p2754, c2755, rfl, ho2757, rfl, (viewS_self ho2757), M2869.pick [0] (by kernel_rfl)⟩
  refine G_cond_f (b := (r2866 == (-1))) hc2870 (by kernel_rfl) ?_
  refine G_skip ?_
  refine N_then ?_
  refine G_seq ?_
  refine G_seq ?_
  refine G_region ?_
  refine W_run 3 [(0, .slice p2754 x2752.length c2755), (1, .func (.func 82) #[] #[.pointer (some ⟨b2768, 0, none⟩)]), (5, .int .i64 r2866), (6, .int .i64 (w64 (r2866 + 1)))] w2867 (by kernel_rfl) ?_
  refine W_nil ?_
  refine N_then ?_
  obtain ⟨out2949, hw2950, hmo2951⟩ := gx_bind hm
  refine G_meet (fun a w' => ∃ (sg2956 : Seg), ownS encEvent out2949.2 p2754 c2755 sg2956 ∧ out2949.2.length = x2752.length ∧ Mem (idsOf [sg2756]) w w' [sg2956] ∧ Sat Try.f81.ntmps [(0, .slice p2754 out2949.2.length c2755), (5, .int .i64 out2949.1)] a) ?_ ?_
  · refine G_block ?_
    refine G_while (σ := Int × Int × List Event) (ρ := Int × List Event) (fun s2942 a w' => ∃ (sg2952 : Seg), ownS encEvent s2942.2.2 p2754 c2755 sg2952 ∧ s2942.2.2.length = x2752.length ∧ Mem (idsOf [sg2756]) w w' [sg2952] ∧ Sat Try.f81.ntmps [(0, .slice p2754 s2942.2.2.length c2755), (1, .func (.func 82) #[] #[.pointer (some ⟨b2768, 0, none⟩)]), (5, .int .i64 s2942.1), (6, .int .i64 s2942.2.1)] a) hw2950 (fun a ha => ⟨sg2756, ho2757, rfl, M2869.pick [0] (by kernel_rfl), ha.sub (by kernel_rfl)⟩) ?_
    clear hm
    intro s2942 x2943 hm hout2944 a2945 w2946 ⟨sg2952, ho2953, hl2954, M2947, hS2948⟩
    refine G_use hS2948 ?_
    refine G_seq ?_
    refine G_seq ?_
    refine G_region ?_
    refine W_run 4 [(0, .slice p2754 s2942.2.2.length c2755), (1, .func (.func 82) #[] #[.pointer (some ⟨b2768, 0, none⟩)]), (5, .int .i64 s2942.1), (6, .int .i64 s2942.2.1), (19, .bool (decide (s2942.2.1 < (s2942.2.2.length : Int))))] w2946 (by kernel_rfl) ?_
    refine W_nil ?_
    refine N_then ?_
    rcases gx_bif hm with ⟨hc2959, hm⟩ | ⟨hc2959, hm⟩
    · refine G_cond_t (b := (decide (s2942.2.1 < (s2942.2.2.length : Int)))) hc2959 (by kernel_rfl) ?_
      refine G_skip ?_
      refine N_then ?_
      refine G_seq ?_
      refine G_block ?_
      refine G_seq ?_
      refine G_region ?_
      refine W_run 2 [(0, .slice p2754 s2942.2.2.length c2755), (1, .func (.func 82) #[] #[.pointer (some ⟨b2768, 0, none⟩)]), (5, .int .i64 s2942.1), (6, .int .i64 s2942.2.1), (22, .slice p2754 s2942.2.2.length c2755), (23, .int .i64 s2942.2.1)] w2946 (by kernel_rfl) ?_
      obtain ⟨y2960, hy2960, hm⟩ := gx_bind hm
      refine W_val (elemP p2754 (s2942.2.1.toNat * 4)) w2946 (by kernel_rfl) (E_index (E := encEvent) _ _ _ s2942.2.2.length c2755 .i64 s2942.2.1 4 (y := y2960) rfl (by kernel_rfl) (by kernel_rfl) (by kernel_rfl) (ho2953.rd M2947 0 (by kernel_rfl)) rfl hy2960) ?_
      refine W_val (.agg #[.int .i64 y2960.Tick, .int .i64 y2960.Guest, .string y2960.Kind, .int .i64 y2960.Value]) w2946 (by kernel_rfl) (E_loadE (E := encEvent) _ _ true 4 s2942.2.1 0 (s2942.2.1.toNat * 4) y2960 (.agg #[.int .i64 y2960.Tick, .int .i64 y2960.Guest, .string y2960.Kind, .int .i64 y2960.Value]) rfl (by kernel_rfl) (by kernel_rfl) (by kernel_rfl) (ho2953.rd M2947 0 (by kernel_rfl)) hy2960 rfl) ?_
      refine W_new (fun b => .pointer (some ⟨b, 0, none⟩)) (.cells ⟨[.int .i64 0, .int .i64 0, .string ByteArray.empty, .int .i64 0]⟩ 26 (0, 0)) M2947 rfl (by kernel_rfl) (by kernel_rfl) ?_
      intro b2962 w2963 M2964
      refine W_store _ _ _ true 4 b2962 0 [.int .i64 0, .int .i64 0, .string ByteArray.empty, .int .i64 0] 26 (.agg #[.int .i64 y2960.Tick, .int .i64 y2960.Guest, .string y2960.Kind, .int .i64 y2960.Value]) 1 [.int .i64 y2960.Tick, .int .i64 y2960.Guest, .string y2960.Kind, .int .i64 y2960.Value] M2964 (by kernel_rfl) rfl (by kernel_rfl) (by kernel_rfl) (by kernel_rfl) (by kernel_rfl) (by kernel_rfl) (by kernel_rfl) (by kernel_rfl) (by kernel_rfl) ?_
      intro w2965 M2966
      refine W_nil ?_
      refine N_then ?_
      refine G_seq ?_
      refine G_region ?_
      refine W_run 1 [(0, .slice p2754 s2942.2.2.length c2755), (1, .func (.func 82) #[] #[.pointer (some ⟨b2768, 0, none⟩)]), (5, .int .i64 s2942.1), (6, .int .i64 s2942.2.1), (7, .pointer (some ⟨b2962, 0, none⟩)), (26, .func (.func 82) #[] #[.pointer (some ⟨b2768, 0, none⟩)])] w2965 (by kernel_rfl) ?_
      refine W_val (.agg #[.int .i64 y2960.Tick, .int .i64 y2960.Guest, .string y2960.Kind, .int .i64 y2960.Value]) w2965 (by kernel_rfl) (E_load (e := 26) (fr := (0, 0)) _ _ true 4 b2962 0 [.int .i64 y2960.Tick, .int .i64 y2960.Guest, .string y2960.Kind, .int .i64 y2960.Value] (.agg #[.int .i64 y2960.Tick, .int .i64 y2960.Guest, .string y2960.Kind, .int .i64 y2960.Value]) rfl (by kernel_rfl) (by kernel_rfl) (by kernel_rfl) (M2966.blk 1 (b := b2962) (o := .cells ⟨[.int .i64 y2960.Tick, .int .i64 y2960.Guest, .string y2960.Kind, .int .i64 y2960.Value]⟩ 26 (0, 0)) (by kernel_rfl))) ?_
      obtain ⟨r2967, hr2967, hm⟩ := gx_bind hm
      refine W_call 82 #[.agg #[.int .i64 y2960.Tick, .int .i64 y2960.Guest, .string y2960.Kind, .int .i64 y2960.Value], .pointer (some ⟨b2768, 0, none⟩)] (by kernel_rfl) (by kernel_rfl) ?_
      refine (c_i_eventsWhere_1__i_EventsWithin_1 w2965 y2960 x2758 b2759 (M2966.roX hb2760 nf2762) x2763 b2764 (M2966.roX hb2765 nf2767) b2768 (M2966.roX hb2769 nf2771) hr2967).mono ?_
      rintro e_ w2968 ⟨rfl, K2969⟩
      have M2970 := M2966.call0 K2969
      refine ⟨_, rfl, ?_⟩
      refine W_run 1 [(0, .slice p2754 s2942.2.2.length c2755), (1, .func (.func 82) #[] #[.pointer (some ⟨b2768, 0, none⟩)]), (5, .int .i64 s2942.1), (6, .int .i64 s2942.2.1), (7, .pointer (some ⟨b2962, 0, none⟩)), (29, .bool (!r2967))] w2968 (by kernel_rfl) ?_
      refine W_nil ?_
      refine N_then ?_
      obtain ⟨o2977, ho2978, hm2979⟩ := gx_bind hm
      refine G_meet (fun a w' => ∃ (sg2980 : Seg), ownS encEvent o2977.2 p2754 c2755 sg2980 ∧ o2977.2.length = x2752.length ∧ Mem (idsOf [sg2756]) w w' [sg2980] ∧ Sat Try.f81.ntmps [(0, .slice p2754 o2977.2.length c2755), (1, .func (.func 82) #[] #[.pointer (some ⟨b2768, 0, none⟩)]), (5, .int .i64 o2977.1), (6, .int .i64 s2942.2.1)] a) ?_ ?_
      · have hm := ho2978
        rcases gx_bif hm with ⟨hc2983, hm⟩ | ⟨hc2983, hm⟩
        · refine G_cond_t (b := (!r2967)) hc2983 (by kernel_rfl) ?_
          refine G_seq ?_
          refine G_region ?_
          refine W_run 2 [(0, .slice p2754 s2942.2.2.length c2755), (1, .func (.func 82) #[] #[.pointer (some ⟨b2768, 0, none⟩)]), (5, .int .i64 s2942.1), (6, .int .i64 s2942.2.1), (7, .pointer (some ⟨b2962, 0, none⟩)), (30, .slice p2754 s2942.2.2.length c2755), (31, .int .i64 s2942.1)] w2968 (by kernel_rfl) ?_
          refine W_val (.agg #[.int .i64 y2960.Tick, .int .i64 y2960.Guest, .string y2960.Kind, .int .i64 y2960.Value]) w2968 (by kernel_rfl) (E_load (e := 26) (fr := (0, 0)) _ _ true 4 b2962 0 [.int .i64 y2960.Tick, .int .i64 y2960.Guest, .string y2960.Kind, .int .i64 y2960.Value] (.agg #[.int .i64 y2960.Tick, .int .i64 y2960.Guest, .string y2960.Kind, .int .i64 y2960.Value]) rfl (by kernel_rfl) (by kernel_rfl) (by kernel_rfl) (M2970.blk 1 (b := b2962) (o := .cells ⟨[.int .i64 y2960.Tick, .int .i64 y2960.Guest, .string y2960.Kind, .int .i64 y2960.Value]⟩ 26 (0, 0)) (by kernel_rfl))) ?_
          obtain ⟨y2984, hy2984, hm⟩ := gx_bind hm
          refine W_val (elemP p2754 (s2942.1.toNat * 4)) w2968 (by kernel_rfl) (E_index (E := encEvent) _ _ _ s2942.2.2.length c2755 .i64 s2942.1 4 (y := y2984) rfl (by kernel_rfl) (by kernel_rfl) (by kernel_rfl) (ho2953.rd M2970 0 (by kernel_rfl)) rfl hy2984) ?_
          refine W_storeE (E := encEvent) _ _ _ true 4 s2942.1.toNat 0 (s2942.1.toNat * 4) y2984 y2960 (.agg #[.int .i64 y2960.Tick, .int .i64 y2960.Guest, .string y2960.Kind, .int .i64 y2960.Value]) 0 M2970 ho2953 (by kernel_rfl) (by kernel_rfl) rfl (by kernel_rfl) (by kernel_rfl) (by kernel_rfl) (by kernel_rfl) (by kernel_rfl) (by kernel_rfl) (by kernel_rfl) (gxIdx_spec hy2984).2 rfl ?_
          intro w2985 sg2987 ho2988 M2986
          refine W_conv 0 (.slice p2754 s2942.2.2.length c2755) (.slice p2754 (s2942.2.2.set s2942.1.toNat y2960).length c2755) (by kernel_rfl) (by rw [@List.length_set _ s2942.2.2 s2942.1.toNat y2960]) ?_
          refine W_conv 30 (.slice p2754 s2942.2.2.length c2755) (.slice p2754 (s2942.2.2.set s2942.1.toNat y2960).length c2755) (by kernel_rfl) (by rw [@List.length_set _ s2942.2.2 s2942.1.toNat y2960]) ?_
          refine W_nil ?_
          refine N_then ?_
          refine G_region ?_
          refine W_run 3 [(0, .slice p2754 (s2942.2.2.set s2942.1.toNat y2960).length c2755), (1, .func (.func 82) #[] #[.pointer (some ⟨b2768, 0, none⟩)]), (5, .int .i64 (w64 (s2942.1 + 1))), (6, .int .i64 s2942.2.1)] w2985 (by kernel_rfl) ?_
          refine W_nil ?_
          obtain rfl := Option.some.inj hm
          exact N_meet fun a ha => ⟨sg2987, ho2988, (List.length_set.trans hl2954), M2986.pick [0] (by kernel_rfl), ha.sub (by kernel_rfl)⟩
        refine G_cond_f (b := (!r2967)) hc2983 (by kernel_rfl) ?_
        refine G_skip ?_
        obtain rfl := Option.some.inj hm
        exact N_meet fun a ha => ⟨sg2952, ho2953, hl2954, M2970.pick [0] (by kernel_rfl), ha.sub (by kernel_rfl)⟩
      intro a2991 w2989 ⟨sg2980, ho2981, hl2982, M2990, hS2992⟩
      refine N_use hS2992 ?_
      have hm := hm2979
      refine N_block ?_
      refine N_then ?_
      refine G_region ?_
      refine W_run 3 [(0, .slice p2754 o2977.2.length c2755), (1, .func (.func 82) #[] #[.pointer (some ⟨b2768, 0, none⟩)]), (5, .int .i64 o2977.1), (6, .int .i64 (w64 (s2942.2.1 + 1)))] w2989 (by kernel_rfl) ?_
      refine W_nil ?_
      obtain rfl := Option.some.inj hm
      exact N_loop fun a ha => ⟨_, rfl, sg2980, ho2981, hl2982, M2990.pick [0] (by kernel_rfl), ha.sub (by kernel_rfl)⟩
    refine G_cond_f (b := (decide (s2942.2.1 < (s2942.2.2.length : Int)))) hc2959 (by kernel_rfl) ?_
    refine G_exit ?_
    refine N_then_exit ?_
    refine N_then_exit ?_
    refine N_block_eq ?_
    obtain rfl := Option.some.inj hm
    obtain rfl := hout2944 _ rfl
    exact N_meet fun a ha => ⟨sg2952, ho2953, hl2954, M2947.pick [0] (by kernel_rfl), ha.sub (by kernel_rfl)⟩
  intro a2993 w2994 ⟨sg2956, ho2957, hl2958, M2995, hS2996⟩
  refine N_use hS2996 ?_
  have hm := hmo2951
  refine N_then ?_
  refine G_seq ?_
  refine G_region ?_
  refine W_run 2 [(0, .slice p2754 out2949.2.length c2755), (5, .int .i64 out2949.1), (36, .slice p2754 out2949.2.length c2755), (37, .int .i64 out2949.1)] w2994 (by kernel_rfl) ?_
  obtain ⟨ys2997, hys2997, hm⟩ := gx_bind hm
  refine W_val (.slice (subP p2754 out2949.1.toNat c2755 4) ys2997.length (c2755 - out2949.1.toNat)) w2994 (by kernel_rfl) (E_slice (E := encEvent) _ _ _ _ out2949.2.length out2949.1 (out2949.2.length : Int) rfl (by kernel_rfl) (Or.inr ⟨_, rfl, by kernel_rfl⟩) (Or.inl ⟨rfl, rfl⟩) (by kernel_rfl) (ho2957.rd M2995 0 (by kernel_rfl)) rfl hys2997) ?_
  refine W_clear (E := encEvent) _ _ out2949.1 (out2949.2.length : Int) 40 [.int .i64 0, .int .i64 0, .string ByteArray.empty, .int .i64 0] ((⟨0, 0, ByteArray.empty, 0⟩ : Event) : Event) 0 M2995 ho2957 (by kernel_rfl) (by kernel_rfl) (by kernel_rfl) rfl (by kernel_rfl) hys2997 (by kernel_rfl) (by kernel_rfl) ?_
  intro w2999 sg3001 ho3002 M3000
  refine W_conv 0 (.slice p2754 out2949.2.length c2755) (.slice p2754 (gxClear out2949.2 out2949.1 (out2949.2.length : Int) ((⟨0, 0, ByteArray.empty, 0⟩ : Event) : Event)).length c2755) (by kernel_rfl) (by rw [gxClear_len ((⟨0, 0, ByteArray.empty, 0⟩ : Event) : Event) hys2997]) ?_
  refine W_conv 36 (.slice p2754 out2949.2.length c2755) (.slice p2754 (gxClear out2949.2 out2949.1 (out2949.2.length : Int) ((⟨0, 0, ByteArray.empty, 0⟩ : Event) : Event)).length c2755) (by kernel_rfl) (by rw [gxClear_len ((⟨0, 0, ByteArray.empty, 0⟩ : Event) : Event) hys2997]) ?_
  refine W_nil ?_
  refine N_then ?_
  refine G_seq ?_
  refine G_region ?_
  refine W_run 2 [(39, .slice p2754 (gxClear out2949.2 out2949.1 (out2949.2.length : Int) ((⟨0, 0, ByteArray.empty, 0⟩ : Event) : Event)).length c2755), (40, .int .i64 out2949.1)] w2999 (by kernel_rfl) ?_
  obtain ⟨ys3003, hys3003, hm⟩ := gx_bind hm
  refine W_val (.slice (subP p2754 (0 : Int).toNat c2755 4) ys3003.length (c2755 - (0 : Int).toNat)) w2999 (by kernel_rfl) (E_slice (E := encEvent) _ _ _ _ (gxClear out2949.2 out2949.1 (out2949.2.length : Int) ((⟨0, 0, ByteArray.empty, 0⟩ : Event) : Event)).length 0 out2949.1 rfl (by kernel_rfl) (Or.inl ⟨rfl, rfl⟩) (Or.inr ⟨_, rfl, by kernel_rfl⟩) (by kernel_rfl) (ho3002.rd M3000 0 (by kernel_rfl)) rfl hys3003) ?_
  refine W_run 1 [(4, .slice (subP p2754 (0 : Int).toNat c2755 4) ys3003.length (c2755 - (0 : Int).toNat))] w2999 (by kernel_rfl) ?_
  refine W_nil ?_
  refine N_then ?_
  refine G_ret ?_
  obtain rfl := Option.some.inj hm
  refine N_ret [.slice (subP p2754 (0 : Int).toNat c2755 4) ys3003.length (c2755 - (0 : Int).toNat)] (RVs_cons (RV_tmp (by kernel_rfl)) RVs_nil) ?_
  exact ⟨sg3001, (subP p2754 (0 : Int).toNat c2755 4), (c2755 - (0 : Int).toNat), rfl, ho3002, ((gxClear_len ((⟨0, 0, ByteArray.empty, 0⟩ : Event) : Event) hys2997).trans hl2958), ⟨0, out2949.1, rfl, rfl, hys3003⟩, M3000.pick [0] (by kernel_rfl)⟩
theorem c_i_eventsWhere__i_EventsWithin_1 (w : World) (x2715 : List Event) (p2717 : Option Addr) (c2718 : Nat) (h2719 : rdS encEvent w x2715 p2717 c2718) (x2720 : Int) (b2721 : Nat) (hb2722 : w.heap[b2721]? = some (.cells ⟨[.int .i64 x2720]⟩ 3 (0, 0))) (x2724 : Int) (b2725 : Nat) (hb2726 : w.heap[b2725]? = some (.cells ⟨[.int .i64 x2724]⟩ 3 (0, 0))) {r : (List Event)} (hm : M.i_eventsWhere__i_EventsWithin_1 x2715 x2720 x2724 = some r) :
    Calls Try.prog 62 #[.slice p2717 x2715.length c2718, .func (.func 66) #[] #[.pointer (some ⟨b2721, 0, none⟩), .pointer (some ⟨b2725, 0, none⟩)]] w fun e w' => ∃ (p2729 : Option Addr) (c2730 : Nat) (sg2731 : Seg), e = .returned (.slice p2729 r.length c2730) ∧ ownS encEvent r p2729 c2730 sg2731 ∧ Mem [] w w' [sg2731] := by
  unfold M.i_eventsWhere__i_EventsWithin_1 at hm
  refine C_enter Try.func62 rfl (by kernel_rfl) ?_
  have M0 := Mem.refl [] w
  refine G_seq ?_
  refine G_region ?_
  refine W_new (fun b => .pointer (some ⟨b, 0, none⟩)) (.cells ⟨[.func (.func 66) #[] #[.pointer (some ⟨b2721, 0, none⟩), .pointer (some ⟨b2725, 0, none⟩)]]⟩ 25 (0, 0)) M0 rfl (by kernel_rfl) (by kernel_rfl) ?_
  intro b2733 w2734 M2735
  refine W_run 1 [(0, .slice p2717 x2715.length c2718), (3, .pointer (some ⟨b2733, 0, none⟩))] w2734 (by kernel_rfl) ?_
  refine W_nil ?_
  refine N_then ?_
  refine G_seq ?_
  refine G_region ?_
  refine W_lit (E := encEvent) ([] : List Event) 0 [] 26 M2735 (by kernel_rfl) (by kernel_rfl) (by kernel_rfl) (by kernel_rfl) (by kernel_rfl) ?_
  intro p2737 c2738 sg2739 w2740 ho2741 M2742
  refine W_run 1 [(3, .pointer (some ⟨b2733, 0, none⟩)), (5, .slice p2737 ([] : List Event).length c2738), (6, .slice p2717 x2715.length c2718)] w2740 (by kernel_rfl) ?_
  obtain ⟨ap2744, hap2744, hm⟩ := gx_bind hm
  refine W_append (E := encEvent) _ _ _ 40 [.int .i64 0, .int .i64 0, .string ByteArray.empty, .int .i64 0] 1 c2718 M2742 ho2741 (by kernel_rfl) (by kernel_rfl) (by kernel_rfl) rfl (by kernel_rfl) (by kernel_rfl) (by kernel_rfl) (by kernel_rfl) (by kernel_rfl) (by kernel_rfl) (h2719.mem0 M2742) hap2744 ?_
  intro p2745 c2746 sg2747 w2748 ho2749 M2750
  refine W_run 1 [(7, .slice p2745 ap2744.length c2746), (8, .func (.func 82) #[] #[.pointer (some ⟨b2733, 0, none⟩)])] w2748 (by kernel_rfl) ?_
  obtain ⟨r3005, hr3005, hm⟩ := gx_bind hm
  refine W_call 81 #[.slice p2745 ap2744.length c2746, .func (.func 82) #[] #[.pointer (some ⟨b2733, 0, none⟩)]] (by kernel_rfl) (by kernel_rfl) ?_
  refine (c_slices_DeleteFunc_81__i_eventsWhere_1__i_EventsWithin_1 w2748 ap2744 p2745 c2746 sg2747 ho2749 x2720 b2721 (M2750.ro hb2722) x2724 b2725 (M2750.ro hb2726) b2733 (M2750.blk 0 (b := b2733) (o := .cells ⟨[.func (.func 66) #[] #[.pointer (some ⟨b2721, 0, none⟩), .pointer (some ⟨b2725, 0, none⟩)]]⟩ 25 (0, 0)) (by kernel_rfl)) (M2750.hasPick [1]) (M2750.nodupPick [1] (by kernel_rfl)) (blkOld M2750 hb2722 (by simp) [1]) (blkOld M2750 hb2726 (by simp) [1]) (blkApart M2750 0 (o := .cells ⟨[.func (.func 66) #[] #[.pointer (some ⟨b2721, 0, none⟩), .pointer (some ⟨b2725, 0, none⟩)]]⟩ 25 (0, 0)) (by kernel_rfl) [1] (by kernel_rfl)) hr3005).mono ?_
  rintro e_ w3016 ⟨sg3006, p3014, c3015, rfl, ho3007, hl3008, hw3013, K3017⟩
  obtain ⟨l3010, h3011, rfl, rfl, hv3012⟩ := hw3013
  have M3018 := M2750.callF' [1] [0] (by kernel_rfl) K3017
  refine ⟨_, rfl, ?_⟩
  refine W_conv 7 (.slice p2745 ap2744.length c2746) (.slice p2745 r3005.2.length c2746) (by kernel_rfl) (by first | rw [hl3008] | rw [hl3008]) ?_
  refine W_run 1 [(4, .slice (subP p2745 l3010.toNat c2746 4) r3005.1.length (c2746 - l3010.toNat))] w3016 (by kernel_rfl) ?_
  refine W_nil ?_
  refine N_then ?_
  refine G_ret ?_
  obtain rfl := Option.some.inj hm
  refine N_ret [.slice (subP p2745 l3010.toNat c2746 4) r3005.1.length (c2746 - l3010.toNat)] (RVs_cons (RV_tmp (by kernel_rfl)) RVs_nil) ?_
  exact ⟨(subP p2745 l3010.toNat c2746 4), (c2746 - l3010.toNat), sg3006, rfl, (ho3007.partM hv3012), M3018.pick [1] (by kernel_rfl)⟩
theorem c_i_EventsWithin (w : World) (x2656 : List Event) (p2658 : Option Addr) (c2659 : Nat) (h2660 : rdS encEvent w x2656 p2658 c2659) (x2661 : Int) (x2662 : Int) {r : (List Event) × Bool} (hm : M.i_EventsWithin x2656 x2661 x2662 = some r) :
    Calls Try.prog 31 #[.slice p2658 x2656.length c2659, .int .i64 x2661, .int .i64 x2662] w fun e w' => ∃ (p2664 : Option Addr) (c2665 : Nat) (sg2666 : Seg), e = .returned (.tuple #[.slice p2664 r.1.length c2665, .bool r.2]) ∧ ownS encEvent r.1 p2664 c2665 sg2666 ∧ Mem [] w w' [sg2666] := by
  unfold M.i_EventsWithin at hm
  refine C_enter Try.func31 rfl (by kernel_rfl) ?_
  have M0 := Mem.refl [] w
  refine G_seq ?_
  refine G_region ?_
  refine W_new (fun b => .pointer (some ⟨b, 0, none⟩)) (.cells ⟨[.int .i64 x2661]⟩ 3 (0, 0)) M0 rfl (by kernel_rfl) (by kernel_rfl) ?_
  intro b2668 w2669 M2670
  refine W_new (fun b => .pointer (some ⟨b, 0, none⟩)) (.cells ⟨[.int .i64 x2662]⟩ 3 (0, 0)) M2670 rfl (by kernel_rfl) (by kernel_rfl) ?_
  intro b2672 w2673 M2674
  refine W_run 2 [(0, .slice p2658 x2656.length c2659), (4, .pointer (some ⟨b2668, 0, none⟩)), (5, .pointer (some ⟨b2672, 0, none⟩))] w2673 (by kernel_rfl) ?_
  refine W_nil ?_
  refine N_then ?_
  refine G_seq ?_
  refine G_seq ?_
  obtain ⟨o2691, ho2692, hm2693⟩ := gx_bind hm
  refine G_meet (fun a w' => Mem [] w w' [[(b2668, .cells ⟨[.int .i64 x2661]⟩ 3 (0, 0))], [(b2672, .cells ⟨[.int .i64 x2662]⟩ 3 (0, 0))]] ∧ Sat Try.f31.ntmps [(0, .slice p2658 x2656.length c2659), (4, .pointer (some ⟨b2668, 0, none⟩)), (5, .pointer (some ⟨b2672, 0, none⟩)), (25, .bool o2691)] a) ?_ ?_
  · have hm := ho2692
    refine G_region ?_
    refine W_run 1 [(0, .slice p2658 x2656.length c2659), (4, .pointer (some ⟨b2668, 0, none⟩)), (5, .pointer (some ⟨b2672, 0, none⟩)), (8, .slice p2658 x2656.length c2659)] w2673 (by kernel_rfl) ?_
    obtain ⟨r2694, hr2694, hm⟩ := gx_bind hm
    refine W_call 20 #[.slice p2658 x2656.length c2659] (by kernel_rfl) (by kernel_rfl) ?_
    refine (c_i_IsRecord w2673 x2656 p2658 c2659 (h2660.mem0 M2674) hr2694).mono ?_
    rintro e_ w2695 ⟨rfl, K2696⟩
    have M2697 := M2674.call0 K2696
    refine ⟨_, rfl, ?_⟩
    refine W_run 2 [(0, .slice p2658 x2656.length c2659), (4, .pointer (some ⟨b2668, 0, none⟩)), (5, .pointer (some ⟨b2672, 0, none⟩)), (11, .bool (!r2694))] w2695 (by kernel_rfl) ?_
    rcases gx_bif hm with ⟨hc2698, hm⟩ | ⟨hc2698, hm⟩
    · refine W_known 11 true (by kernel_rfl) hc2698 ?_
      refine W_run 14 [(0, .slice p2658 x2656.length c2659), (4, .pointer (some ⟨b2668, 0, none⟩)), (5, .pointer (some ⟨b2672, 0, none⟩)), (25, .bool true)] w2695 (by kernel_rfl) ?_
      refine W_nil ?_
      obtain rfl := Option.some.inj hm
      exact N_meet fun a ha => ⟨M2697.pick [0, 1] (by kernel_rfl), ha.sub (by kernel_rfl)⟩
    refine W_known 11 false (by kernel_rfl) hc2698 ?_
    refine W_val (.int .i64 x2661) w2695 (by kernel_rfl) (E_load (e := 3) (fr := (0, 0)) _ _ false 1 b2668 0 [.int .i64 x2661] (.int .i64 x2661) rfl (by kernel_rfl) (by kernel_rfl) (by kernel_rfl) (M2697.blk 0 (b := b2668) (o := .cells ⟨[.int .i64 x2661]⟩ 3 (0, 0)) (by kernel_rfl))) ?_
    obtain ⟨r2699, hr2699, hm⟩ := gx_bind hm
    refine W_call 52 #[.int .i64 x2661] (by kernel_rfl) (by kernel_rfl) ?_
    refine (c_i_isTick w2695 x2661 hr2699).mono ?_
    rintro e_ w2700 ⟨rfl, K2701⟩
    have M2702 := M2697.call0 K2701
    refine ⟨_, rfl, ?_⟩
    refine W_run 3 [(0, .slice p2658 x2656.length c2659), (4, .pointer (some ⟨b2668, 0, none⟩)), (5, .pointer (some ⟨b2672, 0, none⟩)), (16, .bool (!r2699))] w2700 (by kernel_rfl) ?_
    rcases gx_bif hm with ⟨hc2703, hm⟩ | ⟨hc2703, hm⟩
    · refine W_known 16 true (by kernel_rfl) hc2703 ?_
      refine W_run 9 [(0, .slice p2658 x2656.length c2659), (4, .pointer (some ⟨b2668, 0, none⟩)), (5, .pointer (some ⟨b2672, 0, none⟩)), (25, .bool true)] w2700 (by kernel_rfl) ?_
      refine W_nil ?_
      obtain rfl := Option.some.inj hm
      exact N_meet fun a ha => ⟨M2702.pick [0, 1] (by kernel_rfl), ha.sub (by kernel_rfl)⟩
    refine W_known 16 false (by kernel_rfl) hc2703 ?_
    refine W_val (.int .i64 x2662) w2700 (by kernel_rfl) (E_load (e := 3) (fr := (0, 0)) _ _ false 1 b2672 0 [.int .i64 x2662] (.int .i64 x2662) rfl (by kernel_rfl) (by kernel_rfl) (by kernel_rfl) (M2702.blk 1 (b := b2672) (o := .cells ⟨[.int .i64 x2662]⟩ 3 (0, 0)) (by kernel_rfl))) ?_
    obtain ⟨r2704, hr2704, hm⟩ := gx_bind hm
    refine W_call 52 #[.int .i64 x2662] (by kernel_rfl) (by kernel_rfl) ?_
    refine (c_i_isTick w2700 x2662 hr2704).mono ?_
    rintro e_ w2705 ⟨rfl, K2706⟩
    have M2707 := M2702.call0 K2706
    refine ⟨_, rfl, ?_⟩
    refine W_run 3 [(0, .slice p2658 x2656.length c2659), (4, .pointer (some ⟨b2668, 0, none⟩)), (5, .pointer (some ⟨b2672, 0, none⟩)), (21, .bool (!r2704))] w2705 (by kernel_rfl) ?_
    rcases gx_bif hm with ⟨hc2708, hm⟩ | ⟨hc2708, hm⟩
    · refine W_known 21 true (by kernel_rfl) hc2708 ?_
      refine W_run 4 [(0, .slice p2658 x2656.length c2659), (4, .pointer (some ⟨b2668, 0, none⟩)), (5, .pointer (some ⟨b2672, 0, none⟩)), (25, .bool true)] w2705 (by kernel_rfl) ?_
      refine W_nil ?_
      obtain rfl := Option.some.inj hm
      exact N_meet fun a ha => ⟨M2707.pick [0, 1] (by kernel_rfl), ha.sub (by kernel_rfl)⟩
    refine W_known 21 false (by kernel_rfl) hc2708 ?_
    refine W_val (.int .i64 x2661) w2705 (by kernel_rfl) (E_load (e := 3) (fr := (0, 0)) _ _ false 1 b2668 0 [.int .i64 x2661] (.int .i64 x2661) rfl (by kernel_rfl) (by kernel_rfl) (by kernel_rfl) (M2707.blk 0 (b := b2668) (o := .cells ⟨[.int .i64 x2661]⟩ 3 (0, 0)) (by kernel_rfl))) ?_
    refine W_val (.int .i64 x2662) w2705 (by kernel_rfl) (E_load (e := 3) (fr := (0, 0)) _ _ false 1 b2672 0 [.int .i64 x2662] (.int .i64 x2662) rfl (by kernel_rfl) (by kernel_rfl) (by kernel_rfl) (M2707.blk 1 (b := b2672) (o := .cells ⟨[.int .i64 x2662]⟩ 3 (0, 0)) (by kernel_rfl))) ?_
    refine W_run 2 [(0, .slice p2658 x2656.length c2659), (4, .pointer (some ⟨b2668, 0, none⟩)), (5, .pointer (some ⟨b2672, 0, none⟩)), (25, .bool (decide (x2661 > x2662)))] w2705 (by kernel_rfl) ?_
    refine W_nil ?_
    obtain rfl := Option.some.inj hm
    exact N_meet fun a ha => ⟨M2707.pick [0, 1] (by kernel_rfl), ha.sub (by kernel_rfl)⟩
  intro a2711 w2709 ⟨M2710, hS2712⟩
  refine N_use hS2712 ?_
  have hm := hm2693
  refine N_then ?_
  rcases gx_bif hm with ⟨hc2713, hm⟩ | ⟨hc2713, hm⟩
  · refine G_cond_t (b := o2691) hc2713 (by kernel_rfl) ?_
    refine G_seq ?_
    refine G_region ?_
    refine W_run 2 [(6, .slice none 0 0), (7, .bool false)] w2709 (by kernel_rfl) ?_
    refine W_nil ?_
    refine N_then ?_
    refine G_ret ?_
    refine N_then_ret ?_
    obtain rfl := Option.some.inj hm
    refine N_ret [.slice none 0 0, .bool false] (RVs_cons (RV_tmp (by kernel_rfl)) (RVs_cons (RV_tmp (by kernel_rfl)) RVs_nil)) ?_
    exact ⟨none, 0, [], rfl, ownS_nil, M2710.pick [100000] (by kernel_rfl)⟩
  refine G_cond_f (b := o2691) hc2713 (by kernel_rfl) ?_
  refine G_skip ?_
  refine N_then ?_
  refine G_seq ?_
  refine G_region ?_
  refine W_run 2 [(26, .slice p2658 x2656.length c2659), (27, .func (.func 66) #[] #[.pointer (some ⟨b2668, 0, none⟩), .pointer (some ⟨b2672, 0, none⟩)])] w2709 (by kernel_rfl) ?_
  obtain ⟨r3019, hr3019, hm⟩ := gx_bind hm
  refine W_call 62 #[.slice p2658 x2656.length c2659, .func (.func 66) #[] #[.pointer (some ⟨b2668, 0, none⟩), .pointer (some ⟨b2672, 0, none⟩)]] (by kernel_rfl) (by kernel_rfl) ?_
  refine (c_i_eventsWhere__i_EventsWithin_1 w2709 x2656 p2658 c2659 (h2660.mem0 M2710) x2661 b2668 (M2710.blk 0 (b := b2668) (o := .cells ⟨[.int .i64 x2661]⟩ 3 (0, 0)) (by kernel_rfl)) x2662 b2672 (M2710.blk 1 (b := b2672) (o := .cells ⟨[.int .i64 x2662]⟩ 3 (0, 0)) (by kernel_rfl)) hr3019).mono ?_
  rintro e_ w3025 ⟨p3021, c3022, sg3023, rfl, ho3024, K3026⟩
  have M3027 := M2710.call K3026
  refine ⟨_, rfl, ?_⟩
  refine W_run 2 [(6, .slice p3021 r3019.length c3022), (7, .bool true)] w3025 (by kernel_rfl) ?_
  refine W_nil ?_
  refine N_then ?_
  refine G_ret ?_
  obtain rfl := Option.some.inj hm
  refine N_ret [.slice p3021 r3019.length c3022, .bool true] (RVs_cons (RV_tmp (by kernel_rfl)) (RVs_cons (RV_tmp (by kernel_rfl)) RVs_nil)) ?_
  exact ⟨p3021, c3022, sg3023, rfl, ho3024, M3027.pick [2] (by kernel_rfl)⟩
theorem c_l_FnExactEventsWithin (w : World) (x2374 : List Event) (p2376 : Option Addr) (c2377 : Nat) (h2378 : rdS encEvent w x2374 p2376 c2377) (x2379 : Int) (x2380 : Int) {r : Bool} (hm : M.l_FnExactEventsWithin x2374 x2379 x2380 = some r) :
    Calls Try.prog 8 #[.slice p2376 x2374.length c2377, .int .i64 x2379, .int .i64 x2380] w fun e w' => e = .returned (.bool r) ∧ Mem [] w w' [] := by
  unfold M.l_FnExactEventsWithin at hm
  refine C_enter Try.func8 rfl (by kernel_rfl) ?_
  have M0 := Mem.refl [] w
  refine G_seq ?_
  refine G_region ?_
  refine W_run 1 [(0, .slice p2376 x2374.length c2377), (1, .int .i64 x2379), (2, .int .i64 x2380)] w (by kernel_rfl) ?_
  refine W_nil ?_
  refine N_then ?_
  refine G_seq ?_
  refine G_region ?_
  refine W_run 1 [(0, .slice p2376 x2374.length c2377), (1, .int .i64 x2379), (2, .int .i64 x2380), (7, .int .i64 1048576)] w (by kernel_rfl) ?_
  refine W_nil ?_
  refine N_then ?_
  refine G_seq ?_
  refine G_region ?_
  refine W_run 2 [(0, .slice p2376 x2374.length c2377), (1, .int .i64 x2379), (2, .int .i64 x2380), (7, .int .i64 1048576), (18, .slice p2376 x2374.length c2377), (19, .int .i64 1048576)] w (by kernel_rfl) ?_
  obtain ⟨r2381, hr2381, hm⟩ := gx_bind hm
  refine W_call 17 #[.slice p2376 x2374.length c2377, .int .i64 1048576] (by kernel_rfl) (by kernel_rfl) ?_
  refine (c_l_szEventS w x2374 p2376 c2377 (h2378.mem0 M0) 1048576 hr2381).mono ?_
  rintro e_ w2382 ⟨rfl, K2383⟩
  have M2384 := M0.call0 K2383
  refine ⟨_, rfl, ?_⟩
  refine W_run 1 [(0, .slice p2376 x2374.length c2377), (1, .int .i64 x2379), (2, .int .i64 x2380), (7, .int .i64 r2381)] w2382 (by kernel_rfl) ?_
  refine W_nil ?_
  refine N_then ?_
  refine G_seq ?_
  refine G_seq ?_
  refine G_region ?_
  refine W_run 2 [(0, .slice p2376 x2374.length c2377), (1, .int .i64 x2379), (2, .int .i64 x2380), (22, .bool (decide (r2381 < 0)))] w2382 (by kernel_rfl) ?_
  refine W_nil ?_
  refine N_then ?_
  rcases gx_bif hm with ⟨hc2385, hm⟩ | ⟨hc2385, hm⟩
  · refine G_cond_t (b := (decide (r2381 < 0))) hc2385 (by kernel_rfl) ?_
    refine G_seq ?_
    refine G_region ?_
    refine W_run 1 [(6, .bool true)] w2382 (by kernel_rfl) ?_
    refine W_nil ?_
    refine N_then ?_
    refine G_ret ?_
    refine N_then_ret ?_
    obtain rfl := Option.some.inj hm
    refine N_ret [.bool true] (RVs_cons (RV_tmp (by kernel_rfl)) RVs_nil) ?_
    exact ⟨rfl, M2384.pick [] (by kernel_rfl)⟩
  refine G_cond_f (b := (decide (r2381 < 0))) hc2385 (by kernel_rfl) ?_
  refine G_skip ?_
  refine N_then ?_
  refine G_seq ?_
  refine G_region ?_
  refine W_run 1 [(0, .slice p2376 x2374.length c2377), (1, .int .i64 x2379), (2, .int .i64 x2380), (24, .slice p2376 x2374.length c2377)] w2382 (by kernel_rfl) ?_
  obtain ⟨r2386, hr2386, hm⟩ := gx_bind hm
  refine W_call 19 #[.slice p2376 x2374.length c2377] (by kernel_rfl) (by kernel_rfl) ?_
  refine (c_l_toEventS w2382 x2374 p2376 c2377 (h2378.mem0 M2384) hr2386).mono ?_
  rintro e_ w2392 ⟨p2388, c2389, sg2390, rfl, ho2391, K2393⟩
  have M2394 := M2384.call K2393
  refine ⟨_, rfl, ?_⟩
  refine W_run 2 [(0, .slice p2376 x2374.length c2377), (1, .int .i64 x2379), (2, .int .i64 x2380), (25, .slice p2388 r2386.length c2389), (26, .int .i64 x2379), (27, .int .i64 x2380)] w2392 (by kernel_rfl) ?_
  obtain ⟨r2638, hr2638, hm⟩ := gx_bind hm
  refine W_call 30 #[.slice p2388 r2386.length c2389, .int .i64 x2379, .int .i64 x2380] (by kernel_rfl) (by kernel_rfl) ?_
  refine (c_s_EventsWithin w2392 r2386 p2388 c2389 (ho2391.rd M2394 0 (by kernel_rfl)) x2379 x2380 hr2638).mono ?_
  rintro e_ w2644 ⟨p2640, c2641, sg2642, rfl, ho2643, K2645⟩
  have M2646 := M2394.call K2645
  refine ⟨_, rfl, ?_⟩
  refine W_run 5 [(0, .slice p2376 x2374.length c2377), (1, .int .i64 x2379), (2, .int .i64 x2380), (8, .slice p2640 r2638.1.length c2641), (9, .bool r2638.2)] w2644 (by kernel_rfl) ?_
  refine W_nil ?_
  refine N_then ?_
  refine G_seq ?_
  refine G_region ?_
  refine W_run 1 [(0, .slice p2376 x2374.length c2377), (1, .int .i64 x2379), (2, .int .i64 x2380), (8, .slice p2640 r2638.1.length c2641), (9, .bool r2638.2), (31, .slice p2376 x2374.length c2377)] w2644 (by kernel_rfl) ?_
  obtain ⟨r2647, hr2647, hm⟩ := gx_bind hm
  refine W_call 19 #[.slice p2376 x2374.length c2377] (by kernel_rfl) (by kernel_rfl) ?_
  refine (c_l_toEventS w2644 x2374 p2376 c2377 (h2378.mem0 M2646) hr2647).mono ?_
  rintro e_ w2653 ⟨p2649, c2650, sg2651, rfl, ho2652, K2654⟩
  have M2655 := M2646.call K2654
  refine ⟨_, rfl, ?_⟩
  refine W_run 1 [(0, .slice p2376 x2374.length c2377), (1, .int .i64 x2379), (2, .int .i64 x2380), (8, .slice p2640 r2638.1.length c2641), (9, .bool r2638.2), (10, .slice p2649 r2647.length c2650)] w2653 (by kernel_rfl) ?_
  refine W_nil ?_
  refine N_then ?_
  refine G_seq ?_
  refine G_region ?_
  refine W_run 3 [(0, .slice p2376 x2374.length c2377), (1, .int .i64 x2379), (2, .int .i64 x2380), (8, .slice p2640 r2638.1.length c2641), (9, .bool r2638.2), (10, .slice p2649 r2647.length c2650), (34, .slice p2649 r2647.length c2650), (35, .int .i64 x2379), (36, .int .i64 x2380)] w2653 (by kernel_rfl) ?_
  obtain ⟨r3028, hr3028, hm⟩ := gx_bind hm
  refine W_call 31 #[.slice p2649 r2647.length c2650, .int .i64 x2379, .int .i64 x2380] (by kernel_rfl) (by kernel_rfl) ?_
  refine (c_i_EventsWithin w2653 r2647 p2649 c2650 (ho2652.rd M2655 2 (by kernel_rfl)) x2379 x2380 hr3028).mono ?_
  rintro e_ w3034 ⟨p3030, c3031, sg3032, rfl, ho3033, K3035⟩
  have M3036 := M2655.call K3035
  refine ⟨_, rfl, ?_⟩
  refine W_run 5 [(0, .slice p2376 x2374.length c2377), (1, .int .i64 x2379), (2, .int .i64 x2380), (8, .slice p2640 r2638.1.length c2641), (9, .bool r2638.2), (10, .slice p2649 r2647.length c2650), (11, .slice p3030 r3028.1.length c3031), (12, .bool r3028.2)] w3034 (by kernel_rfl) ?_
  refine W_nil ?_
  refine N_then ?_
  refine G_seq ?_
  refine G_seq ?_
  obtain ⟨o3042, ho3043, hm3044⟩ := gx_bind hm
  refine G_meet (fun a w' => Mem [] w w' [sg2642, sg2651, sg3032] ∧ Sat Try.f8.ntmps [(0, .slice p2376 x2374.length c2377), (1, .int .i64 x2379), (2, .int .i64 x2380), (8, .slice p2640 r2638.1.length c2641), (9, .bool r2638.2), (10, .slice p2649 r2647.length c2650), (11, .slice p3030 r3028.1.length c3031), (12, .bool r3028.2), (48, .bool o3042)] a) ?_ ?_
  · have hm := ho3043
    refine G_region ?_
    refine W_run 2 [(0, .slice p2376 x2374.length c2377), (1, .int .i64 x2379), (2, .int .i64 x2380), (8, .slice p2640 r2638.1.length c2641), (9, .bool r2638.2), (10, .slice p2649 r2647.length c2650), (11, .slice p3030 r3028.1.length c3031), (12, .bool r3028.2), (40, .slice p3030 r3028.1.length c3031), (41, .slice p2640 r2638.1.length c2641)] w3034 (by kernel_rfl) ?_
    obtain ⟨r3045, hr3045, hm⟩ := gx_bind hm
    refine W_call 21 #[.slice p3030 r3028.1.length c3031, .slice p2640 r2638.1.length c2641] (by kernel_rfl) (by kernel_rfl) ?_
    refine (c_l_eqEventS w3034 r3028.1 p3030 c3031 (ho3033.rd M3036 3 (by kernel_rfl)) r2638.1 p2640 c2641 (ho2643.rd M3036 1 (by kernel_rfl)) hr3045).mono ?_
    rintro e_ w3046 ⟨rfl, K3047⟩
    have M3048 := M3036.call0 K3047
    refine ⟨_, rfl, ?_⟩
    refine W_run 2 [(0, .slice p2376 x2374.length c2377), (1, .int .i64 x2379), (2, .int .i64 x2380), (8, .slice p2640 r2638.1.length c2641), (9, .bool r2638.2), (10, .slice p2649 r2647.length c2650), (11, .slice p3030 r3028.1.length c3031), (12, .bool r3028.2), (44, .bool (!r3045))] w3046 (by kernel_rfl) ?_
    rcases gx_bif hm with ⟨hc3049, hm⟩ | ⟨hc3049, hm⟩
    · refine W_known 44 true (by kernel_rfl) hc3049 ?_
      refine W_run 4 [(0, .slice p2376 x2374.length c2377), (1, .int .i64 x2379), (2, .int .i64 x2380), (8, .slice p2640 r2638.1.length c2641), (9, .bool r2638.2), (10, .slice p2649 r2647.length c2650), (11, .slice p3030 r3028.1.length c3031), (12, .bool r3028.2), (48, .bool true)] w3046 (by kernel_rfl) ?_
      refine W_nil ?_
      obtain rfl := Option.some.inj hm
      exact N_meet fun a ha => ⟨M3048.pick [1, 2, 3] (by kernel_rfl), ha.sub (by kernel_rfl)⟩
    refine W_known 44 false (by kernel_rfl) hc3049 ?_
    refine W_run 4 [(0, .slice p2376 x2374.length c2377), (1, .int .i64 x2379), (2, .int .i64 x2380), (8, .slice p2640 r2638.1.length c2641), (9, .bool r2638.2), (10, .slice p2649 r2647.length c2650), (11, .slice p3030 r3028.1.length c3031), (12, .bool r3028.2), (48, .bool (!(r3028.2 == r2638.2)))] w3046 (by kernel_rfl) ?_
    refine W_nil ?_
    obtain rfl := Option.some.inj hm
    exact N_meet fun a ha => ⟨M3048.pick [1, 2, 3] (by kernel_rfl), ha.sub (by kernel_rfl)⟩
  intro a3052 w3050 ⟨M3051, hS3053⟩
  refine N_use hS3053 ?_
  have hm := hm3044
  refine N_then ?_
  rcases gx_bif hm with ⟨hc3054, hm⟩ | ⟨hc3054, hm⟩
  · refine G_cond_t (b := o3042) hc3054 (by kernel_rfl) ?_
    refine G_seq ?_
    refine G_region ?_
    refine W_run 1 [(6, .bool false)] w3050 (by kernel_rfl) ?_
    refine W_nil ?_
    refine N_then ?_
    refine G_ret ?_
    refine N_then_ret ?_
    obtain rfl := Option.some.inj hm
    refine N_ret [.bool false] (RVs_cons (RV_tmp (by kernel_rfl)) RVs_nil) ?_
    exact ⟨rfl, M3051.pick [] (by kernel_rfl)⟩
  refine G_cond_f (b := o3042) hc3054 (by kernel_rfl) ?_
  refine G_skip ?_
  refine N_then ?_
  refine G_seq ?_
  refine G_seq ?_
  refine G_region ?_
  refine W_run 2 [(0, .slice p2376 x2374.length c2377), (1, .int .i64 x2379), (2, .int .i64 x2380), (8, .slice p2640 r2638.1.length c2641), (9, .bool r2638.2), (10, .slice p2649 r2647.length c2650), (11, .slice p3030 r3028.1.length c3031), (12, .bool r3028.2), (49, .slice p2649 r2647.length c2650), (50, .slice p2376 x2374.length c2377)] w3050 (by kernel_rfl) ?_
  obtain ⟨r3055, hr3055, hm⟩ := gx_bind hm
  refine W_call 19 #[.slice p2376 x2374.length c2377] (by kernel_rfl) (by kernel_rfl) ?_
  refine (c_l_toEventS w3050 x2374 p2376 c2377 (h2378.mem0 M3051) hr3055).mono ?_
  rintro e_ w3061 ⟨p3057, c3058, sg3059, rfl, ho3060, K3062⟩
  have M3063 := M3051.call K3062
  refine ⟨_, rfl, ?_⟩
  obtain ⟨r3064, hr3064, hm⟩ := gx_bind hm
  refine W_call 21 #[.slice p2649 r2647.length c2650, .slice p3057 r3055.length c3058] (by kernel_rfl) (by kernel_rfl) ?_
  refine (c_l_eqEventS w3061 r2647 p2649 c2650 (ho2652.rd M3063 1 (by kernel_rfl)) r3055 p3057 c3058 (ho3060.rd M3063 3 (by kernel_rfl)) hr3064).mono ?_
  rintro e_ w3065 ⟨rfl, K3066⟩
  have M3067 := M3063.call0 K3066
  refine ⟨_, rfl, ?_⟩
  refine W_run 1 [(0, .slice p2376 x2374.length c2377), (1, .int .i64 x2379), (2, .int .i64 x2380), (8, .slice p2640 r2638.1.length c2641), (9, .bool r2638.2), (10, .slice p2649 r2647.length c2650), (11, .slice p3030 r3028.1.length c3031), (12, .bool r3028.2), (53, .bool (!r3064))] w3065 (by kernel_rfl) ?_
  refine W_nil ?_
  refine N_then ?_
  rcases gx_bif hm with ⟨hc3068, hm⟩ | ⟨hc3068, hm⟩
  · refine G_cond_t (b := (!r3064)) hc3068 (by kernel_rfl) ?_
    refine G_seq ?_
    refine G_region ?_
    refine W_run 1 [(6, .bool false)] w3065 (by kernel_rfl) ?_
    refine W_nil ?_
    refine N_then ?_
    refine G_ret ?_
    refine N_then_ret ?_
    obtain rfl := Option.some.inj hm
    refine N_ret [.bool false] (RVs_cons (RV_tmp (by kernel_rfl)) RVs_nil) ?_
    exact ⟨rfl, M3067.pick [] (by kernel_rfl)⟩
  refine G_cond_f (b := (!r3064)) hc3068 (by kernel_rfl) ?_
  refine G_skip ?_
  refine N_then ?_
  refine G_seq ?_
  refine G_region ?_
  refine W_run 1 [(0, .slice p2376 x2374.length c2377), (1, .int .i64 x2379), (2, .int .i64 x2380), (8, .slice p2640 r2638.1.length c2641), (9, .bool r2638.2), (10, .slice p2649 r2647.length c2650), (11, .slice p3030 r3028.1.length c3031), (12, .bool r3028.2), (13, .int .i64 1)] w3065 (by kernel_rfl) ?_
  refine W_nil ?_
  refine N_then ?_
  refine G_seq ?_
  refine G_region ?_
  refine W_run 2 [(0, .slice p2376 x2374.length c2377), (1, .int .i64 x2379), (2, .int .i64 x2380), (8, .slice p2640 r2638.1.length c2641), (9, .bool r2638.2), (11, .slice p3030 r3028.1.length c3031), (12, .bool r3028.2), (13, .int .i64 1), (54, .slice p2649 r2647.length c2650), (55, .int .i64 1)] w3065 (by kernel_rfl) ?_
  obtain ⟨r3069, hr3069, hm⟩ := gx_bind hm
  refine W_call 28 #[.slice p2649 r2647.length c2650, .int .i64 1] (by kernel_rfl) (by kernel_rfl) ?_
  refine (c_l_markEventS w3065 r2647 p2649 c2650 sg2651 ho2652 1 (M3067.hasPick [1]) (M3067.nodupPick [1] (by kernel_rfl)) hr3069).mono ?_
  rintro e_ w3073 ⟨sg3070, rfl, ho3071, hl3072, K3074⟩
  have M3075 := M3067.callF' [1] [0, 2, 3] (by kernel_rfl) K3074
  refine ⟨_, rfl, ?_⟩
  refine W_conv 54 (.slice p2649 r2647.length c2650) (.slice p2649 r3069.2.length c2650) (by kernel_rfl) (by first | rw [hl3072] | rw [hl3072]) ?_
  refine W_run 1 [(0, .slice p2376 x2374.length c2377), (1, .int .i64 x2379), (2, .int .i64 x2380), (8, .slice p2640 r2638.1.length c2641), (9, .bool r2638.2), (11, .slice p3030 r3028.1.length c3031), (12, .bool r3028.2), (13, .int .i64 r3069.1)] w3073 (by kernel_rfl) ?_
  refine W_nil ?_
  refine N_then ?_
  refine G_seq ?_
  refine G_seq ?_
  obtain ⟨o3082, ho3083, hm3084⟩ := gx_bind hm
  refine G_meet (fun a w' => Mem [] w w' [sg2642, sg3032] ∧ Sat Try.f8.ntmps [(0, .slice p2376 x2374.length c2377), (1, .int .i64 x2379), (2, .int .i64 x2380), (8, .slice p2640 r2638.1.length c2641), (9, .bool r2638.2), (11, .slice p3030 r3028.1.length c3031), (69, .bool o3082)] a) ?_ ?_
  · have hm := ho3083
    refine G_region ?_
    refine W_run 3 [(0, .slice p2376 x2374.length c2377), (1, .int .i64 x2379), (2, .int .i64 x2380), (8, .slice p2640 r2638.1.length c2641), (9, .bool r2638.2), (11, .slice p3030 r3028.1.length c3031), (12, .bool r3028.2), (59, .bool (decide (r3069.1 < 0)))] w3073 (by kernel_rfl) ?_
    rcases gx_bif hm with ⟨hc3085, hm⟩ | ⟨hc3085, hm⟩
    · refine W_known 59 true (by kernel_rfl) hc3085 ?_
      refine W_run 10 [(0, .slice p2376 x2374.length c2377), (1, .int .i64 x2379), (2, .int .i64 x2380), (8, .slice p2640 r2638.1.length c2641), (9, .bool r2638.2), (11, .slice p3030 r3028.1.length c3031), (69, .bool true)] w3073 (by kernel_rfl) ?_
      refine W_nil ?_
      obtain rfl := Option.some.inj hm
      exact N_meet fun a ha => ⟨M3075.pick [0, 1] (by kernel_rfl), ha.sub (by kernel_rfl)⟩
    refine W_known 59 false (by kernel_rfl) hc3085 ?_
    refine W_run 2 [(0, .slice p2376 x2374.length c2377), (1, .int .i64 x2379), (2, .int .i64 x2380), (8, .slice p2640 r2638.1.length c2641), (9, .bool r2638.2), (11, .slice p3030 r3028.1.length c3031), (12, .bool r3028.2), (59, .bool false), (60, .slice p3030 r3028.1.length c3031), (61, .slice p2640 r2638.1.length c2641)] w3073 (by kernel_rfl) ?_
    obtain ⟨r3086, hr3086, hm⟩ := gx_bind hm
    refine W_call 21 #[.slice p3030 r3028.1.length c3031, .slice p2640 r2638.1.length c2641] (by kernel_rfl) (by kernel_rfl) ?_
    refine (c_l_eqEventS w3073 r3028.1 p3030 c3031 (ho3033.rd M3075 1 (by kernel_rfl)) r2638.1 p2640 c2641 (ho2643.rd M3075 0 (by kernel_rfl)) hr3086).mono ?_
    rintro e_ w3087 ⟨rfl, K3088⟩
    have M3089 := M3075.call0 K3088
    refine ⟨_, rfl, ?_⟩
    refine W_run 3 [(0, .slice p2376 x2374.length c2377), (1, .int .i64 x2379), (2, .int .i64 x2380), (8, .slice p2640 r2638.1.length c2641), (9, .bool r2638.2), (11, .slice p3030 r3028.1.length c3031), (12, .bool r3028.2), (65, .bool (!r3086))] w3087 (by kernel_rfl) ?_
    rcases gx_bif hm with ⟨hc3090, hm⟩ | ⟨hc3090, hm⟩
    · refine W_known 65 true (by kernel_rfl) hc3090 ?_
      refine W_run 4 [(0, .slice p2376 x2374.length c2377), (1, .int .i64 x2379), (2, .int .i64 x2380), (8, .slice p2640 r2638.1.length c2641), (9, .bool r2638.2), (11, .slice p3030 r3028.1.length c3031), (69, .bool true)] w3087 (by kernel_rfl) ?_
      refine W_nil ?_
      obtain rfl := Option.some.inj hm
      exact N_meet fun a ha => ⟨M3089.pick [0, 1] (by kernel_rfl), ha.sub (by kernel_rfl)⟩
    refine W_known 65 false (by kernel_rfl) hc3090 ?_
    refine W_run 4 [(0, .slice p2376 x2374.length c2377), (1, .int .i64 x2379), (2, .int .i64 x2380), (8, .slice p2640 r2638.1.length c2641), (9, .bool r2638.2), (11, .slice p3030 r3028.1.length c3031), (69, .bool (!(r3028.2 == r2638.2)))] w3087 (by kernel_rfl) ?_
    refine W_nil ?_
    obtain rfl := Option.some.inj hm
    exact N_meet fun a ha => ⟨M3089.pick [0, 1] (by kernel_rfl), ha.sub (by kernel_rfl)⟩
  intro a3093 w3091 ⟨M3092, hS3094⟩
  refine N_use hS3094 ?_
  have hm := hm3084
  refine N_then ?_
  rcases gx_bif hm with ⟨hc3095, hm⟩ | ⟨hc3095, hm⟩
  · refine G_cond_t (b := o3082) hc3095 (by kernel_rfl) ?_
    refine G_seq ?_
    refine G_region ?_
    refine W_run 1 [(6, .bool false)] w3091 (by kernel_rfl) ?_
    refine W_nil ?_
    refine N_then ?_
    refine G_ret ?_
    refine N_then_ret ?_
    obtain rfl := Option.some.inj hm
    refine N_ret [.bool false] (RVs_cons (RV_tmp (by kernel_rfl)) RVs_nil) ?_
    exact ⟨rfl, M3092.pick [] (by kernel_rfl)⟩
  refine G_cond_f (b := o3082) hc3095 (by kernel_rfl) ?_
  refine G_skip ?_
  refine N_then ?_
  refine G_seq ?_
  refine G_region ?_
  refine W_run 1 [(0, .slice p2376 x2374.length c2377), (1, .int .i64 x2379), (2, .int .i64 x2380), (8, .slice p2640 r2638.1.length c2641), (9, .bool r2638.2), (11, .slice p3030 r3028.1.length c3031), (14, .int .i64 1)] w3091 (by kernel_rfl) ?_
  refine W_nil ?_
  refine N_then ?_
  refine G_seq ?_
  refine G_region ?_
  refine W_run 2 [(0, .slice p2376 x2374.length c2377), (1, .int .i64 x2379), (2, .int .i64 x2380), (8, .slice p2640 r2638.1.length c2641), (9, .bool r2638.2), (11, .slice p3030 r3028.1.length c3031), (14, .int .i64 1), (70, .slice p3030 r3028.1.length c3031), (71, .int .i64 1)] w3091 (by kernel_rfl) ?_
  obtain ⟨r3096, hr3096, hm⟩ := gx_bind hm
  refine W_call 28 #[.slice p3030 r3028.1.length c3031, .int .i64 1] (by kernel_rfl) (by kernel_rfl) ?_
  refine (c_l_markEventS w3091 r3028.1 p3030 c3031 sg3032 ho3033 1 (M3092.hasPick [1]) (M3092.nodupPick [1] (by kernel_rfl)) hr3096).mono ?_
  rintro e_ w3100 ⟨sg3097, rfl, ho3098, hl3099, K3101⟩
  have M3102 := M3092.callF' [1] [0] (by kernel_rfl) K3101
  refine ⟨_, rfl, ?_⟩
  refine W_conv 11 (.slice p3030 r3028.1.length c3031) (.slice p3030 r3096.2.length c3031) (by kernel_rfl) (by first | rw [hl3099] | rw [hl3099]) ?_
  refine W_conv 70 (.slice p3030 r3028.1.length c3031) (.slice p3030 r3096.2.length c3031) (by kernel_rfl) (by first | rw [hl3099] | rw [hl3099]) ?_
  refine W_run 1 [(0, .slice p2376 x2374.length c2377), (1, .int .i64 x2379), (2, .int .i64 x2380), (8, .slice p2640 r2638.1.length c2641), (9, .bool r2638.2), (11, .slice p3030 r3096.2.length c3031), (14, .int .i64 r3096.1)] w3100 (by kernel_rfl) ?_
  refine W_nil ?_
  refine N_then ?_
  refine G_seq ?_
  refine G_region ?_
  refine W_run 1 [(0, .slice p2376 x2374.length c2377), (1, .int .i64 x2379), (2, .int .i64 x2380), (8, .slice p2640 r2638.1.length c2641), (9, .bool r2638.2), (11, .slice p3030 r3096.2.length c3031), (14, .int .i64 r3096.1), (15, .int .i64 1)] w3100 (by kernel_rfl) ?_
  refine W_nil ?_
  refine N_then ?_
  refine G_seq ?_
  refine G_region ?_
  refine W_run 2 [(0, .slice p2376 x2374.length c2377), (1, .int .i64 x2379), (2, .int .i64 x2380), (8, .slice p2640 r2638.1.length c2641), (9, .bool r2638.2), (11, .slice p3030 r3096.2.length c3031), (14, .int .i64 r3096.1), (15, .int .i64 1), (73, .slice p3030 r3096.2.length c3031), (74, .int .i64 1)] w3100 (by kernel_rfl) ?_
  obtain ⟨r3103, hr3103, hm⟩ := gx_bind hm
  refine W_call 29 #[.slice p3030 r3096.2.length c3031, .int .i64 1] (by kernel_rfl) (by kernel_rfl) ?_
  refine (c_l_heldEventS w3100 r3096.2 p3030 c3031 (ho3098.rd M3102 1 (by kernel_rfl)) 1 hr3103).mono ?_
  rintro e_ w3104 ⟨rfl, K3105⟩
  have M3106 := M3102.call0 K3105
  refine ⟨_, rfl, ?_⟩
  refine W_run 1 [(0, .slice p2376 x2374.length c2377), (1, .int .i64 x2379), (2, .int .i64 x2380), (8, .slice p2640 r2638.1.length c2641), (9, .bool r2638.2), (11, .slice p3030 r3096.2.length c3031), (14, .int .i64 r3096.1), (15, .int .i64 r3103)] w3104 (by kernel_rfl) ?_
  refine W_nil ?_
  refine N_then ?_
  refine G_seq ?_
  refine G_seq ?_
  refine G_region ?_
  refine W_run 2 [(0, .slice p2376 x2374.length c2377), (1, .int .i64 x2379), (2, .int .i64 x2380), (8, .slice p2640 r2638.1.length c2641), (9, .bool r2638.2), (11, .slice p3030 r3096.2.length c3031), (14, .int .i64 r3096.1), (15, .int .i64 r3103), (77, .bool (decide (r3103 < 0)))] w3104 (by kernel_rfl) ?_
  refine W_nil ?_
  refine N_then ?_
  rcases gx_bif hm with ⟨hc3107, hm⟩ | ⟨hc3107, hm⟩
  · refine G_cond_t (b := (decide (r3103 < 0))) hc3107 (by kernel_rfl) ?_
    refine G_seq ?_
    refine G_region ?_
    refine W_run 1 [(6, .bool false)] w3104 (by kernel_rfl) ?_
    refine W_nil ?_
    refine N_then ?_
    refine G_ret ?_
    refine N_then_ret ?_
    obtain rfl := Option.some.inj hm
    refine N_ret [.bool false] (RVs_cons (RV_tmp (by kernel_rfl)) RVs_nil) ?_
    exact ⟨rfl, M3106.pick [] (by kernel_rfl)⟩
  refine G_cond_f (b := (decide (r3103 < 0))) hc3107 (by kernel_rfl) ?_
  refine G_skip ?_
  refine N_then ?_
  refine G_seq ?_
  refine G_seq ?_
  refine G_region ?_
  refine W_run 3 [(0, .slice p2376 x2374.length c2377), (1, .int .i64 x2379), (2, .int .i64 x2380), (8, .slice p2640 r2638.1.length c2641), (9, .bool r2638.2), (11, .slice p3030 r3096.2.length c3031), (14, .int .i64 r3096.1), (80, .bool (r3103 != r3096.1))] w3104 (by kernel_rfl) ?_
  refine W_nil ?_
  refine N_then ?_
  rcases gx_bif hm with ⟨hc3108, hm⟩ | ⟨hc3108, hm⟩
  · refine G_cond_t (b := (r3103 != r3096.1)) hc3108 (by kernel_rfl) ?_
    refine G_seq ?_
    refine G_region ?_
    refine W_run 1 [(6, .bool false)] w3104 (by kernel_rfl) ?_
    refine W_nil ?_
    refine N_then ?_
    refine G_ret ?_
    refine N_then_ret ?_
    obtain rfl := Option.some.inj hm
    refine N_ret [.bool false] (RVs_cons (RV_tmp (by kernel_rfl)) RVs_nil) ?_
    exact ⟨rfl, M3106.pick [] (by kernel_rfl)⟩
  refine G_cond_f (b := (r3103 != r3096.1)) hc3108 (by kernel_rfl) ?_
  refine G_skip ?_
  refine N_then ?_
  refine G_seq ?_
  refine G_region ?_
  refine W_run 1 [(1, .int .i64 x2379), (2, .int .i64 x2380), (8, .slice p2640 r2638.1.length c2641), (9, .bool r2638.2), (11, .slice p3030 r3096.2.length c3031), (14, .int .i64 r3096.1), (82, .slice p2376 x2374.length c2377)] w3104 (by kernel_rfl) ?_
  obtain ⟨r3109, hr3109, hm⟩ := gx_bind hm
  refine W_call 19 #[.slice p2376 x2374.length c2377] (by kernel_rfl) (by kernel_rfl) ?_
  refine (c_l_toEventS w3104 x2374 p2376 c2377 (h2378.mem0 M3106) hr3109).mono ?_
  rintro e_ w3115 ⟨p3111, c3112, sg3113, rfl, ho3114, K3116⟩
  have M3117 := M3106.call K3116
  refine ⟨_, rfl, ?_⟩
  refine W_run 2 [(8, .slice p2640 r2638.1.length c2641), (9, .bool r2638.2), (11, .slice p3030 r3096.2.length c3031), (14, .int .i64 r3096.1), (83, .slice p3111 r3109.length c3112), (84, .int .i64 x2379), (85, .int .i64 x2380)] w3115 (by kernel_rfl) ?_
  obtain ⟨r3118, hr3118, hm⟩ := gx_bind hm
  refine W_call 31 #[.slice p3111 r3109.length c3112, .int .i64 x2379, .int .i64 x2380] (by kernel_rfl) (by kernel_rfl) ?_
  refine (c_i_EventsWithin w3115 r3109 p3111 c3112 (ho3114.rd M3117 2 (by kernel_rfl)) x2379 x2380 hr3118).mono ?_
  rintro e_ w3124 ⟨p3120, c3121, sg3122, rfl, ho3123, K3125⟩
  have M3126 := M3117.call K3125
  refine ⟨_, rfl, ?_⟩
  refine W_run 5 [(8, .slice p2640 r2638.1.length c2641), (9, .bool r2638.2), (11, .slice p3030 r3096.2.length c3031), (14, .int .i64 r3096.1), (16, .slice p3120 r3118.1.length c3121), (17, .bool r3118.2)] w3124 (by kernel_rfl) ?_
  refine W_nil ?_
  refine N_then ?_
  refine G_seq ?_
  refine G_seq ?_
  obtain ⟨o3132, ho3133, hm3134⟩ := gx_bind hm
  refine G_meet (fun a w' => Mem [] w w' [sg3097] ∧ Sat Try.f8.ntmps [(11, .slice p3030 r3096.2.length c3031), (14, .int .i64 r3096.1), (97, .bool o3132)] a) ?_ ?_
  · have hm := ho3133
    refine G_region ?_
    refine W_run 2 [(9, .bool r2638.2), (11, .slice p3030 r3096.2.length c3031), (14, .int .i64 r3096.1), (17, .bool r3118.2), (89, .slice p3120 r3118.1.length c3121), (90, .slice p2640 r2638.1.length c2641)] w3124 (by kernel_rfl) ?_
    obtain ⟨r3135, hr3135, hm⟩ := gx_bind hm
    refine W_call 21 #[.slice p3120 r3118.1.length c3121, .slice p2640 r2638.1.length c2641] (by kernel_rfl) (by kernel_rfl) ?_
    refine (c_l_eqEventS w3124 r3118.1 p3120 c3121 (ho3123.rd M3126 3 (by kernel_rfl)) r2638.1 p2640 c2641 (ho2643.rd M3126 0 (by kernel_rfl)) hr3135).mono ?_
    rintro e_ w3136 ⟨rfl, K3137⟩
    have M3138 := M3126.call0 K3137
    refine ⟨_, rfl, ?_⟩
    refine W_run 2 [(9, .bool r2638.2), (11, .slice p3030 r3096.2.length c3031), (14, .int .i64 r3096.1), (17, .bool r3118.2), (93, .bool (!r3135))] w3136 (by kernel_rfl) ?_
    rcases gx_bif hm with ⟨hc3139, hm⟩ | ⟨hc3139, hm⟩
    · refine W_known 93 true (by kernel_rfl) hc3139 ?_
      refine W_run 4 [(11, .slice p3030 r3096.2.length c3031), (14, .int .i64 r3096.1), (97, .bool true)] w3136 (by kernel_rfl) ?_
      refine W_nil ?_
      obtain rfl := Option.some.inj hm
      exact N_meet fun a ha => ⟨M3138.pick [1] (by kernel_rfl), ha.sub (by kernel_rfl)⟩
    refine W_known 93 false (by kernel_rfl) hc3139 ?_
    refine W_run 4 [(11, .slice p3030 r3096.2.length c3031), (14, .int .i64 r3096.1), (97, .bool (!(r3118.2 == r2638.2)))] w3136 (by kernel_rfl) ?_
    refine W_nil ?_
    obtain rfl := Option.some.inj hm
    exact N_meet fun a ha => ⟨M3138.pick [1] (by kernel_rfl), ha.sub (by kernel_rfl)⟩
  intro a3142 w3140 ⟨M3141, hS3143⟩
  refine N_use hS3143 ?_
  have hm := hm3134
  refine N_then ?_
  rcases gx_bif hm with ⟨hc3144, hm⟩ | ⟨hc3144, hm⟩
  · refine G_cond_t (b := o3132) hc3144 (by kernel_rfl) ?_
    refine G_seq ?_
    refine G_region ?_
    refine W_run 1 [(6, .bool false)] w3140 (by kernel_rfl) ?_
    refine W_nil ?_
    refine N_then ?_
    refine G_ret ?_
    refine N_then_ret ?_
    obtain rfl := Option.some.inj hm
    refine N_ret [.bool false] (RVs_cons (RV_tmp (by kernel_rfl)) RVs_nil) ?_
    exact ⟨rfl, M3141.pick [] (by kernel_rfl)⟩
  refine G_cond_f (b := o3132) hc3144 (by kernel_rfl) ?_
  refine G_skip ?_
  refine N_then ?_
  refine G_seq ?_
  refine G_region ?_
  refine W_run 1 [(11, .slice p3030 r3096.2.length c3031), (14, .int .i64 r3096.1), (15, .int .i64 1)] w3140 (by kernel_rfl) ?_
  refine W_nil ?_
  refine N_then ?_
  refine G_seq ?_
  refine G_region ?_
  refine W_run 2 [(14, .int .i64 r3096.1), (15, .int .i64 1), (98, .slice p3030 r3096.2.length c3031), (99, .int .i64 1)] w3140 (by kernel_rfl) ?_
  obtain ⟨r3145, hr3145, hm⟩ := gx_bind hm
  refine W_call 29 #[.slice p3030 r3096.2.length c3031, .int .i64 1] (by kernel_rfl) (by kernel_rfl) ?_
  refine (c_l_heldEventS w3140 r3096.2 p3030 c3031 (ho3098.rd M3141 0 (by kernel_rfl)) 1 hr3145).mono ?_
  rintro e_ w3146 ⟨rfl, K3147⟩
  have M3148 := M3141.call0 K3147
  refine ⟨_, rfl, ?_⟩
  refine W_run 1 [(14, .int .i64 r3096.1), (15, .int .i64 r3145)] w3146 (by kernel_rfl) ?_
  refine W_nil ?_
  refine N_then ?_
  refine G_seq ?_
  refine G_seq ?_
  refine G_region ?_
  refine W_run 2 [(14, .int .i64 r3096.1), (15, .int .i64 r3145), (102, .bool (decide (r3145 < 0)))] w3146 (by kernel_rfl) ?_
  refine W_nil ?_
  refine N_then ?_
  rcases gx_bif hm with ⟨hc3149, hm⟩ | ⟨hc3149, hm⟩
  · refine G_cond_t (b := (decide (r3145 < 0))) hc3149 (by kernel_rfl) ?_
    refine G_seq ?_
    refine G_region ?_
    refine W_run 1 [(6, .bool false)] w3146 (by kernel_rfl) ?_
    refine W_nil ?_
    refine N_then ?_
    refine G_ret ?_
    refine N_then_ret ?_
    obtain rfl := Option.some.inj hm
    refine N_ret [.bool false] (RVs_cons (RV_tmp (by kernel_rfl)) RVs_nil) ?_
    exact ⟨rfl, M3148.pick [] (by kernel_rfl)⟩
  refine G_cond_f (b := (decide (r3145 < 0))) hc3149 (by kernel_rfl) ?_
  refine G_skip ?_
  refine N_then ?_
  refine G_seq ?_
  refine G_seq ?_
  refine G_region ?_
  refine W_run 3 [(105, .bool (r3145 != r3096.1))] w3146 (by kernel_rfl) ?_
  refine W_nil ?_
  refine N_then ?_
  rcases gx_bif hm with ⟨hc3150, hm⟩ | ⟨hc3150, hm⟩
  · refine G_cond_t (b := (r3145 != r3096.1)) hc3150 (by kernel_rfl) ?_
    refine G_seq ?_
    refine G_region ?_
    refine W_run 1 [(6, .bool false)] w3146 (by kernel_rfl) ?_
    refine W_nil ?_
    refine N_then ?_
    refine G_ret ?_
    refine N_then_ret ?_
    obtain rfl := Option.some.inj hm
    refine N_ret [.bool false] (RVs_cons (RV_tmp (by kernel_rfl)) RVs_nil) ?_
    exact ⟨rfl, M3148.pick [] (by kernel_rfl)⟩
  refine G_cond_f (b := (r3145 != r3096.1)) hc3150 (by kernel_rfl) ?_
  refine G_skip ?_
  refine N_then ?_
  refine G_seq ?_
  refine G_region ?_
  refine W_run 1 [(6, .bool true)] w3146 (by kernel_rfl) ?_
  refine W_nil ?_
  refine N_then ?_
  refine G_ret ?_
  obtain rfl := Option.some.inj hm
  refine N_ret [.bool true] (RVs_cons (RV_tmp (by kernel_rfl)) RVs_nil) ?_
  exact ⟨rfl, M3148.pick [] (by kernel_rfl)⟩
theorem c_s_l22Add (w : World) (x3200 : List Event) (p3202 : Option Addr) (c3203 : Nat) (h3204 : rdS encEvent w x3200 p3202 c3203) (x3205 : Event) {r : (List Event)} (hm : M.s_l22Add x3200 x3205 = some r) :
    Calls Try.prog 68 #[.slice p3202 x3200.length c3203, .agg #[.int .i64 x3205.Tick, .int .i64 x3205.Guest, .string x3205.Kind, .int .i64 x3205.Value]] w fun e w' => ∃ (p3207 : Option Addr) (c3208 : Nat) (sg3209 : Seg), e = .returned (.slice p3207 r.length c3208) ∧ ownS encEvent r p3207 c3208 sg3209 ∧ Mem [] w w' [sg3209] := by
  unfold M.s_l22Add at hm
  refine C_enter Try.func68 rfl (by kernel_rfl) ?_
  have M0 := Mem.refl [] w
  refine G_seq ?_
  refine G_region ?_
  refine W_new (fun b => .pointer (some ⟨b, 0, none⟩)) (.cells ⟨[.int .i64 x3205.Tick, .int .i64 x3205.Guest, .string x3205.Kind, .int .i64 x3205.Value]⟩ 26 (0, 0)) M0 rfl (by kernel_rfl) (by kernel_rfl) ?_
  intro b3211 w3212 M3213
  refine W_run 1 [(0, .slice p3202 x3200.length c3203), (3, .pointer (some ⟨b3211, 0, none⟩))] w3212 (by kernel_rfl) ?_
  refine W_nil ?_
  refine N_then ?_
  refine G_seq ?_
  refine G_region ?_
  refine W_run 3 [(0, .slice p3202 x3200.length c3203), (3, .pointer (some ⟨b3211, 0, none⟩)), (5, .int .i64 (x3200.length : Int))] w3212 (by kernel_rfl) ?_
  refine W_nil ?_
  refine N_then ?_
  refine G_seq ?_
  obtain ⟨out3262, hw3263, hmo3264⟩ := gx_bind hm
  refine G_meet (fun a w' => Mem [] w w' [[(b3211, .cells ⟨[.int .i64 x3205.Tick, .int .i64 x3205.Guest, .string x3205.Kind, .int .i64 x3205.Value]⟩ 26 (0, 0))]] ∧ Sat Try.f68.ntmps [(0, .slice p3202 x3200.length c3203), (3, .pointer (some ⟨b3211, 0, none⟩)), (5, .int .i64 out3262)] a) ?_ ?_
  · refine G_block ?_
    refine G_while (σ := Int) (ρ := Int) (fun s3255 a w' => Mem [] w w' [[(b3211, .cells ⟨[.int .i64 x3205.Tick, .int .i64 x3205.Guest, .string x3205.Kind, .int .i64 x3205.Value]⟩ 26 (0, 0))]] ∧ Sat Try.f68.ntmps [(0, .slice p3202 x3200.length c3203), (3, .pointer (some ⟨b3211, 0, none⟩)), (5, .int .i64 s3255)] a) hw3263 (fun a ha => ⟨M3213.pick [0] (by kernel_rfl), ha.sub (by kernel_rfl)⟩) ?_
    clear hm
    intro s3255 x3256 hm hout3257 a3258 w3259 ⟨M3260, hS3261⟩
    refine G_use hS3261 ?_
    refine G_seq ?_
    refine G_seq ?_
    obtain ⟨o3272, ho3273, hm3274⟩ := gx_bind hm
    refine G_meet (fun a w' => Mem [] w w' [[(b3211, .cells ⟨[.int .i64 x3205.Tick, .int .i64 x3205.Guest, .string x3205.Kind, .int .i64 x3205.Value]⟩ 26 (0, 0))]] ∧ Sat Try.f68.ntmps [(0, .slice p3202 x3200.length c3203), (3, .pointer (some ⟨b3211, 0, none⟩)), (5, .int .i64 s3255), (20, .bool o3272)] a) ?_ ?_
    · have hm := ho3273
      refine G_quiet (by kernel_rfl) (by kernel_rfl) M3260 ?_
      refine Z_runs [.int .i64 s3255, .bool (decide (s3255 > 0)), .bool (decide (s3255 > 0))] [(0, .slice p3202 x3200.length c3203), (3, .pointer (some ⟨b3211, 0, none⟩)), (5, .int .i64 s3255), (10, .bool (decide (s3255 > 0)))] (fun w_ => by kernel_rfl) (by kernel_rfl) ?_
      rcases gx_bif hm with ⟨hc3275, hm⟩ | ⟨hc3275, hm⟩
      · refine Z_known 10 true (by kernel_rfl) hc3275 ?_
        refine Z_runs [.slice p3202 x3200.length c3203, .int .i64 s3255, .int .i64 (w64 (s3255 - 1))] [(0, .slice p3202 x3200.length c3203), (3, .pointer (some ⟨b3211, 0, none⟩)), (5, .int .i64 s3255), (10, .bool true), (11, .slice p3202 x3200.length c3203), (13, .int .i64 (w64 (s3255 - 1)))] (fun w_ => by kernel_rfl) (by kernel_rfl) ?_
        obtain ⟨y3276, hy3276, hm⟩ := gx_bind hm
        refine Z_val (elemP p3202 ((w64 (s3255 - 1)).toNat * 4)) (by kernel_rfl) (fun w_ M_ => (E_index (E := encEvent) _ _ _ x3200.length c3203 .i64 (w64 (s3255 - 1)) 4 (y := y3276) rfl (by kernel_rfl) (by kernel_rfl) (by kernel_rfl) (h3204.mem0 M_) rfl hy3276)) ?_
        refine Z_val (elemP p3202 ((w64 (s3255 - 1)).toNat * 4 + 0)) (by kernel_rfl) (fun w_ M_ => (E_fieldE (E := encEvent) _ _ 0 ((w64 (s3255 - 1)).toNat * 4) 0 rfl (by kernel_rfl) (by kernel_rfl) (h3204.mem0 M_) hy3276)) ?_
        refine Z_val (.int .i64 y3276.Tick) (by kernel_rfl) (fun w_ M_ => (E_loadE (E := encEvent) _ _ false 1 (w64 (s3255 - 1)) 0 ((w64 (s3255 - 1)).toNat * 4 + 0) y3276 (.int .i64 y3276.Tick) rfl (by kernel_rfl) (by kernel_rfl) (by kernel_rfl) (h3204.mem0 M_) hy3276 rfl)) ?_
        refine Z_runs [.pointer (some ⟨b3211, 0, none⟩)] [(0, .slice p3202 x3200.length c3203), (3, .pointer (some ⟨b3211, 0, none⟩)), (5, .int .i64 s3255), (10, .bool true), (16, .int .i64 y3276.Tick), (17, .pointer (some ⟨b3211, 0, none⟩))] (fun w_ => by kernel_rfl) (by kernel_rfl) ?_
        refine Z_val (.int .i64 x3205.Tick) (by kernel_rfl) (fun w_ M_ => (E_load (e := 26) (fr := (0, 0)) _ _ false 1 b3211 0 [.int .i64 x3205.Tick, .int .i64 x3205.Guest, .string x3205.Kind, .int .i64 x3205.Value] (.int .i64 x3205.Tick) rfl (by kernel_rfl) (by kernel_rfl) (by kernel_rfl) (M_.blk 0 (b := b3211) (o := .cells ⟨[.int .i64 x3205.Tick, .int .i64 x3205.Guest, .string x3205.Kind, .int .i64 x3205.Value]⟩ 26 (0, 0)) (by kernel_rfl)))) ?_
        refine Z_runs [.bool (decide (y3276.Tick > x3205.Tick)), .bool (decide (y3276.Tick > x3205.Tick))] [(0, .slice p3202 x3200.length c3203), (3, .pointer (some ⟨b3211, 0, none⟩)), (5, .int .i64 s3255), (20, .bool (decide (y3276.Tick > x3205.Tick)))] (fun w_ => by kernel_rfl) (by kernel_rfl) ?_
        refine Z_end fun w3277 M3278 => ?_
        obtain rfl := Option.some.inj hm
        exact N_meet fun a ha => ⟨M3278.pick [0] (by kernel_rfl), ha.sub (by kernel_rfl)⟩
      refine Z_known 10 false (by kernel_rfl) hc3275 ?_
      refine Z_runs [undef, undef, undef, undef, undef, undef, undef, undef, undef, .bool false] [(0, .slice p3202 x3200.length c3203), (3, .pointer (some ⟨b3211, 0, none⟩)), (5, .int .i64 s3255), (20, .bool false)] (fun w_ => by kernel_rfl) (by kernel_rfl) ?_
      refine Z_end fun w3279 M3280 => ?_
      obtain rfl := Option.some.inj hm
      exact N_meet fun a ha => ⟨M3280.pick [0] (by kernel_rfl), ha.sub (by kernel_rfl)⟩
    intro a3283 w3281 ⟨M3282, hS3284⟩
    refine N_use hS3284 ?_
    have hm := hm3274
    refine N_then ?_
    rcases gx_bif hm with ⟨hc3285, hm⟩ | ⟨hc3285, hm⟩
    · refine G_cond_t (b := o3272) hc3285 (by kernel_rfl) ?_
      refine G_skip ?_
      refine N_then ?_
      refine G_block ?_
      refine G_region ?_
      refine W_run 3 [(0, .slice p3202 x3200.length c3203), (3, .pointer (some ⟨b3211, 0, none⟩)), (5, .int .i64 (w64 (s3255 - 1)))] w3281 (by kernel_rfl) ?_
      refine W_nil ?_
      refine N_block ?_
      obtain rfl := Option.some.inj hm
      exact N_loop fun a ha => ⟨_, rfl, M3282.pick [0] (by kernel_rfl), ha.sub (by kernel_rfl)⟩
    refine G_cond_f (b := o3272) hc3285 (by kernel_rfl) ?_
    refine G_exit ?_
    refine N_then_exit ?_
    refine N_then_exit ?_
    refine N_block_eq ?_
    obtain rfl := Option.some.inj hm
    obtain rfl := hout3257 _ rfl
    exact N_meet fun a ha => ⟨M3282.pick [0] (by kernel_rfl), ha.sub (by kernel_rfl)⟩
  intro a3286 w3287 ⟨M3288, hS3289⟩
  refine N_use hS3289 ?_
  have hm := hmo3264
  refine N_then ?_
  refine G_seq ?_
  obtain ⟨ys3297, hys3297, hm⟩ := gx_bind hm
  obtain ⟨ap3299, hap3299, hm⟩ := gx_bind hm
  obtain ⟨ap3310, hap3310, hm⟩ := gx_bind hm
  obtain ⟨ys3316, hys3316, hm⟩ := gx_bind hm
  refine G_sub [(0, .slice p3202 x3200.length c3203), (3, .pointer (some ⟨b3211, 0, none⟩)), (5, .int .i64 out3262)] (by kernel_rfl) ?_
  refine G_dagL 11 [[], [], [], [1, 2], [0, 3], [], [5], [4, 6], [], [], [8, 9]] [[], [], [], [], [0], [], [], [4], [], [], []] [[], [], [], [], [], [], [], [6], [], [], []] [[], [], [], [], [], [], [], [], [], [], []] [[], [], [], [], [], [], [], [], [], [], []] [[], [], [], [], [], [], [], [], [], [], []] (fun _ => []) (fun i => ([fun f v s => ∃ (p3293 : Option Addr) (c3294 : Nat), v = (.slice p3293 ([] : List Event).length c3294 : Value) ∧ ownS encEvent ([] : List Event) p3293 c3294 s, fun f v s => v = (.slice p3202 x3200.length c3203 : Value) ∧ s = [], fun f v s => v = (.int .i64 out3262 : Value) ∧ s = [], fun f v s => v = (.slice (subP p3202 (0 : Int).toNat c3203 4) ys3297.length (c3203 - (0 : Int).toNat) : Value) ∧ s = [], fun f v s => ∃ (p3301 : Option Addr) (c3302 : Nat), v = (.slice p3301 ap3299.length c3302 : Value) ∧ ownS encEvent ap3299 p3301 c3302 s, fun f v s => v = (.agg #[.int .i64 x3205.Tick, .int .i64 x3205.Guest, .string x3205.Kind, .int .i64 x3205.Value] : Value) ∧ s = [], fun f v s => ∃ (p3306 : Option Addr) (c3307 : Nat), v = (.slice p3306 [x3205].length c3307 : Value) ∧ ownS encEvent [x3205] p3306 c3307 s, fun f v s => ∃ (p3312 : Option Addr) (c3313 : Nat), v = (.slice p3312 ap3310.length c3313 : Value) ∧ ownS encEvent ap3310 p3312 c3313 s, fun f v s => v = (.slice p3202 x3200.length c3203 : Value) ∧ s = [], fun f v s => v = (.int .i64 out3262 : Value) ∧ s = [], fun f v s => v = (.slice (subP p3202 out3262.toNat c3203 4) ys3316.length (c3203 - out3262.toNat) : Value) ∧ s = []] : List ((Nat → Value) → Value → Seg → Prop)).getD i (fun _ _ _ => False)) (fun j f v => ∃ s, (fun i => ([fun f v s => ∃ (p3293 : Option Addr) (c3294 : Nat), v = (.slice p3293 ([] : List Event).length c3294 : Value) ∧ ownS encEvent ([] : List Event) p3293 c3294 s, fun f v s => v = (.slice p3202 x3200.length c3203 : Value) ∧ s = [], fun f v s => v = (.int .i64 out3262 : Value) ∧ s = [], fun f v s => v = (.slice (subP p3202 (0 : Int).toNat c3203 4) ys3297.length (c3203 - (0 : Int).toNat) : Value) ∧ s = [], fun f v s => ∃ (p3301 : Option Addr) (c3302 : Nat), v = (.slice p3301 ap3299.length c3302 : Value) ∧ ownS encEvent ap3299 p3301 c3302 s, fun f v s => v = (.agg #[.int .i64 x3205.Tick, .int .i64 x3205.Guest, .string x3205.Kind, .int .i64 x3205.Value] : Value) ∧ s = [], fun f v s => ∃ (p3306 : Option Addr) (c3307 : Nat), v = (.slice p3306 [x3205].length c3307 : Value) ∧ ownS encEvent [x3205] p3306 c3307 s, fun f v s => ∃ (p3312 : Option Addr) (c3313 : Nat), v = (.slice p3312 ap3310.length c3313 : Value) ∧ ownS encEvent ap3310 p3312 c3313 s, fun f v s => v = (.slice p3202 x3200.length c3203 : Value) ∧ s = [], fun f v s => v = (.int .i64 out3262 : Value) ∧ s = [], fun f v s => v = (.slice (subP p3202 out3262.toNat c3203 4) ys3316.length (c3203 - out3262.toNat) : Value) ∧ s = []] : List ((Nat → Value) → Value → Seg → Prop)).getD i (fun _ _ _ => False)) j f v s) [] [6, 7, 10] [6, 7] (fun _ _ _ s h => ⟨s, h⟩) (by kernel_rfl) (by kernel_rfl) (M3288.preNil 11) (by kernel_rfl) (by kernel_rfl) (by kernel_rfl) (by kernel_rfl) (allOb_cons ?_ (allOb_cons ?_ (allOb_cons ?_ (allOb_cons ?_ (allOb_cons ?_ (allOb_cons ?_ (allOb_cons ?_ (allOb_cons ?_ (allOb_cons ?_ (allOb_cons ?_ (allOb_cons ?_ allOb_nil))))))))))) ?_
  · intro g3290 f3291
    intro R w3318 M3319
    refine W_lit (E := encEvent) ([] : List Event) 0 [] 26 M3319 (by kernel_rfl) (by kernel_rfl) (by kernel_rfl) (by kernel_rfl) (by kernel_rfl) ?_
    intro p3293 c3294 sg3295 w3320 ho3296 M3321
    exact W_nil (ob_end (.slice p3293 ([] : List Event).length c3294) sg3295 rfl (by kernel_rfl) ⟨p3293, c3294, rfl, ho3296⟩ (Mem.mid M3321))
  · intro g3290 f3291
    intro R w3322 M3323
    refine W_run 1 [(24, .slice p3202 x3200.length c3203)] w3322 (by kernel_rfl) ?_
    exact W_nil (ob_end (.slice p3202 x3200.length c3203) [] rfl (by kernel_rfl) ⟨by kernel_rfl, rfl⟩ M3323)
  · intro g3290 f3291
    intro R w3326 M3327
    refine W_run 1 [(25, .int .i64 out3262)] w3326 (by kernel_rfl) ?_
    exact W_nil (ob_end (.int .i64 out3262) [] rfl (by kernel_rfl) ⟨by kernel_rfl, rfl⟩ M3327)
  · intro g3290 f3291
    intro v1_ hb1_
    obtain ⟨rfl, _⟩ := hb1_
    intro v2_ hb2_
    obtain ⟨rfl, _⟩ := hb2_
    intro R w3330 M3331
    refine W_val (.slice (subP p3202 (0 : Int).toNat c3203 4) ys3297.length (c3203 - (0 : Int).toNat)) w3330 (by kernel_rfl) (E_slice (E := encEvent) _ _ _ _ x3200.length 0 out3262 rfl (by kernel_rfl) (Or.inl ⟨rfl, rfl⟩) (Or.inr ⟨_, rfl, by kernel_rfl⟩) (by kernel_rfl) (h3204.mem0 M3331) rfl hys3297) ?_
    exact W_nil (ob_end (.slice (subP p3202 (0 : Int).toNat c3203 4) ys3297.length (c3203 - (0 : Int).toNat)) [] rfl (by kernel_rfl) ⟨by kernel_rfl, rfl⟩ M3331)
  · intro g3290 f3291
    intro v0_ hb0_
    obtain ⟨p3293, c3294, rfl, ho3296⟩ := hb0_
    intro v3_ hb3_
    obtain ⟨rfl, _⟩ := hb3_
    intro R w3334 M3335
    refine W_append (E := encEvent) _ _ _ 40 [.int .i64 0, .int .i64 0, .string ByteArray.empty, .int .i64 0] 2 (c3203 - (0 : Int).toNat) M3335 ho3296 (by kernel_rfl) (by kernel_rfl) (by kernel_rfl) rfl (by kernel_rfl) (by kernel_rfl) (by kernel_rfl) (by kernel_rfl) (by kernel_rfl) (by kernel_rfl) ((h3204.mem0 M3335).sliceM hys3297) hap3299 ?_
    intro p3301 c3302 sg3303 w3336 ho3304 M3337
    exact W_nil (ob_end (.slice p3301 ap3299.length c3302) sg3303 rfl (by kernel_rfl) ⟨p3301, c3302, rfl, ho3304⟩ (Mem.takeOver M3337))
  · intro g3290 f3291
    intro R w3338 M3339
    refine W_val (.agg #[.int .i64 x3205.Tick, .int .i64 x3205.Guest, .string x3205.Kind, .int .i64 x3205.Value]) w3338 (by kernel_rfl) (E_load (e := 26) (fr := (0, 0)) _ _ true 4 b3211 0 [.int .i64 x3205.Tick, .int .i64 x3205.Guest, .string x3205.Kind, .int .i64 x3205.Value] (.agg #[.int .i64 x3205.Tick, .int .i64 x3205.Guest, .string x3205.Kind, .int .i64 x3205.Value]) rfl (by kernel_rfl) (by kernel_rfl) (by kernel_rfl) (M3339.blk 0 (b := b3211) (o := .cells ⟨[.int .i64 x3205.Tick, .int .i64 x3205.Guest, .string x3205.Kind, .int .i64 x3205.Value]⟩ 26 (0, 0)) (by kernel_rfl))) ?_
    exact W_nil (ob_end (.agg #[.int .i64 x3205.Tick, .int .i64 x3205.Guest, .string x3205.Kind, .int .i64 x3205.Value]) [] rfl (by kernel_rfl) ⟨by kernel_rfl, rfl⟩ M3339)
  · intro g3290 f3291
    intro v5_ hb5_
    obtain ⟨rfl, _⟩ := hb5_
    intro R w3342 M3343
    refine W_lit (E := encEvent) [x3205] 1 [.int .i64 x3205.Tick, .int .i64 x3205.Guest, .string x3205.Kind, .int .i64 x3205.Value] 26 M3343 (by kernel_rfl) (by kernel_rfl) (by kernel_rfl) (by kernel_rfl) (by kernel_rfl) ?_
    intro p3306 c3307 sg3308 w3344 ho3309 M3345
    exact W_nil (ob_end (.slice p3306 [x3205].length c3307) sg3308 rfl (by kernel_rfl) ⟨p3306, c3307, rfl, ho3309⟩ (Mem.mid M3345))
  · intro g3290 f3291
    intro v4_ hb4_
    obtain ⟨p3301, c3302, rfl, ho3304⟩ := hb4_
    intro v6_ hb6_
    obtain ⟨p3306, c3307, rfl, ho3309⟩ := hb6_
    intro R w3346 M3347
    refine W_append (E := encEvent) _ _ _ 40 [.int .i64 0, .int .i64 0, .string ByteArray.empty, .int .i64 0] 2 c3307 M3347 ho3304 (by kernel_rfl) (by kernel_rfl) (by kernel_rfl) rfl (by kernel_rfl) (by kernel_rfl) (by kernel_rfl) (by kernel_rfl) (by kernel_rfl) (by kernel_rfl) (ho3309.rd M3347 3 (by kernel_rfl)) hap3310 ?_
    intro p3312 c3313 sg3314 w3348 ho3315 M3349
    exact W_nil (ob_end (.slice p3312 ap3310.length c3313) sg3314 rfl (by kernel_rfl) ⟨p3312, c3313, rfl, ho3315⟩ (Mem.takeOver M3349))
  · intro g3290 f3291
    intro R w3350 M3351
    refine W_run 1 [(31, .slice p3202 x3200.length c3203)] w3350 (by kernel_rfl) ?_
    exact W_nil (ob_end (.slice p3202 x3200.length c3203) [] rfl (by kernel_rfl) ⟨by kernel_rfl, rfl⟩ M3351)
  · intro g3290 f3291
    intro R w3354 M3355
    refine W_run 1 [(32, .int .i64 out3262)] w3354 (by kernel_rfl) ?_
    exact W_nil (ob_end (.int .i64 out3262) [] rfl (by kernel_rfl) ⟨by kernel_rfl, rfl⟩ M3355)
  · intro g3290 f3291
    intro v8_ hb8_
    obtain ⟨rfl, _⟩ := hb8_
    intro v9_ hb9_
    obtain ⟨rfl, _⟩ := hb9_
    intro R w3358 M3359
    refine W_val (.slice (subP p3202 out3262.toNat c3203 4) ys3316.length (c3203 - out3262.toNat)) w3358 (by kernel_rfl) (E_slice (E := encEvent) _ _ _ _ x3200.length out3262 (x3200.length : Int) rfl (by kernel_rfl) (Or.inr ⟨_, rfl, by kernel_rfl⟩) (Or.inl ⟨rfl, rfl⟩) (by kernel_rfl) (h3204.mem0 M3359) rfl hys3316) ?_
    exact W_nil (ob_end (.slice (subP p3202 out3262.toNat c3203 4) ys3316.length (c3203 - out3262.toNat)) [] rfl (by kernel_rfl) ⟨by kernel_rfl, rfl⟩ M3359)
  intro g3290 f3291
  intro v6_ hb6_
  obtain ⟨p3306, c3307, rfl, ho3309⟩ := hb6_
  intro v7_ hb7_
  obtain ⟨p3312, c3313, rfl, ho3315⟩ := hb7_
  intro v10_ hb10_
  obtain ⟨rfl, _⟩ := hb10_
  intro w3362 M3363
  have M3364 : Mem [] w w3362 [[(b3211, .cells ⟨[.int .i64 x3205.Tick, .int .i64 x3205.Guest, .string x3205.Kind, .int .i64 x3205.Value]⟩ 26 (0, 0))], (g3290 6), (g3290 7)] := M3363
  obtain ⟨ap3365, hap3365, hm⟩ := gx_bind hm
  refine W_append (E := encEvent) _ _ _ 40 [.int .i64 0, .int .i64 0, .string ByteArray.empty, .int .i64 0] 2 (c3203 - out3262.toNat) M3364 ho3315 (by kernel_rfl) (by kernel_rfl) (by kernel_rfl) rfl (by kernel_rfl) (by kernel_rfl) (by kernel_rfl) (by kernel_rfl) (by kernel_rfl) (by kernel_rfl) ((h3204.mem0 M3364).sliceM hys3316) hap3365 ?_
  intro p3366 c3367 sg3368 w3369 ho3370 M3371
  refine W_run 1 [(4, .slice p3366 ap3365.length c3367)] w3369 (by kernel_rfl) ?_
  refine W_nil ?_
  refine N_then ?_
  refine G_ret ?_
  obtain rfl := Option.some.inj hm
  refine N_ret [.slice p3366 ap3365.length c3367] (RVs_cons (RV_tmp (by kernel_rfl)) RVs_nil) ?_
  exact ⟨p3366, c3367, sg3368, rfl, ho3370, M3371.pick [2] (by kernel_rfl)⟩
theorem c_s_AddEvent (w : World) (x3180 : List Event) (p3182 : Option Addr) (c3183 : Nat) (h3184 : rdS encEvent w x3180 p3182 c3183) (x3185 : Event) {r : (List Event) × Bool} (hm : M.s_AddEvent x3180 x3185 = some r) :
    Calls Try.prog 32 #[.slice p3182 x3180.length c3183, .agg #[.int .i64 x3185.Tick, .int .i64 x3185.Guest, .string x3185.Kind, .int .i64 x3185.Value]] w fun e w' => ∃ (p3187 : Option Addr) (c3188 : Nat) (sg3189 : Seg), e = .returned (.tuple #[.slice p3187 r.1.length c3188, .bool r.2]) ∧ ownS encEvent r.1 p3187 c3188 sg3189 ∧ Mem [] w w' [sg3189] := by
  unfold M.s_AddEvent at hm
  refine C_enter Try.func32 rfl (by kernel_rfl) ?_
  have M0 := Mem.refl [] w
  refine G_seq ?_
  refine G_region ?_
  refine W_new (fun b => .pointer (some ⟨b, 0, none⟩)) (.cells ⟨[.int .i64 x3185.Tick, .int .i64 x3185.Guest, .string x3185.Kind, .int .i64 x3185.Value]⟩ 26 (0, 0)) M0 rfl (by kernel_rfl) (by kernel_rfl) ?_
  intro b3191 w3192 M3193
  refine W_run 2 [(0, .slice p3182 x3180.length c3183), (3, .pointer (some ⟨b3191, 0, none⟩))] w3192 (by kernel_rfl) ?_
  refine W_nil ?_
  refine N_then ?_
  refine G_seq ?_
  refine G_seq ?_
  obtain ⟨o3386, ho3387, hm3388⟩ := gx_bind hm
  refine G_meet (fun a w' => Mem [] w w' [[(b3191, .cells ⟨[.int .i64 x3185.Tick, .int .i64 x3185.Guest, .string x3185.Kind, .int .i64 x3185.Value]⟩ 26 (0, 0))]] ∧ Sat Try.f32.ntmps [(0, .slice p3182 x3180.length c3183), (3, .pointer (some ⟨b3191, 0, none⟩)), (15, .bool o3386)] a) ?_ ?_
  · have hm := ho3387
    refine G_region ?_
    refine W_run 1 [(0, .slice p3182 x3180.length c3183), (3, .pointer (some ⟨b3191, 0, none⟩)), (6, .slice p3182 x3180.length c3183)] w3192 (by kernel_rfl) ?_
    obtain ⟨r3389, hr3389, hm⟩ := gx_bind hm
    refine W_call 56 #[.slice p3182 x3180.length c3183] (by kernel_rfl) (by kernel_rfl) ?_
    refine (c_s_l22Good w3192 x3180 p3182 c3183 (h3184.mem0 M3193) hr3389).mono ?_
    rintro e_ w3390 ⟨rfl, K3391⟩
    have M3392 := M3193.call0 K3391
    refine ⟨_, rfl, ?_⟩
    refine W_run 2 [(0, .slice p3182 x3180.length c3183), (3, .pointer (some ⟨b3191, 0, none⟩)), (9, .bool (!r3389))] w3390 (by kernel_rfl) ?_
    rcases gx_bif hm with ⟨hc3393, hm⟩ | ⟨hc3393, hm⟩
    · refine W_known 9 true (by kernel_rfl) hc3393 ?_
      refine W_run 6 [(0, .slice p3182 x3180.length c3183), (3, .pointer (some ⟨b3191, 0, none⟩)), (15, .bool true)] w3390 (by kernel_rfl) ?_
      refine W_nil ?_
      obtain rfl := Option.some.inj hm
      exact N_meet fun a ha => ⟨M3392.pick [0] (by kernel_rfl), ha.sub (by kernel_rfl)⟩
    refine W_known 9 false (by kernel_rfl) hc3393 ?_
    refine W_run 1 [(0, .slice p3182 x3180.length c3183), (3, .pointer (some ⟨b3191, 0, none⟩)), (9, .bool false), (10, .slice p3182 x3180.length c3183)] w3390 (by kernel_rfl) ?_
    refine W_val (.agg #[.int .i64 x3185.Tick, .int .i64 x3185.Guest, .string x3185.Kind, .int .i64 x3185.Value]) w3390 (by kernel_rfl) (E_load (e := 26) (fr := (0, 0)) _ _ true 4 b3191 0 [.int .i64 x3185.Tick, .int .i64 x3185.Guest, .string x3185.Kind, .int .i64 x3185.Value] (.agg #[.int .i64 x3185.Tick, .int .i64 x3185.Guest, .string x3185.Kind, .int .i64 x3185.Value]) rfl (by kernel_rfl) (by kernel_rfl) (by kernel_rfl) (M3392.blk 0 (b := b3191) (o := .cells ⟨[.int .i64 x3185.Tick, .int .i64 x3185.Guest, .string x3185.Kind, .int .i64 x3185.Value]⟩ 26 (0, 0)) (by kernel_rfl))) ?_
    obtain ⟨r3394, hr3394, hm⟩ := gx_bind hm
    refine W_call 68 #[.slice p3182 x3180.length c3183, .agg #[.int .i64 x3185.Tick, .int .i64 x3185.Guest, .string x3185.Kind, .int .i64 x3185.Value]] (by kernel_rfl) (by kernel_rfl) ?_
    refine (c_s_l22Add w3390 x3180 p3182 c3183 (h3184.mem0 M3392) x3185 hr3394).mono ?_
    rintro e_ w3400 ⟨p3396, c3397, sg3398, rfl, ho3399, K3401⟩
    have M3402 := M3392.call K3401
    refine ⟨_, rfl, ?_⟩
    obtain ⟨r3403, hr3403, hm⟩ := gx_bind hm
    refine W_call 56 #[.slice p3396 r3394.length c3397] (by kernel_rfl) (by kernel_rfl) ?_
    refine (c_s_l22Good w3400 r3394 p3396 c3397 (ho3399.rd M3402 1 (by kernel_rfl)) hr3403).mono ?_
    rintro e_ w3404 ⟨rfl, K3405⟩
    have M3406 := M3402.call0 K3405
    refine ⟨_, rfl, ?_⟩
    refine W_run 2 [(0, .slice p3182 x3180.length c3183), (3, .pointer (some ⟨b3191, 0, none⟩)), (15, .bool (!r3403))] w3404 (by kernel_rfl) ?_
    refine W_nil ?_
    obtain rfl := Option.some.inj hm
    exact N_meet fun a ha => ⟨M3406.pick [0] (by kernel_rfl), ha.sub (by kernel_rfl)⟩
  intro a3409 w3407 ⟨M3408, hS3410⟩
  refine N_use hS3410 ?_
  have hm := hm3388
  refine N_then ?_
  rcases gx_bif hm with ⟨hc3411, hm⟩ | ⟨hc3411, hm⟩
  · refine G_cond_t (b := o3386) hc3411 (by kernel_rfl) ?_
    refine G_seq ?_
    refine G_region ?_
    refine W_lit (E := encEvent) ([] : List Event) 0 [] 26 M3408 (by kernel_rfl) (by kernel_rfl) (by kernel_rfl) (by kernel_rfl) (by kernel_rfl) ?_
    intro p3412 c3413 sg3414 w3415 ho3416 M3417
    refine W_run 2 [(4, .slice p3412 ([] : List Event).length c3413), (5, .bool false)] w3415 (by kernel_rfl) ?_
    refine W_nil ?_
    refine N_then ?_
    refine G_ret ?_
    refine N_then_ret ?_
    obtain rfl := Option.some.inj hm
    refine N_ret [.slice p3412 ([] : List Event).length c3413, .bool false] (RVs_cons (RV_tmp (by kernel_rfl)) (RVs_cons (RV_tmp (by kernel_rfl)) RVs_nil)) ?_
    exact ⟨p3412, c3413, sg3414, rfl, ho3416, M3417.pick [1] (by kernel_rfl)⟩
  refine G_cond_f (b := o3386) hc3411 (by kernel_rfl) ?_
  refine G_skip ?_
  refine N_then ?_
  refine G_seq ?_
  refine G_region ?_
  refine W_run 1 [(3, .pointer (some ⟨b3191, 0, none⟩)), (17, .slice p3182 x3180.length c3183)] w3407 (by kernel_rfl) ?_
  refine W_val (.agg #[.int .i64 x3185.Tick, .int .i64 x3185.Guest, .string x3185.Kind, .int .i64 x3185.Value]) w3407 (by kernel_rfl) (E_load (e := 26) (fr := (0, 0)) _ _ true 4 b3191 0 [.int .i64 x3185.Tick, .int .i64 x3185.Guest, .string x3185.Kind, .int .i64 x3185.Value] (.agg #[.int .i64 x3185.Tick, .int .i64 x3185.Guest, .string x3185.Kind, .int .i64 x3185.Value]) rfl (by kernel_rfl) (by kernel_rfl) (by kernel_rfl) (M3408.blk 0 (b := b3191) (o := .cells ⟨[.int .i64 x3185.Tick, .int .i64 x3185.Guest, .string x3185.Kind, .int .i64 x3185.Value]⟩ 26 (0, 0)) (by kernel_rfl))) ?_
  obtain ⟨r3419, hr3419, hm⟩ := gx_bind hm
  refine W_call 68 #[.slice p3182 x3180.length c3183, .agg #[.int .i64 x3185.Tick, .int .i64 x3185.Guest, .string x3185.Kind, .int .i64 x3185.Value]] (by kernel_rfl) (by kernel_rfl) ?_
  refine (c_s_l22Add w3407 x3180 p3182 c3183 (h3184.mem0 M3408) x3185 hr3419).mono ?_
  rintro e_ w3425 ⟨p3421, c3422, sg3423, rfl, ho3424, K3426⟩
  have M3427 := M3408.call K3426
  refine ⟨_, rfl, ?_⟩
  refine W_run 2 [(4, .slice p3421 r3419.length c3422), (5, .bool true)] w3425 (by kernel_rfl) ?_
  refine W_nil ?_
  refine N_then ?_
  refine G_ret ?_
  obtain rfl := Option.some.inj hm
  refine N_ret [.slice p3421 r3419.length c3422, .bool true] (RVs_cons (RV_tmp (by kernel_rfl)) (RVs_cons (RV_tmp (by kernel_rfl)) RVs_nil)) ?_
  exact ⟨p3421, c3422, sg3423, rfl, ho3424, M3427.pick [1] (by kernel_rfl)⟩
theorem c_slices_Grow_91__n0 (w : World) (x3606 : Int) {r : (List Event)} (hm : M.slices_Grow_91__n0 x3606 = some r) :
    Calls Try.prog 91 #[.slice none 0 0, .int .i64 x3606] w fun e w' => ∃ (p3608 : Option Addr) (c3609 : Nat) (sg3610 : Seg), e = .returned (.slice p3608 r.length c3609) ∧ ownS encEvent r p3608 c3609 sg3610 ∧ Mem [] w w' [sg3610] := by
  unfold M.slices_Grow_91__n0 at hm
  refine C_enter Try.func91 rfl (by kernel_rfl) ?_
  have M0 := Mem.refl [] w
  obtain ⟨rfl, h0, h1⟩ := gxGrow_spec hm
  have hbig : x3606 ≤ 140737488355328 := by omega
  refine G_seq ?_
  refine G_region ?_
  refine W_run 1 [(0, .slice none 0 0), (1, .int .i64 x3606)] w (by kernel_rfl) ?_
  refine W_nil ?_
  refine N_then ?_
  refine G_seq ?_
  refine G_seq ?_
  refine G_region ?_
  refine W_run 2 [(0, .slice none 0 0), (1, .int .i64 x3606), (6, .bool (decide (x3606 < 0)))] w (by kernel_rfl) ?_
  refine W_nil ?_
  refine N_then ?_
  refine G_cond_f (b := decide (x3606 < 0)) (decide_eq_false (by omega)) (by kernel_rfl) ?_
  refine G_skip ?_
  refine N_then ?_
  refine G_seq ?_
  refine G_seq ?_
  refine G_region ?_
  refine W_run 8 [(0, .slice none 0 0), (1, .int .i64 (w64 (x3606 - w64 (0 - 0))))] w (by kernel_rfl) ?_
  refine W_conv 1 (.int .i64 (w64 (x3606 - w64 (0 - 0)))) (.int .i64 x3606) (by kernel_rfl) (by rw [grow_sub h0 hbig]) ?_
  refine W_nil ?_
  refine N_then ?_
  refine G_seq ?_
  refine G_region ?_
  refine W_run 2 [(0, .slice none 0 0), (1, .int .i64 x3606), (16, .bool (decide (x3606 > 0)))] w (by kernel_rfl) ?_
  refine W_nil ?_
  refine N_then ?_
  by_cases hp : x3606 > 0
  · refine G_cond_t (b := decide (x3606 > 0)) (decide_eq_true hp) (by kernel_rfl) ?_
    refine G_region ?_
    refine W_run 5 [(0, .slice none 0 0), (20, .slice none 0 0), (21, .int .i64 x3606)] w (by kernel_rfl) ?_
    refine W_made encEvent _ _ _ _ 40 [.int .i64 0, .int .i64 0, .string ByteArray.empty, .int .i64 0] x3606 .i64 M0 (by kernel_rfl) rfl (by kernel_rfl) (by kernel_rfl) (by kernel_rfl) (by kernel_rfl) (by kernel_rfl) (by kernel_rfl) (by kernel_rfl) hp h1 ?_
    intro c' sg' w' hc' ho' M'
    refine W_run 2 [(22, .slice (some ⟨w.heap.size, 0, none⟩) x3606.toNat c'), (24, .int .i64 0)] w' (by kernel_rfl) ?_
    refine W_slice (p := some ⟨w.heap.size, 0, none⟩) (c := c') _ _ _ _ x3606.toNat 0 0 4 (by kernel_rfl) rfl (by kernel_rfl) (Or.inl ⟨rfl, rfl⟩) (Or.inr ⟨_, rfl, (by kernel_rfl)⟩) (by kernel_rfl) hc' (by omega) (by omega) (by omega) ?_
    obtain ⟨sg2, ho2, hs2⟩ := ho'.slice 0 0 (Nat.le_refl _) (Nat.zero_le _)
    refine W_run 1 [(0, .slice (subP (some ⟨w.heap.size, 0, none⟩) 0 c' 4) 0 (c' - 0))] w' (by kernel_rfl) ?_
    refine W_nil ?_
    refine N_then ?_
    refine G_seq ?_
    refine G_region ?_
    refine W_run 2 [(4, .slice (subP (some ⟨w.heap.size, 0, none⟩) 0 c' 4) 0 (c' - 0))] w' (by kernel_rfl) ?_
    refine W_nil ?_
    refine N_then ?_
    refine G_ret ?_
    refine N_ret [.slice (subP (some ⟨w.heap.size, 0, none⟩) 0 c' 4) 0 (c' - 0)] (RVs_cons (RV_tmp (by kernel_rfl)) RVs_nil) ?_
    exact ⟨_, _, sg2, rfl, ho2, (by rcases hs2 with rfl | rfl; exact M'; exact (M'.pick [] (by kernel_rfl)).addNil)⟩
  refine G_cond_f (b := decide (x3606 > 0)) (decide_eq_false hp) (by kernel_rfl) ?_
  refine G_skip ?_
  refine N_then ?_
  refine G_seq ?_
  refine G_region ?_
  refine W_run 2 [(4, .slice none 0 0)] w (by kernel_rfl) ?_
  refine W_nil ?_
  refine N_then ?_
  refine G_ret ?_
  refine N_ret [.slice none 0 0] (RVs_cons (RV_tmp (by kernel_rfl)) RVs_nil) ?_
  exact ⟨none, 0, [], rfl, ownS_nil, M0.addNil⟩
end Go.Proofs.Ytfcebglkdfadcaa
