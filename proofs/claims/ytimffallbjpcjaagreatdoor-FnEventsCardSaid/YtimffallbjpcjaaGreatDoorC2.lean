/- The walks, printed by program: whenever the model gives r, the call returns r. Part 2. -/
import Derived.Test.YtimffallbjpcjaaGreatDoorM
import Derived.Test.YtimffallbjpcjaaGreatDoorProg
import Derived.Test.YtimffallbjpcjaaGreatDoorPi
import Derived.Test.YtimffallbjpcjaaGreatDoorSh
import Derived.Test.YtimffallbjpcjaaGreatDoorC1
set_option linter.unusedVariables false
set_option maxRecDepth 100000
set_option maxHeartbeats 4000000
namespace Go.Proofs.YtimffallbjpcjaaGreatDoor
open Go.Gx
theorem c_s_l1Cur_record22 (w : World) (x2009 : l1Cur) (p2013 : Option Addr) (c2014 : Nat) (h2015 : rdS Gx.encU8 w x2009.code p2013 c2014) (b2011 : Nat) (hA : ∀ q ∈ List.flatten [[(b2011, .cells ⟨[.slice p2013 x2009.code.length c2014, .int .i64 x2009.at_, .int .u64 x2009.seed]⟩ 57 (0, 0))]], w.heap[q.1]? = some q.2) (hN : (idsOf [[(b2011, .cells ⟨[.slice p2013 x2009.code.length c2014, .int .i64 x2009.at_, .int .u64 x2009.seed]⟩ 57 (0, 0))]]).Nodup) (hap2016 : apartX (idsOf [[(b2011, .cells ⟨[.slice p2013 x2009.code.length c2014, .int .i64 x2009.at_, .int .u64 x2009.seed]⟩ 57 (0, 0))]]) x2009.code p2013) {r : (List Event) × Int × Int} (hm : M.s_l1Cur_record22 x2009 = some r) :
    Calls Tryz.prog 39 #[.pointer (some ⟨b2011, 0, none⟩)] w fun e w' => ∃ (p2018 : Option Addr) (c2019 : Nat) (sg2020 : Seg), e = .returned (.slice p2018 r.1.length c2019) ∧ ownS encEvent r.1 p2018 c2019 sg2020 ∧ Mem (idsOf [[(b2011, .cells ⟨[.slice p2013 x2009.code.length c2014, .int .i64 x2009.at_, .int .u64 x2009.seed]⟩ 57 (0, 0))]]) w w' [[(b2011, .cells ⟨[.slice p2013 x2009.code.length c2014, .int .i64 r.2.1, .int .u64 r.2.2]⟩ 57 (0, 0))], sg2020] := by
  unfold M.s_l1Cur_record22 at hm
  refine C_enter Tryz.func39 rfl (by kernel_rfl) ?_
  have M0 := Mem.start' w [[(b2011, .cells ⟨[.slice p2013 x2009.code.length c2014, .int .i64 x2009.at_, .int .u64 x2009.seed]⟩ 57 (0, 0))]] hA hN
  refine G_seq ?_
  refine G_region ?_
  refine W_run 1 [(0, .pointer (some ⟨b2011, 0, none⟩))] w (by kernel_rfl) ?_
  refine W_nil ?_
  refine N_then ?_
  refine G_seq ?_
  refine G_region ?_
  refine W_lit (E := encEvent) ([] : List Event) 0 [] 25 M0 (by kernel_rfl) (by kernel_rfl) (by kernel_rfl) (by kernel_rfl) (by kernel_rfl) ?_
  intro p2022 c2023 sg2024 w2025 ho2026 M2027
  refine W_run 1 [(0, .pointer (some ⟨b2011, 0, none⟩)), (3, .slice p2022 ([] : List Event).length c2023)] w2025 (by kernel_rfl) ?_
  refine W_nil ?_
  refine N_then ?_
  refine G_seq ?_
  refine G_region ?_
  refine W_run 1 [(0, .pointer (some ⟨b2011, 0, none⟩)), (3, .slice p2022 ([] : List Event).length c2023), (7, .pointer (some ⟨b2011, 0, none⟩))] w2025 (by kernel_rfl) ?_
  refine W_lit (E := Gx.encI) [0, 3, 99990] 3 [.int .i64 0, .int .i64 3, .int .i64 99990] 3 M2027 (by kernel_rfl) (by kernel_rfl) (by kernel_rfl) (by kernel_rfl) (by kernel_rfl) ?_
  intro p2029 c2030 sg2031 w2032 ho2033 M2034
  obtain ⟨r2036, hr2036, hm⟩ := gx_bind hm
  refine W_call 34 #[.pointer (some ⟨b2011, 0, none⟩), .slice p2029 [0, 3, 99990].length c2030] (by kernel_rfl) (by kernel_rfl) ?_
  refine (c_s_l1Cur_among w2032 x2009 p2013 c2014 (h2015.memX hap2016 M2034) b2011 [0, 3, 99990] p2029 c2030 (ho2033.rd M2034 2 (by kernel_rfl)) (M2034.hasPick [0]) (M2034.nodupPick [0] (by kernel_rfl)) (apartX.old h2015 hap2016 M2034 [0]) (apartX.own ho2033 M2034 2 (by kernel_rfl) [0] (by kernel_rfl)) hr2036).mono ?_
  rintro e_ w2037 ⟨rfl, K2038⟩
  have M2039 := M2034.callF' [0] [1, 2] (by kernel_rfl) K2038
  refine ⟨_, rfl, ?_⟩
  refine W_run 1 [(0, .pointer (some ⟨b2011, 0, none⟩)), (3, .slice p2022 ([] : List Event).length c2023), (4, .int .i64 r2036.1)] w2037 (by kernel_rfl) ?_
  refine W_nil ?_
  refine N_then ?_
  refine G_seq ?_
  refine G_seq ?_
  refine G_region ?_
  refine W_run 1 [(0, .pointer (some ⟨b2011, 0, none⟩)), (3, .slice p2022 ([] : List Event).length c2023), (4, .int .i64 r2036.1), (10, .pointer (some ⟨b2011, 0, none⟩))] w2037 (by kernel_rfl) ?_
  obtain ⟨r2040, hr2040, hm⟩ := gx_bind hm
  refine W_call 65 #[.pointer (some ⟨b2011, 0, none⟩), .int .i64 9] (by kernel_rfl) (by kernel_rfl) ?_
  refine (c_s_l1Cur_pick w2037 (⟨x2009.code, r2036.2.1, r2036.2.2⟩ : l1Cur) p2013 c2014 (h2015.memX hap2016 M2039) b2011 9 (M2039.hasPick [2]) (M2039.nodupPick [2] (by kernel_rfl)) (apartX.old h2015 hap2016 M2039 [2]) hr2040).mono ?_
  rintro e_ w2041 ⟨rfl, K2042⟩
  have M2043 := M2039.callF' [2] [0, 1] (by kernel_rfl) K2042
  refine ⟨_, rfl, ?_⟩
  refine W_run 1 [(0, .pointer (some ⟨b2011, 0, none⟩)), (3, .slice p2022 ([] : List Event).length c2023), (4, .int .i64 r2036.1), (5, .int .i64 r2040.1)] w2041 (by kernel_rfl) ?_
  refine W_nil ?_
  refine N_then ?_
  obtain ⟨out2129, hw2130, hmo2131⟩ := gx_bind hm
  refine G_meet (fun a w' => ∃ (p2138 : Option Addr), ∃ (c2139 : Nat), ∃ (sg2140 : Seg), ownS encEvent out2129.1 p2138 c2139 sg2140 ∧ Mem (idsOf [[(b2011, .cells ⟨[.slice p2013 x2009.code.length c2014, .int .i64 x2009.at_, .int .u64 x2009.seed]⟩ 57 (0, 0))]]) w w' [[(b2011, .cells ⟨[.slice p2013 x2009.code.length c2014, .int .i64 out2129.2.1, .int .u64 out2129.2.2]⟩ 57 (0, 0))], sg2140] ∧ Sat Tryz.f39.ntmps [(0, .pointer (some ⟨b2011, 0, none⟩)), (3, .slice p2138 out2129.1.length c2139)] a) ?_ ?_
  · refine G_block ?_
    refine G_while (σ := List Event × Int × Int × Int × Int) (ρ := List Event × Int × Int) (fun s2122 a w' => ∃ (p2132 : Option Addr), ∃ (c2133 : Nat), ∃ (sg2134 : Seg), ownS encEvent s2122.1 p2132 c2133 sg2134 ∧ Mem (idsOf [[(b2011, .cells ⟨[.slice p2013 x2009.code.length c2014, .int .i64 x2009.at_, .int .u64 x2009.seed]⟩ 57 (0, 0))]]) w w' [[(b2011, .cells ⟨[.slice p2013 x2009.code.length c2014, .int .i64 s2122.2.2.2.1, .int .u64 s2122.2.2.2.2]⟩ 57 (0, 0))], sg2134] ∧ Sat Tryz.f39.ntmps [(0, .pointer (some ⟨b2011, 0, none⟩)), (3, .slice p2132 s2122.1.length c2133), (4, .int .i64 s2122.2.1), (5, .int .i64 s2122.2.2.1)] a) hw2130 (fun a ha => ⟨p2022, c2023, sg2024, ho2026, M2043.pick [2, 0] (by kernel_rfl), ha.sub (by kernel_rfl)⟩) ?_
    clear hm
    intro s2122 x2123 hm hout2124 a2125 w2126 ⟨p2132, c2133, sg2134, ho2135, M2127, hS2128⟩
    refine G_use hS2128 ?_
    refine G_seq ?_
    refine G_seq ?_
    refine G_region ?_
    refine W_run 2 [(0, .pointer (some ⟨b2011, 0, none⟩)), (3, .slice p2132 s2122.1.length c2133), (4, .int .i64 s2122.2.1), (5, .int .i64 s2122.2.2.1), (13, .bool (decide (s2122.2.2.1 > 0)))] w2126 (by kernel_rfl) ?_
    refine W_nil ?_
    refine N_then ?_
    rcases gx_bif hm with ⟨hc2143, hm⟩ | ⟨hc2143, hm⟩
    · refine G_cond_t (b := (decide (s2122.2.2.1 > 0))) hc2143 (by kernel_rfl) ?_
      refine G_skip ?_
      refine N_then ?_
      refine G_seq ?_
      refine G_block ?_
      refine G_seq ?_
      refine G_region ?_
      refine W_run 3 [(0, .pointer (some ⟨b2011, 0, none⟩)), (3, .slice p2132 s2122.1.length c2133), (4, .int .i64 s2122.2.1), (5, .int .i64 s2122.2.2.1), (16, .slice p2132 s2122.1.length c2133), (17, .pointer (some ⟨b2011, 0, none⟩)), (18, .int .i64 s2122.2.1)] w2126 (by kernel_rfl) ?_
      obtain ⟨r2144, hr2144, hm⟩ := gx_bind hm
      refine W_call 33 #[.pointer (some ⟨b2011, 0, none⟩), .int .i64 s2122.2.1] (by kernel_rfl) (by kernel_rfl) ?_
      refine (c_s_l1Cur_event w2126 (⟨x2009.code, s2122.2.2.2.1, s2122.2.2.2.2⟩ : l1Cur) p2013 c2014 (h2015.memX hap2016 M2127) b2011 s2122.2.1 (M2127.hasPick [0]) (M2127.nodupPick [0] (by kernel_rfl)) (apartX.old h2015 hap2016 M2127 [0]) hr2144).mono ?_
      rintro e_ w2145 ⟨rfl, K2146⟩
      have M2147 := M2127.callF' [0] [1] (by kernel_rfl) K2146
      refine ⟨_, rfl, ?_⟩
      refine W_lit (E := encEvent) [r2144.1] 1 [.int .i64 r2144.1.Tick, .int .i64 r2144.1.Guest, .string r2144.1.Kind, .int .i64 r2144.1.Value] 25 M2147 (by kernel_rfl) (by kernel_rfl) (by kernel_rfl) (by kernel_rfl) (by kernel_rfl) ?_
      intro p2148 c2149 sg2150 w2151 ho2152 M2153
      obtain ⟨ap2155, hap2155, hm⟩ := gx_bind hm
      refine W_append (E := encEvent) _ _ _ 40 [.int .i64 0, .int .i64 0, .string ByteArray.empty, .int .i64 0] 0 c2149 M2153 ho2135 (by kernel_rfl) (by kernel_rfl) (by kernel_rfl) rfl (by kernel_rfl) (by kernel_rfl) (by kernel_rfl) (by kernel_rfl) (by kernel_rfl) (by kernel_rfl) (ho2152.rd M2153 2 (by kernel_rfl)) hap2155 ?_
      intro p2156 c2157 sg2158 w2159 ho2160 M2161
      refine W_run 1 [(0, .pointer (some ⟨b2011, 0, none⟩)), (3, .slice p2156 ap2155.length c2157), (4, .int .i64 s2122.2.1), (5, .int .i64 s2122.2.2.1)] w2159 (by kernel_rfl) ?_
      refine W_nil ?_
      refine N_then ?_
      refine G_region ?_
      refine W_run 2 [(0, .pointer (some ⟨b2011, 0, none⟩)), (3, .slice p2156 ap2155.length c2157), (4, .int .i64 s2122.2.1), (5, .int .i64 s2122.2.2.1), (22, .int .i64 s2122.2.1), (23, .pointer (some ⟨b2011, 0, none⟩))] w2159 (by kernel_rfl) ?_
      refine W_lit (E := Gx.encI) [0, 0, 1, 5, 30] 5 [.int .i64 0, .int .i64 0, .int .i64 1, .int .i64 5, .int .i64 30] 3 M2161 (by kernel_rfl) (by kernel_rfl) (by kernel_rfl) (by kernel_rfl) (by kernel_rfl) ?_
      intro p2163 c2164 sg2165 w2166 ho2167 M2168
      obtain ⟨r2170, hr2170, hm⟩ := gx_bind hm
      refine W_call 34 #[.pointer (some ⟨b2011, 0, none⟩), .slice p2163 [0, 0, 1, 5, 30].length c2164] (by kernel_rfl) (by kernel_rfl) ?_
      refine (c_s_l1Cur_among w2166 (⟨x2009.code, r2144.2.1, r2144.2.2⟩ : l1Cur) p2013 c2014 (h2015.memX hap2016 M2168) b2011 [0, 0, 1, 5, 30] p2163 c2164 (ho2167.rd M2168 3 (by kernel_rfl)) (M2168.hasPick [1]) (M2168.nodupPick [1] (by kernel_rfl)) (apartX.old h2015 hap2016 M2168 [1]) (apartX.own ho2167 M2168 3 (by kernel_rfl) [1] (by kernel_rfl)) hr2170).mono ?_
      rintro e_ w2171 ⟨rfl, K2172⟩
      have M2173 := M2168.callF' [1] [0, 2, 3] (by kernel_rfl) K2172
      refine ⟨_, rfl, ?_⟩
      refine W_run 1 [(0, .pointer (some ⟨b2011, 0, none⟩)), (3, .slice p2156 ap2155.length c2157), (4, .int .i64 s2122.2.1), (5, .int .i64 s2122.2.2.1), (26, .int .i64 (w64 (s2122.2.1 + r2170.1)))] w2171 (by kernel_rfl) ?_
      obtain ⟨r2174, hr2174, hm⟩ := gx_bind hm
      refine W_call 67 #[.int .i64 100000, .int .i64 (w64 (s2122.2.1 + r2170.1))] (by kernel_rfl) (by kernel_rfl) ?_
      refine (c_s_l1Least w2171 100000 (w64 (s2122.2.1 + r2170.1)) hr2174).mono ?_
      rintro e_ w2175 ⟨rfl, K2176⟩
      have M2177 := M2173.call0 K2176
      refine ⟨_, rfl, ?_⟩
      refine W_run 1 [(0, .pointer (some ⟨b2011, 0, none⟩)), (3, .slice p2156 ap2155.length c2157), (4, .int .i64 r2174), (5, .int .i64 s2122.2.2.1)] w2175 (by kernel_rfl) ?_
      refine W_nil ?_
      refine N_block ?_
      refine N_then ?_
      refine G_region ?_
      refine W_run 3 [(0, .pointer (some ⟨b2011, 0, none⟩)), (3, .slice p2156 ap2155.length c2157), (4, .int .i64 r2174), (5, .int .i64 (w64 (s2122.2.2.1 - 1)))] w2175 (by kernel_rfl) ?_
      refine W_nil ?_
      obtain rfl := Option.some.inj hm
      exact N_loop fun a ha => ⟨_, rfl, p2156, c2157, sg2158, ho2160, M2177.pick [3, 0] (by kernel_rfl), ha.sub (by kernel_rfl)⟩
    refine G_cond_f (b := (decide (s2122.2.2.1 > 0))) hc2143 (by kernel_rfl) ?_
    refine G_exit ?_
    refine N_then_exit ?_
    refine N_then_exit ?_
    refine N_block_eq ?_
    obtain rfl := Option.some.inj hm
    obtain rfl := hout2124 _ rfl
    exact N_meet fun a ha => ⟨p2132, c2133, sg2134, ho2135, M2127.pick [0, 1] (by kernel_rfl), ha.sub (by kernel_rfl)⟩
  intro a2178 w2179 ⟨p2138, c2139, sg2140, ho2141, M2180, hS2181⟩
  refine N_use hS2181 ?_
  have hm := hmo2131
  refine N_then ?_
  refine G_seq ?_
  refine G_seq ?_
  refine G_region ?_
  refine W_run 1 [(0, .pointer (some ⟨b2011, 0, none⟩)), (3, .slice p2138 out2129.1.length c2139), (28, .pointer (some ⟨b2011, 0, none⟩))] w2179 (by kernel_rfl) ?_
  obtain ⟨r2182, hr2182, hm⟩ := gx_bind hm
  refine W_call 65 #[.pointer (some ⟨b2011, 0, none⟩), .int .i64 30] (by kernel_rfl) (by kernel_rfl) ?_
  refine (c_s_l1Cur_pick w2179 (⟨x2009.code, out2129.2.1, out2129.2.2⟩ : l1Cur) p2013 c2014 (h2015.memX hap2016 M2180) b2011 30 (M2180.hasPick [0]) (M2180.nodupPick [0] (by kernel_rfl)) (apartX.old h2015 hap2016 M2180 [0]) hr2182).mono ?_
  rintro e_ w2183 ⟨rfl, K2184⟩
  have M2185 := M2180.callF' [0] [1] (by kernel_rfl) K2184
  refine ⟨_, rfl, ?_⟩
  refine W_nil ?_
  refine N_then ?_
  refine G_block ?_
  refine G_seq ?_
  refine G_region ?_
  refine W_run 2 [(0, .pointer (some ⟨b2011, 0, none⟩)), (3, .slice p2138 out2129.1.length c2139), (29, .int .i64 r2182.1), (30, .bool (r2182.1 == 0))] w2183 (by kernel_rfl) ?_
  refine W_nil ?_
  refine N_then ?_
  obtain ⟨o2400, ho2401, hm2402⟩ := gx_bind hm
  refine G_meet (fun a w' => ∃ (p2403 : Option Addr), ∃ (c2404 : Nat), ∃ (sg2405 : Seg), ownS encEvent o2400.1 p2403 c2404 sg2405 ∧ Mem (idsOf [[(b2011, .cells ⟨[.slice p2013 x2009.code.length c2014, .int .i64 x2009.at_, .int .u64 x2009.seed]⟩ 57 (0, 0))]]) w w' [[(b2011, .cells ⟨[.slice p2013 x2009.code.length c2014, .int .i64 o2400.2.1, .int .u64 o2400.2.2]⟩ 57 (0, 0))], sg2405] ∧ Sat Tryz.f39.ntmps [(3, .slice p2403 o2400.1.length c2404)] a) ?_ ?_
  · have hm := ho2401
    rcases gx_bif hm with ⟨hc2408, hm⟩ | ⟨hc2408, hm⟩
    · refine G_cond_t (b := (r2182.1 == 0)) hc2408 (by kernel_rfl) ?_
      refine G_region ?_
      refine W_run 2 [(3, .slice p2138 out2129.1.length c2139), (32, .slice p2138 out2129.1.length c2139), (33, .pointer (some ⟨b2011, 0, none⟩))] w2183 (by kernel_rfl) ?_
      obtain ⟨r2409, hr2409, hm⟩ := gx_bind hm
      refine W_call 33 #[.pointer (some ⟨b2011, 0, none⟩), .int .i64 1] (by kernel_rfl) (by kernel_rfl) ?_
      refine (c_s_l1Cur_event w2183 (⟨x2009.code, r2182.2.1, r2182.2.2⟩ : l1Cur) p2013 c2014 (h2015.memX hap2016 M2185) b2011 1 (M2185.hasPick [1]) (M2185.nodupPick [1] (by kernel_rfl)) (apartX.old h2015 hap2016 M2185 [1]) hr2409).mono ?_
      rintro e_ w2410 ⟨rfl, K2411⟩
      have M2412 := M2185.callF' [1] [0] (by kernel_rfl) K2411
      refine ⟨_, rfl, ?_⟩
      refine W_lit (E := encEvent) [r2409.1] 1 [.int .i64 r2409.1.Tick, .int .i64 r2409.1.Guest, .string r2409.1.Kind, .int .i64 r2409.1.Value] 25 M2412 (by kernel_rfl) (by kernel_rfl) (by kernel_rfl) (by kernel_rfl) (by kernel_rfl) ?_
      intro p2413 c2414 sg2415 w2416 ho2417 M2418
      obtain ⟨ap2420, hap2420, hm⟩ := gx_bind hm
      refine W_append (E := encEvent) _ _ _ 40 [.int .i64 0, .int .i64 0, .string ByteArray.empty, .int .i64 0] 0 c2414 M2418 ho2141 (by kernel_rfl) (by kernel_rfl) (by kernel_rfl) rfl (by kernel_rfl) (by kernel_rfl) (by kernel_rfl) (by kernel_rfl) (by kernel_rfl) (by kernel_rfl) (ho2417.rd M2418 2 (by kernel_rfl)) hap2420 ?_
      intro p2421 c2422 sg2423 w2424 ho2425 M2426
      refine W_run 1 [(3, .slice p2421 ap2420.length c2422)] w2424 (by kernel_rfl) ?_
      refine W_nil ?_
      obtain rfl := Option.some.inj hm
      exact N_meet fun a ha => ⟨p2421, c2422, sg2423, ho2425, M2426.pick [1, 0] (by kernel_rfl), ha.sub (by kernel_rfl)⟩
    refine G_cond_f (b := (r2182.1 == 0)) hc2408 (by kernel_rfl) ?_
    refine G_seq ?_
    refine G_region ?_
    refine W_run 2 [(0, .pointer (some ⟨b2011, 0, none⟩)), (3, .slice p2138 out2129.1.length c2139), (37, .bool (r2182.1 == 1))] w2183 (by kernel_rfl) ?_
    refine W_nil ?_
    refine N_then ?_
    obtain ⟨o2519, ho2520, hm2521⟩ := gx_bind hm
    refine G_meet (fun a w' => ∃ (p2522 : Option Addr), ∃ (c2523 : Nat), ∃ (sg2524 : Seg), ownS encEvent o2519.1 p2522 c2523 sg2524 ∧ Mem (idsOf [[(b2011, .cells ⟨[.slice p2013 x2009.code.length c2014, .int .i64 x2009.at_, .int .u64 x2009.seed]⟩ 57 (0, 0))]]) w w' [[(b2011, .cells ⟨[.slice p2013 x2009.code.length c2014, .int .i64 o2519.2.1, .int .u64 o2519.2.2]⟩ 57 (0, 0))], sg2524] ∧ Sat Tryz.f39.ntmps [(3, .slice p2522 o2519.1.length c2523)] a) ?_ ?_
    · have hm := ho2520
      rcases gx_bif hm with ⟨hc2527, hm⟩ | ⟨hc2527, hm⟩
      · refine G_cond_t (b := (r2182.1 == 1)) hc2527 (by kernel_rfl) ?_
        obtain ⟨out2580, hw2581, hmo2582⟩ := gx_bind hm
        refine G_meet (fun a w' => ∃ (p2589 : Option Addr), ∃ (c2590 : Nat), ∃ (sg2591 : Seg), ownS encEvent out2580.1 p2589 c2590 sg2591 ∧ Mem (idsOf [[(b2011, .cells ⟨[.slice p2013 x2009.code.length c2014, .int .i64 x2009.at_, .int .u64 x2009.seed]⟩ 57 (0, 0))]]) w w' [[(b2011, .cells ⟨[.slice p2013 x2009.code.length c2014, .int .i64 out2580.2.1, .int .u64 out2580.2.2]⟩ 57 (0, 0))], sg2591] ∧ Sat Tryz.f39.ntmps [(3, .slice p2589 out2580.1.length c2590)] a) ?_ ?_
        · refine G_block ?_
          refine G_while (σ := List Event × Int × Int) (ρ := List Event × Int × Int) (fun s2573 a w' => ∃ (p2583 : Option Addr), ∃ (c2584 : Nat), ∃ (sg2585 : Seg), ownS encEvent s2573.1 p2583 c2584 sg2585 ∧ Mem (idsOf [[(b2011, .cells ⟨[.slice p2013 x2009.code.length c2014, .int .i64 x2009.at_, .int .u64 x2009.seed]⟩ 57 (0, 0))]]) w w' [[(b2011, .cells ⟨[.slice p2013 x2009.code.length c2014, .int .i64 s2573.2.1, .int .u64 s2573.2.2]⟩ 57 (0, 0))], sg2585] ∧ Sat Tryz.f39.ntmps [(0, .pointer (some ⟨b2011, 0, none⟩)), (3, .slice p2583 s2573.1.length c2584)] a) hw2581 (fun a ha => ⟨p2138, c2139, sg2140, ho2141, M2185.pick [1, 0] (by kernel_rfl), ha.sub (by kernel_rfl)⟩) ?_
          clear hm
          intro s2573 x2574 hm hout2575 a2576 w2577 ⟨p2583, c2584, sg2585, ho2586, M2578, hS2579⟩
          refine G_use hS2579 ?_
          refine G_seq ?_
          refine G_seq ?_
          refine G_region ?_
          refine W_run 3 [(0, .pointer (some ⟨b2011, 0, none⟩)), (3, .slice p2583 s2573.1.length c2584), (40, .int .i64 (s2573.1.length : Int)), (41, .pointer (some ⟨b2011, 0, none⟩))] w2577 (by kernel_rfl) ?_
          obtain ⟨r2594, hr2594, hm⟩ := gx_bind hm
          refine W_call 65 #[.pointer (some ⟨b2011, 0, none⟩), .int .i64 2] (by kernel_rfl) (by kernel_rfl) ?_
          refine (c_s_l1Cur_pick w2577 (⟨x2009.code, s2573.2.1, s2573.2.2⟩ : l1Cur) p2013 c2014 (h2015.memX hap2016 M2578) b2011 2 (M2578.hasPick [0]) (M2578.nodupPick [0] (by kernel_rfl)) (apartX.old h2015 hap2016 M2578 [0]) hr2594).mono ?_
          rintro e_ w2595 ⟨rfl, K2596⟩
          have M2597 := M2578.callF' [0] [1] (by kernel_rfl) K2596
          refine ⟨_, rfl, ?_⟩
          refine W_run 2 [(0, .pointer (some ⟨b2011, 0, none⟩)), (3, .slice p2583 s2573.1.length c2584), (44, .bool (decide ((s2573.1.length : Int) < (w64 (30 + r2594.1)))))] w2595 (by kernel_rfl) ?_
          refine W_nil ?_
          refine N_then ?_
          rcases gx_bif hm with ⟨hc2598, hm⟩ | ⟨hc2598, hm⟩
          · refine G_cond_t (b := (decide ((s2573.1.length : Int) < (w64 (30 + r2594.1))))) hc2598 (by kernel_rfl) ?_
            refine G_skip ?_
            refine N_then ?_
            refine G_block ?_
            refine G_region ?_
            refine W_run 2 [(0, .pointer (some ⟨b2011, 0, none⟩)), (3, .slice p2583 s2573.1.length c2584), (45, .slice p2583 s2573.1.length c2584), (46, .agg #[.int .i64 100000, .int .i64 0, .string (ByteArray.mk #[120]), .int .i64 0])] w2595 (by kernel_rfl) ?_
            refine W_lit (E := encEvent) [(⟨100000, 0, (ByteArray.mk #[120]), 0⟩ : Event)] 1 [.int .i64 100000, .int .i64 0, .string (ByteArray.mk #[120]), .int .i64 0] 25 M2597 (by kernel_rfl) (by kernel_rfl) (by kernel_rfl) (by kernel_rfl) (by kernel_rfl) ?_
            intro p2599 c2600 sg2601 w2602 ho2603 M2604
            obtain ⟨ap2606, hap2606, hm⟩ := gx_bind hm
            refine W_append (E := encEvent) _ _ _ 40 [.int .i64 0, .int .i64 0, .string ByteArray.empty, .int .i64 0] 0 c2600 M2604 ho2586 (by kernel_rfl) (by kernel_rfl) (by kernel_rfl) rfl (by kernel_rfl) (by kernel_rfl) (by kernel_rfl) (by kernel_rfl) (by kernel_rfl) (by kernel_rfl) (ho2603.rd M2604 2 (by kernel_rfl)) hap2606 ?_
            intro p2607 c2608 sg2609 w2610 ho2611 M2612
            refine W_run 1 [(0, .pointer (some ⟨b2011, 0, none⟩)), (3, .slice p2607 ap2606.length c2608)] w2610 (by kernel_rfl) ?_
            refine W_nil ?_
            refine N_block ?_
            obtain rfl := Option.some.inj hm
            exact N_loop fun a ha => ⟨_, rfl, p2607, c2608, sg2609, ho2611, M2612.pick [1, 0] (by kernel_rfl), ha.sub (by kernel_rfl)⟩
          refine G_cond_f (b := (decide ((s2573.1.length : Int) < (w64 (30 + r2594.1))))) hc2598 (by kernel_rfl) ?_
          refine G_exit ?_
          refine N_then_exit ?_
          refine N_then_exit ?_
          refine N_block_eq ?_
          obtain rfl := Option.some.inj hm
          obtain rfl := hout2575 _ rfl
          exact N_meet fun a ha => ⟨p2583, c2584, sg2585, ho2586, M2597.pick [1, 0] (by kernel_rfl), ha.sub (by kernel_rfl)⟩
        intro a2614 w2615 ⟨p2589, c2590, sg2591, ho2592, M2616, hS2617⟩
        refine N_use hS2617 ?_
        have hm := hmo2582
        obtain rfl := Option.some.inj hm
        exact N_meet fun a ha => ⟨p2589, c2590, sg2591, ho2592, M2616.pick [0, 1] (by kernel_rfl), ha.sub (by kernel_rfl)⟩
      refine G_cond_f (b := (r2182.1 == 1)) hc2527 (by kernel_rfl) ?_
      refine G_skip ?_
      obtain rfl := Option.some.inj hm
      exact N_meet fun a ha => ⟨p2138, c2139, sg2140, ho2141, M2185.pick [1, 0] (by kernel_rfl), ha.sub (by kernel_rfl)⟩
    intro a2620 w2618 ⟨p2522, c2523, sg2524, ho2525, M2619, hS2621⟩
    refine N_use hS2621 ?_
    have hm := hm2521
    obtain rfl := Option.some.inj hm
    exact N_meet fun a ha => ⟨p2522, c2523, sg2524, ho2525, M2619.pick [0, 1] (by kernel_rfl), ha.sub (by kernel_rfl)⟩
  intro a2624 w2622 ⟨p2403, c2404, sg2405, ho2406, M2623, hS2625⟩
  refine N_use hS2625 ?_
  have hm := hm2402
  refine N_block ?_
  refine N_then ?_
  refine G_seq ?_
  refine G_region ?_
  refine W_run 2 [(2, .slice p2403 o2400.1.length c2404)] w2622 (by kernel_rfl) ?_
  refine W_nil ?_
  refine N_then ?_
  refine G_ret ?_
  obtain rfl := Option.some.inj hm
  refine N_ret [.slice p2403 o2400.1.length c2404] (RVs_cons (RV_tmp (by kernel_rfl)) RVs_nil) ?_
  exact ⟨p2403, c2404, sg2405, rfl, ho2406, M2623.pick [0, 1] (by kernel_rfl)⟩
theorem c_s_l1Cur_guest22 (w : World) (x2635 : l1Cur) (p2639 : Option Addr) (c2640 : Nat) (h2641 : rdS Gx.encU8 w x2635.code p2639 c2640) (b2637 : Nat) (hA : ∀ q ∈ List.flatten [[(b2637, .cells ⟨[.slice p2639 x2635.code.length c2640, .int .i64 x2635.at_, .int .u64 x2635.seed]⟩ 57 (0, 0))]], w.heap[q.1]? = some q.2) (hN : (idsOf [[(b2637, .cells ⟨[.slice p2639 x2635.code.length c2640, .int .i64 x2635.at_, .int .u64 x2635.seed]⟩ 57 (0, 0))]]).Nodup) (hap2642 : apartX (idsOf [[(b2637, .cells ⟨[.slice p2639 x2635.code.length c2640, .int .i64 x2635.at_, .int .u64 x2635.seed]⟩ 57 (0, 0))]]) x2635.code p2639) {r : Int × Int × Int} (hm : M.s_l1Cur_guest22 x2635 = some r) :
    Calls Tryz.prog 40 #[.pointer (some ⟨b2637, 0, none⟩)] w fun e w' => e = .returned (.int .i64 r.1) ∧ Mem (idsOf [[(b2637, .cells ⟨[.slice p2639 x2635.code.length c2640, .int .i64 x2635.at_, .int .u64 x2635.seed]⟩ 57 (0, 0))]]) w w' [[(b2637, .cells ⟨[.slice p2639 x2635.code.length c2640, .int .i64 r.2.1, .int .u64 r.2.2]⟩ 57 (0, 0))]] := by
  unfold M.s_l1Cur_guest22 at hm
  refine C_enter Tryz.func40 rfl (by kernel_rfl) ?_
  have M0 := Mem.start' w [[(b2637, .cells ⟨[.slice p2639 x2635.code.length c2640, .int .i64 x2635.at_, .int .u64 x2635.seed]⟩ 57 (0, 0))]] hA hN
  refine G_seq ?_
  refine G_region ?_
  refine W_run 1 [(0, .pointer (some ⟨b2637, 0, none⟩))] w (by kernel_rfl) ?_
  refine W_nil ?_
  refine N_then ?_
  refine G_seq ?_
  refine G_region ?_
  refine W_run 1 [(0, .pointer (some ⟨b2637, 0, none⟩)), (3, .pointer (some ⟨b2637, 0, none⟩))] w (by kernel_rfl) ?_
  refine W_lit (E := Gx.encI) [0, 1, 2, 3, 4, (-1), 5] 7 [.int .i64 0, .int .i64 1, .int .i64 2, .int .i64 3, .int .i64 4, .int .i64 (-1), .int .i64 5] 3 M0 (by kernel_rfl) (by kernel_rfl) (by kernel_rfl) (by kernel_rfl) (by kernel_rfl) ?_
  intro p2643 c2644 sg2645 w2646 ho2647 M2648
  refine W_run 1 [(3, .pointer (some ⟨b2637, 0, none⟩)), (4, .slice p2643 [0, 1, 2, 3, 4, (-1), 5].length c2644), (5, .pointer (some ⟨b2637, 0, none⟩))] w2646 (by kernel_rfl) ?_
  obtain ⟨r2650, hr2650, hm⟩ := gx_bind hm
  refine W_call 65 #[.pointer (some ⟨b2637, 0, none⟩), .int .i64 24] (by kernel_rfl) (by kernel_rfl) ?_
  refine (c_s_l1Cur_pick w2646 x2635 p2639 c2640 (h2641.memX hap2642 M2648) b2637 24 (M2648.hasPick [0]) (M2648.nodupPick [0] (by kernel_rfl)) (apartX.old h2641 hap2642 M2648 [0]) hr2650).mono ?_
  rintro e_ w2651 ⟨rfl, K2652⟩
  have M2653 := M2648.callF' [0] [1] (by kernel_rfl) K2652
  refine ⟨_, rfl, ?_⟩
  refine W_run 2 [(3, .pointer (some ⟨b2637, 0, none⟩)), (4, .slice p2643 [0, 1, 2, 3, 4, (-1), 5].length c2644), (8, .int .i64 (w64 (5 + (w64 (r2650.1.tdiv 11)))))] w2651 (by kernel_rfl) ?_
  obtain ⟨ys2654, hys2654, hm⟩ := gx_bind hm
  refine W_val (.slice (subP p2643 (0 : Int).toNat c2644 1) ys2654.length (c2644 - (0 : Int).toNat)) w2651 (by kernel_rfl) (E_slice (E := Gx.encI) _ _ _ _ [0, 1, 2, 3, 4, (-1), 5].length 0 (w64 (5 + (w64 (r2650.1.tdiv 11)))) rfl (by kernel_rfl) (Or.inl ⟨rfl, rfl⟩) (Or.inr ⟨_, rfl, by kernel_rfl⟩) (by kernel_rfl) (ho2647.rd M2653 0 (by kernel_rfl)) rfl hys2654) ?_
  obtain ⟨r2656, hr2656, hm⟩ := gx_bind hm
  refine W_call 34 #[.pointer (some ⟨b2637, 0, none⟩), .slice (subP p2643 (0 : Int).toNat c2644 1) ys2654.length (c2644 - (0 : Int).toNat)] (by kernel_rfl) (by kernel_rfl) ?_
  refine (c_s_l1Cur_among w2651 (⟨x2635.code, r2650.2.1, r2650.2.2⟩ : l1Cur) p2639 c2640 (h2641.memX hap2642 M2653) b2637 ys2654 (subP p2643 (0 : Int).toNat c2644 1) (c2644 - (0 : Int).toNat) ((ho2647.rd M2653 0 (by kernel_rfl)).sliceM hys2654) (M2653.hasPick [1]) (M2653.nodupPick [1] (by kernel_rfl)) (apartX.old h2641 hap2642 M2653 [1]) (apartX.slice (apartX.own ho2647 M2653 0 (by kernel_rfl) [1] (by kernel_rfl)) hys2654) hr2656).mono ?_
  rintro e_ w2657 ⟨rfl, K2658⟩
  have M2659 := M2653.callF' [1] [0] (by kernel_rfl) K2658
  refine ⟨_, rfl, ?_⟩
  refine W_run 1 [(2, .int .i64 r2656.1)] w2657 (by kernel_rfl) ?_
  refine W_nil ?_
  refine N_then ?_
  refine G_ret ?_
  obtain rfl := Option.some.inj hm
  refine N_ret [.int .i64 r2656.1] (RVs_cons (RV_tmp (by kernel_rfl)) RVs_nil) ?_
  exact ⟨rfl, M2659.pick [1] (by kernel_rfl)⟩
theorem c_s_DrawEventsOf (w : World) (x1994 : List Int) (p1996 : Option Addr) (c1997 : Nat) (h1998 : rdS Gx.encU8 w x1994 p1996 c1997) {r : (List Event) × Int} (hm : M.s_DrawEventsOf x1994 = some r) :
    Calls Tryz.prog 12 #[.slice p1996 x1994.length c1997] w fun e w' => ∃ (p2000 : Option Addr) (c2001 : Nat) (sg2002 : Seg), e = .returned (.tuple #[.slice p2000 r.1.length c2001, .int .i64 r.2]) ∧ ownS encEvent r.1 p2000 c2001 sg2002 ∧ Mem [] w w' [sg2002] := by
  unfold M.s_DrawEventsOf at hm
  refine C_enter Tryz.func12 rfl (by kernel_rfl) ?_
  have M0 := Mem.refl [] w
  refine G_seq ?_
  refine G_region ?_
  refine W_run 2 [(0, .slice p1996 x1994.length c1997)] w (by kernel_rfl) ?_
  refine W_nil ?_
  refine N_then ?_
  refine G_seq ?_
  refine G_region ?_
  refine W_run 2 [(7, .agg #[.slice p1996 x1994.length c1997, .int .i64 0, .int .u64 0])] w (by kernel_rfl) ?_
  refine W_new (fun b => .pointer (some ⟨b, 0, none⟩)) (.cells ⟨[.slice p1996 x1994.length c1997, .int .i64 0, .int .u64 0]⟩ 57 (0, 0)) M0 rfl (by kernel_rfl) (by kernel_rfl) ?_
  intro b2006 w2007 M2008
  refine W_run 1 [(4, .pointer (some ⟨b2006, 0, none⟩))] w2007 (by kernel_rfl) ?_
  refine W_nil ?_
  refine N_then ?_
  refine G_seq ?_
  refine G_region ?_
  refine W_run 1 [(4, .pointer (some ⟨b2006, 0, none⟩)), (9, .pointer (some ⟨b2006, 0, none⟩))] w2007 (by kernel_rfl) ?_
  obtain ⟨r2626, hr2626, hm⟩ := gx_bind hm
  refine W_call 39 #[.pointer (some ⟨b2006, 0, none⟩)] (by kernel_rfl) (by kernel_rfl) ?_
  refine (c_s_l1Cur_record22 w2007 (⟨x1994, 0, 0⟩ : l1Cur) p1996 c1997 (h1998.mem0 M2008) b2006 (M2008.hasPick [0]) (M2008.nodupPick [0] (by kernel_rfl)) (apartX.old0 h1998 M2008 [0]) hr2626).mono ?_
  rintro e_ w2632 ⟨p2628, c2629, sg2630, rfl, ho2631, K2633⟩
  have M2634 := M2008.callF' [0] [] (by kernel_rfl) K2633
  refine ⟨_, rfl, ?_⟩
  refine W_run 1 [(4, .pointer (some ⟨b2006, 0, none⟩)), (5, .slice p2628 r2626.1.length c2629)] w2632 (by kernel_rfl) ?_
  refine W_nil ?_
  refine N_then ?_
  refine G_seq ?_
  refine G_region ?_
  refine W_run 2 [(11, .slice p2628 r2626.1.length c2629), (12, .pointer (some ⟨b2006, 0, none⟩))] w2632 (by kernel_rfl) ?_
  obtain ⟨r2660, hr2660, hm⟩ := gx_bind hm
  refine W_call 40 #[.pointer (some ⟨b2006, 0, none⟩)] (by kernel_rfl) (by kernel_rfl) ?_
  refine (c_s_l1Cur_guest22 w2632 (⟨x1994, r2626.2.1, r2626.2.2⟩ : l1Cur) p1996 c1997 (h1998.mem0 M2634) b2006 (M2634.hasPick [0]) (M2634.nodupPick [0] (by kernel_rfl)) (apartX.old0 h1998 M2634 [0]) hr2660).mono ?_
  rintro e_ w2661 ⟨rfl, K2662⟩
  have M2663 := M2634.callF' [0] [1] (by kernel_rfl) K2662
  refine ⟨_, rfl, ?_⟩
  refine W_run 2 [(2, .slice p2628 r2626.1.length c2629), (3, .int .i64 r2660.1)] w2661 (by kernel_rfl) ?_
  refine W_nil ?_
  refine N_then ?_
  refine G_ret ?_
  obtain rfl := Option.some.inj hm
  refine N_ret [.slice p2628 r2626.1.length c2629, .int .i64 r2660.1] (RVs_cons (RV_tmp (by kernel_rfl)) (RVs_cons (RV_tmp (by kernel_rfl)) RVs_nil)) ?_
  exact ⟨p2628, c2629, sg2630, rfl, ho2631, M2663.pick [0] (by kernel_rfl)⟩
theorem c_i_IsRecord (w : World) (x2688 : List Event) (p2690 : Option Addr) (c2691 : Nat) (h2692 : rdS encEvent w x2688 p2690 c2691) {r : Bool} (hm : M.i_IsRecord x2688 = some r) :
    Calls Tryz.prog 41 #[.slice p2690 x2688.length c2691] w fun e w' => e = .returned (.bool r) ∧ Mem [] w w' [] := by
  unfold M.i_IsRecord at hm
  refine C_enter Tryz.func41 rfl (by kernel_rfl) ?_
  have M0 := Mem.refl [] w
  refine G_seq ?_
  refine G_region ?_
  refine W_run 1 [(0, .slice p2690 x2688.length c2691)] w (by kernel_rfl) ?_
  refine W_nil ?_
  refine N_then ?_
  refine G_seq ?_
  refine G_seq ?_
  refine G_region ?_
  refine W_run 3 [(0, .slice p2690 x2688.length c2691), (5, .slice p2690 x2688.length c2691), (6, .int .i64 (x2688.length : Int)), (7, .int .i64 0)] w (by kernel_rfl) ?_
  refine W_nil ?_
  refine N_then ?_
  obtain ⟨out2784, hw2785, hmo2786⟩ := gx_bind hm
  refine G_meet (fun a w' => ∃ (o2787 : Unit), out2784 = .inl o2787 ∧ Mem [] w w' [] ∧ Sat Tryz.f41.ntmps [(0, .slice p2690 x2688.length c2691)] a) ?_ ?_
  · refine G_block ?_
    refine G_while (σ := Int) (ρ := (Unit) ⊕ (Bool)) (fun s2777 a w' => Mem [] w w' [] ∧ Sat Tryz.f41.ntmps [(0, .slice p2690 x2688.length c2691), (5, .slice p2690 x2688.length c2691), (6, .int .i64 (x2688.length : Int)), (7, .int .i64 s2777)] a) hw2785 (fun a ha => ⟨M0.pick [] (by kernel_rfl), ha.sub (by kernel_rfl)⟩) ?_
    clear hm
    intro s2777 x2778 hm hout2779 a2780 w2781 ⟨M2782, hS2783⟩
    refine G_use hS2783 ?_
    refine G_seq ?_
    refine G_region ?_
    refine W_run 1 [(0, .slice p2690 x2688.length c2691), (5, .slice p2690 x2688.length c2691), (6, .int .i64 (x2688.length : Int)), (7, .int .i64 s2777), (8, .bool (decide (s2777 < (x2688.length : Int))))] w2781 (by kernel_rfl) ?_
    refine W_nil ?_
    refine N_then ?_
    refine G_seq ?_
    rcases gx_bif hm with ⟨hc2788, hm⟩ | ⟨hc2788, hm⟩
    · refine G_cond_t (b := (decide (s2777 < (x2688.length : Int)))) hc2788 (by kernel_rfl) ?_
      refine G_skip ?_
      refine N_then ?_
      refine G_seq ?_
      refine G_block ?_
      refine G_seq ?_
      refine G_region ?_
      refine W_run 1 [(0, .slice p2690 x2688.length c2691), (5, .slice p2690 x2688.length c2691), (6, .int .i64 (x2688.length : Int)), (7, .int .i64 s2777), (9, .int .i64 s2777)] w2781 (by kernel_rfl) ?_
      obtain ⟨y2789, hy2789, hm⟩ := gx_bind hm
      refine W_val (elemP p2690 (s2777.toNat * 4)) w2781 (by kernel_rfl) (E_index (E := encEvent) _ _ _ x2688.length c2691 .i64 s2777 4 (y := y2789) rfl (by kernel_rfl) (by kernel_rfl) (by kernel_rfl) (h2692.mem0 M2782) rfl hy2789) ?_
      refine W_val (.agg #[.int .i64 y2789.Tick, .int .i64 y2789.Guest, .string y2789.Kind, .int .i64 y2789.Value]) w2781 (by kernel_rfl) (E_loadE (E := encEvent) _ _ true 4 s2777 0 (s2777.toNat * 4) y2789 (.agg #[.int .i64 y2789.Tick, .int .i64 y2789.Guest, .string y2789.Kind, .int .i64 y2789.Value]) rfl (by kernel_rfl) (by kernel_rfl) (by kernel_rfl) (h2692.mem0 M2782) hy2789 rfl) ?_
      refine W_new (fun b => .pointer (some ⟨b, 0, none⟩)) (.cells ⟨[.int .i64 0, .int .i64 0, .string ByteArray.empty, .int .i64 0]⟩ 25 (0, 0)) M2782 rfl (by kernel_rfl) (by kernel_rfl) ?_
      intro b2791 w2792 M2793
      refine W_run 1 [(0, .slice p2690 x2688.length c2691), (3, .int .i64 s2777), (4, .pointer (some ⟨b2791, 0, none⟩)), (5, .slice p2690 x2688.length c2691), (6, .int .i64 (x2688.length : Int)), (7, .int .i64 s2777), (11, .agg #[.int .i64 y2789.Tick, .int .i64 y2789.Guest, .string y2789.Kind, .int .i64 y2789.Value])] w2792 (by kernel_rfl) ?_
      refine W_store _ _ _ true 4 b2791 0 [.int .i64 0, .int .i64 0, .string ByteArray.empty, .int .i64 0] 25 (.agg #[.int .i64 y2789.Tick, .int .i64 y2789.Guest, .string y2789.Kind, .int .i64 y2789.Value]) 0 [.int .i64 y2789.Tick, .int .i64 y2789.Guest, .string y2789.Kind, .int .i64 y2789.Value] M2793 (by kernel_rfl) rfl (by kernel_rfl) (by kernel_rfl) (by kernel_rfl) (by kernel_rfl) (by kernel_rfl) (by kernel_rfl) (by kernel_rfl) (by kernel_rfl) ?_
      intro w2794 M2795
      refine W_nil ?_
      refine N_then ?_
      refine G_seq ?_
      obtain ⟨o2809, ho2810, hm2811⟩ := gx_bind hm
      refine G_meet (fun a w' => Mem [] w w' [] ∧ Sat Tryz.f41.ntmps [(0, .slice p2690 x2688.length c2691), (5, .slice p2690 x2688.length c2691), (6, .int .i64 (x2688.length : Int)), (7, .int .i64 s2777), (29, .bool o2809)] a) ?_ ?_
      · have hm := ho2810
        refine G_quiet (by kernel_rfl) (by kernel_rfl) M2795 ?_
        refine Z_val (.agg #[.int .i64 y2789.Tick, .int .i64 y2789.Guest, .string y2789.Kind, .int .i64 y2789.Value]) (by kernel_rfl) (fun w_ M_ => (E_load (e := 25) (fr := (0, 0)) _ _ true 4 b2791 0 [.int .i64 y2789.Tick, .int .i64 y2789.Guest, .string y2789.Kind, .int .i64 y2789.Value] (.agg #[.int .i64 y2789.Tick, .int .i64 y2789.Guest, .string y2789.Kind, .int .i64 y2789.Value]) rfl (by kernel_rfl) (by kernel_rfl) (by kernel_rfl) (M_.blk 0 (b := b2791) (o := .cells ⟨[.int .i64 y2789.Tick, .int .i64 y2789.Guest, .string y2789.Kind, .int .i64 y2789.Value]⟩ 25 (0, 0)) (by kernel_rfl)))) ?_
        obtain ⟨r2812, hr2812, hm⟩ := gx_bind hm
        refine Z_call 8 #[.agg #[.int .i64 y2789.Tick, .int .i64 y2789.Guest, .string y2789.Kind, .int .i64 y2789.Value]] (.bool r2812) (by kernel_rfl) (fun w_ => by kernel_rfl) (fun w_ M_ => (c_i_IsEvent w_ y2789 hr2812).mono fun e w2_ h_ => ⟨h_.1, M_.call0 h_.2⟩) ?_
        refine Z_runs [.bool (!r2812), .bool (!r2812)] [(0, .slice p2690 x2688.length c2691), (3, .int .i64 s2777), (4, .pointer (some ⟨b2791, 0, none⟩)), (5, .slice p2690 x2688.length c2691), (6, .int .i64 (x2688.length : Int)), (7, .int .i64 s2777), (15, .bool (!r2812))] (fun w_ => by kernel_rfl) (by kernel_rfl) ?_
        rcases gx_bif hm with ⟨hc2816, hm⟩ | ⟨hc2816, hm⟩
        · refine Z_known 15 true (by kernel_rfl) hc2816 ?_
          refine Z_runs [undef, undef, undef, undef, undef, undef, undef, undef, undef, undef, undef, undef, undef, .bool true] [(0, .slice p2690 x2688.length c2691), (5, .slice p2690 x2688.length c2691), (6, .int .i64 (x2688.length : Int)), (7, .int .i64 s2777), (29, .bool true)] (fun w_ => by kernel_rfl) (by kernel_rfl) ?_
          refine Z_end fun w2817 M2818 => ?_
          obtain rfl := Option.some.inj hm
          exact N_meet fun a ha => ⟨M2818.pick [] (by kernel_rfl), ha.sub (by kernel_rfl)⟩
        refine Z_known 15 false (by kernel_rfl) hc2816 ?_
        refine Z_runs [.int .i64 s2777, .bool (decide (s2777 > 0)), .bool (decide (s2777 > 0))] [(0, .slice p2690 x2688.length c2691), (3, .int .i64 s2777), (4, .pointer (some ⟨b2791, 0, none⟩)), (5, .slice p2690 x2688.length c2691), (6, .int .i64 (x2688.length : Int)), (7, .int .i64 s2777), (15, .bool false), (18, .bool (decide (s2777 > 0)))] (fun w_ => by kernel_rfl) (by kernel_rfl) ?_
        rcases gx_bif hm with ⟨hc2819, hm⟩ | ⟨hc2819, hm⟩
        · refine Z_known 18 true (by kernel_rfl) hc2819 ?_
          refine Z_runs [.slice p2690 x2688.length c2691, .int .i64 s2777, .int .i64 (w64 (s2777 - 1))] [(0, .slice p2690 x2688.length c2691), (4, .pointer (some ⟨b2791, 0, none⟩)), (5, .slice p2690 x2688.length c2691), (6, .int .i64 (x2688.length : Int)), (7, .int .i64 s2777), (15, .bool false), (18, .bool true), (19, .slice p2690 x2688.length c2691), (21, .int .i64 (w64 (s2777 - 1)))] (fun w_ => by kernel_rfl) (by kernel_rfl) ?_
          obtain ⟨y2820, hy2820, hm⟩ := gx_bind hm
          refine Z_val (elemP p2690 ((w64 (s2777 - 1)).toNat * 4)) (by kernel_rfl) (fun w_ M_ => (E_index (E := encEvent) _ _ _ x2688.length c2691 .i64 (w64 (s2777 - 1)) 4 (y := y2820) rfl (by kernel_rfl) (by kernel_rfl) (by kernel_rfl) (h2692.mem0 M_) rfl hy2820)) ?_
          refine Z_val (elemP p2690 ((w64 (s2777 - 1)).toNat * 4 + 0)) (by kernel_rfl) (fun w_ M_ => (E_fieldE (E := encEvent) _ _ 0 ((w64 (s2777 - 1)).toNat * 4) 0 rfl (by kernel_rfl) (by kernel_rfl) (h2692.mem0 M_) hy2820)) ?_
          refine Z_val (.int .i64 y2820.Tick) (by kernel_rfl) (fun w_ M_ => (E_loadE (E := encEvent) _ _ false 1 (w64 (s2777 - 1)) 0 ((w64 (s2777 - 1)).toNat * 4 + 0) y2820 (.int .i64 y2820.Tick) rfl (by kernel_rfl) (by kernel_rfl) (by kernel_rfl) (h2692.mem0 M_) hy2820 rfl)) ?_
          refine Z_runs [.pointer (some ⟨b2791, 0, none⟩)] [(0, .slice p2690 x2688.length c2691), (5, .slice p2690 x2688.length c2691), (6, .int .i64 (x2688.length : Int)), (7, .int .i64 s2777), (15, .bool false), (18, .bool true), (24, .int .i64 y2820.Tick), (25, .pointer (some ⟨b2791, 0, none⟩))] (fun w_ => by kernel_rfl) (by kernel_rfl) ?_
          refine Z_val (.int .i64 y2789.Tick) (by kernel_rfl) (fun w_ M_ => (E_load (e := 25) (fr := (0, 0)) _ _ false 1 b2791 0 [.int .i64 y2789.Tick, .int .i64 y2789.Guest, .string y2789.Kind, .int .i64 y2789.Value] (.int .i64 y2789.Tick) rfl (by kernel_rfl) (by kernel_rfl) (by kernel_rfl) (M_.blk 0 (b := b2791) (o := .cells ⟨[.int .i64 y2789.Tick, .int .i64 y2789.Guest, .string y2789.Kind, .int .i64 y2789.Value]⟩ 25 (0, 0)) (by kernel_rfl)))) ?_
          refine Z_runs [.bool (decide (y2820.Tick > y2789.Tick)), .bool (decide (y2820.Tick > y2789.Tick)), .bool (decide (y2820.Tick > y2789.Tick))] [(0, .slice p2690 x2688.length c2691), (5, .slice p2690 x2688.length c2691), (6, .int .i64 (x2688.length : Int)), (7, .int .i64 s2777), (29, .bool (decide (y2820.Tick > y2789.Tick)))] (fun w_ => by kernel_rfl) (by kernel_rfl) ?_
          refine Z_end fun w2821 M2822 => ?_
          obtain rfl := Option.some.inj hm
          exact N_meet fun a ha => ⟨M2822.pick [] (by kernel_rfl), ha.sub (by kernel_rfl)⟩
        refine Z_known 18 false (by kernel_rfl) hc2819 ?_
        refine Z_runs [undef, undef, undef, undef, undef, undef, undef, undef, undef, .bool false, .bool false] [(0, .slice p2690 x2688.length c2691), (5, .slice p2690 x2688.length c2691), (6, .int .i64 (x2688.length : Int)), (7, .int .i64 s2777), (29, .bool false)] (fun w_ => by kernel_rfl) (by kernel_rfl) ?_
        refine Z_end fun w2823 M2824 => ?_
        obtain rfl := Option.some.inj hm
        exact N_meet fun a ha => ⟨M2824.pick [] (by kernel_rfl), ha.sub (by kernel_rfl)⟩
      intro a2827 w2825 ⟨M2826, hS2828⟩
      refine N_use hS2828 ?_
      have hm := hm2811
      refine N_then ?_
      rcases gx_bif hm with ⟨hc2829, hm⟩ | ⟨hc2829, hm⟩
      · refine G_cond_t (b := o2809) hc2829 (by kernel_rfl) ?_
        refine G_seq ?_
        refine G_region ?_
        refine W_run 1 [(2, .bool false)] w2825 (by kernel_rfl) ?_
        refine W_nil ?_
        refine N_then ?_
        refine G_ret ?_
        refine N_block_ret ?_
        refine N_then_ret ?_
        refine N_then_ret ?_
        obtain rfl := Option.some.inj hm
        obtain rfl := hout2779 _ rfl
        have hm := hmo2786; simp only [Sum.elim_inr] at hm
        refine N_block_ret ?_
        refine N_meet_ret ?_
        refine N_then_ret ?_
        obtain rfl := Option.some.inj hm
        refine N_ret [.bool false] (RVs_cons (RV_tmp (by kernel_rfl)) RVs_nil) ?_
        exact ⟨rfl, M2826.pick [] (by kernel_rfl)⟩
      refine G_cond_f (b := o2809) hc2829 (by kernel_rfl) ?_
      refine G_skip ?_
      refine N_block ?_
      refine N_then ?_
      refine G_region ?_
      refine W_run 2 [(0, .slice p2690 x2688.length c2691), (5, .slice p2690 x2688.length c2691), (6, .int .i64 (x2688.length : Int)), (7, .int .i64 (w64 (s2777 + 1)))] w2825 (by kernel_rfl) ?_
      refine W_nil ?_
      obtain rfl := Option.some.inj hm
      exact N_loop fun a ha => ⟨_, rfl, M2826.pick [] (by kernel_rfl), ha.sub (by kernel_rfl)⟩
    refine G_cond_f (b := (decide (s2777 < (x2688.length : Int)))) hc2788 (by kernel_rfl) ?_
    refine G_exit ?_
    refine N_then_exit ?_
    refine N_then_exit ?_
    refine N_block_eq ?_
    obtain rfl := Option.some.inj hm
    obtain rfl := hout2779 _ rfl
    exact N_meet fun a ha => ⟨_, rfl, M2782.pick [] (by kernel_rfl), ha.sub (by kernel_rfl)⟩
  intro a2830 w2831 ⟨o2787, hout_, M2832, hS2833⟩
  refine N_use hS2833 ?_
  subst hout_
  have hm := hmo2786; simp only [Sum.elim_inl] at hm
  refine N_then ?_
  refine G_seq ?_
  refine G_region ?_
  refine W_run 4 [(2, .bool (decide ((x2688.length : Int) ≤ 30)))] w2831 (by kernel_rfl) ?_
  refine W_nil ?_
  refine N_then ?_
  refine G_ret ?_
  obtain rfl := Option.some.inj hm
  refine N_ret [.bool (decide ((x2688.length : Int) ≤ 30))] (RVs_cons (RV_tmp (by kernel_rfl)) RVs_nil) ?_
  exact ⟨rfl, M2832.pick [] (by kernel_rfl)⟩
theorem c_i_EventsOf_1 (w : World) (x2937 : Event) (x2938 : Int) (b2939 : Nat) (hb2940 : w.heap[b2939]? = some (.cells ⟨[.int .i64 x2938]⟩ 3 (0, 0))) {r : Bool} (hm : M.i_EventsOf_1 x2937 x2938 = some r) :
    Calls Tryz.prog 43 #[.agg #[.int .i64 x2937.Tick, .int .i64 x2937.Guest, .string x2937.Kind, .int .i64 x2937.Value], .pointer (some ⟨b2939, 0, none⟩)] w fun e w' => e = .returned (.bool r) ∧ Mem [] w w' [] := by
  unfold M.i_EventsOf_1 at hm
  refine C_enter Tryz.func43 rfl (by kernel_rfl) ?_
  have M0 := Mem.refl [] w
  refine G_seq ?_
  refine G_region ?_
  refine W_new (fun b => .pointer (some ⟨b, 0, none⟩)) (.cells ⟨[.int .i64 x2937.Tick, .int .i64 x2937.Guest, .string x2937.Kind, .int .i64 x2937.Value]⟩ 25 (0, 0)) M0 rfl (by kernel_rfl) (by kernel_rfl) ?_
  intro b2943 w2944 M2945
  refine W_run 1 [(1, .pointer (some ⟨b2939, 0, none⟩)), (2, .pointer (some ⟨b2943, 0, none⟩))] w2944 (by kernel_rfl) ?_
  refine W_nil ?_
  refine N_then ?_
  refine G_seq ?_
  refine G_region ?_
  refine W_run 1 [(1, .pointer (some ⟨b2939, 0, none⟩)), (4, .pointer (some ⟨b2943, 1, none⟩))] w2944 (by kernel_rfl) ?_
  refine W_val (.int .i64 x2937.Guest) w2944 (by kernel_rfl) (E_load (e := 25) (fr := (0, 0)) _ _ false 1 b2943 1 [.int .i64 x2937.Tick, .int .i64 x2937.Guest, .string x2937.Kind, .int .i64 x2937.Value] (.int .i64 x2937.Guest) rfl (by kernel_rfl) (by kernel_rfl) (by kernel_rfl) (M2945.blk 0 (b := b2943) (o := .cells ⟨[.int .i64 x2937.Tick, .int .i64 x2937.Guest, .string x2937.Kind, .int .i64 x2937.Value]⟩ 25 (0, 0)) (by kernel_rfl))) ?_
  refine W_val (.int .i64 x2938) w2944 (by kernel_rfl) (E_load (e := 3) (fr := (0, 0)) _ _ false 1 b2939 0 [.int .i64 x2938] (.int .i64 x2938) rfl (by kernel_rfl) (by kernel_rfl) (by kernel_rfl) (M2945.ro hb2940)) ?_
  refine W_run 2 [(3, .bool (x2937.Guest == x2938))] w2944 (by kernel_rfl) ?_
  refine W_nil ?_
  refine N_then ?_
  refine G_ret ?_
  obtain rfl := Option.some.inj hm
  refine N_ret [.bool (x2937.Guest == x2938)] (RVs_cons (RV_tmp (by kernel_rfl)) RVs_nil) ?_
  exact ⟨rfl, M2945.pick [] (by kernel_rfl)⟩
theorem c_i_eventsWhere_1__i_EventsOf_1 (w : World) (x2925 : Event) (x2926 : Int) (b2927 : Nat) (hb2928 : w.heap[b2927]? = some (.cells ⟨[.int .i64 x2926]⟩ 3 (0, 0))) (b2930 : Nat) (hb2931 : w.heap[b2930]? = some (.cells ⟨[.func (.func 43) #[] #[.pointer (some ⟨b2927, 0, none⟩)]]⟩ 29 (0, 0))) {r : Bool} (hm : M.i_eventsWhere_1__i_EventsOf_1 x2925 x2926 = some r) :
    Calls Tryz.prog 69 #[.agg #[.int .i64 x2925.Tick, .int .i64 x2925.Guest, .string x2925.Kind, .int .i64 x2925.Value], .pointer (some ⟨b2930, 0, none⟩)] w fun e w' => e = .returned (.bool r) ∧ Mem [] w w' [] := by
  unfold M.i_eventsWhere_1__i_EventsOf_1 at hm
  refine C_enter Tryz.func69 rfl (by kernel_rfl) ?_
  have M0 := Mem.refl [] w
  refine G_seq ?_
  refine G_region ?_
  refine W_new (fun b => .pointer (some ⟨b, 0, none⟩)) (.cells ⟨[.int .i64 x2925.Tick, .int .i64 x2925.Guest, .string x2925.Kind, .int .i64 x2925.Value]⟩ 25 (0, 0)) M0 rfl (by kernel_rfl) (by kernel_rfl) ?_
  intro b2934 w2935 M2936
  refine W_run 1 [(1, .pointer (some ⟨b2930, 0, none⟩)), (2, .pointer (some ⟨b2934, 0, none⟩))] w2935 (by kernel_rfl) ?_
  refine W_nil ?_
  refine N_then ?_
  refine G_seq ?_
  refine G_region ?_
  refine W_val (.func (.func 43) #[] #[.pointer (some ⟨b2927, 0, none⟩)]) w2935 (by kernel_rfl) (E_load (e := 29) (fr := (0, 0)) _ _ false 1 b2930 0 [.func (.func 43) #[] #[.pointer (some ⟨b2927, 0, none⟩)]] (.func (.func 43) #[] #[.pointer (some ⟨b2927, 0, none⟩)]) rfl (by kernel_rfl) (by kernel_rfl) (by kernel_rfl) (M2936.ro hb2931)) ?_
  refine W_val (.agg #[.int .i64 x2925.Tick, .int .i64 x2925.Guest, .string x2925.Kind, .int .i64 x2925.Value]) w2935 (by kernel_rfl) (E_load (e := 25) (fr := (0, 0)) _ _ true 4 b2934 0 [.int .i64 x2925.Tick, .int .i64 x2925.Guest, .string x2925.Kind, .int .i64 x2925.Value] (.agg #[.int .i64 x2925.Tick, .int .i64 x2925.Guest, .string x2925.Kind, .int .i64 x2925.Value]) rfl (by kernel_rfl) (by kernel_rfl) (by kernel_rfl) (M2936.blk 0 (b := b2934) (o := .cells ⟨[.int .i64 x2925.Tick, .int .i64 x2925.Guest, .string x2925.Kind, .int .i64 x2925.Value]⟩ 25 (0, 0)) (by kernel_rfl))) ?_
  obtain ⟨r2946, hr2946, hm⟩ := gx_bind hm
  refine W_call 43 #[.agg #[.int .i64 x2925.Tick, .int .i64 x2925.Guest, .string x2925.Kind, .int .i64 x2925.Value], .pointer (some ⟨b2927, 0, none⟩)] (by kernel_rfl) (by kernel_rfl) ?_
  refine (c_i_EventsOf_1 w2935 x2925 x2926 b2927 (M2936.ro hb2928) hr2946).mono ?_
  rintro e_ w2947 ⟨rfl, K2948⟩
  have M2949 := M2936.call0 K2948
  refine ⟨_, rfl, ?_⟩
  refine W_run 2 [(3, .bool (!r2946))] w2947 (by kernel_rfl) ?_
  refine W_nil ?_
  refine N_then ?_
  refine G_ret ?_
  obtain rfl := Option.some.inj hm
  refine N_ret [.bool (!r2946)] (RVs_cons (RV_tmp (by kernel_rfl)) RVs_nil) ?_
  exact ⟨rfl, M2949.pick [] (by kernel_rfl)⟩
theorem c_slices_IndexFunc_83__i_eventsWhere_1__i_EventsOf_1 (w : World) (x2911 : List Event) (p2913 : Option Addr) (c2914 : Nat) (h2915 : rdS encEvent w x2911 p2913 c2914) (x2916 : Int) (b2917 : Nat) (hb2918 : w.heap[b2917]? = some (.cells ⟨[.int .i64 x2916]⟩ 3 (0, 0))) (b2920 : Nat) (hb2921 : w.heap[b2920]? = some (.cells ⟨[.func (.func 43) #[] #[.pointer (some ⟨b2917, 0, none⟩)]]⟩ 29 (0, 0))) {r : Int} (hm : M.slices_IndexFunc_83__i_eventsWhere_1__i_EventsOf_1 x2911 x2916 = some r) :
    Calls Tryz.prog 83 #[.slice p2913 x2911.length c2914, .func (.func 69) #[] #[.pointer (some ⟨b2920, 0, none⟩)]] w fun e w' => e = .returned (.int .i64 r) ∧ Mem [] w w' [] := by
  unfold M.slices_IndexFunc_83__i_eventsWhere_1__i_EventsOf_1 at hm
  refine C_enter Tryz.func83 rfl (by kernel_rfl) ?_
  have M0 := Mem.refl [] w
  refine G_seq ?_
  refine G_region ?_
  refine W_run 1 [(0, .slice p2913 x2911.length c2914), (1, .func (.func 69) #[] #[.pointer (some ⟨b2920, 0, none⟩)])] w (by kernel_rfl) ?_
  refine W_nil ?_
  refine N_then ?_
  refine G_seq ?_
  refine G_seq ?_
  refine G_region ?_
  refine W_run 3 [(0, .slice p2913 x2911.length c2914), (1, .func (.func 69) #[] #[.pointer (some ⟨b2920, 0, none⟩)]), (7, .int .i64 (x2911.length : Int)), (8, .int .i64 0)] w (by kernel_rfl) ?_
  refine W_nil ?_
  refine N_then ?_
  obtain ⟨out2969, hw2970, hmo2971⟩ := gx_bind hm
  refine G_meet (fun a w' => ∃ (o2972 : Unit), out2969 = .inl o2972 ∧ Mem [] w w' [] ∧ Sat Tryz.f83.ntmps [] a) ?_ ?_
  · refine G_block ?_
    refine G_while (σ := Int) (ρ := (Unit) ⊕ (Int)) (fun s2962 a w' => Mem [] w w' [] ∧ Sat Tryz.f83.ntmps [(0, .slice p2913 x2911.length c2914), (1, .func (.func 69) #[] #[.pointer (some ⟨b2920, 0, none⟩)]), (7, .int .i64 (x2911.length : Int)), (8, .int .i64 s2962)] a) hw2970 (fun a ha => ⟨M0.pick [] (by kernel_rfl), ha.sub (by kernel_rfl)⟩) ?_
    clear hm
    intro s2962 x2963 hm hout2964 a2965 w2966 ⟨M2967, hS2968⟩
    refine G_use hS2968 ?_
    refine G_seq ?_
    refine G_region ?_
    refine W_run 1 [(0, .slice p2913 x2911.length c2914), (1, .func (.func 69) #[] #[.pointer (some ⟨b2920, 0, none⟩)]), (7, .int .i64 (x2911.length : Int)), (8, .int .i64 s2962), (9, .bool (decide (s2962 < (x2911.length : Int))))] w2966 (by kernel_rfl) ?_
    refine W_nil ?_
    refine N_then ?_
    refine G_seq ?_
    rcases gx_bif hm with ⟨hc2973, hm⟩ | ⟨hc2973, hm⟩
    · refine G_cond_t (b := (decide (s2962 < (x2911.length : Int)))) hc2973 (by kernel_rfl) ?_
      refine G_skip ?_
      refine N_then ?_
      refine G_seq ?_
      refine G_block ?_
      refine G_seq ?_
      refine G_region ?_
      refine W_run 2 [(0, .slice p2913 x2911.length c2914), (1, .func (.func 69) #[] #[.pointer (some ⟨b2920, 0, none⟩)]), (5, .int .i64 s2962), (7, .int .i64 (x2911.length : Int)), (8, .int .i64 s2962)] w2966 (by kernel_rfl) ?_
      refine W_nil ?_
      refine N_then ?_
      refine G_seq ?_
      refine G_region ?_
      refine W_run 3 [(0, .slice p2913 x2911.length c2914), (1, .func (.func 69) #[] #[.pointer (some ⟨b2920, 0, none⟩)]), (5, .int .i64 s2962), (7, .int .i64 (x2911.length : Int)), (8, .int .i64 s2962), (11, .func (.func 69) #[] #[.pointer (some ⟨b2920, 0, none⟩)]), (12, .slice p2913 x2911.length c2914), (13, .int .i64 s2962)] w2966 (by kernel_rfl) ?_
      obtain ⟨y2974, hy2974, hm⟩ := gx_bind hm
      refine W_val (elemP p2913 (s2962.toNat * 4)) w2966 (by kernel_rfl) (E_index (E := encEvent) _ _ _ x2911.length c2914 .i64 s2962 4 (y := y2974) rfl (by kernel_rfl) (by kernel_rfl) (by kernel_rfl) (h2915.mem0 M2967) rfl hy2974) ?_
      refine W_val (.agg #[.int .i64 y2974.Tick, .int .i64 y2974.Guest, .string y2974.Kind, .int .i64 y2974.Value]) w2966 (by kernel_rfl) (E_loadE (E := encEvent) _ _ true 4 s2962 0 (s2962.toNat * 4) y2974 (.agg #[.int .i64 y2974.Tick, .int .i64 y2974.Guest, .string y2974.Kind, .int .i64 y2974.Value]) rfl (by kernel_rfl) (by kernel_rfl) (by kernel_rfl) (h2915.mem0 M2967) hy2974 rfl) ?_
      obtain ⟨r2975, hr2975, hm⟩ := gx_bind hm
      refine W_call 69 #[.agg #[.int .i64 y2974.Tick, .int .i64 y2974.Guest, .string y2974.Kind, .int .i64 y2974.Value], .pointer (some ⟨b2920, 0, none⟩)] (by kernel_rfl) (by kernel_rfl) ?_
      refine (c_i_eventsWhere_1__i_EventsOf_1 w2966 y2974 x2916 b2917 (M2967.ro hb2918) b2920 (M2967.ro hb2921) hr2975).mono ?_
      rintro e_ w2976 ⟨rfl, K2977⟩
      have M2978 := M2967.call0 K2977
      refine ⟨_, rfl, ?_⟩
      refine W_nil ?_
      refine N_then ?_
      rcases gx_bif hm with ⟨hc2979, hm⟩ | ⟨hc2979, hm⟩
      · refine G_cond_t (b := r2975) hc2979 (by kernel_rfl) ?_
        refine G_seq ?_
        refine G_region ?_
        refine W_run 2 [(4, .int .i64 s2962)] w2976 (by kernel_rfl) ?_
        refine W_nil ?_
        refine N_then ?_
        refine G_ret ?_
        refine N_block_ret ?_
        refine N_then_ret ?_
        refine N_then_ret ?_
        obtain rfl := Option.some.inj hm
        obtain rfl := hout2964 _ rfl
        have hm := hmo2971; simp only [Sum.elim_inr] at hm
        refine N_block_ret ?_
        refine N_meet_ret ?_
        refine N_then_ret ?_
        obtain rfl := Option.some.inj hm
        refine N_ret [.int .i64 s2962] (RVs_cons (RV_tmp (by kernel_rfl)) RVs_nil) ?_
        exact ⟨rfl, M2978.pick [] (by kernel_rfl)⟩
      refine G_cond_f (b := r2975) hc2979 (by kernel_rfl) ?_
      refine G_skip ?_
      refine N_block ?_
      refine N_then ?_
      refine G_region ?_
      refine W_run 2 [(0, .slice p2913 x2911.length c2914), (1, .func (.func 69) #[] #[.pointer (some ⟨b2920, 0, none⟩)]), (7, .int .i64 (x2911.length : Int)), (8, .int .i64 (w64 (s2962 + 1)))] w2976 (by kernel_rfl) ?_
      refine W_nil ?_
      obtain rfl := Option.some.inj hm
      exact N_loop fun a ha => ⟨_, rfl, M2978.pick [] (by kernel_rfl), ha.sub (by kernel_rfl)⟩
    refine G_cond_f (b := (decide (s2962 < (x2911.length : Int)))) hc2973 (by kernel_rfl) ?_
    refine G_exit ?_
    refine N_then_exit ?_
    refine N_then_exit ?_
    refine N_block_eq ?_
    obtain rfl := Option.some.inj hm
    obtain rfl := hout2964 _ rfl
    exact N_meet fun a ha => ⟨_, rfl, M2967.pick [] (by kernel_rfl), ha.sub (by kernel_rfl)⟩
  intro a2980 w2981 ⟨o2972, hout_, M2982, hS2983⟩
  refine N_use hS2983 ?_
  subst hout_
  have hm := hmo2971; simp only [Sum.elim_inl] at hm
  refine N_then ?_
  refine G_seq ?_
  refine G_region ?_
  refine W_run 1 [(4, .int .i64 (-1))] w2981 (by kernel_rfl) ?_
  refine W_nil ?_
  refine N_then ?_
  refine G_ret ?_
  obtain rfl := Option.some.inj hm
  refine N_ret [.int .i64 (-1)] (RVs_cons (RV_tmp (by kernel_rfl)) RVs_nil) ?_
  exact ⟨rfl, M2982.pick [] (by kernel_rfl)⟩
theorem c_slices_DeleteFunc_68__i_eventsWhere_1__i_EventsOf_1 (w : World) (x3015 : List Event) (p3017 : Option Addr) (c3018 : Nat) (sg3019 : Seg) (ho3020 : ownS encEvent x3015 p3017 c3018 sg3019) (x3021 : Int) (b3022 : Nat) (hb3023 : w.heap[b3022]? = some (.cells ⟨[.int .i64 x3021]⟩ 3 (0, 0))) (b3026 : Nat) (hb3027 : w.heap[b3026]? = some (.cells ⟨[.func (.func 43) #[] #[.pointer (some ⟨b3022, 0, none⟩)]]⟩ 29 (0, 0))) (hA : ∀ q ∈ List.flatten [sg3019], w.heap[q.1]? = some q.2) (hN : (idsOf [sg3019]).Nodup) (nf3025 : b3022 ∉ (idsOf [sg3019])) (nf3029 : b3026 ∉ (idsOf [sg3019])) {r : (List Event) × (List Event)} (hm : M.slices_DeleteFunc_68__i_eventsWhere_1__i_EventsOf_1 x3015 x3021 = some r) :
    Calls Tryz.prog 68 #[.slice p3017 x3015.length c3018, .func (.func 69) #[] #[.pointer (some ⟨b3026, 0, none⟩)]] w fun e w' => ∃ (sg3030 : Seg), ∃ (p3032 : Option Addr) (c3033 : Nat), e = .returned (.slice p3032 r.1.length c3033) ∧ ownS encEvent r.2 p3017 c3018 sg3030 ∧ r.2.length = x3015.length ∧ viewS 4 r.2 p3017 c3018 p3032 c3033 r.1 ∧ Mem (idsOf [sg3019]) w w' [sg3030] := by
  unfold M.slices_DeleteFunc_68__i_eventsWhere_1__i_EventsOf_1 at hm
  refine C_enter Tryz.func68 rfl (by kernel_rfl) ?_
  have M0 := Mem.start' w [sg3019] hA hN
  refine G_seq ?_
  refine G_region ?_
  refine W_run 1 [(0, .slice p3017 x3015.length c3018), (1, .func (.func 69) #[] #[.pointer (some ⟨b3026, 0, none⟩)])] w (by kernel_rfl) ?_
  refine W_nil ?_
  refine N_then ?_
  refine G_seq ?_
  refine G_region ?_
  refine W_run 2 [(0, .slice p3017 x3015.length c3018), (1, .func (.func 69) #[] #[.pointer (some ⟨b3026, 0, none⟩)]), (8, .slice p3017 x3015.length c3018), (9, .func (.func 69) #[] #[.pointer (some ⟨b3026, 0, none⟩)])] w (by kernel_rfl) ?_
  obtain ⟨r3035, hr3035, hm⟩ := gx_bind hm
  refine W_call 83 #[.slice p3017 x3015.length c3018, .func (.func 69) #[] #[.pointer (some ⟨b3026, 0, none⟩)]] (by kernel_rfl) (by kernel_rfl) ?_
  refine (c_slices_IndexFunc_83__i_eventsWhere_1__i_EventsOf_1 w x3015 p3017 c3018 (ho3020.rd M0 0 (by kernel_rfl)) x3021 b3022 (M0.roX hb3023 nf3025) b3026 (M0.roX hb3027 nf3029) hr3035).mono ?_
  rintro e_ w3036 ⟨rfl, K3037⟩
  have M3038 := M0.call0 K3037
  refine ⟨_, rfl, ?_⟩
  refine W_run 1 [(0, .slice p3017 x3015.length c3018), (1, .func (.func 69) #[] #[.pointer (some ⟨b3026, 0, none⟩)]), (5, .int .i64 r3035)] w3036 (by kernel_rfl) ?_
  refine W_nil ?_
  refine N_then ?_
  refine G_seq ?_
  refine G_seq ?_
  refine G_region ?_
  refine W_run 2 [(0, .slice p3017 x3015.length c3018), (1, .func (.func 69) #[] #[.pointer (some ⟨b3026, 0, none⟩)]), (5, .int .i64 r3035), (12, .bool (r3035 == (-1)))] w3036 (by kernel_rfl) ?_
  refine W_nil ?_
  refine N_then ?_
  rcases gx_bif hm with ⟨hc3039, hm⟩ | ⟨hc3039, hm⟩
  · refine G_cond_t (b := (r3035 == (-1))) hc3039 (by kernel_rfl) ?_
    refine G_seq ?_
    refine G_region ?_
    refine W_run 2 [(4, .slice p3017 x3015.length c3018)] w3036 (by kernel_rfl) ?_
    refine W_nil ?_
    refine N_then ?_
    refine G_ret ?_
    refine N_then_ret ?_
    obtain rfl := Option.some.inj hm
    refine N_ret [.slice p3017 x3015.length c3018] (RVs_cons (RV_tmp (by kernel_rfl)) RVs_nil) ?_
    exact ⟨sg3019, p3017, c3018, rfl, ho3020, rfl, (viewS_self ho3020), M3038.pick [0] (by kernel_rfl)⟩
  refine G_cond_f (b := (r3035 == (-1))) hc3039 (by kernel_rfl) ?_
  refine G_skip ?_
  refine N_then ?_
  refine G_seq ?_
  refine G_seq ?_
  refine G_region ?_
  refine W_run 3 [(0, .slice p3017 x3015.length c3018), (1, .func (.func 69) #[] #[.pointer (some ⟨b3026, 0, none⟩)]), (5, .int .i64 r3035), (6, .int .i64 (w64 (r3035 + 1)))] w3036 (by kernel_rfl) ?_
  refine W_nil ?_
  refine N_then ?_
  obtain ⟨out3118, hw3119, hmo3120⟩ := gx_bind hm
  refine G_meet (fun a w' => ∃ (sg3125 : Seg), ownS encEvent out3118.2 p3017 c3018 sg3125 ∧ out3118.2.length = x3015.length ∧ Mem (idsOf [sg3019]) w w' [sg3125] ∧ Sat Tryz.f68.ntmps [(0, .slice p3017 out3118.2.length c3018), (5, .int .i64 out3118.1)] a) ?_ ?_
  · refine G_block ?_
    refine G_while (σ := Int × Int × List Event) (ρ := Int × List Event) (fun s3111 a w' => ∃ (sg3121 : Seg), ownS encEvent s3111.2.2 p3017 c3018 sg3121 ∧ s3111.2.2.length = x3015.length ∧ Mem (idsOf [sg3019]) w w' [sg3121] ∧ Sat Tryz.f68.ntmps [(0, .slice p3017 s3111.2.2.length c3018), (1, .func (.func 69) #[] #[.pointer (some ⟨b3026, 0, none⟩)]), (5, .int .i64 s3111.1), (6, .int .i64 s3111.2.1)] a) hw3119 (fun a ha => ⟨sg3019, ho3020, rfl, M3038.pick [0] (by kernel_rfl), ha.sub (by kernel_rfl)⟩) ?_
    clear hm
    intro s3111 x3112 hm hout3113 a3114 w3115 ⟨sg3121, ho3122, hl3123, M3116, hS3117⟩
    refine G_use hS3117 ?_
    refine G_seq ?_
    refine G_seq ?_
    refine G_region ?_
    refine W_run 4 [(0, .slice p3017 s3111.2.2.length c3018), (1, .func (.func 69) #[] #[.pointer (some ⟨b3026, 0, none⟩)]), (5, .int .i64 s3111.1), (6, .int .i64 s3111.2.1), (19, .bool (decide (s3111.2.1 < (s3111.2.2.length : Int))))] w3115 (by kernel_rfl) ?_
    refine W_nil ?_
    refine N_then ?_
    rcases gx_bif hm with ⟨hc3128, hm⟩ | ⟨hc3128, hm⟩
    · refine G_cond_t (b := (decide (s3111.2.1 < (s3111.2.2.length : Int)))) hc3128 (by kernel_rfl) ?_
      refine G_skip ?_
      refine N_then ?_
      refine G_seq ?_
      refine G_block ?_
      refine G_seq ?_
      refine G_region ?_
      refine W_run 2 [(0, .slice p3017 s3111.2.2.length c3018), (1, .func (.func 69) #[] #[.pointer (some ⟨b3026, 0, none⟩)]), (5, .int .i64 s3111.1), (6, .int .i64 s3111.2.1), (22, .slice p3017 s3111.2.2.length c3018), (23, .int .i64 s3111.2.1)] w3115 (by kernel_rfl) ?_
      obtain ⟨y3129, hy3129, hm⟩ := gx_bind hm
      refine W_val (elemP p3017 (s3111.2.1.toNat * 4)) w3115 (by kernel_rfl) (E_index (E := encEvent) _ _ _ s3111.2.2.length c3018 .i64 s3111.2.1 4 (y := y3129) rfl (by kernel_rfl) (by kernel_rfl) (by kernel_rfl) (ho3122.rd M3116 0 (by kernel_rfl)) rfl hy3129) ?_
      refine W_val (.agg #[.int .i64 y3129.Tick, .int .i64 y3129.Guest, .string y3129.Kind, .int .i64 y3129.Value]) w3115 (by kernel_rfl) (E_loadE (E := encEvent) _ _ true 4 s3111.2.1 0 (s3111.2.1.toNat * 4) y3129 (.agg #[.int .i64 y3129.Tick, .int .i64 y3129.Guest, .string y3129.Kind, .int .i64 y3129.Value]) rfl (by kernel_rfl) (by kernel_rfl) (by kernel_rfl) (ho3122.rd M3116 0 (by kernel_rfl)) hy3129 rfl) ?_
      refine W_new (fun b => .pointer (some ⟨b, 0, none⟩)) (.cells ⟨[.int .i64 0, .int .i64 0, .string ByteArray.empty, .int .i64 0]⟩ 25 (0, 0)) M3116 rfl (by kernel_rfl) (by kernel_rfl) ?_
      intro b3131 w3132 M3133
      refine W_store _ _ _ true 4 b3131 0 [.int .i64 0, .int .i64 0, .string ByteArray.empty, .int .i64 0] 25 (.agg #[.int .i64 y3129.Tick, .int .i64 y3129.Guest, .string y3129.Kind, .int .i64 y3129.Value]) 1 [.int .i64 y3129.Tick, .int .i64 y3129.Guest, .string y3129.Kind, .int .i64 y3129.Value] M3133 (by kernel_rfl) rfl (by kernel_rfl) (by kernel_rfl) (by kernel_rfl) (by kernel_rfl) (by kernel_rfl) (by kernel_rfl) (by kernel_rfl) (by kernel_rfl) ?_
      intro w3134 M3135
      refine W_nil ?_
      refine N_then ?_
      refine G_seq ?_
      refine G_region ?_
      refine W_run 1 [(0, .slice p3017 s3111.2.2.length c3018), (1, .func (.func 69) #[] #[.pointer (some ⟨b3026, 0, none⟩)]), (5, .int .i64 s3111.1), (6, .int .i64 s3111.2.1), (7, .pointer (some ⟨b3131, 0, none⟩)), (26, .func (.func 69) #[] #[.pointer (some ⟨b3026, 0, none⟩)])] w3134 (by kernel_rfl) ?_
      refine W_val (.agg #[.int .i64 y3129.Tick, .int .i64 y3129.Guest, .string y3129.Kind, .int .i64 y3129.Value]) w3134 (by kernel_rfl) (E_load (e := 25) (fr := (0, 0)) _ _ true 4 b3131 0 [.int .i64 y3129.Tick, .int .i64 y3129.Guest, .string y3129.Kind, .int .i64 y3129.Value] (.agg #[.int .i64 y3129.Tick, .int .i64 y3129.Guest, .string y3129.Kind, .int .i64 y3129.Value]) rfl (by kernel_rfl) (by kernel_rfl) (by kernel_rfl) (M3135.blk 1 (b := b3131) (o := .cells ⟨[.int .i64 y3129.Tick, .int .i64 y3129.Guest, .string y3129.Kind, .int .i64 y3129.Value]⟩ 25 (0, 0)) (by kernel_rfl))) ?_
      obtain ⟨r3136, hr3136, hm⟩ := gx_bind hm
      refine W_call 69 #[.agg #[.int .i64 y3129.Tick, .int .i64 y3129.Guest, .string y3129.Kind, .int .i64 y3129.Value], .pointer (some ⟨b3026, 0, none⟩)] (by kernel_rfl) (by kernel_rfl) ?_
      refine (c_i_eventsWhere_1__i_EventsOf_1 w3134 y3129 x3021 b3022 (M3135.roX hb3023 nf3025) b3026 (M3135.roX hb3027 nf3029) hr3136).mono ?_
      rintro e_ w3137 ⟨rfl, K3138⟩
      have M3139 := M3135.call0 K3138
      refine ⟨_, rfl, ?_⟩
      refine W_run 1 [(0, .slice p3017 s3111.2.2.length c3018), (1, .func (.func 69) #[] #[.pointer (some ⟨b3026, 0, none⟩)]), (5, .int .i64 s3111.1), (6, .int .i64 s3111.2.1), (7, .pointer (some ⟨b3131, 0, none⟩)), (29, .bool (!r3136))] w3137 (by kernel_rfl) ?_
      refine W_nil ?_
      refine N_then ?_
      obtain ⟨o3146, ho3147, hm3148⟩ := gx_bind hm
      refine G_meet (fun a w' => ∃ (sg3149 : Seg), ownS encEvent o3146.2 p3017 c3018 sg3149 ∧ o3146.2.length = x3015.length ∧ Mem (idsOf [sg3019]) w w' [sg3149] ∧ Sat Tryz.f68.ntmps [(0, .slice p3017 o3146.2.length c3018), (1, .func (.func 69) #[] #[.pointer (some ⟨b3026, 0, none⟩)]), (5, .int .i64 o3146.1), (6, .int .i64 s3111.2.1)] a) ?_ ?_
      · have hm := ho3147
        rcases gx_bif hm with ⟨hc3152, hm⟩ | ⟨hc3152, hm⟩
        · refine G_cond_t (b := (!r3136)) hc3152 (by kernel_rfl) ?_
          refine G_seq ?_
          refine G_region ?_
          refine W_run 2 [(0, .slice p3017 s3111.2.2.length c3018), (1, .func (.func 69) #[] #[.pointer (some ⟨b3026, 0, none⟩)]), (5, .int .i64 s3111.1), (6, .int .i64 s3111.2.1), (7, .pointer (some ⟨b3131, 0, none⟩)), (30, .slice p3017 s3111.2.2.length c3018), (31, .int .i64 s3111.1)] w3137 (by kernel_rfl) ?_
          refine W_val (.agg #[.int .i64 y3129.Tick, .int .i64 y3129.Guest, .string y3129.Kind, .int .i64 y3129.Value]) w3137 (by kernel_rfl) (E_load (e := 25) (fr := (0, 0)) _ _ true 4 b3131 0 [.int .i64 y3129.Tick, .int .i64 y3129.Guest, .string y3129.Kind, .int .i64 y3129.Value] (.agg #[.int .i64 y3129.Tick, .int .i64 y3129.Guest, .string y3129.Kind, .int .i64 y3129.Value]) rfl (by kernel_rfl) (by kernel_rfl) (by kernel_rfl) (M3139.blk 1 (b := b3131) (o := .cells ⟨[.int .i64 y3129.Tick, .int .i64 y3129.Guest, .string y3129.Kind, .int .i64 y3129.Value]⟩ 25 (0, 0)) (by kernel_rfl))) ?_
          obtain ⟨y3153, hy3153, hm⟩ := gx_bind hm
          refine W_val (elemP p3017 (s3111.1.toNat * 4)) w3137 (by kernel_rfl) (E_index (E := encEvent) _ _ _ s3111.2.2.length c3018 .i64 s3111.1 4 (y := y3153) rfl (by kernel_rfl) (by kernel_rfl) (by kernel_rfl) (ho3122.rd M3139 0 (by kernel_rfl)) rfl hy3153) ?_
          refine W_storeE (E := encEvent) _ _ _ true 4 s3111.1.toNat 0 (s3111.1.toNat * 4) y3153 y3129 (.agg #[.int .i64 y3129.Tick, .int .i64 y3129.Guest, .string y3129.Kind, .int .i64 y3129.Value]) 0 M3139 ho3122 (by kernel_rfl) (by kernel_rfl) rfl (by kernel_rfl) (by kernel_rfl) (by kernel_rfl) (by kernel_rfl) (by kernel_rfl) (by kernel_rfl) (by kernel_rfl) (gxIdx_spec hy3153).2 rfl ?_
          intro w3154 sg3156 ho3157 M3155
          refine W_conv 0 (.slice p3017 s3111.2.2.length c3018) (.slice p3017 (s3111.2.2.set s3111.1.toNat y3129).length c3018) (by kernel_rfl) (by rw [@List.length_set _ s3111.2.2 s3111.1.toNat y3129]) ?_
          refine W_conv 30 (.slice p3017 s3111.2.2.length c3018) (.slice p3017 (s3111.2.2.set s3111.1.toNat y3129).length c3018) (by kernel_rfl) (by rw [@List.length_set _ s3111.2.2 s3111.1.toNat y3129]) ?_
          refine W_nil ?_
          refine N_then ?_
          refine G_region ?_
          refine W_run 3 [(0, .slice p3017 (s3111.2.2.set s3111.1.toNat y3129).length c3018), (1, .func (.func 69) #[] #[.pointer (some ⟨b3026, 0, none⟩)]), (5, .int .i64 (w64 (s3111.1 + 1))), (6, .int .i64 s3111.2.1)] w3154 (by kernel_rfl) ?_
          refine W_nil ?_
          obtain rfl := Option.some.inj hm
          exact N_meet fun a ha => ⟨sg3156, ho3157, (List.length_set.trans hl3123), M3155.pick [0] (by kernel_rfl), ha.sub (by kernel_rfl)⟩
        refine G_cond_f (b := (!r3136)) hc3152 (by kernel_rfl) ?_
        refine G_skip ?_
        obtain rfl := Option.some.inj hm
        exact N_meet fun a ha => ⟨sg3121, ho3122, hl3123, M3139.pick [0] (by kernel_rfl), ha.sub (by kernel_rfl)⟩
      intro a3160 w3158 ⟨sg3149, ho3150, hl3151, M3159, hS3161⟩
      refine N_use hS3161 ?_
      have hm := hm3148
      refine N_block ?_
      refine N_then ?_
      refine G_region ?_
      refine W_run 3 [(0, .slice p3017 o3146.2.length c3018), (1, .func (.func 69) #[] #[.pointer (some ⟨b3026, 0, none⟩)]), (5, .int .i64 o3146.1), (6, .int .i64 (w64 (s3111.2.1 + 1)))] w3158 (by kernel_rfl) ?_
      refine W_nil ?_
      obtain rfl := Option.some.inj hm
      exact N_loop fun a ha => ⟨_, rfl, sg3149, ho3150, hl3151, M3159.pick [0] (by kernel_rfl), ha.sub (by kernel_rfl)⟩
    refine G_cond_f (b := (decide (s3111.2.1 < (s3111.2.2.length : Int)))) hc3128 (by kernel_rfl) ?_
    refine G_exit ?_
    refine N_then_exit ?_
    refine N_then_exit ?_
    refine N_block_eq ?_
    obtain rfl := Option.some.inj hm
    obtain rfl := hout3113 _ rfl
    exact N_meet fun a ha => ⟨sg3121, ho3122, hl3123, M3116.pick [0] (by kernel_rfl), ha.sub (by kernel_rfl)⟩
  intro a3162 w3163 ⟨sg3125, ho3126, hl3127, M3164, hS3165⟩
  refine N_use hS3165 ?_
  have hm := hmo3120
  refine N_then ?_
  refine G_seq ?_
  refine G_region ?_
  refine W_run 2 [(0, .slice p3017 out3118.2.length c3018), (5, .int .i64 out3118.1), (36, .slice p3017 out3118.2.length c3018), (37, .int .i64 out3118.1)] w3163 (by kernel_rfl) ?_
  obtain ⟨ys3166, hys3166, hm⟩ := gx_bind hm
  refine W_val (.slice (subP p3017 out3118.1.toNat c3018 4) ys3166.length (c3018 - out3118.1.toNat)) w3163 (by kernel_rfl) (E_slice (E := encEvent) _ _ _ _ out3118.2.length out3118.1 (out3118.2.length : Int) rfl (by kernel_rfl) (Or.inr ⟨_, rfl, by kernel_rfl⟩) (Or.inl ⟨rfl, rfl⟩) (by kernel_rfl) (ho3126.rd M3164 0 (by kernel_rfl)) rfl hys3166) ?_
  refine W_clear (E := encEvent) _ _ out3118.1 (out3118.2.length : Int) 40 [.int .i64 0, .int .i64 0, .string ByteArray.empty, .int .i64 0] ((⟨0, 0, ByteArray.empty, 0⟩ : Event) : Event) 0 M3164 ho3126 (by kernel_rfl) (by kernel_rfl) (by kernel_rfl) rfl (by kernel_rfl) hys3166 (by kernel_rfl) (by kernel_rfl) ?_
  intro w3168 sg3170 ho3171 M3169
  refine W_conv 0 (.slice p3017 out3118.2.length c3018) (.slice p3017 (gxClear out3118.2 out3118.1 (out3118.2.length : Int) ((⟨0, 0, ByteArray.empty, 0⟩ : Event) : Event)).length c3018) (by kernel_rfl) (by rw [gxClear_len ((⟨0, 0, ByteArray.empty, 0⟩ : Event) : Event) hys3166]) ?_
  refine W_conv 36 (.slice p3017 out3118.2.length c3018) (.slice p3017 (gxClear out3118.2 out3118.1 (out3118.2.length : Int) ((⟨0, 0, ByteArray.empty, 0⟩ : Event) : Event)).length c3018) (by kernel_rfl) (by rw [gxClear_len ((⟨0, 0, ByteArray.empty, 0⟩ : Event) : Event) hys3166]) ?_
  refine W_nil ?_
  refine N_then ?_
  refine G_seq ?_
  refine G_region ?_
  refine W_run 2 [(39, .slice p3017 (gxClear out3118.2 out3118.1 (out3118.2.length : Int) ((⟨0, 0, ByteArray.empty, 0⟩ : Event) : Event)).length c3018), (40, .int .i64 out3118.1)] w3168 (by kernel_rfl) ?_
  obtain ⟨ys3172, hys3172, hm⟩ := gx_bind hm
  refine W_val (.slice (subP p3017 (0 : Int).toNat c3018 4) ys3172.length (c3018 - (0 : Int).toNat)) w3168 (by kernel_rfl) (E_slice (E := encEvent) _ _ _ _ (gxClear out3118.2 out3118.1 (out3118.2.length : Int) ((⟨0, 0, ByteArray.empty, 0⟩ : Event) : Event)).length 0 out3118.1 rfl (by kernel_rfl) (Or.inl ⟨rfl, rfl⟩) (Or.inr ⟨_, rfl, by kernel_rfl⟩) (by kernel_rfl) (ho3171.rd M3169 0 (by kernel_rfl)) rfl hys3172) ?_
  refine W_run 1 [(4, .slice (subP p3017 (0 : Int).toNat c3018 4) ys3172.length (c3018 - (0 : Int).toNat))] w3168 (by kernel_rfl) ?_
  refine W_nil ?_
  refine N_then ?_
  refine G_ret ?_
  obtain rfl := Option.some.inj hm
  refine N_ret [.slice (subP p3017 (0 : Int).toNat c3018 4) ys3172.length (c3018 - (0 : Int).toNat)] (RVs_cons (RV_tmp (by kernel_rfl)) RVs_nil) ?_
  exact ⟨sg3170, (subP p3017 (0 : Int).toNat c3018 4), (c3018 - (0 : Int).toNat), rfl, ho3171, ((gxClear_len ((⟨0, 0, ByteArray.empty, 0⟩ : Event) : Event) hys3166).trans hl3127), ⟨0, out3118.1, rfl, rfl, hys3172⟩, M3169.pick [0] (by kernel_rfl)⟩
theorem c_i_eventsWhere__i_EventsOf_1 (w : World) (x2861 : List Event) (p2863 : Option Addr) (c2864 : Nat) (h2865 : rdS encEvent w x2861 p2863 c2864) (x2866 : Int) (b2867 : Nat) (hb2868 : w.heap[b2867]? = some (.cells ⟨[.int .i64 x2866]⟩ 3 (0, 0))) {r : (List Event)} (hm : M.i_eventsWhere__i_EventsOf_1 x2861 x2866 = some r) :
    Calls Tryz.prog 42 #[.slice p2863 x2861.length c2864, .func (.func 43) #[] #[.pointer (some ⟨b2867, 0, none⟩)]] w fun e w' => ∃ (p2871 : Option Addr) (c2872 : Nat) (sg2873 : Seg), e = .returned (.slice p2871 r.length c2872) ∧ ownS encEvent r p2871 c2872 sg2873 ∧ Mem [] w w' [sg2873] := by
  unfold M.i_eventsWhere__i_EventsOf_1 at hm
  refine C_enter Tryz.func42 rfl (by kernel_rfl) ?_
  have M0 := Mem.refl [] w
  refine G_seq ?_
  refine G_region ?_
  refine W_new (fun b => .pointer (some ⟨b, 0, none⟩)) (.cells ⟨[.func (.func 43) #[] #[.pointer (some ⟨b2867, 0, none⟩)]]⟩ 29 (0, 0)) M0 rfl (by kernel_rfl) (by kernel_rfl) ?_
  intro b2875 w2876 M2877
  refine W_run 1 [(0, .slice p2863 x2861.length c2864), (3, .pointer (some ⟨b2875, 0, none⟩))] w2876 (by kernel_rfl) ?_
  refine W_nil ?_
  refine N_then ?_
  refine G_seq ?_
  refine G_region ?_
  refine W_lit (E := encEvent) ([] : List Event) 0 [] 25 M2877 (by kernel_rfl) (by kernel_rfl) (by kernel_rfl) (by kernel_rfl) (by kernel_rfl) ?_
  intro p2879 c2880 sg2881 w2882 ho2883 M2884
  refine W_run 1 [(3, .pointer (some ⟨b2875, 0, none⟩)), (5, .slice p2879 ([] : List Event).length c2880), (6, .slice p2863 x2861.length c2864)] w2882 (by kernel_rfl) ?_
  obtain ⟨ap2886, hap2886, hm⟩ := gx_bind hm
  refine W_append (E := encEvent) _ _ _ 40 [.int .i64 0, .int .i64 0, .string ByteArray.empty, .int .i64 0] 1 c2864 M2884 ho2883 (by kernel_rfl) (by kernel_rfl) (by kernel_rfl) rfl (by kernel_rfl) (by kernel_rfl) (by kernel_rfl) (by kernel_rfl) (by kernel_rfl) (by kernel_rfl) (h2865.mem0 M2884) hap2886 ?_
  intro p2887 c2888 sg2889 w2890 ho2891 M2892
  refine W_run 1 [(7, .slice p2887 ap2886.length c2888), (8, .func (.func 69) #[] #[.pointer (some ⟨b2875, 0, none⟩)])] w2890 (by kernel_rfl) ?_
  obtain ⟨r3174, hr3174, hm⟩ := gx_bind hm
  refine W_call 68 #[.slice p2887 ap2886.length c2888, .func (.func 69) #[] #[.pointer (some ⟨b2875, 0, none⟩)]] (by kernel_rfl) (by kernel_rfl) ?_
  refine (c_slices_DeleteFunc_68__i_eventsWhere_1__i_EventsOf_1 w2890 ap2886 p2887 c2888 sg2889 ho2891 x2866 b2867 (M2892.ro hb2868) b2875 (M2892.blk 0 (b := b2875) (o := .cells ⟨[.func (.func 43) #[] #[.pointer (some ⟨b2867, 0, none⟩)]]⟩ 29 (0, 0)) (by kernel_rfl)) (M2892.hasPick [1]) (M2892.nodupPick [1] (by kernel_rfl)) (blkOld M2892 hb2868 (by simp) [1]) (blkApart M2892 0 (o := .cells ⟨[.func (.func 43) #[] #[.pointer (some ⟨b2867, 0, none⟩)]]⟩ 29 (0, 0)) (by kernel_rfl) [1] (by kernel_rfl)) hr3174).mono ?_
  rintro e_ w3185 ⟨sg3175, p3183, c3184, rfl, ho3176, hl3177, hw3182, K3186⟩
  obtain ⟨l3179, h3180, rfl, rfl, hv3181⟩ := hw3182
  have M3187 := M2892.callF' [1] [0] (by kernel_rfl) K3186
  refine ⟨_, rfl, ?_⟩
  refine W_conv 7 (.slice p2887 ap2886.length c2888) (.slice p2887 r3174.2.length c2888) (by kernel_rfl) (by first | rw [hl3177] | rw [hl3177]) ?_
  refine W_run 1 [(4, .slice (subP p2887 l3179.toNat c2888 4) r3174.1.length (c2888 - l3179.toNat))] w3185 (by kernel_rfl) ?_
  refine W_nil ?_
  refine N_then ?_
  refine G_ret ?_
  obtain rfl := Option.some.inj hm
  refine N_ret [.slice (subP p2887 l3179.toNat c2888 4) r3174.1.length (c2888 - l3179.toNat)] (RVs_cons (RV_tmp (by kernel_rfl)) RVs_nil) ?_
  exact ⟨(subP p2887 l3179.toNat c2888 4), (c2888 - l3179.toNat), sg3175, rfl, (ho3176.partM hv3181), M3187.pick [1] (by kernel_rfl)⟩
theorem c_i_EventsOf (w : World) (x2673 : List Event) (p2675 : Option Addr) (c2676 : Nat) (h2677 : rdS encEvent w x2673 p2675 c2676) (x2678 : Int) {r : (List Event) × Bool} (hm : M.i_EventsOf x2673 x2678 = some r) :
    Calls Tryz.prog 13 #[.slice p2675 x2673.length c2676, .int .i64 x2678] w fun e w' => ∃ (p2680 : Option Addr) (c2681 : Nat) (sg2682 : Seg), e = .returned (.tuple #[.slice p2680 r.1.length c2681, .bool r.2]) ∧ ownS encEvent r.1 p2680 c2681 sg2682 ∧ Mem [] w w' [sg2682] := by
  unfold M.i_EventsOf at hm
  refine C_enter Tryz.func13 rfl (by kernel_rfl) ?_
  have M0 := Mem.refl [] w
  refine G_seq ?_
  refine G_region ?_
  refine W_new (fun b => .pointer (some ⟨b, 0, none⟩)) (.cells ⟨[.int .i64 x2678]⟩ 3 (0, 0)) M0 rfl (by kernel_rfl) (by kernel_rfl) ?_
  intro b2684 w2685 M2686
  refine W_run 2 [(0, .slice p2675 x2673.length c2676), (3, .pointer (some ⟨b2684, 0, none⟩))] w2685 (by kernel_rfl) ?_
  refine W_nil ?_
  refine N_then ?_
  refine G_seq ?_
  refine G_seq ?_
  obtain ⟨o2843, ho2844, hm2845⟩ := gx_bind hm
  refine G_meet (fun a w' => Mem [] w w' [[(b2684, .cells ⟨[.int .i64 x2678]⟩ 3 (0, 0))]] ∧ Sat Tryz.f13.ntmps [(0, .slice p2675 x2673.length c2676), (3, .pointer (some ⟨b2684, 0, none⟩)), (13, .bool o2843)] a) ?_ ?_
  · have hm := ho2844
    refine G_region ?_
    refine W_run 1 [(0, .slice p2675 x2673.length c2676), (3, .pointer (some ⟨b2684, 0, none⟩)), (6, .slice p2675 x2673.length c2676)] w2685 (by kernel_rfl) ?_
    obtain ⟨r2846, hr2846, hm⟩ := gx_bind hm
    refine W_call 41 #[.slice p2675 x2673.length c2676] (by kernel_rfl) (by kernel_rfl) ?_
    refine (c_i_IsRecord w2685 x2673 p2675 c2676 (h2677.mem0 M2686) hr2846).mono ?_
    rintro e_ w2847 ⟨rfl, K2848⟩
    have M2849 := M2686.call0 K2848
    refine ⟨_, rfl, ?_⟩
    refine W_run 2 [(0, .slice p2675 x2673.length c2676), (3, .pointer (some ⟨b2684, 0, none⟩)), (9, .bool (!r2846))] w2847 (by kernel_rfl) ?_
    rcases gx_bif hm with ⟨hc2850, hm⟩ | ⟨hc2850, hm⟩
    · refine W_known 9 true (by kernel_rfl) hc2850 ?_
      refine W_run 4 [(0, .slice p2675 x2673.length c2676), (3, .pointer (some ⟨b2684, 0, none⟩)), (13, .bool true)] w2847 (by kernel_rfl) ?_
      refine W_nil ?_
      obtain rfl := Option.some.inj hm
      exact N_meet fun a ha => ⟨M2849.pick [0] (by kernel_rfl), ha.sub (by kernel_rfl)⟩
    refine W_known 9 false (by kernel_rfl) hc2850 ?_
    refine W_val (.int .i64 x2678) w2847 (by kernel_rfl) (E_load (e := 3) (fr := (0, 0)) _ _ false 1 b2684 0 [.int .i64 x2678] (.int .i64 x2678) rfl (by kernel_rfl) (by kernel_rfl) (by kernel_rfl) (M2849.blk 0 (b := b2684) (o := .cells ⟨[.int .i64 x2678]⟩ 3 (0, 0)) (by kernel_rfl))) ?_
    obtain ⟨r2851, hr2851, hm⟩ := gx_bind hm
    refine W_call 27 #[.int .i64 x2678] (by kernel_rfl) (by kernel_rfl) ?_
    refine (c_i_isParty w2847 x2678 hr2851).mono ?_
    rintro e_ w2852 ⟨rfl, K2853⟩
    have M2854 := M2849.call0 K2853
    refine ⟨_, rfl, ?_⟩
    refine W_run 2 [(0, .slice p2675 x2673.length c2676), (3, .pointer (some ⟨b2684, 0, none⟩)), (13, .bool (!r2851))] w2852 (by kernel_rfl) ?_
    refine W_nil ?_
    obtain rfl := Option.some.inj hm
    exact N_meet fun a ha => ⟨M2854.pick [0] (by kernel_rfl), ha.sub (by kernel_rfl)⟩
  intro a2857 w2855 ⟨M2856, hS2858⟩
  refine N_use hS2858 ?_
  have hm := hm2845
  refine N_then ?_
  rcases gx_bif hm with ⟨hc2859, hm⟩ | ⟨hc2859, hm⟩
  · refine G_cond_t (b := o2843) hc2859 (by kernel_rfl) ?_
    refine G_seq ?_
    refine G_region ?_
    refine W_run 2 [(4, .slice none 0 0), (5, .bool false)] w2855 (by kernel_rfl) ?_
    refine W_nil ?_
    refine N_then ?_
    refine G_ret ?_
    refine N_then_ret ?_
    obtain rfl := Option.some.inj hm
    refine N_ret [.slice none 0 0, .bool false] (RVs_cons (RV_tmp (by kernel_rfl)) (RVs_cons (RV_tmp (by kernel_rfl)) RVs_nil)) ?_
    exact ⟨none, 0, [], rfl, ownS_nil, M2856.pick [100000] (by kernel_rfl)⟩
  refine G_cond_f (b := o2843) hc2859 (by kernel_rfl) ?_
  refine G_skip ?_
  refine N_then ?_
  refine G_seq ?_
  refine G_region ?_
  refine W_run 2 [(14, .slice p2675 x2673.length c2676), (15, .func (.func 43) #[] #[.pointer (some ⟨b2684, 0, none⟩)])] w2855 (by kernel_rfl) ?_
  obtain ⟨r3188, hr3188, hm⟩ := gx_bind hm
  refine W_call 42 #[.slice p2675 x2673.length c2676, .func (.func 43) #[] #[.pointer (some ⟨b2684, 0, none⟩)]] (by kernel_rfl) (by kernel_rfl) ?_
  refine (c_i_eventsWhere__i_EventsOf_1 w2855 x2673 p2675 c2676 (h2677.mem0 M2856) x2678 b2684 (M2856.blk 0 (b := b2684) (o := .cells ⟨[.int .i64 x2678]⟩ 3 (0, 0)) (by kernel_rfl)) hr3188).mono ?_
  rintro e_ w3194 ⟨p3190, c3191, sg3192, rfl, ho3193, K3195⟩
  have M3196 := M2856.call K3195
  refine ⟨_, rfl, ?_⟩
  refine W_run 2 [(4, .slice p3190 r3188.length c3191), (5, .bool true)] w3194 (by kernel_rfl) ?_
  refine W_nil ?_
  refine N_then ?_
  refine G_ret ?_
  obtain rfl := Option.some.inj hm
  refine N_ret [.slice p3190 r3188.length c3191, .bool true] (RVs_cons (RV_tmp (by kernel_rfl)) (RVs_cons (RV_tmp (by kernel_rfl)) RVs_nil)) ?_
  exact ⟨p3190, c3191, sg3192, rfl, ho3193, M3196.pick [1] (by kernel_rfl)⟩
theorem c_s_l22Good (w : World) (x3224 : List Event) (p3226 : Option Addr) (c3227 : Nat) (h3228 : rdS encEvent w x3224 p3226 c3227) {r : Bool} (hm : M.s_l22Good x3224 = some r) :
    Calls Tryz.prog 44 #[.slice p3226 x3224.length c3227] w fun e w' => e = .returned (.bool r) ∧ Mem [] w w' [] := by
  unfold M.s_l22Good at hm
  refine C_enter Tryz.func44 rfl (by kernel_rfl) ?_
  have M0 := Mem.refl [] w
  refine G_seq ?_
  refine G_region ?_
  refine W_run 1 [(0, .slice p3226 x3224.length c3227)] w (by kernel_rfl) ?_
  refine W_nil ?_
  refine N_then ?_
  refine G_seq ?_
  refine G_seq ?_
  refine G_region ?_
  refine W_run 1 [(0, .slice p3226 x3224.length c3227), (3, .int .i64 0)] w (by kernel_rfl) ?_
  refine W_nil ?_
  refine N_then ?_
  obtain ⟨out3314, hw3315, hmo3316⟩ := gx_bind hm
  refine G_meet (fun a w' => ∃ (o3317 : Unit), out3314 = .inl o3317 ∧ Mem [] w w' [] ∧ Sat Tryz.f44.ntmps [(0, .slice p3226 x3224.length c3227)] a) ?_ ?_
  · refine G_block ?_
    refine G_while (σ := Int) (ρ := (Unit) ⊕ (Bool)) (fun s3307 a w' => Mem [] w w' [] ∧ Sat Tryz.f44.ntmps [(0, .slice p3226 x3224.length c3227), (3, .int .i64 s3307)] a) hw3315 (fun a ha => ⟨M0.pick [] (by kernel_rfl), ha.sub (by kernel_rfl)⟩) ?_
    clear hm
    intro s3307 x3308 hm hout3309 a3310 w3311 ⟨M3312, hS3313⟩
    refine G_use hS3313 ?_
    refine G_seq ?_
    refine G_seq ?_
    refine G_region ?_
    refine W_run 4 [(0, .slice p3226 x3224.length c3227), (3, .int .i64 s3307), (7, .bool (decide (s3307 < (x3224.length : Int))))] w3311 (by kernel_rfl) ?_
    refine W_nil ?_
    refine N_then ?_
    rcases gx_bif hm with ⟨hc3318, hm⟩ | ⟨hc3318, hm⟩
    · refine G_cond_t (b := (decide (s3307 < (x3224.length : Int)))) hc3318 (by kernel_rfl) ?_
      refine G_skip ?_
      refine N_then ?_
      refine G_seq ?_
      refine G_block ?_
      refine G_seq ?_
      obtain ⟨o3334, ho3335, hm3336⟩ := gx_bind hm
      refine G_meet (fun a w' => Mem [] w w' [] ∧ Sat Tryz.f44.ntmps [(0, .slice p3226 x3224.length c3227), (3, .int .i64 s3307), (33, .bool o3334)] a) ?_ ?_
      · have hm := ho3335
        refine G_quiet (by kernel_rfl) (by kernel_rfl) M3312 ?_
        refine Z_runs [.slice p3226 x3224.length c3227, .int .i64 s3307] [(0, .slice p3226 x3224.length c3227), (3, .int .i64 s3307), (10, .slice p3226 x3224.length c3227), (11, .int .i64 s3307)] (fun w_ => by kernel_rfl) (by kernel_rfl) ?_
        obtain ⟨y3337, hy3337, hm⟩ := gx_bind hm
        refine Z_val (elemP p3226 (s3307.toNat * 4)) (by kernel_rfl) (fun w_ M_ => (E_index (E := encEvent) _ _ _ x3224.length c3227 .i64 s3307 4 (y := y3337) rfl (by kernel_rfl) (by kernel_rfl) (by kernel_rfl) (h3228.mem0 M_) rfl hy3337)) ?_
        refine Z_val (.agg #[.int .i64 y3337.Tick, .int .i64 y3337.Guest, .string y3337.Kind, .int .i64 y3337.Value]) (by kernel_rfl) (fun w_ M_ => (E_loadE (E := encEvent) _ _ true 4 s3307 0 (s3307.toNat * 4) y3337 (.agg #[.int .i64 y3337.Tick, .int .i64 y3337.Guest, .string y3337.Kind, .int .i64 y3337.Value]) rfl (by kernel_rfl) (by kernel_rfl) (by kernel_rfl) (h3228.mem0 M_) hy3337 rfl)) ?_
        obtain ⟨r3338, hr3338, hm⟩ := gx_bind hm
        refine Z_call 24 #[.agg #[.int .i64 y3337.Tick, .int .i64 y3337.Guest, .string y3337.Kind, .int .i64 y3337.Value]] (.bool r3338) (by kernel_rfl) (fun w_ => by kernel_rfl) (fun w_ M_ => (c_s_l22One w_ y3337 hr3338).mono fun e w2_ h_ => ⟨h_.1, M_.call0 h_.2⟩) ?_
        refine Z_runs [.bool (!r3338), .bool (!r3338)] [(0, .slice p3226 x3224.length c3227), (3, .int .i64 s3307), (16, .bool (!r3338))] (fun w_ => by kernel_rfl) (by kernel_rfl) ?_
        rcases gx_bif hm with ⟨hc3342, hm⟩ | ⟨hc3342, hm⟩
        · refine Z_known 16 true (by kernel_rfl) hc3342 ?_
          refine Z_runs [undef, undef, undef, undef, undef, undef, undef, undef, undef, undef, undef, undef, undef, undef, undef, undef, .bool true] [(0, .slice p3226 x3224.length c3227), (3, .int .i64 s3307), (33, .bool true)] (fun w_ => by kernel_rfl) (by kernel_rfl) ?_
          refine Z_end fun w3343 M3344 => ?_
          obtain rfl := Option.some.inj hm
          exact N_meet fun a ha => ⟨M3344.pick [] (by kernel_rfl), ha.sub (by kernel_rfl)⟩
        refine Z_known 16 false (by kernel_rfl) hc3342 ?_
        refine Z_runs [.int .i64 s3307, .bool (decide (s3307 > 0)), .bool (decide (s3307 > 0))] [(0, .slice p3226 x3224.length c3227), (3, .int .i64 s3307), (16, .bool false), (19, .bool (decide (s3307 > 0)))] (fun w_ => by kernel_rfl) (by kernel_rfl) ?_
        rcases gx_bif hm with ⟨hc3345, hm⟩ | ⟨hc3345, hm⟩
        · refine Z_known 19 true (by kernel_rfl) hc3345 ?_
          refine Z_runs [.slice p3226 x3224.length c3227, .int .i64 s3307, .int .i64 (w64 (s3307 - 1))] [(0, .slice p3226 x3224.length c3227), (3, .int .i64 s3307), (16, .bool false), (19, .bool true), (20, .slice p3226 x3224.length c3227), (22, .int .i64 (w64 (s3307 - 1)))] (fun w_ => by kernel_rfl) (by kernel_rfl) ?_
          obtain ⟨y3346, hy3346, hm⟩ := gx_bind hm
          refine Z_val (elemP p3226 ((w64 (s3307 - 1)).toNat * 4)) (by kernel_rfl) (fun w_ M_ => (E_index (E := encEvent) _ _ _ x3224.length c3227 .i64 (w64 (s3307 - 1)) 4 (y := y3346) rfl (by kernel_rfl) (by kernel_rfl) (by kernel_rfl) (h3228.mem0 M_) rfl hy3346)) ?_
          refine Z_val (elemP p3226 ((w64 (s3307 - 1)).toNat * 4 + 0)) (by kernel_rfl) (fun w_ M_ => (E_fieldE (E := encEvent) _ _ 0 ((w64 (s3307 - 1)).toNat * 4) 0 rfl (by kernel_rfl) (by kernel_rfl) (h3228.mem0 M_) hy3346)) ?_
          refine Z_val (.int .i64 y3346.Tick) (by kernel_rfl) (fun w_ M_ => (E_loadE (E := encEvent) _ _ false 1 (w64 (s3307 - 1)) 0 ((w64 (s3307 - 1)).toNat * 4 + 0) y3346 (.int .i64 y3346.Tick) rfl (by kernel_rfl) (by kernel_rfl) (by kernel_rfl) (h3228.mem0 M_) hy3346 rfl)) ?_
          refine Z_runs [.slice p3226 x3224.length c3227, .int .i64 s3307] [(0, .slice p3226 x3224.length c3227), (3, .int .i64 s3307), (16, .bool false), (19, .bool true), (25, .int .i64 y3346.Tick), (26, .slice p3226 x3224.length c3227), (27, .int .i64 s3307)] (fun w_ => by kernel_rfl) (by kernel_rfl) ?_
          obtain ⟨y3347, hy3347, hm⟩ := gx_bind hm
          refine Z_val (elemP p3226 (s3307.toNat * 4)) (by kernel_rfl) (fun w_ M_ => (E_index (E := encEvent) _ _ _ x3224.length c3227 .i64 s3307 4 (y := y3347) rfl (by kernel_rfl) (by kernel_rfl) (by kernel_rfl) (h3228.mem0 M_) rfl hy3347)) ?_
          refine Z_val (elemP p3226 (s3307.toNat * 4 + 0)) (by kernel_rfl) (fun w_ M_ => (E_fieldE (E := encEvent) _ _ 0 (s3307.toNat * 4) 0 rfl (by kernel_rfl) (by kernel_rfl) (h3228.mem0 M_) hy3347)) ?_
          refine Z_val (.int .i64 y3347.Tick) (by kernel_rfl) (fun w_ M_ => (E_loadE (E := encEvent) _ _ false 1 s3307 0 (s3307.toNat * 4 + 0) y3347 (.int .i64 y3347.Tick) rfl (by kernel_rfl) (by kernel_rfl) (by kernel_rfl) (h3228.mem0 M_) hy3347 rfl)) ?_
          refine Z_runs [.bool (decide (y3346.Tick > y3347.Tick)), .bool (decide (y3346.Tick > y3347.Tick)), .bool (decide (y3346.Tick > y3347.Tick))] [(0, .slice p3226 x3224.length c3227), (3, .int .i64 s3307), (33, .bool (decide (y3346.Tick > y3347.Tick)))] (fun w_ => by kernel_rfl) (by kernel_rfl) ?_
          refine Z_end fun w3348 M3349 => ?_
          obtain rfl := Option.some.inj hm
          exact N_meet fun a ha => ⟨M3349.pick [] (by kernel_rfl), ha.sub (by kernel_rfl)⟩
        refine Z_known 19 false (by kernel_rfl) hc3345 ?_
        refine Z_runs [undef, undef, undef, undef, undef, undef, undef, undef, undef, undef, undef, undef, .bool false, .bool false] [(0, .slice p3226 x3224.length c3227), (3, .int .i64 s3307), (33, .bool false)] (fun w_ => by kernel_rfl) (by kernel_rfl) ?_
        refine Z_end fun w3350 M3351 => ?_
        obtain rfl := Option.some.inj hm
        exact N_meet fun a ha => ⟨M3351.pick [] (by kernel_rfl), ha.sub (by kernel_rfl)⟩
      intro a3354 w3352 ⟨M3353, hS3355⟩
      refine N_use hS3355 ?_
      have hm := hm3336
      refine N_then ?_
      rcases gx_bif hm with ⟨hc3356, hm⟩ | ⟨hc3356, hm⟩
      · refine G_cond_t (b := o3334) hc3356 (by kernel_rfl) ?_
        refine G_seq ?_
        refine G_region ?_
        refine W_run 1 [(2, .bool false)] w3352 (by kernel_rfl) ?_
        refine W_nil ?_
        refine N_then ?_
        refine G_ret ?_
        refine N_block_ret ?_
        refine N_then_ret ?_
        refine N_then_ret ?_
        obtain rfl := Option.some.inj hm
        obtain rfl := hout3309 _ rfl
        have hm := hmo3316; simp only [Sum.elim_inr] at hm
        refine N_block_ret ?_
        refine N_meet_ret ?_
        refine N_then_ret ?_
        obtain rfl := Option.some.inj hm
        refine N_ret [.bool false] (RVs_cons (RV_tmp (by kernel_rfl)) RVs_nil) ?_
        exact ⟨rfl, M3353.pick [] (by kernel_rfl)⟩
      refine G_cond_f (b := o3334) hc3356 (by kernel_rfl) ?_
      refine G_skip ?_
      refine N_block ?_
      refine N_then ?_
      refine G_region ?_
      refine W_run 3 [(0, .slice p3226 x3224.length c3227), (3, .int .i64 (w64 (s3307 + 1)))] w3352 (by kernel_rfl) ?_
      refine W_nil ?_
      obtain rfl := Option.some.inj hm
      exact N_loop fun a ha => ⟨_, rfl, M3353.pick [] (by kernel_rfl), ha.sub (by kernel_rfl)⟩
    refine G_cond_f (b := (decide (s3307 < (x3224.length : Int)))) hc3318 (by kernel_rfl) ?_
    refine G_exit ?_
    refine N_then_exit ?_
    refine N_then_exit ?_
    refine N_block_eq ?_
    obtain rfl := Option.some.inj hm
    obtain rfl := hout3309 _ rfl
    exact N_meet fun a ha => ⟨_, rfl, M3312.pick [] (by kernel_rfl), ha.sub (by kernel_rfl)⟩
  intro a3357 w3358 ⟨o3317, hout_, M3359, hS3360⟩
  refine N_use hS3360 ?_
  subst hout_
  have hm := hmo3316; simp only [Sum.elim_inl] at hm
  refine N_then ?_
  refine G_seq ?_
  refine G_region ?_
  refine W_run 4 [(2, .bool (decide ((x3224.length : Int) ≤ 30)))] w3358 (by kernel_rfl) ?_
  refine W_nil ?_
  refine N_then ?_
  refine G_ret ?_
  obtain rfl := Option.some.inj hm
  refine N_ret [.bool (decide ((x3224.length : Int) ≤ 30))] (RVs_cons (RV_tmp (by kernel_rfl)) RVs_nil) ?_
  exact ⟨rfl, M3359.pick [] (by kernel_rfl)⟩
theorem c_s_EventsOf (w : World) (x3206 : List Event) (p3208 : Option Addr) (c3209 : Nat) (h3210 : rdS encEvent w x3206 p3208 c3209) (x3211 : Int) {r : (List Event) × Bool} (hm : M.s_EventsOf x3206 x3211 = some r) :
    Calls Tryz.prog 14 #[.slice p3208 x3206.length c3209, .int .i64 x3211] w fun e w' => ∃ (p3213 : Option Addr) (c3214 : Nat) (sg3215 : Seg), e = .returned (.tuple #[.slice p3213 r.1.length c3214, .bool r.2]) ∧ ownS encEvent r.1 p3213 c3214 sg3215 ∧ Mem [] w w' [sg3215] := by
  unfold M.s_EventsOf at hm
  refine C_enter Tryz.func14 rfl (by kernel_rfl) ?_
  have M0 := Mem.refl [] w
  refine G_seq ?_
  refine G_region ?_
  refine W_run 2 [(0, .slice p3208 x3206.length c3209), (1, .int .i64 x3211)] w (by kernel_rfl) ?_
  refine W_nil ?_
  refine N_then ?_
  refine G_seq ?_
  refine G_region ?_
  refine W_lit (E := encEvent) ([] : List Event) 0 [] 25 M0 (by kernel_rfl) (by kernel_rfl) (by kernel_rfl) (by kernel_rfl) (by kernel_rfl) ?_
  intro p3217 c3218 sg3219 w3220 ho3221 M3222
  refine W_run 1 [(0, .slice p3208 x3206.length c3209), (1, .int .i64 x3211), (6, .slice p3217 ([] : List Event).length c3218)] w3220 (by kernel_rfl) ?_
  refine W_nil ?_
  refine N_then ?_
  refine G_seq ?_
  refine G_seq ?_
  obtain ⟨o3370, ho3371, hm3372⟩ := gx_bind hm
  refine G_meet (fun a w' => Mem [] w w' [sg3219] ∧ Sat Tryz.f14.ntmps [(0, .slice p3208 x3206.length c3209), (1, .int .i64 x3211), (6, .slice p3217 ([] : List Event).length c3218), (16, .bool o3370)] a) ?_ ?_
  · have hm := ho3371
    refine G_region ?_
    refine W_run 1 [(0, .slice p3208 x3206.length c3209), (1, .int .i64 x3211), (6, .slice p3217 ([] : List Event).length c3218), (9, .slice p3208 x3206.length c3209)] w3220 (by kernel_rfl) ?_
    obtain ⟨r3373, hr3373, hm⟩ := gx_bind hm
    refine W_call 44 #[.slice p3208 x3206.length c3209] (by kernel_rfl) (by kernel_rfl) ?_
    refine (c_s_l22Good w3220 x3206 p3208 c3209 (h3210.mem0 M3222) hr3373).mono ?_
    rintro e_ w3374 ⟨rfl, K3375⟩
    have M3376 := M3222.call0 K3375
    refine ⟨_, rfl, ?_⟩
    refine W_run 2 [(0, .slice p3208 x3206.length c3209), (1, .int .i64 x3211), (6, .slice p3217 ([] : List Event).length c3218), (12, .bool (!r3373))] w3374 (by kernel_rfl) ?_
    rcases gx_bif hm with ⟨hc3377, hm⟩ | ⟨hc3377, hm⟩
    · refine W_known 12 true (by kernel_rfl) hc3377 ?_
      refine W_run 4 [(0, .slice p3208 x3206.length c3209), (1, .int .i64 x3211), (6, .slice p3217 ([] : List Event).length c3218), (16, .bool true)] w3374 (by kernel_rfl) ?_
      refine W_nil ?_
      obtain rfl := Option.some.inj hm
      exact N_meet fun a ha => ⟨M3376.pick [0] (by kernel_rfl), ha.sub (by kernel_rfl)⟩
    refine W_known 12 false (by kernel_rfl) hc3377 ?_
    refine W_run 1 [(0, .slice p3208 x3206.length c3209), (1, .int .i64 x3211), (6, .slice p3217 ([] : List Event).length c3218), (12, .bool false), (13, .int .i64 x3211)] w3374 (by kernel_rfl) ?_
    obtain ⟨r3378, hr3378, hm⟩ := gx_bind hm
    refine W_call 45 #[.int .i64 x3211] (by kernel_rfl) (by kernel_rfl) ?_
    refine (c_s_l22Guest w3374 x3211 hr3378).mono ?_
    rintro e_ w3379 ⟨rfl, K3380⟩
    have M3381 := M3376.call0 K3380
    refine ⟨_, rfl, ?_⟩
    refine W_run 2 [(0, .slice p3208 x3206.length c3209), (1, .int .i64 x3211), (6, .slice p3217 ([] : List Event).length c3218), (16, .bool (!r3378))] w3379 (by kernel_rfl) ?_
    refine W_nil ?_
    obtain rfl := Option.some.inj hm
    exact N_meet fun a ha => ⟨M3381.pick [0] (by kernel_rfl), ha.sub (by kernel_rfl)⟩
  intro a3384 w3382 ⟨M3383, hS3385⟩
  refine N_use hS3385 ?_
  have hm := hm3372
  refine N_then ?_
  rcases gx_bif hm with ⟨hc3386, hm⟩ | ⟨hc3386, hm⟩
  · refine G_cond_t (b := o3370) hc3386 (by kernel_rfl) ?_
    refine G_seq ?_
    refine G_region ?_
    refine W_run 3 [(4, .slice p3217 ([] : List Event).length c3218), (5, .bool false)] w3382 (by kernel_rfl) ?_
    refine W_nil ?_
    refine N_then ?_
    refine G_ret ?_
    refine N_then_ret ?_
    obtain rfl := Option.some.inj hm
    refine N_ret [.slice p3217 ([] : List Event).length c3218, .bool false] (RVs_cons (RV_tmp (by kernel_rfl)) (RVs_cons (RV_tmp (by kernel_rfl)) RVs_nil)) ?_
    exact ⟨p3217, c3218, sg3219, rfl, ho3221, M3383.pick [0] (by kernel_rfl)⟩
  refine G_cond_f (b := o3370) hc3386 (by kernel_rfl) ?_
  refine G_skip ?_
  refine N_then ?_
  refine G_seq ?_
  refine G_seq ?_
  refine G_region ?_
  refine W_run 1 [(0, .slice p3208 x3206.length c3209), (1, .int .i64 x3211), (6, .slice p3217 ([] : List Event).length c3218), (7, .int .i64 0)] w3382 (by kernel_rfl) ?_
  refine W_nil ?_
  refine N_then ?_
  obtain ⟨out3495, hw3496, hmo3497⟩ := gx_bind hm
  refine G_meet (fun a w' => ∃ (p3504 : Option Addr), ∃ (c3505 : Nat), ∃ (sg3506 : Seg), ownS encEvent out3495 p3504 c3505 sg3506 ∧ Mem [] w w' [sg3506] ∧ Sat Tryz.f14.ntmps [(6, .slice p3504 out3495.length c3505)] a) ?_ ?_
  · refine G_block ?_
    refine G_while (σ := List Event × Int) (ρ := List Event) (fun s3488 a w' => ∃ (p3498 : Option Addr), ∃ (c3499 : Nat), ∃ (sg3500 : Seg), ownS encEvent s3488.1 p3498 c3499 sg3500 ∧ Mem [] w w' [sg3500] ∧ Sat Tryz.f14.ntmps [(0, .slice p3208 x3206.length c3209), (1, .int .i64 x3211), (6, .slice p3498 s3488.1.length c3499), (7, .int .i64 s3488.2)] a) hw3496 (fun a ha => ⟨p3217, c3218, sg3219, ho3221, M3383.pick [0] (by kernel_rfl), ha.sub (by kernel_rfl)⟩) ?_
    clear hm
    intro s3488 x3489 hm hout3490 a3491 w3492 ⟨p3498, c3499, sg3500, ho3501, M3493, hS3494⟩
    refine G_use hS3494 ?_
    refine G_seq ?_
    refine G_seq ?_
    refine G_region ?_
    refine W_run 4 [(0, .slice p3208 x3206.length c3209), (1, .int .i64 x3211), (6, .slice p3498 s3488.1.length c3499), (7, .int .i64 s3488.2), (21, .bool (decide (s3488.2 < (x3206.length : Int))))] w3492 (by kernel_rfl) ?_
    refine W_nil ?_
    refine N_then ?_
    rcases gx_bif hm with ⟨hc3509, hm⟩ | ⟨hc3509, hm⟩
    · refine G_cond_t (b := (decide (s3488.2 < (x3206.length : Int)))) hc3509 (by kernel_rfl) ?_
      refine G_skip ?_
      refine N_then ?_
      refine G_seq ?_
      refine G_block ?_
      refine G_seq ?_
      refine G_region ?_
      refine W_run 2 [(0, .slice p3208 x3206.length c3209), (1, .int .i64 x3211), (6, .slice p3498 s3488.1.length c3499), (7, .int .i64 s3488.2), (24, .slice p3208 x3206.length c3209), (25, .int .i64 s3488.2)] w3492 (by kernel_rfl) ?_
      obtain ⟨y3510, hy3510, hm⟩ := gx_bind hm
      refine W_val (elemP p3208 (s3488.2.toNat * 4)) w3492 (by kernel_rfl) (E_index (E := encEvent) _ _ _ x3206.length c3209 .i64 s3488.2 4 (y := y3510) rfl (by kernel_rfl) (by kernel_rfl) (by kernel_rfl) (h3210.mem0 M3493) rfl hy3510) ?_
      refine W_val (elemP p3208 (s3488.2.toNat * 4 + 1)) w3492 (by kernel_rfl) (E_fieldE (E := encEvent) _ _ 1 (s3488.2.toNat * 4) 1 rfl (by kernel_rfl) (by kernel_rfl) (h3210.mem0 M3493) hy3510) ?_
      refine W_val (.int .i64 y3510.Guest) w3492 (by kernel_rfl) (E_loadE (E := encEvent) _ _ false 1 s3488.2 1 (s3488.2.toNat * 4 + 1) y3510 (.int .i64 y3510.Guest) rfl (by kernel_rfl) (by kernel_rfl) (by kernel_rfl) (h3210.mem0 M3493) hy3510 rfl) ?_
      refine W_run 2 [(0, .slice p3208 x3206.length c3209), (1, .int .i64 x3211), (6, .slice p3498 s3488.1.length c3499), (7, .int .i64 s3488.2), (30, .bool (y3510.Guest == x3211))] w3492 (by kernel_rfl) ?_
      refine W_nil ?_
      refine N_then ?_
      obtain ⟨o3528, ho3529, hm3530⟩ := gx_bind hm
      refine G_meet (fun a w' => ∃ (p3531 : Option Addr), ∃ (c3532 : Nat), ∃ (sg3533 : Seg), ownS encEvent o3528 p3531 c3532 sg3533 ∧ Mem [] w w' [sg3533] ∧ Sat Tryz.f14.ntmps [(0, .slice p3208 x3206.length c3209), (1, .int .i64 x3211), (6, .slice p3531 o3528.length c3532), (7, .int .i64 s3488.2)] a) ?_ ?_
      · have hm := ho3529
        rcases gx_bif hm with ⟨hc3536, hm⟩ | ⟨hc3536, hm⟩
        · refine G_cond_t (b := (y3510.Guest == x3211)) hc3536 (by kernel_rfl) ?_
          refine G_region ?_
          refine W_run 3 [(0, .slice p3208 x3206.length c3209), (1, .int .i64 x3211), (6, .slice p3498 s3488.1.length c3499), (7, .int .i64 s3488.2), (31, .slice p3498 s3488.1.length c3499), (32, .slice p3208 x3206.length c3209), (33, .int .i64 s3488.2)] w3492 (by kernel_rfl) ?_
          obtain ⟨y3537, hy3537, hm⟩ := gx_bind hm
          refine W_val (elemP p3208 (s3488.2.toNat * 4)) w3492 (by kernel_rfl) (E_index (E := encEvent) _ _ _ x3206.length c3209 .i64 s3488.2 4 (y := y3537) rfl (by kernel_rfl) (by kernel_rfl) (by kernel_rfl) (h3210.mem0 M3493) rfl hy3537) ?_
          refine W_val (.agg #[.int .i64 y3537.Tick, .int .i64 y3537.Guest, .string y3537.Kind, .int .i64 y3537.Value]) w3492 (by kernel_rfl) (E_loadE (E := encEvent) _ _ true 4 s3488.2 0 (s3488.2.toNat * 4) y3537 (.agg #[.int .i64 y3537.Tick, .int .i64 y3537.Guest, .string y3537.Kind, .int .i64 y3537.Value]) rfl (by kernel_rfl) (by kernel_rfl) (by kernel_rfl) (h3210.mem0 M3493) hy3537 rfl) ?_
          refine W_lit (E := encEvent) [y3537] 1 [.int .i64 y3537.Tick, .int .i64 y3537.Guest, .string y3537.Kind, .int .i64 y3537.Value] 25 M3493 (by kernel_rfl) (by kernel_rfl) (by kernel_rfl) (by kernel_rfl) (by kernel_rfl) ?_
          intro p3538 c3539 sg3540 w3541 ho3542 M3543
          obtain ⟨ap3545, hap3545, hm⟩ := gx_bind hm
          refine W_append (E := encEvent) _ _ _ 40 [.int .i64 0, .int .i64 0, .string ByteArray.empty, .int .i64 0] 0 c3539 M3543 ho3501 (by kernel_rfl) (by kernel_rfl) (by kernel_rfl) rfl (by kernel_rfl) (by kernel_rfl) (by kernel_rfl) (by kernel_rfl) (by kernel_rfl) (by kernel_rfl) (ho3542.rd M3543 1 (by kernel_rfl)) hap3545 ?_
          intro p3546 c3547 sg3548 w3549 ho3550 M3551
          refine W_run 1 [(0, .slice p3208 x3206.length c3209), (1, .int .i64 x3211), (6, .slice p3546 ap3545.length c3547), (7, .int .i64 s3488.2)] w3549 (by kernel_rfl) ?_
          refine W_nil ?_
          obtain rfl := Option.some.inj hm
          exact N_meet fun a ha => ⟨p3546, c3547, sg3548, ho3550, M3551.pick [0] (by kernel_rfl), ha.sub (by kernel_rfl)⟩
        refine G_cond_f (b := (y3510.Guest == x3211)) hc3536 (by kernel_rfl) ?_
        refine G_skip ?_
        obtain rfl := Option.some.inj hm
        exact N_meet fun a ha => ⟨p3498, c3499, sg3500, ho3501, M3493.pick [0] (by kernel_rfl), ha.sub (by kernel_rfl)⟩
      intro a3555 w3553 ⟨p3531, c3532, sg3533, ho3534, M3554, hS3556⟩
      refine N_use hS3556 ?_
      have hm := hm3530
      refine N_block ?_
      refine N_then ?_
      refine G_region ?_
      refine W_run 3 [(0, .slice p3208 x3206.length c3209), (1, .int .i64 x3211), (6, .slice p3531 o3528.length c3532), (7, .int .i64 (w64 (s3488.2 + 1)))] w3553 (by kernel_rfl) ?_
      refine W_nil ?_
      obtain rfl := Option.some.inj hm
      exact N_loop fun a ha => ⟨_, rfl, p3531, c3532, sg3533, ho3534, M3554.pick [0] (by kernel_rfl), ha.sub (by kernel_rfl)⟩
    refine G_cond_f (b := (decide (s3488.2 < (x3206.length : Int)))) hc3509 (by kernel_rfl) ?_
    refine G_exit ?_
    refine N_then_exit ?_
    refine N_then_exit ?_
    refine N_block_eq ?_
    obtain rfl := Option.some.inj hm
    obtain rfl := hout3490 _ rfl
    exact N_meet fun a ha => ⟨p3498, c3499, sg3500, ho3501, M3493.pick [0] (by kernel_rfl), ha.sub (by kernel_rfl)⟩
  intro a3557 w3558 ⟨p3504, c3505, sg3506, ho3507, M3559, hS3560⟩
  refine N_use hS3560 ?_
  have hm := hmo3497
  refine N_then ?_
  refine G_seq ?_
  refine G_region ?_
  refine W_run 3 [(4, .slice p3504 out3495.length c3505), (5, .bool true)] w3558 (by kernel_rfl) ?_
  refine W_nil ?_
  refine N_then ?_
  refine G_ret ?_
  obtain rfl := Option.some.inj hm
  refine N_ret [.slice p3504 out3495.length c3505, .bool true] (RVs_cons (RV_tmp (by kernel_rfl)) (RVs_cons (RV_tmp (by kernel_rfl)) RVs_nil)) ?_
  exact ⟨p3504, c3505, sg3506, rfl, ho3507, M3559.pick [0] (by kernel_rfl)⟩
theorem c_l_rEvents (w : World) (x3571 : List Event) (p3573 : Option Addr) (c3574 : Nat) (h3575 : rdS encEvent w x3571 p3573 c3574) (x3576 : List Event) (p3578 : Option Addr) (c3579 : Nat) (h3580 : rdS encEvent w x3576 p3578 c3579) {r : Bool} (hm : M.l_rEvents x3571 x3576 = some r) :
    Calls Tryz.prog 15 #[.slice p3573 x3571.length c3574, .slice p3578 x3576.length c3579] w fun e w' => e = .returned (.bool r) ∧ Mem [] w w' [] := by
  unfold M.l_rEvents at hm
  refine C_enter Tryz.func15 rfl (by kernel_rfl) ?_
  have M0 := Mem.refl [] w
  refine G_seq ?_
  refine G_region ?_
  refine W_run 1 [(0, .slice p3573 x3571.length c3574), (1, .slice p3578 x3576.length c3579)] w (by kernel_rfl) ?_
  refine W_nil ?_
  refine N_then ?_
  refine G_seq ?_
  refine G_seq ?_
  refine G_region ?_
  refine W_run 5 [(0, .slice p3573 x3571.length c3574), (1, .slice p3578 x3576.length c3579), (10, .bool ((x3571.length : Int) != (x3576.length : Int)))] w (by kernel_rfl) ?_
  refine W_nil ?_
  refine N_then ?_
  rcases gx_bif hm with ⟨hc3581, hm⟩ | ⟨hc3581, hm⟩
  · refine G_cond_t (b := ((x3571.length : Int) != (x3576.length : Int))) hc3581 (by kernel_rfl) ?_
    refine G_seq ?_
    refine G_region ?_
    refine W_run 1 [(4, .bool false)] w (by kernel_rfl) ?_
    refine W_nil ?_
    refine N_then ?_
    refine G_ret ?_
    refine N_then_ret ?_
    obtain rfl := Option.some.inj hm
    refine N_ret [.bool false] (RVs_cons (RV_tmp (by kernel_rfl)) RVs_nil) ?_
    exact ⟨rfl, M0.pick [] (by kernel_rfl)⟩
  refine G_cond_f (b := ((x3571.length : Int) != (x3576.length : Int))) hc3581 (by kernel_rfl) ?_
  refine G_skip ?_
  refine N_then ?_
  refine G_seq ?_
  refine G_seq ?_
  refine G_region ?_
  refine W_run 1 [(0, .slice p3573 x3571.length c3574), (1, .slice p3578 x3576.length c3579), (5, .int .i64 0)] w (by kernel_rfl) ?_
  refine W_nil ?_
  refine N_then ?_
  obtain ⟨out3601, hw3602, hmo3603⟩ := gx_bind hm
  refine G_meet (fun a w' => ∃ (o3604 : Unit), out3601 = .inl o3604 ∧ Mem [] w w' [] ∧ Sat Tryz.f15.ntmps [] a) ?_ ?_
  · refine G_block ?_
    refine G_while (σ := Int) (ρ := (Unit) ⊕ (Bool)) (fun s3594 a w' => Mem [] w w' [] ∧ Sat Tryz.f15.ntmps [(0, .slice p3573 x3571.length c3574), (1, .slice p3578 x3576.length c3579), (5, .int .i64 s3594)] a) hw3602 (fun a ha => ⟨M0.pick [] (by kernel_rfl), ha.sub (by kernel_rfl)⟩) ?_
    clear hm
    intro s3594 x3595 hm hout3596 a3597 w3598 ⟨M3599, hS3600⟩
    refine G_use hS3600 ?_
    refine G_seq ?_
    refine G_seq ?_
    refine G_region ?_
    refine W_run 4 [(0, .slice p3573 x3571.length c3574), (1, .slice p3578 x3576.length c3579), (5, .int .i64 s3594), (14, .bool (decide (s3594 < (x3571.length : Int))))] w3598 (by kernel_rfl) ?_
    refine W_nil ?_
    refine N_then ?_
    rcases gx_bif hm with ⟨hc3605, hm⟩ | ⟨hc3605, hm⟩
    · refine G_cond_t (b := (decide (s3594 < (x3571.length : Int)))) hc3605 (by kernel_rfl) ?_
      refine G_skip ?_
      refine N_then ?_
      refine G_seq ?_
      refine G_block ?_
      refine G_seq ?_
      refine G_quiet (by kernel_rfl) (by kernel_rfl) M3599 ?_
      refine Z_runs [.slice p3573 x3571.length c3574, .int .i64 s3594] [(0, .slice p3573 x3571.length c3574), (1, .slice p3578 x3576.length c3579), (5, .int .i64 s3594), (17, .slice p3573 x3571.length c3574), (18, .int .i64 s3594)] (fun w_ => by kernel_rfl) (by kernel_rfl) ?_
      obtain ⟨y3606, hy3606, hm⟩ := gx_bind hm
      refine Z_val (elemP p3573 (s3594.toNat * 4)) (by kernel_rfl) (fun w_ M_ => (E_index (E := encEvent) _ _ _ x3571.length c3574 .i64 s3594 4 (y := y3606) rfl (by kernel_rfl) (by kernel_rfl) (by kernel_rfl) (h3575.mem0 M_) rfl hy3606)) ?_
      refine Z_val (.agg #[.int .i64 y3606.Tick, .int .i64 y3606.Guest, .string y3606.Kind, .int .i64 y3606.Value]) (by kernel_rfl) (fun w_ M_ => (E_loadE (E := encEvent) _ _ true 4 s3594 0 (s3594.toNat * 4) y3606 (.agg #[.int .i64 y3606.Tick, .int .i64 y3606.Guest, .string y3606.Kind, .int .i64 y3606.Value]) rfl (by kernel_rfl) (by kernel_rfl) (by kernel_rfl) (h3575.mem0 M_) hy3606 rfl)) ?_
      refine Z_runs [.slice p3578 x3576.length c3579, .int .i64 s3594] [(0, .slice p3573 x3571.length c3574), (1, .slice p3578 x3576.length c3579), (5, .int .i64 s3594), (20, .agg #[.int .i64 y3606.Tick, .int .i64 y3606.Guest, .string y3606.Kind, .int .i64 y3606.Value]), (21, .slice p3578 x3576.length c3579), (22, .int .i64 s3594)] (fun w_ => by kernel_rfl) (by kernel_rfl) ?_
      obtain ⟨y3607, hy3607, hm⟩ := gx_bind hm
      refine Z_val (elemP p3578 (s3594.toNat * 4)) (by kernel_rfl) (fun w_ M_ => (E_index (E := encEvent) _ _ _ x3576.length c3579 .i64 s3594 4 (y := y3607) rfl (by kernel_rfl) (by kernel_rfl) (by kernel_rfl) (h3580.mem0 M_) rfl hy3607)) ?_
      refine Z_val (.agg #[.int .i64 y3607.Tick, .int .i64 y3607.Guest, .string y3607.Kind, .int .i64 y3607.Value]) (by kernel_rfl) (fun w_ M_ => (E_loadE (E := encEvent) _ _ true 4 s3594 0 (s3594.toNat * 4) y3607 (.agg #[.int .i64 y3607.Tick, .int .i64 y3607.Guest, .string y3607.Kind, .int .i64 y3607.Value]) rfl (by kernel_rfl) (by kernel_rfl) (by kernel_rfl) (h3580.mem0 M_) hy3607 rfl)) ?_
      refine Z_val (.bool (!((y3606.Tick == y3607.Tick) && ((y3606.Guest == y3607.Guest) && ((y3606.Kind.toList == y3607.Kind.toList) && ((y3606.Value == y3607.Value) && true)))))) (by kernel_rfl) (fun w_ M_ => (E_neqAgg _ _ _ _ [.int .i64 y3606.Tick, .int .i64 y3606.Guest, .string y3606.Kind, .int .i64 y3606.Value] [.int .i64 y3607.Tick, .int .i64 y3607.Guest, .string y3607.Kind, .int .i64 y3607.Value] ((y3606.Tick == y3607.Tick) && ((y3606.Guest == y3607.Guest) && ((y3606.Kind.toList == y3607.Kind.toList) && ((y3606.Value == y3607.Value) && true)))) rfl (by kernel_rfl) (by kernel_rfl) (by kernel_rfl) (by kernel_rfl) (by kernel_rfl) (by kernel_rfl))) ?_
      refine Z_end fun w3608 M3609 => ?_
      refine N_then ?_
      rcases gx_bif hm with ⟨hc3610, hm⟩ | ⟨hc3610, hm⟩
      · refine G_cond_t (b := (!((y3606.Tick == y3607.Tick) && ((y3606.Guest == y3607.Guest) && ((y3606.Kind.toList == y3607.Kind.toList) && ((y3606.Value == y3607.Value) && true)))))) hc3610 (by kernel_rfl) ?_
        refine G_seq ?_
        refine G_region ?_
        refine W_run 1 [(4, .bool false)] w3608 (by kernel_rfl) ?_
        refine W_nil ?_
        refine N_then ?_
        refine G_ret ?_
        refine N_block_ret ?_
        refine N_then_ret ?_
        refine N_then_ret ?_
        obtain rfl := Option.some.inj hm
        obtain rfl := hout3596 _ rfl
        have hm := hmo3603; simp only [Sum.elim_inr] at hm
        refine N_block_ret ?_
        refine N_meet_ret ?_
        refine N_then_ret ?_
        obtain rfl := Option.some.inj hm
        refine N_ret [.bool false] (RVs_cons (RV_tmp (by kernel_rfl)) RVs_nil) ?_
        exact ⟨rfl, M3609.pick [] (by kernel_rfl)⟩
      refine G_cond_f (b := (!((y3606.Tick == y3607.Tick) && ((y3606.Guest == y3607.Guest) && ((y3606.Kind.toList == y3607.Kind.toList) && ((y3606.Value == y3607.Value) && true)))))) hc3610 (by kernel_rfl) ?_
      refine G_skip ?_
      refine N_block ?_
      refine N_then ?_
      refine G_region ?_
      refine W_run 3 [(0, .slice p3573 x3571.length c3574), (1, .slice p3578 x3576.length c3579), (5, .int .i64 (w64 (s3594 + 1)))] w3608 (by kernel_rfl) ?_
      refine W_nil ?_
      obtain rfl := Option.some.inj hm
      exact N_loop fun a ha => ⟨_, rfl, M3609.pick [] (by kernel_rfl), ha.sub (by kernel_rfl)⟩
    refine G_cond_f (b := (decide (s3594 < (x3571.length : Int)))) hc3605 (by kernel_rfl) ?_
    refine G_exit ?_
    refine N_then_exit ?_
    refine N_then_exit ?_
    refine N_block_eq ?_
    obtain rfl := Option.some.inj hm
    obtain rfl := hout3596 _ rfl
    exact N_meet fun a ha => ⟨_, rfl, M3599.pick [] (by kernel_rfl), ha.sub (by kernel_rfl)⟩
  intro a3611 w3612 ⟨o3604, hout_, M3613, hS3614⟩
  refine N_use hS3614 ?_
  subst hout_
  have hm := hmo3603; simp only [Sum.elim_inl] at hm
  refine N_then ?_
  refine G_seq ?_
  refine G_region ?_
  refine W_run 1 [(4, .bool true)] w3612 (by kernel_rfl) ?_
  refine W_nil ?_
  refine N_then ?_
  refine G_ret ?_
  obtain rfl := Option.some.inj hm
  refine N_ret [.bool true] (RVs_cons (RV_tmp (by kernel_rfl)) RVs_nil) ?_
  exact ⟨rfl, M3613.pick [] (by kernel_rfl)⟩
theorem c_slices_Sort_46 (w : World) (x3821 : List ByteArray) (p3823 : Option Addr) (c3824 : Nat) (sg3825 : Seg) (ho3826 : ownS Gx.encS x3821 p3823 c3824 sg3825) (hA : ∀ q ∈ List.flatten [sg3825], w.heap[q.1]? = some q.2) (hN : (idsOf [sg3825]).Nodup) {r : (List ByteArray)} (hm : M.slices_Sort_46 x3821 = some r) :
    Calls Tryz.prog 46 #[.slice p3823 x3821.length c3824] w fun e w' => ∃ (sg3827 : Seg), e = .returned (.tuple #[]) ∧ ownS Gx.encS r p3823 c3824 sg3827 ∧ r.length = x3821.length ∧ Mem (idsOf [sg3825]) w w' [sg3827] := by
  unfold M.slices_Sort_46 at hm
  rcases gx_bif hm with ⟨h, hm⟩ | ⟨h, hm⟩
  · obtain rfl := Option.some.inj hm
    exact sortS_run Tryz.slices_Sort_string Tryz.slices_Sort_string_none w x3821 p3823 c3824 sg3825 ho3826 hA hN (of_decide_eq_true h)
  cases hm
theorem c_slices_Compact_47 (w : World) (x3855 : List ByteArray) (p3857 : Option Addr) (c3858 : Nat) (sg3859 : Seg) (ho3860 : ownS Gx.encS x3855 p3857 c3858 sg3859) (hA : ∀ q ∈ List.flatten [sg3859], w.heap[q.1]? = some q.2) (hN : (idsOf [sg3859]).Nodup) {r : (List ByteArray) × (List ByteArray)} (hm : M.slices_Compact_47 x3855 = some r) :
    Calls Tryz.prog 47 #[.slice p3857 x3855.length c3858] w fun e w' => ∃ (sg3861 : Seg), ∃ (p3863 : Option Addr) (c3864 : Nat), e = .returned (.slice p3863 r.1.length c3864) ∧ ownS Gx.encS r.2 p3857 c3858 sg3861 ∧ r.2.length = x3855.length ∧ viewS 1 r.2 p3857 c3858 p3863 c3864 r.1 ∧ Mem (idsOf [sg3859]) w w' [sg3861] := by
  unfold M.slices_Compact_47 at hm
  rcases gx_bif hm with ⟨h, hm⟩ | ⟨h, hm⟩
  · obtain rfl := Option.some.inj hm
    exact compS_run Tryz.slices_Compact_string Tryz.slices_Compact_string_empty w x3855 p3857 c3858 sg3859 ho3860 hA hN (of_decide_eq_true h)
  cases hm
theorem c_i_CountKinds_1 (w : World) (x3966 : Event) (x3967 : ByteArray) (b3968 : Nat) (hb3969 : w.heap[b3968]? = some (.cells ⟨[.string x3967]⟩ 9 (0, 0))) {r : Bool} (hm : M.i_CountKinds_1 x3966 x3967 = some r) :
    Calls Tryz.prog 48 #[.agg #[.int .i64 x3966.Tick, .int .i64 x3966.Guest, .string x3966.Kind, .int .i64 x3966.Value], .pointer (some ⟨b3968, 0, none⟩)] w fun e w' => e = .returned (.bool r) ∧ Mem [] w w' [] := by
  unfold M.i_CountKinds_1 at hm
  refine C_enter Tryz.func48 rfl (by kernel_rfl) ?_
  have M0 := Mem.refl [] w
  refine G_seq ?_
  refine G_region ?_
  refine W_new (fun b => .pointer (some ⟨b, 0, none⟩)) (.cells ⟨[.int .i64 x3966.Tick, .int .i64 x3966.Guest, .string x3966.Kind, .int .i64 x3966.Value]⟩ 25 (0, 0)) M0 rfl (by kernel_rfl) (by kernel_rfl) ?_
  intro b3972 w3973 M3974
  refine W_run 1 [(1, .pointer (some ⟨b3968, 0, none⟩)), (2, .pointer (some ⟨b3972, 0, none⟩))] w3973 (by kernel_rfl) ?_
  refine W_nil ?_
  refine N_then ?_
  refine G_seq ?_
  refine G_region ?_
  refine W_run 1 [(1, .pointer (some ⟨b3968, 0, none⟩)), (4, .pointer (some ⟨b3972, 2, none⟩))] w3973 (by kernel_rfl) ?_
  refine W_val (.string x3966.Kind) w3973 (by kernel_rfl) (E_load (e := 25) (fr := (0, 0)) _ _ false 1 b3972 2 [.int .i64 x3966.Tick, .int .i64 x3966.Guest, .string x3966.Kind, .int .i64 x3966.Value] (.string x3966.Kind) rfl (by kernel_rfl) (by kernel_rfl) (by kernel_rfl) (M3974.blk 0 (b := b3972) (o := .cells ⟨[.int .i64 x3966.Tick, .int .i64 x3966.Guest, .string x3966.Kind, .int .i64 x3966.Value]⟩ 25 (0, 0)) (by kernel_rfl))) ?_
  refine W_val (.string x3967) w3973 (by kernel_rfl) (E_load (e := 9) (fr := (0, 0)) _ _ false 1 b3968 0 [.string x3967] (.string x3967) rfl (by kernel_rfl) (by kernel_rfl) (by kernel_rfl) (M3974.ro hb3969)) ?_
  refine W_run 2 [(3, .bool (x3966.Kind.toList == x3967.toList))] w3973 (by kernel_rfl) ?_
  refine W_nil ?_
  refine N_then ?_
  refine G_ret ?_
  obtain rfl := Option.some.inj hm
  refine N_ret [.bool (x3966.Kind.toList == x3967.toList)] (RVs_cons (RV_tmp (by kernel_rfl)) RVs_nil) ?_
  exact ⟨rfl, M3974.pick [] (by kernel_rfl)⟩
theorem c_i_eventsWhere_1__i_CountKinds_1 (w : World) (x3954 : Event) (x3955 : ByteArray) (b3956 : Nat) (hb3957 : w.heap[b3956]? = some (.cells ⟨[.string x3955]⟩ 9 (0, 0))) (b3959 : Nat) (hb3960 : w.heap[b3959]? = some (.cells ⟨[.func (.func 48) #[] #[.pointer (some ⟨b3956, 0, none⟩)]]⟩ 29 (0, 0))) {r : Bool} (hm : M.i_eventsWhere_1__i_CountKinds_1 x3954 x3955 = some r) :
    Calls Tryz.prog 69 #[.agg #[.int .i64 x3954.Tick, .int .i64 x3954.Guest, .string x3954.Kind, .int .i64 x3954.Value], .pointer (some ⟨b3959, 0, none⟩)] w fun e w' => e = .returned (.bool r) ∧ Mem [] w w' [] := by
  unfold M.i_eventsWhere_1__i_CountKinds_1 at hm
  refine C_enter Tryz.func69 rfl (by kernel_rfl) ?_
  have M0 := Mem.refl [] w
  refine G_seq ?_
  refine G_region ?_
  refine W_new (fun b => .pointer (some ⟨b, 0, none⟩)) (.cells ⟨[.int .i64 x3954.Tick, .int .i64 x3954.Guest, .string x3954.Kind, .int .i64 x3954.Value]⟩ 25 (0, 0)) M0 rfl (by kernel_rfl) (by kernel_rfl) ?_
  intro b3963 w3964 M3965
  refine W_run 1 [(1, .pointer (some ⟨b3959, 0, none⟩)), (2, .pointer (some ⟨b3963, 0, none⟩))] w3964 (by kernel_rfl) ?_
  refine W_nil ?_
  refine N_then ?_
  refine G_seq ?_
  refine G_region ?_
  refine W_val (.func (.func 48) #[] #[.pointer (some ⟨b3956, 0, none⟩)]) w3964 (by kernel_rfl) (E_load (e := 29) (fr := (0, 0)) _ _ false 1 b3959 0 [.func (.func 48) #[] #[.pointer (some ⟨b3956, 0, none⟩)]] (.func (.func 48) #[] #[.pointer (some ⟨b3956, 0, none⟩)]) rfl (by kernel_rfl) (by kernel_rfl) (by kernel_rfl) (M3965.ro hb3960)) ?_
  refine W_val (.agg #[.int .i64 x3954.Tick, .int .i64 x3954.Guest, .string x3954.Kind, .int .i64 x3954.Value]) w3964 (by kernel_rfl) (E_load (e := 25) (fr := (0, 0)) _ _ true 4 b3963 0 [.int .i64 x3954.Tick, .int .i64 x3954.Guest, .string x3954.Kind, .int .i64 x3954.Value] (.agg #[.int .i64 x3954.Tick, .int .i64 x3954.Guest, .string x3954.Kind, .int .i64 x3954.Value]) rfl (by kernel_rfl) (by kernel_rfl) (by kernel_rfl) (M3965.blk 0 (b := b3963) (o := .cells ⟨[.int .i64 x3954.Tick, .int .i64 x3954.Guest, .string x3954.Kind, .int .i64 x3954.Value]⟩ 25 (0, 0)) (by kernel_rfl))) ?_
  obtain ⟨r3975, hr3975, hm⟩ := gx_bind hm
  refine W_call 48 #[.agg #[.int .i64 x3954.Tick, .int .i64 x3954.Guest, .string x3954.Kind, .int .i64 x3954.Value], .pointer (some ⟨b3956, 0, none⟩)] (by kernel_rfl) (by kernel_rfl) ?_
  refine (c_i_CountKinds_1 w3964 x3954 x3955 b3956 (M3965.ro hb3957) hr3975).mono ?_
  rintro e_ w3976 ⟨rfl, K3977⟩
  have M3978 := M3965.call0 K3977
  refine ⟨_, rfl, ?_⟩
  refine W_run 2 [(3, .bool (!r3975))] w3976 (by kernel_rfl) ?_
  refine W_nil ?_
  refine N_then ?_
  refine G_ret ?_
  obtain rfl := Option.some.inj hm
  refine N_ret [.bool (!r3975)] (RVs_cons (RV_tmp (by kernel_rfl)) RVs_nil) ?_
  exact ⟨rfl, M3978.pick [] (by kernel_rfl)⟩
theorem c_slices_IndexFunc_83__i_eventsWhere_1__i_CountKinds_1 (w : World) (x3940 : List Event) (p3942 : Option Addr) (c3943 : Nat) (h3944 : rdS encEvent w x3940 p3942 c3943) (x3945 : ByteArray) (b3946 : Nat) (hb3947 : w.heap[b3946]? = some (.cells ⟨[.string x3945]⟩ 9 (0, 0))) (b3949 : Nat) (hb3950 : w.heap[b3949]? = some (.cells ⟨[.func (.func 48) #[] #[.pointer (some ⟨b3946, 0, none⟩)]]⟩ 29 (0, 0))) {r : Int} (hm : M.slices_IndexFunc_83__i_eventsWhere_1__i_CountKinds_1 x3940 x3945 = some r) :
    Calls Tryz.prog 83 #[.slice p3942 x3940.length c3943, .func (.func 69) #[] #[.pointer (some ⟨b3949, 0, none⟩)]] w fun e w' => e = .returned (.int .i64 r) ∧ Mem [] w w' [] := by
  unfold M.slices_IndexFunc_83__i_eventsWhere_1__i_CountKinds_1 at hm
  refine C_enter Tryz.func83 rfl (by kernel_rfl) ?_
  have M0 := Mem.refl [] w
  refine G_seq ?_
  refine G_region ?_
  refine W_run 1 [(0, .slice p3942 x3940.length c3943), (1, .func (.func 69) #[] #[.pointer (some ⟨b3949, 0, none⟩)])] w (by kernel_rfl) ?_
  refine W_nil ?_
  refine N_then ?_
  refine G_seq ?_
  refine G_seq ?_
  refine G_region ?_
  refine W_run 3 [(0, .slice p3942 x3940.length c3943), (1, .func (.func 69) #[] #[.pointer (some ⟨b3949, 0, none⟩)]), (7, .int .i64 (x3940.length : Int)), (8, .int .i64 0)] w (by kernel_rfl) ?_
  refine W_nil ?_
  refine N_then ?_
  obtain ⟨out3998, hw3999, hmo4000⟩ := gx_bind hm
  refine G_meet (fun a w' => ∃ (o4001 : Unit), out3998 = .inl o4001 ∧ Mem [] w w' [] ∧ Sat Tryz.f83.ntmps [] a) ?_ ?_
  · refine G_block ?_
    refine G_while (σ := Int) (ρ := (Unit) ⊕ (Int)) (fun s3991 a w' => Mem [] w w' [] ∧ Sat Tryz.f83.ntmps [(0, .slice p3942 x3940.length c3943), (1, .func (.func 69) #[] #[.pointer (some ⟨b3949, 0, none⟩)]), (7, .int .i64 (x3940.length : Int)), (8, .int .i64 s3991)] a) hw3999 (fun a ha => ⟨M0.pick [] (by kernel_rfl), ha.sub (by kernel_rfl)⟩) ?_
    clear hm
    intro s3991 x3992 hm hout3993 a3994 w3995 ⟨M3996, hS3997⟩
    refine G_use hS3997 ?_
    refine G_seq ?_
    refine G_region ?_
    refine W_run 1 [(0, .slice p3942 x3940.length c3943), (1, .func (.func 69) #[] #[.pointer (some ⟨b3949, 0, none⟩)]), (7, .int .i64 (x3940.length : Int)), (8, .int .i64 s3991), (9, .bool (decide (s3991 < (x3940.length : Int))))] w3995 (by kernel_rfl) ?_
    refine W_nil ?_
    refine N_then ?_
    refine G_seq ?_
    rcases gx_bif hm with ⟨hc4002, hm⟩ | ⟨hc4002, hm⟩
    · refine G_cond_t (b := (decide (s3991 < (x3940.length : Int)))) hc4002 (by kernel_rfl) ?_
      refine G_skip ?_
      refine N_then ?_
      refine G_seq ?_
      refine G_block ?_
      refine G_seq ?_
      refine G_region ?_
      refine W_run 2 [(0, .slice p3942 x3940.length c3943), (1, .func (.func 69) #[] #[.pointer (some ⟨b3949, 0, none⟩)]), (5, .int .i64 s3991), (7, .int .i64 (x3940.length : Int)), (8, .int .i64 s3991)] w3995 (by kernel_rfl) ?_
      refine W_nil ?_
      refine N_then ?_
      refine G_seq ?_
      refine G_region ?_
      refine W_run 3 [(0, .slice p3942 x3940.length c3943), (1, .func (.func 69) #[] #[.pointer (some ⟨b3949, 0, none⟩)]), (5, .int .i64 s3991), (7, .int .i64 (x3940.length : Int)), (8, .int .i64 s3991), (11, .func (.func 69) #[] #[.pointer (some ⟨b3949, 0, none⟩)]), (12, .slice p3942 x3940.length c3943), (13, .int .i64 s3991)] w3995 (by kernel_rfl) ?_
      obtain ⟨y4003, hy4003, hm⟩ := gx_bind hm
      refine W_val (elemP p3942 (s3991.toNat * 4)) w3995 (by kernel_rfl) (E_index (E := encEvent) _ _ _ x3940.length c3943 .i64 s3991 4 (y := y4003) rfl (by kernel_rfl) (by kernel_rfl) (by kernel_rfl) (h3944.mem0 M3996) rfl hy4003) ?_
      refine W_val (.agg #[.int .i64 y4003.Tick, .int .i64 y4003.Guest, .string y4003.Kind, .int .i64 y4003.Value]) w3995 (by kernel_rfl) (E_loadE (E := encEvent) _ _ true 4 s3991 0 (s3991.toNat * 4) y4003 (.agg #[.int .i64 y4003.Tick, .int .i64 y4003.Guest, .string y4003.Kind, .int .i64 y4003.Value]) rfl (by kernel_rfl) (by kernel_rfl) (by kernel_rfl) (h3944.mem0 M3996) hy4003 rfl) ?_
      obtain ⟨r4004, hr4004, hm⟩ := gx_bind hm
      refine W_call 69 #[.agg #[.int .i64 y4003.Tick, .int .i64 y4003.Guest, .string y4003.Kind, .int .i64 y4003.Value], .pointer (some ⟨b3949, 0, none⟩)] (by kernel_rfl) (by kernel_rfl) ?_
      refine (c_i_eventsWhere_1__i_CountKinds_1 w3995 y4003 x3945 b3946 (M3996.ro hb3947) b3949 (M3996.ro hb3950) hr4004).mono ?_
      rintro e_ w4005 ⟨rfl, K4006⟩
      have M4007 := M3996.call0 K4006
      refine ⟨_, rfl, ?_⟩
      refine W_nil ?_
      refine N_then ?_
      rcases gx_bif hm with ⟨hc4008, hm⟩ | ⟨hc4008, hm⟩
      · refine G_cond_t (b := r4004) hc4008 (by kernel_rfl) ?_
        refine G_seq ?_
        refine G_region ?_
        refine W_run 2 [(4, .int .i64 s3991)] w4005 (by kernel_rfl) ?_
        refine W_nil ?_
        refine N_then ?_
        refine G_ret ?_
        refine N_block_ret ?_
        refine N_then_ret ?_
        refine N_then_ret ?_
        obtain rfl := Option.some.inj hm
        obtain rfl := hout3993 _ rfl
        have hm := hmo4000; simp only [Sum.elim_inr] at hm
        refine N_block_ret ?_
        refine N_meet_ret ?_
        refine N_then_ret ?_
        obtain rfl := Option.some.inj hm
        refine N_ret [.int .i64 s3991] (RVs_cons (RV_tmp (by kernel_rfl)) RVs_nil) ?_
        exact ⟨rfl, M4007.pick [] (by kernel_rfl)⟩
      refine G_cond_f (b := r4004) hc4008 (by kernel_rfl) ?_
      refine G_skip ?_
      refine N_block ?_
      refine N_then ?_
      refine G_region ?_
      refine W_run 2 [(0, .slice p3942 x3940.length c3943), (1, .func (.func 69) #[] #[.pointer (some ⟨b3949, 0, none⟩)]), (7, .int .i64 (x3940.length : Int)), (8, .int .i64 (w64 (s3991 + 1)))] w4005 (by kernel_rfl) ?_
      refine W_nil ?_
      obtain rfl := Option.some.inj hm
      exact N_loop fun a ha => ⟨_, rfl, M4007.pick [] (by kernel_rfl), ha.sub (by kernel_rfl)⟩
    refine G_cond_f (b := (decide (s3991 < (x3940.length : Int)))) hc4002 (by kernel_rfl) ?_
    refine G_exit ?_
    refine N_then_exit ?_
    refine N_then_exit ?_
    refine N_block_eq ?_
    obtain rfl := Option.some.inj hm
    obtain rfl := hout3993 _ rfl
    exact N_meet fun a ha => ⟨_, rfl, M3996.pick [] (by kernel_rfl), ha.sub (by kernel_rfl)⟩
  intro a4009 w4010 ⟨o4001, hout_, M4011, hS4012⟩
  refine N_use hS4012 ?_
  subst hout_
  have hm := hmo4000; simp only [Sum.elim_inl] at hm
  refine N_then ?_
  refine G_seq ?_
  refine G_region ?_
  refine W_run 1 [(4, .int .i64 (-1))] w4010 (by kernel_rfl) ?_
  refine W_nil ?_
  refine N_then ?_
  refine G_ret ?_
  obtain rfl := Option.some.inj hm
  refine N_ret [.int .i64 (-1)] (RVs_cons (RV_tmp (by kernel_rfl)) RVs_nil) ?_
  exact ⟨rfl, M4011.pick [] (by kernel_rfl)⟩
theorem c_slices_DeleteFunc_68__i_eventsWhere_1__i_CountKinds_1 (w : World) (x3920 : List Event) (p3922 : Option Addr) (c3923 : Nat) (sg3924 : Seg) (ho3925 : ownS encEvent x3920 p3922 c3923 sg3924) (x3926 : ByteArray) (b3927 : Nat) (hb3928 : w.heap[b3927]? = some (.cells ⟨[.string x3926]⟩ 9 (0, 0))) (b3931 : Nat) (hb3932 : w.heap[b3931]? = some (.cells ⟨[.func (.func 48) #[] #[.pointer (some ⟨b3927, 0, none⟩)]]⟩ 29 (0, 0))) (hA : ∀ q ∈ List.flatten [sg3924], w.heap[q.1]? = some q.2) (hN : (idsOf [sg3924]).Nodup) (nf3930 : b3927 ∉ (idsOf [sg3924])) (nf3934 : b3931 ∉ (idsOf [sg3924])) {r : (List Event) × (List Event)} (hm : M.slices_DeleteFunc_68__i_eventsWhere_1__i_CountKinds_1 x3920 x3926 = some r) :
    Calls Tryz.prog 68 #[.slice p3922 x3920.length c3923, .func (.func 69) #[] #[.pointer (some ⟨b3931, 0, none⟩)]] w fun e w' => ∃ (sg3935 : Seg), ∃ (p3937 : Option Addr) (c3938 : Nat), e = .returned (.slice p3937 r.1.length c3938) ∧ ownS encEvent r.2 p3922 c3923 sg3935 ∧ r.2.length = x3920.length ∧ viewS 4 r.2 p3922 c3923 p3937 c3938 r.1 ∧ Mem (idsOf [sg3924]) w w' [sg3935] := by
  unfold M.slices_DeleteFunc_68__i_eventsWhere_1__i_CountKinds_1 at hm
  refine C_enter Tryz.func68 rfl (by kernel_rfl) ?_
  have M0 := Mem.start' w [sg3924] hA hN
  refine G_seq ?_
  refine G_region ?_
  refine W_run 1 [(0, .slice p3922 x3920.length c3923), (1, .func (.func 69) #[] #[.pointer (some ⟨b3931, 0, none⟩)])] w (by kernel_rfl) ?_
  refine W_nil ?_
  refine N_then ?_
  refine G_seq ?_
  refine G_region ?_
  refine W_run 2 [(0, .slice p3922 x3920.length c3923), (1, .func (.func 69) #[] #[.pointer (some ⟨b3931, 0, none⟩)]), (8, .slice p3922 x3920.length c3923), (9, .func (.func 69) #[] #[.pointer (some ⟨b3931, 0, none⟩)])] w (by kernel_rfl) ?_
  obtain ⟨r4013, hr4013, hm⟩ := gx_bind hm
  refine W_call 83 #[.slice p3922 x3920.length c3923, .func (.func 69) #[] #[.pointer (some ⟨b3931, 0, none⟩)]] (by kernel_rfl) (by kernel_rfl) ?_
  refine (c_slices_IndexFunc_83__i_eventsWhere_1__i_CountKinds_1 w x3920 p3922 c3923 (ho3925.rd M0 0 (by kernel_rfl)) x3926 b3927 (M0.roX hb3928 nf3930) b3931 (M0.roX hb3932 nf3934) hr4013).mono ?_
  rintro e_ w4014 ⟨rfl, K4015⟩
  have M4016 := M0.call0 K4015
  refine ⟨_, rfl, ?_⟩
  refine W_run 1 [(0, .slice p3922 x3920.length c3923), (1, .func (.func 69) #[] #[.pointer (some ⟨b3931, 0, none⟩)]), (5, .int .i64 r4013)] w4014 (by kernel_rfl) ?_
  refine W_nil ?_
  refine N_then ?_
  refine G_seq ?_
  refine G_seq ?_
  refine G_region ?_
  refine W_run 2 [(0, .slice p3922 x3920.length c3923), (1, .func (.func 69) #[] #[.pointer (some ⟨b3931, 0, none⟩)]), (5, .int .i64 r4013), (12, .bool (r4013 == (-1)))] w4014 (by kernel_rfl) ?_
  refine W_nil ?_
  refine N_then ?_
  rcases gx_bif hm with ⟨hc4017, hm⟩ | ⟨hc4017, hm⟩
  · refine G_cond_t (b := (r4013 == (-1))) hc4017 (by kernel_rfl) ?_
    refine G_seq ?_
    refine G_region ?_
    refine W_run 2 [(4, .slice p3922 x3920.length c3923)] w4014 (by kernel_rfl) ?_
    refine W_nil ?_
    refine N_then ?_
    refine G_ret ?_
    refine N_then_ret ?_
    obtain rfl := Option.some.inj hm
    refine N_ret [.slice p3922 x3920.length c3923] (RVs_cons (RV_tmp (by kernel_rfl)) RVs_nil) ?_
    exact ⟨sg3924, p3922, c3923, rfl, ho3925, rfl, (viewS_self ho3925), M4016.pick [0] (by kernel_rfl)⟩
  refine G_cond_f (b := (r4013 == (-1))) hc4017 (by kernel_rfl) ?_
  refine G_skip ?_
  refine N_then ?_
  refine G_seq ?_
  refine G_seq ?_
  refine G_region ?_
  refine W_run 3 [(0, .slice p3922 x3920.length c3923), (1, .func (.func 69) #[] #[.pointer (some ⟨b3931, 0, none⟩)]), (5, .int .i64 r4013), (6, .int .i64 (w64 (r4013 + 1)))] w4014 (by kernel_rfl) ?_
  refine W_nil ?_
  refine N_then ?_
  obtain ⟨out4096, hw4097, hmo4098⟩ := gx_bind hm
  refine G_meet (fun a w' => ∃ (sg4103 : Seg), ownS encEvent out4096.2 p3922 c3923 sg4103 ∧ out4096.2.length = x3920.length ∧ Mem (idsOf [sg3924]) w w' [sg4103] ∧ Sat Tryz.f68.ntmps [(0, .slice p3922 out4096.2.length c3923), (5, .int .i64 out4096.1)] a) ?_ ?_
  · refine G_block ?_
    refine G_while (σ := Int × Int × List Event) (ρ := Int × List Event) (fun s4089 a w' => ∃ (sg4099 : Seg), ownS encEvent s4089.2.2 p3922 c3923 sg4099 ∧ s4089.2.2.length = x3920.length ∧ Mem (idsOf [sg3924]) w w' [sg4099] ∧ Sat Tryz.f68.ntmps [(0, .slice p3922 s4089.2.2.length c3923), (1, .func (.func 69) #[] #[.pointer (some ⟨b3931, 0, none⟩)]), (5, .int .i64 s4089.1), (6, .int .i64 s4089.2.1)] a) hw4097 (fun a ha => ⟨sg3924, ho3925, rfl, M4016.pick [0] (by kernel_rfl), ha.sub (by kernel_rfl)⟩) ?_
    clear hm
    intro s4089 x4090 hm hout4091 a4092 w4093 ⟨sg4099, ho4100, hl4101, M4094, hS4095⟩
    refine G_use hS4095 ?_
    refine G_seq ?_
    refine G_seq ?_
    refine G_region ?_
    refine W_run 4 [(0, .slice p3922 s4089.2.2.length c3923), (1, .func (.func 69) #[] #[.pointer (some ⟨b3931, 0, none⟩)]), (5, .int .i64 s4089.1), (6, .int .i64 s4089.2.1), (19, .bool (decide (s4089.2.1 < (s4089.2.2.length : Int))))] w4093 (by kernel_rfl) ?_
    refine W_nil ?_
    refine N_then ?_
    rcases gx_bif hm with ⟨hc4106, hm⟩ | ⟨hc4106, hm⟩
    · refine G_cond_t (b := (decide (s4089.2.1 < (s4089.2.2.length : Int)))) hc4106 (by kernel_rfl) ?_
      refine G_skip ?_
      refine N_then ?_
      refine G_seq ?_
      refine G_block ?_
      refine G_seq ?_
      refine G_region ?_
      refine W_run 2 [(0, .slice p3922 s4089.2.2.length c3923), (1, .func (.func 69) #[] #[.pointer (some ⟨b3931, 0, none⟩)]), (5, .int .i64 s4089.1), (6, .int .i64 s4089.2.1), (22, .slice p3922 s4089.2.2.length c3923), (23, .int .i64 s4089.2.1)] w4093 (by kernel_rfl) ?_
      obtain ⟨y4107, hy4107, hm⟩ := gx_bind hm
      refine W_val (elemP p3922 (s4089.2.1.toNat * 4)) w4093 (by kernel_rfl) (E_index (E := encEvent) _ _ _ s4089.2.2.length c3923 .i64 s4089.2.1 4 (y := y4107) rfl (by kernel_rfl) (by kernel_rfl) (by kernel_rfl) (ho4100.rd M4094 0 (by kernel_rfl)) rfl hy4107) ?_
      refine W_val (.agg #[.int .i64 y4107.Tick, .int .i64 y4107.Guest, .string y4107.Kind, .int .i64 y4107.Value]) w4093 (by kernel_rfl) (E_loadE (E := encEvent) _ _ true 4 s4089.2.1 0 (s4089.2.1.toNat * 4) y4107 (.agg #[.int .i64 y4107.Tick, .int .i64 y4107.Guest, .string y4107.Kind, .int .i64 y4107.Value]) rfl (by kernel_rfl) (by kernel_rfl) (by kernel_rfl) (ho4100.rd M4094 0 (by kernel_rfl)) hy4107 rfl) ?_
      refine W_new (fun b => .pointer (some ⟨b, 0, none⟩)) (.cells ⟨[.int .i64 0, .int .i64 0, .string ByteArray.empty, .int .i64 0]⟩ 25 (0, 0)) M4094 rfl (by kernel_rfl) (by kernel_rfl) ?_
      intro b4109 w4110 M4111
      refine W_store _ _ _ true 4 b4109 0 [.int .i64 0, .int .i64 0, .string ByteArray.empty, .int .i64 0] 25 (.agg #[.int .i64 y4107.Tick, .int .i64 y4107.Guest, .string y4107.Kind, .int .i64 y4107.Value]) 1 [.int .i64 y4107.Tick, .int .i64 y4107.Guest, .string y4107.Kind, .int .i64 y4107.Value] M4111 (by kernel_rfl) rfl (by kernel_rfl) (by kernel_rfl) (by kernel_rfl) (by kernel_rfl) (by kernel_rfl) (by kernel_rfl) (by kernel_rfl) (by kernel_rfl) ?_
      intro w4112 M4113
      refine W_nil ?_
      refine N_then ?_
      refine G_seq ?_
      refine G_region ?_
      refine W_run 1 [(0, .slice p3922 s4089.2.2.length c3923), (1, .func (.func 69) #[] #[.pointer (some ⟨b3931, 0, none⟩)]), (5, .int .i64 s4089.1), (6, .int .i64 s4089.2.1), (7, .pointer (some ⟨b4109, 0, none⟩)), (26, .func (.func 69) #[] #[.pointer (some ⟨b3931, 0, none⟩)])] w4112 (by kernel_rfl) ?_
      refine W_val (.agg #[.int .i64 y4107.Tick, .int .i64 y4107.Guest, .string y4107.Kind, .int .i64 y4107.Value]) w4112 (by kernel_rfl) (E_load (e := 25) (fr := (0, 0)) _ _ true 4 b4109 0 [.int .i64 y4107.Tick, .int .i64 y4107.Guest, .string y4107.Kind, .int .i64 y4107.Value] (.agg #[.int .i64 y4107.Tick, .int .i64 y4107.Guest, .string y4107.Kind, .int .i64 y4107.Value]) rfl (by kernel_rfl) (by kernel_rfl) (by kernel_rfl) (M4113.blk 1 (b := b4109) (o := .cells ⟨[.int .i64 y4107.Tick, .int .i64 y4107.Guest, .string y4107.Kind, .int .i64 y4107.Value]⟩ 25 (0, 0)) (by kernel_rfl))) ?_
      obtain ⟨r4114, hr4114, hm⟩ := gx_bind hm
      refine W_call 69 #[.agg #[.int .i64 y4107.Tick, .int .i64 y4107.Guest, .string y4107.Kind, .int .i64 y4107.Value], .pointer (some ⟨b3931, 0, none⟩)] (by kernel_rfl) (by kernel_rfl) ?_
      refine (c_i_eventsWhere_1__i_CountKinds_1 w4112 y4107 x3926 b3927 (M4113.roX hb3928 nf3930) b3931 (M4113.roX hb3932 nf3934) hr4114).mono ?_
      rintro e_ w4115 ⟨rfl, K4116⟩
      have M4117 := M4113.call0 K4116
      refine ⟨_, rfl, ?_⟩
      refine W_run 1 [(0, .slice p3922 s4089.2.2.length c3923), (1, .func (.func 69) #[] #[.pointer (some ⟨b3931, 0, none⟩)]), (5, .int .i64 s4089.1), (6, .int .i64 s4089.2.1), (7, .pointer (some ⟨b4109, 0, none⟩)), (29, .bool (!r4114))] w4115 (by kernel_rfl) ?_
      refine W_nil ?_
      refine N_then ?_
      obtain ⟨o4124, ho4125, hm4126⟩ := gx_bind hm
      refine G_meet (fun a w' => ∃ (sg4127 : Seg), ownS encEvent o4124.2 p3922 c3923 sg4127 ∧ o4124.2.length = x3920.length ∧ Mem (idsOf [sg3924]) w w' [sg4127] ∧ Sat Tryz.f68.ntmps [(0, .slice p3922 o4124.2.length c3923), (1, .func (.func 69) #[] #[.pointer (some ⟨b3931, 0, none⟩)]), (5, .int .i64 o4124.1), (6, .int .i64 s4089.2.1)] a) ?_ ?_
      · have hm := ho4125
        rcases gx_bif hm with ⟨hc4130, hm⟩ | ⟨hc4130, hm⟩
        · refine G_cond_t (b := (!r4114)) hc4130 (by kernel_rfl) ?_
          refine G_seq ?_
          refine G_region ?_
          refine W_run 2 [(0, .slice p3922 s4089.2.2.length c3923), (1, .func (.func 69) #[] #[.pointer (some ⟨b3931, 0, none⟩)]), (5, .int .i64 s4089.1), (6, .int .i64 s4089.2.1), (7, .pointer (some ⟨b4109, 0, none⟩)), (30, .slice p3922 s4089.2.2.length c3923), (31, .int .i64 s4089.1)] w4115 (by kernel_rfl) ?_
          refine W_val (.agg #[.int .i64 y4107.Tick, .int .i64 y4107.Guest, .string y4107.Kind, .int .i64 y4107.Value]) w4115 (by kernel_rfl) (E_load (e := 25) (fr := (0, 0)) _ _ true 4 b4109 0 [.int .i64 y4107.Tick, .int .i64 y4107.Guest, .string y4107.Kind, .int .i64 y4107.Value] (.agg #[.int .i64 y4107.Tick, .int .i64 y4107.Guest, .string y4107.Kind, .int .i64 y4107.Value]) rfl (by kernel_rfl) (by kernel_rfl) (by kernel_rfl) (M4117.blk 1 (b := b4109) (o := .cells ⟨[.int .i64 y4107.Tick, .int .i64 y4107.Guest, .string y4107.Kind, .int .i64 y4107.Value]⟩ 25 (0, 0)) (by kernel_rfl))) ?_
          obtain ⟨y4131, hy4131, hm⟩ := gx_bind hm
          refine W_val (elemP p3922 (s4089.1.toNat * 4)) w4115 (by kernel_rfl) (E_index (E := encEvent) _ _ _ s4089.2.2.length c3923 .i64 s4089.1 4 (y := y4131) rfl (by kernel_rfl) (by kernel_rfl) (by kernel_rfl) (ho4100.rd M4117 0 (by kernel_rfl)) rfl hy4131) ?_
          refine W_storeE (E := encEvent) _ _ _ true 4 s4089.1.toNat 0 (s4089.1.toNat * 4) y4131 y4107 (.agg #[.int .i64 y4107.Tick, .int .i64 y4107.Guest, .string y4107.Kind, .int .i64 y4107.Value]) 0 M4117 ho4100 (by kernel_rfl) (by kernel_rfl) rfl (by kernel_rfl) (by kernel_rfl) (by kernel_rfl) (by kernel_rfl) (by kernel_rfl) (by kernel_rfl) (by kernel_rfl) (gxIdx_spec hy4131).2 rfl ?_
          intro w4132 sg4134 ho4135 M4133
          refine W_conv 0 (.slice p3922 s4089.2.2.length c3923) (.slice p3922 (s4089.2.2.set s4089.1.toNat y4107).length c3923) (by kernel_rfl) (by rw [@List.length_set _ s4089.2.2 s4089.1.toNat y4107]) ?_
          refine W_conv 30 (.slice p3922 s4089.2.2.length c3923) (.slice p3922 (s4089.2.2.set s4089.1.toNat y4107).length c3923) (by kernel_rfl) (by rw [@List.length_set _ s4089.2.2 s4089.1.toNat y4107]) ?_
          refine W_nil ?_
          refine N_then ?_
          refine G_region ?_
          refine W_run 3 [(0, .slice p3922 (s4089.2.2.set s4089.1.toNat y4107).length c3923), (1, .func (.func 69) #[] #[.pointer (some ⟨b3931, 0, none⟩)]), (5, .int .i64 (w64 (s4089.1 + 1))), (6, .int .i64 s4089.2.1)] w4132 (by kernel_rfl) ?_
          refine W_nil ?_
          obtain rfl := Option.some.inj hm
          exact N_meet fun a ha => ⟨sg4134, ho4135, (List.length_set.trans hl4101), M4133.pick [0] (by kernel_rfl), ha.sub (by kernel_rfl)⟩
        refine G_cond_f (b := (!r4114)) hc4130 (by kernel_rfl) ?_
        refine G_skip ?_
        obtain rfl := Option.some.inj hm
        exact N_meet fun a ha => ⟨sg4099, ho4100, hl4101, M4117.pick [0] (by kernel_rfl), ha.sub (by kernel_rfl)⟩
      intro a4138 w4136 ⟨sg4127, ho4128, hl4129, M4137, hS4139⟩
      refine N_use hS4139 ?_
      have hm := hm4126
      refine N_block ?_
      refine N_then ?_
      refine G_region ?_
      refine W_run 3 [(0, .slice p3922 o4124.2.length c3923), (1, .func (.func 69) #[] #[.pointer (some ⟨b3931, 0, none⟩)]), (5, .int .i64 o4124.1), (6, .int .i64 (w64 (s4089.2.1 + 1)))] w4136 (by kernel_rfl) ?_
      refine W_nil ?_
      obtain rfl := Option.some.inj hm
      exact N_loop fun a ha => ⟨_, rfl, sg4127, ho4128, hl4129, M4137.pick [0] (by kernel_rfl), ha.sub (by kernel_rfl)⟩
    refine G_cond_f (b := (decide (s4089.2.1 < (s4089.2.2.length : Int)))) hc4106 (by kernel_rfl) ?_
    refine G_exit ?_
    refine N_then_exit ?_
    refine N_then_exit ?_
    refine N_block_eq ?_
    obtain rfl := Option.some.inj hm
    obtain rfl := hout4091 _ rfl
    exact N_meet fun a ha => ⟨sg4099, ho4100, hl4101, M4094.pick [0] (by kernel_rfl), ha.sub (by kernel_rfl)⟩
  intro a4140 w4141 ⟨sg4103, ho4104, hl4105, M4142, hS4143⟩
  refine N_use hS4143 ?_
  have hm := hmo4098
  refine N_then ?_
  refine G_seq ?_
  refine G_region ?_
  refine W_run 2 [(0, .slice p3922 out4096.2.length c3923), (5, .int .i64 out4096.1), (36, .slice p3922 out4096.2.length c3923), (37, .int .i64 out4096.1)] w4141 (by kernel_rfl) ?_
  obtain ⟨ys4144, hys4144, hm⟩ := gx_bind hm
  refine W_val (.slice (subP p3922 out4096.1.toNat c3923 4) ys4144.length (c3923 - out4096.1.toNat)) w4141 (by kernel_rfl) (E_slice (E := encEvent) _ _ _ _ out4096.2.length out4096.1 (out4096.2.length : Int) rfl (by kernel_rfl) (Or.inr ⟨_, rfl, by kernel_rfl⟩) (Or.inl ⟨rfl, rfl⟩) (by kernel_rfl) (ho4104.rd M4142 0 (by kernel_rfl)) rfl hys4144) ?_
  refine W_clear (E := encEvent) _ _ out4096.1 (out4096.2.length : Int) 40 [.int .i64 0, .int .i64 0, .string ByteArray.empty, .int .i64 0] ((⟨0, 0, ByteArray.empty, 0⟩ : Event) : Event) 0 M4142 ho4104 (by kernel_rfl) (by kernel_rfl) (by kernel_rfl) rfl (by kernel_rfl) hys4144 (by kernel_rfl) (by kernel_rfl) ?_
  intro w4146 sg4148 ho4149 M4147
  refine W_conv 0 (.slice p3922 out4096.2.length c3923) (.slice p3922 (gxClear out4096.2 out4096.1 (out4096.2.length : Int) ((⟨0, 0, ByteArray.empty, 0⟩ : Event) : Event)).length c3923) (by kernel_rfl) (by rw [gxClear_len ((⟨0, 0, ByteArray.empty, 0⟩ : Event) : Event) hys4144]) ?_
  refine W_conv 36 (.slice p3922 out4096.2.length c3923) (.slice p3922 (gxClear out4096.2 out4096.1 (out4096.2.length : Int) ((⟨0, 0, ByteArray.empty, 0⟩ : Event) : Event)).length c3923) (by kernel_rfl) (by rw [gxClear_len ((⟨0, 0, ByteArray.empty, 0⟩ : Event) : Event) hys4144]) ?_
  refine W_nil ?_
  refine N_then ?_
  refine G_seq ?_
  refine G_region ?_
  refine W_run 2 [(39, .slice p3922 (gxClear out4096.2 out4096.1 (out4096.2.length : Int) ((⟨0, 0, ByteArray.empty, 0⟩ : Event) : Event)).length c3923), (40, .int .i64 out4096.1)] w4146 (by kernel_rfl) ?_
  obtain ⟨ys4150, hys4150, hm⟩ := gx_bind hm
  refine W_val (.slice (subP p3922 (0 : Int).toNat c3923 4) ys4150.length (c3923 - (0 : Int).toNat)) w4146 (by kernel_rfl) (E_slice (E := encEvent) _ _ _ _ (gxClear out4096.2 out4096.1 (out4096.2.length : Int) ((⟨0, 0, ByteArray.empty, 0⟩ : Event) : Event)).length 0 out4096.1 rfl (by kernel_rfl) (Or.inl ⟨rfl, rfl⟩) (Or.inr ⟨_, rfl, by kernel_rfl⟩) (by kernel_rfl) (ho4149.rd M4147 0 (by kernel_rfl)) rfl hys4150) ?_
  refine W_run 1 [(4, .slice (subP p3922 (0 : Int).toNat c3923 4) ys4150.length (c3923 - (0 : Int).toNat))] w4146 (by kernel_rfl) ?_
  refine W_nil ?_
  refine N_then ?_
  refine G_ret ?_
  obtain rfl := Option.some.inj hm
  refine N_ret [.slice (subP p3922 (0 : Int).toNat c3923 4) ys4150.length (c3923 - (0 : Int).toNat)] (RVs_cons (RV_tmp (by kernel_rfl)) RVs_nil) ?_
  exact ⟨sg4148, (subP p3922 (0 : Int).toNat c3923 4), (c3923 - (0 : Int).toNat), rfl, ho4149, ((gxClear_len ((⟨0, 0, ByteArray.empty, 0⟩ : Event) : Event) hys4144).trans hl4105), ⟨0, out4096.1, rfl, rfl, hys4150⟩, M4147.pick [0] (by kernel_rfl)⟩
theorem c_i_eventsWhere__i_CountKinds_1 (w : World) (x3887 : List Event) (p3889 : Option Addr) (c3890 : Nat) (h3891 : rdS encEvent w x3887 p3889 c3890) (x3892 : ByteArray) (b3893 : Nat) (hb3894 : w.heap[b3893]? = some (.cells ⟨[.string x3892]⟩ 9 (0, 0))) {r : (List Event)} (hm : M.i_eventsWhere__i_CountKinds_1 x3887 x3892 = some r) :
    Calls Tryz.prog 42 #[.slice p3889 x3887.length c3890, .func (.func 48) #[] #[.pointer (some ⟨b3893, 0, none⟩)]] w fun e w' => ∃ (p3897 : Option Addr) (c3898 : Nat) (sg3899 : Seg), e = .returned (.slice p3897 r.length c3898) ∧ ownS encEvent r p3897 c3898 sg3899 ∧ Mem [] w w' [sg3899] := by
  unfold M.i_eventsWhere__i_CountKinds_1 at hm
  refine C_enter Tryz.func42 rfl (by kernel_rfl) ?_
  have M0 := Mem.refl [] w
  refine G_seq ?_
  refine G_region ?_
  refine W_new (fun b => .pointer (some ⟨b, 0, none⟩)) (.cells ⟨[.func (.func 48) #[] #[.pointer (some ⟨b3893, 0, none⟩)]]⟩ 29 (0, 0)) M0 rfl (by kernel_rfl) (by kernel_rfl) ?_
  intro b3901 w3902 M3903
  refine W_run 1 [(0, .slice p3889 x3887.length c3890), (3, .pointer (some ⟨b3901, 0, none⟩))] w3902 (by kernel_rfl) ?_
  refine W_nil ?_
  refine N_then ?_
  refine G_seq ?_
  refine G_region ?_
  refine W_lit (E := encEvent) ([] : List Event) 0 [] 25 M3903 (by kernel_rfl) (by kernel_rfl) (by kernel_rfl) (by kernel_rfl) (by kernel_rfl) ?_
  intro p3905 c3906 sg3907 w3908 ho3909 M3910
  refine W_run 1 [(3, .pointer (some ⟨b3901, 0, none⟩)), (5, .slice p3905 ([] : List Event).length c3906), (6, .slice p3889 x3887.length c3890)] w3908 (by kernel_rfl) ?_
  obtain ⟨ap3912, hap3912, hm⟩ := gx_bind hm
  refine W_append (E := encEvent) _ _ _ 40 [.int .i64 0, .int .i64 0, .string ByteArray.empty, .int .i64 0] 1 c3890 M3910 ho3909 (by kernel_rfl) (by kernel_rfl) (by kernel_rfl) rfl (by kernel_rfl) (by kernel_rfl) (by kernel_rfl) (by kernel_rfl) (by kernel_rfl) (by kernel_rfl) (h3891.mem0 M3910) hap3912 ?_
  intro p3913 c3914 sg3915 w3916 ho3917 M3918
  refine W_run 1 [(7, .slice p3913 ap3912.length c3914), (8, .func (.func 69) #[] #[.pointer (some ⟨b3901, 0, none⟩)])] w3916 (by kernel_rfl) ?_
  obtain ⟨r4152, hr4152, hm⟩ := gx_bind hm
  refine W_call 68 #[.slice p3913 ap3912.length c3914, .func (.func 69) #[] #[.pointer (some ⟨b3901, 0, none⟩)]] (by kernel_rfl) (by kernel_rfl) ?_
  refine (c_slices_DeleteFunc_68__i_eventsWhere_1__i_CountKinds_1 w3916 ap3912 p3913 c3914 sg3915 ho3917 x3892 b3893 (M3918.ro hb3894) b3901 (M3918.blk 0 (b := b3901) (o := .cells ⟨[.func (.func 48) #[] #[.pointer (some ⟨b3893, 0, none⟩)]]⟩ 29 (0, 0)) (by kernel_rfl)) (M3918.hasPick [1]) (M3918.nodupPick [1] (by kernel_rfl)) (blkOld M3918 hb3894 (by simp) [1]) (blkApart M3918 0 (o := .cells ⟨[.func (.func 48) #[] #[.pointer (some ⟨b3893, 0, none⟩)]]⟩ 29 (0, 0)) (by kernel_rfl) [1] (by kernel_rfl)) hr4152).mono ?_
  rintro e_ w4163 ⟨sg4153, p4161, c4162, rfl, ho4154, hl4155, hw4160, K4164⟩
  obtain ⟨l4157, h4158, rfl, rfl, hv4159⟩ := hw4160
  have M4165 := M3918.callF' [1] [0] (by kernel_rfl) K4164
  refine ⟨_, rfl, ?_⟩
  refine W_conv 7 (.slice p3913 ap3912.length c3914) (.slice p3913 r4152.2.length c3914) (by kernel_rfl) (by first | rw [hl4155] | rw [hl4155]) ?_
  refine W_run 1 [(4, .slice (subP p3913 l4157.toNat c3914 4) r4152.1.length (c3914 - l4157.toNat))] w4163 (by kernel_rfl) ?_
  refine W_nil ?_
  refine N_then ?_
  refine G_ret ?_
  obtain rfl := Option.some.inj hm
  refine N_ret [.slice (subP p3913 l4157.toNat c3914 4) r4152.1.length (c3914 - l4157.toNat)] (RVs_cons (RV_tmp (by kernel_rfl)) RVs_nil) ?_
  exact ⟨(subP p3913 l4157.toNat c3914 4), (c3914 - l4157.toNat), sg4153, rfl, (ho4154.partM hv4159), M4165.pick [1] (by kernel_rfl)⟩
theorem c_i_CountKinds (w : World) (x3681 : List Event) (p3683 : Option Addr) (c3684 : Nat) (h3685 : rdS encEvent w x3681 p3683 c3684) {r : (List ByteArray) × (List Int) × Bool} (hm : M.i_CountKinds x3681 = some r) :
    Calls Tryz.prog 16 #[.slice p3683 x3681.length c3684] w fun e w' => ∃ (p3687 : Option Addr) (c3688 : Nat) (sg3689 : Seg), ∃ (p3691 : Option Addr) (c3692 : Nat) (sg3693 : Seg), e = .returned (.tuple #[.slice p3687 r.1.length c3688, .slice p3691 r.2.1.length c3692, .bool r.2.2]) ∧ ownS Gx.encS r.1 p3687 c3688 sg3689 ∧ ownS Gx.encI r.2.1 p3691 c3692 sg3693 ∧ Mem [] w w' [sg3689, sg3693] := by
  unfold M.i_CountKinds at hm
  refine C_enter Tryz.func16 rfl (by kernel_rfl) ?_
  have M0 := Mem.refl [] w
  refine G_seq ?_
  refine G_region ?_
  refine W_run 3 [(0, .slice p3683 x3681.length c3684)] w (by kernel_rfl) ?_
  refine W_nil ?_
  refine N_then ?_
  refine G_seq ?_
  refine G_seq ?_
  refine G_region ?_
  refine W_run 1 [(0, .slice p3683 x3681.length c3684), (11, .slice p3683 x3681.length c3684)] w (by kernel_rfl) ?_
  obtain ⟨r3696, hr3696, hm⟩ := gx_bind hm
  refine W_call 41 #[.slice p3683 x3681.length c3684] (by kernel_rfl) (by kernel_rfl) ?_
  refine (c_i_IsRecord w x3681 p3683 c3684 (h3685.mem0 M0) hr3696).mono ?_
  rintro e_ w3697 ⟨rfl, K3698⟩
  have M3699 := M0.call0 K3698
  refine ⟨_, rfl, ?_⟩
  refine W_run 1 [(0, .slice p3683 x3681.length c3684), (13, .bool (!r3696))] w3697 (by kernel_rfl) ?_
  refine W_nil ?_
  refine N_then ?_
  rcases gx_bif hm with ⟨hc3700, hm⟩ | ⟨hc3700, hm⟩
  · refine G_cond_t (b := (!r3696)) hc3700 (by kernel_rfl) ?_
    refine G_seq ?_
    refine G_region ?_
    refine W_run 3 [(2, .slice none 0 0), (3, .slice none 0 0), (4, .bool false)] w3697 (by kernel_rfl) ?_
    refine W_nil ?_
    refine N_then ?_
    refine G_ret ?_
    refine N_then_ret ?_
    obtain rfl := Option.some.inj hm
    refine N_ret [.slice none 0 0, .slice none 0 0, .bool false] (RVs_cons (RV_tmp (by kernel_rfl)) (RVs_cons (RV_tmp (by kernel_rfl)) (RVs_cons (RV_tmp (by kernel_rfl)) RVs_nil))) ?_
    exact ⟨none, 0, [], none, 0, [], rfl, ownS_nil, ownS_nil, M3699.pick [100000, 100001] (by kernel_rfl)⟩
  refine G_cond_f (b := (!r3696)) hc3700 (by kernel_rfl) ?_
  refine G_skip ?_
  refine N_then ?_
  refine G_seq ?_
  refine G_region ?_
  refine W_lit (E := Gx.encS) ([] : List ByteArray) 0 [] 9 M3699 (by kernel_rfl) (by kernel_rfl) (by kernel_rfl) (by kernel_rfl) (by kernel_rfl) ?_
  intro p3703 c3704 sg3705 w3706 ho3707 M3708
  refine W_lit (E := Gx.encI) ([] : List Int) 0 [] 3 M3708 (by kernel_rfl) (by kernel_rfl) (by kernel_rfl) (by kernel_rfl) (by kernel_rfl) ?_
  intro p3710 c3711 sg3712 w3713 ho3714 M3715
  refine W_run 2 [(0, .slice p3683 x3681.length c3684), (5, .slice p3703 ([] : List ByteArray).length c3704), (6, .slice p3710 ([] : List Int).length c3711)] w3713 (by kernel_rfl) ?_
  refine W_nil ?_
  refine N_then ?_
  refine G_seq ?_
  refine G_seq ?_
  refine G_region ?_
  refine W_run 3 [(0, .slice p3683 x3681.length c3684), (5, .slice p3703 ([] : List ByteArray).length c3704), (6, .slice p3710 ([] : List Int).length c3711), (16, .slice p3683 x3681.length c3684), (17, .int .i64 (x3681.length : Int)), (18, .int .i64 0)] w3713 (by kernel_rfl) ?_
  refine W_nil ?_
  refine N_then ?_
  obtain ⟨out3775, hw3776, hmo3777⟩ := gx_bind hm
  refine G_meet (fun a w' => ∃ (p3784 : Option Addr), ∃ (c3785 : Nat), ∃ (sg3786 : Seg), ownS Gx.encS out3775 p3784 c3785 sg3786 ∧ Mem [] w w' [sg3712, sg3786] ∧ Sat Tryz.f16.ntmps [(0, .slice p3683 x3681.length c3684), (5, .slice p3784 out3775.length c3785), (6, .slice p3710 ([] : List Int).length c3711)] a) ?_ ?_
  · refine G_block ?_
    refine G_while (σ := List ByteArray × Int) (ρ := List ByteArray) (fun s3768 a w' => ∃ (p3778 : Option Addr), ∃ (c3779 : Nat), ∃ (sg3780 : Seg), ownS Gx.encS s3768.1 p3778 c3779 sg3780 ∧ Mem [] w w' [sg3712, sg3780] ∧ Sat Tryz.f16.ntmps [(0, .slice p3683 x3681.length c3684), (5, .slice p3778 s3768.1.length c3779), (6, .slice p3710 ([] : List Int).length c3711), (16, .slice p3683 x3681.length c3684), (17, .int .i64 (x3681.length : Int)), (18, .int .i64 s3768.2)] a) hw3776 (fun a ha => ⟨p3703, c3704, sg3705, ho3707, M3715.pick [1, 0] (by kernel_rfl), ha.sub (by kernel_rfl)⟩) ?_
    clear hm
    intro s3768 x3769 hm hout3770 a3771 w3772 ⟨p3778, c3779, sg3780, ho3781, M3773, hS3774⟩
    refine G_use hS3774 ?_
    refine G_seq ?_
    refine G_region ?_
    refine W_run 1 [(0, .slice p3683 x3681.length c3684), (5, .slice p3778 s3768.1.length c3779), (6, .slice p3710 ([] : List Int).length c3711), (16, .slice p3683 x3681.length c3684), (17, .int .i64 (x3681.length : Int)), (18, .int .i64 s3768.2), (19, .bool (decide (s3768.2 < (x3681.length : Int))))] w3772 (by kernel_rfl) ?_
    refine W_nil ?_
    refine N_then ?_
    refine G_seq ?_
    rcases gx_bif hm with ⟨hc3789, hm⟩ | ⟨hc3789, hm⟩
    · refine G_cond_t (b := (decide (s3768.2 < (x3681.length : Int)))) hc3789 (by kernel_rfl) ?_
      refine G_skip ?_
      refine N_then ?_
      refine G_seq ?_
      refine G_block ?_
      refine G_seq ?_
      refine G_region ?_
      obtain ⟨y3790, hy3790, hm⟩ := gx_bind hm
      refine W_val (elemP p3683 (s3768.2.toNat * 4)) w3772 (by kernel_rfl) (E_index (E := encEvent) _ _ _ x3681.length c3684 .i64 s3768.2 4 (y := y3790) rfl (by kernel_rfl) (by kernel_rfl) (by kernel_rfl) (h3685.mem0 M3773) rfl hy3790) ?_
      refine W_val (.agg #[.int .i64 y3790.Tick, .int .i64 y3790.Guest, .string y3790.Kind, .int .i64 y3790.Value]) w3772 (by kernel_rfl) (E_loadE (E := encEvent) _ _ true 4 s3768.2 0 (s3768.2.toNat * 4) y3790 (.agg #[.int .i64 y3790.Tick, .int .i64 y3790.Guest, .string y3790.Kind, .int .i64 y3790.Value]) rfl (by kernel_rfl) (by kernel_rfl) (by kernel_rfl) (h3685.mem0 M3773) hy3790 rfl) ?_
      refine W_new (fun b => .pointer (some ⟨b, 0, none⟩)) (.cells ⟨[.int .i64 0, .int .i64 0, .string ByteArray.empty, .int .i64 0]⟩ 25 (0, 0)) M3773 rfl (by kernel_rfl) (by kernel_rfl) ?_
      intro b3792 w3793 M3794
      refine W_store _ _ _ true 4 b3792 0 [.int .i64 0, .int .i64 0, .string ByteArray.empty, .int .i64 0] 25 (.agg #[.int .i64 y3790.Tick, .int .i64 y3790.Guest, .string y3790.Kind, .int .i64 y3790.Value]) 2 [.int .i64 y3790.Tick, .int .i64 y3790.Guest, .string y3790.Kind, .int .i64 y3790.Value] M3794 (by kernel_rfl) rfl (by kernel_rfl) (by kernel_rfl) (by kernel_rfl) (by kernel_rfl) (by kernel_rfl) (by kernel_rfl) (by kernel_rfl) (by kernel_rfl) ?_
      intro w3795 M3796
      refine W_nil ?_
      refine N_then ?_
      refine G_region ?_
      refine W_run 2 [(0, .slice p3683 x3681.length c3684), (5, .slice p3778 s3768.1.length c3779), (6, .slice p3710 ([] : List Int).length c3711), (16, .slice p3683 x3681.length c3684), (17, .int .i64 (x3681.length : Int)), (18, .int .i64 s3768.2), (22, .slice p3778 s3768.1.length c3779), (23, .pointer (some ⟨b3792, 2, none⟩))] w3795 (by kernel_rfl) ?_
      refine W_val (.string y3790.Kind) w3795 (by kernel_rfl) (E_load (e := 25) (fr := (0, 0)) _ _ false 1 b3792 2 [.int .i64 y3790.Tick, .int .i64 y3790.Guest, .string y3790.Kind, .int .i64 y3790.Value] (.string y3790.Kind) rfl (by kernel_rfl) (by kernel_rfl) (by kernel_rfl) (M3796.blk 2 (b := b3792) (o := .cells ⟨[.int .i64 y3790.Tick, .int .i64 y3790.Guest, .string y3790.Kind, .int .i64 y3790.Value]⟩ 25 (0, 0)) (by kernel_rfl))) ?_
      refine W_lit (E := Gx.encS) [y3790.Kind] 1 [.string y3790.Kind] 9 M3796 (by kernel_rfl) (by kernel_rfl) (by kernel_rfl) (by kernel_rfl) (by kernel_rfl) ?_
      intro p3797 c3798 sg3799 w3800 ho3801 M3802
      obtain ⟨ap3804, hap3804, hm⟩ := gx_bind hm
      refine W_append (E := Gx.encS) _ _ _ 16 [.string ByteArray.empty] 1 c3798 M3802 ho3781 (by kernel_rfl) (by kernel_rfl) (by kernel_rfl) rfl (by kernel_rfl) (by kernel_rfl) (by kernel_rfl) (by kernel_rfl) (by kernel_rfl) (by kernel_rfl) (ho3801.rd M3802 3 (by kernel_rfl)) hap3804 ?_
      intro p3805 c3806 sg3807 w3808 ho3809 M3810
      refine W_run 1 [(0, .slice p3683 x3681.length c3684), (5, .slice p3805 ap3804.length c3806), (6, .slice p3710 ([] : List Int).length c3711), (16, .slice p3683 x3681.length c3684), (17, .int .i64 (x3681.length : Int)), (18, .int .i64 s3768.2)] w3808 (by kernel_rfl) ?_
      refine W_nil ?_
      refine N_block ?_
      refine N_then ?_
      refine G_region ?_
      refine W_run 2 [(0, .slice p3683 x3681.length c3684), (5, .slice p3805 ap3804.length c3806), (6, .slice p3710 ([] : List Int).length c3711), (16, .slice p3683 x3681.length c3684), (17, .int .i64 (x3681.length : Int)), (18, .int .i64 (w64 (s3768.2 + 1)))] w3808 (by kernel_rfl) ?_
      refine W_nil ?_
      obtain rfl := Option.some.inj hm
      exact N_loop fun a ha => ⟨_, rfl, p3805, c3806, sg3807, ho3809, M3810.pick [0, 1] (by kernel_rfl), ha.sub (by kernel_rfl)⟩
    refine G_cond_f (b := (decide (s3768.2 < (x3681.length : Int)))) hc3789 (by kernel_rfl) ?_
    refine G_exit ?_
    refine N_then_exit ?_
    refine N_then_exit ?_
    refine N_block_eq ?_
    obtain rfl := Option.some.inj hm
    obtain rfl := hout3770 _ rfl
    exact N_meet fun a ha => ⟨p3778, c3779, sg3780, ho3781, M3773.pick [0, 1] (by kernel_rfl), ha.sub (by kernel_rfl)⟩
  intro a3812 w3813 ⟨p3784, c3785, sg3786, ho3787, M3814, hS3815⟩
  refine N_use hS3815 ?_
  have hm := hmo3777
  refine N_then ?_
  refine G_seq ?_
  refine G_region ?_
  refine W_run 1 [(0, .slice p3683 x3681.length c3684), (5, .slice p3784 out3775.length c3785), (6, .slice p3710 ([] : List Int).length c3711), (28, .slice p3784 out3775.length c3785)] w3813 (by kernel_rfl) ?_
  obtain ⟨r3828, hr3828, hm⟩ := gx_bind hm
  refine W_call 46 #[.slice p3784 out3775.length c3785] (by kernel_rfl) (by kernel_rfl) ?_
  refine (c_slices_Sort_46 w3813 out3775 p3784 c3785 sg3786 ho3787 (M3814.hasPick [1]) (M3814.nodupPick [1] (by kernel_rfl)) hr3828).mono ?_
  rintro e_ w3832 ⟨sg3829, rfl, ho3830, hl3831, K3833⟩
  have M3834 := M3814.callF' [1] [0] (by kernel_rfl) K3833
  refine ⟨_, rfl, ?_⟩
  refine W_conv 5 (.slice p3784 out3775.length c3785) (.slice p3784 r3828.length c3785) (by kernel_rfl) (by first | rw [hl3831] | rw [hl3831]) ?_
  refine W_conv 28 (.slice p3784 out3775.length c3785) (.slice p3784 r3828.length c3785) (by kernel_rfl) (by first | rw [hl3831] | rw [hl3831]) ?_
  refine W_nil ?_
  refine N_then ?_
  refine G_seq ?_
  refine G_region ?_
  refine W_run 1 [(0, .slice p3683 x3681.length c3684), (5, .slice p3784 r3828.length c3785), (6, .slice p3710 ([] : List Int).length c3711), (30, .slice p3784 r3828.length c3785)] w3832 (by kernel_rfl) ?_
  obtain ⟨r3865, hr3865, hm⟩ := gx_bind hm
  refine W_call 47 #[.slice p3784 r3828.length c3785] (by kernel_rfl) (by kernel_rfl) ?_
  refine (c_slices_Compact_47 w3832 r3828 p3784 c3785 sg3829 ho3830 (M3834.hasPick [1]) (M3834.nodupPick [1] (by kernel_rfl)) hr3865).mono ?_
  rintro e_ w3876 ⟨sg3866, p3874, c3875, rfl, ho3867, hl3868, hw3873, K3877⟩
  obtain ⟨l3870, h3871, rfl, rfl, hv3872⟩ := hw3873
  have M3878 := M3834.callF' [1] [0] (by kernel_rfl) K3877
  refine ⟨_, rfl, ?_⟩
  refine W_conv 5 (.slice p3784 r3828.length c3785) (.slice p3784 r3865.2.length c3785) (by kernel_rfl) (by first | rw [hl3868] | rw [hl3868]) ?_
  refine W_conv 30 (.slice p3784 r3828.length c3785) (.slice p3784 r3865.2.length c3785) (by kernel_rfl) (by first | rw [hl3868] | rw [hl3868]) ?_
  refine W_run 1 [(0, .slice p3683 x3681.length c3684), (5, .slice (subP p3784 l3870.toNat c3785 1) r3865.1.length (c3785 - l3870.toNat)), (6, .slice p3710 ([] : List Int).length c3711)] w3876 (by kernel_rfl) ?_
  refine W_nil ?_
  refine N_then ?_
  refine G_seq ?_
  refine G_seq ?_
  refine G_region ?_
  refine W_run 3 [(0, .slice p3683 x3681.length c3684), (5, .slice (subP p3784 l3870.toNat c3785 1) r3865.1.length (c3785 - l3870.toNat)), (6, .slice p3710 ([] : List Int).length c3711), (32, .slice (subP p3784 l3870.toNat c3785 1) r3865.1.length (c3785 - l3870.toNat)), (33, .int .i64 (r3865.1.length : Int)), (34, .int .i64 0)] w3876 (by kernel_rfl) ?_
  refine W_nil ?_
  refine N_then ?_
  obtain ⟨out4234, hw4235, hmo4236⟩ := gx_bind hm
  refine G_meet (fun a w' => ∃ (p4243 : Option Addr), ∃ (c4244 : Nat), ∃ (sg4245 : Seg), ownS Gx.encI out4234 p4243 c4244 sg4245 ∧ Mem [] w w' [sg3866, sg4245] ∧ Sat Tryz.f16.ntmps [(5, .slice (subP p3784 l3870.toNat c3785 1) r3865.1.length (c3785 - l3870.toNat)), (6, .slice p4243 out4234.length c4244)] a) ?_ ?_
  · refine G_block ?_
    refine G_while (σ := List Int × Int) (ρ := List Int) (fun s4227 a w' => ∃ (p4237 : Option Addr), ∃ (c4238 : Nat), ∃ (sg4239 : Seg), ownS Gx.encI s4227.1 p4237 c4238 sg4239 ∧ Mem [] w w' [sg3866, sg4239] ∧ Sat Tryz.f16.ntmps [(0, .slice p3683 x3681.length c3684), (5, .slice (subP p3784 l3870.toNat c3785 1) r3865.1.length (c3785 - l3870.toNat)), (6, .slice p4237 s4227.1.length c4238), (32, .slice (subP p3784 l3870.toNat c3785 1) r3865.1.length (c3785 - l3870.toNat)), (33, .int .i64 (r3865.1.length : Int)), (34, .int .i64 s4227.2)] a) hw4235 (fun a ha => ⟨p3710, c3711, sg3712, ho3714, M3878.pick [1, 0] (by kernel_rfl), ha.sub (by kernel_rfl)⟩) ?_
    clear hm
    intro s4227 x4228 hm hout4229 a4230 w4231 ⟨p4237, c4238, sg4239, ho4240, M4232, hS4233⟩
    refine G_use hS4233 ?_
    refine G_seq ?_
    refine G_region ?_
    refine W_run 1 [(0, .slice p3683 x3681.length c3684), (5, .slice (subP p3784 l3870.toNat c3785 1) r3865.1.length (c3785 - l3870.toNat)), (6, .slice p4237 s4227.1.length c4238), (32, .slice (subP p3784 l3870.toNat c3785 1) r3865.1.length (c3785 - l3870.toNat)), (33, .int .i64 (r3865.1.length : Int)), (34, .int .i64 s4227.2), (35, .bool (decide (s4227.2 < (r3865.1.length : Int))))] w4231 (by kernel_rfl) ?_
    refine W_nil ?_
    refine N_then ?_
    refine G_seq ?_
    rcases gx_bif hm with ⟨hc4248, hm⟩ | ⟨hc4248, hm⟩
    · refine G_cond_t (b := (decide (s4227.2 < (r3865.1.length : Int)))) hc4248 (by kernel_rfl) ?_
      refine G_skip ?_
      refine N_then ?_
      refine G_seq ?_
      refine G_block ?_
      refine G_seq ?_
      refine G_region ?_
      obtain ⟨y4249, hy4249, hm⟩ := gx_bind hm
      refine W_val (elemP (subP p3784 l3870.toNat c3785 1) (s4227.2.toNat * 1)) w4231 (by kernel_rfl) (E_index (E := Gx.encS) _ _ _ r3865.1.length (c3785 - l3870.toNat) .i64 s4227.2 1 (y := y4249) rfl (by kernel_rfl) (by kernel_rfl) (by kernel_rfl) ((ho3867.rd M4232 0 (by kernel_rfl)).sliceM hv3872) rfl hy4249) ?_
      refine W_val (.string y4249) w4231 (by kernel_rfl) (E_loadE (E := Gx.encS) _ _ false 1 s4227.2 0 (s4227.2.toNat * 1) y4249 (.string y4249) rfl (by kernel_rfl) (by kernel_rfl) (by kernel_rfl) ((ho3867.rd M4232 0 (by kernel_rfl)).sliceM hv3872) hy4249 rfl) ?_
      refine W_new (fun b => .pointer (some ⟨b, 0, none⟩)) (.cells ⟨[.string ByteArray.empty]⟩ 9 (0, 0)) M4232 rfl (by kernel_rfl) (by kernel_rfl) ?_
      intro b4251 w4252 M4253
      refine W_store _ _ _ false 1 b4251 0 [.string ByteArray.empty] 9 (.string y4249) 2 [.string y4249] M4253 (by kernel_rfl) rfl (by kernel_rfl) (by kernel_rfl) (by kernel_rfl) (by kernel_rfl) (by kernel_rfl) (by kernel_rfl) (by kernel_rfl) (by kernel_rfl) ?_
      intro w4254 M4255
      refine W_nil ?_
      refine N_then ?_
      refine G_region ?_
      refine W_run 3 [(0, .slice p3683 x3681.length c3684), (5, .slice (subP p3784 l3870.toNat c3785 1) r3865.1.length (c3785 - l3870.toNat)), (6, .slice p4237 s4227.1.length c4238), (32, .slice (subP p3784 l3870.toNat c3785 1) r3865.1.length (c3785 - l3870.toNat)), (33, .int .i64 (r3865.1.length : Int)), (34, .int .i64 s4227.2), (38, .slice p4237 s4227.1.length c4238), (39, .slice p3683 x3681.length c3684), (40, .func (.func 48) #[] #[.pointer (some ⟨b4251, 0, none⟩)])] w4254 (by kernel_rfl) ?_
      obtain ⟨r4256, hr4256, hm⟩ := gx_bind hm
      refine W_call 42 #[.slice p3683 x3681.length c3684, .func (.func 48) #[] #[.pointer (some ⟨b4251, 0, none⟩)]] (by kernel_rfl) (by kernel_rfl) ?_
      refine (c_i_eventsWhere__i_CountKinds_1 w4254 x3681 p3683 c3684 (h3685.mem0 M4255) y4249 b4251 (M4255.blk 2 (b := b4251) (o := .cells ⟨[.string y4249]⟩ 9 (0, 0)) (by kernel_rfl)) hr4256).mono ?_
      rintro e_ w4262 ⟨p4258, c4259, sg4260, rfl, ho4261, K4263⟩
      have M4264 := M4255.call K4263
      refine ⟨_, rfl, ?_⟩
      refine W_run 1 [(0, .slice p3683 x3681.length c3684), (5, .slice (subP p3784 l3870.toNat c3785 1) r3865.1.length (c3785 - l3870.toNat)), (6, .slice p4237 s4227.1.length c4238), (32, .slice (subP p3784 l3870.toNat c3785 1) r3865.1.length (c3785 - l3870.toNat)), (33, .int .i64 (r3865.1.length : Int)), (34, .int .i64 s4227.2), (38, .slice p4237 s4227.1.length c4238), (42, .int .i64 (r4256.length : Int))] w4262 (by kernel_rfl) ?_
      refine W_lit (E := Gx.encI) [(r4256.length : Int)] 1 [.int .i64 (r4256.length : Int)] 3 M4264 (by kernel_rfl) (by kernel_rfl) (by kernel_rfl) (by kernel_rfl) (by kernel_rfl) ?_
      intro p4265 c4266 sg4267 w4268 ho4269 M4270
      obtain ⟨ap4272, hap4272, hm⟩ := gx_bind hm
      refine W_append (E := Gx.encI) _ _ _ 8 [.int .i64 0] 1 c4266 M4270 ho4240 (by kernel_rfl) (by kernel_rfl) (by kernel_rfl) rfl (by kernel_rfl) (by kernel_rfl) (by kernel_rfl) (by kernel_rfl) (by kernel_rfl) (by kernel_rfl) (ho4269.rd M4270 4 (by kernel_rfl)) hap4272 ?_
      intro p4273 c4274 sg4275 w4276 ho4277 M4278
      refine W_run 1 [(0, .slice p3683 x3681.length c3684), (5, .slice (subP p3784 l3870.toNat c3785 1) r3865.1.length (c3785 - l3870.toNat)), (6, .slice p4273 ap4272.length c4274), (32, .slice (subP p3784 l3870.toNat c3785 1) r3865.1.length (c3785 - l3870.toNat)), (33, .int .i64 (r3865.1.length : Int)), (34, .int .i64 s4227.2)] w4276 (by kernel_rfl) ?_
      refine W_nil ?_
      refine N_block ?_
      refine N_then ?_
      refine G_region ?_
      refine W_run 2 [(0, .slice p3683 x3681.length c3684), (5, .slice (subP p3784 l3870.toNat c3785 1) r3865.1.length (c3785 - l3870.toNat)), (6, .slice p4273 ap4272.length c4274), (32, .slice (subP p3784 l3870.toNat c3785 1) r3865.1.length (c3785 - l3870.toNat)), (33, .int .i64 (r3865.1.length : Int)), (34, .int .i64 (w64 (s4227.2 + 1)))] w4276 (by kernel_rfl) ?_
      refine W_nil ?_
      obtain rfl := Option.some.inj hm
      exact N_loop fun a ha => ⟨_, rfl, p4273, c4274, sg4275, ho4277, M4278.pick [0, 1] (by kernel_rfl), ha.sub (by kernel_rfl)⟩
    refine G_cond_f (b := (decide (s4227.2 < (r3865.1.length : Int)))) hc4248 (by kernel_rfl) ?_
    refine G_exit ?_
    refine N_then_exit ?_
    refine N_then_exit ?_
    refine N_block_eq ?_
    obtain rfl := Option.some.inj hm
    obtain rfl := hout4229 _ rfl
    exact N_meet fun a ha => ⟨p4237, c4238, sg4239, ho4240, M4232.pick [0, 1] (by kernel_rfl), ha.sub (by kernel_rfl)⟩
  intro a4280 w4281 ⟨p4243, c4244, sg4245, ho4246, M4282, hS4283⟩
  refine N_use hS4283 ?_
  have hm := hmo4236
  refine N_then ?_
  refine G_seq ?_
  refine G_region ?_
  refine W_run 5 [(2, .slice (subP p3784 l3870.toNat c3785 1) r3865.1.length (c3785 - l3870.toNat)), (3, .slice p4243 out4234.length c4244), (4, .bool true)] w4281 (by kernel_rfl) ?_
  refine W_nil ?_
  refine N_then ?_
  refine G_ret ?_
  obtain rfl := Option.some.inj hm
  refine N_ret [.slice (subP p3784 l3870.toNat c3785 1) r3865.1.length (c3785 - l3870.toNat), .slice p4243 out4234.length c4244, .bool true] (RVs_cons (RV_tmp (by kernel_rfl)) (RVs_cons (RV_tmp (by kernel_rfl)) (RVs_cons (RV_tmp (by kernel_rfl)) RVs_nil))) ?_
  exact ⟨(subP p3784 l3870.toNat c3785 1), (c3785 - l3870.toNat), sg3866, p4243, c4244, sg4245, rfl, (ho3867.partM hv3872), ho4246, M4282.pick [0, 1] (by kernel_rfl)⟩
theorem c_l_rSum (w : World) (x4300 : List Int) (p4302 : Option Addr) (c4303 : Nat) (h4304 : rdS Gx.encI w x4300 p4302 c4303) {r : Int} (hm : M.l_rSum x4300 = some r) :
    Calls Tryz.prog 17 #[.slice p4302 x4300.length c4303] w fun e w' => e = .returned (.int .i64 r) ∧ Mem [] w w' [] := by
  unfold M.l_rSum at hm
  refine C_enter Tryz.func17 rfl (by kernel_rfl) ?_
  have M0 := Mem.refl [] w
  refine G_seq ?_
  refine G_region ?_
  refine W_run 1 [(0, .slice p4302 x4300.length c4303)] w (by kernel_rfl) ?_
  refine W_nil ?_
  refine N_then ?_
  refine G_seq ?_
  refine G_region ?_
  refine W_run 1 [(0, .slice p4302 x4300.length c4303), (3, .int .i64 0)] w (by kernel_rfl) ?_
  refine W_nil ?_
  refine N_then ?_
  refine G_seq ?_
  refine G_seq ?_
  refine G_region ?_
  refine W_run 1 [(0, .slice p4302 x4300.length c4303), (3, .int .i64 0), (4, .int .i64 0)] w (by kernel_rfl) ?_
  refine W_nil ?_
  refine N_then ?_
  obtain ⟨out4316, hw4317, hmo4318⟩ := gx_bind hm
  refine G_meet (fun a w' => Mem [] w w' [] ∧ Sat Tryz.f17.ntmps [(3, .int .i64 out4316)] a) ?_ ?_
  · refine G_block ?_
    refine G_while (σ := Int × Int) (ρ := Int) (fun s4309 a w' => Mem [] w w' [] ∧ Sat Tryz.f17.ntmps [(0, .slice p4302 x4300.length c4303), (3, .int .i64 s4309.1), (4, .int .i64 s4309.2)] a) hw4317 (fun a ha => ⟨M0.pick [] (by kernel_rfl), ha.sub (by kernel_rfl)⟩) ?_
    clear hm
    intro s4309 x4310 hm hout4311 a4312 w4313 ⟨M4314, hS4315⟩
    refine G_use hS4315 ?_
    refine G_seq ?_
    refine G_seq ?_
    refine G_region ?_
    refine W_run 4 [(0, .slice p4302 x4300.length c4303), (3, .int .i64 s4309.1), (4, .int .i64 s4309.2), (8, .bool (decide (s4309.2 < (x4300.length : Int))))] w4313 (by kernel_rfl) ?_
    refine W_nil ?_
    refine N_then ?_
    rcases gx_bif hm with ⟨hc4320, hm⟩ | ⟨hc4320, hm⟩
    · refine G_cond_t (b := (decide (s4309.2 < (x4300.length : Int)))) hc4320 (by kernel_rfl) ?_
      refine G_skip ?_
      refine N_then ?_
      refine G_seq ?_
      refine G_block ?_
      refine G_region ?_
      refine W_run 3 [(0, .slice p4302 x4300.length c4303), (3, .int .i64 s4309.1), (4, .int .i64 s4309.2), (11, .int .i64 s4309.1), (12, .slice p4302 x4300.length c4303), (13, .int .i64 s4309.2)] w4313 (by kernel_rfl) ?_
      obtain ⟨y4321, hy4321, hm⟩ := gx_bind hm
      refine W_val (elemP p4302 (s4309.2.toNat * 1)) w4313 (by kernel_rfl) (E_index (E := Gx.encI) _ _ _ x4300.length c4303 .i64 s4309.2 1 (y := y4321) rfl (by kernel_rfl) (by kernel_rfl) (by kernel_rfl) (h4304.mem0 M4314) rfl hy4321) ?_
      refine W_val (.int .i64 y4321) w4313 (by kernel_rfl) (E_loadE (E := Gx.encI) _ _ false 1 s4309.2 0 (s4309.2.toNat * 1) y4321 (.int .i64 y4321) rfl (by kernel_rfl) (by kernel_rfl) (by kernel_rfl) (h4304.mem0 M4314) hy4321 rfl) ?_
      refine W_run 2 [(0, .slice p4302 x4300.length c4303), (3, .int .i64 (w64 (s4309.1 + y4321))), (4, .int .i64 s4309.2)] w4313 (by kernel_rfl) ?_
      refine W_nil ?_
      refine N_block ?_
      refine N_then ?_
      refine G_region ?_
      refine W_run 3 [(0, .slice p4302 x4300.length c4303), (3, .int .i64 (w64 (s4309.1 + y4321))), (4, .int .i64 (w64 (s4309.2 + 1)))] w4313 (by kernel_rfl) ?_
      refine W_nil ?_
      obtain rfl := Option.some.inj hm
      exact N_loop fun a ha => ⟨_, rfl, M4314.pick [] (by kernel_rfl), ha.sub (by kernel_rfl)⟩
    refine G_cond_f (b := (decide (s4309.2 < (x4300.length : Int)))) hc4320 (by kernel_rfl) ?_
    refine G_exit ?_
    refine N_then_exit ?_
    refine N_then_exit ?_
    refine N_block_eq ?_
    obtain rfl := Option.some.inj hm
    obtain rfl := hout4311 _ rfl
    exact N_meet fun a ha => ⟨M4314.pick [] (by kernel_rfl), ha.sub (by kernel_rfl)⟩
  intro a4322 w4323 ⟨M4324, hS4325⟩
  refine N_use hS4325 ?_
  have hm := hmo4318
  refine N_then ?_
  refine G_seq ?_
  refine G_region ?_
  refine W_run 2 [(2, .int .i64 out4316)] w4323 (by kernel_rfl) ?_
  refine W_nil ?_
  refine N_then ?_
  refine G_ret ?_
  obtain rfl := Option.some.inj hm
  refine N_ret [.int .i64 out4316] (RVs_cons (RV_tmp (by kernel_rfl)) RVs_nil) ?_
  exact ⟨rfl, M4324.pick [] (by kernel_rfl)⟩
theorem c_s_DrawIsRecord (w : World) (x4449 : List Int) (p4451 : Option Addr) (c4452 : Nat) (h4453 : rdS Gx.encU8 w x4449 p4451 c4452) {r : (List Event)} (hm : M.s_DrawIsRecord x4449 = some r) :
    Calls Tryz.prog 49 #[.slice p4451 x4449.length c4452] w fun e w' => ∃ (p4455 : Option Addr) (c4456 : Nat) (sg4457 : Seg), e = .returned (.slice p4455 r.length c4456) ∧ ownS encEvent r p4455 c4456 sg4457 ∧ Mem [] w w' [sg4457] := by
  unfold M.s_DrawIsRecord at hm
  refine C_enter Tryz.func49 rfl (by kernel_rfl) ?_
  have M0 := Mem.refl [] w
  refine G_seq ?_
  refine G_region ?_
  refine W_run 1 [(0, .slice p4451 x4449.length c4452)] w (by kernel_rfl) ?_
  refine W_nil ?_
  refine N_then ?_
  refine G_seq ?_
  refine G_region ?_
  refine W_run 2 [(5, .agg #[.slice p4451 x4449.length c4452, .int .i64 0, .int .u64 0])] w (by kernel_rfl) ?_
  refine W_new (fun b => .pointer (some ⟨b, 0, none⟩)) (.cells ⟨[.slice p4451 x4449.length c4452, .int .i64 0, .int .u64 0]⟩ 57 (0, 0)) M0 rfl (by kernel_rfl) (by kernel_rfl) ?_
  intro b4461 w4462 M4463
  refine W_run 1 [(3, .pointer (some ⟨b4461, 0, none⟩))] w4462 (by kernel_rfl) ?_
  refine W_nil ?_
  refine N_then ?_
  refine G_seq ?_
  refine G_region ?_
  refine W_run 1 [(7, .pointer (some ⟨b4461, 0, none⟩))] w4462 (by kernel_rfl) ?_
  obtain ⟨r4464, hr4464, hm⟩ := gx_bind hm
  refine W_call 39 #[.pointer (some ⟨b4461, 0, none⟩)] (by kernel_rfl) (by kernel_rfl) ?_
  refine (c_s_l1Cur_record22 w4462 (⟨x4449, 0, 0⟩ : l1Cur) p4451 c4452 (h4453.mem0 M4463) b4461 (M4463.hasPick [0]) (M4463.nodupPick [0] (by kernel_rfl)) (apartX.old0 h4453 M4463 [0]) hr4464).mono ?_
  rintro e_ w4470 ⟨p4466, c4467, sg4468, rfl, ho4469, K4471⟩
  have M4472 := M4463.callF' [0] [] (by kernel_rfl) K4471
  refine ⟨_, rfl, ?_⟩
  refine W_run 1 [(2, .slice p4466 r4464.1.length c4467)] w4470 (by kernel_rfl) ?_
  refine W_nil ?_
  refine N_then ?_
  refine G_ret ?_
  obtain rfl := Option.some.inj hm
  refine N_ret [.slice p4466 r4464.1.length c4467] (RVs_cons (RV_tmp (by kernel_rfl)) RVs_nil) ?_
  exact ⟨p4466, c4467, sg4468, rfl, ho4469, M4472.pick [1] (by kernel_rfl)⟩
theorem c_s_DrawCountKinds (w : World) (x4439 : List Int) (p4441 : Option Addr) (c4442 : Nat) (h4443 : rdS Gx.encU8 w x4439 p4441 c4442) {r : (List Event)} (hm : M.s_DrawCountKinds x4439 = some r) :
    Calls Tryz.prog 18 #[.slice p4441 x4439.length c4442] w fun e w' => ∃ (p4445 : Option Addr) (c4446 : Nat) (sg4447 : Seg), e = .returned (.slice p4445 r.length c4446) ∧ ownS encEvent r p4445 c4446 sg4447 ∧ Mem [] w w' [sg4447] := by
  unfold M.s_DrawCountKinds at hm
  refine C_enter Tryz.func18 rfl (by kernel_rfl) ?_
  have M0 := Mem.refl [] w
  refine G_seq ?_
  refine G_region ?_
  refine W_run 1 [(0, .slice p4441 x4439.length c4442)] w (by kernel_rfl) ?_
  refine W_nil ?_
  refine N_then ?_
  refine G_seq ?_
  refine G_region ?_
  refine W_run 1 [(3, .slice p4441 x4439.length c4442)] w (by kernel_rfl) ?_
  obtain ⟨r4473, hr4473, hm⟩ := gx_bind hm
  refine W_call 49 #[.slice p4441 x4439.length c4442] (by kernel_rfl) (by kernel_rfl) ?_
  refine (c_s_DrawIsRecord w x4439 p4441 c4442 (h4443.mem0 M0) hr4473).mono ?_
  rintro e_ w4479 ⟨p4475, c4476, sg4477, rfl, ho4478, K4480⟩
  have M4481 := M0.call K4480
  refine ⟨_, rfl, ?_⟩
  refine W_run 1 [(2, .slice p4475 r4473.length c4476)] w4479 (by kernel_rfl) ?_
  refine W_nil ?_
  refine N_then ?_
  refine G_ret ?_
  obtain rfl := Option.some.inj hm
  refine N_ret [.slice p4475 r4473.length c4476] (RVs_cons (RV_tmp (by kernel_rfl)) RVs_nil) ?_
  exact ⟨p4475, c4476, sg4477, rfl, ho4478, M4481.pick [0] (by kernel_rfl)⟩
theorem c_s_CountKinds (w : World) (x4505 : List Event) (p4507 : Option Addr) (c4508 : Nat) (h4509 : rdS encEvent w x4505 p4507 c4508) {r : (List ByteArray) × (List Int) × Bool} (hm : M.s_CountKinds x4505 = some r) :
    Calls Tryz.prog 19 #[.slice p4507 x4505.length c4508] w fun e w' => ∃ (p4511 : Option Addr) (c4512 : Nat) (sg4513 : Seg), ∃ (p4515 : Option Addr) (c4516 : Nat) (sg4517 : Seg), e = .returned (.tuple #[.slice p4511 r.1.length c4512, .slice p4515 r.2.1.length c4516, .bool r.2.2]) ∧ ownS Gx.encS r.1 p4511 c4512 sg4513 ∧ ownS Gx.encI r.2.1 p4515 c4516 sg4517 ∧ Mem [] w w' [sg4513, sg4517] := by
  unfold M.s_CountKinds at hm
  refine C_enter Tryz.func19 rfl (by kernel_rfl) ?_
  have M0 := Mem.refl [] w
  refine G_seq ?_
  refine G_region ?_
  refine W_run 3 [(0, .slice p4507 x4505.length c4508)] w (by kernel_rfl) ?_
  refine W_nil ?_
  refine N_then ?_
  refine G_seq ?_
  refine G_region ?_
  refine W_lit (E := Gx.encS) ([] : List ByteArray) 0 [] 9 M0 (by kernel_rfl) (by kernel_rfl) (by kernel_rfl) (by kernel_rfl) (by kernel_rfl) ?_
  intro p4520 c4521 sg4522 w4523 ho4524 M4525
  refine W_lit (E := Gx.encI) ([] : List Int) 0 [] 3 M4525 (by kernel_rfl) (by kernel_rfl) (by kernel_rfl) (by kernel_rfl) (by kernel_rfl) ?_
  intro p4527 c4528 sg4529 w4530 ho4531 M4532
  refine W_run 2 [(0, .slice p4507 x4505.length c4508), (5, .slice p4520 ([] : List ByteArray).length c4521), (6, .slice p4527 ([] : List Int).length c4528)] w4530 (by kernel_rfl) ?_
  refine W_nil ?_
  refine N_then ?_
  refine G_seq ?_
  refine G_seq ?_
  refine G_region ?_
  refine W_run 1 [(0, .slice p4507 x4505.length c4508), (5, .slice p4520 ([] : List ByteArray).length c4521), (6, .slice p4527 ([] : List Int).length c4528), (11, .slice p4507 x4505.length c4508)] w4530 (by kernel_rfl) ?_
  obtain ⟨r4534, hr4534, hm⟩ := gx_bind hm
  refine W_call 44 #[.slice p4507 x4505.length c4508] (by kernel_rfl) (by kernel_rfl) ?_
  refine (c_s_l22Good w4530 x4505 p4507 c4508 (h4509.mem0 M4532) hr4534).mono ?_
  rintro e_ w4535 ⟨rfl, K4536⟩
  have M4537 := M4532.call0 K4536
  refine ⟨_, rfl, ?_⟩
  refine W_run 1 [(0, .slice p4507 x4505.length c4508), (5, .slice p4520 ([] : List ByteArray).length c4521), (6, .slice p4527 ([] : List Int).length c4528), (13, .bool (!r4534))] w4535 (by kernel_rfl) ?_
  refine W_nil ?_
  refine N_then ?_
  rcases gx_bif hm with ⟨hc4538, hm⟩ | ⟨hc4538, hm⟩
  · refine G_cond_t (b := (!r4534)) hc4538 (by kernel_rfl) ?_
    refine G_seq ?_
    refine G_region ?_
    refine W_run 5 [(2, .slice p4520 ([] : List ByteArray).length c4521), (3, .slice p4527 ([] : List Int).length c4528), (4, .bool false)] w4535 (by kernel_rfl) ?_
    refine W_nil ?_
    refine N_then ?_
    refine G_ret ?_
    refine N_then_ret ?_
    obtain rfl := Option.some.inj hm
    refine N_ret [.slice p4520 ([] : List ByteArray).length c4521, .slice p4527 ([] : List Int).length c4528, .bool false] (RVs_cons (RV_tmp (by kernel_rfl)) (RVs_cons (RV_tmp (by kernel_rfl)) (RVs_cons (RV_tmp (by kernel_rfl)) RVs_nil))) ?_
    exact ⟨p4520, c4521, sg4522, p4527, c4528, sg4529, rfl, ho4524, ho4531, M4537.pick [0, 1] (by kernel_rfl)⟩
  refine G_cond_f (b := (!r4534)) hc4538 (by kernel_rfl) ?_
  refine G_skip ?_
  refine N_then ?_
  refine G_seq ?_
  refine G_seq ?_
  refine G_region ?_
  refine W_run 1 [(0, .slice p4507 x4505.length c4508), (5, .slice p4520 ([] : List ByteArray).length c4521), (6, .slice p4527 ([] : List Int).length c4528), (7, .int .i64 0)] w4535 (by kernel_rfl) ?_
  refine W_nil ?_
  refine N_then ?_
  obtain ⟨out5750, hw5751, hmo5752⟩ := gx_bind hm
  refine G_meet (fun a w' => ∃ (p5766 : Option Addr), ∃ (c5767 : Nat), ∃ (sg5768 : Seg), ∃ (p5771 : Option Addr), ∃ (c5772 : Nat), ∃ (sg5773 : Seg), ∃ (sg5776 : Seg), ownS Gx.encS out5750.1 p5766 c5767 sg5768 ∧ ownS Gx.encI out5750.2.1 p5771 c5772 sg5773 ∧ ownS Gx.encI out5750.2.2 p4527 c4528 sg5776 ∧ Mem [] w w' [sg5768, sg5773] ∧ Sat Tryz.f19.ntmps [(5, .slice p5766 out5750.1.length c5767), (6, .slice p5771 out5750.2.1.length c5772)] a) ?_ ?_
  · refine G_block ?_
    refine G_while (σ := List ByteArray × List Int × Int × List Int) (ρ := List ByteArray × List Int × List Int) (fun s5743 a w' => ∃ (p5753 : Option Addr), ∃ (c5754 : Nat), ∃ (sg5755 : Seg), ∃ (p5758 : Option Addr), ∃ (c5759 : Nat), ∃ (sg5760 : Seg), ∃ (sg5763 : Seg), ownS Gx.encS s5743.1 p5753 c5754 sg5755 ∧ ownS Gx.encI s5743.2.1 p5758 c5759 sg5760 ∧ ownS Gx.encI s5743.2.2.2 p4527 c4528 sg5763 ∧ Mem [] w w' [sg5755, sg5760] ∧ Sat Tryz.f19.ntmps [(0, .slice p4507 x4505.length c4508), (5, .slice p5753 s5743.1.length c5754), (6, .slice p5758 s5743.2.1.length c5759), (7, .int .i64 s5743.2.2.1)] a) hw5751 (fun a ha => ⟨p4520, c4521, sg4522, p4527, c4528, sg4529, sg4529, ho4524, ho4531, ho4531, M4537.pick [0, 1] (by kernel_rfl), ha.sub (by kernel_rfl)⟩) ?_
    clear hm
    intro s5743 x5744 hm hout5745 a5746 w5747 ⟨p5753, c5754, sg5755, p5758, c5759, sg5760, sg5763, ho5756, ho5761, ho5764, M5748, hS5749⟩
    refine G_use hS5749 ?_
    refine G_seq ?_
    refine G_seq ?_
    refine G_region ?_
    refine W_run 4 [(0, .slice p4507 x4505.length c4508), (5, .slice p5753 s5743.1.length c5754), (6, .slice p5758 s5743.2.1.length c5759), (7, .int .i64 s5743.2.2.1), (19, .bool (decide (s5743.2.2.1 < (x4505.length : Int))))] w5747 (by kernel_rfl) ?_
    refine W_nil ?_
    refine N_then ?_
    rcases gx_bif hm with ⟨hc5778, hm⟩ | ⟨hc5778, hm⟩
    · refine G_cond_t (b := (decide (s5743.2.2.1 < (x4505.length : Int)))) hc5778 (by kernel_rfl) ?_
      refine G_skip ?_
      refine N_then ?_
      refine G_seq ?_
      obtain ⟨o6067, ho6068, hm6069⟩ := gx_bind hm
      refine G_meet (fun a w' => ∃ (p6070 : Option Addr), ∃ (c6071 : Nat), ∃ (sg6072 : Seg), ∃ (p6075 : Option Addr), ∃ (c6076 : Nat), ∃ (sg6077 : Seg), ∃ (sg6080 : Seg), ownS Gx.encS o6067.1 p6070 c6071 sg6072 ∧ ownS Gx.encI o6067.2.1 p6075 c6076 sg6077 ∧ ownS Gx.encI o6067.2.2 p5758 c5759 sg6080 ∧ Mem [] w w' [sg6072, sg6077] ∧ Sat Tryz.f19.ntmps [(0, .slice p4507 x4505.length c4508), (5, .slice p6070 o6067.1.length c6071), (6, .slice p6075 o6067.2.1.length c6076), (7, .int .i64 s5743.2.2.1)] a) ?_ ?_
      · have hm := ho6068
        refine G_block ?_
        refine G_seq ?_
        refine G_region ?_
        refine W_run 1 [(0, .slice p4507 x4505.length c4508), (5, .slice p5753 s5743.1.length c5754), (6, .slice p5758 s5743.2.1.length c5759), (7, .int .i64 s5743.2.2.1), (8, .int .i64 0)] w5747 (by kernel_rfl) ?_
        refine W_nil ?_
        refine N_then ?_
        refine G_seq ?_
        obtain ⟨out6133, hw6134, hmo6135⟩ := gx_bind hm
        refine G_meet (fun a w' => Mem [] w w' [sg5755, sg5760] ∧ Sat Tryz.f19.ntmps [(0, .slice p4507 x4505.length c4508), (5, .slice p5753 s5743.1.length c5754), (6, .slice p5758 s5743.2.1.length c5759), (7, .int .i64 s5743.2.2.1), (8, .int .i64 out6133)] a) ?_ ?_
        · refine G_block ?_
          refine G_while (σ := Int) (ρ := Int) (fun s6126 a w' => Mem [] w w' [sg5755, sg5760] ∧ Sat Tryz.f19.ntmps [(0, .slice p4507 x4505.length c4508), (5, .slice p5753 s5743.1.length c5754), (6, .slice p5758 s5743.2.1.length c5759), (7, .int .i64 s5743.2.2.1), (8, .int .i64 s6126)] a) hw6134 (fun a ha => ⟨M5748.pick [0, 1] (by kernel_rfl), ha.sub (by kernel_rfl)⟩) ?_
          clear hm
          intro s6126 x6127 hm hout6128 a6129 w6130 ⟨M6131, hS6132⟩
          refine G_use hS6132 ?_
          refine G_seq ?_
          refine G_seq ?_
          obtain ⟨o6144, ho6145, hm6146⟩ := gx_bind hm
          refine G_meet (fun a w' => Mem [] w w' [sg5755, sg5760] ∧ Sat Tryz.f19.ntmps [(0, .slice p4507 x4505.length c4508), (5, .slice p5753 s5743.1.length c5754), (6, .slice p5758 s5743.2.1.length c5759), (7, .int .i64 s5743.2.2.1), (8, .int .i64 s6126), (37, .bool o6144)] a) ?_ ?_
          · have hm := ho6145
            refine G_quiet (by kernel_rfl) (by kernel_rfl) M6131 ?_
            refine Z_runs [.int .i64 s6126, .slice p5753 s5743.1.length c5754, .int .i64 (s5743.1.length : Int), .bool (decide (s6126 < (s5743.1.length : Int))), .bool (decide (s6126 < (s5743.1.length : Int)))] [(0, .slice p4507 x4505.length c4508), (5, .slice p5753 s5743.1.length c5754), (6, .slice p5758 s5743.2.1.length c5759), (7, .int .i64 s5743.2.2.1), (8, .int .i64 s6126), (26, .bool (decide (s6126 < (s5743.1.length : Int))))] (fun w_ => by kernel_rfl) (by kernel_rfl) ?_
            rcases gx_bif hm with ⟨hc6147, hm⟩ | ⟨hc6147, hm⟩
            · refine Z_known 26 true (by kernel_rfl) hc6147 ?_
              refine Z_runs [.slice p5753 s5743.1.length c5754, .int .i64 s6126] [(0, .slice p4507 x4505.length c4508), (5, .slice p5753 s5743.1.length c5754), (6, .slice p5758 s5743.2.1.length c5759), (7, .int .i64 s5743.2.2.1), (8, .int .i64 s6126), (26, .bool true), (27, .slice p5753 s5743.1.length c5754), (28, .int .i64 s6126)] (fun w_ => by kernel_rfl) (by kernel_rfl) ?_
              obtain ⟨y6148, hy6148, hm⟩ := gx_bind hm
              refine Z_val (elemP p5753 (s6126.toNat * 1)) (by kernel_rfl) (fun w_ M_ => (E_index (E := Gx.encS) _ _ _ s5743.1.length c5754 .i64 s6126 1 (y := y6148) rfl (by kernel_rfl) (by kernel_rfl) (by kernel_rfl) (ho5756.rd M_ 0 (by kernel_rfl)) rfl hy6148)) ?_
              refine Z_val (.string y6148) (by kernel_rfl) (fun w_ M_ => (E_loadE (E := Gx.encS) _ _ false 1 s6126 0 (s6126.toNat * 1) y6148 (.string y6148) rfl (by kernel_rfl) (by kernel_rfl) (by kernel_rfl) (ho5756.rd M_ 0 (by kernel_rfl)) hy6148 rfl)) ?_
              refine Z_runs [.slice p4507 x4505.length c4508, .int .i64 s5743.2.2.1] [(0, .slice p4507 x4505.length c4508), (5, .slice p5753 s5743.1.length c5754), (6, .slice p5758 s5743.2.1.length c5759), (7, .int .i64 s5743.2.2.1), (8, .int .i64 s6126), (26, .bool true), (30, .string y6148), (31, .slice p4507 x4505.length c4508), (32, .int .i64 s5743.2.2.1)] (fun w_ => by kernel_rfl) (by kernel_rfl) ?_
              obtain ⟨y6149, hy6149, hm⟩ := gx_bind hm
              refine Z_val (elemP p4507 (s5743.2.2.1.toNat * 4)) (by kernel_rfl) (fun w_ M_ => (E_index (E := encEvent) _ _ _ x4505.length c4508 .i64 s5743.2.2.1 4 (y := y6149) rfl (by kernel_rfl) (by kernel_rfl) (by kernel_rfl) (h4509.mem0 M_) rfl hy6149)) ?_
              refine Z_val (elemP p4507 (s5743.2.2.1.toNat * 4 + 2)) (by kernel_rfl) (fun w_ M_ => (E_fieldE (E := encEvent) _ _ 2 (s5743.2.2.1.toNat * 4) 2 rfl (by kernel_rfl) (by kernel_rfl) (h4509.mem0 M_) hy6149)) ?_
              refine Z_val (.string y6149.Kind) (by kernel_rfl) (fun w_ M_ => (E_loadE (E := encEvent) _ _ false 1 s5743.2.2.1 2 (s5743.2.2.1.toNat * 4 + 2) y6149 (.string y6149.Kind) rfl (by kernel_rfl) (by kernel_rfl) (by kernel_rfl) (h4509.mem0 M_) hy6149 rfl)) ?_
              refine Z_runs [.bool (Op.bytesLess y6148.toList y6149.Kind.toList), .bool (Op.bytesLess y6148.toList y6149.Kind.toList)] [(0, .slice p4507 x4505.length c4508), (5, .slice p5753 s5743.1.length c5754), (6, .slice p5758 s5743.2.1.length c5759), (7, .int .i64 s5743.2.2.1), (8, .int .i64 s6126), (37, .bool (Op.bytesLess y6148.toList y6149.Kind.toList))] (fun w_ => by kernel_rfl) (by kernel_rfl) ?_
              refine Z_end fun w6150 M6151 => ?_
              obtain rfl := Option.some.inj hm
              exact N_meet fun a ha => ⟨M6151.pick [0, 1] (by kernel_rfl), ha.sub (by kernel_rfl)⟩
            refine Z_known 26 false (by kernel_rfl) hc6147 ?_
            refine Z_runs [undef, undef, undef, undef, undef, undef, undef, undef, undef, undef, .bool false] [(0, .slice p4507 x4505.length c4508), (5, .slice p5753 s5743.1.length c5754), (6, .slice p5758 s5743.2.1.length c5759), (7, .int .i64 s5743.2.2.1), (8, .int .i64 s6126), (37, .bool false)] (fun w_ => by kernel_rfl) (by kernel_rfl) ?_
            refine Z_end fun w6152 M6153 => ?_
            obtain rfl := Option.some.inj hm
            exact N_meet fun a ha => ⟨M6153.pick [0, 1] (by kernel_rfl), ha.sub (by kernel_rfl)⟩
          intro a6156 w6154 ⟨M6155, hS6157⟩
          refine N_use hS6157 ?_
          have hm := hm6146
          refine N_then ?_
          rcases gx_bif hm with ⟨hc6158, hm⟩ | ⟨hc6158, hm⟩
          · refine G_cond_t (b := o6144) hc6158 (by kernel_rfl) ?_
            refine G_skip ?_
            refine N_then ?_
            refine G_block ?_
            refine G_region ?_
            refine W_run 3 [(0, .slice p4507 x4505.length c4508), (5, .slice p5753 s5743.1.length c5754), (6, .slice p5758 s5743.2.1.length c5759), (7, .int .i64 s5743.2.2.1), (8, .int .i64 (w64 (s6126 + 1)))] w6154 (by kernel_rfl) ?_
            refine W_nil ?_
            refine N_block ?_
            obtain rfl := Option.some.inj hm
            exact N_loop fun a ha => ⟨_, rfl, M6155.pick [0, 1] (by kernel_rfl), ha.sub (by kernel_rfl)⟩
          refine G_cond_f (b := o6144) hc6158 (by kernel_rfl) ?_
          refine G_exit ?_
          refine N_then_exit ?_
          refine N_then_exit ?_
          refine N_block_eq ?_
          obtain rfl := Option.some.inj hm
          obtain rfl := hout6128 _ rfl
          exact N_meet fun a ha => ⟨M6155.pick [0, 1] (by kernel_rfl), ha.sub (by kernel_rfl)⟩
        intro a6159 w6160 ⟨M6161, hS6162⟩
        refine N_use hS6162 ?_
        have hm := hmo6135
        refine N_then ?_
        refine G_seq ?_
        refine G_seq ?_
        obtain ⟨o6170, ho6171, hm6172⟩ := gx_bind hm
        refine G_meet (fun a w' => Mem [] w w' [sg5755, sg5760] ∧ Sat Tryz.f19.ntmps [(0, .slice p4507 x4505.length c4508), (5, .slice p5753 s5743.1.length c5754), (6, .slice p5758 s5743.2.1.length c5759), (7, .int .i64 s5743.2.2.1), (8, .int .i64 out6133), (55, .bool o6170)] a) ?_ ?_
        · have hm := ho6171
          refine G_quiet (by kernel_rfl) (by kernel_rfl) M6161 ?_
          refine Z_runs [.int .i64 out6133, .slice p5753 s5743.1.length c5754, .int .i64 (s5743.1.length : Int), .bool (decide (out6133 < (s5743.1.length : Int))), .bool (decide (out6133 < (s5743.1.length : Int)))] [(0, .slice p4507 x4505.length c4508), (5, .slice p5753 s5743.1.length c5754), (6, .slice p5758 s5743.2.1.length c5759), (7, .int .i64 s5743.2.2.1), (8, .int .i64 out6133), (44, .bool (decide (out6133 < (s5743.1.length : Int))))] (fun w_ => by kernel_rfl) (by kernel_rfl) ?_
          rcases gx_bif hm with ⟨hc6173, hm⟩ | ⟨hc6173, hm⟩
          · refine Z_known 44 true (by kernel_rfl) hc6173 ?_
            refine Z_runs [.slice p5753 s5743.1.length c5754, .int .i64 out6133] [(0, .slice p4507 x4505.length c4508), (5, .slice p5753 s5743.1.length c5754), (6, .slice p5758 s5743.2.1.length c5759), (7, .int .i64 s5743.2.2.1), (8, .int .i64 out6133), (44, .bool true), (45, .slice p5753 s5743.1.length c5754), (46, .int .i64 out6133)] (fun w_ => by kernel_rfl) (by kernel_rfl) ?_
            obtain ⟨y6174, hy6174, hm⟩ := gx_bind hm
            refine Z_val (elemP p5753 (out6133.toNat * 1)) (by kernel_rfl) (fun w_ M_ => (E_index (E := Gx.encS) _ _ _ s5743.1.length c5754 .i64 out6133 1 (y := y6174) rfl (by kernel_rfl) (by kernel_rfl) (by kernel_rfl) (ho5756.rd M_ 0 (by kernel_rfl)) rfl hy6174)) ?_
            refine Z_val (.string y6174) (by kernel_rfl) (fun w_ M_ => (E_loadE (E := Gx.encS) _ _ false 1 out6133 0 (out6133.toNat * 1) y6174 (.string y6174) rfl (by kernel_rfl) (by kernel_rfl) (by kernel_rfl) (ho5756.rd M_ 0 (by kernel_rfl)) hy6174 rfl)) ?_
            refine Z_runs [.slice p4507 x4505.length c4508, .int .i64 s5743.2.2.1] [(0, .slice p4507 x4505.length c4508), (5, .slice p5753 s5743.1.length c5754), (6, .slice p5758 s5743.2.1.length c5759), (7, .int .i64 s5743.2.2.1), (8, .int .i64 out6133), (44, .bool true), (48, .string y6174), (49, .slice p4507 x4505.length c4508), (50, .int .i64 s5743.2.2.1)] (fun w_ => by kernel_rfl) (by kernel_rfl) ?_
            obtain ⟨y6175, hy6175, hm⟩ := gx_bind hm
            refine Z_val (elemP p4507 (s5743.2.2.1.toNat * 4)) (by kernel_rfl) (fun w_ M_ => (E_index (E := encEvent) _ _ _ x4505.length c4508 .i64 s5743.2.2.1 4 (y := y6175) rfl (by kernel_rfl) (by kernel_rfl) (by kernel_rfl) (h4509.mem0 M_) rfl hy6175)) ?_
            refine Z_val (elemP p4507 (s5743.2.2.1.toNat * 4 + 2)) (by kernel_rfl) (fun w_ M_ => (E_fieldE (E := encEvent) _ _ 2 (s5743.2.2.1.toNat * 4) 2 rfl (by kernel_rfl) (by kernel_rfl) (h4509.mem0 M_) hy6175)) ?_
            refine Z_val (.string y6175.Kind) (by kernel_rfl) (fun w_ M_ => (E_loadE (E := encEvent) _ _ false 1 s5743.2.2.1 2 (s5743.2.2.1.toNat * 4 + 2) y6175 (.string y6175.Kind) rfl (by kernel_rfl) (by kernel_rfl) (by kernel_rfl) (h4509.mem0 M_) hy6175 rfl)) ?_
            refine Z_runs [.bool (y6174.toList == y6175.Kind.toList), .bool (y6174.toList == y6175.Kind.toList)] [(0, .slice p4507 x4505.length c4508), (5, .slice p5753 s5743.1.length c5754), (6, .slice p5758 s5743.2.1.length c5759), (7, .int .i64 s5743.2.2.1), (8, .int .i64 out6133), (55, .bool (y6174.toList == y6175.Kind.toList))] (fun w_ => by kernel_rfl) (by kernel_rfl) ?_
            refine Z_end fun w6176 M6177 => ?_
            obtain rfl := Option.some.inj hm
            exact N_meet fun a ha => ⟨M6177.pick [0, 1] (by kernel_rfl), ha.sub (by kernel_rfl)⟩
          refine Z_known 44 false (by kernel_rfl) hc6173 ?_
          refine Z_runs [undef, undef, undef, undef, undef, undef, undef, undef, undef, undef, .bool false] [(0, .slice p4507 x4505.length c4508), (5, .slice p5753 s5743.1.length c5754), (6, .slice p5758 s5743.2.1.length c5759), (7, .int .i64 s5743.2.2.1), (8, .int .i64 out6133), (55, .bool false)] (fun w_ => by kernel_rfl) (by kernel_rfl) ?_
          refine Z_end fun w6178 M6179 => ?_
          obtain rfl := Option.some.inj hm
          exact N_meet fun a ha => ⟨M6179.pick [0, 1] (by kernel_rfl), ha.sub (by kernel_rfl)⟩
        intro a6182 w6180 ⟨M6181, hS6183⟩
        refine N_use hS6183 ?_
        have hm := hm6172
        refine N_then ?_
        rcases gx_bif hm with ⟨hc6184, hm⟩ | ⟨hc6184, hm⟩
        · refine G_cond_t (b := o6170) hc6184 (by kernel_rfl) ?_
          refine G_seq ?_
          refine G_region ?_
          refine W_run 4 [(0, .slice p4507 x4505.length c4508), (5, .slice p5753 s5743.1.length c5754), (6, .slice p5758 s5743.2.1.length c5759), (7, .int .i64 s5743.2.2.1), (56, .slice p5758 s5743.2.1.length c5759), (57, .int .i64 out6133), (58, .slice p5758 s5743.2.1.length c5759), (59, .int .i64 out6133)] w6180 (by kernel_rfl) ?_
          obtain ⟨y6185, hy6185, hm⟩ := gx_bind hm
          refine W_val (elemP p5758 (out6133.toNat * 1)) w6180 (by kernel_rfl) (E_index (E := Gx.encI) _ _ _ s5743.2.1.length c5759 .i64 out6133 1 (y := y6185) rfl (by kernel_rfl) (by kernel_rfl) (by kernel_rfl) (ho5761.rd M6181 1 (by kernel_rfl)) rfl hy6185) ?_
          refine W_val (.int .i64 y6185) w6180 (by kernel_rfl) (E_loadE (E := Gx.encI) _ _ false 1 out6133 0 (out6133.toNat * 1) y6185 (.int .i64 y6185) rfl (by kernel_rfl) (by kernel_rfl) (by kernel_rfl) (ho5761.rd M6181 1 (by kernel_rfl)) hy6185 rfl) ?_
          refine W_run 1 [(0, .slice p4507 x4505.length c4508), (5, .slice p5753 s5743.1.length c5754), (6, .slice p5758 s5743.2.1.length c5759), (7, .int .i64 s5743.2.2.1), (56, .slice p5758 s5743.2.1.length c5759), (57, .int .i64 out6133), (62, .int .i64 (w64 (y6185 + 1)))] w6180 (by kernel_rfl) ?_
          obtain ⟨y6186, hy6186, hm⟩ := gx_bind hm
          refine W_val (elemP p5758 (out6133.toNat * 1)) w6180 (by kernel_rfl) (E_index (E := Gx.encI) _ _ _ s5743.2.1.length c5759 .i64 out6133 1 (y := y6186) rfl (by kernel_rfl) (by kernel_rfl) (by kernel_rfl) (ho5761.rd M6181 1 (by kernel_rfl)) rfl hy6186) ?_
          refine W_storeE (E := Gx.encI) _ _ _ false 1 out6133.toNat 0 (out6133.toNat * 1) y6186 (w64 (y6185 + 1)) (.int .i64 (w64 (y6185 + 1))) 1 M6181 ho5761 (by kernel_rfl) (by kernel_rfl) rfl (by kernel_rfl) (by kernel_rfl) (by kernel_rfl) (by kernel_rfl) (by kernel_rfl) (by kernel_rfl) (by kernel_rfl) (gxIdx_spec hy6186).2 rfl ?_
          intro w6187 sg6189 ho6190 M6188
          refine W_conv 6 (.slice p5758 s5743.2.1.length c5759) (.slice p5758 (s5743.2.1.set out6133.toNat (w64 (y6185 + 1))).length c5759) (by kernel_rfl) (by rw [@List.length_set _ s5743.2.1 out6133.toNat (w64 (y6185 + 1))]) ?_
          refine W_conv 56 (.slice p5758 s5743.2.1.length c5759) (.slice p5758 (s5743.2.1.set out6133.toNat (w64 (y6185 + 1))).length c5759) (by kernel_rfl) (by rw [@List.length_set _ s5743.2.1 out6133.toNat (w64 (y6185 + 1))]) ?_
          refine W_nil ?_
          refine N_then ?_
          refine G_exit ?_
          refine N_then_exit ?_
          refine N_block_eq ?_
          obtain rfl := Option.some.inj hm
          exact N_meet fun a ha => ⟨p5753, c5754, sg5755, p5758, c5759, sg6189, sg6189, ho5756, ho6190, ho6190, M6188.pick [0, 1] (by kernel_rfl), ha.sub (by kernel_rfl)⟩
        refine G_cond_f (b := o6170) hc6184 (by kernel_rfl) ?_
        refine G_skip ?_
        refine N_then ?_
        refine G_seq ?_
        obtain ⟨ys6198, hys6198, hm⟩ := gx_bind hm
        obtain ⟨ap6200, hap6200, hm⟩ := gx_bind hm
        obtain ⟨y6206, hy6206, hm⟩ := gx_bind hm
        obtain ⟨ap6212, hap6212, hm⟩ := gx_bind hm
        obtain ⟨ys6218, hys6218, hm⟩ := gx_bind hm
        refine G_sub [(0, .slice p4507 x4505.length c4508), (5, .slice p5753 s5743.1.length c5754), (6, .slice p5758 s5743.2.1.length c5759), (7, .int .i64 s5743.2.2.1), (8, .int .i64 out6133), (55, .bool o6170)] (by kernel_rfl) ?_
        refine G_dagL 15 [[], [], [], [1, 2], [0, 3], [], [], [5, 6], [7], [8], [9], [4, 10], [], [], [12, 13]] [[], [], [], [], [0], [], [], [], [], [], [], [4], [], [], []] [[], [], [], [], [], [], [], [], [], [], [], [10], [], [], []] [[], [], [], [], [], [], [], [], [], [], [], [], [], [], []] [[], [], [], [], [], [], [], [], [], [], [], [], [], [], []] [[], [], [], [], [], [], [], [], [], [], [], [], [], [], []] (fun _ => []) (fun i => ([fun f v s => ∃ (p6194 : Option Addr) (c6195 : Nat), v = (.slice p6194 ([] : List ByteArray).length c6195 : Value) ∧ ownS Gx.encS ([] : List ByteArray) p6194 c6195 s, fun f v s => v = (.slice p5753 s5743.1.length c5754 : Value) ∧ s = [], fun f v s => v = (.int .i64 out6133 : Value) ∧ s = [], fun f v s => v = (.slice (subP p5753 (0 : Int).toNat c5754 1) ys6198.length (c5754 - (0 : Int).toNat) : Value) ∧ s = [], fun f v s => ∃ (p6202 : Option Addr) (c6203 : Nat), v = (.slice p6202 ap6200.length c6203 : Value) ∧ ownS Gx.encS ap6200 p6202 c6203 s, fun f v s => v = (.slice p4507 x4505.length c4508 : Value) ∧ s = [], fun f v s => v = (.int .i64 s5743.2.2.1 : Value) ∧ s = [], fun f v s => v = (elemP p4507 (s5743.2.2.1.toNat * 4) : Value) ∧ s = [], fun f v s => v = (elemP p4507 (s5743.2.2.1.toNat * 4 + 2) : Value) ∧ s = [], fun f v s => v = (.string y6206.Kind : Value) ∧ s = [], fun f v s => ∃ (p6208 : Option Addr) (c6209 : Nat), v = (.slice p6208 [y6206.Kind].length c6209 : Value) ∧ ownS Gx.encS [y6206.Kind] p6208 c6209 s, fun f v s => ∃ (p6214 : Option Addr) (c6215 : Nat), v = (.slice p6214 ap6212.length c6215 : Value) ∧ ownS Gx.encS ap6212 p6214 c6215 s, fun f v s => v = (.slice p5753 s5743.1.length c5754 : Value) ∧ s = [], fun f v s => v = (.int .i64 out6133 : Value) ∧ s = [], fun f v s => v = (.slice (subP p5753 out6133.toNat c5754 1) ys6218.length (c5754 - out6133.toNat) : Value) ∧ s = []] : List ((Nat → Value) → Value → Seg → Prop)).getD i (fun _ _ _ => False)) (fun j f v => ∃ s, (fun i => ([fun f v s => ∃ (p6194 : Option Addr) (c6195 : Nat), v = (.slice p6194 ([] : List ByteArray).length c6195 : Value) ∧ ownS Gx.encS ([] : List ByteArray) p6194 c6195 s, fun f v s => v = (.slice p5753 s5743.1.length c5754 : Value) ∧ s = [], fun f v s => v = (.int .i64 out6133 : Value) ∧ s = [], fun f v s => v = (.slice (subP p5753 (0 : Int).toNat c5754 1) ys6198.length (c5754 - (0 : Int).toNat) : Value) ∧ s = [], fun f v s => ∃ (p6202 : Option Addr) (c6203 : Nat), v = (.slice p6202 ap6200.length c6203 : Value) ∧ ownS Gx.encS ap6200 p6202 c6203 s, fun f v s => v = (.slice p4507 x4505.length c4508 : Value) ∧ s = [], fun f v s => v = (.int .i64 s5743.2.2.1 : Value) ∧ s = [], fun f v s => v = (elemP p4507 (s5743.2.2.1.toNat * 4) : Value) ∧ s = [], fun f v s => v = (elemP p4507 (s5743.2.2.1.toNat * 4 + 2) : Value) ∧ s = [], fun f v s => v = (.string y6206.Kind : Value) ∧ s = [], fun f v s => ∃ (p6208 : Option Addr) (c6209 : Nat), v = (.slice p6208 [y6206.Kind].length c6209 : Value) ∧ ownS Gx.encS [y6206.Kind] p6208 c6209 s, fun f v s => ∃ (p6214 : Option Addr) (c6215 : Nat), v = (.slice p6214 ap6212.length c6215 : Value) ∧ ownS Gx.encS ap6212 p6214 c6215 s, fun f v s => v = (.slice p5753 s5743.1.length c5754 : Value) ∧ s = [], fun f v s => v = (.int .i64 out6133 : Value) ∧ s = [], fun f v s => v = (.slice (subP p5753 out6133.toNat c5754 1) ys6218.length (c5754 - out6133.toNat) : Value) ∧ s = []] : List ((Nat → Value) → Value → Seg → Prop)).getD i (fun _ _ _ => False)) j f v s) [] [10, 11, 14] [10, 11] (fun _ _ _ s h => ⟨s, h⟩) (by kernel_rfl) (by kernel_rfl) (M6181.preNil 15) (by kernel_rfl) (by kernel_rfl) (by kernel_rfl) (by kernel_rfl) (allOb_cons ?_ (allOb_cons ?_ (allOb_cons ?_ (allOb_cons ?_ (allOb_cons ?_ (allOb_cons ?_ (allOb_cons ?_ (allOb_cons ?_ (allOb_cons ?_ (allOb_cons ?_ (allOb_cons ?_ (allOb_cons ?_ (allOb_cons ?_ (allOb_cons ?_ (allOb_cons ?_ allOb_nil))))))))))))))) ?_
        · intro g6191 f6192
          intro R w6220 M6221
          refine W_lit (E := Gx.encS) ([] : List ByteArray) 0 [] 9 M6221 (by kernel_rfl) (by kernel_rfl) (by kernel_rfl) (by kernel_rfl) (by kernel_rfl) ?_
          intro p6194 c6195 sg6196 w6222 ho6197 M6223
          exact W_nil (ob_end (.slice p6194 ([] : List ByteArray).length c6195) sg6196 rfl (by kernel_rfl) ⟨p6194, c6195, rfl, ho6197⟩ (Mem.mid M6223))
        · intro g6191 f6192
          intro R w6224 M6225
          refine W_run 1 [(65, .slice p5753 s5743.1.length c5754)] w6224 (by kernel_rfl) ?_
          exact W_nil (ob_end (.slice p5753 s5743.1.length c5754) [] rfl (by kernel_rfl) ⟨by kernel_rfl, rfl⟩ M6225)
        · intro g6191 f6192
          intro R w6228 M6229
          refine W_run 1 [(66, .int .i64 out6133)] w6228 (by kernel_rfl) ?_
          exact W_nil (ob_end (.int .i64 out6133) [] rfl (by kernel_rfl) ⟨by kernel_rfl, rfl⟩ M6229)
        · intro g6191 f6192
          intro v1_ hb1_
          obtain ⟨rfl, _⟩ := hb1_
          intro v2_ hb2_
          obtain ⟨rfl, _⟩ := hb2_
          intro R w6232 M6233
          refine W_val (.slice (subP p5753 (0 : Int).toNat c5754 1) ys6198.length (c5754 - (0 : Int).toNat)) w6232 (by kernel_rfl) (E_slice (E := Gx.encS) _ _ _ _ s5743.1.length 0 out6133 rfl (by kernel_rfl) (Or.inl ⟨rfl, rfl⟩) (Or.inr ⟨_, rfl, by kernel_rfl⟩) (by kernel_rfl) (ho5756.rd M6233 0 (by kernel_rfl)) rfl hys6198) ?_
          exact W_nil (ob_end (.slice (subP p5753 (0 : Int).toNat c5754 1) ys6198.length (c5754 - (0 : Int).toNat)) [] rfl (by kernel_rfl) ⟨by kernel_rfl, rfl⟩ M6233)
        · intro g6191 f6192
          intro v0_ hb0_
          obtain ⟨p6194, c6195, rfl, ho6197⟩ := hb0_
          intro v3_ hb3_
          obtain ⟨rfl, _⟩ := hb3_
          intro R w6236 M6237
          refine W_append (E := Gx.encS) _ _ _ 16 [.string ByteArray.empty] 3 (c5754 - (0 : Int).toNat) M6237 ho6197 (by kernel_rfl) (by kernel_rfl) (by kernel_rfl) rfl (by kernel_rfl) (by kernel_rfl) (by kernel_rfl) (by kernel_rfl) (by kernel_rfl) (by kernel_rfl) ((ho5756.rd M6237 0 (by kernel_rfl)).sliceM hys6198) hap6200 ?_
          intro p6202 c6203 sg6204 w6238 ho6205 M6239
          exact W_nil (ob_end (.slice p6202 ap6200.length c6203) sg6204 rfl (by kernel_rfl) ⟨p6202, c6203, rfl, ho6205⟩ (Mem.takeOver M6239))
        · intro g6191 f6192
          intro R w6240 M6241
          refine W_run 1 [(69, .slice p4507 x4505.length c4508)] w6240 (by kernel_rfl) ?_
          exact W_nil (ob_end (.slice p4507 x4505.length c4508) [] rfl (by kernel_rfl) ⟨by kernel_rfl, rfl⟩ M6241)
        · intro g6191 f6192
          intro R w6244 M6245
          refine W_run 1 [(70, .int .i64 s5743.2.2.1)] w6244 (by kernel_rfl) ?_
          exact W_nil (ob_end (.int .i64 s5743.2.2.1) [] rfl (by kernel_rfl) ⟨by kernel_rfl, rfl⟩ M6245)
        · intro g6191 f6192
          intro v5_ hb5_
          obtain ⟨rfl, _⟩ := hb5_
          intro v6_ hb6_
          obtain ⟨rfl, _⟩ := hb6_
          intro R w6248 M6249
          refine W_val (elemP p4507 (s5743.2.2.1.toNat * 4)) w6248 (by kernel_rfl) (E_index (E := encEvent) _ _ _ x4505.length c4508 .i64 s5743.2.2.1 4 (y := y6206) rfl (by kernel_rfl) (by kernel_rfl) (by kernel_rfl) (h4509.mem0 M6249) rfl hy6206) ?_
          exact W_nil (ob_end (elemP p4507 (s5743.2.2.1.toNat * 4)) [] rfl (by kernel_rfl) ⟨by kernel_rfl, rfl⟩ M6249)
        · intro g6191 f6192
          intro v7_ hb7_
          obtain ⟨rfl, _⟩ := hb7_
          intro R w6252 M6253
          refine W_val (elemP p4507 (s5743.2.2.1.toNat * 4 + 2)) w6252 (by kernel_rfl) (E_fieldE (E := encEvent) _ _ 2 (s5743.2.2.1.toNat * 4) 2 rfl (by kernel_rfl) (by kernel_rfl) (h4509.mem0 M6253) hy6206) ?_
          exact W_nil (ob_end (elemP p4507 (s5743.2.2.1.toNat * 4 + 2)) [] rfl (by kernel_rfl) ⟨by kernel_rfl, rfl⟩ M6253)
        · intro g6191 f6192
          intro v8_ hb8_
          obtain ⟨rfl, _⟩ := hb8_
          intro R w6256 M6257
          refine W_val (.string y6206.Kind) w6256 (by kernel_rfl) (E_loadE (E := encEvent) _ _ false 1 s5743.2.2.1 2 (s5743.2.2.1.toNat * 4 + 2) y6206 (.string y6206.Kind) rfl (by kernel_rfl) (by kernel_rfl) (by kernel_rfl) (h4509.mem0 M6257) hy6206 rfl) ?_
          exact W_nil (ob_end (.string y6206.Kind) [] rfl (by kernel_rfl) ⟨by kernel_rfl, rfl⟩ M6257)
        · intro g6191 f6192
          intro v9_ hb9_
          obtain ⟨rfl, _⟩ := hb9_
          intro R w6260 M6261
          refine W_lit (E := Gx.encS) [y6206.Kind] 1 [.string y6206.Kind] 9 M6261 (by kernel_rfl) (by kernel_rfl) (by kernel_rfl) (by kernel_rfl) (by kernel_rfl) ?_
          intro p6208 c6209 sg6210 w6262 ho6211 M6263
          exact W_nil (ob_end (.slice p6208 [y6206.Kind].length c6209) sg6210 rfl (by kernel_rfl) ⟨p6208, c6209, rfl, ho6211⟩ (Mem.mid M6263))
        · intro g6191 f6192
          intro v4_ hb4_
          obtain ⟨p6202, c6203, rfl, ho6205⟩ := hb4_
          intro v10_ hb10_
          obtain ⟨p6208, c6209, rfl, ho6211⟩ := hb10_
          intro R w6264 M6265
          refine W_append (E := Gx.encS) _ _ _ 16 [.string ByteArray.empty] 3 c6209 M6265 ho6205 (by kernel_rfl) (by kernel_rfl) (by kernel_rfl) rfl (by kernel_rfl) (by kernel_rfl) (by kernel_rfl) (by kernel_rfl) (by kernel_rfl) (by kernel_rfl) (ho6211.rd M6265 4 (by kernel_rfl)) hap6212 ?_
          intro p6214 c6215 sg6216 w6266 ho6217 M6267
          exact W_nil (ob_end (.slice p6214 ap6212.length c6215) sg6216 rfl (by kernel_rfl) ⟨p6214, c6215, rfl, ho6217⟩ (Mem.takeOver M6267))
        · intro g6191 f6192
          intro R w6268 M6269
          refine W_run 1 [(76, .slice p5753 s5743.1.length c5754)] w6268 (by kernel_rfl) ?_
          exact W_nil (ob_end (.slice p5753 s5743.1.length c5754) [] rfl (by kernel_rfl) ⟨by kernel_rfl, rfl⟩ M6269)
        · intro g6191 f6192
          intro R w6272 M6273
          refine W_run 1 [(77, .int .i64 out6133)] w6272 (by kernel_rfl) ?_
          exact W_nil (ob_end (.int .i64 out6133) [] rfl (by kernel_rfl) ⟨by kernel_rfl, rfl⟩ M6273)
        · intro g6191 f6192
          intro v12_ hb12_
          obtain ⟨rfl, _⟩ := hb12_
          intro v13_ hb13_
          obtain ⟨rfl, _⟩ := hb13_
          intro R w6276 M6277
          refine W_val (.slice (subP p5753 out6133.toNat c5754 1) ys6218.length (c5754 - out6133.toNat)) w6276 (by kernel_rfl) (E_slice (E := Gx.encS) _ _ _ _ s5743.1.length out6133 (s5743.1.length : Int) rfl (by kernel_rfl) (Or.inr ⟨_, rfl, by kernel_rfl⟩) (Or.inl ⟨rfl, rfl⟩) (by kernel_rfl) (ho5756.rd M6277 0 (by kernel_rfl)) rfl hys6218) ?_
          exact W_nil (ob_end (.slice (subP p5753 out6133.toNat c5754 1) ys6218.length (c5754 - out6133.toNat)) [] rfl (by kernel_rfl) ⟨by kernel_rfl, rfl⟩ M6277)
        intro g6191 f6192
        intro v10_ hb10_
        obtain ⟨p6208, c6209, rfl, ho6211⟩ := hb10_
        intro v11_ hb11_
        obtain ⟨p6214, c6215, rfl, ho6217⟩ := hb11_
        intro v14_ hb14_
        obtain ⟨rfl, _⟩ := hb14_
        intro w6280 M6281
        have M6282 : Mem [] w w6280 [sg5755, sg5760, (g6191 10), (g6191 11)] := M6281
        obtain ⟨ap6283, hap6283, hm⟩ := gx_bind hm
        refine W_append (E := Gx.encS) _ _ _ 16 [.string ByteArray.empty] 3 (c5754 - out6133.toNat) M6282 ho6217 (by kernel_rfl) (by kernel_rfl) (by kernel_rfl) rfl (by kernel_rfl) (by kernel_rfl) (by kernel_rfl) (by kernel_rfl) (by kernel_rfl) (by kernel_rfl) ((ho5756.rd M6282 0 (by kernel_rfl)).sliceM hys6218) hap6283 ?_
        intro p6284 c6285 sg6286 w6287 ho6288 M6289
        refine W_run 1 [(0, .slice p4507 x4505.length c4508), (5, .slice p6284 ap6283.length c6285), (6, .slice p5758 s5743.2.1.length c5759), (7, .int .i64 s5743.2.2.1), (8, .int .i64 out6133)] w6287 (by kernel_rfl) ?_
        refine W_nil ?_
        refine N_then ?_
        obtain ⟨ys6298, hys6298, hm⟩ := gx_bind hm
        obtain ⟨ap6300, hap6300, hm⟩ := gx_bind hm
        obtain ⟨ap6311, hap6311, hm⟩ := gx_bind hm
        obtain ⟨ys6317, hys6317, hm⟩ := gx_bind hm
        refine G_sub [(0, .slice p4507 x4505.length c4508), (5, .slice p6284 ap6283.length c6285), (6, .slice p5758 s5743.2.1.length c5759), (7, .int .i64 s5743.2.2.1), (8, .int .i64 out6133)] (by kernel_rfl) ?_
        refine G_dagL 10 [[], [], [], [1, 2], [0, 3], [], [4, 5], [], [], [7, 8]] [[], [], [], [], [0], [], [4], [], [], []] [[], [], [], [], [], [], [5], [], [], []] [[], [], [], [], [], [], [], [], [], []] [[], [], [], [], [], [], [], [], [], []] [[], [], [], [], [], [], [], [], [], []] (fun _ => []) (fun i => ([fun f v s => ∃ (p6294 : Option Addr) (c6295 : Nat), v = (.slice p6294 ([] : List Int).length c6295 : Value) ∧ ownS Gx.encI ([] : List Int) p6294 c6295 s, fun f v s => v = (.slice p5758 s5743.2.1.length c5759 : Value) ∧ s = [], fun f v s => v = (.int .i64 out6133 : Value) ∧ s = [], fun f v s => v = (.slice (subP p5758 (0 : Int).toNat c5759 1) ys6298.length (c5759 - (0 : Int).toNat) : Value) ∧ s = [], fun f v s => ∃ (p6302 : Option Addr) (c6303 : Nat), v = (.slice p6302 ap6300.length c6303 : Value) ∧ ownS Gx.encI ap6300 p6302 c6303 s, fun f v s => ∃ (p6307 : Option Addr) (c6308 : Nat), v = (.slice p6307 [1].length c6308 : Value) ∧ ownS Gx.encI [1] p6307 c6308 s, fun f v s => ∃ (p6313 : Option Addr) (c6314 : Nat), v = (.slice p6313 ap6311.length c6314 : Value) ∧ ownS Gx.encI ap6311 p6313 c6314 s, fun f v s => v = (.slice p5758 s5743.2.1.length c5759 : Value) ∧ s = [], fun f v s => v = (.int .i64 out6133 : Value) ∧ s = [], fun f v s => v = (.slice (subP p5758 out6133.toNat c5759 1) ys6317.length (c5759 - out6133.toNat) : Value) ∧ s = []] : List ((Nat → Value) → Value → Seg → Prop)).getD i (fun _ _ _ => False)) (fun j f v => ∃ s, (fun i => ([fun f v s => ∃ (p6294 : Option Addr) (c6295 : Nat), v = (.slice p6294 ([] : List Int).length c6295 : Value) ∧ ownS Gx.encI ([] : List Int) p6294 c6295 s, fun f v s => v = (.slice p5758 s5743.2.1.length c5759 : Value) ∧ s = [], fun f v s => v = (.int .i64 out6133 : Value) ∧ s = [], fun f v s => v = (.slice (subP p5758 (0 : Int).toNat c5759 1) ys6298.length (c5759 - (0 : Int).toNat) : Value) ∧ s = [], fun f v s => ∃ (p6302 : Option Addr) (c6303 : Nat), v = (.slice p6302 ap6300.length c6303 : Value) ∧ ownS Gx.encI ap6300 p6302 c6303 s, fun f v s => ∃ (p6307 : Option Addr) (c6308 : Nat), v = (.slice p6307 [1].length c6308 : Value) ∧ ownS Gx.encI [1] p6307 c6308 s, fun f v s => ∃ (p6313 : Option Addr) (c6314 : Nat), v = (.slice p6313 ap6311.length c6314 : Value) ∧ ownS Gx.encI ap6311 p6313 c6314 s, fun f v s => v = (.slice p5758 s5743.2.1.length c5759 : Value) ∧ s = [], fun f v s => v = (.int .i64 out6133 : Value) ∧ s = [], fun f v s => v = (.slice (subP p5758 out6133.toNat c5759 1) ys6317.length (c5759 - out6133.toNat) : Value) ∧ s = []] : List ((Nat → Value) → Value → Seg → Prop)).getD i (fun _ _ _ => False)) j f v s) [] [5, 6, 9] [5, 6] (fun _ _ _ s h => ⟨s, h⟩) (by kernel_rfl) (by kernel_rfl) (M6289.preNil 10) (by kernel_rfl) (by kernel_rfl) (by kernel_rfl) (by kernel_rfl) (allOb_cons ?_ (allOb_cons ?_ (allOb_cons ?_ (allOb_cons ?_ (allOb_cons ?_ (allOb_cons ?_ (allOb_cons ?_ (allOb_cons ?_ (allOb_cons ?_ (allOb_cons ?_ allOb_nil)))))))))) ?_
        · intro g6291 f6292
          intro R w6319 M6320
          refine W_lit (E := Gx.encI) ([] : List Int) 0 [] 3 M6320 (by kernel_rfl) (by kernel_rfl) (by kernel_rfl) (by kernel_rfl) (by kernel_rfl) ?_
          intro p6294 c6295 sg6296 w6321 ho6297 M6322
          exact W_nil (ob_end (.slice p6294 ([] : List Int).length c6295) sg6296 rfl (by kernel_rfl) ⟨p6294, c6295, rfl, ho6297⟩ (Mem.mid M6322))
        · intro g6291 f6292
          intro R w6323 M6324
          refine W_run 1 [(81, .slice p5758 s5743.2.1.length c5759)] w6323 (by kernel_rfl) ?_
          exact W_nil (ob_end (.slice p5758 s5743.2.1.length c5759) [] rfl (by kernel_rfl) ⟨by kernel_rfl, rfl⟩ M6324)
        · intro g6291 f6292
          intro R w6327 M6328
          refine W_run 1 [(82, .int .i64 out6133)] w6327 (by kernel_rfl) ?_
          exact W_nil (ob_end (.int .i64 out6133) [] rfl (by kernel_rfl) ⟨by kernel_rfl, rfl⟩ M6328)
        · intro g6291 f6292
          intro v1_ hb1_
          obtain ⟨rfl, _⟩ := hb1_
          intro v2_ hb2_
          obtain ⟨rfl, _⟩ := hb2_
          intro R w6331 M6332
          refine W_val (.slice (subP p5758 (0 : Int).toNat c5759 1) ys6298.length (c5759 - (0 : Int).toNat)) w6331 (by kernel_rfl) (E_slice (E := Gx.encI) _ _ _ _ s5743.2.1.length 0 out6133 rfl (by kernel_rfl) (Or.inl ⟨rfl, rfl⟩) (Or.inr ⟨_, rfl, by kernel_rfl⟩) (by kernel_rfl) (ho5761.rd M6332 1 (by kernel_rfl)) rfl hys6298) ?_
          exact W_nil (ob_end (.slice (subP p5758 (0 : Int).toNat c5759 1) ys6298.length (c5759 - (0 : Int).toNat)) [] rfl (by kernel_rfl) ⟨by kernel_rfl, rfl⟩ M6332)
        · intro g6291 f6292
          intro v0_ hb0_
          obtain ⟨p6294, c6295, rfl, ho6297⟩ := hb0_
          intro v3_ hb3_
          obtain ⟨rfl, _⟩ := hb3_
          intro R w6335 M6336
          refine W_append (E := Gx.encI) _ _ _ 8 [.int .i64 0] 5 (c5759 - (0 : Int).toNat) M6336 ho6297 (by kernel_rfl) (by kernel_rfl) (by kernel_rfl) rfl (by kernel_rfl) (by kernel_rfl) (by kernel_rfl) (by kernel_rfl) (by kernel_rfl) (by kernel_rfl) ((ho5761.rd M6336 1 (by kernel_rfl)).sliceM hys6298) hap6300 ?_
          intro p6302 c6303 sg6304 w6337 ho6305 M6338
          exact W_nil (ob_end (.slice p6302 ap6300.length c6303) sg6304 rfl (by kernel_rfl) ⟨p6302, c6303, rfl, ho6305⟩ (Mem.takeOver M6338))
        · intro g6291 f6292
          intro R w6339 M6340
          refine W_lit (E := Gx.encI) [1] 1 [.int .i64 1] 3 M6340 (by kernel_rfl) (by kernel_rfl) (by kernel_rfl) (by kernel_rfl) (by kernel_rfl) ?_
          intro p6307 c6308 sg6309 w6341 ho6310 M6342
          exact W_nil (ob_end (.slice p6307 [1].length c6308) sg6309 rfl (by kernel_rfl) ⟨p6307, c6308, rfl, ho6310⟩ (Mem.mid M6342))
        · intro g6291 f6292
          intro v4_ hb4_
          obtain ⟨p6302, c6303, rfl, ho6305⟩ := hb4_
          intro v5_ hb5_
          obtain ⟨p6307, c6308, rfl, ho6310⟩ := hb5_
          intro R w6343 M6344
          refine W_append (E := Gx.encI) _ _ _ 8 [.int .i64 0] 5 c6308 M6344 ho6305 (by kernel_rfl) (by kernel_rfl) (by kernel_rfl) rfl (by kernel_rfl) (by kernel_rfl) (by kernel_rfl) (by kernel_rfl) (by kernel_rfl) (by kernel_rfl) (ho6310.rd M6344 6 (by kernel_rfl)) hap6311 ?_
          intro p6313 c6314 sg6315 w6345 ho6316 M6346
          exact W_nil (ob_end (.slice p6313 ap6311.length c6314) sg6315 rfl (by kernel_rfl) ⟨p6313, c6314, rfl, ho6316⟩ (Mem.takeOver M6346))
        · intro g6291 f6292
          intro R w6347 M6348
          refine W_run 1 [(87, .slice p5758 s5743.2.1.length c5759)] w6347 (by kernel_rfl) ?_
          exact W_nil (ob_end (.slice p5758 s5743.2.1.length c5759) [] rfl (by kernel_rfl) ⟨by kernel_rfl, rfl⟩ M6348)
        · intro g6291 f6292
          intro R w6351 M6352
          refine W_run 1 [(88, .int .i64 out6133)] w6351 (by kernel_rfl) ?_
          exact W_nil (ob_end (.int .i64 out6133) [] rfl (by kernel_rfl) ⟨by kernel_rfl, rfl⟩ M6352)
        · intro g6291 f6292
          intro v7_ hb7_
          obtain ⟨rfl, _⟩ := hb7_
          intro v8_ hb8_
          obtain ⟨rfl, _⟩ := hb8_
          intro R w6355 M6356
          refine W_val (.slice (subP p5758 out6133.toNat c5759 1) ys6317.length (c5759 - out6133.toNat)) w6355 (by kernel_rfl) (E_slice (E := Gx.encI) _ _ _ _ s5743.2.1.length out6133 (s5743.2.1.length : Int) rfl (by kernel_rfl) (Or.inr ⟨_, rfl, by kernel_rfl⟩) (Or.inl ⟨rfl, rfl⟩) (by kernel_rfl) (ho5761.rd M6356 1 (by kernel_rfl)) rfl hys6317) ?_
          exact W_nil (ob_end (.slice (subP p5758 out6133.toNat c5759 1) ys6317.length (c5759 - out6133.toNat)) [] rfl (by kernel_rfl) ⟨by kernel_rfl, rfl⟩ M6356)
        intro g6291 f6292
        intro v5_ hb5_
        obtain ⟨p6307, c6308, rfl, ho6310⟩ := hb5_
        intro v6_ hb6_
        obtain ⟨p6313, c6314, rfl, ho6316⟩ := hb6_
        intro v9_ hb9_
        obtain ⟨rfl, _⟩ := hb9_
        intro w6359 M6360
        have M6361 : Mem [] w w6359 [sg5755, sg5760, (g6191 10), sg6286, (g6291 5), (g6291 6)] := M6360
        obtain ⟨ap6362, hap6362, hm⟩ := gx_bind hm
        refine W_append (E := Gx.encI) _ _ _ 8 [.int .i64 0] 5 (c5759 - out6133.toNat) M6361 ho6316 (by kernel_rfl) (by kernel_rfl) (by kernel_rfl) rfl (by kernel_rfl) (by kernel_rfl) (by kernel_rfl) (by kernel_rfl) (by kernel_rfl) (by kernel_rfl) ((ho5761.rd M6361 1 (by kernel_rfl)).sliceM hys6317) hap6362 ?_
        intro p6363 c6364 sg6365 w6366 ho6367 M6368
        refine W_run 1 [(0, .slice p4507 x4505.length c4508), (5, .slice p6284 ap6283.length c6285), (6, .slice p6363 ap6362.length c6364), (7, .int .i64 s5743.2.2.1)] w6366 (by kernel_rfl) ?_
        refine W_nil ?_
        refine N_block ?_
        obtain rfl := Option.some.inj hm
        exact N_meet fun a ha => ⟨p6284, c6285, sg6286, p6363, c6364, sg6365, sg5760, ho6288, ho6367, ho5761, M6368.pick [3, 5] (by kernel_rfl), ha.sub (by kernel_rfl)⟩
      intro a6372 w6370 ⟨p6070, c6071, sg6072, p6075, c6076, sg6077, sg6080, ho6073, ho6078, ho6081, M6371, hS6373⟩
      refine N_use hS6373 ?_
      have hm := hm6069
      refine N_then ?_
      refine G_region ?_
      refine W_run 3 [(0, .slice p4507 x4505.length c4508), (5, .slice p6070 o6067.1.length c6071), (6, .slice p6075 o6067.2.1.length c6076), (7, .int .i64 (w64 (s5743.2.2.1 + 1)))] w6370 (by kernel_rfl) ?_
      refine W_nil ?_
      obtain rfl := Option.some.inj hm
      exact N_loop fun a ha => ⟨_, rfl, p6070, c6071, sg6072, p6075, c6076, sg6077, sg5763, ho6073, ho6078, ho5764, M6371.pick [0, 1] (by kernel_rfl), ha.sub (by kernel_rfl)⟩
    refine G_cond_f (b := (decide (s5743.2.2.1 < (x4505.length : Int)))) hc5778 (by kernel_rfl) ?_
    refine G_exit ?_
    refine N_then_exit ?_
    refine N_then_exit ?_
    refine N_block_eq ?_
    obtain rfl := Option.some.inj hm
    obtain rfl := hout5745 _ rfl
    exact N_meet fun a ha => ⟨p5753, c5754, sg5755, p5758, c5759, sg5760, sg5763, ho5756, ho5761, ho5764, M5748.pick [0, 1] (by kernel_rfl), ha.sub (by kernel_rfl)⟩
  intro a6374 w6375 ⟨p5766, c5767, sg5768, p5771, c5772, sg5773, sg5776, ho5769, ho5774, ho5777, M6376, hS6377⟩
  refine N_use hS6377 ?_
  have hm := hmo5752
  refine N_then ?_
  refine G_seq ?_
  refine G_region ?_
  refine W_run 5 [(2, .slice p5766 out5750.1.length c5767), (3, .slice p5771 out5750.2.1.length c5772), (4, .bool true)] w6375 (by kernel_rfl) ?_
  refine W_nil ?_
  refine N_then ?_
  refine G_ret ?_
  obtain rfl := Option.some.inj hm
  refine N_ret [.slice p5766 out5750.1.length c5767, .slice p5771 out5750.2.1.length c5772, .bool true] (RVs_cons (RV_tmp (by kernel_rfl)) (RVs_cons (RV_tmp (by kernel_rfl)) (RVs_cons (RV_tmp (by kernel_rfl)) RVs_nil))) ?_
  exact ⟨p5766, c5767, sg5768, p5771, c5772, sg5773, rfl, ho5769, ho5774, M6376.pick [0, 1] (by kernel_rfl)⟩
theorem c_l_rTexts (w : World) (x6393 : List ByteArray) (p6395 : Option Addr) (c6396 : Nat) (h6397 : rdS Gx.encS w x6393 p6395 c6396) (x6398 : List ByteArray) (p6400 : Option Addr) (c6401 : Nat) (h6402 : rdS Gx.encS w x6398 p6400 c6401) {r : Bool} (hm : M.l_rTexts x6393 x6398 = some r) :
    Calls Tryz.prog 20 #[.slice p6395 x6393.length c6396, .slice p6400 x6398.length c6401] w fun e w' => e = .returned (.bool r) ∧ Mem [] w w' [] := by
  unfold M.l_rTexts at hm
  refine C_enter Tryz.func20 rfl (by kernel_rfl) ?_
  have M0 := Mem.refl [] w
  refine G_seq ?_
  refine G_region ?_
  refine W_run 1 [(0, .slice p6395 x6393.length c6396), (1, .slice p6400 x6398.length c6401)] w (by kernel_rfl) ?_
  refine W_nil ?_
  refine N_then ?_
  refine G_seq ?_
  refine G_seq ?_
  refine G_region ?_
  refine W_run 5 [(0, .slice p6395 x6393.length c6396), (1, .slice p6400 x6398.length c6401), (10, .bool ((x6393.length : Int) != (x6398.length : Int)))] w (by kernel_rfl) ?_
  refine W_nil ?_
  refine N_then ?_
  rcases gx_bif hm with ⟨hc6403, hm⟩ | ⟨hc6403, hm⟩
  · refine G_cond_t (b := ((x6393.length : Int) != (x6398.length : Int))) hc6403 (by kernel_rfl) ?_
    refine G_seq ?_
    refine G_region ?_
    refine W_run 1 [(4, .bool false)] w (by kernel_rfl) ?_
    refine W_nil ?_
    refine N_then ?_
    refine G_ret ?_
    refine N_then_ret ?_
    obtain rfl := Option.some.inj hm
    refine N_ret [.bool false] (RVs_cons (RV_tmp (by kernel_rfl)) RVs_nil) ?_
    exact ⟨rfl, M0.pick [] (by kernel_rfl)⟩
  refine G_cond_f (b := ((x6393.length : Int) != (x6398.length : Int))) hc6403 (by kernel_rfl) ?_
  refine G_skip ?_
  refine N_then ?_
  refine G_seq ?_
  refine G_seq ?_
  refine G_region ?_
  refine W_run 1 [(0, .slice p6395 x6393.length c6396), (1, .slice p6400 x6398.length c6401), (5, .int .i64 0)] w (by kernel_rfl) ?_
  refine W_nil ?_
  refine N_then ?_
  obtain ⟨out6423, hw6424, hmo6425⟩ := gx_bind hm
  refine G_meet (fun a w' => ∃ (o6426 : Unit), out6423 = .inl o6426 ∧ Mem [] w w' [] ∧ Sat Tryz.f20.ntmps [] a) ?_ ?_
  · refine G_block ?_
    refine G_while (σ := Int) (ρ := (Unit) ⊕ (Bool)) (fun s6416 a w' => Mem [] w w' [] ∧ Sat Tryz.f20.ntmps [(0, .slice p6395 x6393.length c6396), (1, .slice p6400 x6398.length c6401), (5, .int .i64 s6416)] a) hw6424 (fun a ha => ⟨M0.pick [] (by kernel_rfl), ha.sub (by kernel_rfl)⟩) ?_
    clear hm
    intro s6416 x6417 hm hout6418 a6419 w6420 ⟨M6421, hS6422⟩
    refine G_use hS6422 ?_
    refine G_seq ?_
    refine G_seq ?_
    refine G_region ?_
    refine W_run 4 [(0, .slice p6395 x6393.length c6396), (1, .slice p6400 x6398.length c6401), (5, .int .i64 s6416), (14, .bool (decide (s6416 < (x6393.length : Int))))] w6420 (by kernel_rfl) ?_
    refine W_nil ?_
    refine N_then ?_
    rcases gx_bif hm with ⟨hc6427, hm⟩ | ⟨hc6427, hm⟩
    · refine G_cond_t (b := (decide (s6416 < (x6393.length : Int)))) hc6427 (by kernel_rfl) ?_
      refine G_skip ?_
      refine N_then ?_
      refine G_seq ?_
      refine G_block ?_
      refine G_seq ?_
      refine G_quiet (by kernel_rfl) (by kernel_rfl) M6421 ?_
      refine Z_runs [.slice p6395 x6393.length c6396, .int .i64 s6416] [(0, .slice p6395 x6393.length c6396), (1, .slice p6400 x6398.length c6401), (5, .int .i64 s6416), (17, .slice p6395 x6393.length c6396), (18, .int .i64 s6416)] (fun w_ => by kernel_rfl) (by kernel_rfl) ?_
      obtain ⟨y6428, hy6428, hm⟩ := gx_bind hm
      refine Z_val (elemP p6395 (s6416.toNat * 1)) (by kernel_rfl) (fun w_ M_ => (E_index (E := Gx.encS) _ _ _ x6393.length c6396 .i64 s6416 1 (y := y6428) rfl (by kernel_rfl) (by kernel_rfl) (by kernel_rfl) (h6397.mem0 M_) rfl hy6428)) ?_
      refine Z_val (.string y6428) (by kernel_rfl) (fun w_ M_ => (E_loadE (E := Gx.encS) _ _ false 1 s6416 0 (s6416.toNat * 1) y6428 (.string y6428) rfl (by kernel_rfl) (by kernel_rfl) (by kernel_rfl) (h6397.mem0 M_) hy6428 rfl)) ?_
      refine Z_runs [.slice p6400 x6398.length c6401, .int .i64 s6416] [(0, .slice p6395 x6393.length c6396), (1, .slice p6400 x6398.length c6401), (5, .int .i64 s6416), (20, .string y6428), (21, .slice p6400 x6398.length c6401), (22, .int .i64 s6416)] (fun w_ => by kernel_rfl) (by kernel_rfl) ?_
      obtain ⟨y6429, hy6429, hm⟩ := gx_bind hm
      refine Z_val (elemP p6400 (s6416.toNat * 1)) (by kernel_rfl) (fun w_ M_ => (E_index (E := Gx.encS) _ _ _ x6398.length c6401 .i64 s6416 1 (y := y6429) rfl (by kernel_rfl) (by kernel_rfl) (by kernel_rfl) (h6402.mem0 M_) rfl hy6429)) ?_
      refine Z_val (.string y6429) (by kernel_rfl) (fun w_ M_ => (E_loadE (E := Gx.encS) _ _ false 1 s6416 0 (s6416.toNat * 1) y6429 (.string y6429) rfl (by kernel_rfl) (by kernel_rfl) (by kernel_rfl) (h6402.mem0 M_) hy6429 rfl)) ?_
      refine Z_runs [.bool (!(y6428.toList == y6429.toList))] [(0, .slice p6395 x6393.length c6396), (1, .slice p6400 x6398.length c6401), (5, .int .i64 s6416), (25, .bool (!(y6428.toList == y6429.toList)))] (fun w_ => by kernel_rfl) (by kernel_rfl) ?_
      refine Z_end fun w6430 M6431 => ?_
      refine N_then ?_
      rcases gx_bif hm with ⟨hc6432, hm⟩ | ⟨hc6432, hm⟩
      · refine G_cond_t (b := (!(y6428.toList == y6429.toList))) hc6432 (by kernel_rfl) ?_
        refine G_seq ?_
        refine G_region ?_
        refine W_run 1 [(4, .bool false)] w6430 (by kernel_rfl) ?_
        refine W_nil ?_
        refine N_then ?_
        refine G_ret ?_
        refine N_block_ret ?_
        refine N_then_ret ?_
        refine N_then_ret ?_
        obtain rfl := Option.some.inj hm
        obtain rfl := hout6418 _ rfl
        have hm := hmo6425; simp only [Sum.elim_inr] at hm
        refine N_block_ret ?_
        refine N_meet_ret ?_
        refine N_then_ret ?_
        obtain rfl := Option.some.inj hm
        refine N_ret [.bool false] (RVs_cons (RV_tmp (by kernel_rfl)) RVs_nil) ?_
        exact ⟨rfl, M6431.pick [] (by kernel_rfl)⟩
      refine G_cond_f (b := (!(y6428.toList == y6429.toList))) hc6432 (by kernel_rfl) ?_
      refine G_skip ?_
      refine N_block ?_
      refine N_then ?_
      refine G_region ?_
      refine W_run 3 [(0, .slice p6395 x6393.length c6396), (1, .slice p6400 x6398.length c6401), (5, .int .i64 (w64 (s6416 + 1)))] w6430 (by kernel_rfl) ?_
      refine W_nil ?_
      obtain rfl := Option.some.inj hm
      exact N_loop fun a ha => ⟨_, rfl, M6431.pick [] (by kernel_rfl), ha.sub (by kernel_rfl)⟩
    refine G_cond_f (b := (decide (s6416 < (x6393.length : Int)))) hc6427 (by kernel_rfl) ?_
    refine G_exit ?_
    refine N_then_exit ?_
    refine N_then_exit ?_
    refine N_block_eq ?_
    obtain rfl := Option.some.inj hm
    obtain rfl := hout6418 _ rfl
    exact N_meet fun a ha => ⟨_, rfl, M6421.pick [] (by kernel_rfl), ha.sub (by kernel_rfl)⟩
  intro a6433 w6434 ⟨o6426, hout_, M6435, hS6436⟩
  refine N_use hS6436 ?_
  subst hout_
  have hm := hmo6425; simp only [Sum.elim_inl] at hm
  refine N_then ?_
  refine G_seq ?_
  refine G_region ?_
  refine W_run 1 [(4, .bool true)] w6434 (by kernel_rfl) ?_
  refine W_nil ?_
  refine N_then ?_
  refine G_ret ?_
  obtain rfl := Option.some.inj hm
  refine N_ret [.bool true] (RVs_cons (RV_tmp (by kernel_rfl)) RVs_nil) ?_
  exact ⟨rfl, M6435.pick [] (by kernel_rfl)⟩
theorem c_l_rInts (w : World) (x6442 : List Int) (p6444 : Option Addr) (c6445 : Nat) (h6446 : rdS Gx.encI w x6442 p6444 c6445) (x6447 : List Int) (p6449 : Option Addr) (c6450 : Nat) (h6451 : rdS Gx.encI w x6447 p6449 c6450) {r : Bool} (hm : M.l_rInts x6442 x6447 = some r) :
    Calls Tryz.prog 21 #[.slice p6444 x6442.length c6445, .slice p6449 x6447.length c6450] w fun e w' => e = .returned (.bool r) ∧ Mem [] w w' [] := by
  unfold M.l_rInts at hm
  refine C_enter Tryz.func21 rfl (by kernel_rfl) ?_
  have M0 := Mem.refl [] w
  refine G_seq ?_
  refine G_region ?_
  refine W_run 1 [(0, .slice p6444 x6442.length c6445), (1, .slice p6449 x6447.length c6450)] w (by kernel_rfl) ?_
  refine W_nil ?_
  refine N_then ?_
  refine G_seq ?_
  refine G_seq ?_
  refine G_region ?_
  refine W_run 5 [(0, .slice p6444 x6442.length c6445), (1, .slice p6449 x6447.length c6450), (10, .bool ((x6442.length : Int) != (x6447.length : Int)))] w (by kernel_rfl) ?_
  refine W_nil ?_
  refine N_then ?_
  rcases gx_bif hm with ⟨hc6452, hm⟩ | ⟨hc6452, hm⟩
  · refine G_cond_t (b := ((x6442.length : Int) != (x6447.length : Int))) hc6452 (by kernel_rfl) ?_
    refine G_seq ?_
    refine G_region ?_
    refine W_run 1 [(4, .bool false)] w (by kernel_rfl) ?_
    refine W_nil ?_
    refine N_then ?_
    refine G_ret ?_
    refine N_then_ret ?_
    obtain rfl := Option.some.inj hm
    refine N_ret [.bool false] (RVs_cons (RV_tmp (by kernel_rfl)) RVs_nil) ?_
    exact ⟨rfl, M0.pick [] (by kernel_rfl)⟩
  refine G_cond_f (b := ((x6442.length : Int) != (x6447.length : Int))) hc6452 (by kernel_rfl) ?_
  refine G_skip ?_
  refine N_then ?_
  refine G_seq ?_
  refine G_seq ?_
  refine G_region ?_
  refine W_run 1 [(0, .slice p6444 x6442.length c6445), (1, .slice p6449 x6447.length c6450), (5, .int .i64 0)] w (by kernel_rfl) ?_
  refine W_nil ?_
  refine N_then ?_
  obtain ⟨out6472, hw6473, hmo6474⟩ := gx_bind hm
  refine G_meet (fun a w' => ∃ (o6475 : Unit), out6472 = .inl o6475 ∧ Mem [] w w' [] ∧ Sat Tryz.f21.ntmps [] a) ?_ ?_
  · refine G_block ?_
    refine G_while (σ := Int) (ρ := (Unit) ⊕ (Bool)) (fun s6465 a w' => Mem [] w w' [] ∧ Sat Tryz.f21.ntmps [(0, .slice p6444 x6442.length c6445), (1, .slice p6449 x6447.length c6450), (5, .int .i64 s6465)] a) hw6473 (fun a ha => ⟨M0.pick [] (by kernel_rfl), ha.sub (by kernel_rfl)⟩) ?_
    clear hm
    intro s6465 x6466 hm hout6467 a6468 w6469 ⟨M6470, hS6471⟩
    refine G_use hS6471 ?_
    refine G_seq ?_
    refine G_seq ?_
    refine G_region ?_
    refine W_run 4 [(0, .slice p6444 x6442.length c6445), (1, .slice p6449 x6447.length c6450), (5, .int .i64 s6465), (14, .bool (decide (s6465 < (x6442.length : Int))))] w6469 (by kernel_rfl) ?_
    refine W_nil ?_
    refine N_then ?_
    rcases gx_bif hm with ⟨hc6476, hm⟩ | ⟨hc6476, hm⟩
    · refine G_cond_t (b := (decide (s6465 < (x6442.length : Int)))) hc6476 (by kernel_rfl) ?_
      refine G_skip ?_
      refine N_then ?_
      refine G_seq ?_
      refine G_block ?_
      refine G_seq ?_
      refine G_quiet (by kernel_rfl) (by kernel_rfl) M6470 ?_
      refine Z_runs [.slice p6444 x6442.length c6445, .int .i64 s6465] [(0, .slice p6444 x6442.length c6445), (1, .slice p6449 x6447.length c6450), (5, .int .i64 s6465), (17, .slice p6444 x6442.length c6445), (18, .int .i64 s6465)] (fun w_ => by kernel_rfl) (by kernel_rfl) ?_
      obtain ⟨y6477, hy6477, hm⟩ := gx_bind hm
      refine Z_val (elemP p6444 (s6465.toNat * 1)) (by kernel_rfl) (fun w_ M_ => (E_index (E := Gx.encI) _ _ _ x6442.length c6445 .i64 s6465 1 (y := y6477) rfl (by kernel_rfl) (by kernel_rfl) (by kernel_rfl) (h6446.mem0 M_) rfl hy6477)) ?_
      refine Z_val (.int .i64 y6477) (by kernel_rfl) (fun w_ M_ => (E_loadE (E := Gx.encI) _ _ false 1 s6465 0 (s6465.toNat * 1) y6477 (.int .i64 y6477) rfl (by kernel_rfl) (by kernel_rfl) (by kernel_rfl) (h6446.mem0 M_) hy6477 rfl)) ?_
      refine Z_runs [.slice p6449 x6447.length c6450, .int .i64 s6465] [(0, .slice p6444 x6442.length c6445), (1, .slice p6449 x6447.length c6450), (5, .int .i64 s6465), (20, .int .i64 y6477), (21, .slice p6449 x6447.length c6450), (22, .int .i64 s6465)] (fun w_ => by kernel_rfl) (by kernel_rfl) ?_
      obtain ⟨y6478, hy6478, hm⟩ := gx_bind hm
      refine Z_val (elemP p6449 (s6465.toNat * 1)) (by kernel_rfl) (fun w_ M_ => (E_index (E := Gx.encI) _ _ _ x6447.length c6450 .i64 s6465 1 (y := y6478) rfl (by kernel_rfl) (by kernel_rfl) (by kernel_rfl) (h6451.mem0 M_) rfl hy6478)) ?_
      refine Z_val (.int .i64 y6478) (by kernel_rfl) (fun w_ M_ => (E_loadE (E := Gx.encI) _ _ false 1 s6465 0 (s6465.toNat * 1) y6478 (.int .i64 y6478) rfl (by kernel_rfl) (by kernel_rfl) (by kernel_rfl) (h6451.mem0 M_) hy6478 rfl)) ?_
      refine Z_runs [.bool (y6477 != y6478)] [(0, .slice p6444 x6442.length c6445), (1, .slice p6449 x6447.length c6450), (5, .int .i64 s6465), (25, .bool (y6477 != y6478))] (fun w_ => by kernel_rfl) (by kernel_rfl) ?_
      refine Z_end fun w6479 M6480 => ?_
      refine N_then ?_
      rcases gx_bif hm with ⟨hc6481, hm⟩ | ⟨hc6481, hm⟩
      · refine G_cond_t (b := (y6477 != y6478)) hc6481 (by kernel_rfl) ?_
        refine G_seq ?_
        refine G_region ?_
        refine W_run 1 [(4, .bool false)] w6479 (by kernel_rfl) ?_
        refine W_nil ?_
        refine N_then ?_
        refine G_ret ?_
        refine N_block_ret ?_
        refine N_then_ret ?_
        refine N_then_ret ?_
        obtain rfl := Option.some.inj hm
        obtain rfl := hout6467 _ rfl
        have hm := hmo6474; simp only [Sum.elim_inr] at hm
        refine N_block_ret ?_
        refine N_meet_ret ?_
        refine N_then_ret ?_
        obtain rfl := Option.some.inj hm
        refine N_ret [.bool false] (RVs_cons (RV_tmp (by kernel_rfl)) RVs_nil) ?_
        exact ⟨rfl, M6480.pick [] (by kernel_rfl)⟩
      refine G_cond_f (b := (y6477 != y6478)) hc6481 (by kernel_rfl) ?_
      refine G_skip ?_
      refine N_block ?_
      refine N_then ?_
      refine G_region ?_
      refine W_run 3 [(0, .slice p6444 x6442.length c6445), (1, .slice p6449 x6447.length c6450), (5, .int .i64 (w64 (s6465 + 1)))] w6479 (by kernel_rfl) ?_
      refine W_nil ?_
      obtain rfl := Option.some.inj hm
      exact N_loop fun a ha => ⟨_, rfl, M6480.pick [] (by kernel_rfl), ha.sub (by kernel_rfl)⟩
    refine G_cond_f (b := (decide (s6465 < (x6442.length : Int)))) hc6476 (by kernel_rfl) ?_
    refine G_exit ?_
    refine N_then_exit ?_
    refine N_then_exit ?_
    refine N_block_eq ?_
    obtain rfl := Option.some.inj hm
    obtain rfl := hout6467 _ rfl
    exact N_meet fun a ha => ⟨_, rfl, M6470.pick [] (by kernel_rfl), ha.sub (by kernel_rfl)⟩
  intro a6482 w6483 ⟨o6475, hout_, M6484, hS6485⟩
  refine N_use hS6485 ?_
  subst hout_
  have hm := hmo6474; simp only [Sum.elim_inl] at hm
  refine N_then ?_
  refine G_seq ?_
  refine G_region ?_
  refine W_run 1 [(4, .bool true)] w6483 (by kernel_rfl) ?_
  refine W_nil ?_
  refine N_then ?_
  refine G_ret ?_
  obtain rfl := Option.some.inj hm
  refine N_ret [.bool true] (RVs_cons (RV_tmp (by kernel_rfl)) RVs_nil) ?_
  exact ⟨rfl, M6484.pick [] (by kernel_rfl)⟩
end Go.Proofs.YtimffallbjpcjaaGreatDoor
