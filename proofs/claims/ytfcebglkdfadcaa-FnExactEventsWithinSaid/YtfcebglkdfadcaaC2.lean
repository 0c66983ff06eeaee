/- The walks, printed by program: whenever the model gives r, the call returns r. Part 2. -/
import Derived.Test.YtfcebglkdfadcaaM
import Derived.Test.YtfcebglkdfadcaaProg
import Derived.Test.YtfcebglkdfadcaaC1
set_option linter.unusedVariables false
set_option maxRecDepth 100000
set_option maxHeartbeats 4000000
namespace Go.Proofs.Ytfcebglkdfadcaa
open Go.Gx
theorem c_slices_DeleteFunc_81__i_eventsWhere_1__i_EventsOf_1 (w : World) (x1839 : List Event) (p1841 : Option Addr) (c1842 : Nat) (sg1843 : Seg) (ho1844 : ownS encEvent x1839 p1841 c1842 sg1843) (x1845 : Int) (b1846 : Nat) (hb1847 : w.heap[b1846]? = some (.cells ⟨[.int .i64 x1845]⟩ 3 (0, 0))) (b1850 : Nat) (hb1851 : w.heap[b1850]? = some (.cells ⟨[.func (.func 63) #[] #[.pointer (some ⟨b1846, 0, none⟩)]]⟩ 25 (0, 0))) (hA : ∀ q ∈ List.flatten [sg1843], w.heap[q.1]? = some q.2) (hN : (idsOf [sg1843]).Nodup) (nf1849 : b1846 ∉ (idsOf [sg1843])) (nf1853 : b1850 ∉ (idsOf [sg1843])) {r : (List Event) × (List Event)} (hm : M.slices_DeleteFunc_81__i_eventsWhere_1__i_EventsOf_1 x1839 x1845 = some r) :
    Calls Try.prog 81 #[.slice p1841 x1839.length c1842, .func (.func 82) #[] #[.pointer (some ⟨b1850, 0, none⟩)]] w fun e w' => ∃ (sg1854 : Seg), ∃ (p1856 : Option Addr) (c1857 : Nat), e = .returned (.slice p1856 r.1.length c1857) ∧ ownS encEvent r.2 p1841 c1842 sg1854 ∧ r.2.length = x1839.length ∧ viewS 4 r.2 p1841 c1842 p1856 c1857 r.1 ∧ Mem (idsOf [sg1843]) w w' [sg1854] := by
  unfold M.slices_DeleteFunc_81__i_eventsWhere_1__i_EventsOf_1 at hm
  refine C_enter Try.func81 rfl (by kernel_rfl) ?_
  have M0 := Mem.start' w [sg1843] hA hN
  refine G_seq ?_
  refine G_region ?_
  refine W_run 1 [(0, .slice p1841 x1839.length c1842), (1, .func (.func 82) #[] #[.pointer (some ⟨b1850, 0, none⟩)])] w (by kernel_rfl) ?_
  refine W_nil ?_
  refine N_then ?_
  refine G_seq ?_
  refine G_region ?_
  refine W_run 2 [(0, .slice p1841 x1839.length c1842), (1, .func (.func 82) #[] #[.pointer (some ⟨b1850, 0, none⟩)]), (8, .slice p1841 x1839.length c1842), (9, .func (.func 82) #[] #[.pointer (some ⟨b1850, 0, none⟩)])] w (by kernel_rfl) ?_
  obtain ⟨r1859, hr1859, hm⟩ := gx_bind hm
  refine W_call 59 #[.slice p1841 x1839.length c1842, .func (.func 82) #[] #[.pointer (some ⟨b1850, 0, none⟩)]] (by kernel_rfl) (by kernel_rfl) ?_
  refine (c_slices_IndexFunc_59__i_eventsWhere_1__i_EventsOf_1 w x1839 p1841 c1842 (ho1844.rd M0 0 (by kernel_rfl)) x1845 b1846 (M0.roX hb1847 nf1849) b1850 (M0.roX hb1851 nf1853) hr1859).mono ?_
  rintro e_ w1860 ⟨rfl, K1861⟩
  have M1862 := M0.call0 K1861
  refine ⟨_, rfl, ?_⟩
  refine W_run 1 [(0, .slice p1841 x1839.length c1842), (1, .func (.func 82) #[] #[.pointer (some ⟨b1850, 0, none⟩)]), (5, .int .i64 r1859)] w1860 (by kernel_rfl) ?_
  refine W_nil ?_
  refine N_then ?_
  refine G_seq ?_
  refine G_seq ?_
  refine G_region ?_
  refine W_run 2 [(0, .slice p1841 x1839.length c1842), (1, .func (.func 82) #[] #[.pointer (some ⟨b1850, 0, none⟩)]), (5, .int .i64 r1859), (12, .bool (r1859 == (-1)))] w1860 (by kernel_rfl) ?_
  refine W_nil ?_
  refine N_then ?_
  rcases gx_bif hm with ⟨hc1863, hm⟩ | ⟨hc1863, hm⟩
  · refine G_cond_t (b := (r1859 == (-1))) hc1863 (by kernel_rfl) ?_
    refine G_seq ?_
    refine G_region ?_
    refine W_run 2 [(4, .slice p1841 x1839.length c1842)] w1860 (by kernel_rfl) ?_
    refine W_nil ?_
    refine N_then ?_
    refine G_ret ?_
    refine N_then_ret ?_
    obtain rfl := Option.some.inj hm
    refine N_ret [.slice p1841 x1839.length c1842] (RVs_cons (RV_tmp (by kernel_rfl)) RVs_nil) ?_
    exact ⟨sg1843, p1841, c1842, rfl, ho1844, rfl, (viewS_self ho1844), M1862.pick [0] (by kernel_rfl)⟩
  · refine G_cond_f (b := (r1859 == (-1))) hc1863 (by kernel_rfl) ?_
    refine G_skip ?_
    refine N_then ?_
    refine G_seq ?_
    refine G_seq ?_
    refine G_region ?_
    refine W_run 3 [(0, .slice p1841 x1839.length c1842), (1, .func (.func 82) #[] #[.pointer (some ⟨b1850, 0, none⟩)]), (5, .int .i64 r1859), (6, .int .i64 (w64 (r1859 + 1)))] w1860 (by kernel_rfl) ?_
    refine W_nil ?_
    refine N_then ?_
    obtain ⟨out1942, hw1943, hmo1944⟩ := gx_bind hm
    refine G_meet (fun a w' => ∃ (sg1949 : Seg), ownS encEvent out1942.2 p1841 c1842 sg1949 ∧ out1942.2.length = x1839.length ∧ Mem (idsOf [sg1843]) w w' [sg1949] ∧ Sat Try.f81.ntmps [(0, .slice p1841 out1942.2.length c1842), (5, .int .i64 out1942.1)] a) ?_ ?_
    · refine G_block ?_
      refine G_while (σ := Int × Int × List Event) (ρ := Int × List Event) (fun s1935 a w' => ∃ (sg1945 : Seg), ownS encEvent s1935.2.2 p1841 c1842 sg1945 ∧ s1935.2.2.length = x1839.length ∧ Mem (idsOf [sg1843]) w w' [sg1945] ∧ Sat Try.f81.ntmps [(0, .slice p1841 s1935.2.2.length c1842), (1, .func (.func 82) #[] #[.pointer (some ⟨b1850, 0, none⟩)]), (5, .int .i64 s1935.1), (6, .int .i64 s1935.2.1)] a) hw1943 (fun a ha => ⟨sg1843, ho1844, rfl, M1862.pick [0] (by kernel_rfl), ha.sub (by kernel_rfl)⟩) ?_
      clear hm
      intro s1935 x1936 hm hout1937 a1938 w1939 ⟨sg1945, ho1946, hl1947, M1940, hS1941⟩
      refine G_use hS1941 ?_
      refine G_seq ?_
      refine G_seq ?_
      refine G_region ?_
      refine W_run 4 [(0, .slice p1841 s1935.2.2.length c1842), (1, .func (.func 82) #[] #[.pointer (some ⟨b1850, 0, none⟩)]), (5, .int .i64 s1935.1), (6, .int .i64 s1935.2.1), (19, .bool (decide (s1935.2.1 < (s1935.2.2.length : Int))))] w1939 (by kernel_rfl) ?_
      refine W_nil ?_
      refine N_then ?_
      rcases gx_bif hm with ⟨hc1952, hm⟩ | ⟨hc1952, hm⟩
      · refine G_cond_t (b := (decide (s1935.2.1 < (s1935.2.2.length : Int)))) hc1952 (by kernel_rfl) ?_
        refine G_skip ?_
        refine N_then ?_
        refine G_seq ?_
        refine G_block ?_
        refine G_seq ?_
        refine G_region ?_
        refine W_run 2 [(0, .slice p1841 s1935.2.2.length c1842), (1, .func (.func 82) #[] #[.pointer (some ⟨b1850, 0, none⟩)]), (5, .int .i64 s1935.1), (6, .int .i64 s1935.2.1), (22, .slice p1841 s1935.2.2.length c1842), (23, .int .i64 s1935.2.1)] w1939 (by kernel_rfl) ?_
        obtain ⟨y1953, hy1953, hm⟩ := gx_bind hm
        refine W_val (elemP p1841 (s1935.2.1.toNat * 4)) w1939 (by kernel_rfl) (E_index (E := encEvent) _ _ _ s1935.2.2.length c1842 .i64 s1935.2.1 4 (y := y1953) rfl (by kernel_rfl) (by kernel_rfl) (by kernel_rfl) (ho1946.rd M1940 0 (by kernel_rfl)) rfl hy1953) ?_
        refine W_val (.agg #[.int .i64 y1953.Tick, .int .i64 y1953.Guest, .string y1953.Kind, .int .i64 y1953.Value]) w1939 (by kernel_rfl) (E_loadE (E := encEvent) _ _ true 4 s1935.2.1 0 (s1935.2.1.toNat * 4) y1953 (.agg #[.int .i64 y1953.Tick, .int .i64 y1953.Guest, .string y1953.Kind, .int .i64 y1953.Value]) rfl (by kernel_rfl) (by kernel_rfl) (by kernel_rfl) (ho1946.rd M1940 0 (by kernel_rfl)) hy1953 rfl) ?_
        refine W_new (fun b => .pointer (some ⟨b, 0, none⟩)) (.cells ⟨[.int .i64 0, .int .i64 0, .string ByteArray.empty, .int .i64 0]⟩ 26 (0, 0)) M1940 rfl (by kernel_rfl) (by kernel_rfl) ?_
        intro b1955 w1956 M1957
        refine W_store _ _ _ true 4 b1955 0 [.int .i64 0, .int .i64 0, .string ByteArray.empty, .int .i64 0] 26 (.agg #[.int .i64 y1953.Tick, .int .i64 y1953.Guest, .string y1953.Kind, .int .i64 y1953.Value]) 1 [.int .i64 y1953.Tick, .int .i64 y1953.Guest, .string y1953.Kind, .int .i64 y1953.Value] M1957 (by kernel_rfl) rfl (by kernel_rfl) (by kernel_rfl) (by kernel_rfl) (by kernel_rfl) (by kernel_rfl) (by kernel_rfl) (by kernel_rfl) (by kernel_rfl) ?_
        intro w1958 M1959
        refine W_nil ?_
        refine N_then ?_
        refine G_seq ?_
        refine G_region ?_
        refine W_run 1 [(0, .slice p1841 s1935.2.2.length c1842), (1, .func (.func 82) #[] #[.pointer (some ⟨b1850, 0, none⟩)]), (5, .int .i64 s1935.1), (6, .int .i64 s1935.2.1), (7, .pointer (some ⟨b1955, 0, none⟩)), (26, .func (.func 82) #[] #[.pointer (some ⟨b1850, 0, none⟩)])] w1958 (by kernel_rfl) ?_
        refine W_val (.agg #[.int .i64 y1953.Tick, .int .i64 y1953.Guest, .string y1953.Kind, .int .i64 y1953.Value]) w1958 (by kernel_rfl) (E_load (e := 26) (fr := (0, 0)) _ _ true 4 b1955 0 [.int .i64 y1953.Tick, .int .i64 y1953.Guest, .string y1953.Kind, .int .i64 y1953.Value] (.agg #[.int .i64 y1953.Tick, .int .i64 y1953.Guest, .string y1953.Kind, .int .i64 y1953.Value]) rfl (by kernel_rfl) (by kernel_rfl) (by kernel_rfl) (M1959.blk 1 (b := b1955) (o := .cells ⟨[.int .i64 y1953.Tick, .int .i64 y1953.Guest, .string y1953.Kind, .int .i64 y1953.Value]⟩ 26 (0, 0)) (by kernel_rfl))) ?_
        obtain ⟨r1960, hr1960, hm⟩ := gx_bind hm
        refine W_call 82 #[.agg #[.int .i64 y1953.Tick, .int .i64 y1953.Guest, .string y1953.Kind, .int .i64 y1953.Value], .pointer (some ⟨b1850, 0, none⟩)] (by kernel_rfl) (by kernel_rfl) ?_
        refine (c_i_eventsWhere_1__i_EventsOf_1 w1958 y1953 x1845 b1846 (M1959.roX hb1847 nf1849) b1850 (M1959.roX hb1851 nf1853) hr1960).mono ?_
        rintro e_ w1961 ⟨rfl, K1962⟩
        have M1963 := M1959.call0 K1962
        refine ⟨_, rfl, ?_⟩
        refine W_run 1 [(0, .slice p1841 s1935.2.2.length c1842), (1, .func (.func 82) #[] #[.pointer (some ⟨b1850, 0, none⟩)]), (5, .int .i64 s1935.1), (6, .int .i64 s1935.2.1), (7, .pointer (some ⟨b1955, 0, none⟩)), (29, .bool (!r1960))] w1961 (by kernel_rfl) ?_
        refine W_nil ?_
        refine N_then ?_
        obtain ⟨o1970, ho1971, hm1972⟩ := gx_bind hm
        refine G_meet (fun a w' => ∃ (sg1973 : Seg), ownS encEvent o1970.2 p1841 c1842 sg1973 ∧ o1970.2.length = x1839.length ∧ Mem (idsOf [sg1843]) w w' [sg1973] ∧ Sat Try.f81.ntmps [(0, .slice p1841 o1970.2.length c1842), (1, .func (.func 82) #[] #[.pointer (some ⟨b1850, 0, none⟩)]), (5, .int .i64 o1970.1), (6, .int .i64 s1935.2.1)] a) ?_ ?_
        · have hm := ho1971
          rcases gx_bif hm with ⟨hc1976, hm⟩ | ⟨hc1976, hm⟩
          · refine G_cond_t (b := (!r1960)) hc1976 (by kernel_rfl) ?_
            refine G_seq ?_
            refine G_region ?_
            refine W_run 2 [(0, .slice p1841 s1935.2.2.length c1842), (1, .func (.func 82) #[] #[.pointer (some ⟨b1850, 0, none⟩)]), (5, .int .i64 s1935.1), (6, .int .i64 s1935.2.1), (7, .pointer (some ⟨b1955, 0, none⟩)), (30, .slice p1841 s1935.2.2.length c1842), (31, .int .i64 s1935.1)] w1961 (by kernel_rfl) ?_
            refine W_val (.agg #[.int .i64 y1953.Tick, .int .i64 y1953.Guest, .string y1953.Kind, .int .i64 y1953.Value]) w1961 (by kernel_rfl) (E_load (e := 26) (fr := (0, 0)) _ _ true 4 b1955 0 [.int .i64 y1953.Tick, .int .i64 y1953.Guest, .string y1953.Kind, .int .i64 y1953.Value] (.agg #[.int .i64 y1953.Tick, .int .i64 y1953.Guest, .string y1953.Kind, .int .i64 y1953.Value]) rfl (by kernel_rfl) (by kernel_rfl) (by kernel_rfl) (M1963.blk 1 (b := b1955) (o := .cells ⟨[.int .i64 y1953.Tick, .int .i64 y1953.Guest, .string y1953.Kind, .int .i64 y1953.Value]⟩ 26 (0, 0)) (by kernel_rfl))) ?_
            obtain ⟨y1977, hy1977, hm⟩ := gx_bind hm
            refine W_val (elemP p1841 (s1935.1.toNat * 4)) w1961 (by kernel_rfl) (E_index (E := encEvent) _ _ _ s1935.2.2.length c1842 .i64 s1935.1 4 (y := y1977) rfl (by kernel_rfl) (by kernel_rfl) (by kernel_rfl) (ho1946.rd M1963 0 (by kernel_rfl)) rfl hy1977) ?_
            refine W_storeE (E := encEvent) _ _ _ true 4 s1935.1.toNat 0 (s1935.1.toNat * 4) y1977 y1953 (.agg #[.int .i64 y1953.Tick, .int .i64 y1953.Guest, .string y1953.Kind, .int .i64 y1953.Value]) 0 M1963 ho1946 (by kernel_rfl) (by kernel_rfl) rfl (by kernel_rfl) (by kernel_rfl) (by kernel_rfl) (by kernel_rfl) (by kernel_rfl) (by kernel_rfl) (by kernel_rfl) (gxIdx_spec hy1977).2 rfl ?_
            intro w1978 sg1980 ho1981 M1979
            refine W_conv 0 (.slice p1841 s1935.2.2.length c1842) (.slice p1841 (s1935.2.2.set s1935.1.toNat y1953).length c1842) (by kernel_rfl) (by rw [@List.length_set _ s1935.2.2 s1935.1.toNat y1953]) ?_
            refine W_conv 30 (.slice p1841 s1935.2.2.length c1842) (.slice p1841 (s1935.2.2.set s1935.1.toNat y1953).length c1842) (by kernel_rfl) (by rw [@List.length_set _ s1935.2.2 s1935.1.toNat y1953]) ?_
            refine W_nil ?_
            refine N_then ?_
            refine G_region ?_
            refine W_run 3 [(0, .slice p1841 (s1935.2.2.set s1935.1.toNat y1953).length c1842), (1, .func (.func 82) #[] #[.pointer (some ⟨b1850, 0, none⟩)]), (5, .int .i64 (w64 (s1935.1 + 1))), (6, .int .i64 s1935.2.1)] w1978 (by kernel_rfl) ?_
            refine W_nil ?_
            obtain rfl := Option.some.inj hm
            exact N_meet fun a ha => ⟨sg1980, ho1981, (List.length_set.trans hl1947), M1979.pick [0] (by kernel_rfl), ha.sub (by kernel_rfl)⟩
          · refine G_cond_f (b := (!r1960)) hc1976 (by kernel_rfl) ?_
            refine G_skip ?_
            obtain rfl := Option.some.inj hm
            exact N_meet fun a ha => ⟨sg1945, ho1946, hl1947, M1963.pick [0] (by kernel_rfl), ha.sub (by kernel_rfl)⟩
        · intro a1984 w1982 ⟨sg1973, ho1974, hl1975, M1983, hS1985⟩
          refine N_use hS1985 ?_
          have hm := hm1972
          refine N_block ?_
          refine N_then ?_
          refine G_region ?_
          refine W_run 3 [(0, .slice p1841 o1970.2.length c1842), (1, .func (.func 82) #[] #[.pointer (some ⟨b1850, 0, none⟩)]), (5, .int .i64 o1970.1), (6, .int .i64 (w64 (s1935.2.1 + 1)))] w1982 (by kernel_rfl) ?_
          refine W_nil ?_
          obtain rfl := Option.some.inj hm
          exact N_loop fun a ha => ⟨_, rfl, sg1973, ho1974, hl1975, M1983.pick [0] (by kernel_rfl), ha.sub (by kernel_rfl)⟩
      · refine G_cond_f (b := (decide (s1935.2.1 < (s1935.2.2.length : Int)))) hc1952 (by kernel_rfl) ?_
        refine G_exit ?_
        refine N_then_exit ?_
        refine N_then_exit ?_
        refine N_block_eq ?_
        obtain rfl := Option.some.inj hm
        obtain rfl := hout1937 _ rfl
        exact N_meet fun a ha => ⟨sg1945, ho1946, hl1947, M1940.pick [0] (by kernel_rfl), ha.sub (by kernel_rfl)⟩
    · intro a1986 w1987 ⟨sg1949, ho1950, hl1951, M1988, hS1989⟩
      refine N_use hS1989 ?_
      have hm := hmo1944
      refine N_then ?_
      refine G_seq ?_
      refine G_region ?_
      refine W_run 2 [(0, .slice p1841 out1942.2.length c1842), (5, .int .i64 out1942.1), (36, .slice p1841 out1942.2.length c1842), (37, .int .i64 out1942.1)] w1987 (by kernel_rfl) ?_
      obtain ⟨ys1990, hys1990, hm⟩ := gx_bind hm
      refine W_val (.slice (subP p1841 out1942.1.toNat c1842 4) ys1990.length (c1842 - out1942.1.toNat)) w1987 (by kernel_rfl) (E_slice (E := encEvent) _ _ _ _ out1942.2.length out1942.1 (out1942.2.length : Int) rfl (by kernel_rfl) (Or.inr ⟨_, rfl, by kernel_rfl⟩) (Or.inl ⟨rfl, rfl⟩) (by kernel_rfl) (ho1950.rd M1988 0 (by kernel_rfl)) rfl hys1990) ?_
      refine W_clear (E := encEvent) _ _ out1942.1 (out1942.2.length : Int) 40 [.int .i64 0, .int .i64 0, .string ByteArray.empty, .int .i64 0] ((⟨0, 0, ByteArray.empty, 0⟩ : Event) : Event) 0 M1988 ho1950 (by kernel_rfl) (by kernel_rfl) (by kernel_rfl) rfl (by kernel_rfl) hys1990 (by kernel_rfl) (by kernel_rfl) ?_
      intro w1992 sg1994 ho1995 M1993
      refine W_conv 0 (.slice p1841 out1942.2.length c1842) (.slice p1841 (gxClear out1942.2 out1942.1 (out1942.2.length : Int) ((⟨0, 0, ByteArray.empty, 0⟩ : Event) : Event)).length c1842) (by kernel_rfl) (by rw [gxClear_len ((⟨0, 0, ByteArray.empty, 0⟩ : Event) : Event) hys1990]) ?_
      refine W_conv 36 (.slice p1841 out1942.2.length c1842) (.slice p1841 (gxClear out1942.2 out1942.1 (out1942.2.length : Int) ((⟨0, 0, ByteArray.empty, 0⟩ : Event) : Event)).length c1842) (by kernel_rfl) (by rw [gxClear_len ((⟨0, 0, ByteArray.empty, 0⟩ : Event) : Event) hys1990]) ?_
      refine W_nil ?_
      refine N_then ?_
      refine G_seq ?_
      refine G_region ?_
      refine W_run 2 [(39, .slice p1841 (gxClear out1942.2 out1942.1 (out1942.2.length : Int) ((⟨0, 0, ByteArray.empty, 0⟩ : Event) : Event)).length c1842), (40, .int .i64 out1942.1)] w1992 (by kernel_rfl) ?_
      obtain ⟨ys1996, hys1996, hm⟩ := gx_bind hm
      refine W_val (.slice (subP p1841 (0 : Int).toNat c1842 4) ys1996.length (c1842 - (0 : Int).toNat)) w1992 (by kernel_rfl) (E_slice (E := encEvent) _ _ _ _ (gxClear out1942.2 out1942.1 (out1942.2.length : Int) ((⟨0, 0, ByteArray.empty, 0⟩ : Event) : Event)).length 0 out1942.1 rfl (by kernel_rfl) (Or.inl ⟨rfl, rfl⟩) (Or.inr ⟨_, rfl, by kernel_rfl⟩) (by kernel_rfl) (ho1995.rd M1993 0 (by kernel_rfl)) rfl hys1996) ?_
      refine W_run 1 [(4, .slice (subP p1841 (0 : Int).toNat c1842 4) ys1996.length (c1842 - (0 : Int).toNat))] w1992 (by kernel_rfl) ?_
      refine W_nil ?_
      refine N_then ?_
      refine G_ret ?_
      obtain rfl := Option.some.inj hm
      refine N_ret [.slice (subP p1841 (0 : Int).toNat c1842 4) ys1996.length (c1842 - (0 : Int).toNat)] (RVs_cons (RV_tmp (by kernel_rfl)) RVs_nil) ?_
      exact ⟨sg1994, (subP p1841 (0 : Int).toNat c1842 4), (c1842 - (0 : Int).toNat), rfl, ho1995, ((gxClear_len ((⟨0, 0, ByteArray.empty, 0⟩ : Event) : Event) hys1990).trans hl1951), ⟨0, out1942.1, rfl, rfl, hys1996⟩, M1993.pick [0] (by kernel_rfl)⟩
theorem c_i_eventsWhere__i_EventsOf_1 (w : World) (x1685 : List Event) (p1687 : Option Addr) (c1688 : Nat) (h1689 : rdS encEvent w x1685 p1687 c1688) (x1690 : Int) (b1691 : Nat) (hb1692 : w.heap[b1691]? = some (.cells ⟨[.int .i64 x1690]⟩ 3 (0, 0))) {r : (List Event)} (hm : M.i_eventsWhere__i_EventsOf_1 x1685 x1690 = some r) :
    Calls Try.prog 62 #[.slice p1687 x1685.length c1688, .func (.func 63) #[] #[.pointer (some ⟨b1691, 0, none⟩)]] w fun e w' => ∃ (p1695 : Option Addr) (c1696 : Nat) (sg1697 : Seg), e = .returned (.slice p1695 r.length c1696) ∧ ownS encEvent r p1695 c1696 sg1697 ∧ Mem [] w w' [sg1697] := by
  unfold M.i_eventsWhere__i_EventsOf_1 at hm
  refine C_enter Try.func62 rfl (by kernel_rfl) ?_
  have M0 := Mem.refl [] w
  refine G_seq ?_
  refine G_region ?_
  refine W_new (fun b => .pointer (some ⟨b, 0, none⟩)) (.cells ⟨[.func (.func 63) #[] #[.pointer (some ⟨b1691, 0, none⟩)]]⟩ 25 (0, 0)) M0 rfl (by kernel_rfl) (by kernel_rfl) ?_
  intro b1699 w1700 M1701
  refine W_run 1 [(0, .slice p1687 x1685.length c1688), (3, .pointer (some ⟨b1699, 0, none⟩))] w1700 (by kernel_rfl) ?_
  refine W_nil ?_
  refine N_then ?_
  refine G_seq ?_
  refine G_region ?_
  refine W_lit (E := encEvent) ([] : List Event) 0 [] 26 M1701 (by kernel_rfl) (by kernel_rfl) (by kernel_rfl) (by kernel_rfl) (by kernel_rfl) ?_
  intro p1703 c1704 sg1705 w1706 ho1707 M1708
  refine W_run 1 [(3, .pointer (some ⟨b1699, 0, none⟩)), (5, .slice p1703 ([] : List Event).length c1704), (6, .slice p1687 x1685.length c1688)] w1706 (by kernel_rfl) ?_
  obtain ⟨ap1710, hap1710, hm⟩ := gx_bind hm
  refine W_append (E := encEvent) _ _ _ 40 [.int .i64 0, .int .i64 0, .string ByteArray.empty, .int .i64 0] 1 c1688 M1708 ho1707 (by kernel_rfl) (by kernel_rfl) (by kernel_rfl) rfl (by kernel_rfl) (by kernel_rfl) (by kernel_rfl) (by kernel_rfl) (by kernel_rfl) (by kernel_rfl) (h1689.mem0 M1708) hap1710 ?_
  intro p1711 c1712 sg1713 w1714 ho1715 M1716
  refine W_run 1 [(7, .slice p1711 ap1710.length c1712), (8, .func (.func 82) #[] #[.pointer (some ⟨b1699, 0, none⟩)])] w1714 (by kernel_rfl) ?_
  obtain ⟨r1998, hr1998, hm⟩ := gx_bind hm
  refine W_call 81 #[.slice p1711 ap1710.length c1712, .func (.func 82) #[] #[.pointer (some ⟨b1699, 0, none⟩)]] (by kernel_rfl) (by kernel_rfl) ?_
  refine (c_slices_DeleteFunc_81__i_eventsWhere_1__i_EventsOf_1 w1714 ap1710 p1711 c1712 sg1713 ho1715 x1690 b1691 (M1716.ro hb1692) b1699 (M1716.blk 0 (b := b1699) (o := .cells ⟨[.func (.func 63) #[] #[.pointer (some ⟨b1691, 0, none⟩)]]⟩ 25 (0, 0)) (by kernel_rfl)) (M1716.hasPick [1]) (M1716.nodupPick [1] (by kernel_rfl)) (blkOld M1716 hb1692 (by simp) [1]) (blkApart M1716 0 (o := .cells ⟨[.func (.func 63) #[] #[.pointer (some ⟨b1691, 0, none⟩)]]⟩ 25 (0, 0)) (by kernel_rfl) [1] (by kernel_rfl)) hr1998).mono ?_
  rintro e_ w2009 ⟨sg1999, p2007, c2008, rfl, ho2000, hl2001, hw2006, K2010⟩
  obtain ⟨l2003, h2004, rfl, rfl, hv2005⟩ := hw2006
  have M2011 := M1716.callF' [1] [0] (by kernel_rfl) K2010
  refine ⟨_, rfl, ?_⟩
  refine W_conv 7 (.slice p1711 ap1710.length c1712) (.slice p1711 r1998.2.length c1712) (by kernel_rfl) (by first | rw [hl2001] | rw [hl2001]) ?_
  refine W_run 1 [(4, .slice (subP p1711 l2003.toNat c1712 4) r1998.1.length (c1712 - l2003.toNat))] w2009 (by kernel_rfl) ?_
  refine W_nil ?_
  refine N_then ?_
  refine G_ret ?_
  obtain rfl := Option.some.inj hm
  refine N_ret [.slice (subP p1711 l2003.toNat c1712 4) r1998.1.length (c1712 - l2003.toNat)] (RVs_cons (RV_tmp (by kernel_rfl)) RVs_nil) ?_
  exact ⟨(subP p1711 l2003.toNat c1712 4), (c1712 - l2003.toNat), sg1999, rfl, (ho2000.partM hv2005), M2011.pick [1] (by kernel_rfl)⟩
theorem c_i_EventsOf (w : World) (x1643 : List Event) (p1645 : Option Addr) (c1646 : Nat) (h1647 : rdS encEvent w x1643 p1645 c1646) (x1648 : Int) {r : (List Event) × Bool} (hm : M.i_EventsOf x1643 x1648 = some r) :
    Calls Try.prog 27 #[.slice p1645 x1643.length c1646, .int .i64 x1648] w fun e w' => ∃ (p1650 : Option Addr) (c1651 : Nat) (sg1652 : Seg), e = .returned (.tuple #[.slice p1650 r.1.length c1651, .bool r.2]) ∧ ownS encEvent r.1 p1650 c1651 sg1652 ∧ Mem [] w w' [sg1652] := by
  unfold M.i_EventsOf at hm
  refine C_enter Try.func27 rfl (by kernel_rfl) ?_
  have M0 := Mem.refl [] w
  refine G_seq ?_
  refine G_region ?_
  refine W_new (fun b => .pointer (some ⟨b, 0, none⟩)) (.cells ⟨[.int .i64 x1648]⟩ 3 (0, 0)) M0 rfl (by kernel_rfl) (by kernel_rfl) ?_
  intro b1654 w1655 M1656
  refine W_run 2 [(0, .slice p1645 x1643.length c1646), (3, .pointer (some ⟨b1654, 0, none⟩))] w1655 (by kernel_rfl) ?_
  refine W_nil ?_
  refine N_then ?_
  refine G_seq ?_
  refine G_seq ?_
  obtain ⟨o1667, ho1668, hm1669⟩ := gx_bind hm
  refine G_meet (fun a w' => Mem [] w w' [[(b1654, .cells ⟨[.int .i64 x1648]⟩ 3 (0, 0))]] ∧ Sat Try.f27.ntmps [(0, .slice p1645 x1643.length c1646), (3, .pointer (some ⟨b1654, 0, none⟩)), (13, .bool o1667)] a) ?_ ?_
  · have hm := ho1668
    refine G_region ?_
    refine W_run 1 [(0, .slice p1645 x1643.length c1646), (3, .pointer (some ⟨b1654, 0, none⟩)), (6, .slice p1645 x1643.length c1646)] w1655 (by kernel_rfl) ?_
    obtain ⟨r1670, hr1670, hm⟩ := gx_bind hm
    refine W_call 20 #[.slice p1645 x1643.length c1646] (by kernel_rfl) (by kernel_rfl) ?_
    refine (c_i_IsRecord w1655 x1643 p1645 c1646 (h1647.mem0 M1656) hr1670).mono ?_
    rintro e_ w1671 ⟨rfl, K1672⟩
    have M1673 := M1656.call0 K1672
    refine ⟨_, rfl, ?_⟩
    refine W_run 2 [(0, .slice p1645 x1643.length c1646), (3, .pointer (some ⟨b1654, 0, none⟩)), (9, .bool (!r1670))] w1671 (by kernel_rfl) ?_
    rcases gx_bif hm with ⟨hc1674, hm⟩ | ⟨hc1674, hm⟩
    · refine W_known 9 true (by kernel_rfl) hc1674 ?_
      refine W_run 4 [(0, .slice p1645 x1643.length c1646), (3, .pointer (some ⟨b1654, 0, none⟩)), (13, .bool true)] w1671 (by kernel_rfl) ?_
      refine W_nil ?_
      obtain rfl := Option.some.inj hm
      exact N_meet fun a ha => ⟨M1673.pick [0] (by kernel_rfl), ha.sub (by kernel_rfl)⟩
    · refine W_known 9 false (by kernel_rfl) hc1674 ?_
      refine W_val (.int .i64 x1648) w1671 (by kernel_rfl) (E_load (e := 3) (fr := (0, 0)) _ _ false 1 b1654 0 [.int .i64 x1648] (.int .i64 x1648) rfl (by kernel_rfl) (by kernel_rfl) (by kernel_rfl) (M1673.blk 0 (b := b1654) (o := .cells ⟨[.int .i64 x1648]⟩ 3 (0, 0)) (by kernel_rfl))) ?_
      obtain ⟨r1675, hr1675, hm⟩ := gx_bind hm
      refine W_call 53 #[.int .i64 x1648] (by kernel_rfl) (by kernel_rfl) ?_
      refine (c_i_isParty w1671 x1648 hr1675).mono ?_
      rintro e_ w1676 ⟨rfl, K1677⟩
      have M1678 := M1673.call0 K1677
      refine ⟨_, rfl, ?_⟩
      refine W_run 2 [(0, .slice p1645 x1643.length c1646), (3, .pointer (some ⟨b1654, 0, none⟩)), (13, .bool (!r1675))] w1676 (by kernel_rfl) ?_
      refine W_nil ?_
      obtain rfl := Option.some.inj hm
      exact N_meet fun a ha => ⟨M1678.pick [0] (by kernel_rfl), ha.sub (by kernel_rfl)⟩
  · intro a1681 w1679 ⟨M1680, hS1682⟩
    refine N_use hS1682 ?_
    have hm := hm1669
    refine N_then ?_
    rcases gx_bif hm with ⟨hc1683, hm⟩ | ⟨hc1683, hm⟩
    · refine G_cond_t (b := o1667) hc1683 (by kernel_rfl) ?_
      refine G_seq ?_
      refine G_region ?_
      refine W_run 2 [(4, .slice none 0 0), (5, .bool false)] w1679 (by kernel_rfl) ?_
      refine W_nil ?_
      refine N_then ?_
      refine G_ret ?_
      refine N_then_ret ?_
      obtain rfl := Option.some.inj hm
      refine N_ret [.slice none 0 0, .bool false] (RVs_cons (RV_tmp (by kernel_rfl)) (RVs_cons (RV_tmp (by kernel_rfl)) RVs_nil)) ?_
      exact ⟨none, 0, [], rfl, ownS_nil, M1680.pick [100000] (by kernel_rfl)⟩
    · refine G_cond_f (b := o1667) hc1683 (by kernel_rfl) ?_
      refine G_skip ?_
      refine N_then ?_
      refine G_seq ?_
      refine G_region ?_
      refine W_run 2 [(14, .slice p1645 x1643.length c1646), (15, .func (.func 63) #[] #[.pointer (some ⟨b1654, 0, none⟩)])] w1679 (by kernel_rfl) ?_
      obtain ⟨r2012, hr2012, hm⟩ := gx_bind hm
      refine W_call 62 #[.slice p1645 x1643.length c1646, .func (.func 63) #[] #[.pointer (some ⟨b1654, 0, none⟩)]] (by kernel_rfl) (by kernel_rfl) ?_
      refine (c_i_eventsWhere__i_EventsOf_1 w1679 x1643 p1645 c1646 (h1647.mem0 M1680) x1648 b1654 (M1680.blk 0 (b := b1654) (o := .cells ⟨[.int .i64 x1648]⟩ 3 (0, 0)) (by kernel_rfl)) hr2012).mono ?_
      rintro e_ w2018 ⟨p2014, c2015, sg2016, rfl, ho2017, K2019⟩
      have M2020 := M1680.call K2019
      refine ⟨_, rfl, ?_⟩
      refine W_run 2 [(4, .slice p2014 r2012.length c2015), (5, .bool true)] w2018 (by kernel_rfl) ?_
      refine W_nil ?_
      refine N_then ?_
      refine G_ret ?_
      obtain rfl := Option.some.inj hm
      refine N_ret [.slice p2014 r2012.length c2015, .bool true] (RVs_cons (RV_tmp (by kernel_rfl)) (RVs_cons (RV_tmp (by kernel_rfl)) RVs_nil)) ?_
      exact ⟨p2014, c2015, sg2016, rfl, ho2017, M2020.pick [1] (by kernel_rfl)⟩
theorem c_l_markText (w : World) (x2081 : Int) {r : ByteArray} (hm : M.l_markText x2081 = some r) :
    Calls Try.prog 64 #[.int .i64 x2081] w fun e w' => e = .returned (.string r) ∧ Mem [] w w' [] := by
  unfold M.l_markText at hm
  refine C_enter Try.func64 rfl (by kernel_rfl) ?_
  have M0 := Mem.refl [] w
  refine G_seq ?_
  refine G_region ?_
  refine W_run 1 [(0, .int .i64 x2081)] w (by kernel_rfl) ?_
  refine W_nil ?_
  refine N_then ?_
  refine G_seq ?_
  refine G_seq ?_
  refine G_region ?_
  refine W_run 2 [(0, .int .i64 x2081), (5, .bool (decide (x2081 ≤ 0)))] w (by kernel_rfl) ?_
  refine W_nil ?_
  refine N_then ?_
  rcases gx_bif hm with ⟨hc2082, hm⟩ | ⟨hc2082, hm⟩
  · refine G_cond_t (b := (decide (x2081 ≤ 0))) hc2082 (by kernel_rfl) ?_
    refine G_seq ?_
    refine G_region ?_
    refine W_run 1 [(2, .string (ByteArray.mk #[109, 48]))] w (by kernel_rfl) ?_
    refine W_nil ?_
    refine N_then ?_
    refine G_ret ?_
    refine N_then_ret ?_
    obtain rfl := Option.some.inj hm
    refine N_ret [.string (ByteArray.mk #[109, 48])] (RVs_cons (RV_tmp (by kernel_rfl)) RVs_nil) ?_
    exact ⟨rfl, M0.pick [] (by kernel_rfl)⟩
  · refine G_cond_f (b := (decide (x2081 ≤ 0))) hc2082 (by kernel_rfl) ?_
    refine G_skip ?_
    refine N_then ?_
    refine G_seq ?_
    refine G_region ?_
    refine W_run 1 [(0, .int .i64 x2081), (3, .string (ByteArray.mk #[]))] w (by kernel_rfl) ?_
    refine W_nil ?_
    refine N_then ?_
    refine G_seq ?_
    obtain ⟨out2108, hw2109, hmo2110⟩ := gx_bind hm
    refine G_meet (fun a w' => Mem [] w w' [] ∧ Sat Try.f64.ntmps [(3, .string out2108)] a) ?_ ?_
    · refine G_block ?_
      refine G_while (σ := Int × ByteArray) (ρ := ByteArray) (fun s2101 a w' => Mem [] w w' [] ∧ Sat Try.f64.ntmps [(0, .int .i64 s2101.1), (3, .string s2101.2)] a) hw2109 (fun a ha => ⟨M0.pick [] (by kernel_rfl), ha.sub (by kernel_rfl)⟩) ?_
      clear hm
      intro s2101 x2102 hm hout2103 a2104 w2105 ⟨M2106, hS2107⟩
      refine G_use hS2107 ?_
      refine G_seq ?_
      refine G_seq ?_
      refine G_region ?_
      refine W_run 2 [(0, .int .i64 s2101.1), (3, .string s2101.2), (7, .bool (decide (s2101.1 > 0)))] w2105 (by kernel_rfl) ?_
      refine W_nil ?_
      refine N_then ?_
      rcases gx_bif hm with ⟨hc2112, hm⟩ | ⟨hc2112, hm⟩
      · refine G_cond_t (b := (decide (s2101.1 > 0))) hc2112 (by kernel_rfl) ?_
        refine G_skip ?_
        refine N_then ?_
        refine G_block ?_
        refine G_seq ?_
        refine G_region ?_
        refine W_run 4 [(0, .int .i64 s2101.1), (3, .string s2101.2), (11, .int .u8 (IntKind.u8.wrap (w64 (48 + (s2101.1.tmod 10)))))] w2105 (by kernel_rfl) ?_
        refine W_lit (E := encU8) [IntKind.u8.wrap (w64 (48 + (s2101.1.tmod 10)))] 1 [.int .u8 (IntKind.u8.wrap (w64 (48 + (s2101.1.tmod 10))))] 5 M2106 (by kernel_rfl) (by kernel_rfl) (by kernel_rfl) (by kernel_rfl) (by kernel_rfl) ?_
        intro p2113 c2114 sg2115 w2116 ho2117 M2118
        refine W_val (.string (gxStr [IntKind.u8.wrap (w64 (48 + (s2101.1.tmod 10)))])) w2116 (by kernel_rfl) (E_bytesStr _ _ 5 _ [IntKind.u8.wrap (w64 (48 + (s2101.1.tmod 10)))] rfl (by kernel_rfl) (by kernel_rfl) (by kernel_rfl) (by kernel_rfl) (ho2117.rd M2118 0 (by kernel_rfl))) ?_
        refine W_run 1 [(0, .int .i64 s2101.1), (3, .string s2101.2), (13, .string (gxStr [IntKind.u8.wrap (w64 (48 + (s2101.1.tmod 10)))])), (14, .string s2101.2)] w2116 (by kernel_rfl) ?_
        obtain ⟨q2120, hq2120, hm⟩ := gx_bind hm
        refine W_val (.string q2120) w2116 (by kernel_rfl) (E_strCat _ _ _ _ (gxStr [IntKind.u8.wrap (w64 (48 + (s2101.1.tmod 10)))]) s2101.2 q2120 rfl (by kernel_rfl) (by kernel_rfl) hq2120) ?_
        refine W_run 1 [(0, .int .i64 s2101.1), (3, .string q2120)] w2116 (by kernel_rfl) ?_
        refine W_nil ?_
        refine N_then ?_
        refine G_region ?_
        refine W_run 3 [(0, .int .i64 (w64 (s2101.1.tdiv 10))), (3, .string q2120)] w2116 (by kernel_rfl) ?_
        refine W_nil ?_
        refine N_block ?_
        obtain rfl := Option.some.inj hm
        exact N_loop fun a ha => ⟨_, rfl, M2118.pick [] (by kernel_rfl), ha.sub (by kernel_rfl)⟩
      · refine G_cond_f (b := (decide (s2101.1 > 0))) hc2112 (by kernel_rfl) ?_
        refine G_exit ?_
        refine N_then_exit ?_
        refine N_then_exit ?_
        refine N_block_eq ?_
        obtain rfl := Option.some.inj hm
        obtain rfl := hout2103 _ rfl
        exact N_meet fun a ha => ⟨M2106.pick [] (by kernel_rfl), ha.sub (by kernel_rfl)⟩
    · intro a2121 w2122 ⟨M2123, hS2124⟩
      refine N_use hS2124 ?_
      have hm := hmo2110
      refine N_then ?_
      refine G_seq ?_
      refine G_region ?_
      refine W_run 1 [(18, .string out2108)] w2122 (by kernel_rfl) ?_
      obtain ⟨q2125, hq2125, hm⟩ := gx_bind hm
      refine W_val (.string q2125) w2122 (by kernel_rfl) (E_strCat _ _ _ _ (ByteArray.mk #[109]) out2108 q2125 rfl (by kernel_rfl) (by kernel_rfl) hq2125) ?_
      refine W_run 1 [(2, .string q2125)] w2122 (by kernel_rfl) ?_
      refine W_nil ?_
      refine N_then ?_
      refine G_ret ?_
      obtain rfl := Option.some.inj hm
      refine N_ret [.string q2125] (RVs_cons (RV_tmp (by kernel_rfl)) RVs_nil) ?_
      exact ⟨rfl, M2123.pick [] (by kernel_rfl)⟩
theorem c_l_markEventS (w : World) (x2062 : List Event) (p2064 : Option Addr) (c2065 : Nat) (sg2066 : Seg) (ho2067 : ownS encEvent x2062 p2064 c2065 sg2066) (x2068 : Int) (hA : ∀ q ∈ List.flatten [sg2066], w.heap[q.1]? = some q.2) (hN : (idsOf [sg2066]).Nodup) {r : Int × (List Event)} (hm : M.l_markEventS x2062 x2068 = some r) :
    Calls Try.prog 28 #[.slice p2064 x2062.length c2065, .int .i64 x2068] w fun e w' => ∃ (sg2069 : Seg), e = .returned (.int .i64 r.1) ∧ ownS encEvent r.2 p2064 c2065 sg2069 ∧ r.2.length = x2062.length ∧ Mem (idsOf [sg2066]) w w' [sg2069] := by
  unfold M.l_markEventS at hm
  refine C_enter Try.func28 rfl (by kernel_rfl) ?_
  have M0 := Mem.start' w [sg2066] hA hN
  refine G_seq ?_
  refine G_region ?_
  refine W_run 1 [(0, .slice p2064 x2062.length c2065), (1, .int .i64 x2068)] w (by kernel_rfl) ?_
  refine W_nil ?_
  refine N_then ?_
  refine G_seq ?_
  refine G_seq ?_
  refine G_region ?_
  refine W_run 1 [(0, .slice p2064 x2062.length c2065), (1, .int .i64 x2068), (5, .int .i64 0)] w (by kernel_rfl) ?_
  refine W_nil ?_
  refine N_then ?_
  obtain ⟨out2175, hw2176, hmo2177⟩ := gx_bind hm
  refine G_meet (fun a w' => ∃ (sg2182 : Seg), ownS encEvent out2175.2 p2064 c2065 sg2182 ∧ out2175.2.length = x2062.length ∧ Mem (idsOf [sg2066]) w w' [sg2182] ∧ Sat Try.f28.ntmps [(1, .int .i64 out2175.1)] a) ?_ ?_
  · refine G_block ?_
    refine G_while (σ := Int × Int × List Event) (ρ := Int × List Event) (fun s2168 a w' => ∃ (sg2178 : Seg), ownS encEvent s2168.2.2 p2064 c2065 sg2178 ∧ s2168.2.2.length = x2062.length ∧ Mem (idsOf [sg2066]) w w' [sg2178] ∧ Sat Try.f28.ntmps [(0, .slice p2064 s2168.2.2.length c2065), (1, .int .i64 s2168.1), (5, .int .i64 s2168.2.1)] a) hw2176 (fun a ha => ⟨sg2066, ho2067, rfl, M0.pick [0] (by kernel_rfl), ha.sub (by kernel_rfl)⟩) ?_
    clear hm
    intro s2168 x2169 hm hout2170 a2171 w2172 ⟨sg2178, ho2179, hl2180, M2173, hS2174⟩
    refine G_use hS2174 ?_
    refine G_seq ?_
    refine G_seq ?_
    refine G_region ?_
    refine W_run 4 [(0, .slice p2064 s2168.2.2.length c2065), (1, .int .i64 s2168.1), (5, .int .i64 s2168.2.1), (9, .bool (decide (s2168.2.1 < (s2168.2.2.length : Int))))] w2172 (by kernel_rfl) ?_
    refine W_nil ?_
    refine N_then ?_
    rcases gx_bif hm with ⟨hc2185, hm⟩ | ⟨hc2185, hm⟩
    · refine G_cond_t (b := (decide (s2168.2.1 < (s2168.2.2.length : Int)))) hc2185 (by kernel_rfl) ?_
      refine G_skip ?_
      refine N_then ?_
      refine G_seq ?_
      refine G_block ?_
      refine G_seq ?_
      refine G_region ?_
      refine W_run 3 [(0, .slice p2064 s2168.2.2.length c2065), (1, .int .i64 s2168.1), (5, .int .i64 s2168.2.1), (12, .slice p2064 s2168.2.2.length c2065), (13, .int .i64 s2168.2.1), (14, .int .i64 s2168.1)] w2172 (by kernel_rfl) ?_
      obtain ⟨y2186, hy2186, hm⟩ := gx_bind hm
      refine W_val (elemP p2064 (s2168.2.1.toNat * 4)) w2172 (by kernel_rfl) (E_index (E := encEvent) _ _ _ s2168.2.2.length c2065 .i64 s2168.2.1 4 (y := y2186) rfl (by kernel_rfl) (by kernel_rfl) (by kernel_rfl) (ho2179.rd M2173 0 (by kernel_rfl)) rfl hy2186) ?_
      refine W_val (elemP p2064 (s2168.2.1.toNat * 4 + 0)) w2172 (by kernel_rfl) (E_fieldE (E := encEvent) _ _ 0 (s2168.2.1.toNat * 4) 0 rfl (by kernel_rfl) (by kernel_rfl) (ho2179.rd M2173 0 (by kernel_rfl)) hy2186) ?_
      refine W_storeE (E := encEvent) _ _ _ false 1 s2168.2.1.toNat 0 (s2168.2.1.toNat * 4 + 0) y2186 (⟨s2168.1, y2186.Guest, y2186.Kind, y2186.Value⟩ : Event) (.int .i64 s2168.1) 0 M2173 ho2179 (by kernel_rfl) (by kernel_rfl) rfl (by kernel_rfl) (by kernel_rfl) (by kernel_rfl) (by kernel_rfl) (by kernel_rfl) (by kernel_rfl) (by kernel_rfl) (gxIdx_spec hy2186).2 rfl ?_
      intro w2187 sg2189 ho2190 M2188
      refine W_conv 0 (.slice p2064 s2168.2.2.length c2065) (.slice p2064 (s2168.2.2.set s2168.2.1.toNat (⟨s2168.1, y2186.Guest, y2186.Kind, y2186.Value⟩ : Event)).length c2065) (by kernel_rfl) (by rw [@List.length_set _ s2168.2.2 s2168.2.1.toNat (⟨s2168.1, y2186.Guest, y2186.Kind, y2186.Value⟩ : Event)]) ?_
      refine W_conv 12 (.slice p2064 s2168.2.2.length c2065) (.slice p2064 (s2168.2.2.set s2168.2.1.toNat (⟨s2168.1, y2186.Guest, y2186.Kind, y2186.Value⟩ : Event)).length c2065) (by kernel_rfl) (by rw [@List.length_set _ s2168.2.2 s2168.2.1.toNat (⟨s2168.1, y2186.Guest, y2186.Kind, y2186.Value⟩ : Event)]) ?_
      refine W_nil ?_
      refine N_then ?_
      refine G_seq ?_
      refine G_region ?_
      refine W_run 3 [(0, .slice p2064 (s2168.2.2.set s2168.2.1.toNat (⟨s2168.1, y2186.Guest, y2186.Kind, y2186.Value⟩ : Event)).length c2065), (1, .int .i64 (w64 (s2168.1 + 1))), (5, .int .i64 s2168.2.1)] w2187 (by kernel_rfl) ?_
      refine W_nil ?_
      refine N_then ?_
      refine G_seq ?_
      refine G_region ?_
      refine W_run 3 [(0, .slice p2064 (s2168.2.2.set s2168.2.1.toNat (⟨s2168.1, y2186.Guest, y2186.Kind, y2186.Value⟩ : Event)).length c2065), (1, .int .i64 (w64 (s2168.1 + 1))), (5, .int .i64 s2168.2.1), (19, .slice p2064 (s2168.2.2.set s2168.2.1.toNat (⟨s2168.1, y2186.Guest, y2186.Kind, y2186.Value⟩ : Event)).length c2065), (20, .int .i64 s2168.2.1), (21, .int .i64 (w64 (s2168.1 + 1)))] w2187 (by kernel_rfl) ?_
      obtain ⟨y2191, hy2191, hm⟩ := gx_bind hm
      refine W_val (elemP p2064 (s2168.2.1.toNat * 4)) w2187 (by kernel_rfl) (E_index (E := encEvent) _ _ _ (s2168.2.2.set s2168.2.1.toNat (⟨s2168.1, y2186.Guest, y2186.Kind, y2186.Value⟩ : Event)).length c2065 .i64 s2168.2.1 4 (y := y2191) rfl (by kernel_rfl) (by kernel_rfl) (by kernel_rfl) (ho2190.rd M2188 0 (by kernel_rfl)) rfl hy2191) ?_
      refine W_val (elemP p2064 (s2168.2.1.toNat * 4 + 1)) w2187 (by kernel_rfl) (E_fieldE (E := encEvent) _ _ 1 (s2168.2.1.toNat * 4) 1 rfl (by kernel_rfl) (by kernel_rfl) (ho2190.rd M2188 0 (by kernel_rfl)) hy2191) ?_
      refine W_storeE (E := encEvent) _ _ _ false 1 s2168.2.1.toNat 1 (s2168.2.1.toNat * 4 + 1) y2191 (⟨y2191.Tick, w64 (s2168.1 + 1), y2191.Kind, y2191.Value⟩ : Event) (.int .i64 (w64 (s2168.1 + 1))) 0 M2188 ho2190 (by kernel_rfl) (by kernel_rfl) rfl (by kernel_rfl) (by kernel_rfl) (by kernel_rfl) (by kernel_rfl) (by kernel_rfl) (by kernel_rfl) (by kernel_rfl) (gxIdx_spec hy2191).2 rfl ?_
      intro w2192 sg2194 ho2195 M2193
      refine W_conv 0 (.slice p2064 (s2168.2.2.set s2168.2.1.toNat (⟨s2168.1, y2186.Guest, y2186.Kind, y2186.Value⟩ : Event)).length c2065) (.slice p2064 ((s2168.2.2.set s2168.2.1.toNat (⟨s2168.1, y2186.Guest, y2186.Kind, y2186.Value⟩ : Event)).set s2168.2.1.toNat (⟨y2191.Tick, w64 (s2168.1 + 1), y2191.Kind, y2191.Value⟩ : Event)).length c2065) (by kernel_rfl) (by rw [@List.length_set _ (s2168.2.2.set s2168.2.1.toNat (⟨s2168.1, y2186.Guest, y2186.Kind, y2186.Value⟩ : Event)) s2168.2.1.toNat (⟨y2191.Tick, w64 (s2168.1 + 1), y2191.Kind, y2191.Value⟩ : Event)]) ?_
      refine W_conv 19 (.slice p2064 (s2168.2.2.set s2168.2.1.toNat (⟨s2168.1, y2186.Guest, y2186.Kind, y2186.Value⟩ : Event)).length c2065) (.slice p2064 ((s2168.2.2.set s2168.2.1.toNat (⟨s2168.1, y2186.Guest, y2186.Kind, y2186.Value⟩ : Event)).set s2168.2.1.toNat (⟨y2191.Tick, w64 (s2168.1 + 1), y2191.Kind, y2191.Value⟩ : Event)).length c2065) (by kernel_rfl) (by rw [@List.length_set _ (s2168.2.2.set s2168.2.1.toNat (⟨s2168.1, y2186.Guest, y2186.Kind, y2186.Value⟩ : Event)) s2168.2.1.toNat (⟨y2191.Tick, w64 (s2168.1 + 1), y2191.Kind, y2191.Value⟩ : Event)]) ?_
      refine W_nil ?_
      refine N_then ?_
      refine G_seq ?_
      refine G_region ?_
      refine W_run 3 [(0, .slice p2064 ((s2168.2.2.set s2168.2.1.toNat (⟨s2168.1, y2186.Guest, y2186.Kind, y2186.Value⟩ : Event)).set s2168.2.1.toNat (⟨y2191.Tick, w64 (s2168.1 + 1), y2191.Kind, y2191.Value⟩ : Event)).length c2065), (1, .int .i64 (w64 ((w64 (s2168.1 + 1)) + 1))), (5, .int .i64 s2168.2.1)] w2192 (by kernel_rfl) ?_
      refine W_nil ?_
      refine N_then ?_
      refine G_seq ?_
      refine G_region ?_
      refine W_run 3 [(0, .slice p2064 ((s2168.2.2.set s2168.2.1.toNat (⟨s2168.1, y2186.Guest, y2186.Kind, y2186.Value⟩ : Event)).set s2168.2.1.toNat (⟨y2191.Tick, w64 (s2168.1 + 1), y2191.Kind, y2191.Value⟩ : Event)).length c2065), (1, .int .i64 (w64 ((w64 (s2168.1 + 1)) + 1))), (5, .int .i64 s2168.2.1), (26, .slice p2064 ((s2168.2.2.set s2168.2.1.toNat (⟨s2168.1, y2186.Guest, y2186.Kind, y2186.Value⟩ : Event)).set s2168.2.1.toNat (⟨y2191.Tick, w64 (s2168.1 + 1), y2191.Kind, y2191.Value⟩ : Event)).length c2065), (27, .int .i64 s2168.2.1), (28, .int .i64 (w64 ((w64 (s2168.1 + 1)) + 1)))] w2192 (by kernel_rfl) ?_
      obtain ⟨r2196, hr2196, hm⟩ := gx_bind hm
      refine W_call 64 #[.int .i64 (w64 ((w64 (s2168.1 + 1)) + 1))] (by kernel_rfl) (by kernel_rfl) ?_
      refine (c_l_markText w2192 (w64 ((w64 (s2168.1 + 1)) + 1)) hr2196).mono ?_
      rintro e_ w2197 ⟨rfl, K2198⟩
      have M2199 := M2193.call0 K2198
      refine ⟨_, rfl, ?_⟩
      obtain ⟨y2200, hy2200, hm⟩ := gx_bind hm
      refine W_val (elemP p2064 (s2168.2.1.toNat * 4)) w2197 (by kernel_rfl) (E_index (E := encEvent) _ _ _ ((s2168.2.2.set s2168.2.1.toNat (⟨s2168.1, y2186.Guest, y2186.Kind, y2186.Value⟩ : Event)).set s2168.2.1.toNat (⟨y2191.Tick, w64 (s2168.1 + 1), y2191.Kind, y2191.Value⟩ : Event)).length c2065 .i64 s2168.2.1 4 (y := y2200) rfl (by kernel_rfl) (by kernel_rfl) (by kernel_rfl) (ho2195.rd M2199 0 (by kernel_rfl)) rfl hy2200) ?_
      refine W_val (elemP p2064 (s2168.2.1.toNat * 4 + 2)) w2197 (by kernel_rfl) (E_fieldE (E := encEvent) _ _ 2 (s2168.2.1.toNat * 4) 2 rfl (by kernel_rfl) (by kernel_rfl) (ho2195.rd M2199 0 (by kernel_rfl)) hy2200) ?_
      refine W_storeE (E := encEvent) _ _ _ false 1 s2168.2.1.toNat 2 (s2168.2.1.toNat * 4 + 2) y2200 (⟨y2200.Tick, y2200.Guest, r2196, y2200.Value⟩ : Event) (.string r2196) 0 M2199 ho2195 (by kernel_rfl) (by kernel_rfl) rfl (by kernel_rfl) (by kernel_rfl) (by kernel_rfl) (by kernel_rfl) (by kernel_rfl) (by kernel_rfl) (by kernel_rfl) (gxIdx_spec hy2200).2 rfl ?_
      intro w2201 sg2203 ho2204 M2202
      refine W_conv 0 (.slice p2064 ((s2168.2.2.set s2168.2.1.toNat (⟨s2168.1, y2186.Guest, y2186.Kind, y2186.Value⟩ : Event)).set s2168.2.1.toNat (⟨y2191.Tick, w64 (s2168.1 + 1), y2191.Kind, y2191.Value⟩ : Event)).length c2065) (.slice p2064 (((s2168.2.2.set s2168.2.1.toNat (⟨s2168.1, y2186.Guest, y2186.Kind, y2186.Value⟩ : Event)).set s2168.2.1.toNat (⟨y2191.Tick, w64 (s2168.1 + 1), y2191.Kind, y2191.Value⟩ : Event)).set s2168.2.1.toNat (⟨y2200.Tick, y2200.Guest, r2196, y2200.Value⟩ : Event)).length c2065) (by kernel_rfl) (by rw [@List.length_set _ ((s2168.2.2.set s2168.2.1.toNat (⟨s2168.1, y2186.Guest, y2186.Kind, y2186.Value⟩ : Event)).set s2168.2.1.toNat (⟨y2191.Tick, w64 (s2168.1 + 1), y2191.Kind, y2191.Value⟩ : Event)) s2168.2.1.toNat (⟨y2200.Tick, y2200.Guest, r2196, y2200.Value⟩ : Event)]) ?_
      refine W_conv 26 (.slice p2064 ((s2168.2.2.set s2168.2.1.toNat (⟨s2168.1, y2186.Guest, y2186.Kind, y2186.Value⟩ : Event)).set s2168.2.1.toNat (⟨y2191.Tick, w64 (s2168.1 + 1), y2191.Kind, y2191.Value⟩ : Event)).length c2065) (.slice p2064 (((s2168.2.2.set s2168.2.1.toNat (⟨s2168.1, y2186.Guest, y2186.Kind, y2186.Value⟩ : Event)).set s2168.2.1.toNat (⟨y2191.Tick, w64 (s2168.1 + 1), y2191.Kind, y2191.Value⟩ : Event)).set s2168.2.1.toNat (⟨y2200.Tick, y2200.Guest, r2196, y2200.Value⟩ : Event)).length c2065) (by kernel_rfl) (by rw [@List.length_set _ ((s2168.2.2.set s2168.2.1.toNat (⟨s2168.1, y2186.Guest, y2186.Kind, y2186.Value⟩ : Event)).set s2168.2.1.toNat (⟨y2191.Tick, w64 (s2168.1 + 1), y2191.Kind, y2191.Value⟩ : Event)) s2168.2.1.toNat (⟨y2200.Tick, y2200.Guest, r2196, y2200.Value⟩ : Event)]) ?_
      refine W_nil ?_
      refine N_then ?_
      refine G_seq ?_
      refine G_region ?_
      refine W_run 3 [(0, .slice p2064 (((s2168.2.2.set s2168.2.1.toNat (⟨s2168.1, y2186.Guest, y2186.Kind, y2186.Value⟩ : Event)).set s2168.2.1.toNat (⟨y2191.Tick, w64 (s2168.1 + 1), y2191.Kind, y2191.Value⟩ : Event)).set s2168.2.1.toNat (⟨y2200.Tick, y2200.Guest, r2196, y2200.Value⟩ : Event)).length c2065), (1, .int .i64 (w64 ((w64 ((w64 (s2168.1 + 1)) + 1)) + 1))), (5, .int .i64 s2168.2.1)] w2201 (by kernel_rfl) ?_
      refine W_nil ?_
      refine N_then ?_
      refine G_seq ?_
      refine G_region ?_
      refine W_run 3 [(0, .slice p2064 (((s2168.2.2.set s2168.2.1.toNat (⟨s2168.1, y2186.Guest, y2186.Kind, y2186.Value⟩ : Event)).set s2168.2.1.toNat (⟨y2191.Tick, w64 (s2168.1 + 1), y2191.Kind, y2191.Value⟩ : Event)).set s2168.2.1.toNat (⟨y2200.Tick, y2200.Guest, r2196, y2200.Value⟩ : Event)).length c2065), (1, .int .i64 (w64 ((w64 ((w64 (s2168.1 + 1)) + 1)) + 1))), (5, .int .i64 s2168.2.1), (34, .slice p2064 (((s2168.2.2.set s2168.2.1.toNat (⟨s2168.1, y2186.Guest, y2186.Kind, y2186.Value⟩ : Event)).set s2168.2.1.toNat (⟨y2191.Tick, w64 (s2168.1 + 1), y2191.Kind, y2191.Value⟩ : Event)).set s2168.2.1.toNat (⟨y2200.Tick, y2200.Guest, r2196, y2200.Value⟩ : Event)).length c2065), (35, .int .i64 s2168.2.1), (36, .int .i64 (w64 ((w64 ((w64 (s2168.1 + 1)) + 1)) + 1)))] w2201 (by kernel_rfl) ?_
      obtain ⟨y2205, hy2205, hm⟩ := gx_bind hm
      refine W_val (elemP p2064 (s2168.2.1.toNat * 4)) w2201 (by kernel_rfl) (E_index (E := encEvent) _ _ _ (((s2168.2.2.set s2168.2.1.toNat (⟨s2168.1, y2186.Guest, y2186.Kind, y2186.Value⟩ : Event)).set s2168.2.1.toNat (⟨y2191.Tick, w64 (s2168.1 + 1), y2191.Kind, y2191.Value⟩ : Event)).set s2168.2.1.toNat (⟨y2200.Tick, y2200.Guest, r2196, y2200.Value⟩ : Event)).length c2065 .i64 s2168.2.1 4 (y := y2205) rfl (by kernel_rfl) (by kernel_rfl) (by kernel_rfl) (ho2204.rd M2202 0 (by kernel_rfl)) rfl hy2205) ?_
      refine W_val (elemP p2064 (s2168.2.1.toNat * 4 + 3)) w2201 (by kernel_rfl) (E_fieldE (E := encEvent) _ _ 3 (s2168.2.1.toNat * 4) 3 rfl (by kernel_rfl) (by kernel_rfl) (ho2204.rd M2202 0 (by kernel_rfl)) hy2205) ?_
      refine W_storeE (E := encEvent) _ _ _ false 1 s2168.2.1.toNat 3 (s2168.2.1.toNat * 4 + 3) y2205 (⟨y2205.Tick, y2205.Guest, y2205.Kind, w64 ((w64 ((w64 (s2168.1 + 1)) + 1)) + 1)⟩ : Event) (.int .i64 (w64 ((w64 ((w64 (s2168.1 + 1)) + 1)) + 1))) 0 M2202 ho2204 (by kernel_rfl) (by kernel_rfl) rfl (by kernel_rfl) (by kernel_rfl) (by kernel_rfl) (by kernel_rfl) (by kernel_rfl) (by kernel_rfl) (by kernel_rfl) (gxIdx_spec hy2205).2 rfl ?_
      intro w2206 sg2208 ho2209 M2207
      refine W_conv 0 (.slice p2064 (((s2168.2.2.set s2168.2.1.toNat (⟨s2168.1, y2186.Guest, y2186.Kind, y2186.Value⟩ : Event)).set s2168.2.1.toNat (⟨y2191.Tick, w64 (s2168.1 + 1), y2191.Kind, y2191.Value⟩ : Event)).set s2168.2.1.toNat (⟨y2200.Tick, y2200.Guest, r2196, y2200.Value⟩ : Event)).length c2065) (.slice p2064 ((((s2168.2.2.set s2168.2.1.toNat (⟨s2168.1, y2186.Guest, y2186.Kind, y2186.Value⟩ : Event)).set s2168.2.1.toNat (⟨y2191.Tick, w64 (s2168.1 + 1), y2191.Kind, y2191.Value⟩ : Event)).set s2168.2.1.toNat (⟨y2200.Tick, y2200.Guest, r2196, y2200.Value⟩ : Event)).set s2168.2.1.toNat (⟨y2205.Tick, y2205.Guest, y2205.Kind, w64 ((w64 ((w64 (s2168.1 + 1)) + 1)) + 1)⟩ : Event)).length c2065) (by kernel_rfl) (by rw [@List.length_set _ (((s2168.2.2.set s2168.2.1.toNat (⟨s2168.1, y2186.Guest, y2186.Kind, y2186.Value⟩ : Event)).set s2168.2.1.toNat (⟨y2191.Tick, w64 (s2168.1 + 1), y2191.Kind, y2191.Value⟩ : Event)).set s2168.2.1.toNat (⟨y2200.Tick, y2200.Guest, r2196, y2200.Value⟩ : Event)) s2168.2.1.toNat (⟨y2205.Tick, y2205.Guest, y2205.Kind, w64 ((w64 ((w64 (s2168.1 + 1)) + 1)) + 1)⟩ : Event)]) ?_
      refine W_conv 34 (.slice p2064 (((s2168.2.2.set s2168.2.1.toNat (⟨s2168.1, y2186.Guest, y2186.Kind, y2186.Value⟩ : Event)).set s2168.2.1.toNat (⟨y2191.Tick, w64 (s2168.1 + 1), y2191.Kind, y2191.Value⟩ : Event)).set s2168.2.1.toNat (⟨y2200.Tick, y2200.Guest, r2196, y2200.Value⟩ : Event)).length c2065) (.slice p2064 ((((s2168.2.2.set s2168.2.1.toNat (⟨s2168.1, y2186.Guest, y2186.Kind, y2186.Value⟩ : Event)).set s2168.2.1.toNat (⟨y2191.Tick, w64 (s2168.1 + 1), y2191.Kind, y2191.Value⟩ : Event)).set s2168.2.1.toNat (⟨y2200.Tick, y2200.Guest, r2196, y2200.Value⟩ : Event)).set s2168.2.1.toNat (⟨y2205.Tick, y2205.Guest, y2205.Kind, w64 ((w64 ((w64 (s2168.1 + 1)) + 1)) + 1)⟩ : Event)).length c2065) (by kernel_rfl) (by rw [@List.length_set _ (((s2168.2.2.set s2168.2.1.toNat (⟨s2168.1, y2186.Guest, y2186.Kind, y2186.Value⟩ : Event)).set s2168.2.1.toNat (⟨y2191.Tick, w64 (s2168.1 + 1), y2191.Kind, y2191.Value⟩ : Event)).set s2168.2.1.toNat (⟨y2200.Tick, y2200.Guest, r2196, y2200.Value⟩ : Event)) s2168.2.1.toNat (⟨y2205.Tick, y2205.Guest, y2205.Kind, w64 ((w64 ((w64 (s2168.1 + 1)) + 1)) + 1)⟩ : Event)]) ?_
      refine W_nil ?_
      refine N_then ?_
      refine G_region ?_
      refine W_run 3 [(0, .slice p2064 ((((s2168.2.2.set s2168.2.1.toNat (⟨s2168.1, y2186.Guest, y2186.Kind, y2186.Value⟩ : Event)).set s2168.2.1.toNat (⟨y2191.Tick, w64 (s2168.1 + 1), y2191.Kind, y2191.Value⟩ : Event)).set s2168.2.1.toNat (⟨y2200.Tick, y2200.Guest, r2196, y2200.Value⟩ : Event)).set s2168.2.1.toNat (⟨y2205.Tick, y2205.Guest, y2205.Kind, w64 ((w64 ((w64 (s2168.1 + 1)) + 1)) + 1)⟩ : Event)).length c2065), (1, .int .i64 (w64 ((w64 ((w64 ((w64 (s2168.1 + 1)) + 1)) + 1)) + 1))), (5, .int .i64 s2168.2.1)] w2206 (by kernel_rfl) ?_
      refine W_nil ?_
      refine N_block ?_
      refine N_then ?_
      refine G_region ?_
      refine W_run 3 [(0, .slice p2064 ((((s2168.2.2.set s2168.2.1.toNat (⟨s2168.1, y2186.Guest, y2186.Kind, y2186.Value⟩ : Event)).set s2168.2.1.toNat (⟨y2191.Tick, w64 (s2168.1 + 1), y2191.Kind, y2191.Value⟩ : Event)).set s2168.2.1.toNat (⟨y2200.Tick, y2200.Guest, r2196, y2200.Value⟩ : Event)).set s2168.2.1.toNat (⟨y2205.Tick, y2205.Guest, y2205.Kind, w64 ((w64 ((w64 (s2168.1 + 1)) + 1)) + 1)⟩ : Event)).length c2065), (1, .int .i64 (w64 ((w64 ((w64 ((w64 (s2168.1 + 1)) + 1)) + 1)) + 1))), (5, .int .i64 (w64 (s2168.2.1 + 1)))] w2206 (by kernel_rfl) ?_
      refine W_nil ?_
      obtain rfl := Option.some.inj hm
      exact N_loop fun a ha => ⟨_, rfl, sg2208, ho2209, (List.length_set.trans (List.length_set.trans (List.length_set.trans (List.length_set.trans hl2180)))), M2207.pick [0] (by kernel_rfl), ha.sub (by kernel_rfl)⟩
    · refine G_cond_f (b := (decide (s2168.2.1 < (s2168.2.2.length : Int)))) hc2185 (by kernel_rfl) ?_
      refine G_exit ?_
      refine N_then_exit ?_
      refine N_then_exit ?_
      refine N_block_eq ?_
      obtain rfl := Option.some.inj hm
      obtain rfl := hout2170 _ rfl
      exact N_meet fun a ha => ⟨sg2178, ho2179, hl2180, M2173.pick [0] (by kernel_rfl), ha.sub (by kernel_rfl)⟩
  · intro a2210 w2211 ⟨sg2182, ho2183, hl2184, M2212, hS2213⟩
    refine N_use hS2213 ?_
    have hm := hmo2177
    refine N_then ?_
    refine G_seq ?_
    refine G_region ?_
    refine W_run 2 [(4, .int .i64 out2175.1)] w2211 (by kernel_rfl) ?_
    refine W_nil ?_
    refine N_then ?_
    refine G_ret ?_
    obtain rfl := Option.some.inj hm
    refine N_ret [.int .i64 out2175.1] (RVs_cons (RV_tmp (by kernel_rfl)) RVs_nil) ?_
    exact ⟨sg2182, rfl, ho2183, hl2184, M2212.pick [0] (by kernel_rfl)⟩
theorem c_l_heldEventS (w : World) (x2248 : List Event) (p2250 : Option Addr) (c2251 : Nat) (h2252 : rdS encEvent w x2248 p2250 c2251) (x2253 : Int) {r : Int} (hm : M.l_heldEventS x2248 x2253 = some r) :
    Calls Try.prog 29 #[.slice p2250 x2248.length c2251, .int .i64 x2253] w fun e w' => e = .returned (.int .i64 r) ∧ Mem [] w w' [] := by
  unfold M.l_heldEventS at hm
  refine C_enter Try.func29 rfl (by kernel_rfl) ?_
  have M0 := Mem.refl [] w
  refine G_seq ?_
  refine G_region ?_
  refine W_run 1 [(0, .slice p2250 x2248.length c2251), (1, .int .i64 x2253)] w (by kernel_rfl) ?_
  refine W_nil ?_
  refine N_then ?_
  refine G_seq ?_
  refine G_seq ?_
  refine G_region ?_
  refine W_run 1 [(0, .slice p2250 x2248.length c2251), (1, .int .i64 x2253), (5, .int .i64 0)] w (by kernel_rfl) ?_
  refine W_nil ?_
  refine N_then ?_
  obtain ⟨out2291, hw2292, hmo2293⟩ := gx_bind hm
  refine G_meet (fun a w' => ∃ (o2294 : Int), out2291 = .inl o2294 ∧ Mem [] w w' [] ∧ Sat Try.f29.ntmps [(1, .int .i64 o2294)] a) ?_ ?_
  · refine G_block ?_
    refine G_while (σ := Int × Int) (ρ := (Int) ⊕ (Int)) (fun s2284 a w' => Mem [] w w' [] ∧ Sat Try.f29.ntmps [(0, .slice p2250 x2248.length c2251), (1, .int .i64 s2284.1), (5, .int .i64 s2284.2)] a) hw2292 (fun a ha => ⟨M0.pick [] (by kernel_rfl), ha.sub (by kernel_rfl)⟩) ?_
    clear hm
    intro s2284 x2285 hm hout2286 a2287 w2288 ⟨M2289, hS2290⟩
    refine G_use hS2290 ?_
    refine G_seq ?_
    refine G_seq ?_
    refine G_region ?_
    refine W_run 4 [(0, .slice p2250 x2248.length c2251), (1, .int .i64 s2284.1), (5, .int .i64 s2284.2), (9, .bool (decide (s2284.2 < (x2248.length : Int))))] w2288 (by kernel_rfl) ?_
    refine W_nil ?_
    refine N_then ?_
    rcases gx_bif hm with ⟨hc2295, hm⟩ | ⟨hc2295, hm⟩
    · refine G_cond_t (b := (decide (s2284.2 < (x2248.length : Int)))) hc2295 (by kernel_rfl) ?_
      refine G_skip ?_
      refine N_then ?_
      refine G_seq ?_
      refine G_block ?_
      refine G_seq ?_
      refine G_seq ?_
      refine G_region ?_
      refine W_run 2 [(0, .slice p2250 x2248.length c2251), (1, .int .i64 s2284.1), (5, .int .i64 s2284.2), (12, .slice p2250 x2248.length c2251), (13, .int .i64 s2284.2)] w2288 (by kernel_rfl) ?_
      obtain ⟨y2296, hy2296, hm⟩ := gx_bind hm
      refine W_val (elemP p2250 (s2284.2.toNat * 4)) w2288 (by kernel_rfl) (E_index (E := encEvent) _ _ _ x2248.length c2251 .i64 s2284.2 4 (y := y2296) rfl (by kernel_rfl) (by kernel_rfl) (by kernel_rfl) (h2252.mem0 M2289) rfl hy2296) ?_
      refine W_val (elemP p2250 (s2284.2.toNat * 4 + 0)) w2288 (by kernel_rfl) (E_fieldE (E := encEvent) _ _ 0 (s2284.2.toNat * 4) 0 rfl (by kernel_rfl) (by kernel_rfl) (h2252.mem0 M2289) hy2296) ?_
      refine W_val (.int .i64 y2296.Tick) w2288 (by kernel_rfl) (E_loadE (E := encEvent) _ _ false 1 s2284.2 0 (s2284.2.toNat * 4 + 0) y2296 (.int .i64 y2296.Tick) rfl (by kernel_rfl) (by kernel_rfl) (by kernel_rfl) (h2252.mem0 M2289) hy2296 rfl) ?_
      refine W_run 2 [(0, .slice p2250 x2248.length c2251), (1, .int .i64 s2284.1), (5, .int .i64 s2284.2), (18, .bool (y2296.Tick != s2284.1))] w2288 (by kernel_rfl) ?_
      refine W_nil ?_
      refine N_then ?_
      rcases gx_bif hm with ⟨hc2297, hm⟩ | ⟨hc2297, hm⟩
      · refine G_cond_t (b := (y2296.Tick != s2284.1)) hc2297 (by kernel_rfl) ?_
        refine G_seq ?_
        refine G_region ?_
        refine W_run 1 [(4, .int .i64 (-1))] w2288 (by kernel_rfl) ?_
        refine W_nil ?_
        refine N_then ?_
        refine G_ret ?_
        refine N_then_ret ?_
        refine N_block_ret ?_
        refine N_then_ret ?_
        refine N_then_ret ?_
        obtain rfl := Option.some.inj hm
        obtain rfl := hout2286 _ rfl
        have hm := hmo2293; simp only [Sum.elim_inr] at hm
        refine N_block_ret ?_
        refine N_meet_ret ?_
        refine N_then_ret ?_
        obtain rfl := Option.some.inj hm
        refine N_ret [.int .i64 (-1)] (RVs_cons (RV_tmp (by kernel_rfl)) RVs_nil) ?_
        exact ⟨rfl, M2289.pick [] (by kernel_rfl)⟩
      · refine G_cond_f (b := (y2296.Tick != s2284.1)) hc2297 (by kernel_rfl) ?_
        refine G_skip ?_
        refine N_then ?_
        refine G_seq ?_
        refine G_region ?_
        refine W_run 3 [(0, .slice p2250 x2248.length c2251), (1, .int .i64 (w64 (s2284.1 + 1))), (5, .int .i64 s2284.2)] w2288 (by kernel_rfl) ?_
        refine W_nil ?_
        refine N_then ?_
        refine G_seq ?_
        refine G_seq ?_
        refine G_region ?_
        refine W_run 2 [(0, .slice p2250 x2248.length c2251), (1, .int .i64 (w64 (s2284.1 + 1))), (5, .int .i64 s2284.2), (21, .slice p2250 x2248.length c2251), (22, .int .i64 s2284.2)] w2288 (by kernel_rfl) ?_
        obtain ⟨y2298, hy2298, hm⟩ := gx_bind hm
        refine W_val (elemP p2250 (s2284.2.toNat * 4)) w2288 (by kernel_rfl) (E_index (E := encEvent) _ _ _ x2248.length c2251 .i64 s2284.2 4 (y := y2298) rfl (by kernel_rfl) (by kernel_rfl) (by kernel_rfl) (h2252.mem0 M2289) rfl hy2298) ?_
        refine W_val (elemP p2250 (s2284.2.toNat * 4 + 1)) w2288 (by kernel_rfl) (E_fieldE (E := encEvent) _ _ 1 (s2284.2.toNat * 4) 1 rfl (by kernel_rfl) (by kernel_rfl) (h2252.mem0 M2289) hy2298) ?_
        refine W_val (.int .i64 y2298.Guest) w2288 (by kernel_rfl) (E_loadE (E := encEvent) _ _ false 1 s2284.2 1 (s2284.2.toNat * 4 + 1) y2298 (.int .i64 y2298.Guest) rfl (by kernel_rfl) (by kernel_rfl) (by kernel_rfl) (h2252.mem0 M2289) hy2298 rfl) ?_
        refine W_run 2 [(0, .slice p2250 x2248.length c2251), (1, .int .i64 (w64 (s2284.1 + 1))), (5, .int .i64 s2284.2), (27, .bool (y2298.Guest != (w64 (s2284.1 + 1))))] w2288 (by kernel_rfl) ?_
        refine W_nil ?_
        refine N_then ?_
        rcases gx_bif hm with ⟨hc2299, hm⟩ | ⟨hc2299, hm⟩
        · refine G_cond_t (b := (y2298.Guest != (w64 (s2284.1 + 1)))) hc2299 (by kernel_rfl) ?_
          refine G_seq ?_
          refine G_region ?_
          refine W_run 1 [(4, .int .i64 (-1))] w2288 (by kernel_rfl) ?_
          refine W_nil ?_
          refine N_then ?_
          refine G_ret ?_
          refine N_then_ret ?_
          refine N_block_ret ?_
          refine N_then_ret ?_
          refine N_then_ret ?_
          obtain rfl := Option.some.inj hm
          obtain rfl := hout2286 _ rfl
          have hm := hmo2293; simp only [Sum.elim_inr] at hm
          refine N_block_ret ?_
          refine N_meet_ret ?_
          refine N_then_ret ?_
          obtain rfl := Option.some.inj hm
          refine N_ret [.int .i64 (-1)] (RVs_cons (RV_tmp (by kernel_rfl)) RVs_nil) ?_
          exact ⟨rfl, M2289.pick [] (by kernel_rfl)⟩
        · refine G_cond_f (b := (y2298.Guest != (w64 (s2284.1 + 1)))) hc2299 (by kernel_rfl) ?_
          refine G_skip ?_
          refine N_then ?_
          refine G_seq ?_
          refine G_region ?_
          refine W_run 3 [(0, .slice p2250 x2248.length c2251), (1, .int .i64 (w64 ((w64 (s2284.1 + 1)) + 1))), (5, .int .i64 s2284.2)] w2288 (by kernel_rfl) ?_
          refine W_nil ?_
          refine N_then ?_
          refine G_seq ?_
          refine G_seq ?_
          refine G_quiet (by kernel_rfl) (by kernel_rfl) M2289 ?_
          refine Z_runs [.slice p2250 x2248.length c2251, .int .i64 s2284.2] [(0, .slice p2250 x2248.length c2251), (1, .int .i64 (w64 ((w64 (s2284.1 + 1)) + 1))), (5, .int .i64 s2284.2), (30, .slice p2250 x2248.length c2251), (31, .int .i64 s2284.2)] (fun w_ => by kernel_rfl) (by kernel_rfl) ?_
          obtain ⟨y2300, hy2300, hm⟩ := gx_bind hm
          refine Z_val (elemP p2250 (s2284.2.toNat * 4)) (by kernel_rfl) (fun w_ M_ => (E_index (E := encEvent) _ _ _ x2248.length c2251 .i64 s2284.2 4 (y := y2300) rfl (by kernel_rfl) (by kernel_rfl) (by kernel_rfl) (h2252.mem0 M_) rfl hy2300)) ?_
          refine Z_val (elemP p2250 (s2284.2.toNat * 4 + 2)) (by kernel_rfl) (fun w_ M_ => (E_fieldE (E := encEvent) _ _ 2 (s2284.2.toNat * 4) 2 rfl (by kernel_rfl) (by kernel_rfl) (h2252.mem0 M_) hy2300)) ?_
          refine Z_val (.string y2300.Kind) (by kernel_rfl) (fun w_ M_ => (E_loadE (E := encEvent) _ _ false 1 s2284.2 2 (s2284.2.toNat * 4 + 2) y2300 (.string y2300.Kind) rfl (by kernel_rfl) (by kernel_rfl) (by kernel_rfl) (h2252.mem0 M_) hy2300 rfl)) ?_
          refine Z_runs [.int .i64 (w64 ((w64 (s2284.1 + 1)) + 1))] [(0, .slice p2250 x2248.length c2251), (1, .int .i64 (w64 ((w64 (s2284.1 + 1)) + 1))), (5, .int .i64 s2284.2), (34, .string y2300.Kind), (35, .int .i64 (w64 ((w64 (s2284.1 + 1)) + 1)))] (fun w_ => by kernel_rfl) (by kernel_rfl) ?_
          obtain ⟨r2301, hr2301, hm⟩ := gx_bind hm
          refine Z_call 64 #[.int .i64 (w64 ((w64 (s2284.1 + 1)) + 1))] (.string r2301) (by kernel_rfl) (fun w_ => by kernel_rfl) (fun w_ M_ => (c_l_markText w_ (w64 ((w64 (s2284.1 + 1)) + 1)) hr2301).mono fun e w2_ h_ => ⟨h_.1, M_.call0 h_.2⟩) ?_
          refine Z_runs [.bool (!(y2300.Kind.toList == r2301.toList))] [(0, .slice p2250 x2248.length c2251), (1, .int .i64 (w64 ((w64 (s2284.1 + 1)) + 1))), (5, .int .i64 s2284.2), (37, .bool (!(y2300.Kind.toList == r2301.toList)))] (fun w_ => by kernel_rfl) (by kernel_rfl) ?_
          refine Z_end fun w2305 M2306 => ?_
          refine N_then ?_
          rcases gx_bif hm with ⟨hc2307, hm⟩ | ⟨hc2307, hm⟩
          · refine G_cond_t (b := (!(y2300.Kind.toList == r2301.toList))) hc2307 (by kernel_rfl) ?_
            refine G_seq ?_
            refine G_region ?_
            refine W_run 1 [(4, .int .i64 (-1))] w2305 (by kernel_rfl) ?_
            refine W_nil ?_
            refine N_then ?_
            refine G_ret ?_
            refine N_then_ret ?_
            refine N_block_ret ?_
            refine N_then_ret ?_
            refine N_then_ret ?_
            obtain rfl := Option.some.inj hm
            obtain rfl := hout2286 _ rfl
            have hm := hmo2293; simp only [Sum.elim_inr] at hm
            refine N_block_ret ?_
            refine N_meet_ret ?_
            refine N_then_ret ?_
            obtain rfl := Option.some.inj hm
            refine N_ret [.int .i64 (-1)] (RVs_cons (RV_tmp (by kernel_rfl)) RVs_nil) ?_
            exact ⟨rfl, M2306.pick [] (by kernel_rfl)⟩
          · refine G_cond_f (b := (!(y2300.Kind.toList == r2301.toList))) hc2307 (by kernel_rfl) ?_
            refine G_skip ?_
            refine N_then ?_
            refine G_seq ?_
            refine G_region ?_
            refine W_run 3 [(0, .slice p2250 x2248.length c2251), (1, .int .i64 (w64 ((w64 ((w64 (s2284.1 + 1)) + 1)) + 1))), (5, .int .i64 s2284.2)] w2305 (by kernel_rfl) ?_
            refine W_nil ?_
            refine N_then ?_
            refine G_seq ?_
            refine G_seq ?_
            refine G_region ?_
            refine W_run 2 [(0, .slice p2250 x2248.length c2251), (1, .int .i64 (w64 ((w64 ((w64 (s2284.1 + 1)) + 1)) + 1))), (5, .int .i64 s2284.2), (40, .slice p2250 x2248.length c2251), (41, .int .i64 s2284.2)] w2305 (by kernel_rfl) ?_
            obtain ⟨y2308, hy2308, hm⟩ := gx_bind hm
            refine W_val (elemP p2250 (s2284.2.toNat * 4)) w2305 (by kernel_rfl) (E_index (E := encEvent) _ _ _ x2248.length c2251 .i64 s2284.2 4 (y := y2308) rfl (by kernel_rfl) (by kernel_rfl) (by kernel_rfl) (h2252.mem0 M2306) rfl hy2308) ?_
            refine W_val (elemP p2250 (s2284.2.toNat * 4 + 3)) w2305 (by kernel_rfl) (E_fieldE (E := encEvent) _ _ 3 (s2284.2.toNat * 4) 3 rfl (by kernel_rfl) (by kernel_rfl) (h2252.mem0 M2306) hy2308) ?_
            refine W_val (.int .i64 y2308.Value) w2305 (by kernel_rfl) (E_loadE (E := encEvent) _ _ false 1 s2284.2 3 (s2284.2.toNat * 4 + 3) y2308 (.int .i64 y2308.Value) rfl (by kernel_rfl) (by kernel_rfl) (by kernel_rfl) (h2252.mem0 M2306) hy2308 rfl) ?_
            refine W_run 2 [(0, .slice p2250 x2248.length c2251), (1, .int .i64 (w64 ((w64 ((w64 (s2284.1 + 1)) + 1)) + 1))), (5, .int .i64 s2284.2), (46, .bool (y2308.Value != (w64 ((w64 ((w64 (s2284.1 + 1)) + 1)) + 1))))] w2305 (by kernel_rfl) ?_
            refine W_nil ?_
            refine N_then ?_
            rcases gx_bif hm with ⟨hc2309, hm⟩ | ⟨hc2309, hm⟩
            · refine G_cond_t (b := (y2308.Value != (w64 ((w64 ((w64 (s2284.1 + 1)) + 1)) + 1)))) hc2309 (by kernel_rfl) ?_
              refine G_seq ?_
              refine G_region ?_
              refine W_run 1 [(4, .int .i64 (-1))] w2305 (by kernel_rfl) ?_
              refine W_nil ?_
              refine N_then ?_
              refine G_ret ?_
              refine N_then_ret ?_
              refine N_block_ret ?_
              refine N_then_ret ?_
              refine N_then_ret ?_
              obtain rfl := Option.some.inj hm
              obtain rfl := hout2286 _ rfl
              have hm := hmo2293; simp only [Sum.elim_inr] at hm
              refine N_block_ret ?_
              refine N_meet_ret ?_
              refine N_then_ret ?_
              obtain rfl := Option.some.inj hm
              refine N_ret [.int .i64 (-1)] (RVs_cons (RV_tmp (by kernel_rfl)) RVs_nil) ?_
              exact ⟨rfl, M2306.pick [] (by kernel_rfl)⟩
            · refine G_cond_f (b := (y2308.Value != (w64 ((w64 ((w64 (s2284.1 + 1)) + 1)) + 1)))) hc2309 (by kernel_rfl) ?_
              refine G_skip ?_
              refine N_then ?_
              refine G_region ?_
              refine W_run 3 [(0, .slice p2250 x2248.length c2251), (1, .int .i64 (w64 ((w64 ((w64 ((w64 (s2284.1 + 1)) + 1)) + 1)) + 1))), (5, .int .i64 s2284.2)] w2305 (by kernel_rfl) ?_
              refine W_nil ?_
              refine N_block ?_
              refine N_then ?_
              refine G_region ?_
              refine W_run 3 [(0, .slice p2250 x2248.length c2251), (1, .int .i64 (w64 ((w64 ((w64 ((w64 (s2284.1 + 1)) + 1)) + 1)) + 1))), (5, .int .i64 (w64 (s2284.2 + 1)))] w2305 (by kernel_rfl) ?_
              refine W_nil ?_
              obtain rfl := Option.some.inj hm
              exact N_loop fun a ha => ⟨_, rfl, M2306.pick [] (by kernel_rfl), ha.sub (by kernel_rfl)⟩
    · refine G_cond_f (b := (decide (s2284.2 < (x2248.length : Int)))) hc2295 (by kernel_rfl) ?_
      refine G_exit ?_
      refine N_then_exit ?_
      refine N_then_exit ?_
      refine N_block_eq ?_
      obtain rfl := Option.some.inj hm
      obtain rfl := hout2286 _ rfl
      exact N_meet fun a ha => ⟨_, rfl, M2289.pick [] (by kernel_rfl), ha.sub (by kernel_rfl)⟩
  · intro a2310 w2311 ⟨o2294, hout_, M2312, hS2313⟩
    refine N_use hS2313 ?_
    subst hout_
    have hm := hmo2293; simp only [Sum.elim_inl] at hm
    refine N_then ?_
    refine G_seq ?_
    refine G_region ?_
    refine W_run 2 [(4, .int .i64 o2294)] w2311 (by kernel_rfl) ?_
    refine W_nil ?_
    refine N_then ?_
    refine G_ret ?_
    obtain rfl := Option.some.inj hm
    refine N_ret [.int .i64 o2294] (RVs_cons (RV_tmp (by kernel_rfl)) RVs_nil) ?_
    exact ⟨rfl, M2312.pick [] (by kernel_rfl)⟩
theorem c_l_FnExactEventsOf (w : World) (x1387 : List Event) (p1389 : Option Addr) (c1390 : Nat) (h1391 : rdS encEvent w x1387 p1389 c1390) (x1392 : Int) {r : Bool} (hm : M.l_FnExactEventsOf x1387 x1392 = some r) :
    Calls Try.prog 7 #[.slice p1389 x1387.length c1390, .int .i64 x1392] w fun e w' => e = .returned (.bool r) ∧ Mem [] w w' [] := by
  unfold M.l_FnExactEventsOf at hm
  refine C_enter Try.func7 rfl (by kernel_rfl) ?_
  have M0 := Mem.refl [] w
  refine G_seq ?_
  refine G_region ?_
  refine W_run 1 [(0, .slice p1389 x1387.length c1390), (1, .int .i64 x1392)] w (by kernel_rfl) ?_
  refine W_nil ?_
  refine N_then ?_
  refine G_seq ?_
  refine G_region ?_
  refine W_run 1 [(0, .slice p1389 x1387.length c1390), (1, .int .i64 x1392), (5, .int .i64 1048576)] w (by kernel_rfl) ?_
  refine W_nil ?_
  refine N_then ?_
  refine G_seq ?_
  refine G_region ?_
  refine W_run 2 [(0, .slice p1389 x1387.length c1390), (1, .int .i64 x1392), (5, .int .i64 1048576), (16, .slice p1389 x1387.length c1390), (17, .int .i64 1048576)] w (by kernel_rfl) ?_
  obtain ⟨r1393, hr1393, hm⟩ := gx_bind hm
  refine W_call 17 #[.slice p1389 x1387.length c1390, .int .i64 1048576] (by kernel_rfl) (by kernel_rfl) ?_
  refine (c_l_szEventS w x1387 p1389 c1390 (h1391.mem0 M0) 1048576 hr1393).mono ?_
  rintro e_ w1394 ⟨rfl, K1395⟩
  have M1396 := M0.call0 K1395
  refine ⟨_, rfl, ?_⟩
  refine W_run 1 [(0, .slice p1389 x1387.length c1390), (1, .int .i64 x1392), (5, .int .i64 r1393)] w1394 (by kernel_rfl) ?_
  refine W_nil ?_
  refine N_then ?_
  refine G_seq ?_
  refine G_seq ?_
  refine G_region ?_
  refine W_run 2 [(0, .slice p1389 x1387.length c1390), (1, .int .i64 x1392), (20, .bool (decide (r1393 < 0)))] w1394 (by kernel_rfl) ?_
  refine W_nil ?_
  refine N_then ?_
  rcases gx_bif hm with ⟨hc1397, hm⟩ | ⟨hc1397, hm⟩
  · refine G_cond_t (b := (decide (r1393 < 0))) hc1397 (by kernel_rfl) ?_
    refine G_seq ?_
    refine G_region ?_
    refine W_run 1 [(4, .bool true)] w1394 (by kernel_rfl) ?_
    refine W_nil ?_
    refine N_then ?_
    refine G_ret ?_
    refine N_then_ret ?_
    obtain rfl := Option.some.inj hm
    refine N_ret [.bool true] (RVs_cons (RV_tmp (by kernel_rfl)) RVs_nil) ?_
    exact ⟨rfl, M1396.pick [] (by kernel_rfl)⟩
  · refine G_cond_f (b := (decide (r1393 < 0))) hc1397 (by kernel_rfl) ?_
    refine G_skip ?_
    refine N_then ?_
    refine G_seq ?_
    refine G_region ?_
    refine W_run 1 [(0, .slice p1389 x1387.length c1390), (1, .int .i64 x1392), (22, .slice p1389 x1387.length c1390)] w1394 (by kernel_rfl) ?_
    obtain ⟨r1398, hr1398, hm⟩ := gx_bind hm
    refine W_call 19 #[.slice p1389 x1387.length c1390] (by kernel_rfl) (by kernel_rfl) ?_
    refine (c_l_toEventS w1394 x1387 p1389 c1390 (h1391.mem0 M1396) hr1398).mono ?_
    rintro e_ w1404 ⟨p1400, c1401, sg1402, rfl, ho1403, K1405⟩
    have M1406 := M1396.call K1405
    refine ⟨_, rfl, ?_⟩
    refine W_run 1 [(0, .slice p1389 x1387.length c1390), (1, .int .i64 x1392), (23, .slice p1400 r1398.length c1401), (24, .int .i64 x1392)] w1404 (by kernel_rfl) ?_
    obtain ⟨r1625, hr1625, hm⟩ := gx_bind hm
    refine W_call 26 #[.slice p1400 r1398.length c1401, .int .i64 x1392] (by kernel_rfl) (by kernel_rfl) ?_
    refine (c_s_EventsOf w1404 r1398 p1400 c1401 (ho1403.rd M1406 0 (by kernel_rfl)) x1392 hr1625).mono ?_
    rintro e_ w1631 ⟨p1627, c1628, sg1629, rfl, ho1630, K1632⟩
    have M1633 := M1406.call K1632
    refine ⟨_, rfl, ?_⟩
    refine W_run 5 [(0, .slice p1389 x1387.length c1390), (1, .int .i64 x1392), (6, .slice p1627 r1625.1.length c1628), (7, .bool r1625.2)] w1631 (by kernel_rfl) ?_
    refine W_nil ?_
    refine N_then ?_
    refine G_seq ?_
    refine G_region ?_
    refine W_run 1 [(0, .slice p1389 x1387.length c1390), (1, .int .i64 x1392), (6, .slice p1627 r1625.1.length c1628), (7, .bool r1625.2), (28, .slice p1389 x1387.length c1390)] w1631 (by kernel_rfl) ?_
    obtain ⟨r1634, hr1634, hm⟩ := gx_bind hm
    refine W_call 19 #[.slice p1389 x1387.length c1390] (by kernel_rfl) (by kernel_rfl) ?_
    refine (c_l_toEventS w1631 x1387 p1389 c1390 (h1391.mem0 M1633) hr1634).mono ?_
    rintro e_ w1640 ⟨p1636, c1637, sg1638, rfl, ho1639, K1641⟩
    have M1642 := M1633.call K1641
    refine ⟨_, rfl, ?_⟩
    refine W_run 1 [(0, .slice p1389 x1387.length c1390), (1, .int .i64 x1392), (6, .slice p1627 r1625.1.length c1628), (7, .bool r1625.2), (8, .slice p1636 r1634.length c1637)] w1640 (by kernel_rfl) ?_
    refine W_nil ?_
    refine N_then ?_
    refine G_seq ?_
    refine G_region ?_
    refine W_run 2 [(0, .slice p1389 x1387.length c1390), (1, .int .i64 x1392), (6, .slice p1627 r1625.1.length c1628), (7, .bool r1625.2), (8, .slice p1636 r1634.length c1637), (31, .slice p1636 r1634.length c1637), (32, .int .i64 x1392)] w1640 (by kernel_rfl) ?_
    obtain ⟨r2021, hr2021, hm⟩ := gx_bind hm
    refine W_call 27 #[.slice p1636 r1634.length c1637, .int .i64 x1392] (by kernel_rfl) (by kernel_rfl) ?_
    refine (c_i_EventsOf w1640 r1634 p1636 c1637 (ho1639.rd M1642 2 (by kernel_rfl)) x1392 hr2021).mono ?_
    rintro e_ w2027 ⟨p2023, c2024, sg2025, rfl, ho2026, K2028⟩
    have M2029 := M1642.call K2028
    refine ⟨_, rfl, ?_⟩
    refine W_run 5 [(0, .slice p1389 x1387.length c1390), (1, .int .i64 x1392), (6, .slice p1627 r1625.1.length c1628), (7, .bool r1625.2), (8, .slice p1636 r1634.length c1637), (9, .slice p2023 r2021.1.length c2024), (10, .bool r2021.2)] w2027 (by kernel_rfl) ?_
    refine W_nil ?_
    refine N_then ?_
    refine G_seq ?_
    refine G_seq ?_
    obtain ⟨o2035, ho2036, hm2037⟩ := gx_bind hm
    refine G_meet (fun a w' => Mem [] w w' [sg1629, sg1638, sg2025] ∧ Sat Try.f7.ntmps [(0, .slice p1389 x1387.length c1390), (1, .int .i64 x1392), (6, .slice p1627 r1625.1.length c1628), (7, .bool r1625.2), (8, .slice p1636 r1634.length c1637), (9, .slice p2023 r2021.1.length c2024), (10, .bool r2021.2), (44, .bool o2035)] a) ?_ ?_
    · have hm := ho2036
      refine G_region ?_
      refine W_run 2 [(0, .slice p1389 x1387.length c1390), (1, .int .i64 x1392), (6, .slice p1627 r1625.1.length c1628), (7, .bool r1625.2), (8, .slice p1636 r1634.length c1637), (9, .slice p2023 r2021.1.length c2024), (10, .bool r2021.2), (36, .slice p2023 r2021.1.length c2024), (37, .slice p1627 r1625.1.length c1628)] w2027 (by kernel_rfl) ?_
      obtain ⟨r2038, hr2038, hm⟩ := gx_bind hm
      refine W_call 21 #[.slice p2023 r2021.1.length c2024, .slice p1627 r1625.1.length c1628] (by kernel_rfl) (by kernel_rfl) ?_
      refine (c_l_eqEventS w2027 r2021.1 p2023 c2024 (ho2026.rd M2029 3 (by kernel_rfl)) r1625.1 p1627 c1628 (ho1630.rd M2029 1 (by kernel_rfl)) hr2038).mono ?_
      rintro e_ w2039 ⟨rfl, K2040⟩
      have M2041 := M2029.call0 K2040
      refine ⟨_, rfl, ?_⟩
      refine W_run 2 [(0, .slice p1389 x1387.length c1390), (1, .int .i64 x1392), (6, .slice p1627 r1625.1.length c1628), (7, .bool r1625.2), (8, .slice p1636 r1634.length c1637), (9, .slice p2023 r2021.1.length c2024), (10, .bool r2021.2), (40, .bool (!r2038))] w2039 (by kernel_rfl) ?_
      rcases gx_bif hm with ⟨hc2042, hm⟩ | ⟨hc2042, hm⟩
      · refine W_known 40 true (by kernel_rfl) hc2042 ?_
        refine W_run 4 [(0, .slice p1389 x1387.length c1390), (1, .int .i64 x1392), (6, .slice p1627 r1625.1.length c1628), (7, .bool r1625.2), (8, .slice p1636 r1634.length c1637), (9, .slice p2023 r2021.1.length c2024), (10, .bool r2021.2), (44, .bool true)] w2039 (by kernel_rfl) ?_
        refine W_nil ?_
        obtain rfl := Option.some.inj hm
        exact N_meet fun a ha => ⟨M2041.pick [1, 2, 3] (by kernel_rfl), ha.sub (by kernel_rfl)⟩
      · refine W_known 40 false (by kernel_rfl) hc2042 ?_
        refine W_run 4 [(0, .slice p1389 x1387.length c1390), (1, .int .i64 x1392), (6, .slice p1627 r1625.1.length c1628), (7, .bool r1625.2), (8, .slice p1636 r1634.length c1637), (9, .slice p2023 r2021.1.length c2024), (10, .bool r2021.2), (44, .bool (!(r2021.2 == r1625.2)))] w2039 (by kernel_rfl) ?_
        refine W_nil ?_
        obtain rfl := Option.some.inj hm
        exact N_meet fun a ha => ⟨M2041.pick [1, 2, 3] (by kernel_rfl), ha.sub (by kernel_rfl)⟩
    · intro a2045 w2043 ⟨M2044, hS2046⟩
      refine N_use hS2046 ?_
      have hm := hm2037
      refine N_then ?_
      rcases gx_bif hm with ⟨hc2047, hm⟩ | ⟨hc2047, hm⟩
      · refine G_cond_t (b := o2035) hc2047 (by kernel_rfl) ?_
        refine G_seq ?_
        refine G_region ?_
        refine W_run 1 [(4, .bool false)] w2043 (by kernel_rfl) ?_
        refine W_nil ?_
        refine N_then ?_
        refine G_ret ?_
        refine N_then_ret ?_
        obtain rfl := Option.some.inj hm
        refine N_ret [.bool false] (RVs_cons (RV_tmp (by kernel_rfl)) RVs_nil) ?_
        exact ⟨rfl, M2044.pick [] (by kernel_rfl)⟩
      · refine G_cond_f (b := o2035) hc2047 (by kernel_rfl) ?_
        refine G_skip ?_
        refine N_then ?_
        refine G_seq ?_
        refine G_seq ?_
        refine G_region ?_
        refine W_run 2 [(0, .slice p1389 x1387.length c1390), (1, .int .i64 x1392), (6, .slice p1627 r1625.1.length c1628), (7, .bool r1625.2), (8, .slice p1636 r1634.length c1637), (9, .slice p2023 r2021.1.length c2024), (10, .bool r2021.2), (45, .slice p1636 r1634.length c1637), (46, .slice p1389 x1387.length c1390)] w2043 (by kernel_rfl) ?_
        obtain ⟨r2048, hr2048, hm⟩ := gx_bind hm
        refine W_call 19 #[.slice p1389 x1387.length c1390] (by kernel_rfl) (by kernel_rfl) ?_
        refine (c_l_toEventS w2043 x1387 p1389 c1390 (h1391.mem0 M2044) hr2048).mono ?_
        rintro e_ w2054 ⟨p2050, c2051, sg2052, rfl, ho2053, K2055⟩
        have M2056 := M2044.call K2055
        refine ⟨_, rfl, ?_⟩
        obtain ⟨r2057, hr2057, hm⟩ := gx_bind hm
        refine W_call 21 #[.slice p1636 r1634.length c1637, .slice p2050 r2048.length c2051] (by kernel_rfl) (by kernel_rfl) ?_
        refine (c_l_eqEventS w2054 r1634 p1636 c1637 (ho1639.rd M2056 1 (by kernel_rfl)) r2048 p2050 c2051 (ho2053.rd M2056 3 (by kernel_rfl)) hr2057).mono ?_
        rintro e_ w2058 ⟨rfl, K2059⟩
        have M2060 := M2056.call0 K2059
        refine ⟨_, rfl, ?_⟩
        refine W_run 1 [(0, .slice p1389 x1387.length c1390), (1, .int .i64 x1392), (6, .slice p1627 r1625.1.length c1628), (7, .bool r1625.2), (8, .slice p1636 r1634.length c1637), (9, .slice p2023 r2021.1.length c2024), (10, .bool r2021.2), (49, .bool (!r2057))] w2058 (by kernel_rfl) ?_
        refine W_nil ?_
        refine N_then ?_
        rcases gx_bif hm with ⟨hc2061, hm⟩ | ⟨hc2061, hm⟩
        · refine G_cond_t (b := (!r2057)) hc2061 (by kernel_rfl) ?_
          refine G_seq ?_
          refine G_region ?_
          refine W_run 1 [(4, .bool false)] w2058 (by kernel_rfl) ?_
          refine W_nil ?_
          refine N_then ?_
          refine G_ret ?_
          refine N_then_ret ?_
          obtain rfl := Option.some.inj hm
          refine N_ret [.bool false] (RVs_cons (RV_tmp (by kernel_rfl)) RVs_nil) ?_
          exact ⟨rfl, M2060.pick [] (by kernel_rfl)⟩
        · refine G_cond_f (b := (!r2057)) hc2061 (by kernel_rfl) ?_
          refine G_skip ?_
          refine N_then ?_
          refine G_seq ?_
          refine G_region ?_
          refine W_run 1 [(0, .slice p1389 x1387.length c1390), (1, .int .i64 x1392), (6, .slice p1627 r1625.1.length c1628), (7, .bool r1625.2), (8, .slice p1636 r1634.length c1637), (9, .slice p2023 r2021.1.length c2024), (10, .bool r2021.2), (11, .int .i64 1)] w2058 (by kernel_rfl) ?_
          refine W_nil ?_
          refine N_then ?_
          refine G_seq ?_
          refine G_region ?_
          refine W_run 2 [(0, .slice p1389 x1387.length c1390), (1, .int .i64 x1392), (6, .slice p1627 r1625.1.length c1628), (7, .bool r1625.2), (9, .slice p2023 r2021.1.length c2024), (10, .bool r2021.2), (11, .int .i64 1), (50, .slice p1636 r1634.length c1637), (51, .int .i64 1)] w2058 (by kernel_rfl) ?_
          obtain ⟨r2214, hr2214, hm⟩ := gx_bind hm
          refine W_call 28 #[.slice p1636 r1634.length c1637, .int .i64 1] (by kernel_rfl) (by kernel_rfl) ?_
          refine (c_l_markEventS w2058 r1634 p1636 c1637 sg1638 ho1639 1 (M2060.hasPick [1]) (M2060.nodupPick [1] (by kernel_rfl)) hr2214).mono ?_
          rintro e_ w2218 ⟨sg2215, rfl, ho2216, hl2217, K2219⟩
          have M2220 := M2060.callF' [1] [0, 2, 3] (by kernel_rfl) K2219
          refine ⟨_, rfl, ?_⟩
          refine W_conv 50 (.slice p1636 r1634.length c1637) (.slice p1636 r2214.2.length c1637) (by kernel_rfl) (by first | rw [hl2217] | rw [hl2217]) ?_
          refine W_run 1 [(0, .slice p1389 x1387.length c1390), (1, .int .i64 x1392), (6, .slice p1627 r1625.1.length c1628), (7, .bool r1625.2), (9, .slice p2023 r2021.1.length c2024), (10, .bool r2021.2), (11, .int .i64 r2214.1)] w2218 (by kernel_rfl) ?_
          refine W_nil ?_
          refine N_then ?_
          refine G_seq ?_
          refine G_seq ?_
          obtain ⟨o2227, ho2228, hm2229⟩ := gx_bind hm
          refine G_meet (fun a w' => Mem [] w w' [sg1629, sg2025] ∧ Sat Try.f7.ntmps [(0, .slice p1389 x1387.length c1390), (1, .int .i64 x1392), (6, .slice p1627 r1625.1.length c1628), (7, .bool r1625.2), (9, .slice p2023 r2021.1.length c2024), (65, .bool o2227)] a) ?_ ?_
          · have hm := ho2228
            refine G_region ?_
            refine W_run 3 [(0, .slice p1389 x1387.length c1390), (1, .int .i64 x1392), (6, .slice p1627 r1625.1.length c1628), (7, .bool r1625.2), (9, .slice p2023 r2021.1.length c2024), (10, .bool r2021.2), (55, .bool (decide (r2214.1 < 0)))] w2218 (by kernel_rfl) ?_
            rcases gx_bif hm with ⟨hc2230, hm⟩ | ⟨hc2230, hm⟩
            · refine W_known 55 true (by kernel_rfl) hc2230 ?_
              refine W_run 10 [(0, .slice p1389 x1387.length c1390), (1, .int .i64 x1392), (6, .slice p1627 r1625.1.length c1628), (7, .bool r1625.2), (9, .slice p2023 r2021.1.length c2024), (65, .bool true)] w2218 (by kernel_rfl) ?_
              refine W_nil ?_
              obtain rfl := Option.some.inj hm
              exact N_meet fun a ha => ⟨M2220.pick [0, 1] (by kernel_rfl), ha.sub (by kernel_rfl)⟩
            · refine W_known 55 false (by kernel_rfl) hc2230 ?_
              refine W_run 2 [(0, .slice p1389 x1387.length c1390), (1, .int .i64 x1392), (6, .slice p1627 r1625.1.length c1628), (7, .bool r1625.2), (9, .slice p2023 r2021.1.length c2024), (10, .bool r2021.2), (55, .bool false), (56, .slice p2023 r2021.1.length c2024), (57, .slice p1627 r1625.1.length c1628)] w2218 (by kernel_rfl) ?_
              obtain ⟨r2231, hr2231, hm⟩ := gx_bind hm
              refine W_call 21 #[.slice p2023 r2021.1.length c2024, .slice p1627 r1625.1.length c1628] (by kernel_rfl) (by kernel_rfl) ?_
              refine (c_l_eqEventS w2218 r2021.1 p2023 c2024 (ho2026.rd M2220 1 (by kernel_rfl)) r1625.1 p1627 c1628 (ho1630.rd M2220 0 (by kernel_rfl)) hr2231).mono ?_
              rintro e_ w2232 ⟨rfl, K2233⟩
              have M2234 := M2220.call0 K2233
              refine ⟨_, rfl, ?_⟩
              refine W_run 3 [(0, .slice p1389 x1387.length c1390), (1, .int .i64 x1392), (6, .slice p1627 r1625.1.length c1628), (7, .bool r1625.2), (9, .slice p2023 r2021.1.length c2024), (10, .bool r2021.2), (61, .bool (!r2231))] w2232 (by kernel_rfl) ?_
              rcases gx_bif hm with ⟨hc2235, hm⟩ | ⟨hc2235, hm⟩
              · refine W_known 61 true (by kernel_rfl) hc2235 ?_
                refine W_run 4 [(0, .slice p1389 x1387.length c1390), (1, .int .i64 x1392), (6, .slice p1627 r1625.1.length c1628), (7, .bool r1625.2), (9, .slice p2023 r2021.1.length c2024), (65, .bool true)] w2232 (by kernel_rfl) ?_
                refine W_nil ?_
                obtain rfl := Option.some.inj hm
                exact N_meet fun a ha => ⟨M2234.pick [0, 1] (by kernel_rfl), ha.sub (by kernel_rfl)⟩
              · refine W_known 61 false (by kernel_rfl) hc2235 ?_
                refine W_run 4 [(0, .slice p1389 x1387.length c1390), (1, .int .i64 x1392), (6, .slice p1627 r1625.1.length c1628), (7, .bool r1625.2), (9, .slice p2023 r2021.1.length c2024), (65, .bool (!(r2021.2 == r1625.2)))] w2232 (by kernel_rfl) ?_
                refine W_nil ?_
                obtain rfl := Option.some.inj hm
                exact N_meet fun a ha => ⟨M2234.pick [0, 1] (by kernel_rfl), ha.sub (by kernel_rfl)⟩
          · intro a2238 w2236 ⟨M2237, hS2239⟩
            refine N_use hS2239 ?_
            have hm := hm2229
            refine N_then ?_
            rcases gx_bif hm with ⟨hc2240, hm⟩ | ⟨hc2240, hm⟩
            · refine G_cond_t (b := o2227) hc2240 (by kernel_rfl) ?_
              refine G_seq ?_
              refine G_region ?_
              refine W_run 1 [(4, .bool false)] w2236 (by kernel_rfl) ?_
              refine W_nil ?_
              refine N_then ?_
              refine G_ret ?_
              refine N_then_ret ?_
              obtain rfl := Option.some.inj hm
              refine N_ret [.bool false] (RVs_cons (RV_tmp (by kernel_rfl)) RVs_nil) ?_
              exact ⟨rfl, M2237.pick [] (by kernel_rfl)⟩
            · refine G_cond_f (b := o2227) hc2240 (by kernel_rfl) ?_
              refine G_skip ?_
              refine N_then ?_
              refine G_seq ?_
              refine G_region ?_
              refine W_run 1 [(0, .slice p1389 x1387.length c1390), (1, .int .i64 x1392), (6, .slice p1627 r1625.1.length c1628), (7, .bool r1625.2), (9, .slice p2023 r2021.1.length c2024), (12, .int .i64 1)] w2236 (by kernel_rfl) ?_
              refine W_nil ?_
              refine N_then ?_
              refine G_seq ?_
              refine G_region ?_
              refine W_run 2 [(0, .slice p1389 x1387.length c1390), (1, .int .i64 x1392), (6, .slice p1627 r1625.1.length c1628), (7, .bool r1625.2), (9, .slice p2023 r2021.1.length c2024), (12, .int .i64 1), (66, .slice p2023 r2021.1.length c2024), (67, .int .i64 1)] w2236 (by kernel_rfl) ?_
              obtain ⟨r2241, hr2241, hm⟩ := gx_bind hm
              refine W_call 28 #[.slice p2023 r2021.1.length c2024, .int .i64 1] (by kernel_rfl) (by kernel_rfl) ?_
              refine (c_l_markEventS w2236 r2021.1 p2023 c2024 sg2025 ho2026 1 (M2237.hasPick [1]) (M2237.nodupPick [1] (by kernel_rfl)) hr2241).mono ?_
              rintro e_ w2245 ⟨sg2242, rfl, ho2243, hl2244, K2246⟩
              have M2247 := M2237.callF' [1] [0] (by kernel_rfl) K2246
              refine ⟨_, rfl, ?_⟩
              refine W_conv 9 (.slice p2023 r2021.1.length c2024) (.slice p2023 r2241.2.length c2024) (by kernel_rfl) (by first | rw [hl2244] | rw [hl2244]) ?_
              refine W_conv 66 (.slice p2023 r2021.1.length c2024) (.slice p2023 r2241.2.length c2024) (by kernel_rfl) (by first | rw [hl2244] | rw [hl2244]) ?_
              refine W_run 1 [(0, .slice p1389 x1387.length c1390), (1, .int .i64 x1392), (6, .slice p1627 r1625.1.length c1628), (7, .bool r1625.2), (9, .slice p2023 r2241.2.length c2024), (12, .int .i64 r2241.1)] w2245 (by kernel_rfl) ?_
              refine W_nil ?_
              refine N_then ?_
              refine G_seq ?_
              refine G_region ?_
              refine W_run 1 [(0, .slice p1389 x1387.length c1390), (1, .int .i64 x1392), (6, .slice p1627 r1625.1.length c1628), (7, .bool r1625.2), (9, .slice p2023 r2241.2.length c2024), (12, .int .i64 r2241.1), (13, .int .i64 1)] w2245 (by kernel_rfl) ?_
              refine W_nil ?_
              refine N_then ?_
              refine G_seq ?_
              refine G_region ?_
              refine W_run 2 [(0, .slice p1389 x1387.length c1390), (1, .int .i64 x1392), (6, .slice p1627 r1625.1.length c1628), (7, .bool r1625.2), (9, .slice p2023 r2241.2.length c2024), (12, .int .i64 r2241.1), (13, .int .i64 1), (69, .slice p2023 r2241.2.length c2024), (70, .int .i64 1)] w2245 (by kernel_rfl) ?_
              obtain ⟨r2314, hr2314, hm⟩ := gx_bind hm
              refine W_call 29 #[.slice p2023 r2241.2.length c2024, .int .i64 1] (by kernel_rfl) (by kernel_rfl) ?_
              refine (c_l_heldEventS w2245 r2241.2 p2023 c2024 (ho2243.rd M2247 1 (by kernel_rfl)) 1 hr2314).mono ?_
              rintro e_ w2315 ⟨rfl, K2316⟩
              have M2317 := M2247.call0 K2316
              refine ⟨_, rfl, ?_⟩
              refine W_run 1 [(0, .slice p1389 x1387.length c1390), (1, .int .i64 x1392), (6, .slice p1627 r1625.1.length c1628), (7, .bool r1625.2), (9, .slice p2023 r2241.2.length c2024), (12, .int .i64 r2241.1), (13, .int .i64 r2314)] w2315 (by kernel_rfl) ?_
              refine W_nil ?_
              refine N_then ?_
              refine G_seq ?_
              refine G_seq ?_
              refine G_region ?_
              refine W_run 2 [(0, .slice p1389 x1387.length c1390), (1, .int .i64 x1392), (6, .slice p1627 r1625.1.length c1628), (7, .bool r1625.2), (9, .slice p2023 r2241.2.length c2024), (12, .int .i64 r2241.1), (13, .int .i64 r2314), (73, .bool (decide (r2314 < 0)))] w2315 (by kernel_rfl) ?_
              refine W_nil ?_
              refine N_then ?_
              rcases gx_bif hm with ⟨hc2318, hm⟩ | ⟨hc2318, hm⟩
              · refine G_cond_t (b := (decide (r2314 < 0))) hc2318 (by kernel_rfl) ?_
                refine G_seq ?_
                refine G_region ?_
                refine W_run 1 [(4, .bool false)] w2315 (by kernel_rfl) ?_
                refine W_nil ?_
                refine N_then ?_
                refine G_ret ?_
                refine N_then_ret ?_
                obtain rfl := Option.some.inj hm
                refine N_ret [.bool false] (RVs_cons (RV_tmp (by kernel_rfl)) RVs_nil) ?_
                exact ⟨rfl, M2317.pick [] (by kernel_rfl)⟩
              · refine G_cond_f (b := (decide (r2314 < 0))) hc2318 (by kernel_rfl) ?_
                refine G_skip ?_
                refine N_then ?_
                refine G_seq ?_
                refine G_seq ?_
                refine G_region ?_
                refine W_run 3 [(0, .slice p1389 x1387.length c1390), (1, .int .i64 x1392), (6, .slice p1627 r1625.1.length c1628), (7, .bool r1625.2), (9, .slice p2023 r2241.2.length c2024), (12, .int .i64 r2241.1), (76, .bool (r2314 != r2241.1))] w2315 (by kernel_rfl) ?_
                refine W_nil ?_
                refine N_then ?_
                rcases gx_bif hm with ⟨hc2319, hm⟩ | ⟨hc2319, hm⟩
                · refine G_cond_t (b := (r2314 != r2241.1)) hc2319 (by kernel_rfl) ?_
                  refine G_seq ?_
                  refine G_region ?_
                  refine W_run 1 [(4, .bool false)] w2315 (by kernel_rfl) ?_
                  refine W_nil ?_
                  refine N_then ?_
                  refine G_ret ?_
                  refine N_then_ret ?_
                  obtain rfl := Option.some.inj hm
                  refine N_ret [.bool false] (RVs_cons (RV_tmp (by kernel_rfl)) RVs_nil) ?_
                  exact ⟨rfl, M2317.pick [] (by kernel_rfl)⟩
                · refine G_cond_f (b := (r2314 != r2241.1)) hc2319 (by kernel_rfl) ?_
                  refine G_skip ?_
                  refine N_then ?_
                  refine G_seq ?_
                  refine G_region ?_
                  refine W_run 1 [(1, .int .i64 x1392), (6, .slice p1627 r1625.1.length c1628), (7, .bool r1625.2), (9, .slice p2023 r2241.2.length c2024), (12, .int .i64 r2241.1), (78, .slice p1389 x1387.length c1390)] w2315 (by kernel_rfl) ?_
                  obtain ⟨r2320, hr2320, hm⟩ := gx_bind hm
                  refine W_call 19 #[.slice p1389 x1387.length c1390] (by kernel_rfl) (by kernel_rfl) ?_
                  refine (c_l_toEventS w2315 x1387 p1389 c1390 (h1391.mem0 M2317) hr2320).mono ?_
                  rintro e_ w2326 ⟨p2322, c2323, sg2324, rfl, ho2325, K2327⟩
                  have M2328 := M2317.call K2327
                  refine ⟨_, rfl, ?_⟩
                  refine W_run 1 [(6, .slice p1627 r1625.1.length c1628), (7, .bool r1625.2), (9, .slice p2023 r2241.2.length c2024), (12, .int .i64 r2241.1), (79, .slice p2322 r2320.length c2323), (80, .int .i64 x1392)] w2326 (by kernel_rfl) ?_
                  obtain ⟨r2329, hr2329, hm⟩ := gx_bind hm
                  refine W_call 27 #[.slice p2322 r2320.length c2323, .int .i64 x1392] (by kernel_rfl) (by kernel_rfl) ?_
                  refine (c_i_EventsOf w2326 r2320 p2322 c2323 (ho2325.rd M2328 2 (by kernel_rfl)) x1392 hr2329).mono ?_
                  rintro e_ w2335 ⟨p2331, c2332, sg2333, rfl, ho2334, K2336⟩
                  have M2337 := M2328.call K2336
                  refine ⟨_, rfl, ?_⟩
                  refine W_run 5 [(6, .slice p1627 r1625.1.length c1628), (7, .bool r1625.2), (9, .slice p2023 r2241.2.length c2024), (12, .int .i64 r2241.1), (14, .slice p2331 r2329.1.length c2332), (15, .bool r2329.2)] w2335 (by kernel_rfl) ?_
                  refine W_nil ?_
                  refine N_then ?_
                  refine G_seq ?_
                  refine G_seq ?_
                  obtain ⟨o2343, ho2344, hm2345⟩ := gx_bind hm
                  refine G_meet (fun a w' => Mem [] w w' [sg2242] ∧ Sat Try.f7.ntmps [(9, .slice p2023 r2241.2.length c2024), (12, .int .i64 r2241.1), (92, .bool o2343)] a) ?_ ?_
                  · have hm := ho2344
                    refine G_region ?_
                    refine W_run 2 [(7, .bool r1625.2), (9, .slice p2023 r2241.2.length c2024), (12, .int .i64 r2241.1), (15, .bool r2329.2), (84, .slice p2331 r2329.1.length c2332), (85, .slice p1627 r1625.1.length c1628)] w2335 (by kernel_rfl) ?_
                    obtain ⟨r2346, hr2346, hm⟩ := gx_bind hm
                    refine W_call 21 #[.slice p2331 r2329.1.length c2332, .slice p1627 r1625.1.length c1628] (by kernel_rfl) (by kernel_rfl) ?_
                    refine (c_l_eqEventS w2335 r2329.1 p2331 c2332 (ho2334.rd M2337 3 (by kernel_rfl)) r1625.1 p1627 c1628 (ho1630.rd M2337 0 (by kernel_rfl)) hr2346).mono ?_
                    rintro e_ w2347 ⟨rfl, K2348⟩
                    have M2349 := M2337.call0 K2348
                    refine ⟨_, rfl, ?_⟩
                    refine W_run 2 [(7, .bool r1625.2), (9, .slice p2023 r2241.2.length c2024), (12, .int .i64 r2241.1), (15, .bool r2329.2), (88, .bool (!r2346))] w2347 (by kernel_rfl) ?_
                    rcases gx_bif hm with ⟨hc2350, hm⟩ | ⟨hc2350, hm⟩
                    · refine W_known 88 true (by kernel_rfl) hc2350 ?_
                      refine W_run 4 [(9, .slice p2023 r2241.2.length c2024), (12, .int .i64 r2241.1), (92, .bool true)] w2347 (by kernel_rfl) ?_
                      refine W_nil ?_
                      obtain rfl := Option.some.inj hm
                      exact N_meet fun a ha => ⟨M2349.pick [1] (by kernel_rfl), ha.sub (by kernel_rfl)⟩
                    · refine W_known 88 false (by kernel_rfl) hc2350 ?_
                      refine W_run 4 [(9, .slice p2023 r2241.2.length c2024), (12, .int .i64 r2241.1), (92, .bool (!(r2329.2 == r1625.2)))] w2347 (by kernel_rfl) ?_
                      refine W_nil ?_
                      obtain rfl := Option.some.inj hm
                      exact N_meet fun a ha => ⟨M2349.pick [1] (by kernel_rfl), ha.sub (by kernel_rfl)⟩
                  · intro a2353 w2351 ⟨M2352, hS2354⟩
                    refine N_use hS2354 ?_
                    have hm := hm2345
                    refine N_then ?_
                    rcases gx_bif hm with ⟨hc2355, hm⟩ | ⟨hc2355, hm⟩
                    · refine G_cond_t (b := o2343) hc2355 (by kernel_rfl) ?_
                      refine G_seq ?_
                      refine G_region ?_
                      refine W_run 1 [(4, .bool false)] w2351 (by kernel_rfl) ?_
                      refine W_nil ?_
                      refine N_then ?_
                      refine G_ret ?_
                      refine N_then_ret ?_
                      obtain rfl := Option.some.inj hm
                      refine N_ret [.bool false] (RVs_cons (RV_tmp (by kernel_rfl)) RVs_nil) ?_
                      exact ⟨rfl, M2352.pick [] (by kernel_rfl)⟩
                    · refine G_cond_f (b := o2343) hc2355 (by kernel_rfl) ?_
                      refine G_skip ?_
                      refine N_then ?_
                      refine G_seq ?_
                      refine G_region ?_
                      refine W_run 1 [(9, .slice p2023 r2241.2.length c2024), (12, .int .i64 r2241.1), (13, .int .i64 1)] w2351 (by kernel_rfl) ?_
                      refine W_nil ?_
                      refine N_then ?_
                      refine G_seq ?_
                      refine G_region ?_
                      refine W_run 2 [(12, .int .i64 r2241.1), (13, .int .i64 1), (93, .slice p2023 r2241.2.length c2024), (94, .int .i64 1)] w2351 (by kernel_rfl) ?_
                      obtain ⟨r2356, hr2356, hm⟩ := gx_bind hm
                      refine W_call 29 #[.slice p2023 r2241.2.length c2024, .int .i64 1] (by kernel_rfl) (by kernel_rfl) ?_
                      refine (c_l_heldEventS w2351 r2241.2 p2023 c2024 (ho2243.rd M2352 0 (by kernel_rfl)) 1 hr2356).mono ?_
                      rintro e_ w2357 ⟨rfl, K2358⟩
                      have M2359 := M2352.call0 K2358
                      refine ⟨_, rfl, ?_⟩
                      refine W_run 1 [(12, .int .i64 r2241.1), (13, .int .i64 r2356)] w2357 (by kernel_rfl) ?_
                      refine W_nil ?_
                      refine N_then ?_
                      refine G_seq ?_
                      refine G_seq ?_
                      refine G_region ?_
                      refine W_run 2 [(12, .int .i64 r2241.1), (13, .int .i64 r2356), (97, .bool (decide (r2356 < 0)))] w2357 (by kernel_rfl) ?_
                      refine W_nil ?_
                      refine N_then ?_
                      rcases gx_bif hm with ⟨hc2360, hm⟩ | ⟨hc2360, hm⟩
                      · refine G_cond_t (b := (decide (r2356 < 0))) hc2360 (by kernel_rfl) ?_
                        refine G_seq ?_
                        refine G_region ?_
                        refine W_run 1 [(4, .bool false)] w2357 (by kernel_rfl) ?_
                        refine W_nil ?_
                        refine N_then ?_
                        refine G_ret ?_
                        refine N_then_ret ?_
                        obtain rfl := Option.some.inj hm
                        refine N_ret [.bool false] (RVs_cons (RV_tmp (by kernel_rfl)) RVs_nil) ?_
                        exact ⟨rfl, M2359.pick [] (by kernel_rfl)⟩
                      · refine G_cond_f (b := (decide (r2356 < 0))) hc2360 (by kernel_rfl) ?_
                        refine G_skip ?_
                        refine N_then ?_
                        refine G_seq ?_
                        refine G_seq ?_
                        refine G_region ?_
                        refine W_run 3 [(100, .bool (r2356 != r2241.1))] w2357 (by kernel_rfl) ?_
                        refine W_nil ?_
                        refine N_then ?_
                        rcases gx_bif hm with ⟨hc2361, hm⟩ | ⟨hc2361, hm⟩
                        · refine G_cond_t (b := (r2356 != r2241.1)) hc2361 (by kernel_rfl) ?_
                          refine G_seq ?_
                          refine G_region ?_
                          refine W_run 1 [(4, .bool false)] w2357 (by kernel_rfl) ?_
                          refine W_nil ?_
                          refine N_then ?_
                          refine G_ret ?_
                          refine N_then_ret ?_
                          obtain rfl := Option.some.inj hm
                          refine N_ret [.bool false] (RVs_cons (RV_tmp (by kernel_rfl)) RVs_nil) ?_
                          exact ⟨rfl, M2359.pick [] (by kernel_rfl)⟩
                        · refine G_cond_f (b := (r2356 != r2241.1)) hc2361 (by kernel_rfl) ?_
                          refine G_skip ?_
                          refine N_then ?_
                          refine G_seq ?_
                          refine G_region ?_
                          refine W_run 1 [(4, .bool true)] w2357 (by kernel_rfl) ?_
                          refine W_nil ?_
                          refine N_then ?_
                          refine G_ret ?_
                          obtain rfl := Option.some.inj hm
                          refine N_ret [.bool true] (RVs_cons (RV_tmp (by kernel_rfl)) RVs_nil) ?_
                          exact ⟨rfl, M2359.pick [] (by kernel_rfl)⟩
theorem c_s_EventsWithin (w : World) (x2383 : List Event) (p2385 : Option Addr) (c2386 : Nat) (h2387 : rdS encEvent w x2383 p2385 c2386) (x2388 : Int) (x2389 : Int) {r : (List Event) × Bool} (hm : M.s_EventsWithin x2383 x2388 x2389 = some r) :
    Calls Try.prog 30 #[.slice p2385 x2383.length c2386, .int .i64 x2388, .int .i64 x2389] w fun e w' => ∃ (p2391 : Option Addr) (c2392 : Nat) (sg2393 : Seg), e = .returned (.tuple #[.slice p2391 r.1.length c2392, .bool r.2]) ∧ ownS encEvent r.1 p2391 c2392 sg2393 ∧ Mem [] w w' [sg2393] := by
  unfold M.s_EventsWithin at hm
  refine C_enter Try.func30 rfl (by kernel_rfl) ?_
  have M0 := Mem.refl [] w
  refine G_seq ?_
  refine G_region ?_
  refine W_run 2 [(0, .slice p2385 x2383.length c2386), (1, .int .i64 x2388), (2, .int .i64 x2389)] w (by kernel_rfl) ?_
  refine W_nil ?_
  refine N_then ?_
  refine G_seq ?_
  refine G_region ?_
  refine W_lit (E := encEvent) ([] : List Event) 0 [] 26 M0 (by kernel_rfl) (by kernel_rfl) (by kernel_rfl) (by kernel_rfl) (by kernel_rfl) ?_
  intro p2395 c2396 sg2397 w2398 ho2399 M2400
  refine W_run 1 [(0, .slice p2385 x2383.length c2386), (1, .int .i64 x2388), (2, .int .i64 x2389), (8, .slice p2395 ([] : List Event).length c2396)] w2398 (by kernel_rfl) ?_
  refine W_nil ?_
  refine N_then ?_
  refine G_seq ?_
  refine G_seq ?_
  obtain ⟨o2417, ho2418, hm2419⟩ := gx_bind hm
  refine G_meet (fun a w' => Mem [] w w' [sg2397] ∧ Sat Try.f30.ntmps [(0, .slice p2385 x2383.length c2386), (1, .int .i64 x2388), (2, .int .i64 x2389), (8, .slice p2395 ([] : List Event).length c2396), (28, .bool o2417)] a) ?_ ?_
  · have hm := ho2418
    refine G_region ?_
    refine W_run 1 [(0, .slice p2385 x2383.length c2386), (1, .int .i64 x2388), (2, .int .i64 x2389), (8, .slice p2395 ([] : List Event).length c2396), (11, .slice p2385 x2383.length c2386)] w2398 (by kernel_rfl) ?_
    obtain ⟨r2420, hr2420, hm⟩ := gx_bind hm
    refine W_call 56 #[.slice p2385 x2383.length c2386] (by kernel_rfl) (by kernel_rfl) ?_
    refine (c_s_l22Good w2398 x2383 p2385 c2386 (h2387.mem0 M2400) hr2420).mono ?_
    rintro e_ w2421 ⟨rfl, K2422⟩
    have M2423 := M2400.call0 K2422
    refine ⟨_, rfl, ?_⟩
    refine W_run 2 [(0, .slice p2385 x2383.length c2386), (1, .int .i64 x2388), (2, .int .i64 x2389), (8, .slice p2395 ([] : List Event).length c2396), (14, .bool (!r2420))] w2421 (by kernel_rfl) ?_
    rcases gx_bif hm with ⟨hc2424, hm⟩ | ⟨hc2424, hm⟩
    · refine W_known 14 true (by kernel_rfl) hc2424 ?_
      refine W_run 14 [(0, .slice p2385 x2383.length c2386), (1, .int .i64 x2388), (2, .int .i64 x2389), (8, .slice p2395 ([] : List Event).length c2396), (28, .bool true)] w2421 (by kernel_rfl) ?_
      refine W_nil ?_
      obtain rfl := Option.some.inj hm
      exact N_meet fun a ha => ⟨M2423.pick [0] (by kernel_rfl), ha.sub (by kernel_rfl)⟩
    · refine W_known 14 false (by kernel_rfl) hc2424 ?_
      refine W_run 1 [(0, .slice p2385 x2383.length c2386), (1, .int .i64 x2388), (2, .int .i64 x2389), (8, .slice p2395 ([] : List Event).length c2396), (14, .bool false), (15, .int .i64 x2388)] w2421 (by kernel_rfl) ?_
      obtain ⟨r2425, hr2425, hm⟩ := gx_bind hm
      refine W_call 65 #[.int .i64 x2388] (by kernel_rfl) (by kernel_rfl) ?_
      refine (c_s_l11Tick w2421 x2388 hr2425).mono ?_
      rintro e_ w2426 ⟨rfl, K2427⟩
      have M2428 := M2423.call0 K2427
      refine ⟨_, rfl, ?_⟩
      refine W_run 3 [(0, .slice p2385 x2383.length c2386), (1, .int .i64 x2388), (2, .int .i64 x2389), (8, .slice p2395 ([] : List Event).length c2396), (19, .bool (!r2425))] w2426 (by kernel_rfl) ?_
      rcases gx_bif hm with ⟨hc2429, hm⟩ | ⟨hc2429, hm⟩
      · refine W_known 19 true (by kernel_rfl) hc2429 ?_
        refine W_run 9 [(0, .slice p2385 x2383.length c2386), (1, .int .i64 x2388), (2, .int .i64 x2389), (8, .slice p2395 ([] : List Event).length c2396), (28, .bool true)] w2426 (by kernel_rfl) ?_
        refine W_nil ?_
        obtain rfl := Option.some.inj hm
        exact N_meet fun a ha => ⟨M2428.pick [0] (by kernel_rfl), ha.sub (by kernel_rfl)⟩
      · refine W_known 19 false (by kernel_rfl) hc2429 ?_
        refine W_run 1 [(0, .slice p2385 x2383.length c2386), (1, .int .i64 x2388), (2, .int .i64 x2389), (8, .slice p2395 ([] : List Event).length c2396), (19, .bool false), (20, .int .i64 x2389)] w2426 (by kernel_rfl) ?_
        obtain ⟨r2430, hr2430, hm⟩ := gx_bind hm
        refine W_call 65 #[.int .i64 x2389] (by kernel_rfl) (by kernel_rfl) ?_
        refine (c_s_l11Tick w2426 x2389 hr2430).mono ?_
        rintro e_ w2431 ⟨rfl, K2432⟩
        have M2433 := M2428.call0 K2432
        refine ⟨_, rfl, ?_⟩
        refine W_run 3 [(0, .slice p2385 x2383.length c2386), (1, .int .i64 x2388), (2, .int .i64 x2389), (8, .slice p2395 ([] : List Event).length c2396), (24, .bool (!r2430))] w2431 (by kernel_rfl) ?_
        rcases gx_bif hm with ⟨hc2434, hm⟩ | ⟨hc2434, hm⟩
        · refine W_known 24 true (by kernel_rfl) hc2434 ?_
          refine W_run 4 [(0, .slice p2385 x2383.length c2386), (1, .int .i64 x2388), (2, .int .i64 x2389), (8, .slice p2395 ([] : List Event).length c2396), (28, .bool true)] w2431 (by kernel_rfl) ?_
          refine W_nil ?_
          obtain rfl := Option.some.inj hm
          exact N_meet fun a ha => ⟨M2433.pick [0] (by kernel_rfl), ha.sub (by kernel_rfl)⟩
        · refine W_known 24 false (by kernel_rfl) hc2434 ?_
          refine W_run 4 [(0, .slice p2385 x2383.length c2386), (1, .int .i64 x2388), (2, .int .i64 x2389), (8, .slice p2395 ([] : List Event).length c2396), (28, .bool (decide (x2388 > x2389)))] w2431 (by kernel_rfl) ?_
          refine W_nil ?_
          obtain rfl := Option.some.inj hm
          exact N_meet fun a ha => ⟨M2433.pick [0] (by kernel_rfl), ha.sub (by kernel_rfl)⟩
  · intro a2437 w2435 ⟨M2436, hS2438⟩
    refine N_use hS2438 ?_
    have hm := hm2419
    refine N_then ?_
    rcases gx_bif hm with ⟨hc2439, hm⟩ | ⟨hc2439, hm⟩
    · refine G_cond_t (b := o2417) hc2439 (by kernel_rfl) ?_
      refine G_seq ?_
      refine G_region ?_
      refine W_run 3 [(6, .slice p2395 ([] : List Event).length c2396), (7, .bool false)] w2435 (by kernel_rfl) ?_
      refine W_nil ?_
      refine N_then ?_
      refine G_ret ?_
      refine N_then_ret ?_
      obtain rfl := Option.some.inj hm
      refine N_ret [.slice p2395 ([] : List Event).length c2396, .bool false] (RVs_cons (RV_tmp (by kernel_rfl)) (RVs_cons (RV_tmp (by kernel_rfl)) RVs_nil)) ?_
      exact ⟨p2395, c2396, sg2397, rfl, ho2399, M2436.pick [0] (by kernel_rfl)⟩
    · refine G_cond_f (b := o2417) hc2439 (by kernel_rfl) ?_
      refine G_skip ?_
      refine N_then ?_
      refine G_seq ?_
      refine G_seq ?_
      refine G_region ?_
      refine W_run 1 [(0, .slice p2385 x2383.length c2386), (1, .int .i64 x2388), (2, .int .i64 x2389), (8, .slice p2395 ([] : List Event).length c2396), (9, .int .i64 0)] w2435 (by kernel_rfl) ?_
      refine W_nil ?_
      refine N_then ?_
      obtain ⟨out2556, hw2557, hmo2558⟩ := gx_bind hm
      refine G_meet (fun a w' => ∃ (p2565 : Option Addr), ∃ (c2566 : Nat), ∃ (sg2567 : Seg), ownS encEvent out2556 p2565 c2566 sg2567 ∧ Mem [] w w' [sg2567] ∧ Sat Try.f30.ntmps [(8, .slice p2565 out2556.length c2566)] a) ?_ ?_
      · refine G_block ?_
        refine G_while (σ := List Event × Int) (ρ := List Event) (fun s2549 a w' => ∃ (p2559 : Option Addr), ∃ (c2560 : Nat), ∃ (sg2561 : Seg), ownS encEvent s2549.1 p2559 c2560 sg2561 ∧ Mem [] w w' [sg2561] ∧ Sat Try.f30.ntmps [(0, .slice p2385 x2383.length c2386), (1, .int .i64 x2388), (2, .int .i64 x2389), (8, .slice p2559 s2549.1.length c2560), (9, .int .i64 s2549.2)] a) hw2557 (fun a ha => ⟨p2395, c2396, sg2397, ho2399, M2436.pick [0] (by kernel_rfl), ha.sub (by kernel_rfl)⟩) ?_
        clear hm
        intro s2549 x2550 hm hout2551 a2552 w2553 ⟨p2559, c2560, sg2561, ho2562, M2554, hS2555⟩
        refine G_use hS2555 ?_
        refine G_seq ?_
        refine G_seq ?_
        refine G_region ?_
        refine W_run 4 [(0, .slice p2385 x2383.length c2386), (1, .int .i64 x2388), (2, .int .i64 x2389), (8, .slice p2559 s2549.1.length c2560), (9, .int .i64 s2549.2), (33, .bool (decide (s2549.2 < (x2383.length : Int))))] w2553 (by kernel_rfl) ?_
        refine W_nil ?_
        refine N_then ?_
        rcases gx_bif hm with ⟨hc2570, hm⟩ | ⟨hc2570, hm⟩
        · refine G_cond_t (b := (decide (s2549.2 < (x2383.length : Int)))) hc2570 (by kernel_rfl) ?_
          refine G_skip ?_
          refine N_then ?_
          refine G_seq ?_
          refine G_block ?_
          refine G_seq ?_
          refine G_region ?_
          refine W_run 2 [(0, .slice p2385 x2383.length c2386), (1, .int .i64 x2388), (2, .int .i64 x2389), (8, .slice p2559 s2549.1.length c2560), (9, .int .i64 s2549.2), (36, .slice p2385 x2383.length c2386), (37, .int .i64 s2549.2)] w2553 (by kernel_rfl) ?_
          obtain ⟨y2571, hy2571, hm⟩ := gx_bind hm
          refine W_val (elemP p2385 (s2549.2.toNat * 4)) w2553 (by kernel_rfl) (E_index (E := encEvent) _ _ _ x2383.length c2386 .i64 s2549.2 4 (y := y2571) rfl (by kernel_rfl) (by kernel_rfl) (by kernel_rfl) (h2387.mem0 M2554) rfl hy2571) ?_
          refine W_val (elemP p2385 (s2549.2.toNat * 4 + 0)) w2553 (by kernel_rfl) (E_fieldE (E := encEvent) _ _ 0 (s2549.2.toNat * 4) 0 rfl (by kernel_rfl) (by kernel_rfl) (h2387.mem0 M2554) hy2571) ?_
          refine W_val (.int .i64 y2571.Tick) w2553 (by kernel_rfl) (E_loadE (E := encEvent) _ _ false 1 s2549.2 0 (s2549.2.toNat * 4 + 0) y2571 (.int .i64 y2571.Tick) rfl (by kernel_rfl) (by kernel_rfl) (by kernel_rfl) (h2387.mem0 M2554) hy2571 rfl) ?_
          refine W_run 2 [(0, .slice p2385 x2383.length c2386), (1, .int .i64 x2388), (2, .int .i64 x2389), (8, .slice p2559 s2549.1.length c2560), (9, .int .i64 s2549.2), (40, .int .i64 y2571.Tick), (41, .int .i64 x2388), (42, .int .i64 x2389)] w2553 (by kernel_rfl) ?_
          obtain ⟨r2572, hr2572, hm⟩ := gx_bind hm
          refine W_call 58 #[.int .i64 y2571.Tick, .int .i64 x2388, .int .i64 x2389] (by kernel_rfl) (by kernel_rfl) ?_
          refine (c_s_l1In w2553 y2571.Tick x2388 x2389 hr2572).mono ?_
          rintro e_ w2573 ⟨rfl, K2574⟩
          have M2575 := M2554.call0 K2574
          refine ⟨_, rfl, ?_⟩
          refine W_nil ?_
          refine N_then ?_
          obtain ⟨o2593, ho2594, hm2595⟩ := gx_bind hm
          refine G_meet (fun a w' => ∃ (p2596 : Option Addr), ∃ (c2597 : Nat), ∃ (sg2598 : Seg), ownS encEvent o2593 p2596 c2597 sg2598 ∧ Mem [] w w' [sg2598] ∧ Sat Try.f30.ntmps [(0, .slice p2385 x2383.length c2386), (1, .int .i64 x2388), (2, .int .i64 x2389), (8, .slice p2596 o2593.length c2597), (9, .int .i64 s2549.2)] a) ?_ ?_
          · have hm := ho2594
            rcases gx_bif hm with ⟨hc2601, hm⟩ | ⟨hc2601, hm⟩
            · refine G_cond_t (b := r2572) hc2601 (by kernel_rfl) ?_
              refine G_region ?_
              refine W_run 3 [(0, .slice p2385 x2383.length c2386), (1, .int .i64 x2388), (2, .int .i64 x2389), (8, .slice p2559 s2549.1.length c2560), (9, .int .i64 s2549.2), (44, .slice p2559 s2549.1.length c2560), (45, .slice p2385 x2383.length c2386), (46, .int .i64 s2549.2)] w2573 (by kernel_rfl) ?_
              obtain ⟨y2602, hy2602, hm⟩ := gx_bind hm
              refine W_val (elemP p2385 (s2549.2.toNat * 4)) w2573 (by kernel_rfl) (E_index (E := encEvent) _ _ _ x2383.length c2386 .i64 s2549.2 4 (y := y2602) rfl (by kernel_rfl) (by kernel_rfl) (by kernel_rfl) (h2387.mem0 M2575) rfl hy2602) ?_
              refine W_val (.agg #[.int .i64 y2602.Tick, .int .i64 y2602.Guest, .string y2602.Kind, .int .i64 y2602.Value]) w2573 (by kernel_rfl) (E_loadE (E := encEvent) _ _ true 4 s2549.2 0 (s2549.2.toNat * 4) y2602 (.agg #[.int .i64 y2602.Tick, .int .i64 y2602.Guest, .string y2602.Kind, .int .i64 y2602.Value]) rfl (by kernel_rfl) (by kernel_rfl) (by kernel_rfl) (h2387.mem0 M2575) hy2602 rfl) ?_
              refine W_lit (E := encEvent) [y2602] 1 [.int .i64 y2602.Tick, .int .i64 y2602.Guest, .string y2602.Kind, .int .i64 y2602.Value] 26 M2575 (by kernel_rfl) (by kernel_rfl) (by kernel_rfl) (by kernel_rfl) (by kernel_rfl) ?_
              intro p2603 c2604 sg2605 w2606 ho2607 M2608
              obtain ⟨ap2610, hap2610, hm⟩ := gx_bind hm
              refine W_append (E := encEvent) _ _ _ 40 [.int .i64 0, .int .i64 0, .string ByteArray.empty, .int .i64 0] 0 c2604 M2608 ho2562 (by kernel_rfl) (by kernel_rfl) (by kernel_rfl) rfl (by kernel_rfl) (by kernel_rfl) (by kernel_rfl) (by kernel_rfl) (by kernel_rfl) (by kernel_rfl) (ho2607.rd M2608 1 (by kernel_rfl)) hap2610 ?_
              intro p2611 c2612 sg2613 w2614 ho2615 M2616
              refine W_run 1 [(0, .slice p2385 x2383.length c2386), (1, .int .i64 x2388), (2, .int .i64 x2389), (8, .slice p2611 ap2610.length c2612), (9, .int .i64 s2549.2)] w2614 (by kernel_rfl) ?_
              refine W_nil ?_
              obtain rfl := Option.some.inj hm
              exact N_meet fun a ha => ⟨p2611, c2612, sg2613, ho2615, M2616.pick [0] (by kernel_rfl), ha.sub (by kernel_rfl)⟩
            · refine G_cond_f (b := r2572) hc2601 (by kernel_rfl) ?_
              refine G_skip ?_
              obtain rfl := Option.some.inj hm
              exact N_meet fun a ha => ⟨p2559, c2560, sg2561, ho2562, M2575.pick [0] (by kernel_rfl), ha.sub (by kernel_rfl)⟩
          · intro a2620 w2618 ⟨p2596, c2597, sg2598, ho2599, M2619, hS2621⟩
            refine N_use hS2621 ?_
            have hm := hm2595
            refine N_block ?_
            refine N_then ?_
            refine G_region ?_
            refine W_run 3 [(0, .slice p2385 x2383.length c2386), (1, .int .i64 x2388), (2, .int .i64 x2389), (8, .slice p2596 o2593.length c2597), (9, .int .i64 (w64 (s2549.2 + 1)))] w2618 (by kernel_rfl) ?_
            refine W_nil ?_
            obtain rfl := Option.some.inj hm
            exact N_loop fun a ha => ⟨_, rfl, p2596, c2597, sg2598, ho2599, M2619.pick [0] (by kernel_rfl), ha.sub (by kernel_rfl)⟩
        · refine G_cond_f (b := (decide (s2549.2 < (x2383.length : Int)))) hc2570 (by kernel_rfl) ?_
          refine G_exit ?_
          refine N_then_exit ?_
          refine N_then_exit ?_
          refine N_block_eq ?_
          obtain rfl := Option.some.inj hm
          obtain rfl := hout2551 _ rfl
          exact N_meet fun a ha => ⟨p2559, c2560, sg2561, ho2562, M2554.pick [0] (by kernel_rfl), ha.sub (by kernel_rfl)⟩
      · intro a2622 w2623 ⟨p2565, c2566, sg2567, ho2568, M2624, hS2625⟩
        refine N_use hS2625 ?_
        have hm := hmo2558
        refine N_then ?_
        refine G_seq ?_
        refine G_region ?_
        refine W_run 3 [(6, .slice p2565 out2556.length c2566), (7, .bool true)] w2623 (by kernel_rfl) ?_
        refine W_nil ?_
        refine N_then ?_
        refine G_ret ?_
        obtain rfl := Option.some.inj hm
        refine N_ret [.slice p2565 out2556.length c2566, .bool true] (RVs_cons (RV_tmp (by kernel_rfl)) (RVs_cons (RV_tmp (by kernel_rfl)) RVs_nil)) ?_
        exact ⟨p2565, c2566, sg2567, rfl, ho2568, M2624.pick [0] (by kernel_rfl)⟩
theorem c_i_EventsWithin_1 (w : World) (x2799 : Event) (x2800 : Int) (b2801 : Nat) (hb2802 : w.heap[b2801]? = some (.cells ⟨[.int .i64 x2800]⟩ 3 (0, 0))) (x2804 : Int) (b2805 : Nat) (hb2806 : w.heap[b2805]? = some (.cells ⟨[.int .i64 x2804]⟩ 3 (0, 0))) {r : Bool} (hm : M.i_EventsWithin_1 x2799 x2800 x2804 = some r) :
    Calls Try.prog 66 #[.agg #[.int .i64 x2799.Tick, .int .i64 x2799.Guest, .string x2799.Kind, .int .i64 x2799.Value], .pointer (some ⟨b2801, 0, none⟩), .pointer (some ⟨b2805, 0, none⟩)] w fun e w' => e = .returned (.bool r) ∧ Mem [] w w' [] := by
  unfold M.i_EventsWithin_1 at hm
  refine C_enter Try.func66 rfl (by kernel_rfl) ?_
  have M0 := Mem.refl [] w
  refine G_seq ?_
  refine G_region ?_
  refine W_new (fun b => .pointer (some ⟨b, 0, none⟩)) (.cells ⟨[.int .i64 x2799.Tick, .int .i64 x2799.Guest, .string x2799.Kind, .int .i64 x2799.Value]⟩ 26 (0, 0)) M0 rfl (by kernel_rfl) (by kernel_rfl) ?_
  intro b2809 w2810 M2811
  refine W_run 1 [(1, .pointer (some ⟨b2801, 0, none⟩)), (2, .pointer (some ⟨b2805, 0, none⟩)), (3, .pointer (some ⟨b2809, 0, none⟩))] w2810 (by kernel_rfl) ?_
  refine W_nil ?_
  refine N_then ?_
  refine G_seq ?_
  refine G_region ?_
  refine W_run 1 [(1, .pointer (some ⟨b2801, 0, none⟩)), (2, .pointer (some ⟨b2805, 0, none⟩)), (5, .pointer (some ⟨b2809, 0, none⟩))] w2810 (by kernel_rfl) ?_
  refine W_val (.int .i64 x2799.Tick) w2810 (by kernel_rfl) (E_load (e := 26) (fr := (0, 0)) _ _ false 1 b2809 0 [.int .i64 x2799.Tick, .int .i64 x2799.Guest, .string x2799.Kind, .int .i64 x2799.Value] (.int .i64 x2799.Tick) rfl (by kernel_rfl) (by kernel_rfl) (by kernel_rfl) (M2811.blk 0 (b := b2809) (o := .cells ⟨[.int .i64 x2799.Tick, .int .i64 x2799.Guest, .string x2799.Kind, .int .i64 x2799.Value]⟩ 26 (0, 0)) (by kernel_rfl))) ?_
  refine W_val (.int .i64 x2800) w2810 (by kernel_rfl) (E_load (e := 3) (fr := (0, 0)) _ _ false 1 b2801 0 [.int .i64 x2800] (.int .i64 x2800) rfl (by kernel_rfl) (by kernel_rfl) (by kernel_rfl) (M2811.ro hb2802)) ?_
  refine W_val (.int .i64 x2804) w2810 (by kernel_rfl) (E_load (e := 3) (fr := (0, 0)) _ _ false 1 b2805 0 [.int .i64 x2804] (.int .i64 x2804) rfl (by kernel_rfl) (by kernel_rfl) (by kernel_rfl) (M2811.ro hb2806)) ?_
  obtain ⟨r2812, hr2812, hm⟩ := gx_bind hm
  refine W_call 67 #[.int .i64 x2799.Tick, .int .i64 x2800, .int .i64 x2804] (by kernel_rfl) (by kernel_rfl) ?_
  refine (c_i_inside w2810 x2799.Tick x2800 x2804 hr2812).mono ?_
  rintro e_ w2813 ⟨rfl, K2814⟩
  have M2815 := M2811.call0 K2814
  refine ⟨_, rfl, ?_⟩
  refine W_run 1 [(4, .bool r2812)] w2813 (by kernel_rfl) ?_
  refine W_nil ?_
  refine N_then ?_
  refine G_ret ?_
  obtain rfl := Option.some.inj hm
  refine N_ret [.bool r2812] (RVs_cons (RV_tmp (by kernel_rfl)) RVs_nil) ?_
  exact ⟨rfl, M2815.pick [] (by kernel_rfl)⟩
theorem c_i_eventsWhere_1__i_EventsWithin_1 (w : World) (x2783 : Event) (x2784 : Int) (b2785 : Nat) (hb2786 : w.heap[b2785]? = some (.cells ⟨[.int .i64 x2784]⟩ 3 (0, 0))) (x2788 : Int) (b2789 : Nat) (hb2790 : w.heap[b2789]? = some (.cells ⟨[.int .i64 x2788]⟩ 3 (0, 0))) (b2792 : Nat) (hb2793 : w.heap[b2792]? = some (.cells ⟨[.func (.func 66) #[] #[.pointer (some ⟨b2785, 0, none⟩), .pointer (some ⟨b2789, 0, none⟩)]]⟩ 25 (0, 0))) {r : Bool} (hm : M.i_eventsWhere_1__i_EventsWithin_1 x2783 x2784 x2788 = some r) :
    Calls Try.prog 82 #[.agg #[.int .i64 x2783.Tick, .int .i64 x2783.Guest, .string x2783.Kind, .int .i64 x2783.Value], .pointer (some ⟨b2792, 0, none⟩)] w fun e w' => e = .returned (.bool r) ∧ Mem [] w w' [] := by
  unfold M.i_eventsWhere_1__i_EventsWithin_1 at hm
  refine C_enter Try.func82 rfl (by kernel_rfl) ?_
  have M0 := Mem.refl [] w
  refine G_seq ?_
  refine G_region ?_
  refine W_new (fun b => .pointer (some ⟨b, 0, none⟩)) (.cells ⟨[.int .i64 x2783.Tick, .int .i64 x2783.Guest, .string x2783.Kind, .int .i64 x2783.Value]⟩ 26 (0, 0)) M0 rfl (by kernel_rfl) (by kernel_rfl) ?_
  intro b2796 w2797 M2798
  refine W_run 1 [(1, .pointer (some ⟨b2792, 0, none⟩)), (2, .pointer (some ⟨b2796, 0, none⟩))] w2797 (by kernel_rfl) ?_
  refine W_nil ?_
  refine N_then ?_
  refine G_seq ?_
  refine G_region ?_
  refine W_val (.func (.func 66) #[] #[.pointer (some ⟨b2785, 0, none⟩), .pointer (some ⟨b2789, 0, none⟩)]) w2797 (by kernel_rfl) (E_load (e := 25) (fr := (0, 0)) _ _ false 1 b2792 0 [.func (.func 66) #[] #[.pointer (some ⟨b2785, 0, none⟩), .pointer (some ⟨b2789, 0, none⟩)]] (.func (.func 66) #[] #[.pointer (some ⟨b2785, 0, none⟩), .pointer (some ⟨b2789, 0, none⟩)]) rfl (by kernel_rfl) (by kernel_rfl) (by kernel_rfl) (M2798.ro hb2793)) ?_
  refine W_val (.agg #[.int .i64 x2783.Tick, .int .i64 x2783.Guest, .string x2783.Kind, .int .i64 x2783.Value]) w2797 (by kernel_rfl) (E_load (e := 26) (fr := (0, 0)) _ _ true 4 b2796 0 [.int .i64 x2783.Tick, .int .i64 x2783.Guest, .string x2783.Kind, .int .i64 x2783.Value] (.agg #[.int .i64 x2783.Tick, .int .i64 x2783.Guest, .string x2783.Kind, .int .i64 x2783.Value]) rfl (by kernel_rfl) (by kernel_rfl) (by kernel_rfl) (M2798.blk 0 (b := b2796) (o := .cells ⟨[.int .i64 x2783.Tick, .int .i64 x2783.Guest, .string x2783.Kind, .int .i64 x2783.Value]⟩ 26 (0, 0)) (by kernel_rfl))) ?_
  obtain ⟨r2816, hr2816, hm⟩ := gx_bind hm
  refine W_call 66 #[.agg #[.int .i64 x2783.Tick, .int .i64 x2783.Guest, .string x2783.Kind, .int .i64 x2783.Value], .pointer (some ⟨b2785, 0, none⟩), .pointer (some ⟨b2789, 0, none⟩)] (by kernel_rfl) (by kernel_rfl) ?_
  refine (c_i_EventsWithin_1 w2797 x2783 x2784 b2785 (M2798.ro hb2786) x2788 b2789 (M2798.ro hb2790) hr2816).mono ?_
  rintro e_ w2817 ⟨rfl, K2818⟩
  have M2819 := M2798.call0 K2818
  refine ⟨_, rfl, ?_⟩
  refine W_run 2 [(3, .bool (!r2816))] w2817 (by kernel_rfl) ?_
  refine W_nil ?_
  refine N_then ?_
  refine G_ret ?_
  obtain rfl := Option.some.inj hm
  refine N_ret [.bool (!r2816)] (RVs_cons (RV_tmp (by kernel_rfl)) RVs_nil) ?_
  exact ⟨rfl, M2819.pick [] (by kernel_rfl)⟩
theorem c_slices_IndexFunc_59__i_eventsWhere_1__i_EventsWithin_1 (w : World) (x2765 : List Event) (p2767 : Option Addr) (c2768 : Nat) (h2769 : rdS encEvent w x2765 p2767 c2768) (x2770 : Int) (b2771 : Nat) (hb2772 : w.heap[b2771]? = some (.cells ⟨[.int .i64 x2770]⟩ 3 (0, 0))) (x2774 : Int) (b2775 : Nat) (hb2776 : w.heap[b2775]? = some (.cells ⟨[.int .i64 x2774]⟩ 3 (0, 0))) (b2778 : Nat) (hb2779 : w.heap[b2778]? = some (.cells ⟨[.func (.func 66) #[] #[.pointer (some ⟨b2771, 0, none⟩), .pointer (some ⟨b2775, 0, none⟩)]]⟩ 25 (0, 0))) {r : Int} (hm : M.slices_IndexFunc_59__i_eventsWhere_1__i_EventsWithin_1 x2765 x2770 x2774 = some r) :
    Calls Try.prog 59 #[.slice p2767 x2765.length c2768, .func (.func 82) #[] #[.pointer (some ⟨b2778, 0, none⟩)]] w fun e w' => e = .returned (.int .i64 r) ∧ Mem [] w w' [] := by
  unfold M.slices_IndexFunc_59__i_eventsWhere_1__i_EventsWithin_1 at hm
  refine C_enter Try.func59 rfl (by kernel_rfl) ?_
  have M0 := Mem.refl [] w
  refine G_seq ?_
  refine G_region ?_
  refine W_run 1 [(0, .slice p2767 x2765.length c2768), (1, .func (.func 82) #[] #[.pointer (some ⟨b2778, 0, none⟩)])] w (by kernel_rfl) ?_
  refine W_nil ?_
  refine N_then ?_
  refine G_seq ?_
  refine G_seq ?_
  refine G_region ?_
  refine W_run 3 [(0, .slice p2767 x2765.length c2768), (1, .func (.func 82) #[] #[.pointer (some ⟨b2778, 0, none⟩)]), (7, .int .i64 (x2765.length : Int)), (8, .int .i64 0)] w (by kernel_rfl) ?_
  refine W_nil ?_
  refine N_then ?_
  obtain ⟨out2839, hw2840, hmo2841⟩ := gx_bind hm
  refine G_meet (fun a w' => ∃ (o2842 : Unit), out2839 = .inl o2842 ∧ Mem [] w w' [] ∧ Sat Try.f59.ntmps [] a) ?_ ?_
  · refine G_block ?_
    refine G_while (σ := Int) (ρ := (Unit) ⊕ (Int)) (fun s2832 a w' => Mem [] w w' [] ∧ Sat Try.f59.ntmps [(0, .slice p2767 x2765.length c2768), (1, .func (.func 82) #[] #[.pointer (some ⟨b2778, 0, none⟩)]), (7, .int .i64 (x2765.length : Int)), (8, .int .i64 s2832)] a) hw2840 (fun a ha => ⟨M0.pick [] (by kernel_rfl), ha.sub (by kernel_rfl)⟩) ?_
    clear hm
    intro s2832 x2833 hm hout2834 a2835 w2836 ⟨M2837, hS2838⟩
    refine G_use hS2838 ?_
    refine G_seq ?_
    refine G_region ?_
    refine W_run 1 [(0, .slice p2767 x2765.length c2768), (1, .func (.func 82) #[] #[.pointer (some ⟨b2778, 0, none⟩)]), (7, .int .i64 (x2765.length : Int)), (8, .int .i64 s2832), (9, .bool (decide (s2832 < (x2765.length : Int))))] w2836 (by kernel_rfl) ?_
    refine W_nil ?_
    refine N_then ?_
    refine G_seq ?_
    rcases gx_bif hm with ⟨hc2843, hm⟩ | ⟨hc2843, hm⟩
    · refine G_cond_t (b := (decide (s2832 < (x2765.length : Int)))) hc2843 (by kernel_rfl) ?_
      refine G_skip ?_
      refine N_then ?_
      refine G_seq ?_
      refine G_block ?_
      refine G_seq ?_
      refine G_region ?_
      refine W_run 2 [(0, .slice p2767 x2765.length c2768), (1, .func (.func 82) #[] #[.pointer (some ⟨b2778, 0, none⟩)]), (5, .int .i64 s2832), (7, .int .i64 (x2765.length : Int)), (8, .int .i64 s2832)] w2836 (by kernel_rfl) ?_
      refine W_nil ?_
      refine N_then ?_
      refine G_seq ?_
      refine G_region ?_
      refine W_run 3 [(0, .slice p2767 x2765.length c2768), (1, .func (.func 82) #[] #[.pointer (some ⟨b2778, 0, none⟩)]), (5, .int .i64 s2832), (7, .int .i64 (x2765.length : Int)), (8, .int .i64 s2832), (11, .func (.func 82) #[] #[.pointer (some ⟨b2778, 0, none⟩)]), (12, .slice p2767 x2765.length c2768), (13, .int .i64 s2832)] w2836 (by kernel_rfl) ?_
      obtain ⟨y2844, hy2844, hm⟩ := gx_bind hm
      refine W_val (elemP p2767 (s2832.toNat * 4)) w2836 (by kernel_rfl) (E_index (E := encEvent) _ _ _ x2765.length c2768 .i64 s2832 4 (y := y2844) rfl (by kernel_rfl) (by kernel_rfl) (by kernel_rfl) (h2769.mem0 M2837) rfl hy2844) ?_
      refine W_val (.agg #[.int .i64 y2844.Tick, .int .i64 y2844.Guest, .string y2844.Kind, .int .i64 y2844.Value]) w2836 (by kernel_rfl) (E_loadE (E := encEvent) _ _ true 4 s2832 0 (s2832.toNat * 4) y2844 (.agg #[.int .i64 y2844.Tick, .int .i64 y2844.Guest, .string y2844.Kind, .int .i64 y2844.Value]) rfl (by kernel_rfl) (by kernel_rfl) (by kernel_rfl) (h2769.mem0 M2837) hy2844 rfl) ?_
      obtain ⟨r2845, hr2845, hm⟩ := gx_bind hm
      refine W_call 82 #[.agg #[.int .i64 y2844.Tick, .int .i64 y2844.Guest, .string y2844.Kind, .int .i64 y2844.Value], .pointer (some ⟨b2778, 0, none⟩)] (by kernel_rfl) (by kernel_rfl) ?_
      refine (c_i_eventsWhere_1__i_EventsWithin_1 w2836 y2844 x2770 b2771 (M2837.ro hb2772) x2774 b2775 (M2837.ro hb2776) b2778 (M2837.ro hb2779) hr2845).mono ?_
      rintro e_ w2846 ⟨rfl, K2847⟩
      have M2848 := M2837.call0 K2847
      refine ⟨_, rfl, ?_⟩
      refine W_nil ?_
      refine N_then ?_
      rcases gx_bif hm with ⟨hc2849, hm⟩ | ⟨hc2849, hm⟩
      · refine G_cond_t (b := r2845) hc2849 (by kernel_rfl) ?_
        refine G_seq ?_
        refine G_region ?_
        refine W_run 2 [(4, .int .i64 s2832)] w2846 (by kernel_rfl) ?_
        refine W_nil ?_
        refine N_then ?_
        refine G_ret ?_
        refine N_block_ret ?_
        refine N_then_ret ?_
        refine N_then_ret ?_
        obtain rfl := Option.some.inj hm
        obtain rfl := hout2834 _ rfl
        have hm := hmo2841; simp only [Sum.elim_inr] at hm
        refine N_block_ret ?_
        refine N_meet_ret ?_
        refine N_then_ret ?_
        obtain rfl := Option.some.inj hm
        refine N_ret [.int .i64 s2832] (RVs_cons (RV_tmp (by kernel_rfl)) RVs_nil) ?_
        exact ⟨rfl, M2848.pick [] (by kernel_rfl)⟩
      · refine G_cond_f (b := r2845) hc2849 (by kernel_rfl) ?_
        refine G_skip ?_
        refine N_block ?_
        refine N_then ?_
        refine G_region ?_
        refine W_run 2 [(0, .slice p2767 x2765.length c2768), (1, .func (.func 82) #[] #[.pointer (some ⟨b2778, 0, none⟩)]), (7, .int .i64 (x2765.length : Int)), (8, .int .i64 (w64 (s2832 + 1)))] w2846 (by kernel_rfl) ?_
        refine W_nil ?_
        obtain rfl := Option.some.inj hm
        exact N_loop fun a ha => ⟨_, rfl, M2848.pick [] (by kernel_rfl), ha.sub (by kernel_rfl)⟩
    · refine G_cond_f (b := (decide (s2832 < (x2765.length : Int)))) hc2843 (by kernel_rfl) ?_
      refine G_exit ?_
      refine N_then_exit ?_
      refine N_then_exit ?_
      refine N_block_eq ?_
      obtain rfl := Option.some.inj hm
      obtain rfl := hout2834 _ rfl
      exact N_meet fun a ha => ⟨_, rfl, M2837.pick [] (by kernel_rfl), ha.sub (by kernel_rfl)⟩
  · intro a2850 w2851 ⟨o2842, hout_, M2852, hS2853⟩
    refine N_use hS2853 ?_
    subst hout_
    have hm := hmo2841; simp only [Sum.elim_inl] at hm
    refine N_then ?_
    refine G_seq ?_
    refine G_region ?_
    refine W_run 1 [(4, .int .i64 (-1))] w2851 (by kernel_rfl) ?_
    refine W_nil ?_
    refine N_then ?_
    refine G_ret ?_
    obtain rfl := Option.some.inj hm
    refine N_ret [.int .i64 (-1)] (RVs_cons (RV_tmp (by kernel_rfl)) RVs_nil) ?_
    exact ⟨rfl, M2852.pick [] (by kernel_rfl)⟩
theorem c_slices_DeleteFunc_81__i_eventsWhere_1__i_EventsWithin_1 (w : World) (x2740 : List Event) (p2742 : Option Addr) (c2743 : Nat) (sg2744 : Seg) (ho2745 : ownS encEvent x2740 p2742 c2743 sg2744) (x2746 : Int) (b2747 : Nat) (hb2748 : w.heap[b2747]? = some (.cells ⟨[.int .i64 x2746]⟩ 3 (0, 0))) (x2751 : Int) (b2752 : Nat) (hb2753 : w.heap[b2752]? = some (.cells ⟨[.int .i64 x2751]⟩ 3 (0, 0))) (b2756 : Nat) (hb2757 : w.heap[b2756]? = some (.cells ⟨[.func (.func 66) #[] #[.pointer (some ⟨b2747, 0, none⟩), .pointer (some ⟨b2752, 0, none⟩)]]⟩ 25 (0, 0))) (hA : ∀ q ∈ List.flatten [sg2744], w.heap[q.1]? = some q.2) (hN : (idsOf [sg2744]).Nodup) (nf2750 : b2747 ∉ (idsOf [sg2744])) (nf2755 : b2752 ∉ (idsOf [sg2744])) (nf2759 : b2756 ∉ (idsOf [sg2744])) {r : (List Event) × (List Event)} (hm : M.slices_DeleteFunc_81__i_eventsWhere_1__i_EventsWithin_1 x2740 x2746 x2751 = some r) :
    Calls Try.prog 81 #[.slice p2742 x2740.length c2743, .func (.func 82) #[] #[.pointer (some ⟨b2756, 0, none⟩)]] w fun e w' => ∃ (sg2760 : Seg), ∃ (p2762 : Option Addr) (c2763 : Nat), e = .returned (.slice p2762 r.1.length c2763) ∧ ownS encEvent r.2 p2742 c2743 sg2760 ∧ r.2.length = x2740.length ∧ viewS 4 r.2 p2742 c2743 p2762 c2763 r.1 ∧ Mem (idsOf [sg2744]) w w' [sg2760] := by
  unfold M.slices_DeleteFunc_81__i_eventsWhere_1__i_EventsWithin_1 at hm
  refine C_enter Try.func81 rfl (by kernel_rfl) ?_
  have M0 := Mem.start' w [sg2744] hA hN
  refine G_seq ?_
  refine G_region ?_
  refine W_run 1 [(0, .slice p2742 x2740.length c2743), (1, .func (.func 82) #[] #[.pointer (some ⟨b2756, 0, none⟩)])] w (by kernel_rfl) ?_
  refine W_nil ?_
  refine N_then ?_
  refine G_seq ?_
  refine G_region ?_
  refine W_run 2 [(0, .slice p2742 x2740.length c2743), (1, .func (.func 82) #[] #[.pointer (some ⟨b2756, 0, none⟩)]), (8, .slice p2742 x2740.length c2743), (9, .func (.func 82) #[] #[.pointer (some ⟨b2756, 0, none⟩)])] w (by kernel_rfl) ?_
  obtain ⟨r2854, hr2854, hm⟩ := gx_bind hm
  refine W_call 59 #[.slice p2742 x2740.length c2743, .func (.func 82) #[] #[.pointer (some ⟨b2756, 0, none⟩)]] (by kernel_rfl) (by kernel_rfl) ?_
  refine (c_slices_IndexFunc_59__i_eventsWhere_1__i_EventsWithin_1 w x2740 p2742 c2743 (ho2745.rd M0 0 (by kernel_rfl)) x2746 b2747 (M0.roX hb2748 nf2750) x2751 b2752 (M0.roX hb2753 nf2755) b2756 (M0.roX hb2757 nf2759) hr2854).mono ?_
  rintro e_ w2855 ⟨rfl, K2856⟩
  have M2857 := M0.call0 K2856
  refine ⟨_, rfl, ?_⟩
  refine W_run 1 [(0, .slice p2742 x2740.length c2743), (1, .func (.func 82) #[] #[.pointer (some ⟨b2756, 0, none⟩)]), (5, .int .i64 r2854)] w2855 (by kernel_rfl) ?_
  refine W_nil ?_
  refine N_then ?_
  refine G_seq ?_
  refine G_seq ?_
  refine G_region ?_
  refine W_run 2 [(0, .slice p2742 x2740.length c2743), (1, .func (.func 82) #[] #[.pointer (some ⟨b2756, 0, none⟩)]), (5, .int .i64 r2854), (12, .bool (r2854 == (-1)))] w2855 (by kernel_rfl) ?_
  refine W_nil ?_
  refine N_then ?_
  rcases gx_bif hm with ⟨hc2858, hm⟩ | ⟨hc2858, hm⟩
  · refine G_cond_t (b := (r2854 == (-1))) hc2858 (by kernel_rfl) ?_
    refine G_seq ?_
    refine G_region ?_
    refine W_run 2 [(4, .slice p2742 x2740.length c2743)] w2855 (by kernel_rfl) ?_
    refine W_nil ?_
    refine N_then ?_
    refine G_ret ?_
    refine N_then_ret ?_
    obtain rfl := Option.some.inj hm
    refine N_ret [.slice p2742 x2740.length c2743] (RVs_cons (RV_tmp (by kernel_rfl)) RVs_nil) ?_
    exact ⟨sg2744, p2742, c2743, rfl, ho2745, rfl, (viewS_self ho2745), M2857.pick [0] (by kernel_rfl)⟩
  · refine G_cond_f (b := (r2854 == (-1))) hc2858 (by kernel_rfl) ?_
    refine G_skip ?_
    refine N_then ?_
    refine G_seq ?_
    refine G_seq ?_
    refine G_region ?_
    refine W_run 3 [(0, .slice p2742 x2740.length c2743), (1, .func (.func 82) #[] #[.pointer (some ⟨b2756, 0, none⟩)]), (5, .int .i64 r2854), (6, .int .i64 (w64 (r2854 + 1)))] w2855 (by kernel_rfl) ?_
    refine W_nil ?_
    refine N_then ?_
    obtain ⟨out2937, hw2938, hmo2939⟩ := gx_bind hm
    refine G_meet (fun a w' => ∃ (sg2944 : Seg), ownS encEvent out2937.2 p2742 c2743 sg2944 ∧ out2937.2.length = x2740.length ∧ Mem (idsOf [sg2744]) w w' [sg2944] ∧ Sat Try.f81.ntmps [(0, .slice p2742 out2937.2.length c2743), (5, .int .i64 out2937.1)] a) ?_ ?_
    · refine G_block ?_
      refine G_while (σ := Int × Int × List Event) (ρ := Int × List Event) (fun s2930 a w' => ∃ (sg2940 : Seg), ownS encEvent s2930.2.2 p2742 c2743 sg2940 ∧ s2930.2.2.length = x2740.length ∧ Mem (idsOf [sg2744]) w w' [sg2940] ∧ Sat Try.f81.ntmps [(0, .slice p2742 s2930.2.2.length c2743), (1, .func (.func 82) #[] #[.pointer (some ⟨b2756, 0, none⟩)]), (5, .int .i64 s2930.1), (6, .int .i64 s2930.2.1)] a) hw2938 (fun a ha => ⟨sg2744, ho2745, rfl, M2857.pick [0] (by kernel_rfl), ha.sub (by kernel_rfl)⟩) ?_
      clear hm
      intro s2930 x2931 hm hout2932 a2933 w2934 ⟨sg2940, ho2941, hl2942, M2935, hS2936⟩
      refine G_use hS2936 ?_
      refine G_seq ?_
      refine G_seq ?_
      refine G_region ?_
      refine W_run 4 [(0, .slice p2742 s2930.2.2.length c2743), (1, .func (.func 82) #[] #[.pointer (some ⟨b2756, 0, none⟩)]), (5, .int .i64 s2930.1), (6, .int .i64 s2930.2.1), (19, .bool (decide (s2930.2.1 < (s2930.2.2.length : Int))))] w2934 (by kernel_rfl) ?_
      refine W_nil ?_
      refine N_then ?_
      rcases gx_bif hm with ⟨hc2947, hm⟩ | ⟨hc2947, hm⟩
      · refine G_cond_t (b := (decide (s2930.2.1 < (s2930.2.2.length : Int)))) hc2947 (by kernel_rfl) ?_
        refine G_skip ?_
        refine N_then ?_
        refine G_seq ?_
        refine G_block ?_
        refine G_seq ?_
        refine G_region ?_
        refine W_run 2 [(0, .slice p2742 s2930.2.2.length c2743), (1, .func (.func 82) #[] #[.pointer (some ⟨b2756, 0, none⟩)]), (5, .int .i64 s2930.1), (6, .int .i64 s2930.2.1), (22, .slice p2742 s2930.2.2.length c2743), (23, .int .i64 s2930.2.1)] w2934 (by kernel_rfl) ?_
        obtain ⟨y2948, hy2948, hm⟩ := gx_bind hm
        refine W_val (elemP p2742 (s2930.2.1.toNat * 4)) w2934 (by kernel_rfl) (E_index (E := encEvent) _ _ _ s2930.2.2.length c2743 .i64 s2930.2.1 4 (y := y2948) rfl (by kernel_rfl) (by kernel_rfl) (by kernel_rfl) (ho2941.rd M2935 0 (by kernel_rfl)) rfl hy2948) ?_
        refine W_val (.agg #[.int .i64 y2948.Tick, .int .i64 y2948.Guest, .string y2948.Kind, .int .i64 y2948.Value]) w2934 (by kernel_rfl) (E_loadE (E := encEvent) _ _ true 4 s2930.2.1 0 (s2930.2.1.toNat * 4) y2948 (.agg #[.int .i64 y2948.Tick, .int .i64 y2948.Guest, .string y2948.Kind, .int .i64 y2948.Value]) rfl (by kernel_rfl) (by kernel_rfl) (by kernel_rfl) (ho2941.rd M2935 0 (by kernel_rfl)) hy2948 rfl) ?_
        refine W_new (fun b => .pointer (some ⟨b, 0, none⟩)) (.cells ⟨[.int .i64 0, .int .i64 0, .string ByteArray.empty, .int .i64 0]⟩ 26 (0, 0)) M2935 rfl (by kernel_rfl) (by kernel_rfl) ?_
        intro b2950 w2951 M2952
        refine W_store _ _ _ true 4 b2950 0 [.int .i64 0, .int .i64 0, .string ByteArray.empty, .int .i64 0] 26 (.agg #[.int .i64 y2948.Tick, .int .i64 y2948.Guest, .string y2948.Kind, .int .i64 y2948.Value]) 1 [.int .i64 y2948.Tick, .int .i64 y2948.Guest, .string y2948.Kind, .int .i64 y2948.Value] M2952 (by kernel_rfl) rfl (by kernel_rfl) (by kernel_rfl) (by kernel_rfl) (by kernel_rfl) (by kernel_rfl) (by kernel_rfl) (by kernel_rfl) (by kernel_rfl) ?_
        intro w2953 M2954
        refine W_nil ?_
        refine N_then ?_
        refine G_seq ?_
        refine G_region ?_
        refine W_run 1 [(0, .slice p2742 s2930.2.2.length c2743), (1, .func (.func 82) #[] #[.pointer (some ⟨b2756, 0, none⟩)]), (5, .int .i64 s2930.1), (6, .int .i64 s2930.2.1), (7, .pointer (some ⟨b2950, 0, none⟩)), (26, .func (.func 82) #[] #[.pointer (some ⟨b2756, 0, none⟩)])] w2953 (by kernel_rfl) ?_
        refine W_val (.agg #[.int .i64 y2948.Tick, .int .i64 y2948.Guest, .string y2948.Kind, .int .i64 y2948.Value]) w2953 (by kernel_rfl) (E_load (e := 26) (fr := (0, 0)) _ _ true 4 b2950 0 [.int .i64 y2948.Tick, .int .i64 y2948.Guest, .string y2948.Kind, .int .i64 y2948.Value] (.agg #[.int .i64 y2948.Tick, .int .i64 y2948.Guest, .string y2948.Kind, .int .i64 y2948.Value]) rfl (by kernel_rfl) (by kernel_rfl) (by kernel_rfl) (M2954.blk 1 (b := b2950) (o := .cells ⟨[.int .i64 y2948.Tick, .int .i64 y2948.Guest, .string y2948.Kind, .int .i64 y2948.Value]⟩ 26 (0, 0)) (by kernel_rfl))) ?_
        obtain ⟨r2955, hr2955, hm⟩ := gx_bind hm
        refine W_call 82 #[.agg #[.int .i64 y2948.Tick, .int .i64 y2948.Guest, .string y2948.Kind, .int .i64 y2948.Value], .pointer (some ⟨b2756, 0, none⟩)] (by kernel_rfl) (by kernel_rfl) ?_
        refine (c_i_eventsWhere_1__i_EventsWithin_1 w2953 y2948 x2746 b2747 (M2954.roX hb2748 nf2750) x2751 b2752 (M2954.roX hb2753 nf2755) b2756 (M2954.roX hb2757 nf2759) hr2955).mono ?_
        rintro e_ w2956 ⟨rfl, K2957⟩
        have M2958 := M2954.call0 K2957
        refine ⟨_, rfl, ?_⟩
        refine W_run 1 [(0, .slice p2742 s2930.2.2.length c2743), (1, .func (.func 82) #[] #[.pointer (some ⟨b2756, 0, none⟩)]), (5, .int .i64 s2930.1), (6, .int .i64 s2930.2.1), (7, .pointer (some ⟨b2950, 0, none⟩)), (29, .bool (!r2955))] w2956 (by kernel_rfl) ?_
        refine W_nil ?_
        refine N_then ?_
        obtain ⟨o2965, ho2966, hm2967⟩ := gx_bind hm
        refine G_meet (fun a w' => ∃ (sg2968 : Seg), ownS encEvent o2965.2 p2742 c2743 sg2968 ∧ o2965.2.length = x2740.length ∧ Mem (idsOf [sg2744]) w w' [sg2968] ∧ Sat Try.f81.ntmps [(0, .slice p2742 o2965.2.length c2743), (1, .func (.func 82) #[] #[.pointer (some ⟨b2756, 0, none⟩)]), (5, .int .i64 o2965.1), (6, .int .i64 s2930.2.1)] a) ?_ ?_
        · have hm := ho2966
          rcases gx_bif hm with ⟨hc2971, hm⟩ | ⟨hc2971, hm⟩
          · refine G_cond_t (b := (!r2955)) hc2971 (by kernel_rfl) ?_
            refine G_seq ?_
            refine G_region ?_
            refine W_run 2 [(0, .slice p2742 s2930.2.2.length c2743), (1, .func (.func 82) #[] #[.pointer (some ⟨b2756, 0, none⟩)]), (5, .int .i64 s2930.1), (6, .int .i64 s2930.2.1), (7, .pointer (some ⟨b2950, 0, none⟩)), (30, .slice p2742 s2930.2.2.length c2743), (31, .int .i64 s2930.1)] w2956 (by kernel_rfl) ?_
            refine W_val (.agg #[.int .i64 y2948.Tick, .int .i64 y2948.Guest, .string y2948.Kind, .int .i64 y2948.Value]) w2956 (by kernel_rfl) (E_load (e := 26) (fr := (0, 0)) _ _ true 4 b2950 0 [.int .i64 y2948.Tick, .int .i64 y2948.Guest, .string y2948.Kind, .int .i64 y2948.Value] (.agg #[.int .i64 y2948.Tick, .int .i64 y2948.Guest, .string y2948.Kind, .int .i64 y2948.Value]) rfl (by kernel_rfl) (by kernel_rfl) (by kernel_rfl) (M2958.blk 1 (b := b2950) (o := .cells ⟨[.int .i64 y2948.Tick, .int .i64 y2948.Guest, .string y2948.Kind, .int .i64 y2948.Value]⟩ 26 (0, 0)) (by kernel_rfl))) ?_
            obtain ⟨y2972, hy2972, hm⟩ := gx_bind hm
            refine W_val (elemP p2742 (s2930.1.toNat * 4)) w2956 (by kernel_rfl) (E_index (E := encEvent) _ _ _ s2930.2.2.length c2743 .i64 s2930.1 4 (y := y2972) rfl (by kernel_rfl) (by kernel_rfl) (by kernel_rfl) (ho2941.rd M2958 0 (by kernel_rfl)) rfl hy2972) ?_
            refine W_storeE (E := encEvent) _ _ _ true 4 s2930.1.toNat 0 (s2930.1.toNat * 4) y2972 y2948 (.agg #[.int .i64 y2948.Tick, .int .i64 y2948.Guest, .string y2948.Kind, .int .i64 y2948.Value]) 0 M2958 ho2941 (by kernel_rfl) (by kernel_rfl) rfl (by kernel_rfl) (by kernel_rfl) (by kernel_rfl) (by kernel_rfl) (by kernel_rfl) (by kernel_rfl) (by kernel_rfl) (gxIdx_spec hy2972).2 rfl ?_
            intro w2973 sg2975 ho2976 M2974
            refine W_conv 0 (.slice p2742 s2930.2.2.length c2743) (.slice p2742 (s2930.2.2.set s2930.1.toNat y2948).length c2743) (by kernel_rfl) (by rw [@List.length_set _ s2930.2.2 s2930.1.toNat y2948]) ?_
            refine W_conv 30 (.slice p2742 s2930.2.2.length c2743) (.slice p2742 (s2930.2.2.set s2930.1.toNat y2948).length c2743) (by kernel_rfl) (by rw [@List.length_set _ s2930.2.2 s2930.1.toNat y2948]) ?_
            refine W_nil ?_
            refine N_then ?_
            refine G_region ?_
            refine W_run 3 [(0, .slice p2742 (s2930.2.2.set s2930.1.toNat y2948).length c2743), (1, .func (.func 82) #[] #[.pointer (some ⟨b2756, 0, none⟩)]), (5, .int .i64 (w64 (s2930.1 + 1))), (6, .int .i64 s2930.2.1)] w2973 (by kernel_rfl) ?_
            refine W_nil ?_
            obtain rfl := Option.some.inj hm
            exact N_meet fun a ha => ⟨sg2975, ho2976, (List.length_set.trans hl2942), M2974.pick [0] (by kernel_rfl), ha.sub (by kernel_rfl)⟩
          · refine G_cond_f (b := (!r2955)) hc2971 (by kernel_rfl) ?_
            refine G_skip ?_
            obtain rfl := Option.some.inj hm
            exact N_meet fun a ha => ⟨sg2940, ho2941, hl2942, M2958.pick [0] (by kernel_rfl), ha.sub (by kernel_rfl)⟩
        · intro a2979 w2977 ⟨sg2968, ho2969, hl2970, M2978, hS2980⟩
          refine N_use hS2980 ?_
          have hm := hm2967
          refine N_block ?_
          refine N_then ?_
          refine G_region ?_
          refine W_run 3 [(0, .slice p2742 o2965.2.length c2743), (1, .func (.func 82) #[] #[.pointer (some ⟨b2756, 0, none⟩)]), (5, .int .i64 o2965.1), (6, .int .i64 (w64 (s2930.2.1 + 1)))] w2977 (by kernel_rfl) ?_
          refine W_nil ?_
          obtain rfl := Option.some.inj hm
          exact N_loop fun a ha => ⟨_, rfl, sg2968, ho2969, hl2970, M2978.pick [0] (by kernel_rfl), ha.sub (by kernel_rfl)⟩
      · refine G_cond_f (b := (decide (s2930.2.1 < (s2930.2.2.length : Int)))) hc2947 (by kernel_rfl) ?_
        refine G_exit ?_
        refine N_then_exit ?_
        refine N_then_exit ?_
        refine N_block_eq ?_
        obtain rfl := Option.some.inj hm
        obtain rfl := hout2932 _ rfl
        exact N_meet fun a ha => ⟨sg2940, ho2941, hl2942, M2935.pick [0] (by kernel_rfl), ha.sub (by kernel_rfl)⟩
    · intro a2981 w2982 ⟨sg2944, ho2945, hl2946, M2983, hS2984⟩
      refine N_use hS2984 ?_
      have hm := hmo2939
      refine N_then ?_
      refine G_seq ?_
      refine G_region ?_
      refine W_run 2 [(0, .slice p2742 out2937.2.length c2743), (5, .int .i64 out2937.1), (36, .slice p2742 out2937.2.length c2743), (37, .int .i64 out2937.1)] w2982 (by kernel_rfl) ?_
      obtain ⟨ys2985, hys2985, hm⟩ := gx_bind hm
      refine W_val (.slice (subP p2742 out2937.1.toNat c2743 4) ys2985.length (c2743 - out2937.1.toNat)) w2982 (by kernel_rfl) (E_slice (E := encEvent) _ _ _ _ out2937.2.length out2937.1 (out2937.2.length : Int) rfl (by kernel_rfl) (Or.inr ⟨_, rfl, by kernel_rfl⟩) (Or.inl ⟨rfl, rfl⟩) (by kernel_rfl) (ho2945.rd M2983 0 (by kernel_rfl)) rfl hys2985) ?_
      refine W_clear (E := encEvent) _ _ out2937.1 (out2937.2.length : Int) 40 [.int .i64 0, .int .i64 0, .string ByteArray.empty, .int .i64 0] ((⟨0, 0, ByteArray.empty, 0⟩ : Event) : Event) 0 M2983 ho2945 (by kernel_rfl) (by kernel_rfl) (by kernel_rfl) rfl (by kernel_rfl) hys2985 (by kernel_rfl) (by kernel_rfl) ?_
      intro w2987 sg2989 ho2990 M2988
      refine W_conv 0 (.slice p2742 out2937.2.length c2743) (.slice p2742 (gxClear out2937.2 out2937.1 (out2937.2.length : Int) ((⟨0, 0, ByteArray.empty, 0⟩ : Event) : Event)).length c2743) (by kernel_rfl) (by rw [gxClear_len ((⟨0, 0, ByteArray.empty, 0⟩ : Event) : Event) hys2985]) ?_
      refine W_conv 36 (.slice p2742 out2937.2.length c2743) (.slice p2742 (gxClear out2937.2 out2937.1 (out2937.2.length : Int) ((⟨0, 0, ByteArray.empty, 0⟩ : Event) : Event)).length c2743) (by kernel_rfl) (by rw [gxClear_len ((⟨0, 0, ByteArray.empty, 0⟩ : Event) : Event) hys2985]) ?_
      refine W_nil ?_
      refine N_then ?_
      refine G_seq ?_
      refine G_region ?_
      refine W_run 2 [(39, .slice p2742 (gxClear out2937.2 out2937.1 (out2937.2.length : Int) ((⟨0, 0, ByteArray.empty, 0⟩ : Event) : Event)).length c2743), (40, .int .i64 out2937.1)] w2987 (by kernel_rfl) ?_
      obtain ⟨ys2991, hys2991, hm⟩ := gx_bind hm
      refine W_val (.slice (subP p2742 (0 : Int).toNat c2743 4) ys2991.length (c2743 - (0 : Int).toNat)) w2987 (by kernel_rfl) (E_slice (E := encEvent) _ _ _ _ (gxClear out2937.2 out2937.1 (out2937.2.length : Int) ((⟨0, 0, ByteArray.empty, 0⟩ : Event) : Event)).length 0 out2937.1 rfl (by kernel_rfl) (Or.inl ⟨rfl, rfl⟩) (Or.inr ⟨_, rfl, by kernel_rfl⟩) (by kernel_rfl) (ho2990.rd M2988 0 (by kernel_rfl)) rfl hys2991) ?_
      refine W_run 1 [(4, .slice (subP p2742 (0 : Int).toNat c2743 4) ys2991.length (c2743 - (0 : Int).toNat))] w2987 (by kernel_rfl) ?_
      refine W_nil ?_
      refine N_then ?_
      refine G_ret ?_
      obtain rfl := Option.some.inj hm
      refine N_ret [.slice (subP p2742 (0 : Int).toNat c2743 4) ys2991.length (c2743 - (0 : Int).toNat)] (RVs_cons (RV_tmp (by kernel_rfl)) RVs_nil) ?_
      exact ⟨sg2989, (subP p2742 (0 : Int).toNat c2743 4), (c2743 - (0 : Int).toNat), rfl, ho2990, ((gxClear_len ((⟨0, 0, ByteArray.empty, 0⟩ : Event) : Event) hys2985).trans hl2946), ⟨0, out2937.1, rfl, rfl, hys2991⟩, M2988.pick [0] (by kernel_rfl)⟩
theorem c_i_eventsWhere__i_EventsWithin_1 (w : World) (x2703 : List Event) (p2705 : Option Addr) (c2706 : Nat) (h2707 : rdS encEvent w x2703 p2705 c2706) (x2708 : Int) (b2709 : Nat) (hb2710 : w.heap[b2709]? = some (.cells ⟨[.int .i64 x2708]⟩ 3 (0, 0))) (x2712 : Int) (b2713 : Nat) (hb2714 : w.heap[b2713]? = some (.cells ⟨[.int .i64 x2712]⟩ 3 (0, 0))) {r : (List Event)} (hm : M.i_eventsWhere__i_EventsWithin_1 x2703 x2708 x2712 = some r) :
    Calls Try.prog 62 #[.slice p2705 x2703.length c2706, .func (.func 66) #[] #[.pointer (some ⟨b2709, 0, none⟩), .pointer (some ⟨b2713, 0, none⟩)]] w fun e w' => ∃ (p2717 : Option Addr) (c2718 : Nat) (sg2719 : Seg), e = .returned (.slice p2717 r.length c2718) ∧ ownS encEvent r p2717 c2718 sg2719 ∧ Mem [] w w' [sg2719] := by
  unfold M.i_eventsWhere__i_EventsWithin_1 at hm
  refine C_enter Try.func62 rfl (by kernel_rfl) ?_
  have M0 := Mem.refl [] w
  refine G_seq ?_
  refine G_region ?_
  refine W_new (fun b => .pointer (some ⟨b, 0, none⟩)) (.cells ⟨[.func (.func 66) #[] #[.pointer (some ⟨b2709, 0, none⟩), .pointer (some ⟨b2713, 0, none⟩)]]⟩ 25 (0, 0)) M0 rfl (by kernel_rfl) (by kernel_rfl) ?_
  intro b2721 w2722 M2723
  refine W_run 1 [(0, .slice p2705 x2703.length c2706), (3, .pointer (some ⟨b2721, 0, none⟩))] w2722 (by kernel_rfl) ?_
  refine W_nil ?_
  refine N_then ?_
  refine G_seq ?_
  refine G_region ?_
  refine W_lit (E := encEvent) ([] : List Event) 0 [] 26 M2723 (by kernel_rfl) (by kernel_rfl) (by kernel_rfl) (by kernel_rfl) (by kernel_rfl) ?_
  intro p2725 c2726 sg2727 w2728 ho2729 M2730
  refine W_run 1 [(3, .pointer (some ⟨b2721, 0, none⟩)), (5, .slice p2725 ([] : List Event).length c2726), (6, .slice p2705 x2703.length c2706)] w2728 (by kernel_rfl) ?_
  obtain ⟨ap2732, hap2732, hm⟩ := gx_bind hm
  refine W_append (E := encEvent) _ _ _ 40 [.int .i64 0, .int .i64 0, .string ByteArray.empty, .int .i64 0] 1 c2706 M2730 ho2729 (by kernel_rfl) (by kernel_rfl) (by kernel_rfl) rfl (by kernel_rfl) (by kernel_rfl) (by kernel_rfl) (by kernel_rfl) (by kernel_rfl) (by kernel_rfl) (h2707.mem0 M2730) hap2732 ?_
  intro p2733 c2734 sg2735 w2736 ho2737 M2738
  refine W_run 1 [(7, .slice p2733 ap2732.length c2734), (8, .func (.func 82) #[] #[.pointer (some ⟨b2721, 0, none⟩)])] w2736 (by kernel_rfl) ?_
  obtain ⟨r2993, hr2993, hm⟩ := gx_bind hm
  refine W_call 81 #[.slice p2733 ap2732.length c2734, .func (.func 82) #[] #[.pointer (some ⟨b2721, 0, none⟩)]] (by kernel_rfl) (by kernel_rfl) ?_
  refine (c_slices_DeleteFunc_81__i_eventsWhere_1__i_EventsWithin_1 w2736 ap2732 p2733 c2734 sg2735 ho2737 x2708 b2709 (M2738.ro hb2710) x2712 b2713 (M2738.ro hb2714) b2721 (M2738.blk 0 (b := b2721) (o := .cells ⟨[.func (.func 66) #[] #[.pointer (some ⟨b2709, 0, none⟩), .pointer (some ⟨b2713, 0, none⟩)]]⟩ 25 (0, 0)) (by kernel_rfl)) (M2738.hasPick [1]) (M2738.nodupPick [1] (by kernel_rfl)) (blkOld M2738 hb2710 (by simp) [1]) (blkOld M2738 hb2714 (by simp) [1]) (blkApart M2738 0 (o := .cells ⟨[.func (.func 66) #[] #[.pointer (some ⟨b2709, 0, none⟩), .pointer (some ⟨b2713, 0, none⟩)]]⟩ 25 (0, 0)) (by kernel_rfl) [1] (by kernel_rfl)) hr2993).mono ?_
  rintro e_ w3004 ⟨sg2994, p3002, c3003, rfl, ho2995, hl2996, hw3001, K3005⟩
  obtain ⟨l2998, h2999, rfl, rfl, hv3000⟩ := hw3001
  have M3006 := M2738.callF' [1] [0] (by kernel_rfl) K3005
  refine ⟨_, rfl, ?_⟩
  refine W_conv 7 (.slice p2733 ap2732.length c2734) (.slice p2733 r2993.2.length c2734) (by kernel_rfl) (by first | rw [hl2996] | rw [hl2996]) ?_
  refine W_run 1 [(4, .slice (subP p2733 l2998.toNat c2734 4) r2993.1.length (c2734 - l2998.toNat))] w3004 (by kernel_rfl) ?_
  refine W_nil ?_
  refine N_then ?_
  refine G_ret ?_
  obtain rfl := Option.some.inj hm
  refine N_ret [.slice (subP p2733 l2998.toNat c2734 4) r2993.1.length (c2734 - l2998.toNat)] (RVs_cons (RV_tmp (by kernel_rfl)) RVs_nil) ?_
  exact ⟨(subP p2733 l2998.toNat c2734 4), (c2734 - l2998.toNat), sg2994, rfl, (ho2995.partM hv3000), M3006.pick [1] (by kernel_rfl)⟩
theorem c_i_EventsWithin (w : World) (x2644 : List Event) (p2646 : Option Addr) (c2647 : Nat) (h2648 : rdS encEvent w x2644 p2646 c2647) (x2649 : Int) (x2650 : Int) {r : (List Event) × Bool} (hm : M.i_EventsWithin x2644 x2649 x2650 = some r) :
    Calls Try.prog 31 #[.slice p2646 x2644.length c2647, .int .i64 x2649, .int .i64 x2650] w fun e w' => ∃ (p2652 : Option Addr) (c2653 : Nat) (sg2654 : Seg), e = .returned (.tuple #[.slice p2652 r.1.length c2653, .bool r.2]) ∧ ownS encEvent r.1 p2652 c2653 sg2654 ∧ Mem [] w w' [sg2654] := by
  unfold M.i_EventsWithin at hm
  refine C_enter Try.func31 rfl (by kernel_rfl) ?_
  have M0 := Mem.refl [] w
  refine G_seq ?_
  refine G_region ?_
  refine W_new (fun b => .pointer (some ⟨b, 0, none⟩)) (.cells ⟨[.int .i64 x2649]⟩ 3 (0, 0)) M0 rfl (by kernel_rfl) (by kernel_rfl) ?_
  intro b2656 w2657 M2658
  refine W_new (fun b => .pointer (some ⟨b, 0, none⟩)) (.cells ⟨[.int .i64 x2650]⟩ 3 (0, 0)) M2658 rfl (by kernel_rfl) (by kernel_rfl) ?_
  intro b2660 w2661 M2662
  refine W_run 2 [(0, .slice p2646 x2644.length c2647), (4, .pointer (some ⟨b2656, 0, none⟩)), (5, .pointer (some ⟨b2660, 0, none⟩))] w2661 (by kernel_rfl) ?_
  refine W_nil ?_
  refine N_then ?_
  refine G_seq ?_
  refine G_seq ?_
  obtain ⟨o2679, ho2680, hm2681⟩ := gx_bind hm
  refine G_meet (fun a w' => Mem [] w w' [[(b2656, .cells ⟨[.int .i64 x2649]⟩ 3 (0, 0))], [(b2660, .cells ⟨[.int .i64 x2650]⟩ 3 (0, 0))]] ∧ Sat Try.f31.ntmps [(0, .slice p2646 x2644.length c2647), (4, .pointer (some ⟨b2656, 0, none⟩)), (5, .pointer (some ⟨b2660, 0, none⟩)), (25, .bool o2679)] a) ?_ ?_
  · have hm := ho2680
    refine G_region ?_
    refine W_run 1 [(0, .slice p2646 x2644.length c2647), (4, .pointer (some ⟨b2656, 0, none⟩)), (5, .pointer (some ⟨b2660, 0, none⟩)), (8, .slice p2646 x2644.length c2647)] w2661 (by kernel_rfl) ?_
    obtain ⟨r2682, hr2682, hm⟩ := gx_bind hm
    refine W_call 20 #[.slice p2646 x2644.length c2647] (by kernel_rfl) (by kernel_rfl) ?_
    refine (c_i_IsRecord w2661 x2644 p2646 c2647 (h2648.mem0 M2662) hr2682).mono ?_
    rintro e_ w2683 ⟨rfl, K2684⟩
    have M2685 := M2662.call0 K2684
    refine ⟨_, rfl, ?_⟩
    refine W_run 2 [(0, .slice p2646 x2644.length c2647), (4, .pointer (some ⟨b2656, 0, none⟩)), (5, .pointer (some ⟨b2660, 0, none⟩)), (11, .bool (!r2682))] w2683 (by kernel_rfl) ?_
    rcases gx_bif hm with ⟨hc2686, hm⟩ | ⟨hc2686, hm⟩
    · refine W_known 11 true (by kernel_rfl) hc2686 ?_
      refine W_run 14 [(0, .slice p2646 x2644.length c2647), (4, .pointer (some ⟨b2656, 0, none⟩)), (5, .pointer (some ⟨b2660, 0, none⟩)), (25, .bool true)] w2683 (by kernel_rfl) ?_
      refine W_nil ?_
      obtain rfl := Option.some.inj hm
      exact N_meet fun a ha => ⟨M2685.pick [0, 1] (by kernel_rfl), ha.sub (by kernel_rfl)⟩
    · refine W_known 11 false (by kernel_rfl) hc2686 ?_
      refine W_val (.int .i64 x2649) w2683 (by kernel_rfl) (E_load (e := 3) (fr := (0, 0)) _ _ false 1 b2656 0 [.int .i64 x2649] (.int .i64 x2649) rfl (by kernel_rfl) (by kernel_rfl) (by kernel_rfl) (M2685.blk 0 (b := b2656) (o := .cells ⟨[.int .i64 x2649]⟩ 3 (0, 0)) (by kernel_rfl))) ?_
      obtain ⟨r2687, hr2687, hm⟩ := gx_bind hm
      refine W_call 52 #[.int .i64 x2649] (by kernel_rfl) (by kernel_rfl) ?_
      refine (c_i_isTick w2683 x2649 hr2687).mono ?_
      rintro e_ w2688 ⟨rfl, K2689⟩
      have M2690 := M2685.call0 K2689
      refine ⟨_, rfl, ?_⟩
      refine W_run 3 [(0, .slice p2646 x2644.length c2647), (4, .pointer (some ⟨b2656, 0, none⟩)), (5, .pointer (some ⟨b2660, 0, none⟩)), (16, .bool (!r2687))] w2688 (by kernel_rfl) ?_
      rcases gx_bif hm with ⟨hc2691, hm⟩ | ⟨hc2691, hm⟩
      · refine W_known 16 true (by kernel_rfl) hc2691 ?_
        refine W_run 9 [(0, .slice p2646 x2644.length c2647), (4, .pointer (some ⟨b2656, 0, none⟩)), (5, .pointer (some ⟨b2660, 0, none⟩)), (25, .bool true)] w2688 (by kernel_rfl) ?_
        refine W_nil ?_
        obtain rfl := Option.some.inj hm
        exact N_meet fun a ha => ⟨M2690.pick [0, 1] (by kernel_rfl), ha.sub (by kernel_rfl)⟩
      · refine W_known 16 false (by kernel_rfl) hc2691 ?_
        refine W_val (.int .i64 x2650) w2688 (by kernel_rfl) (E_load (e := 3) (fr := (0, 0)) _ _ false 1 b2660 0 [.int .i64 x2650] (.int .i64 x2650) rfl (by kernel_rfl) (by kernel_rfl) (by kernel_rfl) (M2690.blk 1 (b := b2660) (o := .cells ⟨[.int .i64 x2650]⟩ 3 (0, 0)) (by kernel_rfl))) ?_
        obtain ⟨r2692, hr2692, hm⟩ := gx_bind hm
        refine W_call 52 #[.int .i64 x2650] (by kernel_rfl) (by kernel_rfl) ?_
        refine (c_i_isTick w2688 x2650 hr2692).mono ?_
        rintro e_ w2693 ⟨rfl, K2694⟩
        have M2695 := M2690.call0 K2694
        refine ⟨_, rfl, ?_⟩
        refine W_run 3 [(0, .slice p2646 x2644.length c2647), (4, .pointer (some ⟨b2656, 0, none⟩)), (5, .pointer (some ⟨b2660, 0, none⟩)), (21, .bool (!r2692))] w2693 (by kernel_rfl) ?_
        rcases gx_bif hm with ⟨hc2696, hm⟩ | ⟨hc2696, hm⟩
        · refine W_known 21 true (by kernel_rfl) hc2696 ?_
          refine W_run 4 [(0, .slice p2646 x2644.length c2647), (4, .pointer (some ⟨b2656, 0, none⟩)), (5, .pointer (some ⟨b2660, 0, none⟩)), (25, .bool true)] w2693 (by kernel_rfl) ?_
          refine W_nil ?_
          obtain rfl := Option.some.inj hm
          exact N_meet fun a ha => ⟨M2695.pick [0, 1] (by kernel_rfl), ha.sub (by kernel_rfl)⟩
        · refine W_known 21 false (by kernel_rfl) hc2696 ?_
          refine W_val (.int .i64 x2649) w2693 (by kernel_rfl) (E_load (e := 3) (fr := (0, 0)) _ _ false 1 b2656 0 [.int .i64 x2649] (.int .i64 x2649) rfl (by kernel_rfl) (by kernel_rfl) (by kernel_rfl) (M2695.blk 0 (b := b2656) (o := .cells ⟨[.int .i64 x2649]⟩ 3 (0, 0)) (by kernel_rfl))) ?_
          refine W_val (.int .i64 x2650) w2693 (by kernel_rfl) (E_load (e := 3) (fr := (0, 0)) _ _ false 1 b2660 0 [.int .i64 x2650] (.int .i64 x2650) rfl (by kernel_rfl) (by kernel_rfl) (by kernel_rfl) (M2695.blk 1 (b := b2660) (o := .cells ⟨[.int .i64 x2650]⟩ 3 (0, 0)) (by kernel_rfl))) ?_
          refine W_run 2 [(0, .slice p2646 x2644.length c2647), (4, .pointer (some ⟨b2656, 0, none⟩)), (5, .pointer (some ⟨b2660, 0, none⟩)), (25, .bool (decide (x2649 > x2650)))] w2693 (by kernel_rfl) ?_
          refine W_nil ?_
          obtain rfl := Option.some.inj hm
          exact N_meet fun a ha => ⟨M2695.pick [0, 1] (by kernel_rfl), ha.sub (by kernel_rfl)⟩
  · intro a2699 w2697 ⟨M2698, hS2700⟩
    refine N_use hS2700 ?_
    have hm := hm2681
    refine N_then ?_
    rcases gx_bif hm with ⟨hc2701, hm⟩ | ⟨hc2701, hm⟩
    · refine G_cond_t (b := o2679) hc2701 (by kernel_rfl) ?_
      refine G_seq ?_
      refine G_region ?_
      refine W_run 2 [(6, .slice none 0 0), (7, .bool false)] w2697 (by kernel_rfl) ?_
      refine W_nil ?_
      refine N_then ?_
      refine G_ret ?_
      refine N_then_ret ?_
      obtain rfl := Option.some.inj hm
      refine N_ret [.slice none 0 0, .bool false] (RVs_cons (RV_tmp (by kernel_rfl)) (RVs_cons (RV_tmp (by kernel_rfl)) RVs_nil)) ?_
      exact ⟨none, 0, [], rfl, ownS_nil, M2698.pick [100000] (by kernel_rfl)⟩
    · refine G_cond_f (b := o2679) hc2701 (by kernel_rfl) ?_
      refine G_skip ?_
      refine N_then ?_
      refine G_seq ?_
      refine G_region ?_
      refine W_run 2 [(26, .slice p2646 x2644.length c2647), (27, .func (.func 66) #[] #[.pointer (some ⟨b2656, 0, none⟩), .pointer (some ⟨b2660, 0, none⟩)])] w2697 (by kernel_rfl) ?_
      obtain ⟨r3007, hr3007, hm⟩ := gx_bind hm
      refine W_call 62 #[.slice p2646 x2644.length c2647, .func (.func 66) #[] #[.pointer (some ⟨b2656, 0, none⟩), .pointer (some ⟨b2660, 0, none⟩)]] (by kernel_rfl) (by kernel_rfl) ?_
      refine (c_i_eventsWhere__i_EventsWithin_1 w2697 x2644 p2646 c2647 (h2648.mem0 M2698) x2649 b2656 (M2698.blk 0 (b := b2656) (o := .cells ⟨[.int .i64 x2649]⟩ 3 (0, 0)) (by kernel_rfl)) x2650 b2660 (M2698.blk 1 (b := b2660) (o := .cells ⟨[.int .i64 x2650]⟩ 3 (0, 0)) (by kernel_rfl)) hr3007).mono ?_
      rintro e_ w3013 ⟨p3009, c3010, sg3011, rfl, ho3012, K3014⟩
      have M3015 := M2698.call K3014
      refine ⟨_, rfl, ?_⟩
      refine W_run 2 [(6, .slice p3009 r3007.length c3010), (7, .bool true)] w3013 (by kernel_rfl) ?_
      refine W_nil ?_
      refine N_then ?_
      refine G_ret ?_
      obtain rfl := Option.some.inj hm
      refine N_ret [.slice p3009 r3007.length c3010, .bool true] (RVs_cons (RV_tmp (by kernel_rfl)) (RVs_cons (RV_tmp (by kernel_rfl)) RVs_nil)) ?_
      exact ⟨p3009, c3010, sg3011, rfl, ho3012, M3015.pick [2] (by kernel_rfl)⟩
theorem c_l_FnExactEventsWithin (w : World) (x2362 : List Event) (p2364 : Option Addr) (c2365 : Nat) (h2366 : rdS encEvent w x2362 p2364 c2365) (x2367 : Int) (x2368 : Int) {r : Bool} (hm : M.l_FnExactEventsWithin x2362 x2367 x2368 = some r) :
    Calls Try.prog 8 #[.slice p2364 x2362.length c2365, .int .i64 x2367, .int .i64 x2368] w fun e w' => e = .returned (.bool r) ∧ Mem [] w w' [] := by
  unfold M.l_FnExactEventsWithin at hm
  refine C_enter Try.func8 rfl (by kernel_rfl) ?_
  have M0 := Mem.refl [] w
  refine G_seq ?_
  refine G_region ?_
  refine W_run 1 [(0, .slice p2364 x2362.length c2365), (1, .int .i64 x2367), (2, .int .i64 x2368)] w (by kernel_rfl) ?_
  refine W_nil ?_
  refine N_then ?_
  refine G_seq ?_
  refine G_region ?_
  refine W_run 1 [(0, .slice p2364 x2362.length c2365), (1, .int .i64 x2367), (2, .int .i64 x2368), (7, .int .i64 1048576)] w (by kernel_rfl) ?_
  refine W_nil ?_
  refine N_then ?_
  refine G_seq ?_
  refine G_region ?_
  refine W_run 2 [(0, .slice p2364 x2362.length c2365), (1, .int .i64 x2367), (2, .int .i64 x2368), (7, .int .i64 1048576), (18, .slice p2364 x2362.length c2365), (19, .int .i64 1048576)] w (by kernel_rfl) ?_
  obtain ⟨r2369, hr2369, hm⟩ := gx_bind hm
  refine W_call 17 #[.slice p2364 x2362.length c2365, .int .i64 1048576] (by kernel_rfl) (by kernel_rfl) ?_
  refine (c_l_szEventS w x2362 p2364 c2365 (h2366.mem0 M0) 1048576 hr2369).mono ?_
  rintro e_ w2370 ⟨rfl, K2371⟩
  have M2372 := M0.call0 K2371
  refine ⟨_, rfl, ?_⟩
  refine W_run 1 [(0, .slice p2364 x2362.length c2365), (1, .int .i64 x2367), (2, .int .i64 x2368), (7, .int .i64 r2369)] w2370 (by kernel_rfl) ?_
  refine W_nil ?_
  refine N_then ?_
  refine G_seq ?_
  refine G_seq ?_
  refine G_region ?_
  refine W_run 2 [(0, .slice p2364 x2362.length c2365), (1, .int .i64 x2367), (2, .int .i64 x2368), (22, .bool (decide (r2369 < 0)))] w2370 (by kernel_rfl) ?_
  refine W_nil ?_
  refine N_then ?_
  rcases gx_bif hm with ⟨hc2373, hm⟩ | ⟨hc2373, hm⟩
  · refine G_cond_t (b := (decide (r2369 < 0))) hc2373 (by kernel_rfl) ?_
    refine G_seq ?_
    refine G_region ?_
    refine W_run 1 [(6, .bool true)] w2370 (by kernel_rfl) ?_
    refine W_nil ?_
    refine N_then ?_
    refine G_ret ?_
    refine N_then_ret ?_
    obtain rfl := Option.some.inj hm
    refine N_ret [.bool true] (RVs_cons (RV_tmp (by kernel_rfl)) RVs_nil) ?_
    exact ⟨rfl, M2372.pick [] (by kernel_rfl)⟩
  · refine G_cond_f (b := (decide (r2369 < 0))) hc2373 (by kernel_rfl) ?_
    refine G_skip ?_
    refine N_then ?_
    refine G_seq ?_
    refine G_region ?_
    refine W_run 1 [(0, .slice p2364 x2362.length c2365), (1, .int .i64 x2367), (2, .int .i64 x2368), (24, .slice p2364 x2362.length c2365)] w2370 (by kernel_rfl) ?_
    obtain ⟨r2374, hr2374, hm⟩ := gx_bind hm
    refine W_call 19 #[.slice p2364 x2362.length c2365] (by kernel_rfl) (by kernel_rfl) ?_
    refine (c_l_toEventS w2370 x2362 p2364 c2365 (h2366.mem0 M2372) hr2374).mono ?_
    rintro e_ w2380 ⟨p2376, c2377, sg2378, rfl, ho2379, K2381⟩
    have M2382 := M2372.call K2381
    refine ⟨_, rfl, ?_⟩
    refine W_run 2 [(0, .slice p2364 x2362.length c2365), (1, .int .i64 x2367), (2, .int .i64 x2368), (25, .slice p2376 r2374.length c2377), (26, .int .i64 x2367), (27, .int .i64 x2368)] w2380 (by kernel_rfl) ?_
    obtain ⟨r2626, hr2626, hm⟩ := gx_bind hm
    refine W_call 30 #[.slice p2376 r2374.length c2377, .int .i64 x2367, .int .i64 x2368] (by kernel_rfl) (by kernel_rfl) ?_
    refine (c_s_EventsWithin w2380 r2374 p2376 c2377 (ho2379.rd M2382 0 (by kernel_rfl)) x2367 x2368 hr2626).mono ?_
    rintro e_ w2632 ⟨p2628, c2629, sg2630, rfl, ho2631, K2633⟩
    have M2634 := M2382.call K2633
    refine ⟨_, rfl, ?_⟩
    refine W_run 5 [(0, .slice p2364 x2362.length c2365), (1, .int .i64 x2367), (2, .int .i64 x2368), (8, .slice p2628 r2626.1.length c2629), (9, .bool r2626.2)] w2632 (by kernel_rfl) ?_
    refine W_nil ?_
    refine N_then ?_
    refine G_seq ?_
    refine G_region ?_
    refine W_run 1 [(0, .slice p2364 x2362.length c2365), (1, .int .i64 x2367), (2, .int .i64 x2368), (8, .slice p2628 r2626.1.length c2629), (9, .bool r2626.2), (31, .slice p2364 x2362.length c2365)] w2632 (by kernel_rfl) ?_
    obtain ⟨r2635, hr2635, hm⟩ := gx_bind hm
    refine W_call 19 #[.slice p2364 x2362.length c2365] (by kernel_rfl) (by kernel_rfl) ?_
    refine (c_l_toEventS w2632 x2362 p2364 c2365 (h2366.mem0 M2634) hr2635).mono ?_
    rintro e_ w2641 ⟨p2637, c2638, sg2639, rfl, ho2640, K2642⟩
    have M2643 := M2634.call K2642
    refine ⟨_, rfl, ?_⟩
    refine W_run 1 [(0, .slice p2364 x2362.length c2365), (1, .int .i64 x2367), (2, .int .i64 x2368), (8, .slice p2628 r2626.1.length c2629), (9, .bool r2626.2), (10, .slice p2637 r2635.length c2638)] w2641 (by kernel_rfl) ?_
    refine W_nil ?_
    refine N_then ?_
    refine G_seq ?_
    refine G_region ?_
    refine W_run 3 [(0, .slice p2364 x2362.length c2365), (1, .int .i64 x2367), (2, .int .i64 x2368), (8, .slice p2628 r2626.1.length c2629), (9, .bool r2626.2), (10, .slice p2637 r2635.length c2638), (34, .slice p2637 r2635.length c2638), (35, .int .i64 x2367), (36, .int .i64 x2368)] w2641 (by kernel_rfl) ?_
    obtain ⟨r3016, hr3016, hm⟩ := gx_bind hm
    refine W_call 31 #[.slice p2637 r2635.length c2638, .int .i64 x2367, .int .i64 x2368] (by kernel_rfl) (by kernel_rfl) ?_
    refine (c_i_EventsWithin w2641 r2635 p2637 c2638 (ho2640.rd M2643 2 (by kernel_rfl)) x2367 x2368 hr3016).mono ?_
    rintro e_ w3022 ⟨p3018, c3019, sg3020, rfl, ho3021, K3023⟩
    have M3024 := M2643.call K3023
    refine ⟨_, rfl, ?_⟩
    refine W_run 5 [(0, .slice p2364 x2362.length c2365), (1, .int .i64 x2367), (2, .int .i64 x2368), (8, .slice p2628 r2626.1.length c2629), (9, .bool r2626.2), (10, .slice p2637 r2635.length c2638), (11, .slice p3018 r3016.1.length c3019), (12, .bool r3016.2)] w3022 (by kernel_rfl) ?_
    refine W_nil ?_
    refine N_then ?_
    refine G_seq ?_
    refine G_seq ?_
    obtain ⟨o3030, ho3031, hm3032⟩ := gx_bind hm
    refine G_meet (fun a w' => Mem [] w w' [sg2630, sg2639, sg3020] ∧ Sat Try.f8.ntmps [(0, .slice p2364 x2362.length c2365), (1, .int .i64 x2367), (2, .int .i64 x2368), (8, .slice p2628 r2626.1.length c2629), (9, .bool r2626.2), (10, .slice p2637 r2635.length c2638), (11, .slice p3018 r3016.1.length c3019), (12, .bool r3016.2), (48, .bool o3030)] a) ?_ ?_
    · have hm := ho3031
      refine G_region ?_
      refine W_run 2 [(0, .slice p2364 x2362.length c2365), (1, .int .i64 x2367), (2, .int .i64 x2368), (8, .slice p2628 r2626.1.length c2629), (9, .bool r2626.2), (10, .slice p2637 r2635.length c2638), (11, .slice p3018 r3016.1.length c3019), (12, .bool r3016.2), (40, .slice p3018 r3016.1.length c3019), (41, .slice p2628 r2626.1.length c2629)] w3022 (by kernel_rfl) ?_
      obtain ⟨r3033, hr3033, hm⟩ := gx_bind hm
      refine W_call 21 #[.slice p3018 r3016.1.length c3019, .slice p2628 r2626.1.length c2629] (by kernel_rfl) (by kernel_rfl) ?_
      refine (c_l_eqEventS w3022 r3016.1 p3018 c3019 (ho3021.rd M3024 3 (by kernel_rfl)) r2626.1 p2628 c2629 (ho2631.rd M3024 1 (by kernel_rfl)) hr3033).mono ?_
      rintro e_ w3034 ⟨rfl, K3035⟩
      have M3036 := M3024.call0 K3035
      refine ⟨_, rfl, ?_⟩
      refine W_run 2 [(0, .slice p2364 x2362.length c2365), (1, .int .i64 x2367), (2, .int .i64 x2368), (8, .slice p2628 r2626.1.length c2629), (9, .bool r2626.2), (10, .slice p2637 r2635.length c2638), (11, .slice p3018 r3016.1.length c3019), (12, .bool r3016.2), (44, .bool (!r3033))] w3034 (by kernel_rfl) ?_
      rcases gx_bif hm with ⟨hc3037, hm⟩ | ⟨hc3037, hm⟩
      · refine W_known 44 true (by kernel_rfl) hc3037 ?_
        refine W_run 4 [(0, .slice p2364 x2362.length c2365), (1, .int .i64 x2367), (2, .int .i64 x2368), (8, .slice p2628 r2626.1.length c2629), (9, .bool r2626.2), (10, .slice p2637 r2635.length c2638), (11, .slice p3018 r3016.1.length c3019), (12, .bool r3016.2), (48, .bool true)] w3034 (by kernel_rfl) ?_
        refine W_nil ?_
        obtain rfl := Option.some.inj hm
        exact N_meet fun a ha => ⟨M3036.pick [1, 2, 3] (by kernel_rfl), ha.sub (by kernel_rfl)⟩
      · refine W_known 44 false (by kernel_rfl) hc3037 ?_
        refine W_run 4 [(0, .slice p2364 x2362.length c2365), (1, .int .i64 x2367), (2, .int .i64 x2368), (8, .slice p2628 r2626.1.length c2629), (9, .bool r2626.2), (10, .slice p2637 r2635.length c2638), (11, .slice p3018 r3016.1.length c3019), (12, .bool r3016.2), (48, .bool (!(r3016.2 == r2626.2)))] w3034 (by kernel_rfl) ?_
        refine W_nil ?_
        obtain rfl := Option.some.inj hm
        exact N_meet fun a ha => ⟨M3036.pick [1, 2, 3] (by kernel_rfl), ha.sub (by kernel_rfl)⟩
    · intro a3040 w3038 ⟨M3039, hS3041⟩
      refine N_use hS3041 ?_
      have hm := hm3032
      refine N_then ?_
      rcases gx_bif hm with ⟨hc3042, hm⟩ | ⟨hc3042, hm⟩
      · refine G_cond_t (b := o3030) hc3042 (by kernel_rfl) ?_
        refine G_seq ?_
        refine G_region ?_
        refine W_run 1 [(6, .bool false)] w3038 (by kernel_rfl) ?_
        refine W_nil ?_
        refine N_then ?_
        refine G_ret ?_
        refine N_then_ret ?_
        obtain rfl := Option.some.inj hm
        refine N_ret [.bool false] (RVs_cons (RV_tmp (by kernel_rfl)) RVs_nil) ?_
        exact ⟨rfl, M3039.pick [] (by kernel_rfl)⟩
      · refine G_cond_f (b := o3030) hc3042 (by kernel_rfl) ?_
        refine G_skip ?_
        refine N_then ?_
        refine G_seq ?_
        refine G_seq ?_
        refine G_region ?_
        refine W_run 2 [(0, .slice p2364 x2362.length c2365), (1, .int .i64 x2367), (2, .int .i64 x2368), (8, .slice p2628 r2626.1.length c2629), (9, .bool r2626.2), (10, .slice p2637 r2635.length c2638), (11, .slice p3018 r3016.1.length c3019), (12, .bool r3016.2), (49, .slice p2637 r2635.length c2638), (50, .slice p2364 x2362.length c2365)] w3038 (by kernel_rfl) ?_
        obtain ⟨r3043, hr3043, hm⟩ := gx_bind hm
        refine W_call 19 #[.slice p2364 x2362.length c2365] (by kernel_rfl) (by kernel_rfl) ?_
        refine (c_l_toEventS w3038 x2362 p2364 c2365 (h2366.mem0 M3039) hr3043).mono ?_
        rintro e_ w3049 ⟨p3045, c3046, sg3047, rfl, ho3048, K3050⟩
        have M3051 := M3039.call K3050
        refine ⟨_, rfl, ?_⟩
        obtain ⟨r3052, hr3052, hm⟩ := gx_bind hm
        refine W_call 21 #[.slice p2637 r2635.length c2638, .slice p3045 r3043.length c3046] (by kernel_rfl) (by kernel_rfl) ?_
        refine (c_l_eqEventS w3049 r2635 p2637 c2638 (ho2640.rd M3051 1 (by kernel_rfl)) r3043 p3045 c3046 (ho3048.rd M3051 3 (by kernel_rfl)) hr3052).mono ?_
        rintro e_ w3053 ⟨rfl, K3054⟩
        have M3055 := M3051.call0 K3054
        refine ⟨_, rfl, ?_⟩
        refine W_run 1 [(0, .slice p2364 x2362.length c2365), (1, .int .i64 x2367), (2, .int .i64 x2368), (8, .slice p2628 r2626.1.length c2629), (9, .bool r2626.2), (10, .slice p2637 r2635.length c2638), (11, .slice p3018 r3016.1.length c3019), (12, .bool r3016.2), (53, .bool (!r3052))] w3053 (by kernel_rfl) ?_
        refine W_nil ?_
        refine N_then ?_
        rcases gx_bif hm with ⟨hc3056, hm⟩ | ⟨hc3056, hm⟩
        · refine G_cond_t (b := (!r3052)) hc3056 (by kernel_rfl) ?_
          refine G_seq ?_
          refine G_region ?_
          refine W_run 1 [(6, .bool false)] w3053 (by kernel_rfl) ?_
          refine W_nil ?_
          refine N_then ?_
          refine G_ret ?_
          refine N_then_ret ?_
          obtain rfl := Option.some.inj hm
          refine N_ret [.bool false] (RVs_cons (RV_tmp (by kernel_rfl)) RVs_nil) ?_
          exact ⟨rfl, M3055.pick [] (by kernel_rfl)⟩
        · refine G_cond_f (b := (!r3052)) hc3056 (by kernel_rfl) ?_
          refine G_skip ?_
          refine N_then ?_
          refine G_seq ?_
          refine G_region ?_
          refine W_run 1 [(0, .slice p2364 x2362.length c2365), (1, .int .i64 x2367), (2, .int .i64 x2368), (8, .slice p2628 r2626.1.length c2629), (9, .bool r2626.2), (10, .slice p2637 r2635.length c2638), (11, .slice p3018 r3016.1.length c3019), (12, .bool r3016.2), (13, .int .i64 1)] w3053 (by kernel_rfl) ?_
          refine W_nil ?_
          refine N_then ?_
          refine G_seq ?_
          refine G_region ?_
          refine W_run 2 [(0, .slice p2364 x2362.length c2365), (1, .int .i64 x2367), (2, .int .i64 x2368), (8, .slice p2628 r2626.1.length c2629), (9, .bool r2626.2), (11, .slice p3018 r3016.1.length c3019), (12, .bool r3016.2), (13, .int .i64 1), (54, .slice p2637 r2635.length c2638), (55, .int .i64 1)] w3053 (by kernel_rfl) ?_
          obtain ⟨r3057, hr3057, hm⟩ := gx_bind hm
          refine W_call 28 #[.slice p2637 r2635.length c2638, .int .i64 1] (by kernel_rfl) (by kernel_rfl) ?_
          refine (c_l_markEventS w3053 r2635 p2637 c2638 sg2639 ho2640 1 (M3055.hasPick [1]) (M3055.nodupPick [1] (by kernel_rfl)) hr3057).mono ?_
          rintro e_ w3061 ⟨sg3058, rfl, ho3059, hl3060, K3062⟩
          have M3063 := M3055.callF' [1] [0, 2, 3] (by kernel_rfl) K3062
          refine ⟨_, rfl, ?_⟩
          refine W_conv 54 (.slice p2637 r2635.length c2638) (.slice p2637 r3057.2.length c2638) (by kernel_rfl) (by first | rw [hl3060] | rw [hl3060]) ?_
          refine W_run 1 [(0, .slice p2364 x2362.length c2365), (1, .int .i64 x2367), (2, .int .i64 x2368), (8, .slice p2628 r2626.1.length c2629), (9, .bool r2626.2), (11, .slice p3018 r3016.1.length c3019), (12, .bool r3016.2), (13, .int .i64 r3057.1)] w3061 (by kernel_rfl) ?_
          refine W_nil ?_
          refine N_then ?_
          refine G_seq ?_
          refine G_seq ?_
          obtain ⟨o3070, ho3071, hm3072⟩ := gx_bind hm
          refine G_meet (fun a w' => Mem [] w w' [sg2630, sg3020] ∧ Sat Try.f8.ntmps [(0, .slice p2364 x2362.length c2365), (1, .int .i64 x2367), (2, .int .i64 x2368), (8, .slice p2628 r2626.1.length c2629), (9, .bool r2626.2), (11, .slice p3018 r3016.1.length c3019), (69, .bool o3070)] a) ?_ ?_
          · have hm := ho3071
            refine G_region ?_
            refine W_run 3 [(0, .slice p2364 x2362.length c2365), (1, .int .i64 x2367), (2, .int .i64 x2368), (8, .slice p2628 r2626.1.length c2629), (9, .bool r2626.2), (11, .slice p3018 r3016.1.length c3019), (12, .bool r3016.2), (59, .bool (decide (r3057.1 < 0)))] w3061 (by kernel_rfl) ?_
            rcases gx_bif hm with ⟨hc3073, hm⟩ | ⟨hc3073, hm⟩
            · refine W_known 59 true (by kernel_rfl) hc3073 ?_
              refine W_run 10 [(0, .slice p2364 x2362.length c2365), (1, .int .i64 x2367), (2, .int .i64 x2368), (8, .slice p2628 r2626.1.length c2629), (9, .bool r2626.2), (11, .slice p3018 r3016.1.length c3019), (69, .bool true)] w3061 (by kernel_rfl) ?_
              refine W_nil ?_
              obtain rfl := Option.some.inj hm
              exact N_meet fun a ha => ⟨M3063.pick [0, 1] (by kernel_rfl), ha.sub (by kernel_rfl)⟩
            · refine W_known 59 false (by kernel_rfl) hc3073 ?_
              refine W_run 2 [(0, .slice p2364 x2362.length c2365), (1, .int .i64 x2367), (2, .int .i64 x2368), (8, .slice p2628 r2626.1.length c2629), (9, .bool r2626.2), (11, .slice p3018 r3016.1.length c3019), (12, .bool r3016.2), (59, .bool false), (60, .slice p3018 r3016.1.length c3019), (61, .slice p2628 r2626.1.length c2629)] w3061 (by kernel_rfl) ?_
              obtain ⟨r3074, hr3074, hm⟩ := gx_bind hm
              refine W_call 21 #[.slice p3018 r3016.1.length c3019, .slice p2628 r2626.1.length c2629] (by kernel_rfl) (by kernel_rfl) ?_
              refine (c_l_eqEventS w3061 r3016.1 p3018 c3019 (ho3021.rd M3063 1 (by kernel_rfl)) r2626.1 p2628 c2629 (ho2631.rd M3063 0 (by kernel_rfl)) hr3074).mono ?_
              rintro e_ w3075 ⟨rfl, K3076⟩
              have M3077 := M3063.call0 K3076
              refine ⟨_, rfl, ?_⟩
              refine W_run 3 [(0, .slice p2364 x2362.length c2365), (1, .int .i64 x2367), (2, .int .i64 x2368), (8, .slice p2628 r2626.1.length c2629), (9, .bool r2626.2), (11, .slice p3018 r3016.1.length c3019), (12, .bool r3016.2), (65, .bool (!r3074))] w3075 (by kernel_rfl) ?_
              rcases gx_bif hm with ⟨hc3078, hm⟩ | ⟨hc3078, hm⟩
              · refine W_known 65 true (by kernel_rfl) hc3078 ?_
                refine W_run 4 [(0, .slice p2364 x2362.length c2365), (1, .int .i64 x2367), (2, .int .i64 x2368), (8, .slice p2628 r2626.1.length c2629), (9, .bool r2626.2), (11, .slice p3018 r3016.1.length c3019), (69, .bool true)] w3075 (by kernel_rfl) ?_
                refine W_nil ?_
                obtain rfl := Option.some.inj hm
                exact N_meet fun a ha => ⟨M3077.pick [0, 1] (by kernel_rfl), ha.sub (by kernel_rfl)⟩
              · refine W_known 65 false (by kernel_rfl) hc3078 ?_
                refine W_run 4 [(0, .slice p2364 x2362.length c2365), (1, .int .i64 x2367), (2, .int .i64 x2368), (8, .slice p2628 r2626.1.length c2629), (9, .bool r2626.2), (11, .slice p3018 r3016.1.length c3019), (69, .bool (!(r3016.2 == r2626.2)))] w3075 (by kernel_rfl) ?_
                refine W_nil ?_
                obtain rfl := Option.some.inj hm
                exact N_meet fun a ha => ⟨M3077.pick [0, 1] (by kernel_rfl), ha.sub (by kernel_rfl)⟩
          · intro a3081 w3079 ⟨M3080, hS3082⟩
            refine N_use hS3082 ?_
            have hm := hm3072
            refine N_then ?_
            rcases gx_bif hm with ⟨hc3083, hm⟩ | ⟨hc3083, hm⟩
            · refine G_cond_t (b := o3070) hc3083 (by kernel_rfl) ?_
              refine G_seq ?_
              refine G_region ?_
              refine W_run 1 [(6, .bool false)] w3079 (by kernel_rfl) ?_
              refine W_nil ?_
              refine N_then ?_
              refine G_ret ?_
              refine N_then_ret ?_
              obtain rfl := Option.some.inj hm
              refine N_ret [.bool false] (RVs_cons (RV_tmp (by kernel_rfl)) RVs_nil) ?_
              exact ⟨rfl, M3080.pick [] (by kernel_rfl)⟩
            · refine G_cond_f (b := o3070) hc3083 (by kernel_rfl) ?_
              refine G_skip ?_
              refine N_then ?_
              refine G_seq ?_
              refine G_region ?_
              refine W_run 1 [(0, .slice p2364 x2362.length c2365), (1, .int .i64 x2367), (2, .int .i64 x2368), (8, .slice p2628 r2626.1.length c2629), (9, .bool r2626.2), (11, .slice p3018 r3016.1.length c3019), (14, .int .i64 1)] w3079 (by kernel_rfl) ?_
              refine W_nil ?_
              refine N_then ?_
              refine G_seq ?_
              refine G_region ?_
              refine W_run 2 [(0, .slice p2364 x2362.length c2365), (1, .int .i64 x2367), (2, .int .i64 x2368), (8, .slice p2628 r2626.1.length c2629), (9, .bool r2626.2), (11, .slice p3018 r3016.1.length c3019), (14, .int .i64 1), (70, .slice p3018 r3016.1.length c3019), (71, .int .i64 1)] w3079 (by kernel_rfl) ?_
              obtain ⟨r3084, hr3084, hm⟩ := gx_bind hm
              refine W_call 28 #[.slice p3018 r3016.1.length c3019, .int .i64 1] (by kernel_rfl) (by kernel_rfl) ?_
              refine (c_l_markEventS w3079 r3016.1 p3018 c3019 sg3020 ho3021 1 (M3080.hasPick [1]) (M3080.nodupPick [1] (by kernel_rfl)) hr3084).mono ?_
              rintro e_ w3088 ⟨sg3085, rfl, ho3086, hl3087, K3089⟩
              have M3090 := M3080.callF' [1] [0] (by kernel_rfl) K3089
              refine ⟨_, rfl, ?_⟩
              refine W_conv 11 (.slice p3018 r3016.1.length c3019) (.slice p3018 r3084.2.length c3019) (by kernel_rfl) (by first | rw [hl3087] | rw [hl3087]) ?_
              refine W_conv 70 (.slice p3018 r3016.1.length c3019) (.slice p3018 r3084.2.length c3019) (by kernel_rfl) (by first | rw [hl3087] | rw [hl3087]) ?_
              refine W_run 1 [(0, .slice p2364 x2362.length c2365), (1, .int .i64 x2367), (2, .int .i64 x2368), (8, .slice p2628 r2626.1.length c2629), (9, .bool r2626.2), (11, .slice p3018 r3084.2.length c3019), (14, .int .i64 r3084.1)] w3088 (by kernel_rfl) ?_
              refine W_nil ?_
              refine N_then ?_
              refine G_seq ?_
              refine G_region ?_
              refine W_run 1 [(0, .slice p2364 x2362.length c2365), (1, .int .i64 x2367), (2, .int .i64 x2368), (8, .slice p2628 r2626.1.length c2629), (9, .bool r2626.2), (11, .slice p3018 r3084.2.length c3019), (14, .int .i64 r3084.1), (15, .int .i64 1)] w3088 (by kernel_rfl) ?_
              refine W_nil ?_
              refine N_then ?_
              refine G_seq ?_
              refine G_region ?_
              refine W_run 2 [(0, .slice p2364 x2362.length c2365), (1, .int .i64 x2367), (2, .int .i64 x2368), (8, .slice p2628 r2626.1.length c2629), (9, .bool r2626.2), (11, .slice p3018 r3084.2.length c3019), (14, .int .i64 r3084.1), (15, .int .i64 1), (73, .slice p3018 r3084.2.length c3019), (74, .int .i64 1)] w3088 (by kernel_rfl) ?_
              obtain ⟨r3091, hr3091, hm⟩ := gx_bind hm
              refine W_call 29 #[.slice p3018 r3084.2.length c3019, .int .i64 1] (by kernel_rfl) (by kernel_rfl) ?_
              refine (c_l_heldEventS w3088 r3084.2 p3018 c3019 (ho3086.rd M3090 1 (by kernel_rfl)) 1 hr3091).mono ?_
              rintro e_ w3092 ⟨rfl, K3093⟩
              have M3094 := M3090.call0 K3093
              refine ⟨_, rfl, ?_⟩
              refine W_run 1 [(0, .slice p2364 x2362.length c2365), (1, .int .i64 x2367), (2, .int .i64 x2368), (8, .slice p2628 r2626.1.length c2629), (9, .bool r2626.2), (11, .slice p3018 r3084.2.length c3019), (14, .int .i64 r3084.1), (15, .int .i64 r3091)] w3092 (by kernel_rfl) ?_
              refine W_nil ?_
              refine N_then ?_
              refine G_seq ?_
              refine G_seq ?_
              refine G_region ?_
              refine W_run 2 [(0, .slice p2364 x2362.length c2365), (1, .int .i64 x2367), (2, .int .i64 x2368), (8, .slice p2628 r2626.1.length c2629), (9, .bool r2626.2), (11, .slice p3018 r3084.2.length c3019), (14, .int .i64 r3084.1), (15, .int .i64 r3091), (77, .bool (decide (r3091 < 0)))] w3092 (by kernel_rfl) ?_
              refine W_nil ?_
              refine N_then ?_
              rcases gx_bif hm with ⟨hc3095, hm⟩ | ⟨hc3095, hm⟩
              · refine G_cond_t (b := (decide (r3091 < 0))) hc3095 (by kernel_rfl) ?_
                refine G_seq ?_
                refine G_region ?_
                refine W_run 1 [(6, .bool false)] w3092 (by kernel_rfl) ?_
                refine W_nil ?_
                refine N_then ?_
                refine G_ret ?_
                refine N_then_ret ?_
                obtain rfl := Option.some.inj hm
                refine N_ret [.bool false] (RVs_cons (RV_tmp (by kernel_rfl)) RVs_nil) ?_
                exact ⟨rfl, M3094.pick [] (by kernel_rfl)⟩
              · refine G_cond_f (b := (decide (r3091 < 0))) hc3095 (by kernel_rfl) ?_
                refine G_skip ?_
                refine N_then ?_
                refine G_seq ?_
                refine G_seq ?_
                refine G_region ?_
                refine W_run 3 [(0, .slice p2364 x2362.length c2365), (1, .int .i64 x2367), (2, .int .i64 x2368), (8, .slice p2628 r2626.1.length c2629), (9, .bool r2626.2), (11, .slice p3018 r3084.2.length c3019), (14, .int .i64 r3084.1), (80, .bool (r3091 != r3084.1))] w3092 (by kernel_rfl) ?_
                refine W_nil ?_
                refine N_then ?_
                rcases gx_bif hm with ⟨hc3096, hm⟩ | ⟨hc3096, hm⟩
                · refine G_cond_t (b := (r3091 != r3084.1)) hc3096 (by kernel_rfl) ?_
                  refine G_seq ?_
                  refine G_region ?_
                  refine W_run 1 [(6, .bool false)] w3092 (by kernel_rfl) ?_
                  refine W_nil ?_
                  refine N_then ?_
                  refine G_ret ?_
                  refine N_then_ret ?_
                  obtain rfl := Option.some.inj hm
                  refine N_ret [.bool false] (RVs_cons (RV_tmp (by kernel_rfl)) RVs_nil) ?_
                  exact ⟨rfl, M3094.pick [] (by kernel_rfl)⟩
                · refine G_cond_f (b := (r3091 != r3084.1)) hc3096 (by kernel_rfl) ?_
                  refine G_skip ?_
                  refine N_then ?_
                  refine G_seq ?_
                  refine G_region ?_
                  refine W_run 1 [(1, .int .i64 x2367), (2, .int .i64 x2368), (8, .slice p2628 r2626.1.length c2629), (9, .bool r2626.2), (11, .slice p3018 r3084.2.length c3019), (14, .int .i64 r3084.1), (82, .slice p2364 x2362.length c2365)] w3092 (by kernel_rfl) ?_
                  obtain ⟨r3097, hr3097, hm⟩ := gx_bind hm
                  refine W_call 19 #[.slice p2364 x2362.length c2365] (by kernel_rfl) (by kernel_rfl) ?_
                  refine (c_l_toEventS w3092 x2362 p2364 c2365 (h2366.mem0 M3094) hr3097).mono ?_
                  rintro e_ w3103 ⟨p3099, c3100, sg3101, rfl, ho3102, K3104⟩
                  have M3105 := M3094.call K3104
                  refine ⟨_, rfl, ?_⟩
                  refine W_run 2 [(8, .slice p2628 r2626.1.length c2629), (9, .bool r2626.2), (11, .slice p3018 r3084.2.length c3019), (14, .int .i64 r3084.1), (83, .slice p3099 r3097.length c3100), (84, .int .i64 x2367), (85, .int .i64 x2368)] w3103 (by kernel_rfl) ?_
                  obtain ⟨r3106, hr3106, hm⟩ := gx_bind hm
                  refine W_call 31 #[.slice p3099 r3097.length c3100, .int .i64 x2367, .int .i64 x2368] (by kernel_rfl) (by kernel_rfl) ?_
                  refine (c_i_EventsWithin w3103 r3097 p3099 c3100 (ho3102.rd M3105 2 (by kernel_rfl)) x2367 x2368 hr3106).mono ?_
                  rintro e_ w3112 ⟨p3108, c3109, sg3110, rfl, ho3111, K3113⟩
                  have M3114 := M3105.call K3113
                  refine ⟨_, rfl, ?_⟩
                  refine W_run 5 [(8, .slice p2628 r2626.1.length c2629), (9, .bool r2626.2), (11, .slice p3018 r3084.2.length c3019), (14, .int .i64 r3084.1), (16, .slice p3108 r3106.1.length c3109), (17, .bool r3106.2)] w3112 (by kernel_rfl) ?_
                  refine W_nil ?_
                  refine N_then ?_
                  refine G_seq ?_
                  refine G_seq ?_
                  obtain ⟨o3120, ho3121, hm3122⟩ := gx_bind hm
                  refine G_meet (fun a w' => Mem [] w w' [sg3085] ∧ Sat Try.f8.ntmps [(11, .slice p3018 r3084.2.length c3019), (14, .int .i64 r3084.1), (97, .bool o3120)] a) ?_ ?_
                  · have hm := ho3121
                    refine G_region ?_
                    refine W_run 2 [(9, .bool r2626.2), (11, .slice p3018 r3084.2.length c3019), (14, .int .i64 r3084.1), (17, .bool r3106.2), (89, .slice p3108 r3106.1.length c3109), (90, .slice p2628 r2626.1.length c2629)] w3112 (by kernel_rfl) ?_
                    obtain ⟨r3123, hr3123, hm⟩ := gx_bind hm
                    refine W_call 21 #[.slice p3108 r3106.1.length c3109, .slice p2628 r2626.1.length c2629] (by kernel_rfl) (by kernel_rfl) ?_
                    refine (c_l_eqEventS w3112 r3106.1 p3108 c3109 (ho3111.rd M3114 3 (by kernel_rfl)) r2626.1 p2628 c2629 (ho2631.rd M3114 0 (by kernel_rfl)) hr3123).mono ?_
                    rintro e_ w3124 ⟨rfl, K3125⟩
                    have M3126 := M3114.call0 K3125
                    refine ⟨_, rfl, ?_⟩
                    refine W_run 2 [(9, .bool r2626.2), (11, .slice p3018 r3084.2.length c3019), (14, .int .i64 r3084.1), (17, .bool r3106.2), (93, .bool (!r3123))] w3124 (by kernel_rfl) ?_
                    rcases gx_bif hm with ⟨hc3127, hm⟩ | ⟨hc3127, hm⟩
                    · refine W_known 93 true (by kernel_rfl) hc3127 ?_
                      refine W_run 4 [(11, .slice p3018 r3084.2.length c3019), (14, .int .i64 r3084.1), (97, .bool true)] w3124 (by kernel_rfl) ?_
                      refine W_nil ?_
                      obtain rfl := Option.some.inj hm
                      exact N_meet fun a ha => ⟨M3126.pick [1] (by kernel_rfl), ha.sub (by kernel_rfl)⟩
                    · refine W_known 93 false (by kernel_rfl) hc3127 ?_
                      refine W_run 4 [(11, .slice p3018 r3084.2.length c3019), (14, .int .i64 r3084.1), (97, .bool (!(r3106.2 == r2626.2)))] w3124 (by kernel_rfl) ?_
                      refine W_nil ?_
                      obtain rfl := Option.some.inj hm
                      exact N_meet fun a ha => ⟨M3126.pick [1] (by kernel_rfl), ha.sub (by kernel_rfl)⟩
                  · intro a3130 w3128 ⟨M3129, hS3131⟩
                    refine N_use hS3131 ?_
                    have hm := hm3122
                    refine N_then ?_
                    rcases gx_bif hm with ⟨hc3132, hm⟩ | ⟨hc3132, hm⟩
                    · refine G_cond_t (b := o3120) hc3132 (by kernel_rfl) ?_
                      refine G_seq ?_
                      refine G_region ?_
                      refine W_run 1 [(6, .bool false)] w3128 (by kernel_rfl) ?_
                      refine W_nil ?_
                      refine N_then ?_
                      refine G_ret ?_
                      refine N_then_ret ?_
                      obtain rfl := Option.some.inj hm
                      refine N_ret [.bool false] (RVs_cons (RV_tmp (by kernel_rfl)) RVs_nil) ?_
                      exact ⟨rfl, M3129.pick [] (by kernel_rfl)⟩
                    · refine G_cond_f (b := o3120) hc3132 (by kernel_rfl) ?_
                      refine G_skip ?_
                      refine N_then ?_
                      refine G_seq ?_
                      refine G_region ?_
                      refine W_run 1 [(11, .slice p3018 r3084.2.length c3019), (14, .int .i64 r3084.1), (15, .int .i64 1)] w3128 (by kernel_rfl) ?_
                      refine W_nil ?_
                      refine N_then ?_
                      refine G_seq ?_
                      refine G_region ?_
                      refine W_run 2 [(14, .int .i64 r3084.1), (15, .int .i64 1), (98, .slice p3018 r3084.2.length c3019), (99, .int .i64 1)] w3128 (by kernel_rfl) ?_
                      obtain ⟨r3133, hr3133, hm⟩ := gx_bind hm
                      refine W_call 29 #[.slice p3018 r3084.2.length c3019, .int .i64 1] (by kernel_rfl) (by kernel_rfl) ?_
                      refine (c_l_heldEventS w3128 r3084.2 p3018 c3019 (ho3086.rd M3129 0 (by kernel_rfl)) 1 hr3133).mono ?_
                      rintro e_ w3134 ⟨rfl, K3135⟩
                      have M3136 := M3129.call0 K3135
                      refine ⟨_, rfl, ?_⟩
                      refine W_run 1 [(14, .int .i64 r3084.1), (15, .int .i64 r3133)] w3134 (by kernel_rfl) ?_
                      refine W_nil ?_
                      refine N_then ?_
                      refine G_seq ?_
                      refine G_seq ?_
                      refine G_region ?_
                      refine W_run 2 [(14, .int .i64 r3084.1), (15, .int .i64 r3133), (102, .bool (decide (r3133 < 0)))] w3134 (by kernel_rfl) ?_
                      refine W_nil ?_
                      refine N_then ?_
                      rcases gx_bif hm with ⟨hc3137, hm⟩ | ⟨hc3137, hm⟩
                      · refine G_cond_t (b := (decide (r3133 < 0))) hc3137 (by kernel_rfl) ?_
                        refine G_seq ?_
                        refine G_region ?_
                        refine W_run 1 [(6, .bool false)] w3134 (by kernel_rfl) ?_
                        refine W_nil ?_
                        refine N_then ?_
                        refine G_ret ?_
                        refine N_then_ret ?_
                        obtain rfl := Option.some.inj hm
                        refine N_ret [.bool false] (RVs_cons (RV_tmp (by kernel_rfl)) RVs_nil) ?_
                        exact ⟨rfl, M3136.pick [] (by kernel_rfl)⟩
                      · refine G_cond_f (b := (decide (r3133 < 0))) hc3137 (by kernel_rfl) ?_
                        refine G_skip ?_
                        refine N_then ?_
                        refine G_seq ?_
                        refine G_seq ?_
                        refine G_region ?_
                        refine W_run 3 [(105, .bool (r3133 != r3084.1))] w3134 (by kernel_rfl) ?_
                        refine W_nil ?_
                        refine N_then ?_
                        rcases gx_bif hm with ⟨hc3138, hm⟩ | ⟨hc3138, hm⟩
                        · refine G_cond_t (b := (r3133 != r3084.1)) hc3138 (by kernel_rfl) ?_
                          refine G_seq ?_
                          refine G_region ?_
                          refine W_run 1 [(6, .bool false)] w3134 (by kernel_rfl) ?_
                          refine W_nil ?_
                          refine N_then ?_
                          refine G_ret ?_
                          refine N_then_ret ?_
                          obtain rfl := Option.some.inj hm
                          refine N_ret [.bool false] (RVs_cons (RV_tmp (by kernel_rfl)) RVs_nil) ?_
                          exact ⟨rfl, M3136.pick [] (by kernel_rfl)⟩
                        · refine G_cond_f (b := (r3133 != r3084.1)) hc3138 (by kernel_rfl) ?_
                          refine G_skip ?_
                          refine N_then ?_
                          refine G_seq ?_
                          refine G_region ?_
                          refine W_run 1 [(6, .bool true)] w3134 (by kernel_rfl) ?_
                          refine W_nil ?_
                          refine N_then ?_
                          refine G_ret ?_
                          obtain rfl := Option.some.inj hm
                          refine N_ret [.bool true] (RVs_cons (RV_tmp (by kernel_rfl)) RVs_nil) ?_
                          exact ⟨rfl, M3136.pick [] (by kernel_rfl)⟩
end Go.Proofs.Ytfcebglkdfadcaa
