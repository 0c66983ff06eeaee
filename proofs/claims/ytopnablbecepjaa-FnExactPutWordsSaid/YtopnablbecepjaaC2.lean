/- The walks, printed by program: whenever the model gives r, the call returns r. Part 2. -/
import Derived.Test.YtopnablbecepjaaM
import Derived.Test.YtopnablbecepjaaProg
import Derived.Test.YtopnablbecepjaaC1
set_option linter.unusedVariables false
set_option maxRecDepth 100000
set_option maxHeartbeats 4000000
namespace Go.Proofs.Ytopnablbecepjaa
open Go.Gx
theorem c_l_FnExactRingWords (w : World) (x1213 : Ring) (p1215 : Option Addr) (c1216 : Nat) (h1217 : rdS encI w x1213.Items p1215 c1216) {r : Bool} (hm : M.l_FnExactRingWords x1213 = some r) :
    Calls Try.prog 6 #[.agg #[.slice p1215 x1213.Items.length c1216, .int .i64 x1213.Head, .int .i64 x1213.Tail]] w fun e w' => e = .returned (.bool r) ∧ Mem [] w w' [] := by
  unfold M.l_FnExactRingWords at hm
  refine C_enter Try.func6 rfl (by kernel_rfl) ?_
  have M0 := Mem.refl [] w
  refine G_seq ?_
  refine G_region ?_
  refine W_new (fun b => .pointer (some ⟨b, 0, none⟩)) (.cells ⟨[.slice p1215 x1213.Items.length c1216, .int .i64 x1213.Head, .int .i64 x1213.Tail]⟩ 33 (0, 0)) M0 rfl (by kernel_rfl) (by kernel_rfl) ?_
  intro b1219 w1220 M1221
  refine W_run 1 [(1, .pointer (some ⟨b1219, 0, none⟩))] w1220 (by kernel_rfl) ?_
  refine W_nil ?_
  refine N_then ?_
  refine G_seq ?_
  refine G_region ?_
  refine W_run 1 [(1, .pointer (some ⟨b1219, 0, none⟩)), (3, .int .i64 1048576)] w1220 (by kernel_rfl) ?_
  refine W_nil ?_
  refine N_then ?_
  refine G_seq ?_
  refine G_region ?_
  refine W_val (.agg #[.slice p1215 x1213.Items.length c1216, .int .i64 x1213.Head, .int .i64 x1213.Tail]) w1220 (by kernel_rfl) (E_load (e := 33) (fr := (0, 0)) _ _ true 3 b1219 0 [.slice p1215 x1213.Items.length c1216, .int .i64 x1213.Head, .int .i64 x1213.Tail] (.agg #[.slice p1215 x1213.Items.length c1216, .int .i64 x1213.Head, .int .i64 x1213.Tail]) rfl (by kernel_rfl) (by kernel_rfl) (by kernel_rfl) (M1221.blk 0 (b := b1219) (o := .cells ⟨[.slice p1215 x1213.Items.length c1216, .int .i64 x1213.Head, .int .i64 x1213.Tail]⟩ 33 (0, 0)) (by kernel_rfl))) ?_
  refine W_run 1 [(1, .pointer (some ⟨b1219, 0, none⟩)), (3, .int .i64 1048576), (14, .agg #[.slice p1215 x1213.Items.length c1216, .int .i64 x1213.Head, .int .i64 x1213.Tail]), (15, .int .i64 1048576)] w1220 (by kernel_rfl) ?_
  obtain ⟨r1222, hr1222, hm⟩ := gx_bind hm
  refine W_call 21 #[.agg #[.slice p1215 x1213.Items.length c1216, .int .i64 x1213.Head, .int .i64 x1213.Tail], .int .i64 1048576] (by kernel_rfl) (by kernel_rfl) ?_
  refine (c_l_szRing w1220 x1213 p1215 c1216 (h1217.mem0 M1221) 1048576 hr1222).mono ?_
  rintro e_ w1223 ⟨rfl, K1224⟩
  have M1225 := M1221.call0 K1224
  refine ⟨_, rfl, ?_⟩
  refine W_run 1 [(1, .pointer (some ⟨b1219, 0, none⟩)), (3, .int .i64 r1222)] w1223 (by kernel_rfl) ?_
  refine W_nil ?_
  refine N_then ?_
  refine G_seq ?_
  refine G_seq ?_
  refine G_region ?_
  refine W_run 2 [(1, .pointer (some ⟨b1219, 0, none⟩)), (18, .bool (decide (r1222 < 0)))] w1223 (by kernel_rfl) ?_
  refine W_nil ?_
  refine N_then ?_
  rcases gx_bif hm with ⟨hc1226, hm⟩ | ⟨hc1226, hm⟩
  · refine G_cond_t (b := (decide (r1222 < 0))) hc1226 (by kernel_rfl) ?_
    refine G_seq ?_
    refine G_region ?_
    refine W_run 1 [(2, .bool true)] w1223 (by kernel_rfl) ?_
    refine W_nil ?_
    refine N_then ?_
    refine G_ret ?_
    refine N_then_ret ?_
    obtain rfl := Option.some.inj hm
    refine N_ret [.bool true] (RVs_cons (RV_tmp (by kernel_rfl)) RVs_nil) ?_
    exact ⟨rfl, M1225.pick [] (by kernel_rfl)⟩
  · refine G_cond_f (b := (decide (r1222 < 0))) hc1226 (by kernel_rfl) ?_
    refine G_skip ?_
    refine N_then ?_
    refine G_seq ?_
    refine G_region ?_
    refine W_val (.agg #[.slice p1215 x1213.Items.length c1216, .int .i64 x1213.Head, .int .i64 x1213.Tail]) w1223 (by kernel_rfl) (E_load (e := 33) (fr := (0, 0)) _ _ true 3 b1219 0 [.slice p1215 x1213.Items.length c1216, .int .i64 x1213.Head, .int .i64 x1213.Tail] (.agg #[.slice p1215 x1213.Items.length c1216, .int .i64 x1213.Head, .int .i64 x1213.Tail]) rfl (by kernel_rfl) (by kernel_rfl) (by kernel_rfl) (M1225.blk 0 (b := b1219) (o := .cells ⟨[.slice p1215 x1213.Items.length c1216, .int .i64 x1213.Head, .int .i64 x1213.Tail]⟩ 33 (0, 0)) (by kernel_rfl))) ?_
    obtain ⟨r1227, hr1227, hm⟩ := gx_bind hm
    refine W_call 23 #[.agg #[.slice p1215 x1213.Items.length c1216, .int .i64 x1213.Head, .int .i64 x1213.Tail]] (by kernel_rfl) (by kernel_rfl) ?_
    refine (c_l_toRing w1223 x1213 p1215 c1216 (h1217.mem0 M1225) hr1227).mono ?_
    rintro e_ w1233 ⟨p1229, c1230, sg1231, rfl, ho1232, K1234⟩
    have M1235 := M1225.call K1234
    refine ⟨_, rfl, ?_⟩
    obtain ⟨r1565, hr1565, hm⟩ := gx_bind hm
    refine W_call 25 #[.agg #[.slice p1229 r1227.Items.length c1230, .int .i64 r1227.Head, .int .i64 r1227.Tail]] (by kernel_rfl) (by kernel_rfl) ?_
    refine (c_s_RingWords w1233 r1227 p1229 c1230 (ho1232.rd M1235 1 (by kernel_rfl)) hr1565).mono ?_
    rintro e_ w1571 ⟨p1567, c1568, sg1569, rfl, ho1570, K1572⟩
    have M1573 := M1235.call K1572
    refine ⟨_, rfl, ?_⟩
    refine W_run 5 [(1, .pointer (some ⟨b1219, 0, none⟩)), (4, .slice p1567 r1565.1.length c1568), (5, .bool r1565.2)] w1571 (by kernel_rfl) ?_
    refine W_nil ?_
    refine N_then ?_
    refine G_seq ?_
    refine G_region ?_
    refine W_val (.agg #[.slice p1215 x1213.Items.length c1216, .int .i64 x1213.Head, .int .i64 x1213.Tail]) w1571 (by kernel_rfl) (E_load (e := 33) (fr := (0, 0)) _ _ true 3 b1219 0 [.slice p1215 x1213.Items.length c1216, .int .i64 x1213.Head, .int .i64 x1213.Tail] (.agg #[.slice p1215 x1213.Items.length c1216, .int .i64 x1213.Head, .int .i64 x1213.Tail]) rfl (by kernel_rfl) (by kernel_rfl) (by kernel_rfl) (M1573.blk 0 (b := b1219) (o := .cells ⟨[.slice p1215 x1213.Items.length c1216, .int .i64 x1213.Head, .int .i64 x1213.Tail]⟩ 33 (0, 0)) (by kernel_rfl))) ?_
    obtain ⟨r1574, hr1574, hm⟩ := gx_bind hm
    refine W_call 23 #[.agg #[.slice p1215 x1213.Items.length c1216, .int .i64 x1213.Head, .int .i64 x1213.Tail]] (by kernel_rfl) (by kernel_rfl) ?_
    refine (c_l_toRing w1571 x1213 p1215 c1216 (h1217.mem0 M1573) hr1574).mono ?_
    rintro e_ w1580 ⟨p1576, c1577, sg1578, rfl, ho1579, K1581⟩
    have M1582 := M1573.call K1581
    refine ⟨_, rfl, ?_⟩
    refine W_new (fun b => .pointer (some ⟨b, 0, none⟩)) (.cells ⟨[.slice none 0 0, .int .i64 0, .int .i64 0]⟩ 27 (0, 0)) M1582 rfl (by kernel_rfl) (by kernel_rfl) ?_
    intro b1585 w1586 M1587
    refine W_store _ _ _ true 3 b1585 0 [.slice none 0 0, .int .i64 0, .int .i64 0] 27 (.agg #[.slice p1576 r1574.Items.length c1577, .int .i64 r1574.Head, .int .i64 r1574.Tail]) 4 [.slice p1576 r1574.Items.length c1577, .int .i64 r1574.Head, .int .i64 r1574.Tail] M1587 (by kernel_rfl) rfl (by kernel_rfl) (by kernel_rfl) (by kernel_rfl) (by kernel_rfl) (by kernel_rfl) (by kernel_rfl) (by kernel_rfl) (by kernel_rfl) ?_
    intro w1588 M1589
    refine W_nil ?_
    refine N_then ?_
    refine G_seq ?_
    refine G_region ?_
    refine W_val (.agg #[.slice p1576 r1574.Items.length c1577, .int .i64 r1574.Head, .int .i64 r1574.Tail]) w1588 (by kernel_rfl) (E_load (e := 27) (fr := (0, 0)) _ _ true 3 b1585 0 [.slice p1576 r1574.Items.length c1577, .int .i64 r1574.Head, .int .i64 r1574.Tail] (.agg #[.slice p1576 r1574.Items.length c1577, .int .i64 r1574.Head, .int .i64 r1574.Tail]) rfl (by kernel_rfl) (by kernel_rfl) (by kernel_rfl) (M1589.blk 4 (b := b1585) (o := .cells ⟨[.slice p1576 r1574.Items.length c1577, .int .i64 r1574.Head, .int .i64 r1574.Tail]⟩ 27 (0, 0)) (by kernel_rfl))) ?_
    obtain ⟨r1905, hr1905, hm⟩ := gx_bind hm
    refine W_call 26 #[.agg #[.slice p1576 r1574.Items.length c1577, .int .i64 r1574.Head, .int .i64 r1574.Tail]] (by kernel_rfl) (by kernel_rfl) ?_
    refine (c_i_RingWords w1588 r1574 p1576 c1577 (ho1579.rd M1589 3 (by kernel_rfl)) hr1905).mono ?_
    rintro e_ w1911 ⟨p1907, c1908, sg1909, rfl, ho1910, K1912⟩
    have M1913 := M1589.call K1912
    refine ⟨_, rfl, ?_⟩
    refine W_run 5 [(1, .pointer (some ⟨b1219, 0, none⟩)), (4, .slice p1567 r1565.1.length c1568), (5, .bool r1565.2), (6, .pointer (some ⟨b1585, 0, none⟩)), (7, .slice p1907 r1905.1.length c1908), (8, .bool r1905.2)] w1911 (by kernel_rfl) ?_
    refine W_nil ?_
    refine N_then ?_
    refine G_seq ?_
    refine G_seq ?_
    obtain ⟨o1919, ho1920, hm1921⟩ := gx_bind hm
    refine G_meet (fun a w' => Mem [] w w' [[(b1219, .cells ⟨[.slice p1215 x1213.Items.length c1216, .int .i64 x1213.Head, .int .i64 x1213.Tail]⟩ 33 (0, 0))], sg1569, sg1578, [(b1585, .cells ⟨[.slice p1576 r1574.Items.length c1577, .int .i64 r1574.Head, .int .i64 r1574.Tail]⟩ 27 (0, 0))], sg1909] ∧ Sat Try.f6.ntmps [(1, .pointer (some ⟨b1219, 0, none⟩)), (4, .slice p1567 r1565.1.length c1568), (5, .bool r1565.2), (6, .pointer (some ⟨b1585, 0, none⟩)), (7, .slice p1907 r1905.1.length c1908), (8, .bool r1905.2), (40, .bool o1919)] a) ?_ ?_
    · have hm := ho1920
      refine G_region ?_
      refine W_run 2 [(1, .pointer (some ⟨b1219, 0, none⟩)), (4, .slice p1567 r1565.1.length c1568), (5, .bool r1565.2), (6, .pointer (some ⟨b1585, 0, none⟩)), (7, .slice p1907 r1905.1.length c1908), (8, .bool r1905.2), (32, .slice p1907 r1905.1.length c1908), (33, .slice p1567 r1565.1.length c1568)] w1911 (by kernel_rfl) ?_
      obtain ⟨r1922, hr1922, hm⟩ := gx_bind hm
      refine W_call 27 #[.slice p1907 r1905.1.length c1908, .slice p1567 r1565.1.length c1568] (by kernel_rfl) (by kernel_rfl) ?_
      refine (c_l_eqIntS w1911 r1905.1 p1907 c1908 (ho1910.rd M1913 5 (by kernel_rfl)) r1565.1 p1567 c1568 (ho1570.rd M1913 2 (by kernel_rfl)) hr1922).mono ?_
      rintro e_ w1923 ⟨rfl, K1924⟩
      have M1925 := M1913.call0 K1924
      refine ⟨_, rfl, ?_⟩
      refine W_run 2 [(1, .pointer (some ⟨b1219, 0, none⟩)), (4, .slice p1567 r1565.1.length c1568), (5, .bool r1565.2), (6, .pointer (some ⟨b1585, 0, none⟩)), (7, .slice p1907 r1905.1.length c1908), (8, .bool r1905.2), (36, .bool (!r1922))] w1923 (by kernel_rfl) ?_
      rcases gx_bif hm with ⟨hc1926, hm⟩ | ⟨hc1926, hm⟩
      · refine W_known 36 true (by kernel_rfl) hc1926 ?_
        refine W_run 4 [(1, .pointer (some ⟨b1219, 0, none⟩)), (4, .slice p1567 r1565.1.length c1568), (5, .bool r1565.2), (6, .pointer (some ⟨b1585, 0, none⟩)), (7, .slice p1907 r1905.1.length c1908), (8, .bool r1905.2), (40, .bool true)] w1923 (by kernel_rfl) ?_
        refine W_nil ?_
        obtain rfl := Option.some.inj hm
        exact N_meet fun a ha => ⟨M1925.pick [0, 2, 3, 4, 5] (by kernel_rfl), ha.sub (by kernel_rfl)⟩
      · refine W_known 36 false (by kernel_rfl) hc1926 ?_
        refine W_run 4 [(1, .pointer (some ⟨b1219, 0, none⟩)), (4, .slice p1567 r1565.1.length c1568), (5, .bool r1565.2), (6, .pointer (some ⟨b1585, 0, none⟩)), (7, .slice p1907 r1905.1.length c1908), (8, .bool r1905.2), (40, .bool (!(r1905.2 == r1565.2)))] w1923 (by kernel_rfl) ?_
        refine W_nil ?_
        obtain rfl := Option.some.inj hm
        exact N_meet fun a ha => ⟨M1925.pick [0, 2, 3, 4, 5] (by kernel_rfl), ha.sub (by kernel_rfl)⟩
    · intro a1929 w1927 ⟨M1928, hS1930⟩
      refine N_use hS1930 ?_
      have hm := hm1921
      refine N_then ?_
      rcases gx_bif hm with ⟨hc1931, hm⟩ | ⟨hc1931, hm⟩
      · refine G_cond_t (b := o1919) hc1931 (by kernel_rfl) ?_
        refine G_seq ?_
        refine G_region ?_
        refine W_run 1 [(2, .bool false)] w1927 (by kernel_rfl) ?_
        refine W_nil ?_
        refine N_then ?_
        refine G_ret ?_
        refine N_then_ret ?_
        obtain rfl := Option.some.inj hm
        refine N_ret [.bool false] (RVs_cons (RV_tmp (by kernel_rfl)) RVs_nil) ?_
        exact ⟨rfl, M1928.pick [] (by kernel_rfl)⟩
      · refine G_cond_f (b := o1919) hc1931 (by kernel_rfl) ?_
        refine G_skip ?_
        refine N_then ?_
        refine G_seq ?_
        refine G_seq ?_
        obtain ⟨r1934, hr1934, hm⟩ := gx_bind hm
        refine G_sub [(1, .pointer (some ⟨b1219, 0, none⟩)), (4, .slice p1567 r1565.1.length c1568), (5, .bool r1565.2), (6, .pointer (some ⟨b1585, 0, none⟩)), (7, .slice p1907 r1905.1.length c1908), (8, .bool r1905.2), (40, .bool o1919)] (by kernel_rfl) ?_
        refine G_dagL 3 [[], [], [1]] [[], [], []] [[], [], []] [[], [], []] [[], [], []] [[], [], []] (fun _ => []) (fun i => ([fun f v s => v = (.agg #[.slice p1576 r1574.Items.length c1577, .int .i64 r1574.Head, .int .i64 r1574.Tail] : Value) ∧ s = [], fun f v s => v = (.agg #[.slice p1215 x1213.Items.length c1216, .int .i64 x1213.Head, .int .i64 x1213.Tail] : Value) ∧ s = [], fun f v s => ∃ (p1936 : Option Addr) (c1937 : Nat), v = (.agg #[.slice p1936 r1934.Items.length c1937, .int .i64 r1934.Head, .int .i64 r1934.Tail] : Value) ∧ ownS encI r1934.Items p1936 c1937 s] : List ((Nat → Value) → Value → Seg → Prop)).getD i (fun _ _ _ => False)) (fun j f v => ∃ s, (fun i => ([fun f v s => v = (.agg #[.slice p1576 r1574.Items.length c1577, .int .i64 r1574.Head, .int .i64 r1574.Tail] : Value) ∧ s = [], fun f v s => v = (.agg #[.slice p1215 x1213.Items.length c1216, .int .i64 x1213.Head, .int .i64 x1213.Tail] : Value) ∧ s = [], fun f v s => ∃ (p1936 : Option Addr) (c1937 : Nat), v = (.agg #[.slice p1936 r1934.Items.length c1937, .int .i64 r1934.Head, .int .i64 r1934.Tail] : Value) ∧ ownS encI r1934.Items p1936 c1937 s] : List ((Nat → Value) → Value → Seg → Prop)).getD i (fun _ _ _ => False)) j f v s) [] [0, 2] [2] (fun _ _ _ s h => ⟨s, h⟩) (by kernel_rfl) (by kernel_rfl) (M1928.preNil 3) (by kernel_rfl) (by kernel_rfl) (by kernel_rfl) (by kernel_rfl) (allOb_cons ?_ (allOb_cons ?_ (allOb_cons ?_ allOb_nil))) ?_
        · intro g1932 f1933
          intro R w1940 M1941
          refine W_val (.agg #[.slice p1576 r1574.Items.length c1577, .int .i64 r1574.Head, .int .i64 r1574.Tail]) w1940 (by kernel_rfl) (E_load (e := 27) (fr := (0, 0)) _ _ true 3 b1585 0 [.slice p1576 r1574.Items.length c1577, .int .i64 r1574.Head, .int .i64 r1574.Tail] (.agg #[.slice p1576 r1574.Items.length c1577, .int .i64 r1574.Head, .int .i64 r1574.Tail]) rfl (by kernel_rfl) (by kernel_rfl) (by kernel_rfl) (M1941.blk 3 (b := b1585) (o := .cells ⟨[.slice p1576 r1574.Items.length c1577, .int .i64 r1574.Head, .int .i64 r1574.Tail]⟩ 27 (0, 0)) (by kernel_rfl))) ?_
          exact W_nil (ob_end (.agg #[.slice p1576 r1574.Items.length c1577, .int .i64 r1574.Head, .int .i64 r1574.Tail]) [] rfl (by kernel_rfl) ⟨by kernel_rfl, rfl⟩ M1941)
        · intro g1932 f1933
          intro R w1944 M1945
          refine W_val (.agg #[.slice p1215 x1213.Items.length c1216, .int .i64 x1213.Head, .int .i64 x1213.Tail]) w1944 (by kernel_rfl) (E_load (e := 33) (fr := (0, 0)) _ _ true 3 b1219 0 [.slice p1215 x1213.Items.length c1216, .int .i64 x1213.Head, .int .i64 x1213.Tail] (.agg #[.slice p1215 x1213.Items.length c1216, .int .i64 x1213.Head, .int .i64 x1213.Tail]) rfl (by kernel_rfl) (by kernel_rfl) (by kernel_rfl) (M1945.blk 0 (b := b1219) (o := .cells ⟨[.slice p1215 x1213.Items.length c1216, .int .i64 x1213.Head, .int .i64 x1213.Tail]⟩ 33 (0, 0)) (by kernel_rfl))) ?_
          exact W_nil (ob_end (.agg #[.slice p1215 x1213.Items.length c1216, .int .i64 x1213.Head, .int .i64 x1213.Tail]) [] rfl (by kernel_rfl) ⟨by kernel_rfl, rfl⟩ M1945)
        · intro g1932 f1933
          intro v1_ hb1_
          obtain ⟨rfl, _⟩ := hb1_
          intro R w1948 M1949
          refine W_call 23 #[.agg #[.slice p1215 x1213.Items.length c1216, .int .i64 x1213.Head, .int .i64 x1213.Tail]] (by kernel_rfl) (by kernel_rfl) ?_
          refine (c_l_toRing w1948 x1213 p1215 c1216 (h1217.mem0 M1949) hr1934).mono ?_
          rintro e_ w1950 ⟨p1936, c1937, sg1938, rfl, ho1939, K1952⟩
          refine ⟨_, rfl, ?_⟩
          exact W_nil (ob_end (.agg #[.slice p1936 r1934.Items.length c1937, .int .i64 r1934.Head, .int .i64 r1934.Tail]) sg1938 rfl (by kernel_rfl) ⟨p1936, c1937, rfl, ho1939⟩ (Mem.callMid M1949 K1952))
        · intro g1932 f1933
          intro v0_ hb0_
          obtain ⟨rfl, _⟩ := hb0_
          intro v2_ hb2_
          obtain ⟨p1936, c1937, rfl, ho1939⟩ := hb2_
          intro w1953 M1954
          have M1955 : Mem [] w w1953 [[(b1219, .cells ⟨[.slice p1215 x1213.Items.length c1216, .int .i64 x1213.Head, .int .i64 x1213.Tail]⟩ 33 (0, 0))], sg1569, sg1578, [(b1585, .cells ⟨[.slice p1576 r1574.Items.length c1577, .int .i64 r1574.Head, .int .i64 r1574.Tail]⟩ 27 (0, 0))], sg1909, (g1932 2)] := M1954
          obtain ⟨r1956, hr1956, hm⟩ := gx_bind hm
          refine W_call 18 #[.agg #[.slice p1576 r1574.Items.length c1577, .int .i64 r1574.Head, .int .i64 r1574.Tail], .agg #[.slice p1936 r1934.Items.length c1937, .int .i64 r1934.Head, .int .i64 r1934.Tail]] (by kernel_rfl) (by kernel_rfl) ?_
          refine (c_l_eqRing w1953 r1574 p1576 c1577 (ho1579.rd M1955 2 (by kernel_rfl)) r1934 p1936 c1937 (ho1939.rd M1955 5 (by kernel_rfl)) hr1956).mono ?_
          rintro e_ w1957 ⟨rfl, K1958⟩
          have M1959 := M1955.call0 K1958
          refine ⟨_, rfl, ?_⟩
          refine W_run 1 [(1, .pointer (some ⟨b1219, 0, none⟩)), (4, .slice p1567 r1565.1.length c1568), (5, .bool r1565.2), (6, .pointer (some ⟨b1585, 0, none⟩)), (7, .slice p1907 r1905.1.length c1908), (8, .bool r1905.2), (45, .bool (!r1956))] w1957 (by kernel_rfl) ?_
          refine W_nil ?_
          refine N_then ?_
          rcases gx_bif hm with ⟨hc1960, hm⟩ | ⟨hc1960, hm⟩
          · refine G_cond_t (b := (!r1956)) hc1960 (by kernel_rfl) ?_
            refine G_seq ?_
            refine G_region ?_
            refine W_run 1 [(2, .bool false)] w1957 (by kernel_rfl) ?_
            refine W_nil ?_
            refine N_then ?_
            refine G_ret ?_
            refine N_then_ret ?_
            obtain rfl := Option.some.inj hm
            refine N_ret [.bool false] (RVs_cons (RV_tmp (by kernel_rfl)) RVs_nil) ?_
            exact ⟨rfl, M1959.pick [] (by kernel_rfl)⟩
          · refine G_cond_f (b := (!r1956)) hc1960 (by kernel_rfl) ?_
            refine G_skip ?_
            refine N_then ?_
            refine G_seq ?_
            refine G_region ?_
            refine W_run 1 [(1, .pointer (some ⟨b1219, 0, none⟩)), (4, .slice p1567 r1565.1.length c1568), (5, .bool r1565.2), (6, .pointer (some ⟨b1585, 0, none⟩)), (7, .slice p1907 r1905.1.length c1908), (8, .bool r1905.2), (9, .int .i64 1)] w1957 (by kernel_rfl) ?_
            refine W_nil ?_
            refine N_then ?_
            refine G_seq ?_
            refine G_region ?_
            refine W_val (.agg #[.slice p1576 r1574.Items.length c1577, .int .i64 r1574.Head, .int .i64 r1574.Tail]) w1957 (by kernel_rfl) (E_load (e := 27) (fr := (0, 0)) _ _ true 3 b1585 0 [.slice p1576 r1574.Items.length c1577, .int .i64 r1574.Head, .int .i64 r1574.Tail] (.agg #[.slice p1576 r1574.Items.length c1577, .int .i64 r1574.Head, .int .i64 r1574.Tail]) rfl (by kernel_rfl) (by kernel_rfl) (by kernel_rfl) (M1959.blk 3 (b := b1585) (o := .cells ⟨[.slice p1576 r1574.Items.length c1577, .int .i64 r1574.Head, .int .i64 r1574.Tail]⟩ 27 (0, 0)) (by kernel_rfl))) ?_
            refine W_run 1 [(1, .pointer (some ⟨b1219, 0, none⟩)), (4, .slice p1567 r1565.1.length c1568), (5, .bool r1565.2), (7, .slice p1907 r1905.1.length c1908), (8, .bool r1905.2), (9, .int .i64 1), (46, .agg #[.slice p1576 r1574.Items.length c1577, .int .i64 r1574.Head, .int .i64 r1574.Tail]), (47, .int .i64 1)] w1957 (by kernel_rfl) ?_
            obtain ⟨r1961, hr1961, hm⟩ := gx_bind hm
            refine W_call 19 #[.agg #[.slice p1576 r1574.Items.length c1577, .int .i64 r1574.Head, .int .i64 r1574.Tail], .int .i64 1] (by kernel_rfl) (by kernel_rfl) ?_
            refine (c_l_markRing w1957 r1574 p1576 c1577 sg1578 ho1579 1 (M1959.hasPick [2]) (M1959.nodupPick [2] (by kernel_rfl)) hr1961).mono ?_
            rintro e_ w1965 ⟨sg1962, rfl, ho1963, hl1964, K1966⟩
            have M1967 := M1959.callF' [2] [0, 1, 3, 4, 5] (by kernel_rfl) K1966
            refine ⟨_, rfl, ?_⟩
            refine W_conv 46 (.agg #[.slice p1576 r1574.Items.length c1577, .int .i64 r1574.Head, .int .i64 r1574.Tail]) (.agg #[.slice p1576 r1961.2.length c1577, .int .i64 r1574.Head, .int .i64 r1574.Tail]) (by kernel_rfl) (by first | rw [hl1964] | rw [hl1964]) ?_
            have M1968 : Mem [] w w1965 [[(b1219, .cells ⟨[.slice p1215 x1213.Items.length c1216, .int .i64 x1213.Head, .int .i64 x1213.Tail]⟩ 33 (0, 0))], sg1569, [(b1585, .cells ⟨[.slice p1576 r1961.2.length c1577, .int .i64 r1574.Head, .int .i64 r1574.Tail]⟩ 27 (0, 0))], sg1909, (g1932 2), sg1962] := by rw [hl1964]; exact M1967
            refine W_run 1 [(1, .pointer (some ⟨b1219, 0, none⟩)), (4, .slice p1567 r1565.1.length c1568), (5, .bool r1565.2), (7, .slice p1907 r1905.1.length c1908), (8, .bool r1905.2), (9, .int .i64 r1961.1)] w1965 (by kernel_rfl) ?_
            refine W_nil ?_
            refine N_then ?_
            refine G_seq ?_
            refine G_seq ?_
            obtain ⟨o1975, ho1976, hm1977⟩ := gx_bind hm
            refine G_meet (fun a w' => Mem [] w w' [[(b1219, .cells ⟨[.slice p1215 x1213.Items.length c1216, .int .i64 x1213.Head, .int .i64 x1213.Tail]⟩ 33 (0, 0))], sg1569, sg1909] ∧ Sat Try.f6.ntmps [(1, .pointer (some ⟨b1219, 0, none⟩)), (4, .slice p1567 r1565.1.length c1568), (5, .bool r1565.2), (7, .slice p1907 r1905.1.length c1908), (61, .bool o1975)] a) ?_ ?_
            · have hm := ho1976
              refine G_region ?_
              refine W_run 3 [(1, .pointer (some ⟨b1219, 0, none⟩)), (4, .slice p1567 r1565.1.length c1568), (5, .bool r1565.2), (7, .slice p1907 r1905.1.length c1908), (8, .bool r1905.2), (51, .bool (decide (r1961.1 < 0)))] w1965 (by kernel_rfl) ?_
              rcases gx_bif hm with ⟨hc1978, hm⟩ | ⟨hc1978, hm⟩
              · refine W_known 51 true (by kernel_rfl) hc1978 ?_
                refine W_run 10 [(1, .pointer (some ⟨b1219, 0, none⟩)), (4, .slice p1567 r1565.1.length c1568), (5, .bool r1565.2), (7, .slice p1907 r1905.1.length c1908), (61, .bool true)] w1965 (by kernel_rfl) ?_
                refine W_nil ?_
                obtain rfl := Option.some.inj hm
                exact N_meet fun a ha => ⟨M1968.pick [0, 1, 3] (by kernel_rfl), ha.sub (by kernel_rfl)⟩
              · refine W_known 51 false (by kernel_rfl) hc1978 ?_
                refine W_run 2 [(1, .pointer (some ⟨b1219, 0, none⟩)), (4, .slice p1567 r1565.1.length c1568), (5, .bool r1565.2), (7, .slice p1907 r1905.1.length c1908), (8, .bool r1905.2), (51, .bool false), (52, .slice p1907 r1905.1.length c1908), (53, .slice p1567 r1565.1.length c1568)] w1965 (by kernel_rfl) ?_
                obtain ⟨r1979, hr1979, hm⟩ := gx_bind hm
                refine W_call 27 #[.slice p1907 r1905.1.length c1908, .slice p1567 r1565.1.length c1568] (by kernel_rfl) (by kernel_rfl) ?_
                refine (c_l_eqIntS w1965 r1905.1 p1907 c1908 (ho1910.rd M1968 3 (by kernel_rfl)) r1565.1 p1567 c1568 (ho1570.rd M1968 1 (by kernel_rfl)) hr1979).mono ?_
                rintro e_ w1980 ⟨rfl, K1981⟩
                have M1982 := M1968.call0 K1981
                refine ⟨_, rfl, ?_⟩
                refine W_run 3 [(1, .pointer (some ⟨b1219, 0, none⟩)), (4, .slice p1567 r1565.1.length c1568), (5, .bool r1565.2), (7, .slice p1907 r1905.1.length c1908), (8, .bool r1905.2), (57, .bool (!r1979))] w1980 (by kernel_rfl) ?_
                rcases gx_bif hm with ⟨hc1983, hm⟩ | ⟨hc1983, hm⟩
                · refine W_known 57 true (by kernel_rfl) hc1983 ?_
                  refine W_run 4 [(1, .pointer (some ⟨b1219, 0, none⟩)), (4, .slice p1567 r1565.1.length c1568), (5, .bool r1565.2), (7, .slice p1907 r1905.1.length c1908), (61, .bool true)] w1980 (by kernel_rfl) ?_
                  refine W_nil ?_
                  obtain rfl := Option.some.inj hm
                  exact N_meet fun a ha => ⟨M1982.pick [0, 1, 3] (by kernel_rfl), ha.sub (by kernel_rfl)⟩
                · refine W_known 57 false (by kernel_rfl) hc1983 ?_
                  refine W_run 4 [(1, .pointer (some ⟨b1219, 0, none⟩)), (4, .slice p1567 r1565.1.length c1568), (5, .bool r1565.2), (7, .slice p1907 r1905.1.length c1908), (61, .bool (!(r1905.2 == r1565.2)))] w1980 (by kernel_rfl) ?_
                  refine W_nil ?_
                  obtain rfl := Option.some.inj hm
                  exact N_meet fun a ha => ⟨M1982.pick [0, 1, 3] (by kernel_rfl), ha.sub (by kernel_rfl)⟩
            · intro a1986 w1984 ⟨M1985, hS1987⟩
              refine N_use hS1987 ?_
              have hm := hm1977
              refine N_then ?_
              rcases gx_bif hm with ⟨hc1988, hm⟩ | ⟨hc1988, hm⟩
              · refine G_cond_t (b := o1975) hc1988 (by kernel_rfl) ?_
                refine G_seq ?_
                refine G_region ?_
                refine W_run 1 [(2, .bool false)] w1984 (by kernel_rfl) ?_
                refine W_nil ?_
                refine N_then ?_
                refine G_ret ?_
                refine N_then_ret ?_
                obtain rfl := Option.some.inj hm
                refine N_ret [.bool false] (RVs_cons (RV_tmp (by kernel_rfl)) RVs_nil) ?_
                exact ⟨rfl, M1985.pick [] (by kernel_rfl)⟩
              · refine G_cond_f (b := o1975) hc1988 (by kernel_rfl) ?_
                refine G_skip ?_
                refine N_then ?_
                refine G_seq ?_
                refine G_region ?_
                refine W_run 1 [(1, .pointer (some ⟨b1219, 0, none⟩)), (4, .slice p1567 r1565.1.length c1568), (5, .bool r1565.2), (7, .slice p1907 r1905.1.length c1908), (10, .int .i64 1)] w1984 (by kernel_rfl) ?_
                refine W_nil ?_
                refine N_then ?_
                refine G_seq ?_
                refine G_region ?_
                refine W_run 2 [(1, .pointer (some ⟨b1219, 0, none⟩)), (4, .slice p1567 r1565.1.length c1568), (5, .bool r1565.2), (7, .slice p1907 r1905.1.length c1908), (10, .int .i64 1), (62, .slice p1907 r1905.1.length c1908), (63, .int .i64 1)] w1984 (by kernel_rfl) ?_
                obtain ⟨r1989, hr1989, hm⟩ := gx_bind hm
                refine W_call 28 #[.slice p1907 r1905.1.length c1908, .int .i64 1] (by kernel_rfl) (by kernel_rfl) ?_
                refine (c_l_markIntS w1984 r1905.1 p1907 c1908 sg1909 ho1910 1 (M1985.hasPick [2]) (M1985.nodupPick [2] (by kernel_rfl)) hr1989).mono ?_
                rintro e_ w1993 ⟨sg1990, rfl, ho1991, hl1992, K1994⟩
                have M1995 := M1985.callF' [2] [0, 1] (by kernel_rfl) K1994
                refine ⟨_, rfl, ?_⟩
                refine W_conv 7 (.slice p1907 r1905.1.length c1908) (.slice p1907 r1989.2.length c1908) (by kernel_rfl) (by first | rw [hl1992] | rw [hl1992]) ?_
                refine W_conv 62 (.slice p1907 r1905.1.length c1908) (.slice p1907 r1989.2.length c1908) (by kernel_rfl) (by first | rw [hl1992] | rw [hl1992]) ?_
                refine W_run 1 [(1, .pointer (some ⟨b1219, 0, none⟩)), (4, .slice p1567 r1565.1.length c1568), (5, .bool r1565.2), (7, .slice p1907 r1989.2.length c1908), (10, .int .i64 r1989.1)] w1993 (by kernel_rfl) ?_
                refine W_nil ?_
                refine N_then ?_
                refine G_seq ?_
                refine G_region ?_
                refine W_run 1 [(1, .pointer (some ⟨b1219, 0, none⟩)), (4, .slice p1567 r1565.1.length c1568), (5, .bool r1565.2), (7, .slice p1907 r1989.2.length c1908), (10, .int .i64 r1989.1), (11, .int .i64 1)] w1993 (by kernel_rfl) ?_
                refine W_nil ?_
                refine N_then ?_
                refine G_seq ?_
                refine G_region ?_
                refine W_run 2 [(1, .pointer (some ⟨b1219, 0, none⟩)), (4, .slice p1567 r1565.1.length c1568), (5, .bool r1565.2), (7, .slice p1907 r1989.2.length c1908), (10, .int .i64 r1989.1), (11, .int .i64 1), (65, .slice p1907 r1989.2.length c1908), (66, .int .i64 1)] w1993 (by kernel_rfl) ?_
                obtain ⟨r1996, hr1996, hm⟩ := gx_bind hm
                refine W_call 29 #[.slice p1907 r1989.2.length c1908, .int .i64 1] (by kernel_rfl) (by kernel_rfl) ?_
                refine (c_l_heldIntS w1993 r1989.2 p1907 c1908 (ho1991.rd M1995 2 (by kernel_rfl)) 1 hr1996).mono ?_
                rintro e_ w1997 ⟨rfl, K1998⟩
                have M1999 := M1995.call0 K1998
                refine ⟨_, rfl, ?_⟩
                refine W_run 1 [(1, .pointer (some ⟨b1219, 0, none⟩)), (4, .slice p1567 r1565.1.length c1568), (5, .bool r1565.2), (7, .slice p1907 r1989.2.length c1908), (10, .int .i64 r1989.1), (11, .int .i64 r1996)] w1997 (by kernel_rfl) ?_
                refine W_nil ?_
                refine N_then ?_
                refine G_seq ?_
                refine G_seq ?_
                refine G_region ?_
                refine W_run 2 [(1, .pointer (some ⟨b1219, 0, none⟩)), (4, .slice p1567 r1565.1.length c1568), (5, .bool r1565.2), (7, .slice p1907 r1989.2.length c1908), (10, .int .i64 r1989.1), (11, .int .i64 r1996), (69, .bool (decide (r1996 < 0)))] w1997 (by kernel_rfl) ?_
                refine W_nil ?_
                refine N_then ?_
                rcases gx_bif hm with ⟨hc2000, hm⟩ | ⟨hc2000, hm⟩
                · refine G_cond_t (b := (decide (r1996 < 0))) hc2000 (by kernel_rfl) ?_
                  refine G_seq ?_
                  refine G_region ?_
                  refine W_run 1 [(2, .bool false)] w1997 (by kernel_rfl) ?_
                  refine W_nil ?_
                  refine N_then ?_
                  refine G_ret ?_
                  refine N_then_ret ?_
                  obtain rfl := Option.some.inj hm
                  refine N_ret [.bool false] (RVs_cons (RV_tmp (by kernel_rfl)) RVs_nil) ?_
                  exact ⟨rfl, M1999.pick [] (by kernel_rfl)⟩
                · refine G_cond_f (b := (decide (r1996 < 0))) hc2000 (by kernel_rfl) ?_
                  refine G_skip ?_
                  refine N_then ?_
                  refine G_seq ?_
                  refine G_seq ?_
                  refine G_region ?_
                  refine W_run 3 [(1, .pointer (some ⟨b1219, 0, none⟩)), (4, .slice p1567 r1565.1.length c1568), (5, .bool r1565.2), (7, .slice p1907 r1989.2.length c1908), (10, .int .i64 r1989.1), (72, .bool (r1996 != r1989.1))] w1997 (by kernel_rfl) ?_
                  refine W_nil ?_
                  refine N_then ?_
                  rcases gx_bif hm with ⟨hc2001, hm⟩ | ⟨hc2001, hm⟩
                  · refine G_cond_t (b := (r1996 != r1989.1)) hc2001 (by kernel_rfl) ?_
                    refine G_seq ?_
                    refine G_region ?_
                    refine W_run 1 [(2, .bool false)] w1997 (by kernel_rfl) ?_
                    refine W_nil ?_
                    refine N_then ?_
                    refine G_ret ?_
                    refine N_then_ret ?_
                    obtain rfl := Option.some.inj hm
                    refine N_ret [.bool false] (RVs_cons (RV_tmp (by kernel_rfl)) RVs_nil) ?_
                    exact ⟨rfl, M1999.pick [] (by kernel_rfl)⟩
                  · refine G_cond_f (b := (r1996 != r1989.1)) hc2001 (by kernel_rfl) ?_
                    refine G_skip ?_
                    refine N_then ?_
                    refine G_seq ?_
                    refine G_region ?_
                    refine W_val (.agg #[.slice p1215 x1213.Items.length c1216, .int .i64 x1213.Head, .int .i64 x1213.Tail]) w1997 (by kernel_rfl) (E_load (e := 33) (fr := (0, 0)) _ _ true 3 b1219 0 [.slice p1215 x1213.Items.length c1216, .int .i64 x1213.Head, .int .i64 x1213.Tail] (.agg #[.slice p1215 x1213.Items.length c1216, .int .i64 x1213.Head, .int .i64 x1213.Tail]) rfl (by kernel_rfl) (by kernel_rfl) (by kernel_rfl) (M1999.blk 0 (b := b1219) (o := .cells ⟨[.slice p1215 x1213.Items.length c1216, .int .i64 x1213.Head, .int .i64 x1213.Tail]⟩ 33 (0, 0)) (by kernel_rfl))) ?_
                    obtain ⟨r2002, hr2002, hm⟩ := gx_bind hm
                    refine W_call 23 #[.agg #[.slice p1215 x1213.Items.length c1216, .int .i64 x1213.Head, .int .i64 x1213.Tail]] (by kernel_rfl) (by kernel_rfl) ?_
                    refine (c_l_toRing w1997 x1213 p1215 c1216 (h1217.mem0 M1999) hr2002).mono ?_
                    rintro e_ w2008 ⟨p2004, c2005, sg2006, rfl, ho2007, K2009⟩
                    have M2010 := M1999.call K2009
                    refine ⟨_, rfl, ?_⟩
                    obtain ⟨r2011, hr2011, hm⟩ := gx_bind hm
                    refine W_call 26 #[.agg #[.slice p2004 r2002.Items.length c2005, .int .i64 r2002.Head, .int .i64 r2002.Tail]] (by kernel_rfl) (by kernel_rfl) ?_
                    refine (c_i_RingWords w2008 r2002 p2004 c2005 (ho2007.rd M2010 3 (by kernel_rfl)) hr2011).mono ?_
                    rintro e_ w2017 ⟨p2013, c2014, sg2015, rfl, ho2016, K2018⟩
                    have M2019 := M2010.call K2018
                    refine ⟨_, rfl, ?_⟩
                    refine W_run 5 [(4, .slice p1567 r1565.1.length c1568), (5, .bool r1565.2), (7, .slice p1907 r1989.2.length c1908), (10, .int .i64 r1989.1), (12, .slice p2013 r2011.1.length c2014), (13, .bool r2011.2)] w2017 (by kernel_rfl) ?_
                    refine W_nil ?_
                    refine N_then ?_
                    refine G_seq ?_
                    refine G_seq ?_
                    obtain ⟨o2025, ho2026, hm2027⟩ := gx_bind hm
                    refine G_meet (fun a w' => Mem [] w w' [sg1990] ∧ Sat Try.f6.ntmps [(7, .slice p1907 r1989.2.length c1908), (10, .int .i64 r1989.1), (87, .bool o2025)] a) ?_ ?_
                    · have hm := ho2026
                      refine G_region ?_
                      refine W_run 2 [(5, .bool r1565.2), (7, .slice p1907 r1989.2.length c1908), (10, .int .i64 r1989.1), (13, .bool r2011.2), (79, .slice p2013 r2011.1.length c2014), (80, .slice p1567 r1565.1.length c1568)] w2017 (by kernel_rfl) ?_
                      obtain ⟨r2028, hr2028, hm⟩ := gx_bind hm
                      refine W_call 27 #[.slice p2013 r2011.1.length c2014, .slice p1567 r1565.1.length c1568] (by kernel_rfl) (by kernel_rfl) ?_
                      refine (c_l_eqIntS w2017 r2011.1 p2013 c2014 (ho2016.rd M2019 4 (by kernel_rfl)) r1565.1 p1567 c1568 (ho1570.rd M2019 1 (by kernel_rfl)) hr2028).mono ?_
                      rintro e_ w2029 ⟨rfl, K2030⟩
                      have M2031 := M2019.call0 K2030
                      refine ⟨_, rfl, ?_⟩
                      refine W_run 2 [(5, .bool r1565.2), (7, .slice p1907 r1989.2.length c1908), (10, .int .i64 r1989.1), (13, .bool r2011.2), (83, .bool (!r2028))] w2029 (by kernel_rfl) ?_
                      rcases gx_bif hm with ⟨hc2032, hm⟩ | ⟨hc2032, hm⟩
                      · refine W_known 83 true (by kernel_rfl) hc2032 ?_
                        refine W_run 4 [(7, .slice p1907 r1989.2.length c1908), (10, .int .i64 r1989.1), (87, .bool true)] w2029 (by kernel_rfl) ?_
                        refine W_nil ?_
                        obtain rfl := Option.some.inj hm
                        exact N_meet fun a ha => ⟨M2031.pick [2] (by kernel_rfl), ha.sub (by kernel_rfl)⟩
                      · refine W_known 83 false (by kernel_rfl) hc2032 ?_
                        refine W_run 4 [(7, .slice p1907 r1989.2.length c1908), (10, .int .i64 r1989.1), (87, .bool (!(r2011.2 == r1565.2)))] w2029 (by kernel_rfl) ?_
                        refine W_nil ?_
                        obtain rfl := Option.some.inj hm
                        exact N_meet fun a ha => ⟨M2031.pick [2] (by kernel_rfl), ha.sub (by kernel_rfl)⟩
                    · intro a2035 w2033 ⟨M2034, hS2036⟩
                      refine N_use hS2036 ?_
                      have hm := hm2027
                      refine N_then ?_
                      rcases gx_bif hm with ⟨hc2037, hm⟩ | ⟨hc2037, hm⟩
                      · refine G_cond_t (b := o2025) hc2037 (by kernel_rfl) ?_
                        refine G_seq ?_
                        refine G_region ?_
                        refine W_run 1 [(2, .bool false)] w2033 (by kernel_rfl) ?_
                        refine W_nil ?_
                        refine N_then ?_
                        refine G_ret ?_
                        refine N_then_ret ?_
                        obtain rfl := Option.some.inj hm
                        refine N_ret [.bool false] (RVs_cons (RV_tmp (by kernel_rfl)) RVs_nil) ?_
                        exact ⟨rfl, M2034.pick [] (by kernel_rfl)⟩
                      · refine G_cond_f (b := o2025) hc2037 (by kernel_rfl) ?_
                        refine G_skip ?_
                        refine N_then ?_
                        refine G_seq ?_
                        refine G_region ?_
                        refine W_run 1 [(7, .slice p1907 r1989.2.length c1908), (10, .int .i64 r1989.1), (11, .int .i64 1)] w2033 (by kernel_rfl) ?_
                        refine W_nil ?_
                        refine N_then ?_
                        refine G_seq ?_
                        refine G_region ?_
                        refine W_run 2 [(10, .int .i64 r1989.1), (11, .int .i64 1), (88, .slice p1907 r1989.2.length c1908), (89, .int .i64 1)] w2033 (by kernel_rfl) ?_
                        obtain ⟨r2038, hr2038, hm⟩ := gx_bind hm
                        refine W_call 29 #[.slice p1907 r1989.2.length c1908, .int .i64 1] (by kernel_rfl) (by kernel_rfl) ?_
                        refine (c_l_heldIntS w2033 r1989.2 p1907 c1908 (ho1991.rd M2034 0 (by kernel_rfl)) 1 hr2038).mono ?_
                        rintro e_ w2039 ⟨rfl, K2040⟩
                        have M2041 := M2034.call0 K2040
                        refine ⟨_, rfl, ?_⟩
                        refine W_run 1 [(10, .int .i64 r1989.1), (11, .int .i64 r2038)] w2039 (by kernel_rfl) ?_
                        refine W_nil ?_
                        refine N_then ?_
                        refine G_seq ?_
                        refine G_seq ?_
                        refine G_region ?_
                        refine W_run 2 [(10, .int .i64 r1989.1), (11, .int .i64 r2038), (92, .bool (decide (r2038 < 0)))] w2039 (by kernel_rfl) ?_
                        refine W_nil ?_
                        refine N_then ?_
                        rcases gx_bif hm with ⟨hc2042, hm⟩ | ⟨hc2042, hm⟩
                        · refine G_cond_t (b := (decide (r2038 < 0))) hc2042 (by kernel_rfl) ?_
                          refine G_seq ?_
                          refine G_region ?_
                          refine W_run 1 [(2, .bool false)] w2039 (by kernel_rfl) ?_
                          refine W_nil ?_
                          refine N_then ?_
                          refine G_ret ?_
                          refine N_then_ret ?_
                          obtain rfl := Option.some.inj hm
                          refine N_ret [.bool false] (RVs_cons (RV_tmp (by kernel_rfl)) RVs_nil) ?_
                          exact ⟨rfl, M2041.pick [] (by kernel_rfl)⟩
                        · refine G_cond_f (b := (decide (r2038 < 0))) hc2042 (by kernel_rfl) ?_
                          refine G_skip ?_
                          refine N_then ?_
                          refine G_seq ?_
                          refine G_seq ?_
                          refine G_region ?_
                          refine W_run 3 [(95, .bool (r2038 != r1989.1))] w2039 (by kernel_rfl) ?_
                          refine W_nil ?_
                          refine N_then ?_
                          rcases gx_bif hm with ⟨hc2043, hm⟩ | ⟨hc2043, hm⟩
                          · refine G_cond_t (b := (r2038 != r1989.1)) hc2043 (by kernel_rfl) ?_
                            refine G_seq ?_
                            refine G_region ?_
                            refine W_run 1 [(2, .bool false)] w2039 (by kernel_rfl) ?_
                            refine W_nil ?_
                            refine N_then ?_
                            refine G_ret ?_
                            refine N_then_ret ?_
                            obtain rfl := Option.some.inj hm
                            refine N_ret [.bool false] (RVs_cons (RV_tmp (by kernel_rfl)) RVs_nil) ?_
                            exact ⟨rfl, M2041.pick [] (by kernel_rfl)⟩
                          · refine G_cond_f (b := (r2038 != r1989.1)) hc2043 (by kernel_rfl) ?_
                            refine G_skip ?_
                            refine N_then ?_
                            refine G_seq ?_
                            refine G_region ?_
                            refine W_run 1 [(2, .bool true)] w2039 (by kernel_rfl) ?_
                            refine W_nil ?_
                            refine N_then ?_
                            refine G_ret ?_
                            obtain rfl := Option.some.inj hm
                            refine N_ret [.bool true] (RVs_cons (RV_tmp (by kernel_rfl)) RVs_nil) ?_
                            exact ⟨rfl, M2041.pick [] (by kernel_rfl)⟩
theorem c_s_l1Own (w : World) (x2122 : List Int) (p2124 : Option Addr) (c2125 : Nat) (h2126 : rdS encI w x2122 p2124 c2125) {r : (List Int)} (hm : M.s_l1Own x2122 = some r) :
    Calls Try.prog 62 #[.slice p2124 x2122.length c2125] w fun e w' => ∃ (p2128 : Option Addr) (c2129 : Nat) (sg2130 : Seg), e = .returned (.slice p2128 r.length c2129) ∧ ownS encI r p2128 c2129 sg2130 ∧ Mem [] w w' [sg2130] := by
  unfold M.s_l1Own at hm
  refine C_enter Try.func62 rfl (by kernel_rfl) ?_
  have M0 := Mem.refl [] w
  refine G_seq ?_
  refine G_region ?_
  refine W_run 1 [(0, .slice p2124 x2122.length c2125)] w (by kernel_rfl) ?_
  refine W_nil ?_
  refine N_then ?_
  refine G_seq ?_
  refine G_region ?_
  refine W_lit (E := encI) ([] : List Int) 0 [] 3 M0 (by kernel_rfl) (by kernel_rfl) (by kernel_rfl) (by kernel_rfl) (by kernel_rfl) ?_
  intro p2132 c2133 sg2134 w2135 ho2136 M2137
  refine W_run 1 [(3, .slice p2132 ([] : List Int).length c2133), (4, .slice p2124 x2122.length c2125)] w2135 (by kernel_rfl) ?_
  obtain ⟨ap2139, hap2139, hm⟩ := gx_bind hm
  refine W_append (E := encI) _ _ _ 8 [.int .i64 0] 0 c2125 M2137 ho2136 (by kernel_rfl) (by kernel_rfl) (by kernel_rfl) rfl (by kernel_rfl) (by kernel_rfl) (by kernel_rfl) (by kernel_rfl) (by kernel_rfl) (by kernel_rfl) (h2126.mem0 M2137) hap2139 ?_
  intro p2140 c2141 sg2142 w2143 ho2144 M2145
  refine W_run 1 [(2, .slice p2140 ap2139.length c2141)] w2143 (by kernel_rfl) ?_
  refine W_nil ?_
  refine N_then ?_
  refine G_ret ?_
  obtain rfl := Option.some.inj hm
  refine N_ret [.slice p2140 ap2139.length c2141] (RVs_cons (RV_tmp (by kernel_rfl)) RVs_nil) ?_
  exact ⟨p2140, c2141, sg2142, rfl, ho2144, M2145.pick [0] (by kernel_rfl)⟩
theorem c_s_l20Take (w : World) (x2217 : Ring) (p2219 : Option Addr) (c2220 : Nat) (h2221 : rdS encI w x2217.Items p2219 c2220) {r : Ring × Int} (hm : M.s_l20Take x2217 = some r) :
    Calls Try.prog 64 #[.agg #[.slice p2219 x2217.Items.length c2220, .int .i64 x2217.Head, .int .i64 x2217.Tail]] w fun e w' => ∃ (p2223 : Option Addr) (c2224 : Nat) (sg2225 : Seg), e = .returned (.tuple #[.agg #[.slice p2223 r.1.Items.length c2224, .int .i64 r.1.Head, .int .i64 r.1.Tail], .int .i64 r.2]) ∧ ownS encI r.1.Items p2223 c2224 sg2225 ∧ Mem [] w w' [sg2225] := by
  unfold M.s_l20Take at hm
  refine C_enter Try.func64 rfl (by kernel_rfl) ?_
  have M0 := Mem.refl [] w
  refine G_seq ?_
  refine G_region ?_
  refine W_new (fun b => .pointer (some ⟨b, 0, none⟩)) (.cells ⟨[.slice p2219 x2217.Items.length c2220, .int .i64 x2217.Head, .int .i64 x2217.Tail]⟩ 27 (0, 0)) M0 rfl (by kernel_rfl) (by kernel_rfl) ?_
  intro b2227 w2228 M2229
  refine W_new (fun b => .pointer (some ⟨b, 0, none⟩)) (.cells ⟨[.slice none 0 0, .int .i64 0, .int .i64 0]⟩ 27 (0, 0)) M2229 rfl (by kernel_rfl) (by kernel_rfl) ?_
  intro b2232 w2233 M2234
  refine W_run 1 [(1, .pointer (some ⟨b2227, 0, none⟩)), (2, .pointer (some ⟨b2232, 0, none⟩))] w2233 (by kernel_rfl) ?_
  refine W_nil ?_
  refine N_then ?_
  refine G_seq ?_
  obtain ⟨r2237, hr2237, hm⟩ := gx_bind hm
  refine G_sub [(1, .pointer (some ⟨b2227, 0, none⟩)), (2, .pointer (some ⟨b2232, 0, none⟩))] (by kernel_rfl) ?_
  refine G_dagL 9 [[], [0], [1], [], [3], [], [5], [4, 6], []] [[], [], [], [], [], [], [], [], []] [[], [], [], [], [], [], [], [], []] [[], [], [], [], [], [], [], [2], []] [[], [], [], [], [], [], [], [2], []] [[], [], [], [], [], [], [], [], []] (fun _ => []) (fun i => ([fun f v s => v = (.pointer (some ⟨b2227, 0, none⟩) : Value) ∧ s = [], fun f v s => v = (.slice p2219 x2217.Items.length c2220 : Value) ∧ s = [], fun f v s => ∃ (p2239 : Option Addr) (c2240 : Nat), v = (.slice p2239 r2237.length c2240 : Value) ∧ ownS encI r2237 p2239 c2240 s, fun f v s => v = (.pointer (some ⟨b2227, 1, none⟩) : Value) ∧ s = [], fun f v s => v = (.int .i64 x2217.Head : Value) ∧ s = [], fun f v s => v = (.pointer (some ⟨b2227, 2, none⟩) : Value) ∧ s = [], fun f v s => v = (.int .i64 x2217.Tail : Value) ∧ s = [], fun f v s => v = (.agg #[(atPath (f 2) []), .int .i64 x2217.Head, .int .i64 x2217.Tail] : Value) ∧ s = [], fun f v s => ∃ (b2246 : Nat), v = (.pointer (some ⟨b2246, 0, none⟩) : Value) ∧ s = [(b2246, .cells ⟨[.slice none 0 0, .int .i64 0, .int .i64 0]⟩ 27 (0, 0))]] : List ((Nat → Value) → Value → Seg → Prop)).getD i (fun _ _ _ => False)) (fun j f v => ∃ s, (fun i => ([fun f v s => v = (.pointer (some ⟨b2227, 0, none⟩) : Value) ∧ s = [], fun f v s => v = (.slice p2219 x2217.Items.length c2220 : Value) ∧ s = [], fun f v s => ∃ (p2239 : Option Addr) (c2240 : Nat), v = (.slice p2239 r2237.length c2240 : Value) ∧ ownS encI r2237 p2239 c2240 s, fun f v s => v = (.pointer (some ⟨b2227, 1, none⟩) : Value) ∧ s = [], fun f v s => v = (.int .i64 x2217.Head : Value) ∧ s = [], fun f v s => v = (.pointer (some ⟨b2227, 2, none⟩) : Value) ∧ s = [], fun f v s => v = (.int .i64 x2217.Tail : Value) ∧ s = [], fun f v s => v = (.agg #[(atPath (f 2) []), .int .i64 x2217.Head, .int .i64 x2217.Tail] : Value) ∧ s = [], fun f v s => ∃ (b2246 : Nat), v = (.pointer (some ⟨b2246, 0, none⟩) : Value) ∧ s = [(b2246, .cells ⟨[.slice none 0 0, .int .i64 0, .int .i64 0]⟩ 27 (0, 0))]] : List ((Nat → Value) → Value → Seg → Prop)).getD i (fun _ _ _ => False)) j f v s) [] [2, 7, 8] [2, 8] (fun _ _ _ s h => ⟨s, h⟩) (by kernel_rfl) (by kernel_rfl) (M2234.preNil 9) (by kernel_rfl) (by kernel_rfl) (by kernel_rfl) (by kernel_rfl) (allOb_cons ?_ (allOb_cons ?_ (allOb_cons ?_ (allOb_cons ?_ (allOb_cons ?_ (allOb_cons ?_ (allOb_cons ?_ (allOb_cons ?_ (allOb_cons ?_ allOb_nil))))))))) ?_
  · intro g2235 f2236
    intro R w2247 M2248
    refine W_run 1 [(6, .pointer (some ⟨b2227, 0, none⟩))] w2247 (by kernel_rfl) ?_
    exact W_nil (ob_end (.pointer (some ⟨b2227, 0, none⟩)) [] rfl (by kernel_rfl) ⟨by kernel_rfl, rfl⟩ M2248)
  · intro g2235 f2236
    intro v0_ hb0_
    obtain ⟨rfl, _⟩ := hb0_
    intro R w2251 M2252
    refine W_val (.slice p2219 x2217.Items.length c2220) w2251 (by kernel_rfl) (E_load (e := 27) (fr := (0, 0)) _ _ false 1 b2227 0 [.slice p2219 x2217.Items.length c2220, .int .i64 x2217.Head, .int .i64 x2217.Tail] (.slice p2219 x2217.Items.length c2220) rfl (by kernel_rfl) (by kernel_rfl) (by kernel_rfl) (M2252.blk 0 (b := b2227) (o := .cells ⟨[.slice p2219 x2217.Items.length c2220, .int .i64 x2217.Head, .int .i64 x2217.Tail]⟩ 27 (0, 0)) (by kernel_rfl))) ?_
    exact W_nil (ob_end (.slice p2219 x2217.Items.length c2220) [] rfl (by kernel_rfl) ⟨by kernel_rfl, rfl⟩ M2252)
  · intro g2235 f2236
    intro v1_ hb1_
    obtain ⟨rfl, _⟩ := hb1_
    intro R w2255 M2256
    refine W_call 62 #[.slice p2219 x2217.Items.length c2220] (by kernel_rfl) (by kernel_rfl) ?_
    refine (c_s_l1Own w2255 x2217.Items p2219 c2220 (h2221.mem0 M2256) hr2237).mono ?_
    rintro e_ w2257 ⟨p2239, c2240, sg2241, rfl, ho2242, K2259⟩
    refine ⟨_, rfl, ?_⟩
    exact W_nil (ob_end (.slice p2239 r2237.length c2240) sg2241 rfl (by kernel_rfl) ⟨p2239, c2240, rfl, ho2242⟩ (Mem.callMid M2256 K2259))
  · intro g2235 f2236
    intro R w2260 M2261
    refine W_run 1 [(9, .pointer (some ⟨b2227, 1, none⟩))] w2260 (by kernel_rfl) ?_
    exact W_nil (ob_end (.pointer (some ⟨b2227, 1, none⟩)) [] rfl (by kernel_rfl) ⟨by kernel_rfl, rfl⟩ M2261)
  · intro g2235 f2236
    intro v3_ hb3_
    obtain ⟨rfl, _⟩ := hb3_
    intro R w2264 M2265
    refine W_val (.int .i64 x2217.Head) w2264 (by kernel_rfl) (E_load (e := 27) (fr := (0, 0)) _ _ false 1 b2227 1 [.slice p2219 x2217.Items.length c2220, .int .i64 x2217.Head, .int .i64 x2217.Tail] (.int .i64 x2217.Head) rfl (by kernel_rfl) (by kernel_rfl) (by kernel_rfl) (M2265.blk 0 (b := b2227) (o := .cells ⟨[.slice p2219 x2217.Items.length c2220, .int .i64 x2217.Head, .int .i64 x2217.Tail]⟩ 27 (0, 0)) (by kernel_rfl))) ?_
    exact W_nil (ob_end (.int .i64 x2217.Head) [] rfl (by kernel_rfl) ⟨by kernel_rfl, rfl⟩ M2265)
  · intro g2235 f2236
    intro R w2268 M2269
    refine W_run 1 [(11, .pointer (some ⟨b2227, 2, none⟩))] w2268 (by kernel_rfl) ?_
    exact W_nil (ob_end (.pointer (some ⟨b2227, 2, none⟩)) [] rfl (by kernel_rfl) ⟨by kernel_rfl, rfl⟩ M2269)
  · intro g2235 f2236
    intro v5_ hb5_
    obtain ⟨rfl, _⟩ := hb5_
    intro R w2272 M2273
    refine W_val (.int .i64 x2217.Tail) w2272 (by kernel_rfl) (E_load (e := 27) (fr := (0, 0)) _ _ false 1 b2227 2 [.slice p2219 x2217.Items.length c2220, .int .i64 x2217.Head, .int .i64 x2217.Tail] (.int .i64 x2217.Tail) rfl (by kernel_rfl) (by kernel_rfl) (by kernel_rfl) (M2273.blk 0 (b := b2227) (o := .cells ⟨[.slice p2219 x2217.Items.length c2220, .int .i64 x2217.Head, .int .i64 x2217.Tail]⟩ 27 (0, 0)) (by kernel_rfl))) ?_
    exact W_nil (ob_end (.int .i64 x2217.Tail) [] rfl (by kernel_rfl) ⟨by kernel_rfl, rfl⟩ M2273)
  · intro g2235 f2236
    intro v2_ hb2_
    obtain ⟨_, p2239, c2240, rfl, _⟩ := hb2_
    intro v4_ hb4_
    obtain ⟨rfl, _⟩ := hb4_
    intro v6_ hb6_
    obtain ⟨rfl, _⟩ := hb6_
    intro R w2276 M2277
    refine W_run 1 [(13, .agg #[.slice p2239 r2237.length c2240, .int .i64 x2217.Head, .int .i64 x2217.Tail])] w2276 (by kernel_rfl) ?_
    exact W_nil (ob_end (.agg #[.slice p2239 r2237.length c2240, .int .i64 x2217.Head, .int .i64 x2217.Tail]) [] rfl (by kernel_rfl) ⟨by kernel_rfl, rfl⟩ M2277)
  · intro g2235 f2236
    intro R w2280 M2281
    refine W_new (fun b => .pointer (some ⟨b, 0, none⟩)) (.cells ⟨[.slice none 0 0, .int .i64 0, .int .i64 0]⟩ 27 (0, 0)) M2281 rfl (by kernel_rfl) (by kernel_rfl) ?_
    intro b2246 w2282 M2283
    exact W_nil (ob_end (.pointer (some ⟨b2246, 0, none⟩)) [(b2246, .cells ⟨[.slice none 0 0, .int .i64 0, .int .i64 0]⟩ 27 (0, 0))] rfl (by kernel_rfl) ⟨b2246, rfl, rfl⟩ (Mem.mid M2283))
  · intro g2235 f2236
    intro v2_ hb2_
    obtain ⟨p2239, c2240, rfl, ho2242⟩ := hb2_
    intro v7_ hb7_
    obtain ⟨hv7_, _⟩ := hb7_
    obtain rfl : v7_ = (.agg #[.slice p2239 r2237.length c2240, .int .i64 x2217.Head, .int .i64 x2217.Tail] : Value) := hv7_.trans (by kernel_rfl)
    intro v8_ hb8_
    obtain ⟨b2246, rfl, hs8_⟩ := hb8_
    intro w2284 M2285
    have M2286 : Mem [] w w2284 [[(b2227, .cells ⟨[.slice p2219 x2217.Items.length c2220, .int .i64 x2217.Head, .int .i64 x2217.Tail]⟩ 27 (0, 0))], [(b2232, .cells ⟨[.slice none 0 0, .int .i64 0, .int .i64 0]⟩ 27 (0, 0))], (g2235 2), (g2235 8)] := M2285
    rw [hs8_] at M2286
    refine W_store _ _ _ true 3 b2246 0 [.slice none 0 0, .int .i64 0, .int .i64 0] 27 (.agg #[.slice p2239 r2237.length c2240, .int .i64 x2217.Head, .int .i64 x2217.Tail]) 3 [.slice p2239 r2237.length c2240, .int .i64 x2217.Head, .int .i64 x2217.Tail] M2286 (by kernel_rfl) rfl (by kernel_rfl) (by kernel_rfl) (by kernel_rfl) (by kernel_rfl) (by kernel_rfl) (by kernel_rfl) (by kernel_rfl) (by kernel_rfl) ?_
    intro w2287 M2288
    refine W_nil ?_
    refine N_then ?_
    refine G_seq ?_
    refine G_seq ?_
    refine G_region ?_
    refine W_val (.agg #[.slice p2219 x2217.Items.length c2220, .int .i64 x2217.Head, .int .i64 x2217.Tail]) w2287 (by kernel_rfl) (E_load (e := 27) (fr := (0, 0)) _ _ true 3 b2227 0 [.slice p2219 x2217.Items.length c2220, .int .i64 x2217.Head, .int .i64 x2217.Tail] (.agg #[.slice p2219 x2217.Items.length c2220, .int .i64 x2217.Head, .int .i64 x2217.Tail]) rfl (by kernel_rfl) (by kernel_rfl) (by kernel_rfl) (M2288.blk 0 (b := b2227) (o := .cells ⟨[.slice p2219 x2217.Items.length c2220, .int .i64 x2217.Head, .int .i64 x2217.Tail]⟩ 27 (0, 0)) (by kernel_rfl))) ?_
    obtain ⟨r2289, hr2289, hm⟩ := gx_bind hm
    refine W_call 63 #[.agg #[.slice p2219 x2217.Items.length c2220, .int .i64 x2217.Head, .int .i64 x2217.Tail]] (by kernel_rfl) (by kernel_rfl) ?_
    refine (c_s_l20Count w2287 x2217 p2219 c2220 (h2221.mem0 M2288) hr2289).mono ?_
    rintro e_ w2290 ⟨rfl, K2291⟩
    have M2292 := M2288.call0 K2291
    refine ⟨_, rfl, ?_⟩
    refine W_run 1 [(1, .pointer (some ⟨b2227, 0, none⟩)), (2, .pointer (some ⟨b2232, 0, none⟩)), (4, .pointer (some ⟨b2246, 0, none⟩)), (16, .bool (r2289 == 0))] w2290 (by kernel_rfl) ?_
    refine W_nil ?_
    refine N_then ?_
    rcases gx_bif hm with ⟨hc2293, hm⟩ | ⟨hc2293, hm⟩
    · refine G_cond_t (b := (r2289 == 0)) hc2293 (by kernel_rfl) ?_
      refine G_seq ?_
      refine G_region ?_
      refine W_val (.agg #[.slice p2239 r2237.length c2240, .int .i64 x2217.Head, .int .i64 x2217.Tail]) w2290 (by kernel_rfl) (E_load (e := 27) (fr := (0, 0)) _ _ true 3 b2246 0 [.slice p2239 r2237.length c2240, .int .i64 x2217.Head, .int .i64 x2217.Tail] (.agg #[.slice p2239 r2237.length c2240, .int .i64 x2217.Head, .int .i64 x2217.Tail]) rfl (by kernel_rfl) (by kernel_rfl) (by kernel_rfl) (M2292.blk 3 (b := b2246) (o := .cells ⟨[.slice p2239 r2237.length c2240, .int .i64 x2217.Head, .int .i64 x2217.Tail]⟩ 27 (0, 0)) (by kernel_rfl))) ?_
      refine W_store _ _ _ true 3 b2232 0 [.slice none 0 0, .int .i64 0, .int .i64 0] 27 (.agg #[.slice p2239 r2237.length c2240, .int .i64 x2217.Head, .int .i64 x2217.Tail]) 1 [.slice p2239 r2237.length c2240, .int .i64 x2217.Head, .int .i64 x2217.Tail] M2292 (by kernel_rfl) rfl (by kernel_rfl) (by kernel_rfl) (by kernel_rfl) (by kernel_rfl) (by kernel_rfl) (by kernel_rfl) (by kernel_rfl) (by kernel_rfl) ?_
      intro w2294 M2295
      refine W_run 1 [(2, .pointer (some ⟨b2232, 0, none⟩)), (3, .int .i64 (-1))] w2294 (by kernel_rfl) ?_
      refine W_nil ?_
      refine N_then ?_
      refine G_ret ?_
      refine N_then_ret ?_
      obtain rfl := Option.some.inj hm
      refine N_ret [.agg #[.slice p2239 r2237.length c2240, .int .i64 x2217.Head, .int .i64 x2217.Tail], .int .i64 (-1)] (RVs_cons (RV_cell (g := true) (k := 3) (b := b2232) (off := 0) (cs := [.slice p2239 r2237.length c2240, .int .i64 x2217.Head, .int .i64 x2217.Tail]) (e := 27) (fr := (0, 0)) (v := .agg #[.slice p2239 r2237.length c2240, .int .i64 x2217.Head, .int .i64 x2217.Tail]) (M2295.blk 1 (b := b2232) (o := .cells ⟨[.slice p2239 r2237.length c2240, .int .i64 x2217.Head, .int .i64 x2217.Tail]⟩ 27 (0, 0)) (by kernel_rfl)) (by kernel_rfl) (by kernel_rfl) (by kernel_rfl)) (RVs_cons (RV_tmp (by kernel_rfl)) RVs_nil)) ?_
      exact ⟨p2239, c2240, (g2235 2), rfl, ho2242, M2295.pick [2] (by kernel_rfl)⟩
    · refine G_cond_f (b := (r2289 == 0)) hc2293 (by kernel_rfl) ?_
      refine G_skip ?_
      refine N_then ?_
      refine G_seq ?_
      refine G_region ?_
      refine W_run 1 [(1, .pointer (some ⟨b2227, 0, none⟩)), (2, .pointer (some ⟨b2232, 0, none⟩)), (4, .pointer (some ⟨b2246, 0, none⟩)), (18, .pointer (some ⟨b2227, 1, none⟩))] w2290 (by kernel_rfl) ?_
      refine W_val (.int .i64 x2217.Head) w2290 (by kernel_rfl) (E_load (e := 27) (fr := (0, 0)) _ _ false 1 b2227 1 [.slice p2219 x2217.Items.length c2220, .int .i64 x2217.Head, .int .i64 x2217.Tail] (.int .i64 x2217.Head) rfl (by kernel_rfl) (by kernel_rfl) (by kernel_rfl) (M2292.blk 0 (b := b2227) (o := .cells ⟨[.slice p2219 x2217.Items.length c2220, .int .i64 x2217.Head, .int .i64 x2217.Tail]⟩ 27 (0, 0)) (by kernel_rfl))) ?_
      refine W_run 1 [(1, .pointer (some ⟨b2227, 0, none⟩)), (2, .pointer (some ⟨b2232, 0, none⟩)), (4, .pointer (some ⟨b2246, 0, none⟩)), (19, .int .i64 x2217.Head), (20, .pointer (some ⟨b2227, 0, none⟩))] w2290 (by kernel_rfl) ?_
      refine W_val (.slice p2219 x2217.Items.length c2220) w2290 (by kernel_rfl) (E_load (e := 27) (fr := (0, 0)) _ _ false 1 b2227 0 [.slice p2219 x2217.Items.length c2220, .int .i64 x2217.Head, .int .i64 x2217.Tail] (.slice p2219 x2217.Items.length c2220) rfl (by kernel_rfl) (by kernel_rfl) (by kernel_rfl) (M2292.blk 0 (b := b2227) (o := .cells ⟨[.slice p2219 x2217.Items.length c2220, .int .i64 x2217.Head, .int .i64 x2217.Tail]⟩ 27 (0, 0)) (by kernel_rfl))) ?_
      refine W_run 1 [(1, .pointer (some ⟨b2227, 0, none⟩)), (2, .pointer (some ⟨b2232, 0, none⟩)), (4, .pointer (some ⟨b2246, 0, none⟩)), (19, .int .i64 x2217.Head), (22, .int .i64 (x2217.Items.length : Int))] w2290 (by kernel_rfl) ?_
      obtain ⟨q2296, hq2296, hm⟩ := gx_bind hm
      refine W_val (.int .i64 q2296) w2290 (by kernel_rfl) (E_rem _ _ _ _ x2217.Head (x2217.Items.length : Int) q2296 rfl (by kernel_rfl) (by kernel_rfl) hq2296) ?_
      refine W_run 1 [(1, .pointer (some ⟨b2227, 0, none⟩)), (2, .pointer (some ⟨b2232, 0, none⟩)), (4, .pointer (some ⟨b2246, 0, none⟩)), (5, .int .i64 q2296)] w2290 (by kernel_rfl) ?_
      refine W_nil ?_
      refine N_then ?_
      refine G_seq ?_
      refine G_region ?_
      refine W_run 1 [(1, .pointer (some ⟨b2227, 0, none⟩)), (2, .pointer (some ⟨b2232, 0, none⟩)), (4, .pointer (some ⟨b2246, 0, none⟩)), (5, .int .i64 q2296), (24, .pointer (some ⟨b2246, 0, none⟩))] w2290 (by kernel_rfl) ?_
      refine W_val (.slice p2239 r2237.length c2240) w2290 (by kernel_rfl) (E_load (e := 27) (fr := (0, 0)) _ _ false 1 b2246 0 [.slice p2239 r2237.length c2240, .int .i64 x2217.Head, .int .i64 x2217.Tail] (.slice p2239 r2237.length c2240) rfl (by kernel_rfl) (by kernel_rfl) (by kernel_rfl) (M2292.blk 3 (b := b2246) (o := .cells ⟨[.slice p2239 r2237.length c2240, .int .i64 x2217.Head, .int .i64 x2217.Tail]⟩ 27 (0, 0)) (by kernel_rfl))) ?_
      refine W_run 1 [(1, .pointer (some ⟨b2227, 0, none⟩)), (2, .pointer (some ⟨b2232, 0, none⟩)), (4, .pointer (some ⟨b2246, 0, none⟩)), (5, .int .i64 q2296), (25, .slice p2239 r2237.length c2240), (26, .int .i64 q2296)] w2290 (by kernel_rfl) ?_
      obtain ⟨y2297, hy2297, hm⟩ := gx_bind hm
      refine W_val (elemP p2239 (q2296.toNat * 1)) w2290 (by kernel_rfl) (E_index (E := encI) _ _ _ r2237.length c2240 .i64 q2296 1 (y := y2297) rfl (by kernel_rfl) (by kernel_rfl) (by kernel_rfl) (ho2242.rd M2292 2 (by kernel_rfl)) rfl hy2297) ?_
      refine W_storeE (E := encI) _ _ _ false 1 q2296.toNat 0 (q2296.toNat * 1) y2297 0 (.int .i64 0) 2 M2292 ho2242 (by kernel_rfl) (by kernel_rfl) rfl (by kernel_rfl) (by kernel_rfl) (by kernel_rfl) (by kernel_rfl) (by kernel_rfl) (by kernel_rfl) (by kernel_rfl) (gxIdx_spec hy2297).2 rfl ?_
      intro w2298 sg2300 ho2301 M2299
      refine W_conv 25 (.slice p2239 r2237.length c2240) (.slice p2239 (r2237.set q2296.toNat 0).length c2240) (by kernel_rfl) (by rw [List.length_set]) ?_
      have M2302 : Mem [] w w2298 [[(b2227, .cells ⟨[.slice p2219 x2217.Items.length c2220, .int .i64 x2217.Head, .int .i64 x2217.Tail]⟩ 27 (0, 0))], [(b2232, .cells ⟨[.slice none 0 0, .int .i64 0, .int .i64 0]⟩ 27 (0, 0))], sg2300, [(b2246, .cells ⟨[.slice p2239 (r2237.set q2296.toNat 0).length c2240, .int .i64 x2217.Head, .int .i64 x2217.Tail]⟩ 27 (0, 0))]] := by rw [List.length_set]; exact M2299
      refine W_nil ?_
      refine N_then ?_
      refine G_seq ?_
      refine G_region ?_
      refine W_run 1 [(1, .pointer (some ⟨b2227, 0, none⟩)), (2, .pointer (some ⟨b2232, 0, none⟩)), (4, .pointer (some ⟨b2246, 0, none⟩)), (5, .int .i64 q2296), (28, .pointer (some ⟨b2227, 1, none⟩))] w2298 (by kernel_rfl) ?_
      refine W_val (.int .i64 x2217.Head) w2298 (by kernel_rfl) (E_load (e := 27) (fr := (0, 0)) _ _ false 1 b2227 1 [.slice p2219 x2217.Items.length c2220, .int .i64 x2217.Head, .int .i64 x2217.Tail] (.int .i64 x2217.Head) rfl (by kernel_rfl) (by kernel_rfl) (by kernel_rfl) (M2302.blk 0 (b := b2227) (o := .cells ⟨[.slice p2219 x2217.Items.length c2220, .int .i64 x2217.Head, .int .i64 x2217.Tail]⟩ 27 (0, 0)) (by kernel_rfl))) ?_
      refine W_run 3 [(1, .pointer (some ⟨b2227, 0, none⟩)), (2, .pointer (some ⟨b2232, 0, none⟩)), (4, .pointer (some ⟨b2246, 0, none⟩)), (5, .int .i64 q2296), (31, .int .i64 ((w64 (x2217.Head + 1)).tmod 65536)), (32, .pointer (some ⟨b2246, 1, none⟩))] w2298 (by kernel_rfl) ?_
      refine W_store _ _ _ false 1 b2246 1 [.slice p2239 (r2237.set q2296.toNat 0).length c2240, .int .i64 x2217.Head, .int .i64 x2217.Tail] 27 (.int .i64 ((w64 (x2217.Head + 1)).tmod 65536)) 3 [.slice p2239 (r2237.set q2296.toNat 0).length c2240, .int .i64 ((w64 (x2217.Head + 1)).tmod 65536), .int .i64 x2217.Tail] M2302 (by kernel_rfl) rfl (by kernel_rfl) (by kernel_rfl) (by kernel_rfl) (by kernel_rfl) (by kernel_rfl) (by kernel_rfl) (by kernel_rfl) (by kernel_rfl) ?_
      intro w2303 M2304
      refine W_nil ?_
      refine N_then ?_
      refine G_seq ?_
      obtain ⟨y2307, hy2307, hm⟩ := gx_bind hm
      have M2308 : Mem [] w w2303 ([[(b2227, .cells ⟨[.slice p2219 x2217.Items.length c2220, .int .i64 x2217.Head, .int .i64 x2217.Tail]⟩ 27 (0, 0))], sg2300, [(b2246, .cells ⟨[.slice p2239 (r2237.set q2296.toNat 0).length c2240, .int .i64 ((w64 (x2217.Head + 1)).tmod 65536), .int .i64 x2217.Tail]⟩ 27 (0, 0))]] ++ (List.range 7).map (fun i => ([[], [], [], [], [], [], [(b2232, .cells ⟨[.slice none 0 0, .int .i64 0, .int .i64 0]⟩ 27 (0, 0))]] : List Seg).getD i [])) := M2304.pick [0, 2, 3, 300000, 300001, 300002, 300003, 300004, 300005, 1] (by kernel_rfl)
      refine G_sub [(1, .pointer (some ⟨b2227, 0, none⟩)), (2, .pointer (some ⟨b2232, 0, none⟩)), (4, .pointer (some ⟨b2246, 0, none⟩)), (5, .int .i64 q2296), (31, .int .i64 ((w64 (x2217.Head + 1)).tmod 65536)), (32, .pointer (some ⟨b2246, 1, none⟩))] (by kernel_rfl) ?_
      refine G_dagL 7 [[], [], [1], [], [2, 3], [4], [0]] [[], [], [], [], [], [], []] [[], [], [], [], [], [], []] [[], [], [], [], [], [], []] [[], [], [], [], [], [], []] [[], [], [], [], [], [], []] (fun i => ([[], [], [], [], [], [], [(b2232, .cells ⟨[.slice none 0 0, .int .i64 0, .int .i64 0]⟩ 27 (0, 0))]] : List Seg).getD i []) (fun i => ([fun f v s => v = (.agg #[.slice p2239 (r2237.set q2296.toNat 0).length c2240, .int .i64 ((w64 (x2217.Head + 1)).tmod 65536), .int .i64 x2217.Tail] : Value) ∧ s = [], fun f v s => v = (.pointer (some ⟨b2227, 0, none⟩) : Value) ∧ s = [], fun f v s => v = (.slice p2219 x2217.Items.length c2220 : Value) ∧ s = [], fun f v s => v = (.int .i64 q2296 : Value) ∧ s = [], fun f v s => v = (elemP p2219 (q2296.toNat * 1) : Value) ∧ s = [], fun f v s => v = (.int .i64 y2307 : Value) ∧ s = [], fun f v s => v = undef ∧ s = [(b2232, .cells ⟨[.slice p2239 (r2237.set q2296.toNat 0).length c2240, .int .i64 ((w64 (x2217.Head + 1)).tmod 65536), .int .i64 x2217.Tail]⟩ 27 (0, 0))]] : List ((Nat → Value) → Value → Seg → Prop)).getD i (fun _ _ _ => False)) (fun j f v => ∃ s, (fun i => ([fun f v s => v = (.agg #[.slice p2239 (r2237.set q2296.toNat 0).length c2240, .int .i64 ((w64 (x2217.Head + 1)).tmod 65536), .int .i64 x2217.Tail] : Value) ∧ s = [], fun f v s => v = (.pointer (some ⟨b2227, 0, none⟩) : Value) ∧ s = [], fun f v s => v = (.slice p2219 x2217.Items.length c2220 : Value) ∧ s = [], fun f v s => v = (.int .i64 q2296 : Value) ∧ s = [], fun f v s => v = (elemP p2219 (q2296.toNat * 1) : Value) ∧ s = [], fun f v s => v = (.int .i64 y2307 : Value) ∧ s = [], fun f v s => v = undef ∧ s = [(b2232, .cells ⟨[.slice p2239 (r2237.set q2296.toNat 0).length c2240, .int .i64 ((w64 (x2217.Head + 1)).tmod 65536), .int .i64 x2217.Tail]⟩ 27 (0, 0))]] : List ((Nat → Value) → Value → Seg → Prop)).getD i (fun _ _ _ => False)) j f v s) [] [5, 6] [6] (fun _ _ _ s h => ⟨s, h⟩) (by kernel_rfl) (by kernel_rfl) M2308 (by kernel_rfl) (by kernel_rfl) (by kernel_rfl) (by kernel_rfl) (allOb_cons ?_ (allOb_cons ?_ (allOb_cons ?_ (allOb_cons ?_ (allOb_cons ?_ (allOb_cons ?_ (allOb_cons ?_ allOb_nil))))))) ?_
      · intro g2305 f2306
        intro R w2309 M2310
        refine W_val (.agg #[.slice p2239 (r2237.set q2296.toNat 0).length c2240, .int .i64 ((w64 (x2217.Head + 1)).tmod 65536), .int .i64 x2217.Tail]) w2309 (by kernel_rfl) (E_load (e := 27) (fr := (0, 0)) _ _ true 3 b2246 0 [.slice p2239 (r2237.set q2296.toNat 0).length c2240, .int .i64 ((w64 (x2217.Head + 1)).tmod 65536), .int .i64 x2217.Tail] (.agg #[.slice p2239 (r2237.set q2296.toNat 0).length c2240, .int .i64 ((w64 (x2217.Head + 1)).tmod 65536), .int .i64 x2217.Tail]) rfl (by kernel_rfl) (by kernel_rfl) (by kernel_rfl) (M2310.blk 2 (b := b2246) (o := .cells ⟨[.slice p2239 (r2237.set q2296.toNat 0).length c2240, .int .i64 ((w64 (x2217.Head + 1)).tmod 65536), .int .i64 x2217.Tail]⟩ 27 (0, 0)) (by kernel_rfl))) ?_
        exact W_nil (ob_end (.agg #[.slice p2239 (r2237.set q2296.toNat 0).length c2240, .int .i64 ((w64 (x2217.Head + 1)).tmod 65536), .int .i64 x2217.Tail]) [] rfl (by kernel_rfl) ⟨by kernel_rfl, rfl⟩ M2310)
      · intro g2305 f2306
        intro R w2313 M2314
        refine W_run 1 [(34, .pointer (some ⟨b2227, 0, none⟩))] w2313 (by kernel_rfl) ?_
        exact W_nil (ob_end (.pointer (some ⟨b2227, 0, none⟩)) [] rfl (by kernel_rfl) ⟨by kernel_rfl, rfl⟩ M2314)
      · intro g2305 f2306
        intro v1_ hb1_
        obtain ⟨rfl, _⟩ := hb1_
        intro R w2317 M2318
        refine W_val (.slice p2219 x2217.Items.length c2220) w2317 (by kernel_rfl) (E_load (e := 27) (fr := (0, 0)) _ _ false 1 b2227 0 [.slice p2219 x2217.Items.length c2220, .int .i64 x2217.Head, .int .i64 x2217.Tail] (.slice p2219 x2217.Items.length c2220) rfl (by kernel_rfl) (by kernel_rfl) (by kernel_rfl) (M2318.blk 0 (b := b2227) (o := .cells ⟨[.slice p2219 x2217.Items.length c2220, .int .i64 x2217.Head, .int .i64 x2217.Tail]⟩ 27 (0, 0)) (by kernel_rfl))) ?_
        exact W_nil (ob_end (.slice p2219 x2217.Items.length c2220) [] rfl (by kernel_rfl) ⟨by kernel_rfl, rfl⟩ M2318)
      · intro g2305 f2306
        intro R w2321 M2322
        refine W_run 1 [(36, .int .i64 q2296)] w2321 (by kernel_rfl) ?_
        exact W_nil (ob_end (.int .i64 q2296) [] rfl (by kernel_rfl) ⟨by kernel_rfl, rfl⟩ M2322)
      · intro g2305 f2306
        intro v2_ hb2_
        obtain ⟨rfl, _⟩ := hb2_
        intro v3_ hb3_
        obtain ⟨rfl, _⟩ := hb3_
        intro R w2325 M2326
        refine W_val (elemP p2219 (q2296.toNat * 1)) w2325 (by kernel_rfl) (E_index (E := encI) _ _ _ x2217.Items.length c2220 .i64 q2296 1 (y := y2307) rfl (by kernel_rfl) (by kernel_rfl) (by kernel_rfl) (h2221.mem0 M2326) rfl hy2307) ?_
        exact W_nil (ob_end (elemP p2219 (q2296.toNat * 1)) [] rfl (by kernel_rfl) ⟨by kernel_rfl, rfl⟩ M2326)
      · intro g2305 f2306
        intro v4_ hb4_
        obtain ⟨rfl, _⟩ := hb4_
        intro R w2329 M2330
        refine W_val (.int .i64 y2307) w2329 (by kernel_rfl) (E_loadE (E := encI) _ _ false 1 q2296 0 (q2296.toNat * 1) y2307 (.int .i64 y2307) rfl (by kernel_rfl) (by kernel_rfl) (by kernel_rfl) (h2221.mem0 M2330) hy2307 rfl) ?_
        exact W_nil (ob_end (.int .i64 y2307) [] rfl (by kernel_rfl) ⟨by kernel_rfl, rfl⟩ M2330)
      · intro g2305 f2306
        intro v0_ hb0_
        obtain ⟨rfl, _⟩ := hb0_
        intro R w2333 M2334
        refine W_store _ _ _ true 3 b2232 0 [.slice none 0 0, .int .i64 0, .int .i64 0] 27 (.agg #[.slice p2239 (r2237.set q2296.toNat 0).length c2240, .int .i64 ((w64 (x2217.Head + 1)).tmod 65536), .int .i64 x2217.Tail]) 3 [.slice p2239 (r2237.set q2296.toNat 0).length c2240, .int .i64 ((w64 (x2217.Head + 1)).tmod 65536), .int .i64 x2217.Tail] M2334 (by kernel_rfl) rfl (by kernel_rfl) (by kernel_rfl) (by kernel_rfl) (by kernel_rfl) (by kernel_rfl) (by kernel_rfl) (by kernel_rfl) (by kernel_rfl) ?_
        intro w2335 M2336
        exact W_nil (ob_none [(b2232, .cells ⟨[.slice p2239 (r2237.set q2296.toNat 0).length c2240, .int .i64 ((w64 (x2217.Head + 1)).tmod 65536), .int .i64 x2217.Tail]⟩ 27 (0, 0))] rfl ⟨rfl, by kernel_rfl⟩ M2336)
      · intro g2305 f2306
        intro v5_ hb5_
        obtain ⟨rfl, _⟩ := hb5_
        intro v6_ hb6_
        obtain ⟨rfl, hs6_⟩ := hb6_
        replace hs6_ := hs6_.trans (show _ = [(b2232, .cells ⟨[.slice p2239 (r2237.set q2296.toNat 0).length c2240, .int .i64 ((w64 (x2217.Head + 1)).tmod 65536), .int .i64 x2217.Tail]⟩ 27 (0, 0))] by kernel_rfl)
        intro w2337 M2338
        have M2339 : Mem [] w w2337 [[(b2227, .cells ⟨[.slice p2219 x2217.Items.length c2220, .int .i64 x2217.Head, .int .i64 x2217.Tail]⟩ 27 (0, 0))], sg2300, [(b2246, .cells ⟨[.slice p2239 (r2237.set q2296.toNat 0).length c2240, .int .i64 ((w64 (x2217.Head + 1)).tmod 65536), .int .i64 x2217.Tail]⟩ 27 (0, 0))], (g2305 6)] := M2338
        rw [hs6_] at M2339
        refine W_run 1 [(2, .pointer (some ⟨b2232, 0, none⟩)), (3, .int .i64 y2307)] w2337 (by kernel_rfl) ?_
        refine W_nil ?_
        refine N_then ?_
        refine G_ret ?_
        obtain rfl := Option.some.inj hm
        refine N_ret [.agg #[.slice p2239 (r2237.set q2296.toNat 0).length c2240, .int .i64 ((w64 (x2217.Head + 1)).tmod 65536), .int .i64 x2217.Tail], .int .i64 y2307] (RVs_cons (RV_cell (g := true) (k := 3) (b := b2232) (off := 0) (cs := [.slice p2239 (r2237.set q2296.toNat 0).length c2240, .int .i64 ((w64 (x2217.Head + 1)).tmod 65536), .int .i64 x2217.Tail]) (e := 27) (fr := (0, 0)) (v := .agg #[.slice p2239 (r2237.set q2296.toNat 0).length c2240, .int .i64 ((w64 (x2217.Head + 1)).tmod 65536), .int .i64 x2217.Tail]) (M2339.blk 3 (b := b2232) (o := .cells ⟨[.slice p2239 (r2237.set q2296.toNat 0).length c2240, .int .i64 ((w64 (x2217.Head + 1)).tmod 65536), .int .i64 x2217.Tail]⟩ 27 (0, 0)) (by kernel_rfl)) (by kernel_rfl) (by kernel_rfl) (by kernel_rfl)) (RVs_cons (RV_tmp (by kernel_rfl)) RVs_nil)) ?_
        exact ⟨p2239, c2240, sg2300, rfl, ho2301, M2339.pick [1] (by kernel_rfl)⟩
theorem c_s_TakeWords (w : World) (x2068 : Ring) (p2070 : Option Addr) (c2071 : Nat) (h2072 : rdS encI w x2068.Items p2070 c2071) (x2073 : Int) {r : Ring × (List Int) × Bool} (hm : M.s_TakeWords x2068 x2073 = some r) :
    Calls Try.prog 30 #[.agg #[.slice p2070 x2068.Items.length c2071, .int .i64 x2068.Head, .int .i64 x2068.Tail], .int .i64 x2073] w fun e w' => ∃ (p2075 : Option Addr) (c2076 : Nat) (sg2077 : Seg), ∃ (p2079 : Option Addr) (c2080 : Nat) (sg2081 : Seg), e = .returned (.tuple #[.agg #[.slice p2075 r.1.Items.length c2076, .int .i64 r.1.Head, .int .i64 r.1.Tail], .slice p2079 r.2.1.length c2080, .bool r.2.2]) ∧ ownS encI r.1.Items p2075 c2076 sg2077 ∧ ownS encI r.2.1 p2079 c2080 sg2081 ∧ Mem [] w w' [sg2077, sg2081] := by
  unfold M.s_TakeWords at hm
  refine C_enter Try.func30 rfl (by kernel_rfl) ?_
  have M0 := Mem.refl [] w
  refine G_seq ?_
  refine G_region ?_
  refine W_new (fun b => .pointer (some ⟨b, 0, none⟩)) (.cells ⟨[.slice p2070 x2068.Items.length c2071, .int .i64 x2068.Head, .int .i64 x2068.Tail]⟩ 27 (0, 0)) M0 rfl (by kernel_rfl) (by kernel_rfl) ?_
  intro b2083 w2084 M2085
  refine W_new (fun b => .pointer (some ⟨b, 0, none⟩)) (.cells ⟨[.slice none 0 0, .int .i64 0, .int .i64 0]⟩ 27 (0, 0)) M2085 rfl (by kernel_rfl) (by kernel_rfl) ?_
  intro b2088 w2089 M2090
  refine W_run 2 [(1, .int .i64 x2073), (2, .pointer (some ⟨b2083, 0, none⟩)), (4, .pointer (some ⟨b2088, 0, none⟩))] w2089 (by kernel_rfl) ?_
  refine W_nil ?_
  refine N_then ?_
  refine G_seq ?_
  refine G_region ?_
  refine W_lit (E := encI) ([] : List Int) 0 [] 3 M2090 (by kernel_rfl) (by kernel_rfl) (by kernel_rfl) (by kernel_rfl) (by kernel_rfl) ?_
  intro p2092 c2093 sg2094 w2095 ho2096 M2097
  refine W_run 1 [(1, .int .i64 x2073), (2, .pointer (some ⟨b2083, 0, none⟩)), (4, .pointer (some ⟨b2088, 0, none⟩)), (7, .slice p2092 ([] : List Int).length c2093)] w2095 (by kernel_rfl) ?_
  refine W_nil ?_
  refine N_then ?_
  refine G_seq ?_
  refine G_seq ?_
  obtain ⟨o2104, ho2105, hm2106⟩ := gx_bind hm
  refine G_meet (fun a w' => Mem [] w w' [[(b2083, .cells ⟨[.slice p2070 x2068.Items.length c2071, .int .i64 x2068.Head, .int .i64 x2068.Tail]⟩ 27 (0, 0))], [(b2088, .cells ⟨[.slice none 0 0, .int .i64 0, .int .i64 0]⟩ 27 (0, 0))], sg2094] ∧ Sat Try.f30.ntmps [(1, .int .i64 x2073), (2, .pointer (some ⟨b2083, 0, none⟩)), (4, .pointer (some ⟨b2088, 0, none⟩)), (7, .slice p2092 ([] : List Int).length c2093), (18, .bool o2104)] a) ?_ ?_
  · have hm := ho2105
    refine G_region ?_
    refine W_val (.agg #[.slice p2070 x2068.Items.length c2071, .int .i64 x2068.Head, .int .i64 x2068.Tail]) w2095 (by kernel_rfl) (E_load (e := 27) (fr := (0, 0)) _ _ true 3 b2083 0 [.slice p2070 x2068.Items.length c2071, .int .i64 x2068.Head, .int .i64 x2068.Tail] (.agg #[.slice p2070 x2068.Items.length c2071, .int .i64 x2068.Head, .int .i64 x2068.Tail]) rfl (by kernel_rfl) (by kernel_rfl) (by kernel_rfl) (M2097.blk 0 (b := b2083) (o := .cells ⟨[.slice p2070 x2068.Items.length c2071, .int .i64 x2068.Head, .int .i64 x2068.Tail]⟩ 27 (0, 0)) (by kernel_rfl))) ?_
    obtain ⟨r2107, hr2107, hm⟩ := gx_bind hm
    refine W_call 58 #[.agg #[.slice p2070 x2068.Items.length c2071, .int .i64 x2068.Head, .int .i64 x2068.Tail]] (by kernel_rfl) (by kernel_rfl) ?_
    refine (c_s_l20Good w2095 x2068 p2070 c2071 (h2072.mem0 M2097) hr2107).mono ?_
    rintro e_ w2108 ⟨rfl, K2109⟩
    have M2110 := M2097.call0 K2109
    refine ⟨_, rfl, ?_⟩
    refine W_run 2 [(1, .int .i64 x2073), (2, .pointer (some ⟨b2083, 0, none⟩)), (4, .pointer (some ⟨b2088, 0, none⟩)), (7, .slice p2092 ([] : List Int).length c2093), (15, .bool (!r2107))] w2108 (by kernel_rfl) ?_
    rcases gx_bif hm with ⟨hc2111, hm⟩ | ⟨hc2111, hm⟩
    · refine W_known 15 true (by kernel_rfl) hc2111 ?_
      refine W_run 3 [(1, .int .i64 x2073), (2, .pointer (some ⟨b2083, 0, none⟩)), (4, .pointer (some ⟨b2088, 0, none⟩)), (7, .slice p2092 ([] : List Int).length c2093), (18, .bool true)] w2108 (by kernel_rfl) ?_
      refine W_nil ?_
      obtain rfl := Option.some.inj hm
      exact N_meet fun a ha => ⟨M2110.pick [0, 1, 2] (by kernel_rfl), ha.sub (by kernel_rfl)⟩
    · refine W_known 15 false (by kernel_rfl) hc2111 ?_
      refine W_run 3 [(1, .int .i64 x2073), (2, .pointer (some ⟨b2083, 0, none⟩)), (4, .pointer (some ⟨b2088, 0, none⟩)), (7, .slice p2092 ([] : List Int).length c2093), (18, .bool (decide (x2073 < 0)))] w2108 (by kernel_rfl) ?_
      refine W_nil ?_
      obtain rfl := Option.some.inj hm
      exact N_meet fun a ha => ⟨M2110.pick [0, 1, 2] (by kernel_rfl), ha.sub (by kernel_rfl)⟩
  · intro a2114 w2112 ⟨M2113, hS2115⟩
    refine N_use hS2115 ?_
    have hm := hm2106
    refine N_then ?_
    rcases gx_bif hm with ⟨hc2116, hm⟩ | ⟨hc2116, hm⟩
    · refine G_cond_t (b := o2104) hc2116 (by kernel_rfl) ?_
      refine G_seq ?_
      refine G_region ?_
      refine W_run 2 [(4, .pointer (some ⟨b2088, 0, none⟩)), (19, .agg #[.slice none 0 0, .int .i64 0, .int .i64 0]), (20, .slice p2092 ([] : List Int).length c2093)] w2112 (by kernel_rfl) ?_
      refine W_store _ _ _ true 3 b2088 0 [.slice none 0 0, .int .i64 0, .int .i64 0] 27 (.agg #[.slice none 0 0, .int .i64 0, .int .i64 0]) 1 [.slice none 0 0, .int .i64 0, .int .i64 0] M2113 (by kernel_rfl) rfl (by kernel_rfl) (by kernel_rfl) (by kernel_rfl) (by kernel_rfl) (by kernel_rfl) (by kernel_rfl) (by kernel_rfl) (by kernel_rfl) ?_
      intro w2118 M2119
      refine W_run 2 [(4, .pointer (some ⟨b2088, 0, none⟩)), (5, .slice p2092 ([] : List Int).length c2093), (6, .bool false)] w2118 (by kernel_rfl) ?_
      refine W_nil ?_
      refine N_then ?_
      refine G_ret ?_
      refine N_then_ret ?_
      obtain rfl := Option.some.inj hm
      refine N_ret [.agg #[.slice none 0 0, .int .i64 0, .int .i64 0], .slice p2092 ([] : List Int).length c2093, .bool false] (RVs_cons (RV_cell (g := true) (k := 3) (b := b2088) (off := 0) (cs := [.slice none 0 0, .int .i64 0, .int .i64 0]) (e := 27) (fr := (0, 0)) (v := .agg #[.slice none 0 0, .int .i64 0, .int .i64 0]) (M2119.blk 1 (b := b2088) (o := .cells ⟨[.slice none 0 0, .int .i64 0, .int .i64 0]⟩ 27 (0, 0)) (by kernel_rfl)) (by kernel_rfl) (by kernel_rfl) (by kernel_rfl)) (RVs_cons (RV_tmp (by kernel_rfl)) (RVs_cons (RV_tmp (by kernel_rfl)) RVs_nil))) ?_
      exact ⟨none, 0, [], p2092, c2093, sg2094, rfl, ownS_nil, ho2096, M2119.pick [100000, 2] (by kernel_rfl)⟩
    · refine G_cond_f (b := o2104) hc2116 (by kernel_rfl) ?_
      refine G_skip ?_
      refine N_then ?_
      refine G_seq ?_
      obtain ⟨r2147, hr2147, hm⟩ := gx_bind hm
      refine G_sub [(1, .int .i64 x2073), (2, .pointer (some ⟨b2083, 0, none⟩)), (4, .pointer (some ⟨b2088, 0, none⟩)), (7, .slice p2092 ([] : List Int).length c2093), (18, .bool o2104)] (by kernel_rfl) ?_
      refine G_dagL 9 [[], [0], [1], [], [3], [], [5], [4, 6], []] [[], [], [], [], [], [], [], [], []] [[], [], [], [], [], [], [], [], []] [[], [], [], [], [], [], [], [2], []] [[], [], [], [], [], [], [], [2], []] [[], [], [], [], [], [], [], [], []] (fun _ => []) (fun i => ([fun f v s => v = (.pointer (some ⟨b2083, 0, none⟩) : Value) ∧ s = [], fun f v s => v = (.slice p2070 x2068.Items.length c2071 : Value) ∧ s = [], fun f v s => ∃ (p2149 : Option Addr) (c2150 : Nat), v = (.slice p2149 r2147.length c2150 : Value) ∧ ownS encI r2147 p2149 c2150 s, fun f v s => v = (.pointer (some ⟨b2083, 1, none⟩) : Value) ∧ s = [], fun f v s => v = (.int .i64 x2068.Head : Value) ∧ s = [], fun f v s => v = (.pointer (some ⟨b2083, 2, none⟩) : Value) ∧ s = [], fun f v s => v = (.int .i64 x2068.Tail : Value) ∧ s = [], fun f v s => v = (.agg #[(atPath (f 2) []), .int .i64 x2068.Head, .int .i64 x2068.Tail] : Value) ∧ s = [], fun f v s => ∃ (b2156 : Nat), v = (.pointer (some ⟨b2156, 0, none⟩) : Value) ∧ s = [(b2156, .cells ⟨[.slice none 0 0, .int .i64 0, .int .i64 0]⟩ 27 (0, 0))]] : List ((Nat → Value) → Value → Seg → Prop)).getD i (fun _ _ _ => False)) (fun j f v => ∃ s, (fun i => ([fun f v s => v = (.pointer (some ⟨b2083, 0, none⟩) : Value) ∧ s = [], fun f v s => v = (.slice p2070 x2068.Items.length c2071 : Value) ∧ s = [], fun f v s => ∃ (p2149 : Option Addr) (c2150 : Nat), v = (.slice p2149 r2147.length c2150 : Value) ∧ ownS encI r2147 p2149 c2150 s, fun f v s => v = (.pointer (some ⟨b2083, 1, none⟩) : Value) ∧ s = [], fun f v s => v = (.int .i64 x2068.Head : Value) ∧ s = [], fun f v s => v = (.pointer (some ⟨b2083, 2, none⟩) : Value) ∧ s = [], fun f v s => v = (.int .i64 x2068.Tail : Value) ∧ s = [], fun f v s => v = (.agg #[(atPath (f 2) []), .int .i64 x2068.Head, .int .i64 x2068.Tail] : Value) ∧ s = [], fun f v s => ∃ (b2156 : Nat), v = (.pointer (some ⟨b2156, 0, none⟩) : Value) ∧ s = [(b2156, .cells ⟨[.slice none 0 0, .int .i64 0, .int .i64 0]⟩ 27 (0, 0))]] : List ((Nat → Value) → Value → Seg → Prop)).getD i (fun _ _ _ => False)) j f v s) [] [2, 7, 8] [2, 8] (fun _ _ _ s h => ⟨s, h⟩) (by kernel_rfl) (by kernel_rfl) (M2113.preNil 9) (by kernel_rfl) (by kernel_rfl) (by kernel_rfl) (by kernel_rfl) (allOb_cons ?_ (allOb_cons ?_ (allOb_cons ?_ (allOb_cons ?_ (allOb_cons ?_ (allOb_cons ?_ (allOb_cons ?_ (allOb_cons ?_ (allOb_cons ?_ allOb_nil))))))))) ?_
      · intro g2120 f2121
        intro R w2157 M2158
        refine W_run 1 [(21, .pointer (some ⟨b2083, 0, none⟩))] w2157 (by kernel_rfl) ?_
        exact W_nil (ob_end (.pointer (some ⟨b2083, 0, none⟩)) [] rfl (by kernel_rfl) ⟨by kernel_rfl, rfl⟩ M2158)
      · intro g2120 f2121
        intro v0_ hb0_
        obtain ⟨rfl, _⟩ := hb0_
        intro R w2161 M2162
        refine W_val (.slice p2070 x2068.Items.length c2071) w2161 (by kernel_rfl) (E_load (e := 27) (fr := (0, 0)) _ _ false 1 b2083 0 [.slice p2070 x2068.Items.length c2071, .int .i64 x2068.Head, .int .i64 x2068.Tail] (.slice p2070 x2068.Items.length c2071) rfl (by kernel_rfl) (by kernel_rfl) (by kernel_rfl) (M2162.blk 0 (b := b2083) (o := .cells ⟨[.slice p2070 x2068.Items.length c2071, .int .i64 x2068.Head, .int .i64 x2068.Tail]⟩ 27 (0, 0)) (by kernel_rfl))) ?_
        exact W_nil (ob_end (.slice p2070 x2068.Items.length c2071) [] rfl (by kernel_rfl) ⟨by kernel_rfl, rfl⟩ M2162)
      · intro g2120 f2121
        intro v1_ hb1_
        obtain ⟨rfl, _⟩ := hb1_
        intro R w2165 M2166
        refine W_call 62 #[.slice p2070 x2068.Items.length c2071] (by kernel_rfl) (by kernel_rfl) ?_
        refine (c_s_l1Own w2165 x2068.Items p2070 c2071 (h2072.mem0 M2166) hr2147).mono ?_
        rintro e_ w2167 ⟨p2149, c2150, sg2151, rfl, ho2152, K2169⟩
        refine ⟨_, rfl, ?_⟩
        exact W_nil (ob_end (.slice p2149 r2147.length c2150) sg2151 rfl (by kernel_rfl) ⟨p2149, c2150, rfl, ho2152⟩ (Mem.callMid M2166 K2169))
      · intro g2120 f2121
        intro R w2170 M2171
        refine W_run 1 [(24, .pointer (some ⟨b2083, 1, none⟩))] w2170 (by kernel_rfl) ?_
        exact W_nil (ob_end (.pointer (some ⟨b2083, 1, none⟩)) [] rfl (by kernel_rfl) ⟨by kernel_rfl, rfl⟩ M2171)
      · intro g2120 f2121
        intro v3_ hb3_
        obtain ⟨rfl, _⟩ := hb3_
        intro R w2174 M2175
        refine W_val (.int .i64 x2068.Head) w2174 (by kernel_rfl) (E_load (e := 27) (fr := (0, 0)) _ _ false 1 b2083 1 [.slice p2070 x2068.Items.length c2071, .int .i64 x2068.Head, .int .i64 x2068.Tail] (.int .i64 x2068.Head) rfl (by kernel_rfl) (by kernel_rfl) (by kernel_rfl) (M2175.blk 0 (b := b2083) (o := .cells ⟨[.slice p2070 x2068.Items.length c2071, .int .i64 x2068.Head, .int .i64 x2068.Tail]⟩ 27 (0, 0)) (by kernel_rfl))) ?_
        exact W_nil (ob_end (.int .i64 x2068.Head) [] rfl (by kernel_rfl) ⟨by kernel_rfl, rfl⟩ M2175)
      · intro g2120 f2121
        intro R w2178 M2179
        refine W_run 1 [(26, .pointer (some ⟨b2083, 2, none⟩))] w2178 (by kernel_rfl) ?_
        exact W_nil (ob_end (.pointer (some ⟨b2083, 2, none⟩)) [] rfl (by kernel_rfl) ⟨by kernel_rfl, rfl⟩ M2179)
      · intro g2120 f2121
        intro v5_ hb5_
        obtain ⟨rfl, _⟩ := hb5_
        intro R w2182 M2183
        refine W_val (.int .i64 x2068.Tail) w2182 (by kernel_rfl) (E_load (e := 27) (fr := (0, 0)) _ _ false 1 b2083 2 [.slice p2070 x2068.Items.length c2071, .int .i64 x2068.Head, .int .i64 x2068.Tail] (.int .i64 x2068.Tail) rfl (by kernel_rfl) (by kernel_rfl) (by kernel_rfl) (M2183.blk 0 (b := b2083) (o := .cells ⟨[.slice p2070 x2068.Items.length c2071, .int .i64 x2068.Head, .int .i64 x2068.Tail]⟩ 27 (0, 0)) (by kernel_rfl))) ?_
        exact W_nil (ob_end (.int .i64 x2068.Tail) [] rfl (by kernel_rfl) ⟨by kernel_rfl, rfl⟩ M2183)
      · intro g2120 f2121
        intro v2_ hb2_
        obtain ⟨_, p2149, c2150, rfl, _⟩ := hb2_
        intro v4_ hb4_
        obtain ⟨rfl, _⟩ := hb4_
        intro v6_ hb6_
        obtain ⟨rfl, _⟩ := hb6_
        intro R w2186 M2187
        refine W_run 1 [(28, .agg #[.slice p2149 r2147.length c2150, .int .i64 x2068.Head, .int .i64 x2068.Tail])] w2186 (by kernel_rfl) ?_
        exact W_nil (ob_end (.agg #[.slice p2149 r2147.length c2150, .int .i64 x2068.Head, .int .i64 x2068.Tail]) [] rfl (by kernel_rfl) ⟨by kernel_rfl, rfl⟩ M2187)
      · intro g2120 f2121
        intro R w2190 M2191
        refine W_new (fun b => .pointer (some ⟨b, 0, none⟩)) (.cells ⟨[.slice none 0 0, .int .i64 0, .int .i64 0]⟩ 27 (0, 0)) M2191 rfl (by kernel_rfl) (by kernel_rfl) ?_
        intro b2156 w2192 M2193
        exact W_nil (ob_end (.pointer (some ⟨b2156, 0, none⟩)) [(b2156, .cells ⟨[.slice none 0 0, .int .i64 0, .int .i64 0]⟩ 27 (0, 0))] rfl (by kernel_rfl) ⟨b2156, rfl, rfl⟩ (Mem.mid M2193))
      · intro g2120 f2121
        intro v2_ hb2_
        obtain ⟨p2149, c2150, rfl, ho2152⟩ := hb2_
        intro v7_ hb7_
        obtain ⟨hv7_, _⟩ := hb7_
        obtain rfl : v7_ = (.agg #[.slice p2149 r2147.length c2150, .int .i64 x2068.Head, .int .i64 x2068.Tail] : Value) := hv7_.trans (by kernel_rfl)
        intro v8_ hb8_
        obtain ⟨b2156, rfl, hs8_⟩ := hb8_
        intro w2194 M2195
        have M2196 : Mem [] w w2194 [[(b2083, .cells ⟨[.slice p2070 x2068.Items.length c2071, .int .i64 x2068.Head, .int .i64 x2068.Tail]⟩ 27 (0, 0))], [(b2088, .cells ⟨[.slice none 0 0, .int .i64 0, .int .i64 0]⟩ 27 (0, 0))], sg2094, (g2120 2), (g2120 8)] := M2195
        rw [hs8_] at M2196
        refine W_store _ _ _ true 3 b2156 0 [.slice none 0 0, .int .i64 0, .int .i64 0] 27 (.agg #[.slice p2149 r2147.length c2150, .int .i64 x2068.Head, .int .i64 x2068.Tail]) 4 [.slice p2149 r2147.length c2150, .int .i64 x2068.Head, .int .i64 x2068.Tail] M2196 (by kernel_rfl) rfl (by kernel_rfl) (by kernel_rfl) (by kernel_rfl) (by kernel_rfl) (by kernel_rfl) (by kernel_rfl) (by kernel_rfl) (by kernel_rfl) ?_
        intro w2197 M2198
        refine W_nil ?_
        refine N_then ?_
        refine G_seq ?_
        obtain ⟨out2441, hw2442, hmo2443⟩ := gx_bind hm
        refine G_meet (fun a w' => ∃ (p2455 : Option Addr), ∃ (c2456 : Nat), ∃ (sg2457 : Seg), ∃ (p2460 : Option Addr), ∃ (c2461 : Nat), ∃ (sg2462 : Seg), ownS encI out2441.1 p2455 c2456 sg2457 ∧ ownS encI out2441.2.1 p2460 c2461 sg2462 ∧ Mem [] w w' [[(b2088, .cells ⟨[.slice none 0 0, .int .i64 0, .int .i64 0]⟩ 27 (0, 0))], [(b2156, .cells ⟨[.slice p2460 out2441.2.1.length c2461, .int .i64 out2441.2.2.1, .int .i64 out2441.2.2.2]⟩ 27 (0, 0))], sg2457, sg2462] ∧ Sat Try.f30.ntmps [(4, .pointer (some ⟨b2088, 0, none⟩)), (7, .slice p2455 out2441.1.length c2456), (8, .pointer (some ⟨b2156, 0, none⟩))] a) ?_ ?_
        · refine G_block ?_
          refine G_while (σ := List Int × List Int × Int × Int) (ρ := List Int × List Int × Int × Int) (fun s2434 a w' => ∃ (p2444 : Option Addr), ∃ (c2445 : Nat), ∃ (sg2446 : Seg), ∃ (p2449 : Option Addr), ∃ (c2450 : Nat), ∃ (sg2451 : Seg), ownS encI s2434.1 p2444 c2445 sg2446 ∧ ownS encI s2434.2.1 p2449 c2450 sg2451 ∧ Mem [] w w' [[(b2088, .cells ⟨[.slice none 0 0, .int .i64 0, .int .i64 0]⟩ 27 (0, 0))], [(b2156, .cells ⟨[.slice p2449 s2434.2.1.length c2450, .int .i64 s2434.2.2.1, .int .i64 s2434.2.2.2]⟩ 27 (0, 0))], sg2446, sg2451] ∧ Sat Try.f30.ntmps [(1, .int .i64 x2073), (4, .pointer (some ⟨b2088, 0, none⟩)), (7, .slice p2444 s2434.1.length c2445), (8, .pointer (some ⟨b2156, 0, none⟩))] a) hw2442 (fun a ha => ⟨p2092, c2093, sg2094, p2149, c2150, (g2120 2), ho2096, ho2152, M2198.pick [1, 4, 2, 3] (by kernel_rfl), ha.sub (by kernel_rfl)⟩) ?_
          clear hm
          intro s2434 x2435 hm hout2436 a2437 w2438 ⟨p2444, c2445, sg2446, p2449, c2450, sg2451, ho2447, ho2452, M2439, hS2440⟩
          refine G_use hS2440 ?_
          refine G_seq ?_
          refine G_seq ?_
          obtain ⟨o2470, ho2471, hm2472⟩ := gx_bind hm
          refine G_meet (fun a w' => Mem [] w w' [[(b2088, .cells ⟨[.slice none 0 0, .int .i64 0, .int .i64 0]⟩ 27 (0, 0))], [(b2156, .cells ⟨[.slice p2449 s2434.2.1.length c2450, .int .i64 s2434.2.2.1, .int .i64 s2434.2.2.2]⟩ 27 (0, 0))], sg2446, sg2451] ∧ Sat Try.f30.ntmps [(1, .int .i64 x2073), (4, .pointer (some ⟨b2088, 0, none⟩)), (7, .slice p2444 s2434.1.length c2445), (8, .pointer (some ⟨b2156, 0, none⟩)), (37, .bool o2470)] a) ?_ ?_
          · have hm := ho2471
            refine G_region ?_
            refine W_run 5 [(1, .int .i64 x2073), (4, .pointer (some ⟨b2088, 0, none⟩)), (7, .slice p2444 s2434.1.length c2445), (8, .pointer (some ⟨b2156, 0, none⟩)), (33, .bool (decide ((s2434.1.length : Int) < x2073)))] w2438 (by kernel_rfl) ?_
            rcases gx_bif hm with ⟨hc2473, hm⟩ | ⟨hc2473, hm⟩
            · refine W_known 33 true (by kernel_rfl) hc2473 ?_
              refine W_val (.agg #[.slice p2449 s2434.2.1.length c2450, .int .i64 s2434.2.2.1, .int .i64 s2434.2.2.2]) w2438 (by kernel_rfl) (E_load (e := 27) (fr := (0, 0)) _ _ true 3 b2156 0 [.slice p2449 s2434.2.1.length c2450, .int .i64 s2434.2.2.1, .int .i64 s2434.2.2.2] (.agg #[.slice p2449 s2434.2.1.length c2450, .int .i64 s2434.2.2.1, .int .i64 s2434.2.2.2]) rfl (by kernel_rfl) (by kernel_rfl) (by kernel_rfl) (M2439.blk 1 (b := b2156) (o := .cells ⟨[.slice p2449 s2434.2.1.length c2450, .int .i64 s2434.2.2.1, .int .i64 s2434.2.2.2]⟩ 27 (0, 0)) (by kernel_rfl))) ?_
              obtain ⟨r2474, hr2474, hm⟩ := gx_bind hm
              refine W_call 63 #[.agg #[.slice p2449 s2434.2.1.length c2450, .int .i64 s2434.2.2.1, .int .i64 s2434.2.2.2]] (by kernel_rfl) (by kernel_rfl) ?_
              refine (c_s_l20Count w2438 (⟨s2434.2.1, s2434.2.2.1, s2434.2.2.2⟩ : Ring) p2449 c2450 (ho2452.rd M2439 3 (by kernel_rfl)) hr2474).mono ?_
              rintro e_ w2475 ⟨rfl, K2476⟩
              have M2477 := M2439.call0 K2476
              refine ⟨_, rfl, ?_⟩
              refine W_run 2 [(1, .int .i64 x2073), (4, .pointer (some ⟨b2088, 0, none⟩)), (7, .slice p2444 s2434.1.length c2445), (8, .pointer (some ⟨b2156, 0, none⟩)), (34, .agg #[.slice p2449 s2434.2.1.length c2450, .int .i64 s2434.2.2.1, .int .i64 s2434.2.2.2]), (35, .int .i64 r2474), (36, .bool (decide (r2474 > 0))), (37, .bool (decide (r2474 > 0)))] w2475 (by kernel_rfl) ?_
              refine W_nil ?_
              obtain rfl := Option.some.inj hm
              exact N_meet fun a ha => ⟨M2477.pick [0, 1, 2, 3] (by kernel_rfl), ha.sub (by kernel_rfl)⟩
            · refine W_known 33 false (by kernel_rfl) hc2473 ?_
              refine W_run 4 [(1, .int .i64 x2073), (4, .pointer (some ⟨b2088, 0, none⟩)), (7, .slice p2444 s2434.1.length c2445), (8, .pointer (some ⟨b2156, 0, none⟩)), (34, undef), (35, undef), (36, undef), (37, .bool false)] w2438 (by kernel_rfl) ?_
              refine W_nil ?_
              obtain rfl := Option.some.inj hm
              exact N_meet fun a ha => ⟨M2439.pick [0, 1, 2, 3] (by kernel_rfl), ha.sub (by kernel_rfl)⟩
          · intro a2480 w2478 ⟨M2479, hS2481⟩
            refine N_use hS2481 ?_
            have hm := hm2472
            refine N_then ?_
            rcases gx_bif hm with ⟨hc2482, hm⟩ | ⟨hc2482, hm⟩
            · refine G_cond_t (b := o2470) hc2482 (by kernel_rfl) ?_
              refine G_skip ?_
              refine N_then ?_
              refine G_block ?_
              refine G_seq ?_
              refine G_region ?_
              refine W_val (.agg #[.slice p2449 s2434.2.1.length c2450, .int .i64 s2434.2.2.1, .int .i64 s2434.2.2.2]) w2478 (by kernel_rfl) (E_load (e := 27) (fr := (0, 0)) _ _ true 3 b2156 0 [.slice p2449 s2434.2.1.length c2450, .int .i64 s2434.2.2.1, .int .i64 s2434.2.2.2] (.agg #[.slice p2449 s2434.2.1.length c2450, .int .i64 s2434.2.2.1, .int .i64 s2434.2.2.2]) rfl (by kernel_rfl) (by kernel_rfl) (by kernel_rfl) (M2479.blk 1 (b := b2156) (o := .cells ⟨[.slice p2449 s2434.2.1.length c2450, .int .i64 s2434.2.2.1, .int .i64 s2434.2.2.2]⟩ 27 (0, 0)) (by kernel_rfl))) ?_
              obtain ⟨r2483, hr2483, hm⟩ := gx_bind hm
              refine W_call 64 #[.agg #[.slice p2449 s2434.2.1.length c2450, .int .i64 s2434.2.2.1, .int .i64 s2434.2.2.2]] (by kernel_rfl) (by kernel_rfl) ?_
              refine (c_s_l20Take w2478 (⟨s2434.2.1, s2434.2.2.1, s2434.2.2.2⟩ : Ring) p2449 c2450 (ho2452.rd M2479 3 (by kernel_rfl)) hr2483).mono ?_
              rintro e_ w2489 ⟨p2485, c2486, sg2487, rfl, ho2488, K2490⟩
              have M2491 := M2479.call K2490
              refine ⟨_, rfl, ?_⟩
              refine W_run 3 [(1, .int .i64 x2073), (4, .pointer (some ⟨b2088, 0, none⟩)), (7, .slice p2444 s2434.1.length c2445), (8, .pointer (some ⟨b2156, 0, none⟩)), (41, .agg #[.slice p2485 r2483.1.Items.length c2486, .int .i64 r2483.1.Head, .int .i64 r2483.1.Tail]), (42, .int .i64 r2483.2)] w2489 (by kernel_rfl) ?_
              refine W_new (fun b => .pointer (some ⟨b, 0, none⟩)) (.cells ⟨[.slice none 0 0, .int .i64 0, .int .i64 0]⟩ 27 (0, 0)) M2491 rfl (by kernel_rfl) (by kernel_rfl) ?_
              intro b2494 w2495 M2496
              refine W_store _ _ _ true 3 b2494 0 [.slice none 0 0, .int .i64 0, .int .i64 0] 27 (.agg #[.slice p2485 r2483.1.Items.length c2486, .int .i64 r2483.1.Head, .int .i64 r2483.1.Tail]) 5 [.slice p2485 r2483.1.Items.length c2486, .int .i64 r2483.1.Head, .int .i64 r2483.1.Tail] M2496 (by kernel_rfl) rfl (by kernel_rfl) (by kernel_rfl) (by kernel_rfl) (by kernel_rfl) (by kernel_rfl) (by kernel_rfl) (by kernel_rfl) (by kernel_rfl) ?_
              intro w2497 M2498
              refine W_run 1 [(1, .int .i64 x2073), (4, .pointer (some ⟨b2088, 0, none⟩)), (7, .slice p2444 s2434.1.length c2445), (8, .pointer (some ⟨b2156, 0, none⟩)), (9, .pointer (some ⟨b2494, 0, none⟩)), (10, .int .i64 r2483.2)] w2497 (by kernel_rfl) ?_
              refine W_nil ?_
              refine N_then ?_
              refine G_seq ?_
              refine G_region ?_
              refine W_val (.agg #[.slice p2485 r2483.1.Items.length c2486, .int .i64 r2483.1.Head, .int .i64 r2483.1.Tail]) w2497 (by kernel_rfl) (E_load (e := 27) (fr := (0, 0)) _ _ true 3 b2494 0 [.slice p2485 r2483.1.Items.length c2486, .int .i64 r2483.1.Head, .int .i64 r2483.1.Tail] (.agg #[.slice p2485 r2483.1.Items.length c2486, .int .i64 r2483.1.Head, .int .i64 r2483.1.Tail]) rfl (by kernel_rfl) (by kernel_rfl) (by kernel_rfl) (M2498.blk 5 (b := b2494) (o := .cells ⟨[.slice p2485 r2483.1.Items.length c2486, .int .i64 r2483.1.Head, .int .i64 r2483.1.Tail]⟩ 27 (0, 0)) (by kernel_rfl))) ?_
              refine W_store _ _ _ true 3 b2156 0 [.slice p2449 s2434.2.1.length c2450, .int .i64 s2434.2.2.1, .int .i64 s2434.2.2.2] 27 (.agg #[.slice p2485 r2483.1.Items.length c2486, .int .i64 r2483.1.Head, .int .i64 r2483.1.Tail]) 1 [.slice p2485 r2483.1.Items.length c2486, .int .i64 r2483.1.Head, .int .i64 r2483.1.Tail] M2498 (by kernel_rfl) rfl (by kernel_rfl) (by kernel_rfl) (by kernel_rfl) (by kernel_rfl) (by kernel_rfl) (by kernel_rfl) (by kernel_rfl) (by kernel_rfl) ?_
              intro w2499 M2500
              refine W_nil ?_
              refine N_then ?_
              refine G_region ?_
              refine W_run 2 [(1, .int .i64 x2073), (4, .pointer (some ⟨b2088, 0, none⟩)), (7, .slice p2444 s2434.1.length c2445), (8, .pointer (some ⟨b2156, 0, none⟩)), (44, .slice p2444 s2434.1.length c2445), (45, .int .i64 r2483.2)] w2499 (by kernel_rfl) ?_
              refine W_lit (E := encI) [r2483.2] 1 [.int .i64 r2483.2] 3 M2500 (by kernel_rfl) (by kernel_rfl) (by kernel_rfl) (by kernel_rfl) (by kernel_rfl) ?_
              intro p2501 c2502 sg2503 w2504 ho2505 M2506
              obtain ⟨ap2508, hap2508, hm⟩ := gx_bind hm
              refine W_append (E := encI) _ _ _ 8 [.int .i64 0] 2 c2502 M2506 ho2447 (by kernel_rfl) (by kernel_rfl) (by kernel_rfl) rfl (by kernel_rfl) (by kernel_rfl) (by kernel_rfl) (by kernel_rfl) (by kernel_rfl) (by kernel_rfl) (ho2505.rd M2506 6 (by kernel_rfl)) hap2508 ?_
              intro p2509 c2510 sg2511 w2512 ho2513 M2514
              refine W_run 1 [(1, .int .i64 x2073), (4, .pointer (some ⟨b2088, 0, none⟩)), (7, .slice p2509 ap2508.length c2510), (8, .pointer (some ⟨b2156, 0, none⟩))] w2512 (by kernel_rfl) ?_
              refine W_nil ?_
              refine N_block ?_
              obtain rfl := Option.some.inj hm
              exact N_loop fun a ha => ⟨_, rfl, p2509, c2510, sg2511, p2485, c2486, sg2487, ho2513, ho2488, M2514.pick [0, 1, 2, 4] (by kernel_rfl), ha.sub (by kernel_rfl)⟩
            · refine G_cond_f (b := o2470) hc2482 (by kernel_rfl) ?_
              refine G_exit ?_
              refine N_then_exit ?_
              refine N_then_exit ?_
              refine N_block_eq ?_
              obtain rfl := Option.some.inj hm
              obtain rfl := hout2436 _ rfl
              exact N_meet fun a ha => ⟨p2444, c2445, sg2446, p2449, c2450, sg2451, ho2447, ho2452, M2479.pick [0, 1, 2, 3] (by kernel_rfl), ha.sub (by kernel_rfl)⟩
        · intro a2516 w2517 ⟨p2455, c2456, sg2457, p2460, c2461, sg2462, ho2458, ho2463, M2518, hS2519⟩
          refine N_use hS2519 ?_
          have hm := hmo2443
          refine N_then ?_
          refine G_seq ?_
          refine G_region ?_
          refine W_val (.agg #[.slice p2460 out2441.2.1.length c2461, .int .i64 out2441.2.2.1, .int .i64 out2441.2.2.2]) w2517 (by kernel_rfl) (E_load (e := 27) (fr := (0, 0)) _ _ true 3 b2156 0 [.slice p2460 out2441.2.1.length c2461, .int .i64 out2441.2.2.1, .int .i64 out2441.2.2.2] (.agg #[.slice p2460 out2441.2.1.length c2461, .int .i64 out2441.2.2.1, .int .i64 out2441.2.2.2]) rfl (by kernel_rfl) (by kernel_rfl) (by kernel_rfl) (M2518.blk 1 (b := b2156) (o := .cells ⟨[.slice p2460 out2441.2.1.length c2461, .int .i64 out2441.2.2.1, .int .i64 out2441.2.2.2]⟩ 27 (0, 0)) (by kernel_rfl))) ?_
          refine W_run 1 [(4, .pointer (some ⟨b2088, 0, none⟩)), (48, .agg #[.slice p2460 out2441.2.1.length c2461, .int .i64 out2441.2.2.1, .int .i64 out2441.2.2.2]), (49, .slice p2455 out2441.1.length c2456)] w2517 (by kernel_rfl) ?_
          refine W_store _ _ _ true 3 b2088 0 [.slice none 0 0, .int .i64 0, .int .i64 0] 27 (.agg #[.slice p2460 out2441.2.1.length c2461, .int .i64 out2441.2.2.1, .int .i64 out2441.2.2.2]) 0 [.slice p2460 out2441.2.1.length c2461, .int .i64 out2441.2.2.1, .int .i64 out2441.2.2.2] M2518 (by kernel_rfl) rfl (by kernel_rfl) (by kernel_rfl) (by kernel_rfl) (by kernel_rfl) (by kernel_rfl) (by kernel_rfl) (by kernel_rfl) (by kernel_rfl) ?_
          intro w2520 M2521
          refine W_run 2 [(4, .pointer (some ⟨b2088, 0, none⟩)), (5, .slice p2455 out2441.1.length c2456), (6, .bool true)] w2520 (by kernel_rfl) ?_
          refine W_nil ?_
          refine N_then ?_
          refine G_ret ?_
          obtain rfl := Option.some.inj hm
          refine N_ret [.agg #[.slice p2460 out2441.2.1.length c2461, .int .i64 out2441.2.2.1, .int .i64 out2441.2.2.2], .slice p2455 out2441.1.length c2456, .bool true] (RVs_cons (RV_cell (g := true) (k := 3) (b := b2088) (off := 0) (cs := [.slice p2460 out2441.2.1.length c2461, .int .i64 out2441.2.2.1, .int .i64 out2441.2.2.2]) (e := 27) (fr := (0, 0)) (v := .agg #[.slice p2460 out2441.2.1.length c2461, .int .i64 out2441.2.2.1, .int .i64 out2441.2.2.2]) (M2521.blk 0 (b := b2088) (o := .cells ⟨[.slice p2460 out2441.2.1.length c2461, .int .i64 out2441.2.2.1, .int .i64 out2441.2.2.2]⟩ 27 (0, 0)) (by kernel_rfl)) (by kernel_rfl) (by kernel_rfl) (by kernel_rfl)) (RVs_cons (RV_tmp (by kernel_rfl)) (RVs_cons (RV_tmp (by kernel_rfl)) RVs_nil))) ?_
          exact ⟨p2460, c2461, sg2462, p2455, c2456, sg2457, rfl, ho2463, ho2458, M2521.pick [3, 2] (by kernel_rfl)⟩
theorem c_i_ringOf (w : World) (x2651 : Int) (x2652 : Int) (x2653 : List Int) (p2655 : Option Addr) (c2656 : Nat) (h2657 : rdS encI w x2653 p2655 c2656) {r : Ring} (hm : M.i_ringOf x2651 x2652 x2653 = some r) :
    Calls Try.prog 65 #[.int .i64 x2651, .int .i64 x2652, .slice p2655 x2653.length c2656] w fun e w' => ∃ (p2659 : Option Addr) (c2660 : Nat) (sg2661 : Seg), e = .returned (.agg #[.slice p2659 r.Items.length c2660, .int .i64 r.Head, .int .i64 r.Tail]) ∧ ownS encI r.Items p2659 c2660 sg2661 ∧ Mem [] w w' [sg2661] := by
  unfold M.i_ringOf at hm
  refine C_enter Try.func65 rfl (by kernel_rfl) ?_
  have M0 := Mem.refl [] w
  refine G_seq ?_
  refine G_region ?_
  refine W_new (fun b => .pointer (some ⟨b, 0, none⟩)) (.cells ⟨[.slice none 0 0, .int .i64 0, .int .i64 0]⟩ 27 (0, 0)) M0 rfl (by kernel_rfl) (by kernel_rfl) ?_
  intro b2664 w2665 M2666
  refine W_nil ?_
  refine N_then ?_
  refine G_seq ?_
  refine G_region ?_
  refine W_run 1 [(0, .int .i64 x2651), (1, .int .i64 x2652), (2, .slice p2655 x2653.length c2656), (6, .pointer (some ⟨b2664, 0, none⟩)), (10, .int .i64 x2651)] w2665 (by kernel_rfl) ?_
  obtain ⟨mk2667, hmk2667, hm⟩ := gx_bind hm
  refine W_make (E := encI) _ _ _ x2651 8 [.int .i64 0] (0 : Int) M2666 (by kernel_rfl) rfl (by kernel_rfl) (by kernel_rfl) (by kernel_rfl) (by kernel_rfl) (by kernel_rfl) hmk2667 ?_
  intro p2668 c2669 sg2670 w2671 ho2672 M2673
  refine W_run 7 [(0, .int .i64 x2651), (1, .int .i64 x2652), (2, .slice p2655 x2653.length c2656), (6, .pointer (some ⟨b2664, 0, none⟩)), (18, .agg #[.slice p2668 mk2667.length c2669, .int .i64 x2652, .int .i64 (gxAnd .i64 (w64 (x2652 + (x2653.length : Int))) 65535)])] w2671 (by kernel_rfl) ?_
  refine W_new (fun b => .pointer (some ⟨b, 0, none⟩)) (.cells ⟨[.slice none 0 0, .int .i64 0, .int .i64 0]⟩ 27 (0, 0)) M2673 rfl (by kernel_rfl) (by kernel_rfl) ?_
  intro b2678 w2679 M2680
  refine W_store _ _ _ true 3 b2678 0 [.slice none 0 0, .int .i64 0, .int .i64 0] 27 (.agg #[.slice p2668 mk2667.length c2669, .int .i64 x2652, .int .i64 (gxAnd .i64 (w64 (x2652 + (x2653.length : Int))) 65535)]) 2 [.slice p2668 mk2667.length c2669, .int .i64 x2652, .int .i64 (gxAnd .i64 (w64 (x2652 + (x2653.length : Int))) 65535)] M2680 (by kernel_rfl) rfl (by kernel_rfl) (by kernel_rfl) (by kernel_rfl) (by kernel_rfl) (by kernel_rfl) (by kernel_rfl) (by kernel_rfl) (by kernel_rfl) ?_
  intro w2681 M2682
  refine W_nil ?_
  refine N_then ?_
  refine G_seq ?_
  refine G_seq ?_
  refine G_region ?_
  refine W_run 3 [(0, .int .i64 x2651), (1, .int .i64 x2652), (6, .pointer (some ⟨b2664, 0, none⟩)), (7, .pointer (some ⟨b2678, 0, none⟩)), (19, .slice p2655 x2653.length c2656), (20, .int .i64 (x2653.length : Int)), (21, .int .i64 0)] w2681 (by kernel_rfl) ?_
  refine W_nil ?_
  refine N_then ?_
  obtain ⟨out2784, hw2785, hmo2786⟩ := gx_bind hm
  refine G_meet (fun a w' => ∃ (sg2790 : Seg), ownS encI out2784 p2668 c2669 sg2790 ∧ Mem [] w w' [[(b2664, .cells ⟨[.slice none 0 0, .int .i64 0, .int .i64 0]⟩ 27 (0, 0))], [(b2678, .cells ⟨[.slice p2668 out2784.length c2669, .int .i64 x2652, .int .i64 (gxAnd .i64 (w64 (x2652 + (x2653.length : Int))) 65535)]⟩ 27 (0, 0))], sg2790] ∧ Sat Try.f65.ntmps [(6, .pointer (some ⟨b2664, 0, none⟩)), (7, .pointer (some ⟨b2678, 0, none⟩))] a) ?_ ?_
  · refine G_block ?_
    refine G_while (σ := Int × List Int) (ρ := List Int) (fun s2777 a w' => ∃ (sg2787 : Seg), ownS encI s2777.2 p2668 c2669 sg2787 ∧ Mem [] w w' [[(b2664, .cells ⟨[.slice none 0 0, .int .i64 0, .int .i64 0]⟩ 27 (0, 0))], [(b2678, .cells ⟨[.slice p2668 s2777.2.length c2669, .int .i64 x2652, .int .i64 (gxAnd .i64 (w64 (x2652 + (x2653.length : Int))) 65535)]⟩ 27 (0, 0))], sg2787] ∧ Sat Try.f65.ntmps [(0, .int .i64 x2651), (1, .int .i64 x2652), (6, .pointer (some ⟨b2664, 0, none⟩)), (7, .pointer (some ⟨b2678, 0, none⟩)), (19, .slice p2655 x2653.length c2656), (20, .int .i64 (x2653.length : Int)), (21, .int .i64 s2777.1)] a) hw2785 (fun a ha => ⟨sg2670, ho2672, M2682.pick [0, 2, 1] (by kernel_rfl), ha.sub (by kernel_rfl)⟩) ?_
    clear hm
    intro s2777 x2778 hm hout2779 a2780 w2781 ⟨sg2787, ho2788, M2782, hS2783⟩
    refine G_use hS2783 ?_
    refine G_seq ?_
    refine G_region ?_
    refine W_run 1 [(0, .int .i64 x2651), (1, .int .i64 x2652), (6, .pointer (some ⟨b2664, 0, none⟩)), (7, .pointer (some ⟨b2678, 0, none⟩)), (19, .slice p2655 x2653.length c2656), (20, .int .i64 (x2653.length : Int)), (21, .int .i64 s2777.1), (22, .bool (decide (s2777.1 < (x2653.length : Int))))] w2781 (by kernel_rfl) ?_
    refine W_nil ?_
    refine N_then ?_
    refine G_seq ?_
    rcases gx_bif hm with ⟨hc2792, hm⟩ | ⟨hc2792, hm⟩
    · refine G_cond_t (b := (decide (s2777.1 < (x2653.length : Int)))) hc2792 (by kernel_rfl) ?_
      refine G_skip ?_
      refine N_then ?_
      refine G_seq ?_
      refine G_block ?_
      refine G_seq ?_
      refine G_region ?_
      refine W_run 1 [(0, .int .i64 x2651), (1, .int .i64 x2652), (6, .pointer (some ⟨b2664, 0, none⟩)), (7, .pointer (some ⟨b2678, 0, none⟩)), (19, .slice p2655 x2653.length c2656), (20, .int .i64 (x2653.length : Int)), (21, .int .i64 s2777.1), (23, .int .i64 s2777.1)] w2781 (by kernel_rfl) ?_
      obtain ⟨y2793, hy2793, hm⟩ := gx_bind hm
      refine W_val (elemP p2655 (s2777.1.toNat * 1)) w2781 (by kernel_rfl) (E_index (E := encI) _ _ _ x2653.length c2656 .i64 s2777.1 1 (y := y2793) rfl (by kernel_rfl) (by kernel_rfl) (by kernel_rfl) (h2657.mem0 M2782) rfl hy2793) ?_
      refine W_val (.int .i64 y2793) w2781 (by kernel_rfl) (E_loadE (E := encI) _ _ false 1 s2777.1 0 (s2777.1.toNat * 1) y2793 (.int .i64 y2793) rfl (by kernel_rfl) (by kernel_rfl) (by kernel_rfl) (h2657.mem0 M2782) hy2793 rfl) ?_
      refine W_run 2 [(0, .int .i64 x2651), (1, .int .i64 x2652), (6, .pointer (some ⟨b2664, 0, none⟩)), (7, .pointer (some ⟨b2678, 0, none⟩)), (8, .int .i64 s2777.1), (9, .int .i64 y2793), (19, .slice p2655 x2653.length c2656), (20, .int .i64 (x2653.length : Int)), (21, .int .i64 s2777.1)] w2781 (by kernel_rfl) ?_
      refine W_nil ?_
      refine N_then ?_
      obtain ⟨q2796, hq2796, hm⟩ := gx_bind hm
      refine G_sub [(0, .int .i64 x2651), (1, .int .i64 x2652), (6, .pointer (some ⟨b2664, 0, none⟩)), (7, .pointer (some ⟨b2678, 0, none⟩)), (8, .int .i64 s2777.1), (9, .int .i64 y2793), (19, .slice p2655 x2653.length c2656), (20, .int .i64 (x2653.length : Int)), (21, .int .i64 s2777.1)] (by kernel_rfl) ?_
      refine G_dagL 8 [[], [0], [], [], [2, 3], [], [4, 5], []] [[], [], [], [], [], [], [], []] [[], [], [], [], [], [], [], []] [[], [], [], [], [], [], [], []] [[], [], [], [], [], [], [], []] [[], [], [], [], [], [], [], []] (fun _ => []) (fun i => ([fun f v s => v = (.pointer (some ⟨b2678, 0, none⟩) : Value) ∧ s = [], fun f v s => v = (.slice p2668 s2777.2.length c2669 : Value) ∧ s = [], fun f v s => v = (.int .i64 x2652 : Value) ∧ s = [], fun f v s => v = (.int .i64 s2777.1 : Value) ∧ s = [], fun f v s => v = (.int .i64 (w64 (x2652 + s2777.1)) : Value) ∧ s = [], fun f v s => v = (.int .i64 x2651 : Value) ∧ s = [], fun f v s => v = (.int .i64 q2796 : Value) ∧ s = [], fun f v s => v = (.int .i64 y2793 : Value) ∧ s = []] : List ((Nat → Value) → Value → Seg → Prop)).getD i (fun _ _ _ => False)) (fun j f v => ∃ s, (fun i => ([fun f v s => v = (.pointer (some ⟨b2678, 0, none⟩) : Value) ∧ s = [], fun f v s => v = (.slice p2668 s2777.2.length c2669 : Value) ∧ s = [], fun f v s => v = (.int .i64 x2652 : Value) ∧ s = [], fun f v s => v = (.int .i64 s2777.1 : Value) ∧ s = [], fun f v s => v = (.int .i64 (w64 (x2652 + s2777.1)) : Value) ∧ s = [], fun f v s => v = (.int .i64 x2651 : Value) ∧ s = [], fun f v s => v = (.int .i64 q2796 : Value) ∧ s = [], fun f v s => v = (.int .i64 y2793 : Value) ∧ s = []] : List ((Nat → Value) → Value → Seg → Prop)).getD i (fun _ _ _ => False)) j f v s) [] [1, 6, 7] [] (fun _ _ _ s h => ⟨s, h⟩) (by kernel_rfl) (by kernel_rfl) (M2782.preNil 8) (by kernel_rfl) (by kernel_rfl) (by kernel_rfl) (by kernel_rfl) (allOb_cons ?_ (allOb_cons ?_ (allOb_cons ?_ (allOb_cons ?_ (allOb_cons ?_ (allOb_cons ?_ (allOb_cons ?_ (allOb_cons ?_ allOb_nil)))))))) ?_
      · intro g2794 f2795
        intro R w2797 M2798
        refine W_run 1 [(26, .pointer (some ⟨b2678, 0, none⟩))] w2797 (by kernel_rfl) ?_
        exact W_nil (ob_end (.pointer (some ⟨b2678, 0, none⟩)) [] rfl (by kernel_rfl) ⟨by kernel_rfl, rfl⟩ M2798)
      · intro g2794 f2795
        intro v0_ hb0_
        obtain ⟨rfl, _⟩ := hb0_
        intro R w2801 M2802
        refine W_val (.slice p2668 s2777.2.length c2669) w2801 (by kernel_rfl) (E_load (e := 27) (fr := (0, 0)) _ _ false 1 b2678 0 [.slice p2668 s2777.2.length c2669, .int .i64 x2652, .int .i64 (gxAnd .i64 (w64 (x2652 + (x2653.length : Int))) 65535)] (.slice p2668 s2777.2.length c2669) rfl (by kernel_rfl) (by kernel_rfl) (by kernel_rfl) (M2802.blk 1 (b := b2678) (o := .cells ⟨[.slice p2668 s2777.2.length c2669, .int .i64 x2652, .int .i64 (gxAnd .i64 (w64 (x2652 + (x2653.length : Int))) 65535)]⟩ 27 (0, 0)) (by kernel_rfl))) ?_
        exact W_nil (ob_end (.slice p2668 s2777.2.length c2669) [] rfl (by kernel_rfl) ⟨by kernel_rfl, rfl⟩ M2802)
      · intro g2794 f2795
        intro R w2805 M2806
        refine W_run 1 [(28, .int .i64 x2652)] w2805 (by kernel_rfl) ?_
        exact W_nil (ob_end (.int .i64 x2652) [] rfl (by kernel_rfl) ⟨by kernel_rfl, rfl⟩ M2806)
      · intro g2794 f2795
        intro R w2809 M2810
        refine W_run 1 [(29, .int .i64 s2777.1)] w2809 (by kernel_rfl) ?_
        exact W_nil (ob_end (.int .i64 s2777.1) [] rfl (by kernel_rfl) ⟨by kernel_rfl, rfl⟩ M2810)
      · intro g2794 f2795
        intro v2_ hb2_
        obtain ⟨rfl, _⟩ := hb2_
        intro v3_ hb3_
        obtain ⟨rfl, _⟩ := hb3_
        intro R w2813 M2814
        refine W_run 1 [(30, .int .i64 (w64 (x2652 + s2777.1)))] w2813 (by kernel_rfl) ?_
        exact W_nil (ob_end (.int .i64 (w64 (x2652 + s2777.1))) [] rfl (by kernel_rfl) ⟨by kernel_rfl, rfl⟩ M2814)
      · intro g2794 f2795
        intro R w2817 M2818
        refine W_run 1 [(31, .int .i64 x2651)] w2817 (by kernel_rfl) ?_
        exact W_nil (ob_end (.int .i64 x2651) [] rfl (by kernel_rfl) ⟨by kernel_rfl, rfl⟩ M2818)
      · intro g2794 f2795
        intro v4_ hb4_
        obtain ⟨rfl, _⟩ := hb4_
        intro v5_ hb5_
        obtain ⟨rfl, _⟩ := hb5_
        intro R w2821 M2822
        refine W_val (.int .i64 q2796) w2821 (by kernel_rfl) (E_rem _ _ _ _ (w64 (x2652 + s2777.1)) x2651 q2796 rfl (by kernel_rfl) (by kernel_rfl) hq2796) ?_
        exact W_nil (ob_end (.int .i64 q2796) [] rfl (by kernel_rfl) ⟨by kernel_rfl, rfl⟩ M2822)
      · intro g2794 f2795
        intro R w2825 M2826
        refine W_run 1 [(33, .int .i64 y2793)] w2825 (by kernel_rfl) ?_
        exact W_nil (ob_end (.int .i64 y2793) [] rfl (by kernel_rfl) ⟨by kernel_rfl, rfl⟩ M2826)
      · intro g2794 f2795
        intro v1_ hb1_
        obtain ⟨rfl, _⟩ := hb1_
        intro v6_ hb6_
        obtain ⟨rfl, _⟩ := hb6_
        intro v7_ hb7_
        obtain ⟨rfl, _⟩ := hb7_
        intro w2829 M2830
        have M2831 : Mem [] w w2829 [[(b2664, .cells ⟨[.slice none 0 0, .int .i64 0, .int .i64 0]⟩ 27 (0, 0))], [(b2678, .cells ⟨[.slice p2668 s2777.2.length c2669, .int .i64 x2652, .int .i64 (gxAnd .i64 (w64 (x2652 + (x2653.length : Int))) 65535)]⟩ 27 (0, 0))], sg2787] := M2830
        obtain ⟨y2832, hy2832, hm⟩ := gx_bind hm
        refine W_val (elemP p2668 (q2796.toNat * 1)) w2829 (by kernel_rfl) (E_index (E := encI) _ _ _ s2777.2.length c2669 .i64 q2796 1 (y := y2832) rfl (by kernel_rfl) (by kernel_rfl) (by kernel_rfl) (ho2788.rd M2831 2 (by kernel_rfl)) rfl hy2832) ?_
        refine W_storeE (E := encI) _ _ _ false 1 q2796.toNat 0 (q2796.toNat * 1) y2832 y2793 (.int .i64 y2793) 2 M2831 ho2788 (by kernel_rfl) (by kernel_rfl) rfl (by kernel_rfl) (by kernel_rfl) (by kernel_rfl) (by kernel_rfl) (by kernel_rfl) (by kernel_rfl) (by kernel_rfl) (gxIdx_spec hy2832).2 rfl ?_
        intro w2833 sg2835 ho2836 M2834
        refine W_conv 27 (.slice p2668 s2777.2.length c2669) (.slice p2668 (s2777.2.set q2796.toNat y2793).length c2669) (by kernel_rfl) (by rw [List.length_set]) ?_
        have M2837 : Mem [] w w2833 [[(b2664, .cells ⟨[.slice none 0 0, .int .i64 0, .int .i64 0]⟩ 27 (0, 0))], [(b2678, .cells ⟨[.slice p2668 (s2777.2.set q2796.toNat y2793).length c2669, .int .i64 x2652, .int .i64 (gxAnd .i64 (w64 (x2652 + (x2653.length : Int))) 65535)]⟩ 27 (0, 0))], sg2835] := by rw [List.length_set]; exact M2834
        refine W_nil ?_
        refine N_block ?_
        refine N_then ?_
        refine G_region ?_
        refine W_run 2 [(0, .int .i64 x2651), (1, .int .i64 x2652), (6, .pointer (some ⟨b2664, 0, none⟩)), (7, .pointer (some ⟨b2678, 0, none⟩)), (19, .slice p2655 x2653.length c2656), (20, .int .i64 (x2653.length : Int)), (21, .int .i64 (w64 (s2777.1 + 1)))] w2833 (by kernel_rfl) ?_
        refine W_nil ?_
        obtain rfl := Option.some.inj hm
        exact N_loop fun a ha => ⟨_, rfl, sg2835, ho2836, M2837.pick [0, 1, 2] (by kernel_rfl), ha.sub (by kernel_rfl)⟩
    · refine G_cond_f (b := (decide (s2777.1 < (x2653.length : Int)))) hc2792 (by kernel_rfl) ?_
      refine G_exit ?_
      refine N_then_exit ?_
      refine N_then_exit ?_
      refine N_block_eq ?_
      obtain rfl := Option.some.inj hm
      obtain rfl := hout2779 _ rfl
      exact N_meet fun a ha => ⟨sg2787, ho2788, M2782.pick [0, 1, 2] (by kernel_rfl), ha.sub (by kernel_rfl)⟩
  · intro a2838 w2839 ⟨sg2790, ho2791, M2840, hS2841⟩
    refine N_use hS2841 ?_
    have hm := hmo2786
    refine N_then ?_
    refine G_seq ?_
    refine G_region ?_
    refine W_val (.agg #[.slice p2668 out2784.length c2669, .int .i64 x2652, .int .i64 (gxAnd .i64 (w64 (x2652 + (x2653.length : Int))) 65535)]) w2839 (by kernel_rfl) (E_load (e := 27) (fr := (0, 0)) _ _ true 3 b2678 0 [.slice p2668 out2784.length c2669, .int .i64 x2652, .int .i64 (gxAnd .i64 (w64 (x2652 + (x2653.length : Int))) 65535)] (.agg #[.slice p2668 out2784.length c2669, .int .i64 x2652, .int .i64 (gxAnd .i64 (w64 (x2652 + (x2653.length : Int))) 65535)]) rfl (by kernel_rfl) (by kernel_rfl) (by kernel_rfl) (M2840.blk 1 (b := b2678) (o := .cells ⟨[.slice p2668 out2784.length c2669, .int .i64 x2652, .int .i64 (gxAnd .i64 (w64 (x2652 + (x2653.length : Int))) 65535)]⟩ 27 (0, 0)) (by kernel_rfl))) ?_
    refine W_store _ _ _ true 3 b2664 0 [.slice none 0 0, .int .i64 0, .int .i64 0] 27 (.agg #[.slice p2668 out2784.length c2669, .int .i64 x2652, .int .i64 (gxAnd .i64 (w64 (x2652 + (x2653.length : Int))) 65535)]) 0 [.slice p2668 out2784.length c2669, .int .i64 x2652, .int .i64 (gxAnd .i64 (w64 (x2652 + (x2653.length : Int))) 65535)] M2840 (by kernel_rfl) rfl (by kernel_rfl) (by kernel_rfl) (by kernel_rfl) (by kernel_rfl) (by kernel_rfl) (by kernel_rfl) (by kernel_rfl) (by kernel_rfl) ?_
    intro w2842 M2843
    refine W_nil ?_
    refine N_then ?_
    refine G_ret ?_
    obtain rfl := Option.some.inj hm
    refine N_ret [.agg #[.slice p2668 out2784.length c2669, .int .i64 x2652, .int .i64 (gxAnd .i64 (w64 (x2652 + (x2653.length : Int))) 65535)]] (RVs_cons (RV_cell (g := true) (k := 3) (b := b2664) (off := 0) (cs := [.slice p2668 out2784.length c2669, .int .i64 x2652, .int .i64 (gxAnd .i64 (w64 (x2652 + (x2653.length : Int))) 65535)]) (e := 27) (fr := (0, 0)) (v := .agg #[.slice p2668 out2784.length c2669, .int .i64 x2652, .int .i64 (gxAnd .i64 (w64 (x2652 + (x2653.length : Int))) 65535)]) (M2843.blk 0 (b := b2664) (o := .cells ⟨[.slice p2668 out2784.length c2669, .int .i64 x2652, .int .i64 (gxAnd .i64 (w64 (x2652 + (x2653.length : Int))) 65535)]⟩ 27 (0, 0)) (by kernel_rfl)) (by kernel_rfl) (by kernel_rfl) (by kernel_rfl)) RVs_nil) ?_
    exact ⟨p2668, c2669, sg2790, rfl, ho2791, M2843.pick [2] (by kernel_rfl)⟩
theorem c_i_copyInts (w : World) (x2916 : List Int) (p2918 : Option Addr) (c2919 : Nat) (h2920 : rdS encI w x2916 p2918 c2919) {r : (List Int)} (hm : M.i_copyInts x2916 = some r) :
    Calls Try.prog 66 #[.slice p2918 x2916.length c2919] w fun e w' => ∃ (p2922 : Option Addr) (c2923 : Nat) (sg2924 : Seg), e = .returned (.slice p2922 r.length c2923) ∧ ownS encI r p2922 c2923 sg2924 ∧ Mem [] w w' [sg2924] := by
  unfold M.i_copyInts at hm
  refine C_enter Try.func66 rfl (by kernel_rfl) ?_
  have M0 := Mem.refl [] w
  refine G_seq ?_
  refine G_region ?_
  refine W_run 1 [(0, .slice p2918 x2916.length c2919)] w (by kernel_rfl) ?_
  refine W_nil ?_
  refine N_then ?_
  refine G_seq ?_
  refine G_region ?_
  refine W_lit (E := encI) ([] : List Int) 0 [] 3 M0 (by kernel_rfl) (by kernel_rfl) (by kernel_rfl) (by kernel_rfl) (by kernel_rfl) ?_
  intro p2926 c2927 sg2928 w2929 ho2930 M2931
  refine W_run 1 [(3, .slice p2926 ([] : List Int).length c2927), (4, .slice p2918 x2916.length c2919)] w2929 (by kernel_rfl) ?_
  obtain ⟨ap2933, hap2933, hm⟩ := gx_bind hm
  refine W_append (E := encI) _ _ _ 8 [.int .i64 0] 0 c2919 M2931 ho2930 (by kernel_rfl) (by kernel_rfl) (by kernel_rfl) rfl (by kernel_rfl) (by kernel_rfl) (by kernel_rfl) (by kernel_rfl) (by kernel_rfl) (by kernel_rfl) (h2920.mem0 M2931) hap2933 ?_
  intro p2934 c2935 sg2936 w2937 ho2938 M2939
  refine W_run 1 [(2, .slice p2934 ap2933.length c2935)] w2937 (by kernel_rfl) ?_
  refine W_nil ?_
  refine N_then ?_
  refine G_ret ?_
  obtain rfl := Option.some.inj hm
  refine N_ret [.slice p2934 ap2933.length c2935] (RVs_cons (RV_tmp (by kernel_rfl)) RVs_nil) ?_
  exact ⟨p2934, c2935, sg2936, rfl, ho2938, M2939.pick [0] (by kernel_rfl)⟩
theorem c_i_TakeWords (w : World) (x2559 : Ring) (p2561 : Option Addr) (c2562 : Nat) (h2563 : rdS encI w x2559.Items p2561 c2562) (x2564 : Int) {r : Ring × (List Int) × Bool} (hm : M.i_TakeWords x2559 x2564 = some r) :
    Calls Try.prog 31 #[.agg #[.slice p2561 x2559.Items.length c2562, .int .i64 x2559.Head, .int .i64 x2559.Tail], .int .i64 x2564] w fun e w' => ∃ (p2566 : Option Addr) (c2567 : Nat) (sg2568 : Seg), ∃ (p2570 : Option Addr) (c2571 : Nat) (sg2572 : Seg), e = .returned (.tuple #[.agg #[.slice p2566 r.1.Items.length c2567, .int .i64 r.1.Head, .int .i64 r.1.Tail], .slice p2570 r.2.1.length c2571, .bool r.2.2]) ∧ ownS encI r.1.Items p2566 c2567 sg2568 ∧ ownS encI r.2.1 p2570 c2571 sg2572 ∧ Mem [] w w' [sg2568, sg2572] := by
  unfold M.i_TakeWords at hm
  refine C_enter Try.func31 rfl (by kernel_rfl) ?_
  have M0 := Mem.refl [] w
  refine G_seq ?_
  refine G_region ?_
  refine W_new (fun b => .pointer (some ⟨b, 0, none⟩)) (.cells ⟨[.slice p2561 x2559.Items.length c2562, .int .i64 x2559.Head, .int .i64 x2559.Tail]⟩ 27 (0, 0)) M0 rfl (by kernel_rfl) (by kernel_rfl) ?_
  intro b2574 w2575 M2576
  refine W_new (fun b => .pointer (some ⟨b, 0, none⟩)) (.cells ⟨[.slice none 0 0, .int .i64 0, .int .i64 0]⟩ 27 (0, 0)) M2576 rfl (by kernel_rfl) (by kernel_rfl) ?_
  intro b2579 w2580 M2581
  refine W_run 2 [(1, .int .i64 x2564), (2, .pointer (some ⟨b2574, 0, none⟩)), (4, .pointer (some ⟨b2579, 0, none⟩))] w2580 (by kernel_rfl) ?_
  refine W_nil ?_
  refine N_then ?_
  refine G_seq ?_
  refine G_seq ?_
  obtain ⟨o2588, ho2589, hm2590⟩ := gx_bind hm
  refine G_meet (fun a w' => Mem [] w w' [[(b2574, .cells ⟨[.slice p2561 x2559.Items.length c2562, .int .i64 x2559.Head, .int .i64 x2559.Tail]⟩ 27 (0, 0))], [(b2579, .cells ⟨[.slice none 0 0, .int .i64 0, .int .i64 0]⟩ 27 (0, 0))]] ∧ Sat Try.f31.ntmps [(1, .int .i64 x2564), (2, .pointer (some ⟨b2574, 0, none⟩)), (4, .pointer (some ⟨b2579, 0, none⟩)), (15, .bool o2588)] a) ?_ ?_
  · have hm := ho2589
    refine G_region ?_
    refine W_val (.agg #[.slice p2561 x2559.Items.length c2562, .int .i64 x2559.Head, .int .i64 x2559.Tail]) w2580 (by kernel_rfl) (E_load (e := 27) (fr := (0, 0)) _ _ true 3 b2574 0 [.slice p2561 x2559.Items.length c2562, .int .i64 x2559.Head, .int .i64 x2559.Tail] (.agg #[.slice p2561 x2559.Items.length c2562, .int .i64 x2559.Head, .int .i64 x2559.Tail]) rfl (by kernel_rfl) (by kernel_rfl) (by kernel_rfl) (M2581.blk 0 (b := b2574) (o := .cells ⟨[.slice p2561 x2559.Items.length c2562, .int .i64 x2559.Head, .int .i64 x2559.Tail]⟩ 27 (0, 0)) (by kernel_rfl))) ?_
    obtain ⟨r2591, hr2591, hm⟩ := gx_bind hm
    refine W_call 24 #[.agg #[.slice p2561 x2559.Items.length c2562, .int .i64 x2559.Head, .int .i64 x2559.Tail]] (by kernel_rfl) (by kernel_rfl) ?_
    refine (c_i_IsRing w2580 x2559 p2561 c2562 (h2563.mem0 M2581) hr2591).mono ?_
    rintro e_ w2592 ⟨rfl, K2593⟩
    have M2594 := M2581.call0 K2593
    refine ⟨_, rfl, ?_⟩
    refine W_run 2 [(1, .int .i64 x2564), (2, .pointer (some ⟨b2574, 0, none⟩)), (4, .pointer (some ⟨b2579, 0, none⟩)), (12, .bool (!r2591))] w2592 (by kernel_rfl) ?_
    rcases gx_bif hm with ⟨hc2595, hm⟩ | ⟨hc2595, hm⟩
    · refine W_known 12 true (by kernel_rfl) hc2595 ?_
      refine W_run 3 [(1, .int .i64 x2564), (2, .pointer (some ⟨b2574, 0, none⟩)), (4, .pointer (some ⟨b2579, 0, none⟩)), (15, .bool true)] w2592 (by kernel_rfl) ?_
      refine W_nil ?_
      obtain rfl := Option.some.inj hm
      exact N_meet fun a ha => ⟨M2594.pick [0, 1] (by kernel_rfl), ha.sub (by kernel_rfl)⟩
    · refine W_known 12 false (by kernel_rfl) hc2595 ?_
      refine W_run 3 [(1, .int .i64 x2564), (2, .pointer (some ⟨b2574, 0, none⟩)), (4, .pointer (some ⟨b2579, 0, none⟩)), (15, .bool (decide (x2564 < 0)))] w2592 (by kernel_rfl) ?_
      refine W_nil ?_
      obtain rfl := Option.some.inj hm
      exact N_meet fun a ha => ⟨M2594.pick [0, 1] (by kernel_rfl), ha.sub (by kernel_rfl)⟩
  · intro a2598 w2596 ⟨M2597, hS2599⟩
    refine N_use hS2599 ?_
    have hm := hm2590
    refine N_then ?_
    rcases gx_bif hm with ⟨hc2600, hm⟩ | ⟨hc2600, hm⟩
    · refine G_cond_t (b := o2588) hc2600 (by kernel_rfl) ?_
      refine G_seq ?_
      refine G_region ?_
      refine W_run 1 [(4, .pointer (some ⟨b2579, 0, none⟩)), (16, .agg #[.slice none 0 0, .int .i64 0, .int .i64 0])] w2596 (by kernel_rfl) ?_
      refine W_store _ _ _ true 3 b2579 0 [.slice none 0 0, .int .i64 0, .int .i64 0] 27 (.agg #[.slice none 0 0, .int .i64 0, .int .i64 0]) 1 [.slice none 0 0, .int .i64 0, .int .i64 0] M2597 (by kernel_rfl) rfl (by kernel_rfl) (by kernel_rfl) (by kernel_rfl) (by kernel_rfl) (by kernel_rfl) (by kernel_rfl) (by kernel_rfl) (by kernel_rfl) ?_
      intro w2602 M2603
      refine W_run 2 [(4, .pointer (some ⟨b2579, 0, none⟩)), (5, .slice none 0 0), (6, .bool false)] w2602 (by kernel_rfl) ?_
      refine W_nil ?_
      refine N_then ?_
      refine G_ret ?_
      refine N_then_ret ?_
      obtain rfl := Option.some.inj hm
      refine N_ret [.agg #[.slice none 0 0, .int .i64 0, .int .i64 0], .slice none 0 0, .bool false] (RVs_cons (RV_cell (g := true) (k := 3) (b := b2579) (off := 0) (cs := [.slice none 0 0, .int .i64 0, .int .i64 0]) (e := 27) (fr := (0, 0)) (v := .agg #[.slice none 0 0, .int .i64 0, .int .i64 0]) (M2603.blk 1 (b := b2579) (o := .cells ⟨[.slice none 0 0, .int .i64 0, .int .i64 0]⟩ 27 (0, 0)) (by kernel_rfl)) (by kernel_rfl) (by kernel_rfl) (by kernel_rfl)) (RVs_cons (RV_tmp (by kernel_rfl)) (RVs_cons (RV_tmp (by kernel_rfl)) RVs_nil))) ?_
      exact ⟨none, 0, [], none, 0, [], rfl, ownS_nil, ownS_nil, M2603.pick [100000, 100001] (by kernel_rfl)⟩
    · refine G_cond_f (b := o2588) hc2600 (by kernel_rfl) ?_
      refine G_skip ?_
      refine N_then ?_
      refine G_seq ?_
      obtain ⟨r2607, hr2607, hm⟩ := gx_bind hm
      obtain ⟨r2613, hr2613, hm⟩ := gx_bind hm
      refine G_sub [(1, .int .i64 x2564), (2, .pointer (some ⟨b2574, 0, none⟩)), (4, .pointer (some ⟨b2579, 0, none⟩)), (15, .bool o2588)] (by kernel_rfl) ?_
      refine G_dagL 7 [[], [0], [], [], [3], [2, 4], []] [[], [], [], [], [], [], []] [[], [], [], [], [], [], []] [[], [], [], [], [], [], [1]] [[], [], [], [], [], [], [1]] [[], [], [], [], [], [], []] (fun _ => []) (fun i => ([fun f v s => v = (.agg #[.slice p2561 x2559.Items.length c2562, .int .i64 x2559.Head, .int .i64 x2559.Tail] : Value) ∧ s = [], fun f v s => ∃ (p2609 : Option Addr) (c2610 : Nat), v = (.slice p2609 r2607.length c2610 : Value) ∧ ownS encI r2607 p2609 c2610 s, fun f v s => v = (.int .i64 x2564 : Value) ∧ s = [], fun f v s => v = (.agg #[.slice p2561 x2559.Items.length c2562, .int .i64 x2559.Head, .int .i64 x2559.Tail] : Value) ∧ s = [], fun f v s => v = (.int .i64 r2613 : Value) ∧ s = [], fun f v s => v = (.int .i64 (gxMin x2564 r2613) : Value) ∧ s = [], fun f v s => v = ((atPath (f 1) []) : Value) ∧ s = []] : List ((Nat → Value) → Value → Seg → Prop)).getD i (fun _ _ _ => False)) (fun j f v => ∃ s, (fun i => ([fun f v s => v = (.agg #[.slice p2561 x2559.Items.length c2562, .int .i64 x2559.Head, .int .i64 x2559.Tail] : Value) ∧ s = [], fun f v s => ∃ (p2609 : Option Addr) (c2610 : Nat), v = (.slice p2609 r2607.length c2610 : Value) ∧ ownS encI r2607 p2609 c2610 s, fun f v s => v = (.int .i64 x2564 : Value) ∧ s = [], fun f v s => v = (.agg #[.slice p2561 x2559.Items.length c2562, .int .i64 x2559.Head, .int .i64 x2559.Tail] : Value) ∧ s = [], fun f v s => v = (.int .i64 r2613 : Value) ∧ s = [], fun f v s => v = (.int .i64 (gxMin x2564 r2613) : Value) ∧ s = [], fun f v s => v = ((atPath (f 1) []) : Value) ∧ s = []] : List ((Nat → Value) → Value → Seg → Prop)).getD i (fun _ _ _ => False)) j f v s) [] [1, 5, 6] [1] (fun _ _ _ s h => ⟨s, h⟩) (by kernel_rfl) (by kernel_rfl) (M2597.preNil 7) (by kernel_rfl) (by kernel_rfl) (by kernel_rfl) (by kernel_rfl) (allOb_cons ?_ (allOb_cons ?_ (allOb_cons ?_ (allOb_cons ?_ (allOb_cons ?_ (allOb_cons ?_ (allOb_cons ?_ allOb_nil))))))) ?_
      · intro g2605 f2606
        intro R w2614 M2615
        refine W_val (.agg #[.slice p2561 x2559.Items.length c2562, .int .i64 x2559.Head, .int .i64 x2559.Tail]) w2614 (by kernel_rfl) (E_load (e := 27) (fr := (0, 0)) _ _ true 3 b2574 0 [.slice p2561 x2559.Items.length c2562, .int .i64 x2559.Head, .int .i64 x2559.Tail] (.agg #[.slice p2561 x2559.Items.length c2562, .int .i64 x2559.Head, .int .i64 x2559.Tail]) rfl (by kernel_rfl) (by kernel_rfl) (by kernel_rfl) (M2615.blk 0 (b := b2574) (o := .cells ⟨[.slice p2561 x2559.Items.length c2562, .int .i64 x2559.Head, .int .i64 x2559.Tail]⟩ 27 (0, 0)) (by kernel_rfl))) ?_
        exact W_nil (ob_end (.agg #[.slice p2561 x2559.Items.length c2562, .int .i64 x2559.Head, .int .i64 x2559.Tail]) [] rfl (by kernel_rfl) ⟨by kernel_rfl, rfl⟩ M2615)
      · intro g2605 f2606
        intro v0_ hb0_
        obtain ⟨rfl, _⟩ := hb0_
        intro R w2618 M2619
        refine W_call 61 #[.agg #[.slice p2561 x2559.Items.length c2562, .int .i64 x2559.Head, .int .i64 x2559.Tail]] (by kernel_rfl) (by kernel_rfl) ?_
        refine (c_i_ringWords w2618 x2559 p2561 c2562 (h2563.mem0 M2619) hr2607).mono ?_
        rintro e_ w2620 ⟨p2609, c2610, sg2611, rfl, ho2612, K2622⟩
        refine ⟨_, rfl, ?_⟩
        exact W_nil (ob_end (.slice p2609 r2607.length c2610) sg2611 rfl (by kernel_rfl) ⟨p2609, c2610, rfl, ho2612⟩ (Mem.callMid M2619 K2622))
      · intro g2605 f2606
        intro R w2623 M2624
        refine W_run 1 [(19, .int .i64 x2564)] w2623 (by kernel_rfl) ?_
        exact W_nil (ob_end (.int .i64 x2564) [] rfl (by kernel_rfl) ⟨by kernel_rfl, rfl⟩ M2624)
      · intro g2605 f2606
        intro R w2627 M2628
        refine W_val (.agg #[.slice p2561 x2559.Items.length c2562, .int .i64 x2559.Head, .int .i64 x2559.Tail]) w2627 (by kernel_rfl) (E_load (e := 27) (fr := (0, 0)) _ _ true 3 b2574 0 [.slice p2561 x2559.Items.length c2562, .int .i64 x2559.Head, .int .i64 x2559.Tail] (.agg #[.slice p2561 x2559.Items.length c2562, .int .i64 x2559.Head, .int .i64 x2559.Tail]) rfl (by kernel_rfl) (by kernel_rfl) (by kernel_rfl) (M2628.blk 0 (b := b2574) (o := .cells ⟨[.slice p2561 x2559.Items.length c2562, .int .i64 x2559.Head, .int .i64 x2559.Tail]⟩ 27 (0, 0)) (by kernel_rfl))) ?_
        exact W_nil (ob_end (.agg #[.slice p2561 x2559.Items.length c2562, .int .i64 x2559.Head, .int .i64 x2559.Tail]) [] rfl (by kernel_rfl) ⟨by kernel_rfl, rfl⟩ M2628)
      · intro g2605 f2606
        intro v3_ hb3_
        obtain ⟨rfl, _⟩ := hb3_
        intro R w2631 M2632
        refine W_call 59 #[.agg #[.slice p2561 x2559.Items.length c2562, .int .i64 x2559.Head, .int .i64 x2559.Tail]] (by kernel_rfl) (by kernel_rfl) ?_
        refine (c_i_Ring_count w2631 x2559 p2561 c2562 (h2563.mem0 M2632) hr2613).mono ?_
        rintro e_ w2633 ⟨rfl, K2635⟩
        refine ⟨_, rfl, ?_⟩
        exact W_nil (ob_end (.int .i64 r2613) [] rfl (by kernel_rfl) ⟨rfl, rfl⟩ (M2632.call0 K2635))
      · intro g2605 f2606
        intro v2_ hb2_
        obtain ⟨rfl, _⟩ := hb2_
        intro v4_ hb4_
        obtain ⟨rfl, _⟩ := hb4_
        intro R w2636 M2637
        refine W_run 1 [(22, .int .i64 (gxMin x2564 r2613))] w2636 (by kernel_rfl) ?_
        exact W_nil (ob_end (.int .i64 (gxMin x2564 r2613)) [] rfl (by kernel_rfl) ⟨by kernel_rfl, rfl⟩ M2637)
      · intro g2605 f2606
        intro v1_ hb1_
        obtain ⟨_, p2609, c2610, rfl, _⟩ := hb1_
        intro R w2640 M2641
        refine W_run 1 [(7, .slice p2609 r2607.length c2610)] w2640 (by kernel_rfl) ?_
        exact W_nil (ob_end (.slice p2609 r2607.length c2610) [] rfl (by kernel_rfl) ⟨by kernel_rfl, rfl⟩ M2641)
      · intro g2605 f2606
        intro v1_ hb1_
        obtain ⟨p2609, c2610, rfl, ho2612⟩ := hb1_
        intro v5_ hb5_
        obtain ⟨rfl, _⟩ := hb5_
        intro v6_ hb6_
        obtain ⟨hv6_, _⟩ := hb6_
        obtain rfl : v6_ = (.slice p2609 r2607.length c2610 : Value) := hv6_.trans (by kernel_rfl)
        intro w2644 M2645
        have M2646 : Mem [] w w2644 [[(b2574, .cells ⟨[.slice p2561 x2559.Items.length c2562, .int .i64 x2559.Head, .int .i64 x2559.Tail]⟩ 27 (0, 0))], [(b2579, .cells ⟨[.slice none 0 0, .int .i64 0, .int .i64 0]⟩ 27 (0, 0))], (g2605 1)] := M2645
        refine W_run 1 [(2, .pointer (some ⟨b2574, 0, none⟩)), (4, .pointer (some ⟨b2579, 0, none⟩)), (7, .slice p2609 r2607.length c2610), (8, .int .i64 (gxMin x2564 r2613))] w2644 (by kernel_rfl) ?_
        refine W_nil ?_
        refine N_then ?_
        refine G_seq ?_
        obtain ⟨ys2649, hys2649, hm⟩ := gx_bind hm
        obtain ⟨r2844, hr2844, hm⟩ := gx_bind hm
        obtain ⟨ys2850, hys2850, hm⟩ := gx_bind hm
        refine G_sub [(2, .pointer (some ⟨b2574, 0, none⟩)), (4, .pointer (some ⟨b2579, 0, none⟩)), (7, .slice p2609 r2607.length c2610), (8, .int .i64 (gxMin x2564 r2613))] (by kernel_rfl) ?_
        refine G_dagL 15 [[], [0], [1], [], [3], [], [4, 5], [6], [], [], [8, 9], [2, 7, 10], [], [], [12, 13]] [[], [], [], [], [], [], [], [], [], [], [], [], [], [], []] [[], [], [], [], [], [], [], [], [], [], [], [], [], [], []] [[], [], [], [], [], [], [], [], [], [], [], [], [], [], []] [[], [], [], [], [], [], [], [], [], [], [], [], [], [], []] [[], [], [], [], [], [], [], [], [], [], [], [], [], [], []] (fun _ => []) (fun i => ([fun f v s => v = (.pointer (some ⟨b2574, 0, none⟩) : Value) ∧ s = [], fun f v s => v = (.slice p2561 x2559.Items.length c2562 : Value) ∧ s = [], fun f v s => v = (.int .i64 (x2559.Items.length : Int) : Value) ∧ s = [], fun f v s => v = (.pointer (some ⟨b2574, 1, none⟩) : Value) ∧ s = [], fun f v s => v = (.int .i64 x2559.Head : Value) ∧ s = [], fun f v s => v = (.int .i64 (gxMin x2564 r2613) : Value) ∧ s = [], fun f v s => v = (.int .i64 (w64 (x2559.Head + (gxMin x2564 r2613))) : Value) ∧ s = [], fun f v s => v = (.int .i64 (gxAnd .i64 (w64 (x2559.Head + (gxMin x2564 r2613))) 65535) : Value) ∧ s = [], fun f v s => v = (.slice p2609 r2607.length c2610 : Value) ∧ s = [], fun f v s => v = (.int .i64 (gxMin x2564 r2613) : Value) ∧ s = [], fun f v s => v = (.slice (subP p2609 (gxMin x2564 r2613).toNat c2610 1) ys2649.length (c2610 - (gxMin x2564 r2613).toNat) : Value) ∧ s = [], fun f v s => ∃ (p2846 : Option Addr) (c2847 : Nat), v = (.agg #[.slice p2846 r2844.Items.length c2847, .int .i64 r2844.Head, .int .i64 r2844.Tail] : Value) ∧ ownS encI r2844.Items p2846 c2847 s, fun f v s => v = (.slice p2609 r2607.length c2610 : Value) ∧ s = [], fun f v s => v = (.int .i64 (gxMin x2564 r2613) : Value) ∧ s = [], fun f v s => v = (.slice (subP p2609 (0 : Int).toNat c2610 1) ys2850.length (c2610 - (0 : Int).toNat) : Value) ∧ s = []] : List ((Nat → Value) → Value → Seg → Prop)).getD i (fun _ _ _ => False)) (fun j f v => ∃ s, (fun i => ([fun f v s => v = (.pointer (some ⟨b2574, 0, none⟩) : Value) ∧ s = [], fun f v s => v = (.slice p2561 x2559.Items.length c2562 : Value) ∧ s = [], fun f v s => v = (.int .i64 (x2559.Items.length : Int) : Value) ∧ s = [], fun f v s => v = (.pointer (some ⟨b2574, 1, none⟩) : Value) ∧ s = [], fun f v s => v = (.int .i64 x2559.Head : Value) ∧ s = [], fun f v s => v = (.int .i64 (gxMin x2564 r2613) : Value) ∧ s = [], fun f v s => v = (.int .i64 (w64 (x2559.Head + (gxMin x2564 r2613))) : Value) ∧ s = [], fun f v s => v = (.int .i64 (gxAnd .i64 (w64 (x2559.Head + (gxMin x2564 r2613))) 65535) : Value) ∧ s = [], fun f v s => v = (.slice p2609 r2607.length c2610 : Value) ∧ s = [], fun f v s => v = (.int .i64 (gxMin x2564 r2613) : Value) ∧ s = [], fun f v s => v = (.slice (subP p2609 (gxMin x2564 r2613).toNat c2610 1) ys2649.length (c2610 - (gxMin x2564 r2613).toNat) : Value) ∧ s = [], fun f v s => ∃ (p2846 : Option Addr) (c2847 : Nat), v = (.agg #[.slice p2846 r2844.Items.length c2847, .int .i64 r2844.Head, .int .i64 r2844.Tail] : Value) ∧ ownS encI r2844.Items p2846 c2847 s, fun f v s => v = (.slice p2609 r2607.length c2610 : Value) ∧ s = [], fun f v s => v = (.int .i64 (gxMin x2564 r2613) : Value) ∧ s = [], fun f v s => v = (.slice (subP p2609 (0 : Int).toNat c2610 1) ys2850.length (c2610 - (0 : Int).toNat) : Value) ∧ s = []] : List ((Nat → Value) → Value → Seg → Prop)).getD i (fun _ _ _ => False)) j f v s) [] [11, 14] [11] (fun _ _ _ s h => ⟨s, h⟩) (by kernel_rfl) (by kernel_rfl) (M2646.preNil 15) (by kernel_rfl) (by kernel_rfl) (by kernel_rfl) (by kernel_rfl) (allOb_cons ?_ (allOb_cons ?_ (allOb_cons ?_ (allOb_cons ?_ (allOb_cons ?_ (allOb_cons ?_ (allOb_cons ?_ (allOb_cons ?_ (allOb_cons ?_ (allOb_cons ?_ (allOb_cons ?_ (allOb_cons ?_ (allOb_cons ?_ (allOb_cons ?_ (allOb_cons ?_ allOb_nil))))))))))))))) ?_
        · intro g2647 f2648
          intro R w2852 M2853
          refine W_run 1 [(23, .pointer (some ⟨b2574, 0, none⟩))] w2852 (by kernel_rfl) ?_
          exact W_nil (ob_end (.pointer (some ⟨b2574, 0, none⟩)) [] rfl (by kernel_rfl) ⟨by kernel_rfl, rfl⟩ M2853)
        · intro g2647 f2648
          intro v0_ hb0_
          obtain ⟨rfl, _⟩ := hb0_
          intro R w2856 M2857
          refine W_val (.slice p2561 x2559.Items.length c2562) w2856 (by kernel_rfl) (E_load (e := 27) (fr := (0, 0)) _ _ false 1 b2574 0 [.slice p2561 x2559.Items.length c2562, .int .i64 x2559.Head, .int .i64 x2559.Tail] (.slice p2561 x2559.Items.length c2562) rfl (by kernel_rfl) (by kernel_rfl) (by kernel_rfl) (M2857.blk 0 (b := b2574) (o := .cells ⟨[.slice p2561 x2559.Items.length c2562, .int .i64 x2559.Head, .int .i64 x2559.Tail]⟩ 27 (0, 0)) (by kernel_rfl))) ?_
          exact W_nil (ob_end (.slice p2561 x2559.Items.length c2562) [] rfl (by kernel_rfl) ⟨by kernel_rfl, rfl⟩ M2857)
        · intro g2647 f2648
          intro v1_ hb1_
          obtain ⟨rfl, _⟩ := hb1_
          intro R w2860 M2861
          refine W_run 1 [(25, .int .i64 (x2559.Items.length : Int))] w2860 (by kernel_rfl) ?_
          exact W_nil (ob_end (.int .i64 (x2559.Items.length : Int)) [] rfl (by kernel_rfl) ⟨by kernel_rfl, rfl⟩ M2861)
        · intro g2647 f2648
          intro R w2864 M2865
          refine W_run 1 [(26, .pointer (some ⟨b2574, 1, none⟩))] w2864 (by kernel_rfl) ?_
          exact W_nil (ob_end (.pointer (some ⟨b2574, 1, none⟩)) [] rfl (by kernel_rfl) ⟨by kernel_rfl, rfl⟩ M2865)
        · intro g2647 f2648
          intro v3_ hb3_
          obtain ⟨rfl, _⟩ := hb3_
          intro R w2868 M2869
          refine W_val (.int .i64 x2559.Head) w2868 (by kernel_rfl) (E_load (e := 27) (fr := (0, 0)) _ _ false 1 b2574 1 [.slice p2561 x2559.Items.length c2562, .int .i64 x2559.Head, .int .i64 x2559.Tail] (.int .i64 x2559.Head) rfl (by kernel_rfl) (by kernel_rfl) (by kernel_rfl) (M2869.blk 0 (b := b2574) (o := .cells ⟨[.slice p2561 x2559.Items.length c2562, .int .i64 x2559.Head, .int .i64 x2559.Tail]⟩ 27 (0, 0)) (by kernel_rfl))) ?_
          exact W_nil (ob_end (.int .i64 x2559.Head) [] rfl (by kernel_rfl) ⟨by kernel_rfl, rfl⟩ M2869)
        · intro g2647 f2648
          intro R w2872 M2873
          refine W_run 1 [(28, .int .i64 (gxMin x2564 r2613))] w2872 (by kernel_rfl) ?_
          exact W_nil (ob_end (.int .i64 (gxMin x2564 r2613)) [] rfl (by kernel_rfl) ⟨by kernel_rfl, rfl⟩ M2873)
        · intro g2647 f2648
          intro v4_ hb4_
          obtain ⟨rfl, _⟩ := hb4_
          intro v5_ hb5_
          obtain ⟨rfl, _⟩ := hb5_
          intro R w2876 M2877
          refine W_run 1 [(29, .int .i64 (w64 (x2559.Head + (gxMin x2564 r2613))))] w2876 (by kernel_rfl) ?_
          exact W_nil (ob_end (.int .i64 (w64 (x2559.Head + (gxMin x2564 r2613)))) [] rfl (by kernel_rfl) ⟨by kernel_rfl, rfl⟩ M2877)
        · intro g2647 f2648
          intro v6_ hb6_
          obtain ⟨rfl, _⟩ := hb6_
          intro R w2880 M2881
          refine W_run 1 [(30, .int .i64 (gxAnd .i64 (w64 (x2559.Head + (gxMin x2564 r2613))) 65535))] w2880 (by kernel_rfl) ?_
          exact W_nil (ob_end (.int .i64 (gxAnd .i64 (w64 (x2559.Head + (gxMin x2564 r2613))) 65535)) [] rfl (by kernel_rfl) ⟨by kernel_rfl, rfl⟩ M2881)
        · intro g2647 f2648
          intro R w2884 M2885
          refine W_run 1 [(31, .slice p2609 r2607.length c2610)] w2884 (by kernel_rfl) ?_
          exact W_nil (ob_end (.slice p2609 r2607.length c2610) [] rfl (by kernel_rfl) ⟨by kernel_rfl, rfl⟩ M2885)
        · intro g2647 f2648
          intro R w2888 M2889
          refine W_run 1 [(32, .int .i64 (gxMin x2564 r2613))] w2888 (by kernel_rfl) ?_
          exact W_nil (ob_end (.int .i64 (gxMin x2564 r2613)) [] rfl (by kernel_rfl) ⟨by kernel_rfl, rfl⟩ M2889)
        · intro g2647 f2648
          intro v8_ hb8_
          obtain ⟨rfl, _⟩ := hb8_
          intro v9_ hb9_
          obtain ⟨rfl, _⟩ := hb9_
          intro R w2892 M2893
          refine W_val (.slice (subP p2609 (gxMin x2564 r2613).toNat c2610 1) ys2649.length (c2610 - (gxMin x2564 r2613).toNat)) w2892 (by kernel_rfl) (E_slice (E := encI) _ _ _ _ r2607.length (gxMin x2564 r2613) (r2607.length : Int) rfl (by kernel_rfl) (Or.inr ⟨_, rfl, by kernel_rfl⟩) (Or.inl ⟨rfl, rfl⟩) (by kernel_rfl) (ho2612.rd M2893 2 (by kernel_rfl)) rfl hys2649) ?_
          exact W_nil (ob_end (.slice (subP p2609 (gxMin x2564 r2613).toNat c2610 1) ys2649.length (c2610 - (gxMin x2564 r2613).toNat)) [] rfl (by kernel_rfl) ⟨by kernel_rfl, rfl⟩ M2893)
        · intro g2647 f2648
          intro v2_ hb2_
          obtain ⟨rfl, _⟩ := hb2_
          intro v7_ hb7_
          obtain ⟨rfl, _⟩ := hb7_
          intro v10_ hb10_
          obtain ⟨rfl, _⟩ := hb10_
          intro R w2896 M2897
          refine W_call 65 #[.int .i64 (x2559.Items.length : Int), .int .i64 (gxAnd .i64 (w64 (x2559.Head + (gxMin x2564 r2613))) 65535), .slice (subP p2609 (gxMin x2564 r2613).toNat c2610 1) ys2649.length (c2610 - (gxMin x2564 r2613).toNat)] (by kernel_rfl) (by kernel_rfl) ?_
          refine (c_i_ringOf w2896 (x2559.Items.length : Int) (gxAnd .i64 (w64 (x2559.Head + (gxMin x2564 r2613))) 65535) ys2649 (subP p2609 (gxMin x2564 r2613).toNat c2610 1) (c2610 - (gxMin x2564 r2613).toNat) ((ho2612.rd M2897 2 (by kernel_rfl)).sliceM hys2649) hr2844).mono ?_
          rintro e_ w2898 ⟨p2846, c2847, sg2848, rfl, ho2849, K2900⟩
          refine ⟨_, rfl, ?_⟩
          exact W_nil (ob_end (.agg #[.slice p2846 r2844.Items.length c2847, .int .i64 r2844.Head, .int .i64 r2844.Tail]) sg2848 rfl (by kernel_rfl) ⟨p2846, c2847, rfl, ho2849⟩ (Mem.callMid M2897 K2900))
        · intro g2647 f2648
          intro R w2901 M2902
          refine W_run 1 [(35, .slice p2609 r2607.length c2610)] w2901 (by kernel_rfl) ?_
          exact W_nil (ob_end (.slice p2609 r2607.length c2610) [] rfl (by kernel_rfl) ⟨by kernel_rfl, rfl⟩ M2902)
        · intro g2647 f2648
          intro R w2905 M2906
          refine W_run 1 [(36, .int .i64 (gxMin x2564 r2613))] w2905 (by kernel_rfl) ?_
          exact W_nil (ob_end (.int .i64 (gxMin x2564 r2613)) [] rfl (by kernel_rfl) ⟨by kernel_rfl, rfl⟩ M2906)
        · intro g2647 f2648
          intro v12_ hb12_
          obtain ⟨rfl, _⟩ := hb12_
          intro v13_ hb13_
          obtain ⟨rfl, _⟩ := hb13_
          intro R w2909 M2910
          refine W_val (.slice (subP p2609 (0 : Int).toNat c2610 1) ys2850.length (c2610 - (0 : Int).toNat)) w2909 (by kernel_rfl) (E_slice (E := encI) _ _ _ _ r2607.length 0 (gxMin x2564 r2613) rfl (by kernel_rfl) (Or.inl ⟨rfl, rfl⟩) (Or.inr ⟨_, rfl, by kernel_rfl⟩) (by kernel_rfl) (ho2612.rd M2910 2 (by kernel_rfl)) rfl hys2850) ?_
          exact W_nil (ob_end (.slice (subP p2609 (0 : Int).toNat c2610 1) ys2850.length (c2610 - (0 : Int).toNat)) [] rfl (by kernel_rfl) ⟨by kernel_rfl, rfl⟩ M2910)
        · intro g2647 f2648
          intro v11_ hb11_
          obtain ⟨p2846, c2847, rfl, ho2849⟩ := hb11_
          intro v14_ hb14_
          obtain ⟨rfl, _⟩ := hb14_
          intro w2913 M2914
          have M2915 : Mem [] w w2913 [[(b2574, .cells ⟨[.slice p2561 x2559.Items.length c2562, .int .i64 x2559.Head, .int .i64 x2559.Tail]⟩ 27 (0, 0))], [(b2579, .cells ⟨[.slice none 0 0, .int .i64 0, .int .i64 0]⟩ 27 (0, 0))], (g2605 1), (g2647 11)] := M2914
          obtain ⟨r2941, hr2941, hm⟩ := gx_bind hm
          refine W_call 66 #[.slice (subP p2609 (0 : Int).toNat c2610 1) ys2850.length (c2610 - (0 : Int).toNat)] (by kernel_rfl) (by kernel_rfl) ?_
          refine (c_i_copyInts w2913 ys2850 (subP p2609 (0 : Int).toNat c2610 1) (c2610 - (0 : Int).toNat) ((ho2612.rd M2915 2 (by kernel_rfl)).sliceM hys2850) hr2941).mono ?_
          rintro e_ w2947 ⟨p2943, c2944, sg2945, rfl, ho2946, K2948⟩
          have M2949 := M2915.call K2948
          refine ⟨_, rfl, ?_⟩
          refine W_store _ _ _ true 3 b2579 0 [.slice none 0 0, .int .i64 0, .int .i64 0] 27 (.agg #[.slice p2846 r2844.Items.length c2847, .int .i64 r2844.Head, .int .i64 r2844.Tail]) 1 [.slice p2846 r2844.Items.length c2847, .int .i64 r2844.Head, .int .i64 r2844.Tail] M2949 (by kernel_rfl) rfl (by kernel_rfl) (by kernel_rfl) (by kernel_rfl) (by kernel_rfl) (by kernel_rfl) (by kernel_rfl) (by kernel_rfl) (by kernel_rfl) ?_
          intro w2950 M2951
          refine W_run 2 [(4, .pointer (some ⟨b2579, 0, none⟩)), (5, .slice p2943 r2941.length c2944), (6, .bool true)] w2950 (by kernel_rfl) ?_
          refine W_nil ?_
          refine N_then ?_
          refine G_ret ?_
          obtain rfl := Option.some.inj hm
          refine N_ret [.agg #[.slice p2846 r2844.Items.length c2847, .int .i64 r2844.Head, .int .i64 r2844.Tail], .slice p2943 r2941.length c2944, .bool true] (RVs_cons (RV_cell (g := true) (k := 3) (b := b2579) (off := 0) (cs := [.slice p2846 r2844.Items.length c2847, .int .i64 r2844.Head, .int .i64 r2844.Tail]) (e := 27) (fr := (0, 0)) (v := .agg #[.slice p2846 r2844.Items.length c2847, .int .i64 r2844.Head, .int .i64 r2844.Tail]) (M2951.blk 1 (b := b2579) (o := .cells ⟨[.slice p2846 r2844.Items.length c2847, .int .i64 r2844.Head, .int .i64 r2844.Tail]⟩ 27 (0, 0)) (by kernel_rfl)) (by kernel_rfl) (by kernel_rfl) (by kernel_rfl)) (RVs_cons (RV_tmp (by kernel_rfl)) (RVs_cons (RV_tmp (by kernel_rfl)) RVs_nil))) ?_
          exact ⟨p2846, c2847, (g2647 11), p2943, c2944, sg2945, rfl, ho2849, ho2946, M2951.pick [3, 4] (by kernel_rfl)⟩
theorem c_l_FnExactTakeWords (w : World) (x2044 : Ring) (p2046 : Option Addr) (c2047 : Nat) (h2048 : rdS encI w x2044.Items p2046 c2047) (x2049 : Int) {r : Bool} (hm : M.l_FnExactTakeWords x2044 x2049 = some r) :
    Calls Try.prog 7 #[.agg #[.slice p2046 x2044.Items.length c2047, .int .i64 x2044.Head, .int .i64 x2044.Tail], .int .i64 x2049] w fun e w' => e = .returned (.bool r) ∧ Mem [] w w' [] := by
  unfold M.l_FnExactTakeWords at hm
  refine C_enter Try.func7 rfl (by kernel_rfl) ?_
  have M0 := Mem.refl [] w
  refine G_seq ?_
  refine G_region ?_
  refine W_new (fun b => .pointer (some ⟨b, 0, none⟩)) (.cells ⟨[.slice p2046 x2044.Items.length c2047, .int .i64 x2044.Head, .int .i64 x2044.Tail]⟩ 33 (0, 0)) M0 rfl (by kernel_rfl) (by kernel_rfl) ?_
  intro b2051 w2052 M2053
  refine W_run 1 [(1, .int .i64 x2049), (2, .pointer (some ⟨b2051, 0, none⟩))] w2052 (by kernel_rfl) ?_
  refine W_nil ?_
  refine N_then ?_
  refine G_seq ?_
  refine G_region ?_
  refine W_run 1 [(1, .int .i64 x2049), (2, .pointer (some ⟨b2051, 0, none⟩)), (5, .int .i64 1048576)] w2052 (by kernel_rfl) ?_
  refine W_nil ?_
  refine N_then ?_
  refine G_seq ?_
  refine G_region ?_
  refine W_val (.agg #[.slice p2046 x2044.Items.length c2047, .int .i64 x2044.Head, .int .i64 x2044.Tail]) w2052 (by kernel_rfl) (E_load (e := 33) (fr := (0, 0)) _ _ true 3 b2051 0 [.slice p2046 x2044.Items.length c2047, .int .i64 x2044.Head, .int .i64 x2044.Tail] (.agg #[.slice p2046 x2044.Items.length c2047, .int .i64 x2044.Head, .int .i64 x2044.Tail]) rfl (by kernel_rfl) (by kernel_rfl) (by kernel_rfl) (M2053.blk 0 (b := b2051) (o := .cells ⟨[.slice p2046 x2044.Items.length c2047, .int .i64 x2044.Head, .int .i64 x2044.Tail]⟩ 33 (0, 0)) (by kernel_rfl))) ?_
  refine W_run 1 [(1, .int .i64 x2049), (2, .pointer (some ⟨b2051, 0, none⟩)), (5, .int .i64 1048576), (19, .agg #[.slice p2046 x2044.Items.length c2047, .int .i64 x2044.Head, .int .i64 x2044.Tail]), (20, .int .i64 1048576)] w2052 (by kernel_rfl) ?_
  obtain ⟨r2054, hr2054, hm⟩ := gx_bind hm
  refine W_call 21 #[.agg #[.slice p2046 x2044.Items.length c2047, .int .i64 x2044.Head, .int .i64 x2044.Tail], .int .i64 1048576] (by kernel_rfl) (by kernel_rfl) ?_
  refine (c_l_szRing w2052 x2044 p2046 c2047 (h2048.mem0 M2053) 1048576 hr2054).mono ?_
  rintro e_ w2055 ⟨rfl, K2056⟩
  have M2057 := M2053.call0 K2056
  refine ⟨_, rfl, ?_⟩
  refine W_run 1 [(1, .int .i64 x2049), (2, .pointer (some ⟨b2051, 0, none⟩)), (5, .int .i64 r2054)] w2055 (by kernel_rfl) ?_
  refine W_nil ?_
  refine N_then ?_
  refine G_seq ?_
  refine G_seq ?_
  refine G_region ?_
  refine W_run 2 [(1, .int .i64 x2049), (2, .pointer (some ⟨b2051, 0, none⟩)), (23, .bool (decide (r2054 < 0)))] w2055 (by kernel_rfl) ?_
  refine W_nil ?_
  refine N_then ?_
  rcases gx_bif hm with ⟨hc2058, hm⟩ | ⟨hc2058, hm⟩
  · refine G_cond_t (b := (decide (r2054 < 0))) hc2058 (by kernel_rfl) ?_
    refine G_seq ?_
    refine G_region ?_
    refine W_run 1 [(4, .bool true)] w2055 (by kernel_rfl) ?_
    refine W_nil ?_
    refine N_then ?_
    refine G_ret ?_
    refine N_then_ret ?_
    obtain rfl := Option.some.inj hm
    refine N_ret [.bool true] (RVs_cons (RV_tmp (by kernel_rfl)) RVs_nil) ?_
    exact ⟨rfl, M2057.pick [] (by kernel_rfl)⟩
  · refine G_cond_f (b := (decide (r2054 < 0))) hc2058 (by kernel_rfl) ?_
    refine G_skip ?_
    refine N_then ?_
    refine G_seq ?_
    refine G_region ?_
    refine W_val (.agg #[.slice p2046 x2044.Items.length c2047, .int .i64 x2044.Head, .int .i64 x2044.Tail]) w2055 (by kernel_rfl) (E_load (e := 33) (fr := (0, 0)) _ _ true 3 b2051 0 [.slice p2046 x2044.Items.length c2047, .int .i64 x2044.Head, .int .i64 x2044.Tail] (.agg #[.slice p2046 x2044.Items.length c2047, .int .i64 x2044.Head, .int .i64 x2044.Tail]) rfl (by kernel_rfl) (by kernel_rfl) (by kernel_rfl) (M2057.blk 0 (b := b2051) (o := .cells ⟨[.slice p2046 x2044.Items.length c2047, .int .i64 x2044.Head, .int .i64 x2044.Tail]⟩ 33 (0, 0)) (by kernel_rfl))) ?_
    obtain ⟨r2059, hr2059, hm⟩ := gx_bind hm
    refine W_call 23 #[.agg #[.slice p2046 x2044.Items.length c2047, .int .i64 x2044.Head, .int .i64 x2044.Tail]] (by kernel_rfl) (by kernel_rfl) ?_
    refine (c_l_toRing w2055 x2044 p2046 c2047 (h2048.mem0 M2057) hr2059).mono ?_
    rintro e_ w2065 ⟨p2061, c2062, sg2063, rfl, ho2064, K2066⟩
    have M2067 := M2057.call K2066
    refine ⟨_, rfl, ?_⟩
    refine W_run 1 [(1, .int .i64 x2049), (2, .pointer (some ⟨b2051, 0, none⟩)), (26, .agg #[.slice p2061 r2059.Items.length c2062, .int .i64 r2059.Head, .int .i64 r2059.Tail]), (27, .int .i64 x2049)] w2065 (by kernel_rfl) ?_
    obtain ⟨r2522, hr2522, hm⟩ := gx_bind hm
    refine W_call 30 #[.agg #[.slice p2061 r2059.Items.length c2062, .int .i64 r2059.Head, .int .i64 r2059.Tail], .int .i64 x2049] (by kernel_rfl) (by kernel_rfl) ?_
    refine (c_s_TakeWords w2065 r2059 p2061 c2062 (ho2064.rd M2067 1 (by kernel_rfl)) x2049 hr2522).mono ?_
    rintro e_ w2533 ⟨p2524, c2525, sg2526, p2529, c2530, sg2531, rfl, ho2527, ho2532, K2534⟩
    have M2535 := M2067.call K2534
    refine ⟨_, rfl, ?_⟩
    refine W_run 4 [(1, .int .i64 x2049), (2, .pointer (some ⟨b2051, 0, none⟩)), (29, .agg #[.slice p2524 r2522.1.Items.length c2525, .int .i64 r2522.1.Head, .int .i64 r2522.1.Tail]), (30, .slice p2529 r2522.2.1.length c2530), (31, .bool r2522.2.2)] w2533 (by kernel_rfl) ?_
    refine W_new (fun b => .pointer (some ⟨b, 0, none⟩)) (.cells ⟨[.slice none 0 0, .int .i64 0, .int .i64 0]⟩ 27 (0, 0)) M2535 rfl (by kernel_rfl) (by kernel_rfl) ?_
    intro b2538 w2539 M2540
    refine W_store _ _ _ true 3 b2538 0 [.slice none 0 0, .int .i64 0, .int .i64 0] 27 (.agg #[.slice p2524 r2522.1.Items.length c2525, .int .i64 r2522.1.Head, .int .i64 r2522.1.Tail]) 4 [.slice p2524 r2522.1.Items.length c2525, .int .i64 r2522.1.Head, .int .i64 r2522.1.Tail] M2540 (by kernel_rfl) rfl (by kernel_rfl) (by kernel_rfl) (by kernel_rfl) (by kernel_rfl) (by kernel_rfl) (by kernel_rfl) (by kernel_rfl) (by kernel_rfl) ?_
    intro w2541 M2542
    refine W_run 2 [(1, .int .i64 x2049), (2, .pointer (some ⟨b2051, 0, none⟩)), (6, .pointer (some ⟨b2538, 0, none⟩)), (7, .slice p2529 r2522.2.1.length c2530), (8, .bool r2522.2.2)] w2541 (by kernel_rfl) ?_
    refine W_nil ?_
    refine N_then ?_
    refine G_seq ?_
    refine G_region ?_
    refine W_val (.agg #[.slice p2046 x2044.Items.length c2047, .int .i64 x2044.Head, .int .i64 x2044.Tail]) w2541 (by kernel_rfl) (E_load (e := 33) (fr := (0, 0)) _ _ true 3 b2051 0 [.slice p2046 x2044.Items.length c2047, .int .i64 x2044.Head, .int .i64 x2044.Tail] (.agg #[.slice p2046 x2044.Items.length c2047, .int .i64 x2044.Head, .int .i64 x2044.Tail]) rfl (by kernel_rfl) (by kernel_rfl) (by kernel_rfl) (M2542.blk 0 (b := b2051) (o := .cells ⟨[.slice p2046 x2044.Items.length c2047, .int .i64 x2044.Head, .int .i64 x2044.Tail]⟩ 33 (0, 0)) (by kernel_rfl))) ?_
    obtain ⟨r2543, hr2543, hm⟩ := gx_bind hm
    refine W_call 23 #[.agg #[.slice p2046 x2044.Items.length c2047, .int .i64 x2044.Head, .int .i64 x2044.Tail]] (by kernel_rfl) (by kernel_rfl) ?_
    refine (c_l_toRing w2541 x2044 p2046 c2047 (h2048.mem0 M2542) hr2543).mono ?_
    rintro e_ w2549 ⟨p2545, c2546, sg2547, rfl, ho2548, K2550⟩
    have M2551 := M2542.call K2550
    refine ⟨_, rfl, ?_⟩
    refine W_new (fun b => .pointer (some ⟨b, 0, none⟩)) (.cells ⟨[.slice none 0 0, .int .i64 0, .int .i64 0]⟩ 27 (0, 0)) M2551 rfl (by kernel_rfl) (by kernel_rfl) ?_
    intro b2554 w2555 M2556
    refine W_store _ _ _ true 3 b2554 0 [.slice none 0 0, .int .i64 0, .int .i64 0] 27 (.agg #[.slice p2545 r2543.Items.length c2546, .int .i64 r2543.Head, .int .i64 r2543.Tail]) 6 [.slice p2545 r2543.Items.length c2546, .int .i64 r2543.Head, .int .i64 r2543.Tail] M2556 (by kernel_rfl) rfl (by kernel_rfl) (by kernel_rfl) (by kernel_rfl) (by kernel_rfl) (by kernel_rfl) (by kernel_rfl) (by kernel_rfl) (by kernel_rfl) ?_
    intro w2557 M2558
    refine W_nil ?_
    refine N_then ?_
    refine G_seq ?_
    refine G_region ?_
    refine W_val (.agg #[.slice p2545 r2543.Items.length c2546, .int .i64 r2543.Head, .int .i64 r2543.Tail]) w2557 (by kernel_rfl) (E_load (e := 27) (fr := (0, 0)) _ _ true 3 b2554 0 [.slice p2545 r2543.Items.length c2546, .int .i64 r2543.Head, .int .i64 r2543.Tail] (.agg #[.slice p2545 r2543.Items.length c2546, .int .i64 r2543.Head, .int .i64 r2543.Tail]) rfl (by kernel_rfl) (by kernel_rfl) (by kernel_rfl) (M2558.blk 6 (b := b2554) (o := .cells ⟨[.slice p2545 r2543.Items.length c2546, .int .i64 r2543.Head, .int .i64 r2543.Tail]⟩ 27 (0, 0)) (by kernel_rfl))) ?_
    refine W_run 1 [(1, .int .i64 x2049), (2, .pointer (some ⟨b2051, 0, none⟩)), (6, .pointer (some ⟨b2538, 0, none⟩)), (7, .slice p2529 r2522.2.1.length c2530), (8, .bool r2522.2.2), (9, .pointer (some ⟨b2554, 0, none⟩)), (35, .agg #[.slice p2545 r2543.Items.length c2546, .int .i64 r2543.Head, .int .i64 r2543.Tail]), (36, .int .i64 x2049)] w2557 (by kernel_rfl) ?_
    obtain ⟨r2952, hr2952, hm⟩ := gx_bind hm
    refine W_call 31 #[.agg #[.slice p2545 r2543.Items.length c2546, .int .i64 r2543.Head, .int .i64 r2543.Tail], .int .i64 x2049] (by kernel_rfl) (by kernel_rfl) ?_
    refine (c_i_TakeWords w2557 r2543 p2545 c2546 (ho2548.rd M2558 5 (by kernel_rfl)) x2049 hr2952).mono ?_
    rintro e_ w2963 ⟨p2954, c2955, sg2956, p2959, c2960, sg2961, rfl, ho2957, ho2962, K2964⟩
    have M2965 := M2558.call K2964
    refine ⟨_, rfl, ?_⟩
    refine W_run 4 [(1, .int .i64 x2049), (2, .pointer (some ⟨b2051, 0, none⟩)), (6, .pointer (some ⟨b2538, 0, none⟩)), (7, .slice p2529 r2522.2.1.length c2530), (8, .bool r2522.2.2), (9, .pointer (some ⟨b2554, 0, none⟩)), (38, .agg #[.slice p2954 r2952.1.Items.length c2955, .int .i64 r2952.1.Head, .int .i64 r2952.1.Tail]), (39, .slice p2959 r2952.2.1.length c2960), (40, .bool r2952.2.2)] w2963 (by kernel_rfl) ?_
    refine W_new (fun b => .pointer (some ⟨b, 0, none⟩)) (.cells ⟨[.slice none 0 0, .int .i64 0, .int .i64 0]⟩ 27 (0, 0)) M2965 rfl (by kernel_rfl) (by kernel_rfl) ?_
    intro b2968 w2969 M2970
    refine W_store _ _ _ true 3 b2968 0 [.slice none 0 0, .int .i64 0, .int .i64 0] 27 (.agg #[.slice p2954 r2952.1.Items.length c2955, .int .i64 r2952.1.Head, .int .i64 r2952.1.Tail]) 9 [.slice p2954 r2952.1.Items.length c2955, .int .i64 r2952.1.Head, .int .i64 r2952.1.Tail] M2970 (by kernel_rfl) rfl (by kernel_rfl) (by kernel_rfl) (by kernel_rfl) (by kernel_rfl) (by kernel_rfl) (by kernel_rfl) (by kernel_rfl) (by kernel_rfl) ?_
    intro w2971 M2972
    refine W_run 2 [(1, .int .i64 x2049), (2, .pointer (some ⟨b2051, 0, none⟩)), (6, .pointer (some ⟨b2538, 0, none⟩)), (7, .slice p2529 r2522.2.1.length c2530), (8, .bool r2522.2.2), (9, .pointer (some ⟨b2554, 0, none⟩)), (10, .pointer (some ⟨b2968, 0, none⟩)), (11, .slice p2959 r2952.2.1.length c2960), (12, .bool r2952.2.2)] w2971 (by kernel_rfl) ?_
    refine W_nil ?_
    refine N_then ?_
    refine G_seq ?_
    refine G_seq ?_
    obtain ⟨o2983, ho2984, hm2985⟩ := gx_bind hm
    refine G_meet (fun a w' => Mem [] w w' [[(b2051, .cells ⟨[.slice p2046 x2044.Items.length c2047, .int .i64 x2044.Head, .int .i64 x2044.Tail]⟩ 33 (0, 0))], sg2526, sg2531, [(b2538, .cells ⟨[.slice p2524 r2522.1.Items.length c2525, .int .i64 r2522.1.Head, .int .i64 r2522.1.Tail]⟩ 27 (0, 0))], sg2547, [(b2554, .cells ⟨[.slice p2545 r2543.Items.length c2546, .int .i64 r2543.Head, .int .i64 r2543.Tail]⟩ 27 (0, 0))], sg2956, sg2961, [(b2968, .cells ⟨[.slice p2954 r2952.1.Items.length c2955, .int .i64 r2952.1.Head, .int .i64 r2952.1.Tail]⟩ 27 (0, 0))]] ∧ Sat Try.f7.ntmps [(1, .int .i64 x2049), (2, .pointer (some ⟨b2051, 0, none⟩)), (6, .pointer (some ⟨b2538, 0, none⟩)), (7, .slice p2529 r2522.2.1.length c2530), (8, .bool r2522.2.2), (9, .pointer (some ⟨b2554, 0, none⟩)), (10, .pointer (some ⟨b2968, 0, none⟩)), (11, .slice p2959 r2952.2.1.length c2960), (12, .bool r2952.2.2), (55, .bool o2983)] a) ?_ ?_
    · have hm := ho2984
      refine G_region ?_
      refine W_val (.agg #[.slice p2954 r2952.1.Items.length c2955, .int .i64 r2952.1.Head, .int .i64 r2952.1.Tail]) w2971 (by kernel_rfl) (E_load (e := 27) (fr := (0, 0)) _ _ true 3 b2968 0 [.slice p2954 r2952.1.Items.length c2955, .int .i64 r2952.1.Head, .int .i64 r2952.1.Tail] (.agg #[.slice p2954 r2952.1.Items.length c2955, .int .i64 r2952.1.Head, .int .i64 r2952.1.Tail]) rfl (by kernel_rfl) (by kernel_rfl) (by kernel_rfl) (M2972.blk 9 (b := b2968) (o := .cells ⟨[.slice p2954 r2952.1.Items.length c2955, .int .i64 r2952.1.Head, .int .i64 r2952.1.Tail]⟩ 27 (0, 0)) (by kernel_rfl))) ?_
      refine W_val (.agg #[.slice p2524 r2522.1.Items.length c2525, .int .i64 r2522.1.Head, .int .i64 r2522.1.Tail]) w2971 (by kernel_rfl) (E_load (e := 27) (fr := (0, 0)) _ _ true 3 b2538 0 [.slice p2524 r2522.1.Items.length c2525, .int .i64 r2522.1.Head, .int .i64 r2522.1.Tail] (.agg #[.slice p2524 r2522.1.Items.length c2525, .int .i64 r2522.1.Head, .int .i64 r2522.1.Tail]) rfl (by kernel_rfl) (by kernel_rfl) (by kernel_rfl) (M2972.blk 4 (b := b2538) (o := .cells ⟨[.slice p2524 r2522.1.Items.length c2525, .int .i64 r2522.1.Head, .int .i64 r2522.1.Tail]⟩ 27 (0, 0)) (by kernel_rfl))) ?_
      obtain ⟨r2986, hr2986, hm⟩ := gx_bind hm
      refine W_call 18 #[.agg #[.slice p2954 r2952.1.Items.length c2955, .int .i64 r2952.1.Head, .int .i64 r2952.1.Tail], .agg #[.slice p2524 r2522.1.Items.length c2525, .int .i64 r2522.1.Head, .int .i64 r2522.1.Tail]] (by kernel_rfl) (by kernel_rfl) ?_
      refine (c_l_eqRing w2971 r2952.1 p2954 c2955 (ho2957.rd M2972 7 (by kernel_rfl)) r2522.1 p2524 c2525 (ho2527.rd M2972 2 (by kernel_rfl)) hr2986).mono ?_
      rintro e_ w2987 ⟨rfl, K2988⟩
      have M2989 := M2972.call0 K2988
      refine ⟨_, rfl, ?_⟩
      refine W_run 2 [(1, .int .i64 x2049), (2, .pointer (some ⟨b2051, 0, none⟩)), (6, .pointer (some ⟨b2538, 0, none⟩)), (7, .slice p2529 r2522.2.1.length c2530), (8, .bool r2522.2.2), (9, .pointer (some ⟨b2554, 0, none⟩)), (10, .pointer (some ⟨b2968, 0, none⟩)), (11, .slice p2959 r2952.2.1.length c2960), (12, .bool r2952.2.2), (45, .bool (!r2986))] w2987 (by kernel_rfl) ?_
      rcases gx_bif hm with ⟨hc2990, hm⟩ | ⟨hc2990, hm⟩
      · refine W_known 45 true (by kernel_rfl) hc2990 ?_
        refine W_run 10 [(1, .int .i64 x2049), (2, .pointer (some ⟨b2051, 0, none⟩)), (6, .pointer (some ⟨b2538, 0, none⟩)), (7, .slice p2529 r2522.2.1.length c2530), (8, .bool r2522.2.2), (9, .pointer (some ⟨b2554, 0, none⟩)), (10, .pointer (some ⟨b2968, 0, none⟩)), (11, .slice p2959 r2952.2.1.length c2960), (12, .bool r2952.2.2), (55, .bool true)] w2987 (by kernel_rfl) ?_
        refine W_nil ?_
        obtain rfl := Option.some.inj hm
        exact N_meet fun a ha => ⟨M2989.pick [0, 2, 3, 4, 5, 6, 7, 8, 9] (by kernel_rfl), ha.sub (by kernel_rfl)⟩
      · refine W_known 45 false (by kernel_rfl) hc2990 ?_
        refine W_run 2 [(1, .int .i64 x2049), (2, .pointer (some ⟨b2051, 0, none⟩)), (6, .pointer (some ⟨b2538, 0, none⟩)), (7, .slice p2529 r2522.2.1.length c2530), (8, .bool r2522.2.2), (9, .pointer (some ⟨b2554, 0, none⟩)), (10, .pointer (some ⟨b2968, 0, none⟩)), (11, .slice p2959 r2952.2.1.length c2960), (12, .bool r2952.2.2), (45, .bool false), (46, .slice p2959 r2952.2.1.length c2960), (47, .slice p2529 r2522.2.1.length c2530)] w2987 (by kernel_rfl) ?_
        obtain ⟨r2991, hr2991, hm⟩ := gx_bind hm
        refine W_call 27 #[.slice p2959 r2952.2.1.length c2960, .slice p2529 r2522.2.1.length c2530] (by kernel_rfl) (by kernel_rfl) ?_
        refine (c_l_eqIntS w2987 r2952.2.1 p2959 c2960 (ho2962.rd M2989 8 (by kernel_rfl)) r2522.2.1 p2529 c2530 (ho2532.rd M2989 3 (by kernel_rfl)) hr2991).mono ?_
        rintro e_ w2992 ⟨rfl, K2993⟩
        have M2994 := M2989.call0 K2993
        refine ⟨_, rfl, ?_⟩
        refine W_run 3 [(1, .int .i64 x2049), (2, .pointer (some ⟨b2051, 0, none⟩)), (6, .pointer (some ⟨b2538, 0, none⟩)), (7, .slice p2529 r2522.2.1.length c2530), (8, .bool r2522.2.2), (9, .pointer (some ⟨b2554, 0, none⟩)), (10, .pointer (some ⟨b2968, 0, none⟩)), (11, .slice p2959 r2952.2.1.length c2960), (12, .bool r2952.2.2), (51, .bool (!r2991))] w2992 (by kernel_rfl) ?_
        rcases gx_bif hm with ⟨hc2995, hm⟩ | ⟨hc2995, hm⟩
        · refine W_known 51 true (by kernel_rfl) hc2995 ?_
          refine W_run 4 [(1, .int .i64 x2049), (2, .pointer (some ⟨b2051, 0, none⟩)), (6, .pointer (some ⟨b2538, 0, none⟩)), (7, .slice p2529 r2522.2.1.length c2530), (8, .bool r2522.2.2), (9, .pointer (some ⟨b2554, 0, none⟩)), (10, .pointer (some ⟨b2968, 0, none⟩)), (11, .slice p2959 r2952.2.1.length c2960), (12, .bool r2952.2.2), (55, .bool true)] w2992 (by kernel_rfl) ?_
          refine W_nil ?_
          obtain rfl := Option.some.inj hm
          exact N_meet fun a ha => ⟨M2994.pick [0, 2, 3, 4, 5, 6, 7, 8, 9] (by kernel_rfl), ha.sub (by kernel_rfl)⟩
        · refine W_known 51 false (by kernel_rfl) hc2995 ?_
          refine W_run 4 [(1, .int .i64 x2049), (2, .pointer (some ⟨b2051, 0, none⟩)), (6, .pointer (some ⟨b2538, 0, none⟩)), (7, .slice p2529 r2522.2.1.length c2530), (8, .bool r2522.2.2), (9, .pointer (some ⟨b2554, 0, none⟩)), (10, .pointer (some ⟨b2968, 0, none⟩)), (11, .slice p2959 r2952.2.1.length c2960), (12, .bool r2952.2.2), (55, .bool (!(r2952.2.2 == r2522.2.2)))] w2992 (by kernel_rfl) ?_
          refine W_nil ?_
          obtain rfl := Option.some.inj hm
          exact N_meet fun a ha => ⟨M2994.pick [0, 2, 3, 4, 5, 6, 7, 8, 9] (by kernel_rfl), ha.sub (by kernel_rfl)⟩
    · intro a2998 w2996 ⟨M2997, hS2999⟩
      refine N_use hS2999 ?_
      have hm := hm2985
      refine N_then ?_
      rcases gx_bif hm with ⟨hc3000, hm⟩ | ⟨hc3000, hm⟩
      · refine G_cond_t (b := o2983) hc3000 (by kernel_rfl) ?_
        refine G_seq ?_
        refine G_region ?_
        refine W_run 1 [(4, .bool false)] w2996 (by kernel_rfl) ?_
        refine W_nil ?_
        refine N_then ?_
        refine G_ret ?_
        refine N_then_ret ?_
        obtain rfl := Option.some.inj hm
        refine N_ret [.bool false] (RVs_cons (RV_tmp (by kernel_rfl)) RVs_nil) ?_
        exact ⟨rfl, M2997.pick [] (by kernel_rfl)⟩
      · refine G_cond_f (b := o2983) hc3000 (by kernel_rfl) ?_
        refine G_skip ?_
        refine N_then ?_
        refine G_seq ?_
        refine G_seq ?_
        obtain ⟨r3003, hr3003, hm⟩ := gx_bind hm
        refine G_sub [(1, .int .i64 x2049), (2, .pointer (some ⟨b2051, 0, none⟩)), (6, .pointer (some ⟨b2538, 0, none⟩)), (7, .slice p2529 r2522.2.1.length c2530), (8, .bool r2522.2.2), (9, .pointer (some ⟨b2554, 0, none⟩)), (10, .pointer (some ⟨b2968, 0, none⟩)), (11, .slice p2959 r2952.2.1.length c2960), (12, .bool r2952.2.2), (55, .bool o2983)] (by kernel_rfl) ?_
        refine G_dagL 3 [[], [], [1]] [[], [], []] [[], [], []] [[], [], []] [[], [], []] [[], [], []] (fun _ => []) (fun i => ([fun f v s => v = (.agg #[.slice p2545 r2543.Items.length c2546, .int .i64 r2543.Head, .int .i64 r2543.Tail] : Value) ∧ s = [], fun f v s => v = (.agg #[.slice p2046 x2044.Items.length c2047, .int .i64 x2044.Head, .int .i64 x2044.Tail] : Value) ∧ s = [], fun f v s => ∃ (p3005 : Option Addr) (c3006 : Nat), v = (.agg #[.slice p3005 r3003.Items.length c3006, .int .i64 r3003.Head, .int .i64 r3003.Tail] : Value) ∧ ownS encI r3003.Items p3005 c3006 s] : List ((Nat → Value) → Value → Seg → Prop)).getD i (fun _ _ _ => False)) (fun j f v => ∃ s, (fun i => ([fun f v s => v = (.agg #[.slice p2545 r2543.Items.length c2546, .int .i64 r2543.Head, .int .i64 r2543.Tail] : Value) ∧ s = [], fun f v s => v = (.agg #[.slice p2046 x2044.Items.length c2047, .int .i64 x2044.Head, .int .i64 x2044.Tail] : Value) ∧ s = [], fun f v s => ∃ (p3005 : Option Addr) (c3006 : Nat), v = (.agg #[.slice p3005 r3003.Items.length c3006, .int .i64 r3003.Head, .int .i64 r3003.Tail] : Value) ∧ ownS encI r3003.Items p3005 c3006 s] : List ((Nat → Value) → Value → Seg → Prop)).getD i (fun _ _ _ => False)) j f v s) [] [0, 2] [2] (fun _ _ _ s h => ⟨s, h⟩) (by kernel_rfl) (by kernel_rfl) (M2997.preNil 3) (by kernel_rfl) (by kernel_rfl) (by kernel_rfl) (by kernel_rfl) (allOb_cons ?_ (allOb_cons ?_ (allOb_cons ?_ allOb_nil))) ?_
        · intro g3001 f3002
          intro R w3009 M3010
          refine W_val (.agg #[.slice p2545 r2543.Items.length c2546, .int .i64 r2543.Head, .int .i64 r2543.Tail]) w3009 (by kernel_rfl) (E_load (e := 27) (fr := (0, 0)) _ _ true 3 b2554 0 [.slice p2545 r2543.Items.length c2546, .int .i64 r2543.Head, .int .i64 r2543.Tail] (.agg #[.slice p2545 r2543.Items.length c2546, .int .i64 r2543.Head, .int .i64 r2543.Tail]) rfl (by kernel_rfl) (by kernel_rfl) (by kernel_rfl) (M3010.blk 5 (b := b2554) (o := .cells ⟨[.slice p2545 r2543.Items.length c2546, .int .i64 r2543.Head, .int .i64 r2543.Tail]⟩ 27 (0, 0)) (by kernel_rfl))) ?_
          exact W_nil (ob_end (.agg #[.slice p2545 r2543.Items.length c2546, .int .i64 r2543.Head, .int .i64 r2543.Tail]) [] rfl (by kernel_rfl) ⟨by kernel_rfl, rfl⟩ M3010)
        · intro g3001 f3002
          intro R w3013 M3014
          refine W_val (.agg #[.slice p2046 x2044.Items.length c2047, .int .i64 x2044.Head, .int .i64 x2044.Tail]) w3013 (by kernel_rfl) (E_load (e := 33) (fr := (0, 0)) _ _ true 3 b2051 0 [.slice p2046 x2044.Items.length c2047, .int .i64 x2044.Head, .int .i64 x2044.Tail] (.agg #[.slice p2046 x2044.Items.length c2047, .int .i64 x2044.Head, .int .i64 x2044.Tail]) rfl (by kernel_rfl) (by kernel_rfl) (by kernel_rfl) (M3014.blk 0 (b := b2051) (o := .cells ⟨[.slice p2046 x2044.Items.length c2047, .int .i64 x2044.Head, .int .i64 x2044.Tail]⟩ 33 (0, 0)) (by kernel_rfl))) ?_
          exact W_nil (ob_end (.agg #[.slice p2046 x2044.Items.length c2047, .int .i64 x2044.Head, .int .i64 x2044.Tail]) [] rfl (by kernel_rfl) ⟨by kernel_rfl, rfl⟩ M3014)
        · intro g3001 f3002
          intro v1_ hb1_
          obtain ⟨rfl, _⟩ := hb1_
          intro R w3017 M3018
          refine W_call 23 #[.agg #[.slice p2046 x2044.Items.length c2047, .int .i64 x2044.Head, .int .i64 x2044.Tail]] (by kernel_rfl) (by kernel_rfl) ?_
          refine (c_l_toRing w3017 x2044 p2046 c2047 (h2048.mem0 M3018) hr3003).mono ?_
          rintro e_ w3019 ⟨p3005, c3006, sg3007, rfl, ho3008, K3021⟩
          refine ⟨_, rfl, ?_⟩
          exact W_nil (ob_end (.agg #[.slice p3005 r3003.Items.length c3006, .int .i64 r3003.Head, .int .i64 r3003.Tail]) sg3007 rfl (by kernel_rfl) ⟨p3005, c3006, rfl, ho3008⟩ (Mem.callMid M3018 K3021))
        · intro g3001 f3002
          intro v0_ hb0_
          obtain ⟨rfl, _⟩ := hb0_
          intro v2_ hb2_
          obtain ⟨p3005, c3006, rfl, ho3008⟩ := hb2_
          intro w3022 M3023
          have M3024 : Mem [] w w3022 [[(b2051, .cells ⟨[.slice p2046 x2044.Items.length c2047, .int .i64 x2044.Head, .int .i64 x2044.Tail]⟩ 33 (0, 0))], sg2526, sg2531, [(b2538, .cells ⟨[.slice p2524 r2522.1.Items.length c2525, .int .i64 r2522.1.Head, .int .i64 r2522.1.Tail]⟩ 27 (0, 0))], sg2547, [(b2554, .cells ⟨[.slice p2545 r2543.Items.length c2546, .int .i64 r2543.Head, .int .i64 r2543.Tail]⟩ 27 (0, 0))], sg2956, sg2961, [(b2968, .cells ⟨[.slice p2954 r2952.1.Items.length c2955, .int .i64 r2952.1.Head, .int .i64 r2952.1.Tail]⟩ 27 (0, 0))], (g3001 2)] := M3023
          obtain ⟨r3025, hr3025, hm⟩ := gx_bind hm
          refine W_call 18 #[.agg #[.slice p2545 r2543.Items.length c2546, .int .i64 r2543.Head, .int .i64 r2543.Tail], .agg #[.slice p3005 r3003.Items.length c3006, .int .i64 r3003.Head, .int .i64 r3003.Tail]] (by kernel_rfl) (by kernel_rfl) ?_
          refine (c_l_eqRing w3022 r2543 p2545 c2546 (ho2548.rd M3024 4 (by kernel_rfl)) r3003 p3005 c3006 (ho3008.rd M3024 9 (by kernel_rfl)) hr3025).mono ?_
          rintro e_ w3026 ⟨rfl, K3027⟩
          have M3028 := M3024.call0 K3027
          refine ⟨_, rfl, ?_⟩
          refine W_run 1 [(1, .int .i64 x2049), (2, .pointer (some ⟨b2051, 0, none⟩)), (6, .pointer (some ⟨b2538, 0, none⟩)), (7, .slice p2529 r2522.2.1.length c2530), (8, .bool r2522.2.2), (9, .pointer (some ⟨b2554, 0, none⟩)), (10, .pointer (some ⟨b2968, 0, none⟩)), (11, .slice p2959 r2952.2.1.length c2960), (12, .bool r2952.2.2), (60, .bool (!r3025))] w3026 (by kernel_rfl) ?_
          refine W_nil ?_
          refine N_then ?_
          rcases gx_bif hm with ⟨hc3029, hm⟩ | ⟨hc3029, hm⟩
          · refine G_cond_t (b := (!r3025)) hc3029 (by kernel_rfl) ?_
            refine G_seq ?_
            refine G_region ?_
            refine W_run 1 [(4, .bool false)] w3026 (by kernel_rfl) ?_
            refine W_nil ?_
            refine N_then ?_
            refine G_ret ?_
            refine N_then_ret ?_
            obtain rfl := Option.some.inj hm
            refine N_ret [.bool false] (RVs_cons (RV_tmp (by kernel_rfl)) RVs_nil) ?_
            exact ⟨rfl, M3028.pick [] (by kernel_rfl)⟩
          · refine G_cond_f (b := (!r3025)) hc3029 (by kernel_rfl) ?_
            refine G_skip ?_
            refine N_then ?_
            refine G_seq ?_
            refine G_region ?_
            refine W_run 1 [(1, .int .i64 x2049), (2, .pointer (some ⟨b2051, 0, none⟩)), (6, .pointer (some ⟨b2538, 0, none⟩)), (7, .slice p2529 r2522.2.1.length c2530), (8, .bool r2522.2.2), (9, .pointer (some ⟨b2554, 0, none⟩)), (10, .pointer (some ⟨b2968, 0, none⟩)), (11, .slice p2959 r2952.2.1.length c2960), (12, .bool r2952.2.2), (13, .int .i64 1)] w3026 (by kernel_rfl) ?_
            refine W_nil ?_
            refine N_then ?_
            refine G_seq ?_
            refine G_region ?_
            refine W_val (.agg #[.slice p2545 r2543.Items.length c2546, .int .i64 r2543.Head, .int .i64 r2543.Tail]) w3026 (by kernel_rfl) (E_load (e := 27) (fr := (0, 0)) _ _ true 3 b2554 0 [.slice p2545 r2543.Items.length c2546, .int .i64 r2543.Head, .int .i64 r2543.Tail] (.agg #[.slice p2545 r2543.Items.length c2546, .int .i64 r2543.Head, .int .i64 r2543.Tail]) rfl (by kernel_rfl) (by kernel_rfl) (by kernel_rfl) (M3028.blk 5 (b := b2554) (o := .cells ⟨[.slice p2545 r2543.Items.length c2546, .int .i64 r2543.Head, .int .i64 r2543.Tail]⟩ 27 (0, 0)) (by kernel_rfl))) ?_
            refine W_run 1 [(1, .int .i64 x2049), (2, .pointer (some ⟨b2051, 0, none⟩)), (6, .pointer (some ⟨b2538, 0, none⟩)), (7, .slice p2529 r2522.2.1.length c2530), (8, .bool r2522.2.2), (10, .pointer (some ⟨b2968, 0, none⟩)), (11, .slice p2959 r2952.2.1.length c2960), (12, .bool r2952.2.2), (13, .int .i64 1), (61, .agg #[.slice p2545 r2543.Items.length c2546, .int .i64 r2543.Head, .int .i64 r2543.Tail]), (62, .int .i64 1)] w3026 (by kernel_rfl) ?_
            obtain ⟨r3030, hr3030, hm⟩ := gx_bind hm
            refine W_call 19 #[.agg #[.slice p2545 r2543.Items.length c2546, .int .i64 r2543.Head, .int .i64 r2543.Tail], .int .i64 1] (by kernel_rfl) (by kernel_rfl) ?_
            refine (c_l_markRing w3026 r2543 p2545 c2546 sg2547 ho2548 1 (M3028.hasPick [4]) (M3028.nodupPick [4] (by kernel_rfl)) hr3030).mono ?_
            rintro e_ w3034 ⟨sg3031, rfl, ho3032, hl3033, K3035⟩
            have M3036 := M3028.callF' [4] [0, 1, 2, 3, 5, 6, 7, 8, 9] (by kernel_rfl) K3035
            refine ⟨_, rfl, ?_⟩
            refine W_conv 61 (.agg #[.slice p2545 r2543.Items.length c2546, .int .i64 r2543.Head, .int .i64 r2543.Tail]) (.agg #[.slice p2545 r3030.2.length c2546, .int .i64 r2543.Head, .int .i64 r2543.Tail]) (by kernel_rfl) (by first | rw [hl3033] | rw [hl3033]) ?_
            have M3037 : Mem [] w w3034 [[(b2051, .cells ⟨[.slice p2046 x2044.Items.length c2047, .int .i64 x2044.Head, .int .i64 x2044.Tail]⟩ 33 (0, 0))], sg2526, sg2531, [(b2538, .cells ⟨[.slice p2524 r2522.1.Items.length c2525, .int .i64 r2522.1.Head, .int .i64 r2522.1.Tail]⟩ 27 (0, 0))], [(b2554, .cells ⟨[.slice p2545 r3030.2.length c2546, .int .i64 r2543.Head, .int .i64 r2543.Tail]⟩ 27 (0, 0))], sg2956, sg2961, [(b2968, .cells ⟨[.slice p2954 r2952.1.Items.length c2955, .int .i64 r2952.1.Head, .int .i64 r2952.1.Tail]⟩ 27 (0, 0))], (g3001 2), sg3031] := by rw [hl3033]; exact M3036
            refine W_run 1 [(1, .int .i64 x2049), (2, .pointer (some ⟨b2051, 0, none⟩)), (6, .pointer (some ⟨b2538, 0, none⟩)), (7, .slice p2529 r2522.2.1.length c2530), (8, .bool r2522.2.2), (10, .pointer (some ⟨b2968, 0, none⟩)), (11, .slice p2959 r2952.2.1.length c2960), (12, .bool r2952.2.2), (13, .int .i64 r3030.1)] w3034 (by kernel_rfl) ?_
            refine W_nil ?_
            refine N_then ?_
            refine G_seq ?_
            refine G_seq ?_
            obtain ⟨o3049, ho3050, hm3051⟩ := gx_bind hm
            refine G_meet (fun a w' => Mem [] w w' [[(b2051, .cells ⟨[.slice p2046 x2044.Items.length c2047, .int .i64 x2044.Head, .int .i64 x2044.Tail]⟩ 33 (0, 0))], sg2526, sg2531, [(b2538, .cells ⟨[.slice p2524 r2522.1.Items.length c2525, .int .i64 r2522.1.Head, .int .i64 r2522.1.Tail]⟩ 27 (0, 0))], sg2956, sg2961, [(b2968, .cells ⟨[.slice p2954 r2952.1.Items.length c2955, .int .i64 r2952.1.Head, .int .i64 r2952.1.Tail]⟩ 27 (0, 0))]] ∧ Sat Try.f7.ntmps [(1, .int .i64 x2049), (2, .pointer (some ⟨b2051, 0, none⟩)), (6, .pointer (some ⟨b2538, 0, none⟩)), (7, .slice p2529 r2522.2.1.length c2530), (8, .bool r2522.2.2), (10, .pointer (some ⟨b2968, 0, none⟩)), (11, .slice p2959 r2952.2.1.length c2960), (82, .bool o3049)] a) ?_ ?_
            · have hm := ho3050
              refine G_region ?_
              refine W_run 3 [(1, .int .i64 x2049), (2, .pointer (some ⟨b2051, 0, none⟩)), (6, .pointer (some ⟨b2538, 0, none⟩)), (7, .slice p2529 r2522.2.1.length c2530), (8, .bool r2522.2.2), (10, .pointer (some ⟨b2968, 0, none⟩)), (11, .slice p2959 r2952.2.1.length c2960), (12, .bool r2952.2.2), (66, .bool (decide (r3030.1 < 0)))] w3034 (by kernel_rfl) ?_
              rcases gx_bif hm with ⟨hc3052, hm⟩ | ⟨hc3052, hm⟩
              · refine W_known 66 true (by kernel_rfl) hc3052 ?_
                refine W_run 16 [(1, .int .i64 x2049), (2, .pointer (some ⟨b2051, 0, none⟩)), (6, .pointer (some ⟨b2538, 0, none⟩)), (7, .slice p2529 r2522.2.1.length c2530), (8, .bool r2522.2.2), (10, .pointer (some ⟨b2968, 0, none⟩)), (11, .slice p2959 r2952.2.1.length c2960), (82, .bool true)] w3034 (by kernel_rfl) ?_
                refine W_nil ?_
                obtain rfl := Option.some.inj hm
                exact N_meet fun a ha => ⟨M3037.pick [0, 1, 2, 3, 5, 6, 7] (by kernel_rfl), ha.sub (by kernel_rfl)⟩
              · refine W_known 66 false (by kernel_rfl) hc3052 ?_
                refine W_val (.agg #[.slice p2954 r2952.1.Items.length c2955, .int .i64 r2952.1.Head, .int .i64 r2952.1.Tail]) w3034 (by kernel_rfl) (E_load (e := 27) (fr := (0, 0)) _ _ true 3 b2968 0 [.slice p2954 r2952.1.Items.length c2955, .int .i64 r2952.1.Head, .int .i64 r2952.1.Tail] (.agg #[.slice p2954 r2952.1.Items.length c2955, .int .i64 r2952.1.Head, .int .i64 r2952.1.Tail]) rfl (by kernel_rfl) (by kernel_rfl) (by kernel_rfl) (M3037.blk 7 (b := b2968) (o := .cells ⟨[.slice p2954 r2952.1.Items.length c2955, .int .i64 r2952.1.Head, .int .i64 r2952.1.Tail]⟩ 27 (0, 0)) (by kernel_rfl))) ?_
                refine W_val (.agg #[.slice p2524 r2522.1.Items.length c2525, .int .i64 r2522.1.Head, .int .i64 r2522.1.Tail]) w3034 (by kernel_rfl) (E_load (e := 27) (fr := (0, 0)) _ _ true 3 b2538 0 [.slice p2524 r2522.1.Items.length c2525, .int .i64 r2522.1.Head, .int .i64 r2522.1.Tail] (.agg #[.slice p2524 r2522.1.Items.length c2525, .int .i64 r2522.1.Head, .int .i64 r2522.1.Tail]) rfl (by kernel_rfl) (by kernel_rfl) (by kernel_rfl) (M3037.blk 3 (b := b2538) (o := .cells ⟨[.slice p2524 r2522.1.Items.length c2525, .int .i64 r2522.1.Head, .int .i64 r2522.1.Tail]⟩ 27 (0, 0)) (by kernel_rfl))) ?_
                obtain ⟨r3053, hr3053, hm⟩ := gx_bind hm
                refine W_call 18 #[.agg #[.slice p2954 r2952.1.Items.length c2955, .int .i64 r2952.1.Head, .int .i64 r2952.1.Tail], .agg #[.slice p2524 r2522.1.Items.length c2525, .int .i64 r2522.1.Head, .int .i64 r2522.1.Tail]] (by kernel_rfl) (by kernel_rfl) ?_
                refine (c_l_eqRing w3034 r2952.1 p2954 c2955 (ho2957.rd M3037 5 (by kernel_rfl)) r2522.1 p2524 c2525 (ho2527.rd M3037 1 (by kernel_rfl)) hr3053).mono ?_
                rintro e_ w3054 ⟨rfl, K3055⟩
                have M3056 := M3037.call0 K3055
                refine ⟨_, rfl, ?_⟩
                refine W_run 3 [(1, .int .i64 x2049), (2, .pointer (some ⟨b2051, 0, none⟩)), (6, .pointer (some ⟨b2538, 0, none⟩)), (7, .slice p2529 r2522.2.1.length c2530), (8, .bool r2522.2.2), (10, .pointer (some ⟨b2968, 0, none⟩)), (11, .slice p2959 r2952.2.1.length c2960), (12, .bool r2952.2.2), (72, .bool (!r3053))] w3054 (by kernel_rfl) ?_
                rcases gx_bif hm with ⟨hc3057, hm⟩ | ⟨hc3057, hm⟩
                · refine W_known 72 true (by kernel_rfl) hc3057 ?_
                  refine W_run 10 [(1, .int .i64 x2049), (2, .pointer (some ⟨b2051, 0, none⟩)), (6, .pointer (some ⟨b2538, 0, none⟩)), (7, .slice p2529 r2522.2.1.length c2530), (8, .bool r2522.2.2), (10, .pointer (some ⟨b2968, 0, none⟩)), (11, .slice p2959 r2952.2.1.length c2960), (82, .bool true)] w3054 (by kernel_rfl) ?_
                  refine W_nil ?_
                  obtain rfl := Option.some.inj hm
                  exact N_meet fun a ha => ⟨M3056.pick [0, 1, 2, 3, 5, 6, 7] (by kernel_rfl), ha.sub (by kernel_rfl)⟩
                · refine W_known 72 false (by kernel_rfl) hc3057 ?_
                  refine W_run 2 [(1, .int .i64 x2049), (2, .pointer (some ⟨b2051, 0, none⟩)), (6, .pointer (some ⟨b2538, 0, none⟩)), (7, .slice p2529 r2522.2.1.length c2530), (8, .bool r2522.2.2), (10, .pointer (some ⟨b2968, 0, none⟩)), (11, .slice p2959 r2952.2.1.length c2960), (12, .bool r2952.2.2), (72, .bool false), (73, .slice p2959 r2952.2.1.length c2960), (74, .slice p2529 r2522.2.1.length c2530)] w3054 (by kernel_rfl) ?_
                  obtain ⟨r3058, hr3058, hm⟩ := gx_bind hm
                  refine W_call 27 #[.slice p2959 r2952.2.1.length c2960, .slice p2529 r2522.2.1.length c2530] (by kernel_rfl) (by kernel_rfl) ?_
                  refine (c_l_eqIntS w3054 r2952.2.1 p2959 c2960 (ho2962.rd M3056 6 (by kernel_rfl)) r2522.2.1 p2529 c2530 (ho2532.rd M3056 2 (by kernel_rfl)) hr3058).mono ?_
                  rintro e_ w3059 ⟨rfl, K3060⟩
                  have M3061 := M3056.call0 K3060
                  refine ⟨_, rfl, ?_⟩
                  refine W_run 3 [(1, .int .i64 x2049), (2, .pointer (some ⟨b2051, 0, none⟩)), (6, .pointer (some ⟨b2538, 0, none⟩)), (7, .slice p2529 r2522.2.1.length c2530), (8, .bool r2522.2.2), (10, .pointer (some ⟨b2968, 0, none⟩)), (11, .slice p2959 r2952.2.1.length c2960), (12, .bool r2952.2.2), (78, .bool (!r3058))] w3059 (by kernel_rfl) ?_
                  rcases gx_bif hm with ⟨hc3062, hm⟩ | ⟨hc3062, hm⟩
                  · refine W_known 78 true (by kernel_rfl) hc3062 ?_
                    refine W_run 4 [(1, .int .i64 x2049), (2, .pointer (some ⟨b2051, 0, none⟩)), (6, .pointer (some ⟨b2538, 0, none⟩)), (7, .slice p2529 r2522.2.1.length c2530), (8, .bool r2522.2.2), (10, .pointer (some ⟨b2968, 0, none⟩)), (11, .slice p2959 r2952.2.1.length c2960), (82, .bool true)] w3059 (by kernel_rfl) ?_
                    refine W_nil ?_
                    obtain rfl := Option.some.inj hm
                    exact N_meet fun a ha => ⟨M3061.pick [0, 1, 2, 3, 5, 6, 7] (by kernel_rfl), ha.sub (by kernel_rfl)⟩
                  · refine W_known 78 false (by kernel_rfl) hc3062 ?_
                    refine W_run 4 [(1, .int .i64 x2049), (2, .pointer (some ⟨b2051, 0, none⟩)), (6, .pointer (some ⟨b2538, 0, none⟩)), (7, .slice p2529 r2522.2.1.length c2530), (8, .bool r2522.2.2), (10, .pointer (some ⟨b2968, 0, none⟩)), (11, .slice p2959 r2952.2.1.length c2960), (82, .bool (!(r2952.2.2 == r2522.2.2)))] w3059 (by kernel_rfl) ?_
                    refine W_nil ?_
                    obtain rfl := Option.some.inj hm
                    exact N_meet fun a ha => ⟨M3061.pick [0, 1, 2, 3, 5, 6, 7] (by kernel_rfl), ha.sub (by kernel_rfl)⟩
            · intro a3065 w3063 ⟨M3064, hS3066⟩
              refine N_use hS3066 ?_
              have hm := hm3051
              refine N_then ?_
              rcases gx_bif hm with ⟨hc3067, hm⟩ | ⟨hc3067, hm⟩
              · refine G_cond_t (b := o3049) hc3067 (by kernel_rfl) ?_
                refine G_seq ?_
                refine G_region ?_
                refine W_run 1 [(4, .bool false)] w3063 (by kernel_rfl) ?_
                refine W_nil ?_
                refine N_then ?_
                refine G_ret ?_
                refine N_then_ret ?_
                obtain rfl := Option.some.inj hm
                refine N_ret [.bool false] (RVs_cons (RV_tmp (by kernel_rfl)) RVs_nil) ?_
                exact ⟨rfl, M3064.pick [] (by kernel_rfl)⟩
              · refine G_cond_f (b := o3049) hc3067 (by kernel_rfl) ?_
                refine G_skip ?_
                refine N_then ?_
                refine G_seq ?_
                refine G_region ?_
                refine W_run 1 [(1, .int .i64 x2049), (2, .pointer (some ⟨b2051, 0, none⟩)), (6, .pointer (some ⟨b2538, 0, none⟩)), (7, .slice p2529 r2522.2.1.length c2530), (8, .bool r2522.2.2), (10, .pointer (some ⟨b2968, 0, none⟩)), (11, .slice p2959 r2952.2.1.length c2960), (14, .int .i64 1)] w3063 (by kernel_rfl) ?_
                refine W_nil ?_
                refine N_then ?_
                refine G_seq ?_
                refine G_region ?_
                refine W_val (.agg #[.slice p2954 r2952.1.Items.length c2955, .int .i64 r2952.1.Head, .int .i64 r2952.1.Tail]) w3063 (by kernel_rfl) (E_load (e := 27) (fr := (0, 0)) _ _ true 3 b2968 0 [.slice p2954 r2952.1.Items.length c2955, .int .i64 r2952.1.Head, .int .i64 r2952.1.Tail] (.agg #[.slice p2954 r2952.1.Items.length c2955, .int .i64 r2952.1.Head, .int .i64 r2952.1.Tail]) rfl (by kernel_rfl) (by kernel_rfl) (by kernel_rfl) (M3064.blk 6 (b := b2968) (o := .cells ⟨[.slice p2954 r2952.1.Items.length c2955, .int .i64 r2952.1.Head, .int .i64 r2952.1.Tail]⟩ 27 (0, 0)) (by kernel_rfl))) ?_
                refine W_run 1 [(1, .int .i64 x2049), (2, .pointer (some ⟨b2051, 0, none⟩)), (6, .pointer (some ⟨b2538, 0, none⟩)), (7, .slice p2529 r2522.2.1.length c2530), (8, .bool r2522.2.2), (10, .pointer (some ⟨b2968, 0, none⟩)), (11, .slice p2959 r2952.2.1.length c2960), (14, .int .i64 1), (83, .agg #[.slice p2954 r2952.1.Items.length c2955, .int .i64 r2952.1.Head, .int .i64 r2952.1.Tail]), (84, .int .i64 1)] w3063 (by kernel_rfl) ?_
                obtain ⟨r3068, hr3068, hm⟩ := gx_bind hm
                refine W_call 19 #[.agg #[.slice p2954 r2952.1.Items.length c2955, .int .i64 r2952.1.Head, .int .i64 r2952.1.Tail], .int .i64 1] (by kernel_rfl) (by kernel_rfl) ?_
                refine (c_l_markRing w3063 r2952.1 p2954 c2955 sg2956 ho2957 1 (M3064.hasPick [4]) (M3064.nodupPick [4] (by kernel_rfl)) hr3068).mono ?_
                rintro e_ w3072 ⟨sg3069, rfl, ho3070, hl3071, K3073⟩
                have M3074 := M3064.callF' [4] [0, 1, 2, 3, 5, 6] (by kernel_rfl) K3073
                refine ⟨_, rfl, ?_⟩
                refine W_conv 83 (.agg #[.slice p2954 r2952.1.Items.length c2955, .int .i64 r2952.1.Head, .int .i64 r2952.1.Tail]) (.agg #[.slice p2954 r3068.2.length c2955, .int .i64 r2952.1.Head, .int .i64 r2952.1.Tail]) (by kernel_rfl) (by first | rw [hl3071] | rw [hl3071]) ?_
                have M3075 : Mem [] w w3072 [[(b2051, .cells ⟨[.slice p2046 x2044.Items.length c2047, .int .i64 x2044.Head, .int .i64 x2044.Tail]⟩ 33 (0, 0))], sg2526, sg2531, [(b2538, .cells ⟨[.slice p2524 r2522.1.Items.length c2525, .int .i64 r2522.1.Head, .int .i64 r2522.1.Tail]⟩ 27 (0, 0))], sg2961, [(b2968, .cells ⟨[.slice p2954 r3068.2.length c2955, .int .i64 r2952.1.Head, .int .i64 r2952.1.Tail]⟩ 27 (0, 0))], sg3069] := by rw [hl3071]; exact M3074
                refine W_run 1 [(1, .int .i64 x2049), (2, .pointer (some ⟨b2051, 0, none⟩)), (6, .pointer (some ⟨b2538, 0, none⟩)), (7, .slice p2529 r2522.2.1.length c2530), (8, .bool r2522.2.2), (10, .pointer (some ⟨b2968, 0, none⟩)), (11, .slice p2959 r2952.2.1.length c2960), (14, .int .i64 r3068.1)] w3072 (by kernel_rfl) ?_
                refine W_nil ?_
                refine N_then ?_
                refine G_seq ?_
                refine G_region ?_
                refine W_run 2 [(1, .int .i64 x2049), (2, .pointer (some ⟨b2051, 0, none⟩)), (6, .pointer (some ⟨b2538, 0, none⟩)), (7, .slice p2529 r2522.2.1.length c2530), (8, .bool r2522.2.2), (10, .pointer (some ⟨b2968, 0, none⟩)), (11, .slice p2959 r2952.2.1.length c2960), (14, .int .i64 r3068.1), (86, .slice p2959 r2952.2.1.length c2960), (87, .int .i64 r3068.1)] w3072 (by kernel_rfl) ?_
                obtain ⟨r3076, hr3076, hm⟩ := gx_bind hm
                refine W_call 28 #[.slice p2959 r2952.2.1.length c2960, .int .i64 r3068.1] (by kernel_rfl) (by kernel_rfl) ?_
                refine (c_l_markIntS w3072 r2952.2.1 p2959 c2960 sg2961 ho2962 r3068.1 (M3075.hasPick [4]) (M3075.nodupPick [4] (by kernel_rfl)) hr3076).mono ?_
                rintro e_ w3080 ⟨sg3077, rfl, ho3078, hl3079, K3081⟩
                have M3082 := M3075.callF' [4] [0, 1, 2, 3, 5, 6] (by kernel_rfl) K3081
                refine ⟨_, rfl, ?_⟩
                refine W_conv 11 (.slice p2959 r2952.2.1.length c2960) (.slice p2959 r3076.2.length c2960) (by kernel_rfl) (by first | rw [hl3079] | rw [hl3079]) ?_
                refine W_conv 86 (.slice p2959 r2952.2.1.length c2960) (.slice p2959 r3076.2.length c2960) (by kernel_rfl) (by first | rw [hl3079] | rw [hl3079]) ?_
                refine W_run 1 [(1, .int .i64 x2049), (2, .pointer (some ⟨b2051, 0, none⟩)), (6, .pointer (some ⟨b2538, 0, none⟩)), (7, .slice p2529 r2522.2.1.length c2530), (8, .bool r2522.2.2), (10, .pointer (some ⟨b2968, 0, none⟩)), (11, .slice p2959 r3076.2.length c2960), (14, .int .i64 r3076.1)] w3080 (by kernel_rfl) ?_
                refine W_nil ?_
                refine N_then ?_
                refine G_seq ?_
                refine G_region ?_
                refine W_run 1 [(1, .int .i64 x2049), (2, .pointer (some ⟨b2051, 0, none⟩)), (6, .pointer (some ⟨b2538, 0, none⟩)), (7, .slice p2529 r2522.2.1.length c2530), (8, .bool r2522.2.2), (10, .pointer (some ⟨b2968, 0, none⟩)), (11, .slice p2959 r3076.2.length c2960), (14, .int .i64 r3076.1), (15, .int .i64 1)] w3080 (by kernel_rfl) ?_
                refine W_nil ?_
                refine N_then ?_
                refine G_seq ?_
                refine G_region ?_
                refine W_val (.agg #[.slice p2954 r3068.2.length c2955, .int .i64 r2952.1.Head, .int .i64 r2952.1.Tail]) w3080 (by kernel_rfl) (E_load (e := 27) (fr := (0, 0)) _ _ true 3 b2968 0 [.slice p2954 r3068.2.length c2955, .int .i64 r2952.1.Head, .int .i64 r2952.1.Tail] (.agg #[.slice p2954 r3068.2.length c2955, .int .i64 r2952.1.Head, .int .i64 r2952.1.Tail]) rfl (by kernel_rfl) (by kernel_rfl) (by kernel_rfl) (M3082.blk 4 (b := b2968) (o := .cells ⟨[.slice p2954 r3068.2.length c2955, .int .i64 r2952.1.Head, .int .i64 r2952.1.Tail]⟩ 27 (0, 0)) (by kernel_rfl))) ?_
                refine W_run 1 [(1, .int .i64 x2049), (2, .pointer (some ⟨b2051, 0, none⟩)), (6, .pointer (some ⟨b2538, 0, none⟩)), (7, .slice p2529 r2522.2.1.length c2530), (8, .bool r2522.2.2), (10, .pointer (some ⟨b2968, 0, none⟩)), (11, .slice p2959 r3076.2.length c2960), (14, .int .i64 r3076.1), (15, .int .i64 1), (89, .agg #[.slice p2954 r3068.2.length c2955, .int .i64 r2952.1.Head, .int .i64 r2952.1.Tail]), (90, .int .i64 1)] w3080 (by kernel_rfl) ?_
                obtain ⟨r3083, hr3083, hm⟩ := gx_bind hm
                refine W_call 20 #[.agg #[.slice p2954 r3068.2.length c2955, .int .i64 r2952.1.Head, .int .i64 r2952.1.Tail], .int .i64 1] (by kernel_rfl) (by kernel_rfl) ?_
                refine (c_l_heldRing w3080 (⟨r3068.2, r2952.1.Head, r2952.1.Tail⟩ : Ring) p2954 c2955 (ho3070.rd M3082 5 (by kernel_rfl)) 1 hr3083).mono ?_
                rintro e_ w3084 ⟨rfl, K3085⟩
                have M3086 := M3082.call0 K3085
                refine ⟨_, rfl, ?_⟩
                refine W_run 1 [(1, .int .i64 x2049), (2, .pointer (some ⟨b2051, 0, none⟩)), (6, .pointer (some ⟨b2538, 0, none⟩)), (7, .slice p2529 r2522.2.1.length c2530), (8, .bool r2522.2.2), (10, .pointer (some ⟨b2968, 0, none⟩)), (11, .slice p2959 r3076.2.length c2960), (14, .int .i64 r3076.1), (15, .int .i64 r3083)] w3084 (by kernel_rfl) ?_
                refine W_nil ?_
                refine N_then ?_
                refine G_seq ?_
                refine G_seq ?_
                refine G_region ?_
                refine W_run 2 [(1, .int .i64 x2049), (2, .pointer (some ⟨b2051, 0, none⟩)), (6, .pointer (some ⟨b2538, 0, none⟩)), (7, .slice p2529 r2522.2.1.length c2530), (8, .bool r2522.2.2), (10, .pointer (some ⟨b2968, 0, none⟩)), (11, .slice p2959 r3076.2.length c2960), (14, .int .i64 r3076.1), (15, .int .i64 r3083), (93, .bool (decide (r3083 < 0)))] w3084 (by kernel_rfl) ?_
                refine W_nil ?_
                refine N_then ?_
                rcases gx_bif hm with ⟨hc3087, hm⟩ | ⟨hc3087, hm⟩
                · refine G_cond_t (b := (decide (r3083 < 0))) hc3087 (by kernel_rfl) ?_
                  refine G_seq ?_
                  refine G_region ?_
                  refine W_run 1 [(4, .bool false)] w3084 (by kernel_rfl) ?_
                  refine W_nil ?_
                  refine N_then ?_
                  refine G_ret ?_
                  refine N_then_ret ?_
                  obtain rfl := Option.some.inj hm
                  refine N_ret [.bool false] (RVs_cons (RV_tmp (by kernel_rfl)) RVs_nil) ?_
                  exact ⟨rfl, M3086.pick [] (by kernel_rfl)⟩
                · refine G_cond_f (b := (decide (r3083 < 0))) hc3087 (by kernel_rfl) ?_
                  refine G_skip ?_
                  refine N_then ?_
                  refine G_seq ?_
                  refine G_region ?_
                  refine W_run 2 [(1, .int .i64 x2049), (2, .pointer (some ⟨b2051, 0, none⟩)), (6, .pointer (some ⟨b2538, 0, none⟩)), (7, .slice p2529 r2522.2.1.length c2530), (8, .bool r2522.2.2), (10, .pointer (some ⟨b2968, 0, none⟩)), (11, .slice p2959 r3076.2.length c2960), (14, .int .i64 r3076.1), (15, .int .i64 r3083), (94, .slice p2959 r3076.2.length c2960), (95, .int .i64 r3083)] w3084 (by kernel_rfl) ?_
                  obtain ⟨r3088, hr3088, hm⟩ := gx_bind hm
                  refine W_call 29 #[.slice p2959 r3076.2.length c2960, .int .i64 r3083] (by kernel_rfl) (by kernel_rfl) ?_
                  refine (c_l_heldIntS w3084 r3076.2 p2959 c2960 (ho3078.rd M3086 6 (by kernel_rfl)) r3083 hr3088).mono ?_
                  rintro e_ w3089 ⟨rfl, K3090⟩
                  have M3091 := M3086.call0 K3090
                  refine ⟨_, rfl, ?_⟩
                  refine W_run 1 [(1, .int .i64 x2049), (2, .pointer (some ⟨b2051, 0, none⟩)), (6, .pointer (some ⟨b2538, 0, none⟩)), (7, .slice p2529 r2522.2.1.length c2530), (8, .bool r2522.2.2), (10, .pointer (some ⟨b2968, 0, none⟩)), (11, .slice p2959 r3076.2.length c2960), (14, .int .i64 r3076.1), (15, .int .i64 r3088)] w3089 (by kernel_rfl) ?_
                  refine W_nil ?_
                  refine N_then ?_
                  refine G_seq ?_
                  refine G_seq ?_
                  refine G_region ?_
                  refine W_run 2 [(1, .int .i64 x2049), (2, .pointer (some ⟨b2051, 0, none⟩)), (6, .pointer (some ⟨b2538, 0, none⟩)), (7, .slice p2529 r2522.2.1.length c2530), (8, .bool r2522.2.2), (10, .pointer (some ⟨b2968, 0, none⟩)), (11, .slice p2959 r3076.2.length c2960), (14, .int .i64 r3076.1), (15, .int .i64 r3088), (98, .bool (decide (r3088 < 0)))] w3089 (by kernel_rfl) ?_
                  refine W_nil ?_
                  refine N_then ?_
                  rcases gx_bif hm with ⟨hc3092, hm⟩ | ⟨hc3092, hm⟩
                  · refine G_cond_t (b := (decide (r3088 < 0))) hc3092 (by kernel_rfl) ?_
                    refine G_seq ?_
                    refine G_region ?_
                    refine W_run 1 [(4, .bool false)] w3089 (by kernel_rfl) ?_
                    refine W_nil ?_
                    refine N_then ?_
                    refine G_ret ?_
                    refine N_then_ret ?_
                    obtain rfl := Option.some.inj hm
                    refine N_ret [.bool false] (RVs_cons (RV_tmp (by kernel_rfl)) RVs_nil) ?_
                    exact ⟨rfl, M3091.pick [] (by kernel_rfl)⟩
                  · refine G_cond_f (b := (decide (r3088 < 0))) hc3092 (by kernel_rfl) ?_
                    refine G_skip ?_
                    refine N_then ?_
                    refine G_seq ?_
                    refine G_seq ?_
                    refine G_region ?_
                    refine W_run 3 [(1, .int .i64 x2049), (2, .pointer (some ⟨b2051, 0, none⟩)), (6, .pointer (some ⟨b2538, 0, none⟩)), (7, .slice p2529 r2522.2.1.length c2530), (8, .bool r2522.2.2), (10, .pointer (some ⟨b2968, 0, none⟩)), (11, .slice p2959 r3076.2.length c2960), (14, .int .i64 r3076.1), (101, .bool (r3088 != r3076.1))] w3089 (by kernel_rfl) ?_
                    refine W_nil ?_
                    refine N_then ?_
                    rcases gx_bif hm with ⟨hc3093, hm⟩ | ⟨hc3093, hm⟩
                    · refine G_cond_t (b := (r3088 != r3076.1)) hc3093 (by kernel_rfl) ?_
                      refine G_seq ?_
                      refine G_region ?_
                      refine W_run 1 [(4, .bool false)] w3089 (by kernel_rfl) ?_
                      refine W_nil ?_
                      refine N_then ?_
                      refine G_ret ?_
                      refine N_then_ret ?_
                      obtain rfl := Option.some.inj hm
                      refine N_ret [.bool false] (RVs_cons (RV_tmp (by kernel_rfl)) RVs_nil) ?_
                      exact ⟨rfl, M3091.pick [] (by kernel_rfl)⟩
                    · refine G_cond_f (b := (r3088 != r3076.1)) hc3093 (by kernel_rfl) ?_
                      refine G_skip ?_
                      refine N_then ?_
                      refine G_seq ?_
                      refine G_region ?_
                      refine W_val (.agg #[.slice p2046 x2044.Items.length c2047, .int .i64 x2044.Head, .int .i64 x2044.Tail]) w3089 (by kernel_rfl) (E_load (e := 33) (fr := (0, 0)) _ _ true 3 b2051 0 [.slice p2046 x2044.Items.length c2047, .int .i64 x2044.Head, .int .i64 x2044.Tail] (.agg #[.slice p2046 x2044.Items.length c2047, .int .i64 x2044.Head, .int .i64 x2044.Tail]) rfl (by kernel_rfl) (by kernel_rfl) (by kernel_rfl) (M3091.blk 0 (b := b2051) (o := .cells ⟨[.slice p2046 x2044.Items.length c2047, .int .i64 x2044.Head, .int .i64 x2044.Tail]⟩ 33 (0, 0)) (by kernel_rfl))) ?_
                      obtain ⟨r3094, hr3094, hm⟩ := gx_bind hm
                      refine W_call 23 #[.agg #[.slice p2046 x2044.Items.length c2047, .int .i64 x2044.Head, .int .i64 x2044.Tail]] (by kernel_rfl) (by kernel_rfl) ?_
                      refine (c_l_toRing w3089 x2044 p2046 c2047 (h2048.mem0 M3091) hr3094).mono ?_
                      rintro e_ w3100 ⟨p3096, c3097, sg3098, rfl, ho3099, K3101⟩
                      have M3102 := M3091.call K3101
                      refine ⟨_, rfl, ?_⟩
                      refine W_run 1 [(6, .pointer (some ⟨b2538, 0, none⟩)), (7, .slice p2529 r2522.2.1.length c2530), (8, .bool r2522.2.2), (10, .pointer (some ⟨b2968, 0, none⟩)), (11, .slice p2959 r3076.2.length c2960), (14, .int .i64 r3076.1), (104, .agg #[.slice p3096 r3094.Items.length c3097, .int .i64 r3094.Head, .int .i64 r3094.Tail]), (105, .int .i64 x2049)] w3100 (by kernel_rfl) ?_
                      obtain ⟨r3103, hr3103, hm⟩ := gx_bind hm
                      refine W_call 31 #[.agg #[.slice p3096 r3094.Items.length c3097, .int .i64 r3094.Head, .int .i64 r3094.Tail], .int .i64 x2049] (by kernel_rfl) (by kernel_rfl) ?_
                      refine (c_i_TakeWords w3100 r3094 p3096 c3097 (ho3099.rd M3102 7 (by kernel_rfl)) x2049 hr3103).mono ?_
                      rintro e_ w3114 ⟨p3105, c3106, sg3107, p3110, c3111, sg3112, rfl, ho3108, ho3113, K3115⟩
                      have M3116 := M3102.call K3115
                      refine ⟨_, rfl, ?_⟩
                      refine W_run 4 [(6, .pointer (some ⟨b2538, 0, none⟩)), (7, .slice p2529 r2522.2.1.length c2530), (8, .bool r2522.2.2), (10, .pointer (some ⟨b2968, 0, none⟩)), (11, .slice p2959 r3076.2.length c2960), (14, .int .i64 r3076.1), (107, .agg #[.slice p3105 r3103.1.Items.length c3106, .int .i64 r3103.1.Head, .int .i64 r3103.1.Tail]), (108, .slice p3110 r3103.2.1.length c3111), (109, .bool r3103.2.2)] w3114 (by kernel_rfl) ?_
                      refine W_new (fun b => .pointer (some ⟨b, 0, none⟩)) (.cells ⟨[.slice none 0 0, .int .i64 0, .int .i64 0]⟩ 27 (0, 0)) M3116 rfl (by kernel_rfl) (by kernel_rfl) ?_
                      intro b3119 w3120 M3121
                      refine W_store _ _ _ true 3 b3119 0 [.slice none 0 0, .int .i64 0, .int .i64 0] 27 (.agg #[.slice p3105 r3103.1.Items.length c3106, .int .i64 r3103.1.Head, .int .i64 r3103.1.Tail]) 10 [.slice p3105 r3103.1.Items.length c3106, .int .i64 r3103.1.Head, .int .i64 r3103.1.Tail] M3121 (by kernel_rfl) rfl (by kernel_rfl) (by kernel_rfl) (by kernel_rfl) (by kernel_rfl) (by kernel_rfl) (by kernel_rfl) (by kernel_rfl) (by kernel_rfl) ?_
                      intro w3122 M3123
                      refine W_run 2 [(6, .pointer (some ⟨b2538, 0, none⟩)), (7, .slice p2529 r2522.2.1.length c2530), (8, .bool r2522.2.2), (10, .pointer (some ⟨b2968, 0, none⟩)), (11, .slice p2959 r3076.2.length c2960), (14, .int .i64 r3076.1), (16, .pointer (some ⟨b3119, 0, none⟩)), (17, .slice p3110 r3103.2.1.length c3111), (18, .bool r3103.2.2)] w3122 (by kernel_rfl) ?_
                      refine W_nil ?_
                      refine N_then ?_
                      refine G_seq ?_
                      refine G_seq ?_
                      obtain ⟨o3134, ho3135, hm3136⟩ := gx_bind hm
                      refine G_meet (fun a w' => Mem [] w w' [[(b2968, .cells ⟨[.slice p2954 r3068.2.length c2955, .int .i64 r2952.1.Head, .int .i64 r2952.1.Tail]⟩ 27 (0, 0))], sg3069, sg3077] ∧ Sat Try.f7.ntmps [(10, .pointer (some ⟨b2968, 0, none⟩)), (11, .slice p2959 r3076.2.length c2960), (14, .int .i64 r3076.1), (124, .bool o3134)] a) ?_ ?_
                      · have hm := ho3135
                        refine G_region ?_
                        refine W_val (.agg #[.slice p3105 r3103.1.Items.length c3106, .int .i64 r3103.1.Head, .int .i64 r3103.1.Tail]) w3122 (by kernel_rfl) (E_load (e := 27) (fr := (0, 0)) _ _ true 3 b3119 0 [.slice p3105 r3103.1.Items.length c3106, .int .i64 r3103.1.Head, .int .i64 r3103.1.Tail] (.agg #[.slice p3105 r3103.1.Items.length c3106, .int .i64 r3103.1.Head, .int .i64 r3103.1.Tail]) rfl (by kernel_rfl) (by kernel_rfl) (by kernel_rfl) (M3123.blk 10 (b := b3119) (o := .cells ⟨[.slice p3105 r3103.1.Items.length c3106, .int .i64 r3103.1.Head, .int .i64 r3103.1.Tail]⟩ 27 (0, 0)) (by kernel_rfl))) ?_
                        refine W_val (.agg #[.slice p2524 r2522.1.Items.length c2525, .int .i64 r2522.1.Head, .int .i64 r2522.1.Tail]) w3122 (by kernel_rfl) (E_load (e := 27) (fr := (0, 0)) _ _ true 3 b2538 0 [.slice p2524 r2522.1.Items.length c2525, .int .i64 r2522.1.Head, .int .i64 r2522.1.Tail] (.agg #[.slice p2524 r2522.1.Items.length c2525, .int .i64 r2522.1.Head, .int .i64 r2522.1.Tail]) rfl (by kernel_rfl) (by kernel_rfl) (by kernel_rfl) (M3123.blk 3 (b := b2538) (o := .cells ⟨[.slice p2524 r2522.1.Items.length c2525, .int .i64 r2522.1.Head, .int .i64 r2522.1.Tail]⟩ 27 (0, 0)) (by kernel_rfl))) ?_
                        obtain ⟨r3137, hr3137, hm⟩ := gx_bind hm
                        refine W_call 18 #[.agg #[.slice p3105 r3103.1.Items.length c3106, .int .i64 r3103.1.Head, .int .i64 r3103.1.Tail], .agg #[.slice p2524 r2522.1.Items.length c2525, .int .i64 r2522.1.Head, .int .i64 r2522.1.Tail]] (by kernel_rfl) (by kernel_rfl) ?_
                        refine (c_l_eqRing w3122 r3103.1 p3105 c3106 (ho3108.rd M3123 8 (by kernel_rfl)) r2522.1 p2524 c2525 (ho2527.rd M3123 1 (by kernel_rfl)) hr3137).mono ?_
                        rintro e_ w3138 ⟨rfl, K3139⟩
                        have M3140 := M3123.call0 K3139
                        refine ⟨_, rfl, ?_⟩
                        refine W_run 2 [(7, .slice p2529 r2522.2.1.length c2530), (8, .bool r2522.2.2), (10, .pointer (some ⟨b2968, 0, none⟩)), (11, .slice p2959 r3076.2.length c2960), (14, .int .i64 r3076.1), (17, .slice p3110 r3103.2.1.length c3111), (18, .bool r3103.2.2), (114, .bool (!r3137))] w3138 (by kernel_rfl) ?_
                        rcases gx_bif hm with ⟨hc3141, hm⟩ | ⟨hc3141, hm⟩
                        · refine W_known 114 true (by kernel_rfl) hc3141 ?_
                          refine W_run 10 [(10, .pointer (some ⟨b2968, 0, none⟩)), (11, .slice p2959 r3076.2.length c2960), (14, .int .i64 r3076.1), (124, .bool true)] w3138 (by kernel_rfl) ?_
                          refine W_nil ?_
                          obtain rfl := Option.some.inj hm
                          exact N_meet fun a ha => ⟨M3140.pick [4, 5, 6] (by kernel_rfl), ha.sub (by kernel_rfl)⟩
                        · refine W_known 114 false (by kernel_rfl) hc3141 ?_
                          refine W_run 2 [(8, .bool r2522.2.2), (10, .pointer (some ⟨b2968, 0, none⟩)), (11, .slice p2959 r3076.2.length c2960), (14, .int .i64 r3076.1), (18, .bool r3103.2.2), (114, .bool false), (115, .slice p3110 r3103.2.1.length c3111), (116, .slice p2529 r2522.2.1.length c2530)] w3138 (by kernel_rfl) ?_
                          obtain ⟨r3142, hr3142, hm⟩ := gx_bind hm
                          refine W_call 27 #[.slice p3110 r3103.2.1.length c3111, .slice p2529 r2522.2.1.length c2530] (by kernel_rfl) (by kernel_rfl) ?_
                          refine (c_l_eqIntS w3138 r3103.2.1 p3110 c3111 (ho3113.rd M3140 9 (by kernel_rfl)) r2522.2.1 p2529 c2530 (ho2532.rd M3140 2 (by kernel_rfl)) hr3142).mono ?_
                          rintro e_ w3143 ⟨rfl, K3144⟩
                          have M3145 := M3140.call0 K3144
                          refine ⟨_, rfl, ?_⟩
                          refine W_run 3 [(8, .bool r2522.2.2), (10, .pointer (some ⟨b2968, 0, none⟩)), (11, .slice p2959 r3076.2.length c2960), (14, .int .i64 r3076.1), (18, .bool r3103.2.2), (120, .bool (!r3142))] w3143 (by kernel_rfl) ?_
                          rcases gx_bif hm with ⟨hc3146, hm⟩ | ⟨hc3146, hm⟩
                          · refine W_known 120 true (by kernel_rfl) hc3146 ?_
                            refine W_run 4 [(10, .pointer (some ⟨b2968, 0, none⟩)), (11, .slice p2959 r3076.2.length c2960), (14, .int .i64 r3076.1), (124, .bool true)] w3143 (by kernel_rfl) ?_
                            refine W_nil ?_
                            obtain rfl := Option.some.inj hm
                            exact N_meet fun a ha => ⟨M3145.pick [4, 5, 6] (by kernel_rfl), ha.sub (by kernel_rfl)⟩
                          · refine W_known 120 false (by kernel_rfl) hc3146 ?_
                            refine W_run 4 [(10, .pointer (some ⟨b2968, 0, none⟩)), (11, .slice p2959 r3076.2.length c2960), (14, .int .i64 r3076.1), (124, .bool (!(r3103.2.2 == r2522.2.2)))] w3143 (by kernel_rfl) ?_
                            refine W_nil ?_
                            obtain rfl := Option.some.inj hm
                            exact N_meet fun a ha => ⟨M3145.pick [4, 5, 6] (by kernel_rfl), ha.sub (by kernel_rfl)⟩
                      · intro a3149 w3147 ⟨M3148, hS3150⟩
                        refine N_use hS3150 ?_
                        have hm := hm3136
                        refine N_then ?_
                        rcases gx_bif hm with ⟨hc3151, hm⟩ | ⟨hc3151, hm⟩
                        · refine G_cond_t (b := o3134) hc3151 (by kernel_rfl) ?_
                          refine G_seq ?_
                          refine G_region ?_
                          refine W_run 1 [(4, .bool false)] w3147 (by kernel_rfl) ?_
                          refine W_nil ?_
                          refine N_then ?_
                          refine G_ret ?_
                          refine N_then_ret ?_
                          obtain rfl := Option.some.inj hm
                          refine N_ret [.bool false] (RVs_cons (RV_tmp (by kernel_rfl)) RVs_nil) ?_
                          exact ⟨rfl, M3148.pick [] (by kernel_rfl)⟩
                        · refine G_cond_f (b := o3134) hc3151 (by kernel_rfl) ?_
                          refine G_skip ?_
                          refine N_then ?_
                          refine G_seq ?_
                          refine G_region ?_
                          refine W_run 1 [(10, .pointer (some ⟨b2968, 0, none⟩)), (11, .slice p2959 r3076.2.length c2960), (14, .int .i64 r3076.1), (15, .int .i64 1)] w3147 (by kernel_rfl) ?_
                          refine W_nil ?_
                          refine N_then ?_
                          refine G_seq ?_
                          refine G_region ?_
                          refine W_val (.agg #[.slice p2954 r3068.2.length c2955, .int .i64 r2952.1.Head, .int .i64 r2952.1.Tail]) w3147 (by kernel_rfl) (E_load (e := 27) (fr := (0, 0)) _ _ true 3 b2968 0 [.slice p2954 r3068.2.length c2955, .int .i64 r2952.1.Head, .int .i64 r2952.1.Tail] (.agg #[.slice p2954 r3068.2.length c2955, .int .i64 r2952.1.Head, .int .i64 r2952.1.Tail]) rfl (by kernel_rfl) (by kernel_rfl) (by kernel_rfl) (M3148.blk 0 (b := b2968) (o := .cells ⟨[.slice p2954 r3068.2.length c2955, .int .i64 r2952.1.Head, .int .i64 r2952.1.Tail]⟩ 27 (0, 0)) (by kernel_rfl))) ?_
                          refine W_run 1 [(11, .slice p2959 r3076.2.length c2960), (14, .int .i64 r3076.1), (15, .int .i64 1), (125, .agg #[.slice p2954 r3068.2.length c2955, .int .i64 r2952.1.Head, .int .i64 r2952.1.Tail]), (126, .int .i64 1)] w3147 (by kernel_rfl) ?_
                          obtain ⟨r3152, hr3152, hm⟩ := gx_bind hm
                          refine W_call 20 #[.agg #[.slice p2954 r3068.2.length c2955, .int .i64 r2952.1.Head, .int .i64 r2952.1.Tail], .int .i64 1] (by kernel_rfl) (by kernel_rfl) ?_
                          refine (c_l_heldRing w3147 (⟨r3068.2, r2952.1.Head, r2952.1.Tail⟩ : Ring) p2954 c2955 (ho3070.rd M3148 1 (by kernel_rfl)) 1 hr3152).mono ?_
                          rintro e_ w3153 ⟨rfl, K3154⟩
                          have M3155 := M3148.call0 K3154
                          refine ⟨_, rfl, ?_⟩
                          refine W_run 1 [(11, .slice p2959 r3076.2.length c2960), (14, .int .i64 r3076.1), (15, .int .i64 r3152)] w3153 (by kernel_rfl) ?_
                          refine W_nil ?_
                          refine N_then ?_
                          refine G_seq ?_
                          refine G_seq ?_
                          refine G_region ?_
                          refine W_run 2 [(11, .slice p2959 r3076.2.length c2960), (14, .int .i64 r3076.1), (15, .int .i64 r3152), (129, .bool (decide (r3152 < 0)))] w3153 (by kernel_rfl) ?_
                          refine W_nil ?_
                          refine N_then ?_
                          rcases gx_bif hm with ⟨hc3156, hm⟩ | ⟨hc3156, hm⟩
                          · refine G_cond_t (b := (decide (r3152 < 0))) hc3156 (by kernel_rfl) ?_
                            refine G_seq ?_
                            refine G_region ?_
                            refine W_run 1 [(4, .bool false)] w3153 (by kernel_rfl) ?_
                            refine W_nil ?_
                            refine N_then ?_
                            refine G_ret ?_
                            refine N_then_ret ?_
                            obtain rfl := Option.some.inj hm
                            refine N_ret [.bool false] (RVs_cons (RV_tmp (by kernel_rfl)) RVs_nil) ?_
                            exact ⟨rfl, M3155.pick [] (by kernel_rfl)⟩
                          · refine G_cond_f (b := (decide (r3152 < 0))) hc3156 (by kernel_rfl) ?_
                            refine G_skip ?_
                            refine N_then ?_
                            refine G_seq ?_
                            refine G_region ?_
                            refine W_run 2 [(14, .int .i64 r3076.1), (15, .int .i64 r3152), (130, .slice p2959 r3076.2.length c2960), (131, .int .i64 r3152)] w3153 (by kernel_rfl) ?_
                            obtain ⟨r3157, hr3157, hm⟩ := gx_bind hm
                            refine W_call 29 #[.slice p2959 r3076.2.length c2960, .int .i64 r3152] (by kernel_rfl) (by kernel_rfl) ?_
                            refine (c_l_heldIntS w3153 r3076.2 p2959 c2960 (ho3078.rd M3155 2 (by kernel_rfl)) r3152 hr3157).mono ?_
                            rintro e_ w3158 ⟨rfl, K3159⟩
                            have M3160 := M3155.call0 K3159
                            refine ⟨_, rfl, ?_⟩
                            refine W_run 1 [(14, .int .i64 r3076.1), (15, .int .i64 r3157)] w3158 (by kernel_rfl) ?_
                            refine W_nil ?_
                            refine N_then ?_
                            refine G_seq ?_
                            refine G_seq ?_
                            refine G_region ?_
                            refine W_run 2 [(14, .int .i64 r3076.1), (15, .int .i64 r3157), (134, .bool (decide (r3157 < 0)))] w3158 (by kernel_rfl) ?_
                            refine W_nil ?_
                            refine N_then ?_
                            rcases gx_bif hm with ⟨hc3161, hm⟩ | ⟨hc3161, hm⟩
                            · refine G_cond_t (b := (decide (r3157 < 0))) hc3161 (by kernel_rfl) ?_
                              refine G_seq ?_
                              refine G_region ?_
                              refine W_run 1 [(4, .bool false)] w3158 (by kernel_rfl) ?_
                              refine W_nil ?_
                              refine N_then ?_
                              refine G_ret ?_
                              refine N_then_ret ?_
                              obtain rfl := Option.some.inj hm
                              refine N_ret [.bool false] (RVs_cons (RV_tmp (by kernel_rfl)) RVs_nil) ?_
                              exact ⟨rfl, M3160.pick [] (by kernel_rfl)⟩
                            · refine G_cond_f (b := (decide (r3157 < 0))) hc3161 (by kernel_rfl) ?_
                              refine G_skip ?_
                              refine N_then ?_
                              refine G_seq ?_
                              refine G_seq ?_
                              refine G_region ?_
                              refine W_run 3 [(137, .bool (r3157 != r3076.1))] w3158 (by kernel_rfl) ?_
                              refine W_nil ?_
                              refine N_then ?_
                              rcases gx_bif hm with ⟨hc3162, hm⟩ | ⟨hc3162, hm⟩
                              · refine G_cond_t (b := (r3157 != r3076.1)) hc3162 (by kernel_rfl) ?_
                                refine G_seq ?_
                                refine G_region ?_
                                refine W_run 1 [(4, .bool false)] w3158 (by kernel_rfl) ?_
                                refine W_nil ?_
                                refine N_then ?_
                                refine G_ret ?_
                                refine N_then_ret ?_
                                obtain rfl := Option.some.inj hm
                                refine N_ret [.bool false] (RVs_cons (RV_tmp (by kernel_rfl)) RVs_nil) ?_
                                exact ⟨rfl, M3160.pick [] (by kernel_rfl)⟩
                              · refine G_cond_f (b := (r3157 != r3076.1)) hc3162 (by kernel_rfl) ?_
                                refine G_skip ?_
                                refine N_then ?_
                                refine G_seq ?_
                                refine G_region ?_
                                refine W_run 1 [(4, .bool true)] w3158 (by kernel_rfl) ?_
                                refine W_nil ?_
                                refine N_then ?_
                                refine G_ret ?_
                                obtain rfl := Option.some.inj hm
                                refine N_ret [.bool true] (RVs_cons (RV_tmp (by kernel_rfl)) RVs_nil) ?_
                                exact ⟨rfl, M3160.pick [] (by kernel_rfl)⟩
theorem c_s_TakeWord (w : World) (x3186 : Ring) (p3188 : Option Addr) (c3189 : Nat) (h3190 : rdS encI w x3186.Items p3188 c3189) {r : Ring × Int × Bool} (hm : M.s_TakeWord x3186 = some r) :
    Calls Try.prog 32 #[.agg #[.slice p3188 x3186.Items.length c3189, .int .i64 x3186.Head, .int .i64 x3186.Tail]] w fun e w' => ∃ (p3192 : Option Addr) (c3193 : Nat) (sg3194 : Seg), e = .returned (.tuple #[.agg #[.slice p3192 r.1.Items.length c3193, .int .i64 r.1.Head, .int .i64 r.1.Tail], .int .i64 r.2.1, .bool r.2.2]) ∧ ownS encI r.1.Items p3192 c3193 sg3194 ∧ Mem [] w w' [sg3194] := by
  unfold M.s_TakeWord at hm
  refine C_enter Try.func32 rfl (by kernel_rfl) ?_
  have M0 := Mem.refl [] w
  refine G_seq ?_
  refine G_region ?_
  refine W_new (fun b => .pointer (some ⟨b, 0, none⟩)) (.cells ⟨[.slice p3188 x3186.Items.length c3189, .int .i64 x3186.Head, .int .i64 x3186.Tail]⟩ 27 (0, 0)) M0 rfl (by kernel_rfl) (by kernel_rfl) ?_
  intro b3196 w3197 M3198
  refine W_new (fun b => .pointer (some ⟨b, 0, none⟩)) (.cells ⟨[.slice none 0 0, .int .i64 0, .int .i64 0]⟩ 27 (0, 0)) M3198 rfl (by kernel_rfl) (by kernel_rfl) ?_
  intro b3201 w3202 M3203
  refine W_run 2 [(1, .pointer (some ⟨b3196, 0, none⟩)), (2, .pointer (some ⟨b3201, 0, none⟩))] w3202 (by kernel_rfl) ?_
  refine W_nil ?_
  refine N_then ?_
  refine G_seq ?_
  refine G_seq ?_
  obtain ⟨o3213, ho3214, hm3215⟩ := gx_bind hm
  refine G_meet (fun a w' => Mem [] w w' [[(b3196, .cells ⟨[.slice p3188 x3186.Items.length c3189, .int .i64 x3186.Head, .int .i64 x3186.Tail]⟩ 27 (0, 0))], [(b3201, .cells ⟨[.slice none 0 0, .int .i64 0, .int .i64 0]⟩ 27 (0, 0))]] ∧ Sat Try.f32.ntmps [(1, .pointer (some ⟨b3196, 0, none⟩)), (2, .pointer (some ⟨b3201, 0, none⟩)), (14, .bool o3213)] a) ?_ ?_
  · have hm := ho3214
    refine G_region ?_
    refine W_val (.agg #[.slice p3188 x3186.Items.length c3189, .int .i64 x3186.Head, .int .i64 x3186.Tail]) w3202 (by kernel_rfl) (E_load (e := 27) (fr := (0, 0)) _ _ true 3 b3196 0 [.slice p3188 x3186.Items.length c3189, .int .i64 x3186.Head, .int .i64 x3186.Tail] (.agg #[.slice p3188 x3186.Items.length c3189, .int .i64 x3186.Head, .int .i64 x3186.Tail]) rfl (by kernel_rfl) (by kernel_rfl) (by kernel_rfl) (M3203.blk 0 (b := b3196) (o := .cells ⟨[.slice p3188 x3186.Items.length c3189, .int .i64 x3186.Head, .int .i64 x3186.Tail]⟩ 27 (0, 0)) (by kernel_rfl))) ?_
    obtain ⟨r3216, hr3216, hm⟩ := gx_bind hm
    refine W_call 58 #[.agg #[.slice p3188 x3186.Items.length c3189, .int .i64 x3186.Head, .int .i64 x3186.Tail]] (by kernel_rfl) (by kernel_rfl) ?_
    refine (c_s_l20Good w3202 x3186 p3188 c3189 (h3190.mem0 M3203) hr3216).mono ?_
    rintro e_ w3217 ⟨rfl, K3218⟩
    have M3219 := M3203.call0 K3218
    refine ⟨_, rfl, ?_⟩
    refine W_run 2 [(1, .pointer (some ⟨b3196, 0, none⟩)), (2, .pointer (some ⟨b3201, 0, none⟩)), (10, .bool (!r3216))] w3217 (by kernel_rfl) ?_
    rcases gx_bif hm with ⟨hc3220, hm⟩ | ⟨hc3220, hm⟩
    · refine W_known 10 true (by kernel_rfl) hc3220 ?_
      refine W_run 4 [(1, .pointer (some ⟨b3196, 0, none⟩)), (2, .pointer (some ⟨b3201, 0, none⟩)), (14, .bool true)] w3217 (by kernel_rfl) ?_
      refine W_nil ?_
      obtain rfl := Option.some.inj hm
      exact N_meet fun a ha => ⟨M3219.pick [0, 1] (by kernel_rfl), ha.sub (by kernel_rfl)⟩
    · refine W_known 10 false (by kernel_rfl) hc3220 ?_
      refine W_val (.agg #[.slice p3188 x3186.Items.length c3189, .int .i64 x3186.Head, .int .i64 x3186.Tail]) w3217 (by kernel_rfl) (E_load (e := 27) (fr := (0, 0)) _ _ true 3 b3196 0 [.slice p3188 x3186.Items.length c3189, .int .i64 x3186.Head, .int .i64 x3186.Tail] (.agg #[.slice p3188 x3186.Items.length c3189, .int .i64 x3186.Head, .int .i64 x3186.Tail]) rfl (by kernel_rfl) (by kernel_rfl) (by kernel_rfl) (M3219.blk 0 (b := b3196) (o := .cells ⟨[.slice p3188 x3186.Items.length c3189, .int .i64 x3186.Head, .int .i64 x3186.Tail]⟩ 27 (0, 0)) (by kernel_rfl))) ?_
      obtain ⟨r3221, hr3221, hm⟩ := gx_bind hm
      refine W_call 63 #[.agg #[.slice p3188 x3186.Items.length c3189, .int .i64 x3186.Head, .int .i64 x3186.Tail]] (by kernel_rfl) (by kernel_rfl) ?_
      refine (c_s_l20Count w3217 x3186 p3188 c3189 (h3190.mem0 M3219) hr3221).mono ?_
      rintro e_ w3222 ⟨rfl, K3223⟩
      have M3224 := M3219.call0 K3223
      refine ⟨_, rfl, ?_⟩
      refine W_run 2 [(1, .pointer (some ⟨b3196, 0, none⟩)), (2, .pointer (some ⟨b3201, 0, none⟩)), (14, .bool (r3221 == 0))] w3222 (by kernel_rfl) ?_
      refine W_nil ?_
      obtain rfl := Option.some.inj hm
      exact N_meet fun a ha => ⟨M3224.pick [0, 1] (by kernel_rfl), ha.sub (by kernel_rfl)⟩
  · intro a3227 w3225 ⟨M3226, hS3228⟩
    refine N_use hS3228 ?_
    have hm := hm3215
    refine N_then ?_
    rcases gx_bif hm with ⟨hc3229, hm⟩ | ⟨hc3229, hm⟩
    · refine G_cond_t (b := o3213) hc3229 (by kernel_rfl) ?_
      refine G_seq ?_
      refine G_region ?_
      refine W_run 1 [(2, .pointer (some ⟨b3201, 0, none⟩)), (15, .agg #[.slice none 0 0, .int .i64 0, .int .i64 0])] w3225 (by kernel_rfl) ?_
      refine W_store _ _ _ true 3 b3201 0 [.slice none 0 0, .int .i64 0, .int .i64 0] 27 (.agg #[.slice none 0 0, .int .i64 0, .int .i64 0]) 1 [.slice none 0 0, .int .i64 0, .int .i64 0] M3226 (by kernel_rfl) rfl (by kernel_rfl) (by kernel_rfl) (by kernel_rfl) (by kernel_rfl) (by kernel_rfl) (by kernel_rfl) (by kernel_rfl) (by kernel_rfl) ?_
      intro w3231 M3232
      refine W_run 2 [(2, .pointer (some ⟨b3201, 0, none⟩)), (3, .int .i64 0), (4, .bool false)] w3231 (by kernel_rfl) ?_
      refine W_nil ?_
      refine N_then ?_
      refine G_ret ?_
      refine N_then_ret ?_
      obtain rfl := Option.some.inj hm
      refine N_ret [.agg #[.slice none 0 0, .int .i64 0, .int .i64 0], .int .i64 0, .bool false] (RVs_cons (RV_cell (g := true) (k := 3) (b := b3201) (off := 0) (cs := [.slice none 0 0, .int .i64 0, .int .i64 0]) (e := 27) (fr := (0, 0)) (v := .agg #[.slice none 0 0, .int .i64 0, .int .i64 0]) (M3232.blk 1 (b := b3201) (o := .cells ⟨[.slice none 0 0, .int .i64 0, .int .i64 0]⟩ 27 (0, 0)) (by kernel_rfl)) (by kernel_rfl) (by kernel_rfl) (by kernel_rfl)) (RVs_cons (RV_tmp (by kernel_rfl)) (RVs_cons (RV_tmp (by kernel_rfl)) RVs_nil))) ?_
      exact ⟨none, 0, [], rfl, ownS_nil, M3232.pick [100000] (by kernel_rfl)⟩
    · refine G_cond_f (b := o3213) hc3229 (by kernel_rfl) ?_
      refine G_skip ?_
      refine N_then ?_
      refine G_seq ?_
      refine G_region ?_
      refine W_val (.agg #[.slice p3188 x3186.Items.length c3189, .int .i64 x3186.Head, .int .i64 x3186.Tail]) w3225 (by kernel_rfl) (E_load (e := 27) (fr := (0, 0)) _ _ true 3 b3196 0 [.slice p3188 x3186.Items.length c3189, .int .i64 x3186.Head, .int .i64 x3186.Tail] (.agg #[.slice p3188 x3186.Items.length c3189, .int .i64 x3186.Head, .int .i64 x3186.Tail]) rfl (by kernel_rfl) (by kernel_rfl) (by kernel_rfl) (M3226.blk 0 (b := b3196) (o := .cells ⟨[.slice p3188 x3186.Items.length c3189, .int .i64 x3186.Head, .int .i64 x3186.Tail]⟩ 27 (0, 0)) (by kernel_rfl))) ?_
      obtain ⟨r3233, hr3233, hm⟩ := gx_bind hm
      refine W_call 64 #[.agg #[.slice p3188 x3186.Items.length c3189, .int .i64 x3186.Head, .int .i64 x3186.Tail]] (by kernel_rfl) (by kernel_rfl) ?_
      refine (c_s_l20Take w3225 x3186 p3188 c3189 (h3190.mem0 M3226) hr3233).mono ?_
      rintro e_ w3239 ⟨p3235, c3236, sg3237, rfl, ho3238, K3240⟩
      have M3241 := M3226.call K3240
      refine ⟨_, rfl, ?_⟩
      refine W_run 3 [(2, .pointer (some ⟨b3201, 0, none⟩)), (19, .agg #[.slice p3235 r3233.1.Items.length c3236, .int .i64 r3233.1.Head, .int .i64 r3233.1.Tail]), (20, .int .i64 r3233.2)] w3239 (by kernel_rfl) ?_
      refine W_new (fun b => .pointer (some ⟨b, 0, none⟩)) (.cells ⟨[.slice none 0 0, .int .i64 0, .int .i64 0]⟩ 27 (0, 0)) M3241 rfl (by kernel_rfl) (by kernel_rfl) ?_
      intro b3244 w3245 M3246
      refine W_store _ _ _ true 3 b3244 0 [.slice none 0 0, .int .i64 0, .int .i64 0] 27 (.agg #[.slice p3235 r3233.1.Items.length c3236, .int .i64 r3233.1.Head, .int .i64 r3233.1.Tail]) 3 [.slice p3235 r3233.1.Items.length c3236, .int .i64 r3233.1.Head, .int .i64 r3233.1.Tail] M3246 (by kernel_rfl) rfl (by kernel_rfl) (by kernel_rfl) (by kernel_rfl) (by kernel_rfl) (by kernel_rfl) (by kernel_rfl) (by kernel_rfl) (by kernel_rfl) ?_
      intro w3247 M3248
      refine W_run 1 [(2, .pointer (some ⟨b3201, 0, none⟩)), (5, .pointer (some ⟨b3244, 0, none⟩)), (6, .int .i64 r3233.2)] w3247 (by kernel_rfl) ?_
      refine W_nil ?_
      refine N_then ?_
      refine G_seq ?_
      refine G_region ?_
      refine W_val (.agg #[.slice p3235 r3233.1.Items.length c3236, .int .i64 r3233.1.Head, .int .i64 r3233.1.Tail]) w3247 (by kernel_rfl) (E_load (e := 27) (fr := (0, 0)) _ _ true 3 b3244 0 [.slice p3235 r3233.1.Items.length c3236, .int .i64 r3233.1.Head, .int .i64 r3233.1.Tail] (.agg #[.slice p3235 r3233.1.Items.length c3236, .int .i64 r3233.1.Head, .int .i64 r3233.1.Tail]) rfl (by kernel_rfl) (by kernel_rfl) (by kernel_rfl) (M3248.blk 3 (b := b3244) (o := .cells ⟨[.slice p3235 r3233.1.Items.length c3236, .int .i64 r3233.1.Head, .int .i64 r3233.1.Tail]⟩ 27 (0, 0)) (by kernel_rfl))) ?_
      refine W_run 1 [(2, .pointer (some ⟨b3201, 0, none⟩)), (21, .agg #[.slice p3235 r3233.1.Items.length c3236, .int .i64 r3233.1.Head, .int .i64 r3233.1.Tail]), (22, .int .i64 r3233.2)] w3247 (by kernel_rfl) ?_
      refine W_store _ _ _ true 3 b3201 0 [.slice none 0 0, .int .i64 0, .int .i64 0] 27 (.agg #[.slice p3235 r3233.1.Items.length c3236, .int .i64 r3233.1.Head, .int .i64 r3233.1.Tail]) 1 [.slice p3235 r3233.1.Items.length c3236, .int .i64 r3233.1.Head, .int .i64 r3233.1.Tail] M3248 (by kernel_rfl) rfl (by kernel_rfl) (by kernel_rfl) (by kernel_rfl) (by kernel_rfl) (by kernel_rfl) (by kernel_rfl) (by kernel_rfl) (by kernel_rfl) ?_
      intro w3249 M3250
      refine W_run 2 [(2, .pointer (some ⟨b3201, 0, none⟩)), (3, .int .i64 r3233.2), (4, .bool true)] w3249 (by kernel_rfl) ?_
      refine W_nil ?_
      refine N_then ?_
      refine G_ret ?_
      obtain rfl := Option.some.inj hm
      refine N_ret [.agg #[.slice p3235 r3233.1.Items.length c3236, .int .i64 r3233.1.Head, .int .i64 r3233.1.Tail], .int .i64 r3233.2, .bool true] (RVs_cons (RV_cell (g := true) (k := 3) (b := b3201) (off := 0) (cs := [.slice p3235 r3233.1.Items.length c3236, .int .i64 r3233.1.Head, .int .i64 r3233.1.Tail]) (e := 27) (fr := (0, 0)) (v := .agg #[.slice p3235 r3233.1.Items.length c3236, .int .i64 r3233.1.Head, .int .i64 r3233.1.Tail]) (M3250.blk 1 (b := b3201) (o := .cells ⟨[.slice p3235 r3233.1.Items.length c3236, .int .i64 r3233.1.Head, .int .i64 r3233.1.Tail]⟩ 27 (0, 0)) (by kernel_rfl)) (by kernel_rfl) (by kernel_rfl) (by kernel_rfl)) (RVs_cons (RV_tmp (by kernel_rfl)) (RVs_cons (RV_tmp (by kernel_rfl)) RVs_nil))) ?_
      exact ⟨p3235, c3236, sg3237, rfl, ho3238, M3250.pick [2] (by kernel_rfl)⟩
end Go.Proofs.Ytopnablbecepjaa
