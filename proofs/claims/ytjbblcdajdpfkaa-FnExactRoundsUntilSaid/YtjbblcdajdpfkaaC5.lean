/- The walks, printed by program: whenever the model gives r, the call returns r. Part 5. -/
import Derived.Test.YtjbblcdajdpfkaaM
import Derived.Test.YtjbblcdajdpfkaaProg
import Derived.Test.YtjbblcdajdpfkaaC4
set_option linter.unusedVariables false
set_option maxRecDepth 100000
set_option maxHeartbeats 4000000
namespace Go.Proofs.Ytjbblcdajdpfkaa
open Go.Gx
theorem c_slices_IndexFunc_106__i_areRounds_1 (w : World) (x7978 : List (List Store)) (p7980 : Option Addr) (c7981 : Nat) (h7982 : rdD (deepL encStore) w x7978 p7980 c7981) (x7983 : Copying) (p7985 : Option Addr) (c7986 : Nat) (h7987 : rdS encI w x7983.Memory p7985 c7986) (p7989 : Option Addr) (c7990 : Nat) (h7991 : rdS encI w x7983.Copy p7989 c7990) (p7993 : Option Addr) (c7994 : Nat) (h7995 : rdS encB w x7983.Dirty p7993 c7994) (b7996 : Nat) (hb7997 : w.heap[b7996]? = some (.cells ⟨[.slice p7985 x7983.Memory.length c7986, .slice p7989 x7983.Copy.length c7990, .slice p7993 x7983.Dirty.length c7994]⟩ 28 (0, 0))) {r : Int} (hm : M.slices_IndexFunc_106__i_areRounds_1 x7978 x7983 = some r) :
    Calls Try.prog 106 #[.slice p7980 x7978.length c7981, .func (.func 98) #[] #[.pointer (some ⟨b7996, 0, none⟩)]] w fun e w' => e = .returned (.int .i64 r) ∧ Mem [] w w' [] := by
  unfold M.slices_IndexFunc_106__i_areRounds_1 at hm
  refine C_enter Try.func106 rfl (by kernel_rfl) ?_
  have M0 := Mem.refl [] w
  refine G_seq ?_
  refine G_region ?_
  refine W_run 1 [(0, .slice p7980 x7978.length c7981), (1, .func (.func 98) #[] #[.pointer (some ⟨b7996, 0, none⟩)])] w (by kernel_rfl) ?_
  refine W_nil ?_
  refine N_then ?_
  refine G_seq ?_
  refine G_seq ?_
  refine G_region ?_
  refine W_run 3 [(0, .slice p7980 x7978.length c7981), (1, .func (.func 98) #[] #[.pointer (some ⟨b7996, 0, none⟩)]), (7, .int .i64 (x7978.length : Int)), (8, .int .i64 0)] w (by kernel_rfl) ?_
  refine W_nil ?_
  refine N_then ?_
  obtain ⟨out8179, hw8180, hmo8181⟩ := gx_bind hm
  refine G_meet (fun a w' => ∃ (o8182 : Unit), out8179 = .inl o8182 ∧ Mem [] w w' [] ∧ Sat Try.f106.ntmps [] a) ?_ ?_
  · refine G_block ?_
    refine G_while (σ := Int) (ρ := (Unit) ⊕ (Int)) (fun s8172 a w' => Mem [] w w' [] ∧ Sat Try.f106.ntmps [(0, .slice p7980 x7978.length c7981), (1, .func (.func 98) #[] #[.pointer (some ⟨b7996, 0, none⟩)]), (7, .int .i64 (x7978.length : Int)), (8, .int .i64 s8172)] a) hw8180 (fun a ha => ⟨M0.pick [] (by kernel_rfl), ha.sub (by kernel_rfl)⟩) ?_
    clear hm
    intro s8172 x8173 hm hout8174 a8175 w8176 ⟨M8177, hS8178⟩
    refine G_use hS8178 ?_
    refine G_seq ?_
    refine G_region ?_
    refine W_run 1 [(0, .slice p7980 x7978.length c7981), (1, .func (.func 98) #[] #[.pointer (some ⟨b7996, 0, none⟩)]), (7, .int .i64 (x7978.length : Int)), (8, .int .i64 s8172), (9, .bool (decide (s8172 < (x7978.length : Int))))] w8176 (by kernel_rfl) ?_
    refine W_nil ?_
    refine N_then ?_
    refine G_seq ?_
    rcases gx_bif hm with ⟨hc8183, hm⟩ | ⟨hc8183, hm⟩
    · refine G_cond_t (b := (decide (s8172 < (x7978.length : Int)))) hc8183 (by kernel_rfl) ?_
      refine G_skip ?_
      refine N_then ?_
      refine G_seq ?_
      refine G_block ?_
      refine G_seq ?_
      refine G_region ?_
      refine W_run 2 [(0, .slice p7980 x7978.length c7981), (1, .func (.func 98) #[] #[.pointer (some ⟨b7996, 0, none⟩)]), (5, .int .i64 s8172), (7, .int .i64 (x7978.length : Int)), (8, .int .i64 s8172)] w8176 (by kernel_rfl) ?_
      refine W_nil ?_
      refine N_then ?_
      refine G_seq ?_
      refine G_region ?_
      refine W_run 3 [(0, .slice p7980 x7978.length c7981), (1, .func (.func 98) #[] #[.pointer (some ⟨b7996, 0, none⟩)]), (5, .int .i64 s8172), (7, .int .i64 (x7978.length : Int)), (8, .int .i64 s8172), (11, .func (.func 98) #[] #[.pointer (some ⟨b7996, 0, none⟩)]), (12, .slice p7980 x7978.length c7981), (13, .int .i64 s8172)] w8176 (by kernel_rfl) ?_
      obtain ⟨y8184, hy8184, hm⟩ := gx_bind hm
      obtain ⟨zs8185, hz8186, hr8187, hi8188⟩ := id h7982
      obtain ⟨g8189, hg8190⟩ := gxIdx_fst hz8186 hy8184
      refine W_val (elemP p7980 (s8172.toNat * 1)) w8176 (by kernel_rfl) (E_index (E := (deepL encStore).E) _ _ _ x7978.length c7981 .i64 s8172 1 (y := (y8184, g8189)) rfl (by kernel_rfl) (by kernel_rfl) (by kernel_rfl) (hr8187.mem0 M8177) (len_fst hz8186) hg8190) ?_
      refine W_val (.slice ((g8189 0).1) y8184.length ((g8189 0).2)) w8176 (by kernel_rfl) (E_loadE (E := (deepL encStore).E) _ _ false 1 s8172 0 (s8172.toNat * 1) (y8184, g8189) (.slice ((g8189 0).1) y8184.length ((g8189 0).2)) rfl (by kernel_rfl) (by kernel_rfl) (by kernel_rfl) (hr8187.mem0 M8177) hg8190 rfl) ?_
      obtain ⟨r8192, hr8192, hm⟩ := gx_bind hm
      refine W_call 98 #[.slice ((g8189 0).1) y8184.length ((g8189 0).2), .pointer (some ⟨b7996, 0, none⟩)] (by kernel_rfl) (by kernel_rfl) ?_
      refine (c_i_areRounds_1 w8176 y8184 ((g8189 0).1) ((g8189 0).2) ((hi8188.mem0 M8177).at_ hg8190 0 ⟨Store, encStore, y8184, (g8189 0).1, (g8189 0).2⟩ (by kernel_rfl)) x7983 p7985 c7986 (h7987.mem0 M8177) p7989 c7990 (h7991.mem0 M8177) p7993 c7994 (h7995.mem0 M8177) b7996 (M8177.ro hb7997) hr8192).mono ?_
      rintro e_ w8193 ⟨rfl, K8194⟩
      have M8195 := M8177.call0 K8194
      refine ⟨_, rfl, ?_⟩
      refine W_nil ?_
      refine N_then ?_
      rcases gx_bif hm with ⟨hc8196, hm⟩ | ⟨hc8196, hm⟩
      · refine G_cond_t (b := r8192) hc8196 (by kernel_rfl) ?_
        refine G_seq ?_
        refine G_region ?_
        refine W_run 2 [(4, .int .i64 s8172)] w8193 (by kernel_rfl) ?_
        refine W_nil ?_
        refine N_then ?_
        refine G_ret ?_
        refine N_block_ret ?_
        refine N_then_ret ?_
        refine N_then_ret ?_
        obtain rfl := Option.some.inj hm
        obtain rfl := hout8174 _ rfl
        have hm := hmo8181; simp only [Sum.elim_inr] at hm
        refine N_block_ret ?_
        refine N_meet_ret ?_
        refine N_then_ret ?_
        obtain rfl := Option.some.inj hm
        refine N_ret [.int .i64 s8172] (RVs_cons (RV_tmp (by kernel_rfl)) RVs_nil) ?_
        exact ⟨rfl, M8195.pick [] (by kernel_rfl)⟩
      · refine G_cond_f (b := r8192) hc8196 (by kernel_rfl) ?_
        refine G_skip ?_
        refine N_block ?_
        refine N_then ?_
        refine G_region ?_
        refine W_run 2 [(0, .slice p7980 x7978.length c7981), (1, .func (.func 98) #[] #[.pointer (some ⟨b7996, 0, none⟩)]), (7, .int .i64 (x7978.length : Int)), (8, .int .i64 (w64 (s8172 + 1)))] w8193 (by kernel_rfl) ?_
        refine W_nil ?_
        obtain rfl := Option.some.inj hm
        exact N_loop fun a ha => ⟨_, rfl, M8195.pick [] (by kernel_rfl), ha.sub (by kernel_rfl)⟩
    · refine G_cond_f (b := (decide (s8172 < (x7978.length : Int)))) hc8183 (by kernel_rfl) ?_
      refine G_exit ?_
      refine N_then_exit ?_
      refine N_then_exit ?_
      refine N_block_eq ?_
      obtain rfl := Option.some.inj hm
      obtain rfl := hout8174 _ rfl
      exact N_meet fun a ha => ⟨_, rfl, M8177.pick [] (by kernel_rfl), ha.sub (by kernel_rfl)⟩
  · intro a8197 w8198 ⟨o8182, hout_, M8199, hS8200⟩
    refine N_use hS8200 ?_
    subst hout_
    have hm := hmo8181; simp only [Sum.elim_inl] at hm
    refine N_then ?_
    refine G_seq ?_
    refine G_region ?_
    refine W_run 1 [(4, .int .i64 (-1))] w8198 (by kernel_rfl) ?_
    refine W_nil ?_
    refine N_then ?_
    refine G_ret ?_
    obtain rfl := Option.some.inj hm
    refine N_ret [.int .i64 (-1)] (RVs_cons (RV_tmp (by kernel_rfl)) RVs_nil) ?_
    exact ⟨rfl, M8199.pick [] (by kernel_rfl)⟩
theorem c_slices_ContainsFunc_97__i_areRounds_1 (w : World) (x7957 : List (List Store)) (p7959 : Option Addr) (c7960 : Nat) (h7961 : rdD (deepL encStore) w x7957 p7959 c7960) (x7962 : Copying) (p7964 : Option Addr) (c7965 : Nat) (h7966 : rdS encI w x7962.Memory p7964 c7965) (p7968 : Option Addr) (c7969 : Nat) (h7970 : rdS encI w x7962.Copy p7968 c7969) (p7972 : Option Addr) (c7973 : Nat) (h7974 : rdS encB w x7962.Dirty p7972 c7973) (b7975 : Nat) (hb7976 : w.heap[b7975]? = some (.cells ⟨[.slice p7964 x7962.Memory.length c7965, .slice p7968 x7962.Copy.length c7969, .slice p7972 x7962.Dirty.length c7973]⟩ 28 (0, 0))) {r : Bool} (hm : M.slices_ContainsFunc_97__i_areRounds_1 x7957 x7962 = some r) :
    Calls Try.prog 97 #[.slice p7959 x7957.length c7960, .func (.func 98) #[] #[.pointer (some ⟨b7975, 0, none⟩)]] w fun e w' => e = .returned (.bool r) ∧ Mem [] w w' [] := by
  unfold M.slices_ContainsFunc_97__i_areRounds_1 at hm
  refine C_enter Try.func97 rfl (by kernel_rfl) ?_
  have M0 := Mem.refl [] w
  refine G_seq ?_
  refine G_region ?_
  refine W_run 1 [(0, .slice p7959 x7957.length c7960), (1, .func (.func 98) #[] #[.pointer (some ⟨b7975, 0, none⟩)])] w (by kernel_rfl) ?_
  refine W_nil ?_
  refine N_then ?_
  refine G_seq ?_
  refine G_region ?_
  refine W_run 2 [(5, .slice p7959 x7957.length c7960), (6, .func (.func 98) #[] #[.pointer (some ⟨b7975, 0, none⟩)])] w (by kernel_rfl) ?_
  obtain ⟨r8201, hr8201, hm⟩ := gx_bind hm
  refine W_call 106 #[.slice p7959 x7957.length c7960, .func (.func 98) #[] #[.pointer (some ⟨b7975, 0, none⟩)]] (by kernel_rfl) (by kernel_rfl) ?_
  refine (c_slices_IndexFunc_106__i_areRounds_1 w x7957 p7959 c7960 (h7961.mem0 M0) x7962 p7964 c7965 (h7966.mem0 M0) p7968 c7969 (h7970.mem0 M0) p7972 c7973 (h7974.mem0 M0) b7975 (M0.ro hb7976) hr8201).mono ?_
  rintro e_ w8202 ⟨rfl, K8203⟩
  have M8204 := M0.call0 K8203
  refine ⟨_, rfl, ?_⟩
  refine W_run 2 [(4, .bool (decide (r8201 ≥ 0)))] w8202 (by kernel_rfl) ?_
  refine W_nil ?_
  refine N_then ?_
  refine G_ret ?_
  obtain rfl := Option.some.inj hm
  refine N_ret [.bool (decide (r8201 ≥ 0))] (RVs_cons (RV_tmp (by kernel_rfl)) RVs_nil) ?_
  exact ⟨rfl, M8204.pick [] (by kernel_rfl)⟩
theorem c_i_areRounds (w : World) (x7923 : Copying) (p7925 : Option Addr) (c7926 : Nat) (h7927 : rdS encI w x7923.Memory p7925 c7926) (p7929 : Option Addr) (c7930 : Nat) (h7931 : rdS encI w x7923.Copy p7929 c7930) (p7933 : Option Addr) (c7934 : Nat) (h7935 : rdS encB w x7923.Dirty p7933 c7934) (x7936 : List (List Store)) (p7938 : Option Addr) (c7939 : Nat) (h7940 : rdD (deepL encStore) w x7936 p7938 c7939) (x7941 : Int) {r : Bool} (hm : M.i_areRounds x7923 x7936 x7941 = some r) :
    Calls Try.prog 80 #[.agg #[.slice p7925 x7923.Memory.length c7926, .slice p7929 x7923.Copy.length c7930, .slice p7933 x7923.Dirty.length c7934], .slice p7938 x7936.length c7939, .int .i64 x7941] w fun e w' => e = .returned (.bool r) ∧ Mem [] w w' [] := by
  unfold M.i_areRounds at hm
  refine C_enter Try.func80 rfl (by kernel_rfl) ?_
  have M0 := Mem.refl [] w
  refine G_seq ?_
  refine G_region ?_
  refine W_new (fun b => .pointer (some ⟨b, 0, none⟩)) (.cells ⟨[.slice p7925 x7923.Memory.length c7926, .slice p7929 x7923.Copy.length c7930, .slice p7933 x7923.Dirty.length c7934]⟩ 28 (0, 0)) M0 rfl (by kernel_rfl) (by kernel_rfl) ?_
  intro b7943 w7944 M7945
  refine W_run 1 [(1, .slice p7938 x7936.length c7939), (2, .int .i64 x7941), (3, .pointer (some ⟨b7943, 0, none⟩))] w7944 (by kernel_rfl) ?_
  refine W_nil ?_
  refine N_then ?_
  refine G_seq ?_
  obtain ⟨o8209, ho8210, hm8211⟩ := gx_bind hm
  refine G_meet (fun a w' => Mem [] w w' [] ∧ Sat Try.f80.ntmps [(6, .bool o8209)] a) ?_ ?_
  · have hm := ho8210
    refine G_region ?_
    refine W_val (.agg #[.slice p7925 x7923.Memory.length c7926, .slice p7929 x7923.Copy.length c7930, .slice p7933 x7923.Dirty.length c7934]) w7944 (by kernel_rfl) (E_load (e := 28) (fr := (0, 0)) _ _ true 3 b7943 0 [.slice p7925 x7923.Memory.length c7926, .slice p7929 x7923.Copy.length c7930, .slice p7933 x7923.Dirty.length c7934] (.agg #[.slice p7925 x7923.Memory.length c7926, .slice p7929 x7923.Copy.length c7930, .slice p7933 x7923.Dirty.length c7934]) rfl (by kernel_rfl) (by kernel_rfl) (by kernel_rfl) (M7945.blk 0 (b := b7943) (o := .cells ⟨[.slice p7925 x7923.Memory.length c7926, .slice p7929 x7923.Copy.length c7930, .slice p7933 x7923.Dirty.length c7934]⟩ 28 (0, 0)) (by kernel_rfl))) ?_
    obtain ⟨r8212, hr8212, hm⟩ := gx_bind hm
    refine W_call 16 #[.agg #[.slice p7925 x7923.Memory.length c7926, .slice p7929 x7923.Copy.length c7930, .slice p7933 x7923.Dirty.length c7934]] (by kernel_rfl) (by kernel_rfl) ?_
    refine (c_i_IsCopying w7944 x7923 p7925 c7926 (h7927.mem0 M7945) p7929 c7930 (h7931.mem0 M7945) p7933 c7934 (h7935.mem0 M7945) hr8212).mono ?_
    rintro e_ w8213 ⟨rfl, K8214⟩
    have M8215 := M7945.call0 K8214
    refine ⟨_, rfl, ?_⟩
    refine W_run 1 [(1, .slice p7938 x7936.length c7939), (2, .int .i64 x7941), (3, .pointer (some ⟨b7943, 0, none⟩)), (9, .bool r8212)] w8213 (by kernel_rfl) ?_
    rcases gx_bif hm with ⟨hc8216, hm⟩ | ⟨hc8216, hm⟩
    · refine W_known 9 true (by kernel_rfl) hc8216 ?_
      refine W_run 5 [(1, .slice p7938 x7936.length c7939), (2, .int .i64 x7941), (3, .pointer (some ⟨b7943, 0, none⟩)), (14, .bool (decide ((x7936.length : Int) ≤ 8)))] w8213 (by kernel_rfl) ?_
      rcases gx_bif hm with ⟨hc8217, hm⟩ | ⟨hc8217, hm⟩
      · refine W_known 14 true (by kernel_rfl) hc8217 ?_
        refine W_run 1 [(1, .slice p7938 x7936.length c7939), (3, .pointer (some ⟨b7943, 0, none⟩)), (14, .bool true), (15, .int .i64 x7941)] w8213 (by kernel_rfl) ?_
        obtain ⟨r8218, hr8218, hm⟩ := gx_bind hm
        refine W_call 74 #[.int .i64 x7941, .int .i64 0, .int .i64 12] (by kernel_rfl) (by kernel_rfl) ?_
        refine (c_i_inside w8213 x7941 0 12 hr8218).mono ?_
        rintro e_ w8219 ⟨rfl, K8220⟩
        have M8221 := M8215.call0 K8220
        refine ⟨_, rfl, ?_⟩
        refine W_run 2 [(1, .slice p7938 x7936.length c7939), (3, .pointer (some ⟨b7943, 0, none⟩)), (18, .bool r8218)] w8219 (by kernel_rfl) ?_
        rcases gx_bif hm with ⟨hc8222, hm⟩ | ⟨hc8222, hm⟩
        · refine W_known 18 true (by kernel_rfl) hc8222 ?_
          refine W_run 2 [(18, .bool true), (19, .slice p7938 x7936.length c7939), (20, .func (.func 98) #[] #[.pointer (some ⟨b7943, 0, none⟩)])] w8219 (by kernel_rfl) ?_
          obtain ⟨r8223, hr8223, hm⟩ := gx_bind hm
          refine W_call 97 #[.slice p7938 x7936.length c7939, .func (.func 98) #[] #[.pointer (some ⟨b7943, 0, none⟩)]] (by kernel_rfl) (by kernel_rfl) ?_
          refine (c_slices_ContainsFunc_97__i_areRounds_1 w8219 x7936 p7938 c7939 (h7940.mem0 M8221) x7923 p7925 c7926 (h7927.mem0 M8221) p7929 c7930 (h7931.mem0 M8221) p7933 c7934 (h7935.mem0 M8221) b7943 (M8221.blk 0 (b := b7943) (o := .cells ⟨[.slice p7925 x7923.Memory.length c7926, .slice p7929 x7923.Copy.length c7930, .slice p7933 x7923.Dirty.length c7934]⟩ 28 (0, 0)) (by kernel_rfl)) hr8223).mono ?_
          rintro e_ w8224 ⟨rfl, K8225⟩
          have M8226 := M8221.call0 K8225
          refine ⟨_, rfl, ?_⟩
          refine W_run 3 [(6, .bool (!r8223))] w8224 (by kernel_rfl) ?_
          refine W_nil ?_
          obtain rfl := Option.some.inj hm
          exact N_meet fun a ha => ⟨M8226.pick [] (by kernel_rfl), ha.sub (by kernel_rfl)⟩
        · refine W_known 18 false (by kernel_rfl) hc8222 ?_
          refine W_run 6 [(6, .bool false)] w8219 (by kernel_rfl) ?_
          refine W_nil ?_
          obtain rfl := Option.some.inj hm
          exact N_meet fun a ha => ⟨M8221.pick [] (by kernel_rfl), ha.sub (by kernel_rfl)⟩
      · refine W_known 14 false (by kernel_rfl) hc8217 ?_
        refine W_run 10 [(6, .bool false)] w8213 (by kernel_rfl) ?_
        refine W_nil ?_
        obtain rfl := Option.some.inj hm
        exact N_meet fun a ha => ⟨M8215.pick [] (by kernel_rfl), ha.sub (by kernel_rfl)⟩
    · refine W_known 9 false (by kernel_rfl) hc8216 ?_
      refine W_run 15 [(6, .bool false)] w8213 (by kernel_rfl) ?_
      refine W_nil ?_
      obtain rfl := Option.some.inj hm
      exact N_meet fun a ha => ⟨M8215.pick [] (by kernel_rfl), ha.sub (by kernel_rfl)⟩
  · intro a8229 w8227 ⟨M8228, hS8230⟩
    refine N_use hS8230 ?_
    have hm := hm8211
    refine N_then ?_
    refine G_ret ?_
    obtain rfl := Option.some.inj hm
    refine N_ret [.bool o8209] (RVs_cons (RV_tmp (by kernel_rfl)) RVs_nil) ?_
    exact ⟨rfl, M8228.pick [] (by kernel_rfl)⟩
theorem c_i_Copying_roundWith (w : World) (x8296 : Copying) (p8300 : Option Addr) (c8301 : Nat) (sg8302 : Seg) (ho8303 : ownS encI x8296.Memory p8300 c8301 sg8302) (p8305 : Option Addr) (c8306 : Nat) (sg8307 : Seg) (ho8308 : ownS encI x8296.Copy p8305 c8306 sg8307) (p8310 : Option Addr) (c8311 : Nat) (sg8312 : Seg) (ho8313 : ownS encB x8296.Dirty p8310 c8311 sg8312) (b8298 : Nat) (x8314 : List Store) (p8316 : Option Addr) (c8317 : Nat) (h8318 : rdS encStore w x8314 p8316 c8317) (x8320 : Int) (hA : ∀ q ∈ List.flatten [[(b8298, .cells ⟨[.slice p8300 x8296.Memory.length c8301, .slice p8305 x8296.Copy.length c8306, .slice p8310 x8296.Dirty.length c8311]⟩ 28 (0, 0))], sg8302, sg8307, sg8312], w.heap[q.1]? = some q.2) (hN : (idsOf [[(b8298, .cells ⟨[.slice p8300 x8296.Memory.length c8301, .slice p8305 x8296.Copy.length c8306, .slice p8310 x8296.Dirty.length c8311]⟩ 28 (0, 0))], sg8302, sg8307, sg8312]).Nodup) (hap8319 : apartX (idsOf [[(b8298, .cells ⟨[.slice p8300 x8296.Memory.length c8301, .slice p8305 x8296.Copy.length c8306, .slice p8310 x8296.Dirty.length c8311]⟩ 28 (0, 0))], sg8302, sg8307, sg8312]) x8314 p8316) {r : Int × (List Int) × (List Int) × (List Bool)} (hm : M.i_Copying_roundWith x8296 x8314 x8320 = some r) :
    Calls Try.prog 81 #[.pointer (some ⟨b8298, 0, none⟩), .slice p8316 x8314.length c8317, .int .i64 x8320] w fun e w' => ∃ (p8321 : Option Addr) (c8322 : Nat) (sg8323 : Seg), ∃ (p8324 : Option Addr) (c8325 : Nat) (sg8326 : Seg), ∃ (p8327 : Option Addr) (c8328 : Nat) (sg8329 : Seg), e = .returned (.int .i64 r.1) ∧ ownS encI r.2.1 p8321 c8322 sg8323 ∧ ownS encI r.2.2.1 p8324 c8325 sg8326 ∧ ownS encB r.2.2.2 p8327 c8328 sg8329 ∧ Mem (idsOf [[(b8298, .cells ⟨[.slice p8300 x8296.Memory.length c8301, .slice p8305 x8296.Copy.length c8306, .slice p8310 x8296.Dirty.length c8311]⟩ 28 (0, 0))], sg8302, sg8307, sg8312]) w w' [[(b8298, .cells ⟨[.slice p8321 r.2.1.length c8322, .slice p8324 r.2.2.1.length c8325, .slice p8327 r.2.2.2.length c8328]⟩ 28 (0, 0))], sg8323, sg8326, sg8329] := by
  unfold M.i_Copying_roundWith at hm
  refine C_enter Try.func81 rfl (by kernel_rfl) ?_
  have M0 := Mem.start' w [[(b8298, .cells ⟨[.slice p8300 x8296.Memory.length c8301, .slice p8305 x8296.Copy.length c8306, .slice p8310 x8296.Dirty.length c8311]⟩ 28 (0, 0))], sg8302, sg8307, sg8312] hA hN
  refine G_seq ?_
  refine G_region ?_
  refine W_run 1 [(0, .pointer (some ⟨b8298, 0, none⟩)), (1, .slice p8316 x8314.length c8317), (2, .int .i64 x8320)] w (by kernel_rfl) ?_
  refine W_nil ?_
  refine N_then ?_
  refine G_seq ?_
  refine G_region ?_
  refine W_run 2 [(0, .pointer (some ⟨b8298, 0, none⟩)), (1, .slice p8316 x8314.length c8317), (10, .pointer (some ⟨b8298, 0, none⟩)), (11, .int .i64 x8320)] w (by kernel_rfl) ?_
  obtain ⟨r8330, hr8330, hm⟩ := gx_bind hm
  refine W_call 75 #[.pointer (some ⟨b8298, 0, none⟩), .int .i64 x8320] (by kernel_rfl) (by kernel_rfl) ?_
  refine (c_i_Copying_round w x8296 p8300 c8301 sg8302 ho8303 p8305 c8306 sg8307 ho8308 p8310 c8311 sg8312 ho8313 b8298 x8320 (M0.hasPick [0, 1, 2, 3]) (M0.nodupPick [0, 1, 2, 3] (by kernel_rfl)) hr8330).mono ?_
  rintro e_ w8346 ⟨p8332, c8333, sg8334, p8337, c8338, sg8339, p8342, c8343, sg8344, rfl, ho8335, ho8340, ho8345, K8347⟩
  have M8348 := M0.callF' [0, 1, 2, 3] [] (by kernel_rfl) K8347
  refine ⟨_, rfl, ?_⟩
  refine W_run 1 [(0, .pointer (some ⟨b8298, 0, none⟩)), (1, .slice p8316 x8314.length c8317), (7, .int .i64 r8330.1)] w8346 (by kernel_rfl) ?_
  refine W_nil ?_
  refine N_then ?_
  refine G_seq ?_
  refine G_seq ?_
  refine G_region ?_
  refine W_run 3 [(0, .pointer (some ⟨b8298, 0, none⟩)), (7, .int .i64 r8330.1), (13, .slice p8316 x8314.length c8317), (14, .int .i64 (x8314.length : Int)), (15, .int .i64 0)] w8346 (by kernel_rfl) ?_
  refine W_nil ?_
  refine N_then ?_
  obtain ⟨out8425, hw8426, hmo8427⟩ := gx_bind hm
  refine G_meet (fun a w' => ∃ (p8444 : Option Addr), ∃ (c8445 : Nat), ∃ (sg8446 : Seg), ∃ (p8449 : Option Addr), ∃ (c8450 : Nat), ∃ (sg8451 : Seg), ∃ (p8454 : Option Addr), ∃ (c8455 : Nat), ∃ (sg8456 : Seg), ownS encI out8425.1 p8444 c8445 sg8446 ∧ ownS encI out8425.2.1 p8449 c8450 sg8451 ∧ ownS encB out8425.2.2 p8454 c8455 sg8456 ∧ Mem (idsOf [[(b8298, .cells ⟨[.slice p8300 x8296.Memory.length c8301, .slice p8305 x8296.Copy.length c8306, .slice p8310 x8296.Dirty.length c8311]⟩ 28 (0, 0))], sg8302, sg8307, sg8312]) w w' [[(b8298, .cells ⟨[.slice p8444 out8425.1.length c8445, .slice p8449 out8425.2.1.length c8450, .slice p8454 out8425.2.2.length c8455]⟩ 28 (0, 0))], sg8446, sg8451, sg8456] ∧ Sat Try.f81.ntmps [(7, .int .i64 r8330.1)] a) ?_ ?_
  · refine G_block ?_
    refine G_while (σ := Int × List Int × List Int × List Bool) (ρ := List Int × List Int × List Bool) (fun s8418 a w' => ∃ (p8428 : Option Addr), ∃ (c8429 : Nat), ∃ (sg8430 : Seg), ∃ (p8433 : Option Addr), ∃ (c8434 : Nat), ∃ (sg8435 : Seg), ∃ (p8438 : Option Addr), ∃ (c8439 : Nat), ∃ (sg8440 : Seg), ownS encI s8418.2.1 p8428 c8429 sg8430 ∧ ownS encI s8418.2.2.1 p8433 c8434 sg8435 ∧ ownS encB s8418.2.2.2 p8438 c8439 sg8440 ∧ Mem (idsOf [[(b8298, .cells ⟨[.slice p8300 x8296.Memory.length c8301, .slice p8305 x8296.Copy.length c8306, .slice p8310 x8296.Dirty.length c8311]⟩ 28 (0, 0))], sg8302, sg8307, sg8312]) w w' [[(b8298, .cells ⟨[.slice p8428 s8418.2.1.length c8429, .slice p8433 s8418.2.2.1.length c8434, .slice p8438 s8418.2.2.2.length c8439]⟩ 28 (0, 0))], sg8430, sg8435, sg8440] ∧ Sat Try.f81.ntmps [(0, .pointer (some ⟨b8298, 0, none⟩)), (7, .int .i64 r8330.1), (13, .slice p8316 x8314.length c8317), (14, .int .i64 (x8314.length : Int)), (15, .int .i64 s8418.1)] a) hw8426 (fun a ha => ⟨p8332, c8333, sg8334, p8337, c8338, sg8339, p8342, c8343, sg8344, ho8335, ho8340, ho8345, M8348.pick [0, 1, 2, 3] (by kernel_rfl), ha.sub (by kernel_rfl)⟩) ?_
    clear hm
    intro s8418 x8419 hm hout8420 a8421 w8422 ⟨p8428, c8429, sg8430, p8433, c8434, sg8435, p8438, c8439, sg8440, ho8431, ho8436, ho8441, M8423, hS8424⟩
    refine G_use hS8424 ?_
    refine G_seq ?_
    refine G_region ?_
    refine W_run 1 [(0, .pointer (some ⟨b8298, 0, none⟩)), (7, .int .i64 r8330.1), (13, .slice p8316 x8314.length c8317), (14, .int .i64 (x8314.length : Int)), (15, .int .i64 s8418.1), (16, .bool (decide (s8418.1 < (x8314.length : Int))))] w8422 (by kernel_rfl) ?_
    refine W_nil ?_
    refine N_then ?_
    refine G_seq ?_
    rcases gx_bif hm with ⟨hc8459, hm⟩ | ⟨hc8459, hm⟩
    · refine G_cond_t (b := (decide (s8418.1 < (x8314.length : Int)))) hc8459 (by kernel_rfl) ?_
      refine G_skip ?_
      refine N_then ?_
      refine G_seq ?_
      refine G_block ?_
      refine G_seq ?_
      refine G_region ?_
      obtain ⟨y8460, hy8460, hm⟩ := gx_bind hm
      refine W_val (elemP p8316 (s8418.1.toNat * 2)) w8422 (by kernel_rfl) (E_index (E := encStore) _ _ _ x8314.length c8317 .i64 s8418.1 2 (y := y8460) rfl (by kernel_rfl) (by kernel_rfl) (by kernel_rfl) (h8318.memX hap8319 M8423) rfl hy8460) ?_
      refine W_val (.agg #[.int .i64 y8460.Word, .int .i64 y8460.Value]) w8422 (by kernel_rfl) (E_loadE (E := encStore) _ _ true 2 s8418.1 0 (s8418.1.toNat * 2) y8460 (.agg #[.int .i64 y8460.Word, .int .i64 y8460.Value]) rfl (by kernel_rfl) (by kernel_rfl) (by kernel_rfl) (h8318.memX hap8319 M8423) hy8460 rfl) ?_
      refine W_new (fun b => .pointer (some ⟨b, 0, none⟩)) (.cells ⟨[.int .i64 0, .int .i64 0]⟩ 46 (0, 0)) M8423 rfl (by kernel_rfl) (by kernel_rfl) ?_
      intro b8462 w8463 M8464
      refine W_store _ _ _ true 2 b8462 0 [.int .i64 0, .int .i64 0] 46 (.agg #[.int .i64 y8460.Word, .int .i64 y8460.Value]) 4 [.int .i64 y8460.Word, .int .i64 y8460.Value] M8464 (by kernel_rfl) rfl (by kernel_rfl) (by kernel_rfl) (by kernel_rfl) (by kernel_rfl) (by kernel_rfl) (by kernel_rfl) (by kernel_rfl) (by kernel_rfl) ?_
      intro w8465 M8466
      refine W_nil ?_
      refine N_then ?_
      refine G_region ?_
      refine W_run 1 [(0, .pointer (some ⟨b8298, 0, none⟩)), (7, .int .i64 r8330.1), (9, .pointer (some ⟨b8462, 0, none⟩)), (13, .slice p8316 x8314.length c8317), (14, .int .i64 (x8314.length : Int)), (15, .int .i64 s8418.1), (19, .pointer (some ⟨b8298, 0, none⟩))] w8465 (by kernel_rfl) ?_
      refine W_val (.agg #[.int .i64 y8460.Word, .int .i64 y8460.Value]) w8465 (by kernel_rfl) (E_load (e := 46) (fr := (0, 0)) _ _ true 2 b8462 0 [.int .i64 y8460.Word, .int .i64 y8460.Value] (.agg #[.int .i64 y8460.Word, .int .i64 y8460.Value]) rfl (by kernel_rfl) (by kernel_rfl) (by kernel_rfl) (M8466.blk 4 (b := b8462) (o := .cells ⟨[.int .i64 y8460.Word, .int .i64 y8460.Value]⟩ 46 (0, 0)) (by kernel_rfl))) ?_
      obtain ⟨r8467, hr8467, hm⟩ := gx_bind hm
      refine W_call 72 #[.pointer (some ⟨b8298, 0, none⟩), .agg #[.int .i64 y8460.Word, .int .i64 y8460.Value]] (by kernel_rfl) (by kernel_rfl) ?_
      refine (c_i_Copying_store w8465 (⟨s8418.2.1, s8418.2.2.1, s8418.2.2.2⟩ : Copying) p8428 c8429 sg8430 ho8431 p8433 c8434 sg8435 ho8436 p8438 c8439 sg8440 ho8441 b8298 y8460 (M8466.hasPick [0, 1, 2, 3]) (M8466.nodupPick [0, 1, 2, 3] (by kernel_rfl)) hr8467).mono ?_
      rintro e_ w8483 ⟨p8469, c8470, sg8471, p8474, c8475, sg8476, p8479, c8480, sg8481, rfl, ho8472, ho8477, ho8482, K8484⟩
      have M8485 := M8466.callF' [0, 1, 2, 3] [4] (by kernel_rfl) K8484
      refine ⟨_, rfl, ?_⟩
      refine W_nil ?_
      refine N_block ?_
      refine N_then ?_
      refine G_region ?_
      refine W_run 2 [(0, .pointer (some ⟨b8298, 0, none⟩)), (7, .int .i64 r8330.1), (13, .slice p8316 x8314.length c8317), (14, .int .i64 (x8314.length : Int)), (15, .int .i64 (w64 (s8418.1 + 1)))] w8483 (by kernel_rfl) ?_
      refine W_nil ?_
      obtain rfl := Option.some.inj hm
      exact N_loop fun a ha => ⟨_, rfl, p8469, c8470, sg8471, p8474, c8475, sg8476, p8479, c8480, sg8481, ho8472, ho8477, ho8482, M8485.pick [1, 2, 3, 4] (by kernel_rfl), ha.sub (by kernel_rfl)⟩
    · refine G_cond_f (b := (decide (s8418.1 < (x8314.length : Int)))) hc8459 (by kernel_rfl) ?_
      refine G_exit ?_
      refine N_then_exit ?_
      refine N_then_exit ?_
      refine N_block_eq ?_
      obtain rfl := Option.some.inj hm
      obtain rfl := hout8420 _ rfl
      exact N_meet fun a ha => ⟨p8428, c8429, sg8430, p8433, c8434, sg8435, p8438, c8439, sg8440, ho8431, ho8436, ho8441, M8423.pick [0, 1, 2, 3] (by kernel_rfl), ha.sub (by kernel_rfl)⟩
  · intro a8486 w8487 ⟨p8444, c8445, sg8446, p8449, c8450, sg8451, p8454, c8455, sg8456, ho8447, ho8452, ho8457, M8488, hS8489⟩
    refine N_use hS8489 ?_
    have hm := hmo8427
    refine N_then ?_
    refine G_seq ?_
    refine G_region ?_
    refine W_run 2 [(6, .int .i64 r8330.1)] w8487 (by kernel_rfl) ?_
    refine W_nil ?_
    refine N_then ?_
    refine G_ret ?_
    obtain rfl := Option.some.inj hm
    refine N_ret [.int .i64 r8330.1] (RVs_cons (RV_tmp (by kernel_rfl)) RVs_nil) ?_
    exact ⟨p8444, c8445, sg8446, p8449, c8450, sg8451, p8454, c8455, sg8456, rfl, ho8447, ho8452, ho8457, M8488.pick [0, 1, 2, 3] (by kernel_rfl)⟩
theorem c_i_RoundsUntil (w : World) (x7899 : Copying) (p7901 : Option Addr) (c7902 : Nat) (h7903 : rdS encI w x7899.Memory p7901 c7902) (p7905 : Option Addr) (c7906 : Nat) (h7907 : rdS encI w x7899.Copy p7905 c7906) (p7909 : Option Addr) (c7910 : Nat) (h7911 : rdS encB w x7899.Dirty p7909 c7910) (x7912 : List (List Store)) (p7914 : Option Addr) (c7915 : Nat) (h7916 : rdD (deepL encStore) w x7912 p7914 c7915) (x7917 : Int) (x7918 : Int) {r : Int × Bool} (hm : M.i_RoundsUntil x7899 x7912 x7917 x7918 = some r) :
    Calls Try.prog 38 #[.agg #[.slice p7901 x7899.Memory.length c7902, .slice p7905 x7899.Copy.length c7906, .slice p7909 x7899.Dirty.length c7910], .slice p7914 x7912.length c7915, .int .i64 x7917, .int .i64 x7918] w fun e w' => e = .returned (.tuple #[.int .i64 r.1, .bool r.2]) ∧ Mem [] w w' [] := by
  unfold M.i_RoundsUntil at hm
  refine C_enter Try.func38 rfl (by kernel_rfl) ?_
  have M0 := Mem.refl [] w
  refine G_seq ?_
  refine G_region ?_
  refine W_new (fun b => .pointer (some ⟨b, 0, none⟩)) (.cells ⟨[.slice p7901 x7899.Memory.length c7902, .slice p7905 x7899.Copy.length c7906, .slice p7909 x7899.Dirty.length c7910]⟩ 28 (0, 0)) M0 rfl (by kernel_rfl) (by kernel_rfl) ?_
  intro b7920 w7921 M7922
  refine W_run 2 [(1, .slice p7914 x7912.length c7915), (2, .int .i64 x7917), (3, .int .i64 x7918), (4, .pointer (some ⟨b7920, 0, none⟩))] w7921 (by kernel_rfl) ?_
  refine W_nil ?_
  refine N_then ?_
  refine G_seq ?_
  refine G_seq ?_
  obtain ⟨o8236, ho8237, hm8238⟩ := gx_bind hm
  refine G_meet (fun a w' => Mem [] w w' [[(b7920, .cells ⟨[.slice p7901 x7899.Memory.length c7902, .slice p7905 x7899.Copy.length c7906, .slice p7909 x7899.Dirty.length c7910]⟩ 28 (0, 0))]] ∧ Sat Try.f38.ntmps [(1, .slice p7914 x7912.length c7915), (2, .int .i64 x7917), (3, .int .i64 x7918), (4, .pointer (some ⟨b7920, 0, none⟩)), (20, .bool o8236)] a) ?_ ?_
  · have hm := ho8237
    refine G_region ?_
    refine W_val (.agg #[.slice p7901 x7899.Memory.length c7902, .slice p7905 x7899.Copy.length c7906, .slice p7909 x7899.Dirty.length c7910]) w7921 (by kernel_rfl) (E_load (e := 28) (fr := (0, 0)) _ _ true 3 b7920 0 [.slice p7901 x7899.Memory.length c7902, .slice p7905 x7899.Copy.length c7906, .slice p7909 x7899.Dirty.length c7910] (.agg #[.slice p7901 x7899.Memory.length c7902, .slice p7905 x7899.Copy.length c7906, .slice p7909 x7899.Dirty.length c7910]) rfl (by kernel_rfl) (by kernel_rfl) (by kernel_rfl) (M7922.blk 0 (b := b7920) (o := .cells ⟨[.slice p7901 x7899.Memory.length c7902, .slice p7905 x7899.Copy.length c7906, .slice p7909 x7899.Dirty.length c7910]⟩ 28 (0, 0)) (by kernel_rfl))) ?_
    refine W_run 2 [(1, .slice p7914 x7912.length c7915), (2, .int .i64 x7917), (3, .int .i64 x7918), (4, .pointer (some ⟨b7920, 0, none⟩)), (12, .agg #[.slice p7901 x7899.Memory.length c7902, .slice p7905 x7899.Copy.length c7906, .slice p7909 x7899.Dirty.length c7910]), (13, .slice p7914 x7912.length c7915), (14, .int .i64 x7917)] w7921 (by kernel_rfl) ?_
    obtain ⟨r8239, hr8239, hm⟩ := gx_bind hm
    refine W_call 80 #[.agg #[.slice p7901 x7899.Memory.length c7902, .slice p7905 x7899.Copy.length c7906, .slice p7909 x7899.Dirty.length c7910], .slice p7914 x7912.length c7915, .int .i64 x7917] (by kernel_rfl) (by kernel_rfl) ?_
    refine (c_i_areRounds w7921 x7899 p7901 c7902 (h7903.mem0 M7922) p7905 c7906 (h7907.mem0 M7922) p7909 c7910 (h7911.mem0 M7922) x7912 p7914 c7915 (h7916.mem0 M7922) x7917 hr8239).mono ?_
    rintro e_ w8240 ⟨rfl, K8241⟩
    have M8242 := M7922.call0 K8241
    refine ⟨_, rfl, ?_⟩
    refine W_run 2 [(1, .slice p7914 x7912.length c7915), (2, .int .i64 x7917), (3, .int .i64 x7918), (4, .pointer (some ⟨b7920, 0, none⟩)), (17, .bool (!r8239))] w8240 (by kernel_rfl) ?_
    rcases gx_bif hm with ⟨hc8243, hm⟩ | ⟨hc8243, hm⟩
    · refine W_known 17 true (by kernel_rfl) hc8243 ?_
      refine W_run 3 [(1, .slice p7914 x7912.length c7915), (2, .int .i64 x7917), (3, .int .i64 x7918), (4, .pointer (some ⟨b7920, 0, none⟩)), (20, .bool true)] w8240 (by kernel_rfl) ?_
      refine W_nil ?_
      obtain rfl := Option.some.inj hm
      exact N_meet fun a ha => ⟨M8242.pick [0] (by kernel_rfl), ha.sub (by kernel_rfl)⟩
    · refine W_known 17 false (by kernel_rfl) hc8243 ?_
      refine W_run 3 [(1, .slice p7914 x7912.length c7915), (2, .int .i64 x7917), (3, .int .i64 x7918), (4, .pointer (some ⟨b7920, 0, none⟩)), (20, .bool (decide (x7918 < 0)))] w8240 (by kernel_rfl) ?_
      refine W_nil ?_
      obtain rfl := Option.some.inj hm
      exact N_meet fun a ha => ⟨M8242.pick [0] (by kernel_rfl), ha.sub (by kernel_rfl)⟩
  · intro a8246 w8244 ⟨M8245, hS8247⟩
    refine N_use hS8247 ?_
    have hm := hm8238
    refine N_then ?_
    rcases gx_bif hm with ⟨hc8248, hm⟩ | ⟨hc8248, hm⟩
    · refine G_cond_t (b := o8236) hc8248 (by kernel_rfl) ?_
      refine G_seq ?_
      refine G_region ?_
      refine W_run 2 [(8, .int .i64 0), (9, .bool false)] w8244 (by kernel_rfl) ?_
      refine W_nil ?_
      refine N_then ?_
      refine G_ret ?_
      refine N_then_ret ?_
      obtain rfl := Option.some.inj hm
      refine N_ret [.int .i64 0, .bool false] (RVs_cons (RV_tmp (by kernel_rfl)) (RVs_cons (RV_tmp (by kernel_rfl)) RVs_nil)) ?_
      exact ⟨rfl, M8245.pick [] (by kernel_rfl)⟩
    · refine G_cond_f (b := o8236) hc8248 (by kernel_rfl) ?_
      refine G_skip ?_
      refine N_then ?_
      refine G_seq ?_
      refine G_region ?_
      refine W_val (.agg #[.slice p7901 x7899.Memory.length c7902, .slice p7905 x7899.Copy.length c7906, .slice p7909 x7899.Dirty.length c7910]) w8244 (by kernel_rfl) (E_load (e := 28) (fr := (0, 0)) _ _ true 3 b7920 0 [.slice p7901 x7899.Memory.length c7902, .slice p7905 x7899.Copy.length c7906, .slice p7909 x7899.Dirty.length c7910] (.agg #[.slice p7901 x7899.Memory.length c7902, .slice p7905 x7899.Copy.length c7906, .slice p7909 x7899.Dirty.length c7910]) rfl (by kernel_rfl) (by kernel_rfl) (by kernel_rfl) (M8245.blk 0 (b := b7920) (o := .cells ⟨[.slice p7901 x7899.Memory.length c7902, .slice p7905 x7899.Copy.length c7906, .slice p7909 x7899.Dirty.length c7910]⟩ 28 (0, 0)) (by kernel_rfl))) ?_
      obtain ⟨r8249, hr8249, hm⟩ := gx_bind hm
      refine W_call 71 #[.agg #[.slice p7901 x7899.Memory.length c7902, .slice p7905 x7899.Copy.length c7906, .slice p7909 x7899.Dirty.length c7910]] (by kernel_rfl) (by kernel_rfl) ?_
      refine (c_i_newCopying w8244 x7899 p7901 c7902 (h7903.mem0 M8245) p7905 c7906 (h7907.mem0 M8245) p7909 c7910 (h7911.mem0 M8245) hr8249).mono ?_
      rintro e_ w8265 ⟨p8251, c8252, sg8253, p8256, c8257, sg8258, p8261, c8262, sg8263, rfl, ho8254, ho8259, ho8264, K8266⟩
      have M8267 := M8245.call K8266
      refine ⟨_, rfl, ?_⟩
      refine W_new (fun b => .pointer (some ⟨b, 0, none⟩)) (.cells ⟨[.slice none 0 0, .slice none 0 0, .slice none 0 0]⟩ 28 (0, 0)) M8267 rfl (by kernel_rfl) (by kernel_rfl) ?_
      intro b8272 w8273 M8274
      refine W_store _ _ _ true 3 b8272 0 [.slice none 0 0, .slice none 0 0, .slice none 0 0] 28 (.agg #[.slice p8251 r8249.Memory.length c8252, .slice p8256 r8249.Copy.length c8257, .slice p8261 r8249.Dirty.length c8262]) 4 [.slice p8251 r8249.Memory.length c8252, .slice p8256 r8249.Copy.length c8257, .slice p8261 r8249.Dirty.length c8262] M8274 (by kernel_rfl) rfl (by kernel_rfl) (by kernel_rfl) (by kernel_rfl) (by kernel_rfl) (by kernel_rfl) (by kernel_rfl) (by kernel_rfl) (by kernel_rfl) ?_
      intro w8275 M8276
      refine W_nil ?_
      refine N_then ?_
      refine G_seq ?_
      refine G_region ?_
      refine W_run 1 [(1, .slice p7914 x7912.length c7915), (2, .int .i64 x7917), (3, .int .i64 x7918), (10, .pointer (some ⟨b8272, 0, none⟩)), (11, .int .i64 0)] w8275 (by kernel_rfl) ?_
      refine W_nil ?_
      refine N_then ?_
      obtain ⟨out8569, hw8570, hmo8571⟩ := gx_bind hm
      refine G_meet (fun a w' => False) ?_ ?_
      · refine G_block ?_
        refine G_while (σ := Int × List Int × List Int × List Bool) (ρ := Int × Bool) (fun s8562 a w' => ∃ (p8572 : Option Addr), ∃ (c8573 : Nat), ∃ (sg8574 : Seg), ∃ (p8577 : Option Addr), ∃ (c8578 : Nat), ∃ (sg8579 : Seg), ∃ (p8582 : Option Addr), ∃ (c8583 : Nat), ∃ (sg8584 : Seg), ownS encI s8562.2.1 p8572 c8573 sg8574 ∧ ownS encI s8562.2.2.1 p8577 c8578 sg8579 ∧ ownS encB s8562.2.2.2 p8582 c8583 sg8584 ∧ Mem [] w w' [[(b8272, .cells ⟨[.slice p8572 s8562.2.1.length c8573, .slice p8577 s8562.2.2.1.length c8578, .slice p8582 s8562.2.2.2.length c8583]⟩ 28 (0, 0))], sg8574, sg8579, sg8584] ∧ Sat Try.f38.ntmps [(1, .slice p7914 x7912.length c7915), (2, .int .i64 x7917), (3, .int .i64 x7918), (10, .pointer (some ⟨b8272, 0, none⟩)), (11, .int .i64 s8562.1)] a) hw8570 (fun a ha => ⟨p8251, c8252, sg8253, p8256, c8257, sg8258, p8261, c8262, sg8263, ho8254, ho8259, ho8264, M8276.pick [4, 1, 2, 3] (by kernel_rfl), ha.sub (by kernel_rfl)⟩) ?_
        clear hm
        intro s8562 x8563 hm hout8564 a8565 w8566 ⟨p8572, c8573, sg8574, p8577, c8578, sg8579, p8582, c8583, sg8584, ho8575, ho8580, ho8585, M8567, hS8568⟩
        refine G_use hS8568 ?_
        refine G_seq ?_
        refine G_block ?_
        refine G_seq ?_
        refine G_seq ?_
        refine G_region ?_
        refine W_val (.agg #[.slice p8572 s8562.2.1.length c8573, .slice p8577 s8562.2.2.1.length c8578, .slice p8582 s8562.2.2.2.length c8583]) w8566 (by kernel_rfl) (E_load (e := 28) (fr := (0, 0)) _ _ true 3 b8272 0 [.slice p8572 s8562.2.1.length c8573, .slice p8577 s8562.2.2.1.length c8578, .slice p8582 s8562.2.2.2.length c8583] (.agg #[.slice p8572 s8562.2.1.length c8573, .slice p8577 s8562.2.2.1.length c8578, .slice p8582 s8562.2.2.2.length c8583]) rfl (by kernel_rfl) (by kernel_rfl) (by kernel_rfl) (M8567.blk 0 (b := b8272) (o := .cells ⟨[.slice p8572 s8562.2.1.length c8573, .slice p8577 s8562.2.2.1.length c8578, .slice p8582 s8562.2.2.2.length c8583]⟩ 28 (0, 0)) (by kernel_rfl))) ?_
        obtain ⟨r8587, hr8587, hm⟩ := gx_bind hm
        refine W_call 66 #[.agg #[.slice p8572 s8562.2.1.length c8573, .slice p8577 s8562.2.2.1.length c8578, .slice p8582 s8562.2.2.2.length c8583]] (by kernel_rfl) (by kernel_rfl) ?_
        refine (c_i_dirtyWords w8566 (⟨s8562.2.1, s8562.2.2.1, s8562.2.2.2⟩ : Copying) p8572 c8573 (ho8575.rd M8567 1 (by kernel_rfl)) p8577 c8578 (ho8580.rd M8567 2 (by kernel_rfl)) p8582 c8583 (ho8585.rd M8567 3 (by kernel_rfl)) hr8587).mono ?_
        rintro e_ w8593 ⟨p8589, c8590, sg8591, rfl, ho8592, K8594⟩
        have M8595 := M8567.call K8594
        refine ⟨_, rfl, ?_⟩
        refine W_run 3 [(1, .slice p7914 x7912.length c7915), (2, .int .i64 x7917), (3, .int .i64 x7918), (10, .pointer (some ⟨b8272, 0, none⟩)), (11, .int .i64 s8562.1), (29, .bool (decide ((r8587.length : Int) ≤ x7918)))] w8593 (by kernel_rfl) ?_
        refine W_nil ?_
        refine N_then ?_
        rcases gx_bif hm with ⟨hc8596, hm⟩ | ⟨hc8596, hm⟩
        · refine G_cond_t (b := (decide ((r8587.length : Int) ≤ x7918))) hc8596 (by kernel_rfl) ?_
          refine G_seq ?_
          refine G_region ?_
          refine W_run 3 [(8, .int .i64 s8562.1), (9, .bool true)] w8593 (by kernel_rfl) ?_
          refine W_nil ?_
          refine N_then ?_
          refine G_ret ?_
          refine N_then_ret ?_
          refine N_block_ret ?_
          refine N_then_ret ?_
          refine N_then_ret ?_
          obtain rfl := Option.some.inj hm
          obtain rfl := hout8564 _ rfl
          have hm := hmo8571
          refine N_block_ret ?_
          refine N_meet_ret ?_
          obtain rfl := Option.some.inj hm
          refine N_ret [.int .i64 s8562.1, .bool true] (RVs_cons (RV_tmp (by kernel_rfl)) (RVs_cons (RV_tmp (by kernel_rfl)) RVs_nil)) ?_
          exact ⟨rfl, M8595.pick [] (by kernel_rfl)⟩
        · refine G_cond_f (b := (decide ((r8587.length : Int) ≤ x7918))) hc8596 (by kernel_rfl) ?_
          refine G_skip ?_
          refine N_then ?_
          refine G_seq ?_
          refine G_seq ?_
          refine G_region ?_
          refine W_run 4 [(1, .slice p7914 x7912.length c7915), (2, .int .i64 x7917), (3, .int .i64 x7918), (10, .pointer (some ⟨b8272, 0, none⟩)), (11, .int .i64 s8562.1), (34, .bool (s8562.1 == (x7912.length : Int)))] w8593 (by kernel_rfl) ?_
          refine W_nil ?_
          refine N_then ?_
          rcases gx_bif hm with ⟨hc8597, hm⟩ | ⟨hc8597, hm⟩
          · refine G_cond_t (b := (s8562.1 == (x7912.length : Int))) hc8597 (by kernel_rfl) ?_
            refine G_seq ?_
            refine G_region ?_
            refine W_run 2 [(8, .int .i64 0), (9, .bool false)] w8593 (by kernel_rfl) ?_
            refine W_nil ?_
            refine N_then ?_
            refine G_ret ?_
            refine N_then_ret ?_
            refine N_block_ret ?_
            refine N_then_ret ?_
            refine N_then_ret ?_
            obtain rfl := Option.some.inj hm
            obtain rfl := hout8564 _ rfl
            have hm := hmo8571
            refine N_block_ret ?_
            refine N_meet_ret ?_
            obtain rfl := Option.some.inj hm
            refine N_ret [.int .i64 0, .bool false] (RVs_cons (RV_tmp (by kernel_rfl)) (RVs_cons (RV_tmp (by kernel_rfl)) RVs_nil)) ?_
            exact ⟨rfl, M8595.pick [] (by kernel_rfl)⟩
          · refine G_cond_f (b := (s8562.1 == (x7912.length : Int))) hc8597 (by kernel_rfl) ?_
            refine G_skip ?_
            refine N_then ?_
            refine G_region ?_
            refine W_run 2 [(1, .slice p7914 x7912.length c7915), (2, .int .i64 x7917), (3, .int .i64 x7918), (10, .pointer (some ⟨b8272, 0, none⟩)), (11, .int .i64 s8562.1), (35, .slice p7914 x7912.length c7915), (36, .int .i64 s8562.1)] w8593 (by kernel_rfl) ?_
            obtain ⟨y8598, hy8598, hm⟩ := gx_bind hm
            obtain ⟨zs8599, hz8600, hr8601, hi8602⟩ := id h7916
            obtain ⟨g8603, hg8604⟩ := gxIdx_fst hz8600 hy8598
            refine W_val (elemP p7914 (s8562.1.toNat * 1)) w8593 (by kernel_rfl) (E_index (E := (deepL encStore).E) _ _ _ x7912.length c7915 .i64 s8562.1 1 (y := (y8598, g8603)) rfl (by kernel_rfl) (by kernel_rfl) (by kernel_rfl) (hr8601.mem0 M8595) (len_fst hz8600) hg8604) ?_
            refine W_val (.slice ((g8603 0).1) y8598.length ((g8603 0).2)) w8593 (by kernel_rfl) (E_loadE (E := (deepL encStore).E) _ _ false 1 s8562.1 0 (s8562.1.toNat * 1) (y8598, g8603) (.slice ((g8603 0).1) y8598.length ((g8603 0).2)) rfl (by kernel_rfl) (by kernel_rfl) (by kernel_rfl) (hr8601.mem0 M8595) hg8604 rfl) ?_
            refine W_run 1 [(1, .slice p7914 x7912.length c7915), (2, .int .i64 x7917), (3, .int .i64 x7918), (10, .pointer (some ⟨b8272, 0, none⟩)), (11, .int .i64 s8562.1), (38, .slice ((g8603 0).1) y8598.length ((g8603 0).2)), (39, .int .i64 x7917)] w8593 (by kernel_rfl) ?_
            obtain ⟨r8606, hr8606, hm⟩ := gx_bind hm
            refine W_call 81 #[.pointer (some ⟨b8272, 0, none⟩), .slice ((g8603 0).1) y8598.length ((g8603 0).2), .int .i64 x7917] (by kernel_rfl) (by kernel_rfl) ?_
            refine (c_i_Copying_roundWith w8593 (⟨s8562.2.1, s8562.2.2.1, s8562.2.2.2⟩ : Copying) p8572 c8573 sg8574 ho8575 p8577 c8578 sg8579 ho8580 p8582 c8583 sg8584 ho8585 b8272 y8598 ((g8603 0).1) ((g8603 0).2) ((hi8602.mem0 M8595).at_ hg8604 0 ⟨Store, encStore, y8598, (g8603 0).1, (g8603 0).2⟩ (by kernel_rfl)) x7917 (M8595.hasPick [0, 1, 2, 3]) (M8595.nodupPick [0, 1, 2, 3] (by kernel_rfl)) ((apartI.old0 hi8602 M8595 [0, 1, 2, 3]).at_ hg8604 0 ⟨Store, encStore, y8598, (g8603 0).1, (g8603 0).2⟩ (by kernel_rfl)) hr8606).mono ?_
            rintro e_ w8622 ⟨p8608, c8609, sg8610, p8613, c8614, sg8615, p8618, c8619, sg8620, rfl, ho8611, ho8616, ho8621, K8623⟩
            have M8624 := M8595.callF' [0, 1, 2, 3] [4] (by kernel_rfl) K8623
            refine ⟨_, rfl, ?_⟩
            refine W_nil ?_
            refine N_block ?_
            refine N_then ?_
            refine G_region ?_
            refine W_run 3 [(1, .slice p7914 x7912.length c7915), (2, .int .i64 x7917), (3, .int .i64 x7918), (10, .pointer (some ⟨b8272, 0, none⟩)), (11, .int .i64 (w64 (s8562.1 + 1)))] w8622 (by kernel_rfl) ?_
            refine W_nil ?_
            obtain rfl := Option.some.inj hm
            exact N_loop fun a ha => ⟨_, rfl, p8608, c8609, sg8610, p8613, c8614, sg8615, p8618, c8619, sg8620, ho8611, ho8616, ho8621, M8624.pick [1, 2, 3, 4] (by kernel_rfl), ha.sub (by kernel_rfl)⟩
      · intro _ _ h
        exact h.elim
theorem c_l_eqStore (w : World) (x8734 : Store) (x8735 : Store) {r : Bool} (hm : M.l_eqStore x8734 x8735 = some r) :
    Calls Try.prog 101 #[.agg #[.int .i64 x8734.Word, .int .i64 x8734.Value], .agg #[.int .i64 x8735.Word, .int .i64 x8735.Value]] w fun e w' => e = .returned (.bool r) ∧ Mem [] w w' [] := by
  unfold M.l_eqStore at hm
  refine C_enter Try.func101 rfl (by kernel_rfl) ?_
  have M0 := Mem.refl [] w
  refine G_seq ?_
  refine G_region ?_
  refine W_new (fun b => .pointer (some ⟨b, 0, none⟩)) (.cells ⟨[.int .i64 x8734.Word, .int .i64 x8734.Value]⟩ 46 (0, 0)) M0 rfl (by kernel_rfl) (by kernel_rfl) ?_
  intro b8737 w8738 M8739
  refine W_new (fun b => .pointer (some ⟨b, 0, none⟩)) (.cells ⟨[.int .i64 x8735.Word, .int .i64 x8735.Value]⟩ 46 (0, 0)) M8739 rfl (by kernel_rfl) (by kernel_rfl) ?_
  intro b8741 w8742 M8743
  refine W_run 1 [(2, .pointer (some ⟨b8737, 0, none⟩)), (3, .pointer (some ⟨b8741, 0, none⟩))] w8742 (by kernel_rfl) ?_
  refine W_nil ?_
  refine N_then ?_
  refine G_seq ?_
  refine G_seq ?_
  refine G_region ?_
  refine W_run 1 [(2, .pointer (some ⟨b8737, 0, none⟩)), (3, .pointer (some ⟨b8741, 0, none⟩)), (5, .pointer (some ⟨b8737, 0, none⟩))] w8742 (by kernel_rfl) ?_
  refine W_val (.int .i64 x8734.Word) w8742 (by kernel_rfl) (E_load (e := 46) (fr := (0, 0)) _ _ false 1 b8737 0 [.int .i64 x8734.Word, .int .i64 x8734.Value] (.int .i64 x8734.Word) rfl (by kernel_rfl) (by kernel_rfl) (by kernel_rfl) (M8743.blk 0 (b := b8737) (o := .cells ⟨[.int .i64 x8734.Word, .int .i64 x8734.Value]⟩ 46 (0, 0)) (by kernel_rfl))) ?_
  refine W_run 1 [(2, .pointer (some ⟨b8737, 0, none⟩)), (3, .pointer (some ⟨b8741, 0, none⟩)), (6, .int .i64 x8734.Word), (7, .pointer (some ⟨b8741, 0, none⟩))] w8742 (by kernel_rfl) ?_
  refine W_val (.int .i64 x8735.Word) w8742 (by kernel_rfl) (E_load (e := 46) (fr := (0, 0)) _ _ false 1 b8741 0 [.int .i64 x8735.Word, .int .i64 x8735.Value] (.int .i64 x8735.Word) rfl (by kernel_rfl) (by kernel_rfl) (by kernel_rfl) (M8743.blk 1 (b := b8741) (o := .cells ⟨[.int .i64 x8735.Word, .int .i64 x8735.Value]⟩ 46 (0, 0)) (by kernel_rfl))) ?_
  refine W_run 1 [(2, .pointer (some ⟨b8737, 0, none⟩)), (3, .pointer (some ⟨b8741, 0, none⟩)), (9, .bool (x8734.Word != x8735.Word))] w8742 (by kernel_rfl) ?_
  refine W_nil ?_
  refine N_then ?_
  rcases gx_bif hm with ⟨hc8744, hm⟩ | ⟨hc8744, hm⟩
  · refine G_cond_t (b := (x8734.Word != x8735.Word)) hc8744 (by kernel_rfl) ?_
    refine G_seq ?_
    refine G_region ?_
    refine W_run 1 [(4, .bool false)] w8742 (by kernel_rfl) ?_
    refine W_nil ?_
    refine N_then ?_
    refine G_ret ?_
    refine N_then_ret ?_
    obtain rfl := Option.some.inj hm
    refine N_ret [.bool false] (RVs_cons (RV_tmp (by kernel_rfl)) RVs_nil) ?_
    exact ⟨rfl, M8743.pick [] (by kernel_rfl)⟩
  · refine G_cond_f (b := (x8734.Word != x8735.Word)) hc8744 (by kernel_rfl) ?_
    refine G_skip ?_
    refine N_then ?_
    refine G_seq ?_
    refine G_seq ?_
    refine G_region ?_
    refine W_run 1 [(3, .pointer (some ⟨b8741, 0, none⟩)), (10, .pointer (some ⟨b8737, 1, none⟩))] w8742 (by kernel_rfl) ?_
    refine W_val (.int .i64 x8734.Value) w8742 (by kernel_rfl) (E_load (e := 46) (fr := (0, 0)) _ _ false 1 b8737 1 [.int .i64 x8734.Word, .int .i64 x8734.Value] (.int .i64 x8734.Value) rfl (by kernel_rfl) (by kernel_rfl) (by kernel_rfl) (M8743.blk 0 (b := b8737) (o := .cells ⟨[.int .i64 x8734.Word, .int .i64 x8734.Value]⟩ 46 (0, 0)) (by kernel_rfl))) ?_
    refine W_run 1 [(11, .int .i64 x8734.Value), (12, .pointer (some ⟨b8741, 1, none⟩))] w8742 (by kernel_rfl) ?_
    refine W_val (.int .i64 x8735.Value) w8742 (by kernel_rfl) (E_load (e := 46) (fr := (0, 0)) _ _ false 1 b8741 1 [.int .i64 x8735.Word, .int .i64 x8735.Value] (.int .i64 x8735.Value) rfl (by kernel_rfl) (by kernel_rfl) (by kernel_rfl) (M8743.blk 1 (b := b8741) (o := .cells ⟨[.int .i64 x8735.Word, .int .i64 x8735.Value]⟩ 46 (0, 0)) (by kernel_rfl))) ?_
    refine W_run 1 [(14, .bool (x8734.Value != x8735.Value))] w8742 (by kernel_rfl) ?_
    refine W_nil ?_
    refine N_then ?_
    rcases gx_bif hm with ⟨hc8745, hm⟩ | ⟨hc8745, hm⟩
    · refine G_cond_t (b := (x8734.Value != x8735.Value)) hc8745 (by kernel_rfl) ?_
      refine G_seq ?_
      refine G_region ?_
      refine W_run 1 [(4, .bool false)] w8742 (by kernel_rfl) ?_
      refine W_nil ?_
      refine N_then ?_
      refine G_ret ?_
      refine N_then_ret ?_
      obtain rfl := Option.some.inj hm
      refine N_ret [.bool false] (RVs_cons (RV_tmp (by kernel_rfl)) RVs_nil) ?_
      exact ⟨rfl, M8743.pick [] (by kernel_rfl)⟩
    · refine G_cond_f (b := (x8734.Value != x8735.Value)) hc8745 (by kernel_rfl) ?_
      refine G_skip ?_
      refine N_then ?_
      refine G_seq ?_
      refine G_region ?_
      refine W_run 1 [(4, .bool true)] w8742 (by kernel_rfl) ?_
      refine W_nil ?_
      refine N_then ?_
      refine G_ret ?_
      obtain rfl := Option.some.inj hm
      refine N_ret [.bool true] (RVs_cons (RV_tmp (by kernel_rfl)) RVs_nil) ?_
      exact ⟨rfl, M8743.pick [] (by kernel_rfl)⟩
theorem c_l_eqStoreS (w : World) (x8720 : List Store) (p8722 : Option Addr) (c8723 : Nat) (h8724 : rdS encStore w x8720 p8722 c8723) (x8725 : List Store) (p8727 : Option Addr) (c8728 : Nat) (h8729 : rdS encStore w x8725 p8727 c8728) {r : Bool} (hm : M.l_eqStoreS x8720 x8725 = some r) :
    Calls Try.prog 82 #[.slice p8722 x8720.length c8723, .slice p8727 x8725.length c8728] w fun e w' => e = .returned (.bool r) ∧ Mem [] w w' [] := by
  unfold M.l_eqStoreS at hm
  refine C_enter Try.func82 rfl (by kernel_rfl) ?_
  have M0 := Mem.refl [] w
  refine G_seq ?_
  refine G_region ?_
  refine W_run 1 [(0, .slice p8722 x8720.length c8723), (1, .slice p8727 x8725.length c8728)] w (by kernel_rfl) ?_
  refine W_nil ?_
  refine N_then ?_
  refine G_seq ?_
  refine G_seq ?_
  refine G_region ?_
  refine W_run 5 [(0, .slice p8722 x8720.length c8723), (1, .slice p8727 x8725.length c8728), (10, .bool ((x8720.length : Int) != (x8725.length : Int)))] w (by kernel_rfl) ?_
  refine W_nil ?_
  refine N_then ?_
  rcases gx_bif hm with ⟨hc8730, hm⟩ | ⟨hc8730, hm⟩
  · refine G_cond_t (b := ((x8720.length : Int) != (x8725.length : Int))) hc8730 (by kernel_rfl) ?_
    refine G_seq ?_
    refine G_region ?_
    refine W_run 1 [(4, .bool false)] w (by kernel_rfl) ?_
    refine W_nil ?_
    refine N_then ?_
    refine G_ret ?_
    refine N_then_ret ?_
    obtain rfl := Option.some.inj hm
    refine N_ret [.bool false] (RVs_cons (RV_tmp (by kernel_rfl)) RVs_nil) ?_
    exact ⟨rfl, M0.pick [] (by kernel_rfl)⟩
  · refine G_cond_f (b := ((x8720.length : Int) != (x8725.length : Int))) hc8730 (by kernel_rfl) ?_
    refine G_skip ?_
    refine N_then ?_
    refine G_seq ?_
    refine G_seq ?_
    refine G_region ?_
    refine W_run 1 [(0, .slice p8722 x8720.length c8723), (1, .slice p8727 x8725.length c8728), (5, .int .i64 0)] w (by kernel_rfl) ?_
    refine W_nil ?_
    refine N_then ?_
    obtain ⟨out8770, hw8771, hmo8772⟩ := gx_bind hm
    refine G_meet (fun a w' => ∃ (o8773 : Unit), out8770 = .inl o8773 ∧ Mem [] w w' [] ∧ Sat Try.f82.ntmps [] a) ?_ ?_
    · refine G_block ?_
      refine G_while (σ := Int) (ρ := (Unit) ⊕ (Bool)) (fun s8763 a w' => Mem [] w w' [] ∧ Sat Try.f82.ntmps [(0, .slice p8722 x8720.length c8723), (1, .slice p8727 x8725.length c8728), (5, .int .i64 s8763)] a) hw8771 (fun a ha => ⟨M0.pick [] (by kernel_rfl), ha.sub (by kernel_rfl)⟩) ?_
      clear hm
      intro s8763 x8764 hm hout8765 a8766 w8767 ⟨M8768, hS8769⟩
      refine G_use hS8769 ?_
      refine G_seq ?_
      refine G_seq ?_
      refine G_region ?_
      refine W_run 4 [(0, .slice p8722 x8720.length c8723), (1, .slice p8727 x8725.length c8728), (5, .int .i64 s8763), (14, .bool (decide (s8763 < (x8720.length : Int))))] w8767 (by kernel_rfl) ?_
      refine W_nil ?_
      refine N_then ?_
      rcases gx_bif hm with ⟨hc8774, hm⟩ | ⟨hc8774, hm⟩
      · refine G_cond_t (b := (decide (s8763 < (x8720.length : Int)))) hc8774 (by kernel_rfl) ?_
        refine G_skip ?_
        refine N_then ?_
        refine G_seq ?_
        refine G_block ?_
        refine G_seq ?_
        refine G_quiet (by kernel_rfl) (by kernel_rfl) M8768 ?_
        refine Z_runs [.slice p8722 x8720.length c8723, .int .i64 s8763] [(0, .slice p8722 x8720.length c8723), (1, .slice p8727 x8725.length c8728), (5, .int .i64 s8763), (17, .slice p8722 x8720.length c8723), (18, .int .i64 s8763)] (fun w_ => by kernel_rfl) (by kernel_rfl) ?_
        obtain ⟨y8775, hy8775, hm⟩ := gx_bind hm
        refine Z_val (elemP p8722 (s8763.toNat * 2)) (by kernel_rfl) (fun w_ M_ => (E_index (E := encStore) _ _ _ x8720.length c8723 .i64 s8763 2 (y := y8775) rfl (by kernel_rfl) (by kernel_rfl) (by kernel_rfl) (h8724.mem0 M_) rfl hy8775)) ?_
        refine Z_val (.agg #[.int .i64 y8775.Word, .int .i64 y8775.Value]) (by kernel_rfl) (fun w_ M_ => (E_loadE (E := encStore) _ _ true 2 s8763 0 (s8763.toNat * 2) y8775 (.agg #[.int .i64 y8775.Word, .int .i64 y8775.Value]) rfl (by kernel_rfl) (by kernel_rfl) (by kernel_rfl) (h8724.mem0 M_) hy8775 rfl)) ?_
        refine Z_runs [.slice p8727 x8725.length c8728, .int .i64 s8763] [(0, .slice p8722 x8720.length c8723), (1, .slice p8727 x8725.length c8728), (5, .int .i64 s8763), (20, .agg #[.int .i64 y8775.Word, .int .i64 y8775.Value]), (21, .slice p8727 x8725.length c8728), (22, .int .i64 s8763)] (fun w_ => by kernel_rfl) (by kernel_rfl) ?_
        obtain ⟨y8776, hy8776, hm⟩ := gx_bind hm
        refine Z_val (elemP p8727 (s8763.toNat * 2)) (by kernel_rfl) (fun w_ M_ => (E_index (E := encStore) _ _ _ x8725.length c8728 .i64 s8763 2 (y := y8776) rfl (by kernel_rfl) (by kernel_rfl) (by kernel_rfl) (h8729.mem0 M_) rfl hy8776)) ?_
        refine Z_val (.agg #[.int .i64 y8776.Word, .int .i64 y8776.Value]) (by kernel_rfl) (fun w_ M_ => (E_loadE (E := encStore) _ _ true 2 s8763 0 (s8763.toNat * 2) y8776 (.agg #[.int .i64 y8776.Word, .int .i64 y8776.Value]) rfl (by kernel_rfl) (by kernel_rfl) (by kernel_rfl) (h8729.mem0 M_) hy8776 rfl)) ?_
        obtain ⟨r8777, hr8777, hm⟩ := gx_bind hm
        refine Z_call 101 #[.agg #[.int .i64 y8775.Word, .int .i64 y8775.Value], .agg #[.int .i64 y8776.Word, .int .i64 y8776.Value]] (.bool r8777) (by kernel_rfl) (fun w_ => by kernel_rfl) (fun w_ M_ => (c_l_eqStore w_ y8775 y8776 hr8777).mono fun e w2_ h_ => ⟨h_.1, M_.call0 h_.2⟩) ?_
        refine Z_runs [.bool (!r8777)] [(0, .slice p8722 x8720.length c8723), (1, .slice p8727 x8725.length c8728), (5, .int .i64 s8763), (26, .bool (!r8777))] (fun w_ => by kernel_rfl) (by kernel_rfl) ?_
        refine Z_end fun w8781 M8782 => ?_
        refine N_then ?_
        rcases gx_bif hm with ⟨hc8783, hm⟩ | ⟨hc8783, hm⟩
        · refine G_cond_t (b := (!r8777)) hc8783 (by kernel_rfl) ?_
          refine G_seq ?_
          refine G_region ?_
          refine W_run 1 [(4, .bool false)] w8781 (by kernel_rfl) ?_
          refine W_nil ?_
          refine N_then ?_
          refine G_ret ?_
          refine N_block_ret ?_
          refine N_then_ret ?_
          refine N_then_ret ?_
          obtain rfl := Option.some.inj hm
          obtain rfl := hout8765 _ rfl
          have hm := hmo8772; simp only [Sum.elim_inr] at hm
          refine N_block_ret ?_
          refine N_meet_ret ?_
          refine N_then_ret ?_
          obtain rfl := Option.some.inj hm
          refine N_ret [.bool false] (RVs_cons (RV_tmp (by kernel_rfl)) RVs_nil) ?_
          exact ⟨rfl, M8782.pick [] (by kernel_rfl)⟩
        · refine G_cond_f (b := (!r8777)) hc8783 (by kernel_rfl) ?_
          refine G_skip ?_
          refine N_block ?_
          refine N_then ?_
          refine G_region ?_
          refine W_run 3 [(0, .slice p8722 x8720.length c8723), (1, .slice p8727 x8725.length c8728), (5, .int .i64 (w64 (s8763 + 1)))] w8781 (by kernel_rfl) ?_
          refine W_nil ?_
          obtain rfl := Option.some.inj hm
          exact N_loop fun a ha => ⟨_, rfl, M8782.pick [] (by kernel_rfl), ha.sub (by kernel_rfl)⟩
      · refine G_cond_f (b := (decide (s8763 < (x8720.length : Int)))) hc8774 (by kernel_rfl) ?_
        refine G_exit ?_
        refine N_then_exit ?_
        refine N_then_exit ?_
        refine N_block_eq ?_
        obtain rfl := Option.some.inj hm
        obtain rfl := hout8765 _ rfl
        exact N_meet fun a ha => ⟨_, rfl, M8768.pick [] (by kernel_rfl), ha.sub (by kernel_rfl)⟩
    · intro a8784 w8785 ⟨o8773, hout_, M8786, hS8787⟩
      refine N_use hS8787 ?_
      subst hout_
      have hm := hmo8772; simp only [Sum.elim_inl] at hm
      refine N_then ?_
      refine G_seq ?_
      refine G_region ?_
      refine W_run 1 [(4, .bool true)] w8785 (by kernel_rfl) ?_
      refine W_nil ?_
      refine N_then ?_
      refine G_ret ?_
      obtain rfl := Option.some.inj hm
      refine N_ret [.bool true] (RVs_cons (RV_tmp (by kernel_rfl)) RVs_nil) ?_
      exact ⟨rfl, M8786.pick [] (by kernel_rfl)⟩
theorem c_l_eqStoreSS (w : World) (x8692 : List (List Store)) (p8694 : Option Addr) (c8695 : Nat) (h8696 : rdD (deepL encStore) w x8692 p8694 c8695) (x8697 : List (List Store)) (p8699 : Option Addr) (c8700 : Nat) (h8701 : rdD (deepL encStore) w x8697 p8699 c8700) {r : Bool} (hm : M.l_eqStoreSS x8692 x8697 = some r) :
    Calls Try.prog 39 #[.slice p8694 x8692.length c8695, .slice p8699 x8697.length c8700] w fun e w' => e = .returned (.bool r) ∧ Mem [] w w' [] := by
  unfold M.l_eqStoreSS at hm
  refine C_enter Try.func39 rfl (by kernel_rfl) ?_
  have M0 := Mem.refl [] w
  refine G_seq ?_
  refine G_region ?_
  refine W_run 1 [(0, .slice p8694 x8692.length c8695), (1, .slice p8699 x8697.length c8700)] w (by kernel_rfl) ?_
  refine W_nil ?_
  refine N_then ?_
  refine G_seq ?_
  refine G_seq ?_
  refine G_region ?_
  refine W_run 5 [(0, .slice p8694 x8692.length c8695), (1, .slice p8699 x8697.length c8700), (10, .bool ((x8692.length : Int) != (x8697.length : Int)))] w (by kernel_rfl) ?_
  refine W_nil ?_
  refine N_then ?_
  rcases gx_bif hm with ⟨hc8702, hm⟩ | ⟨hc8702, hm⟩
  · refine G_cond_t (b := ((x8692.length : Int) != (x8697.length : Int))) hc8702 (by kernel_rfl) ?_
    refine G_seq ?_
    refine G_region ?_
    refine W_run 1 [(4, .bool false)] w (by kernel_rfl) ?_
    refine W_nil ?_
    refine N_then ?_
    refine G_ret ?_
    refine N_then_ret ?_
    obtain rfl := Option.some.inj hm
    refine N_ret [.bool false] (RVs_cons (RV_tmp (by kernel_rfl)) RVs_nil) ?_
    exact ⟨rfl, M0.pick [] (by kernel_rfl)⟩
  · refine G_cond_f (b := ((x8692.length : Int) != (x8697.length : Int))) hc8702 (by kernel_rfl) ?_
    refine G_skip ?_
    refine N_then ?_
    refine G_seq ?_
    refine G_seq ?_
    refine G_region ?_
    refine W_run 1 [(0, .slice p8694 x8692.length c8695), (1, .slice p8699 x8697.length c8700), (5, .int .i64 0)] w (by kernel_rfl) ?_
    refine W_nil ?_
    refine N_then ?_
    obtain ⟨out8826, hw8827, hmo8828⟩ := gx_bind hm
    refine G_meet (fun a w' => ∃ (o8829 : Unit), out8826 = .inl o8829 ∧ Mem [] w w' [] ∧ Sat Try.f39.ntmps [] a) ?_ ?_
    · refine G_block ?_
      refine G_while (σ := Int) (ρ := (Unit) ⊕ (Bool)) (fun s8819 a w' => Mem [] w w' [] ∧ Sat Try.f39.ntmps [(0, .slice p8694 x8692.length c8695), (1, .slice p8699 x8697.length c8700), (5, .int .i64 s8819)] a) hw8827 (fun a ha => ⟨M0.pick [] (by kernel_rfl), ha.sub (by kernel_rfl)⟩) ?_
      clear hm
      intro s8819 x8820 hm hout8821 a8822 w8823 ⟨M8824, hS8825⟩
      refine G_use hS8825 ?_
      refine G_seq ?_
      refine G_seq ?_
      refine G_region ?_
      refine W_run 4 [(0, .slice p8694 x8692.length c8695), (1, .slice p8699 x8697.length c8700), (5, .int .i64 s8819), (14, .bool (decide (s8819 < (x8692.length : Int))))] w8823 (by kernel_rfl) ?_
      refine W_nil ?_
      refine N_then ?_
      rcases gx_bif hm with ⟨hc8830, hm⟩ | ⟨hc8830, hm⟩
      · refine G_cond_t (b := (decide (s8819 < (x8692.length : Int)))) hc8830 (by kernel_rfl) ?_
        refine G_skip ?_
        refine N_then ?_
        refine G_seq ?_
        refine G_block ?_
        refine G_seq ?_
        refine G_quiet (by kernel_rfl) (by kernel_rfl) M8824 ?_
        refine Z_runs [.slice p8694 x8692.length c8695, .int .i64 s8819] [(0, .slice p8694 x8692.length c8695), (1, .slice p8699 x8697.length c8700), (5, .int .i64 s8819), (17, .slice p8694 x8692.length c8695), (18, .int .i64 s8819)] (fun w_ => by kernel_rfl) (by kernel_rfl) ?_
        obtain ⟨y8831, hy8831, hm⟩ := gx_bind hm
        obtain ⟨zs8832, hz8833, hr8834, hi8835⟩ := id h8696
        obtain ⟨g8836, hg8837⟩ := gxIdx_fst hz8833 hy8831
        refine Z_val (elemP p8694 (s8819.toNat * 1)) (by kernel_rfl) (fun w_ M_ => (E_index (E := (deepL encStore).E) _ _ _ x8692.length c8695 .i64 s8819 1 (y := (y8831, g8836)) rfl (by kernel_rfl) (by kernel_rfl) (by kernel_rfl) (hr8834.mem0 M_) (len_fst hz8833) hg8837)) ?_
        refine Z_val (.slice ((g8836 0).1) y8831.length ((g8836 0).2)) (by kernel_rfl) (fun w_ M_ => (E_loadE (E := (deepL encStore).E) _ _ false 1 s8819 0 (s8819.toNat * 1) (y8831, g8836) (.slice ((g8836 0).1) y8831.length ((g8836 0).2)) rfl (by kernel_rfl) (by kernel_rfl) (by kernel_rfl) (hr8834.mem0 M_) hg8837 rfl)) ?_
        refine Z_runs [.slice p8699 x8697.length c8700, .int .i64 s8819] [(0, .slice p8694 x8692.length c8695), (1, .slice p8699 x8697.length c8700), (5, .int .i64 s8819), (20, .slice ((g8836 0).1) y8831.length ((g8836 0).2)), (21, .slice p8699 x8697.length c8700), (22, .int .i64 s8819)] (fun w_ => by kernel_rfl) (by kernel_rfl) ?_
        obtain ⟨y8839, hy8839, hm⟩ := gx_bind hm
        obtain ⟨zs8840, hz8841, hr8842, hi8843⟩ := id h8701
        obtain ⟨g8844, hg8845⟩ := gxIdx_fst hz8841 hy8839
        refine Z_val (elemP p8699 (s8819.toNat * 1)) (by kernel_rfl) (fun w_ M_ => (E_index (E := (deepL encStore).E) _ _ _ x8697.length c8700 .i64 s8819 1 (y := (y8839, g8844)) rfl (by kernel_rfl) (by kernel_rfl) (by kernel_rfl) (hr8842.mem0 M_) (len_fst hz8841) hg8845)) ?_
        refine Z_val (.slice ((g8844 0).1) y8839.length ((g8844 0).2)) (by kernel_rfl) (fun w_ M_ => (E_loadE (E := (deepL encStore).E) _ _ false 1 s8819 0 (s8819.toNat * 1) (y8839, g8844) (.slice ((g8844 0).1) y8839.length ((g8844 0).2)) rfl (by kernel_rfl) (by kernel_rfl) (by kernel_rfl) (hr8842.mem0 M_) hg8845 rfl)) ?_
        obtain ⟨r8847, hr8847, hm⟩ := gx_bind hm
        refine Z_call 82 #[.slice ((g8836 0).1) y8831.length ((g8836 0).2), .slice ((g8844 0).1) y8839.length ((g8844 0).2)] (.bool r8847) (by kernel_rfl) (fun w_ => by kernel_rfl) (fun w_ M_ => (c_l_eqStoreS w_ y8831 ((g8836 0).1) ((g8836 0).2) ((hi8835.mem0 M_).at_ hg8837 0 ⟨Store, encStore, y8831, (g8836 0).1, (g8836 0).2⟩ (by kernel_rfl)) y8839 ((g8844 0).1) ((g8844 0).2) ((hi8843.mem0 M_).at_ hg8845 0 ⟨Store, encStore, y8839, (g8844 0).1, (g8844 0).2⟩ (by kernel_rfl)) hr8847).mono fun e w2_ h_ => ⟨h_.1, M_.call0 h_.2⟩) ?_
        refine Z_runs [.bool (!r8847)] [(0, .slice p8694 x8692.length c8695), (1, .slice p8699 x8697.length c8700), (5, .int .i64 s8819), (26, .bool (!r8847))] (fun w_ => by kernel_rfl) (by kernel_rfl) ?_
        refine Z_end fun w8851 M8852 => ?_
        refine N_then ?_
        rcases gx_bif hm with ⟨hc8853, hm⟩ | ⟨hc8853, hm⟩
        · refine G_cond_t (b := (!r8847)) hc8853 (by kernel_rfl) ?_
          refine G_seq ?_
          refine G_region ?_
          refine W_run 1 [(4, .bool false)] w8851 (by kernel_rfl) ?_
          refine W_nil ?_
          refine N_then ?_
          refine G_ret ?_
          refine N_block_ret ?_
          refine N_then_ret ?_
          refine N_then_ret ?_
          obtain rfl := Option.some.inj hm
          obtain rfl := hout8821 _ rfl
          have hm := hmo8828; simp only [Sum.elim_inr] at hm
          refine N_block_ret ?_
          refine N_meet_ret ?_
          refine N_then_ret ?_
          obtain rfl := Option.some.inj hm
          refine N_ret [.bool false] (RVs_cons (RV_tmp (by kernel_rfl)) RVs_nil) ?_
          exact ⟨rfl, M8852.pick [] (by kernel_rfl)⟩
        · refine G_cond_f (b := (!r8847)) hc8853 (by kernel_rfl) ?_
          refine G_skip ?_
          refine N_block ?_
          refine N_then ?_
          refine G_region ?_
          refine W_run 3 [(0, .slice p8694 x8692.length c8695), (1, .slice p8699 x8697.length c8700), (5, .int .i64 (w64 (s8819 + 1)))] w8851 (by kernel_rfl) ?_
          refine W_nil ?_
          obtain rfl := Option.some.inj hm
          exact N_loop fun a ha => ⟨_, rfl, M8852.pick [] (by kernel_rfl), ha.sub (by kernel_rfl)⟩
      · refine G_cond_f (b := (decide (s8819 < (x8692.length : Int)))) hc8830 (by kernel_rfl) ?_
        refine G_exit ?_
        refine N_then_exit ?_
        refine N_then_exit ?_
        refine N_block_eq ?_
        obtain rfl := Option.some.inj hm
        obtain rfl := hout8821 _ rfl
        exact N_meet fun a ha => ⟨_, rfl, M8824.pick [] (by kernel_rfl), ha.sub (by kernel_rfl)⟩
    · intro a8854 w8855 ⟨o8829, hout_, M8856, hS8857⟩
      refine N_use hS8857 ?_
      subst hout_
      have hm := hmo8828; simp only [Sum.elim_inl] at hm
      refine N_then ?_
      refine G_seq ?_
      refine G_region ?_
      refine W_run 1 [(4, .bool true)] w8855 (by kernel_rfl) ?_
      refine W_nil ?_
      refine N_then ?_
      refine G_ret ?_
      obtain rfl := Option.some.inj hm
      refine N_ret [.bool true] (RVs_cons (RV_tmp (by kernel_rfl)) RVs_nil) ?_
      exact ⟨rfl, M8856.pick [] (by kernel_rfl)⟩
theorem c_l_FnExactRoundsUntil (w : World) (x5775 : Copying) (p5777 : Option Addr) (c5778 : Nat) (h5779 : rdS encI w x5775.Memory p5777 c5778) (p5781 : Option Addr) (c5782 : Nat) (h5783 : rdS encI w x5775.Copy p5781 c5782) (p5785 : Option Addr) (c5786 : Nat) (h5787 : rdS encB w x5775.Dirty p5785 c5786) (x5788 : List (List Store)) (p5790 : Option Addr) (c5791 : Nat) (h5792 : rdD (deepL encStore) w x5788 p5790 c5791) (x5793 : Int) (x5794 : Int) {r : Bool} (hm : M.l_FnExactRoundsUntil x5775 x5788 x5793 x5794 = some r) :
    Calls Try.prog 9 #[.agg #[.slice p5777 x5775.Memory.length c5778, .slice p5781 x5775.Copy.length c5782, .slice p5785 x5775.Dirty.length c5786], .slice p5790 x5788.length c5791, .int .i64 x5793, .int .i64 x5794] w fun e w' => e = .returned (.bool r) ∧ Mem [] w w' [] := by
  unfold M.l_FnExactRoundsUntil at hm
  refine C_enter Try.func9 rfl (by kernel_rfl) ?_
  have M0 := Mem.refl [] w
  refine G_seq ?_
  refine G_region ?_
  refine W_new (fun b => .pointer (some ⟨b, 0, none⟩)) (.cells ⟨[.slice p5777 x5775.Memory.length c5778, .slice p5781 x5775.Copy.length c5782, .slice p5785 x5775.Dirty.length c5786]⟩ 25 (0, 0)) M0 rfl (by kernel_rfl) (by kernel_rfl) ?_
  intro b5796 w5797 M5798
  refine W_run 1 [(1, .slice p5790 x5788.length c5791), (2, .int .i64 x5793), (3, .int .i64 x5794), (4, .pointer (some ⟨b5796, 0, none⟩))] w5797 (by kernel_rfl) ?_
  refine W_nil ?_
  refine N_then ?_
  refine G_seq ?_
  refine G_region ?_
  refine W_run 1 [(1, .slice p5790 x5788.length c5791), (2, .int .i64 x5793), (3, .int .i64 x5794), (4, .pointer (some ⟨b5796, 0, none⟩)), (9, .int .i64 1048576)] w5797 (by kernel_rfl) ?_
  refine W_nil ?_
  refine N_then ?_
  refine G_seq ?_
  refine G_region ?_
  refine W_val (.agg #[.slice p5777 x5775.Memory.length c5778, .slice p5781 x5775.Copy.length c5782, .slice p5785 x5775.Dirty.length c5786]) w5797 (by kernel_rfl) (E_load (e := 25) (fr := (0, 0)) _ _ true 3 b5796 0 [.slice p5777 x5775.Memory.length c5778, .slice p5781 x5775.Copy.length c5782, .slice p5785 x5775.Dirty.length c5786] (.agg #[.slice p5777 x5775.Memory.length c5778, .slice p5781 x5775.Copy.length c5782, .slice p5785 x5775.Dirty.length c5786]) rfl (by kernel_rfl) (by kernel_rfl) (by kernel_rfl) (M5798.blk 0 (b := b5796) (o := .cells ⟨[.slice p5777 x5775.Memory.length c5778, .slice p5781 x5775.Copy.length c5782, .slice p5785 x5775.Dirty.length c5786]⟩ 25 (0, 0)) (by kernel_rfl))) ?_
  refine W_run 1 [(1, .slice p5790 x5788.length c5791), (2, .int .i64 x5793), (3, .int .i64 x5794), (4, .pointer (some ⟨b5796, 0, none⟩)), (9, .int .i64 1048576), (16, .agg #[.slice p5777 x5775.Memory.length c5778, .slice p5781 x5775.Copy.length c5782, .slice p5785 x5775.Dirty.length c5786]), (17, .int .i64 1048576)] w5797 (by kernel_rfl) ?_
  obtain ⟨r5799, hr5799, hm⟩ := gx_bind hm
  refine W_call 13 #[.agg #[.slice p5777 x5775.Memory.length c5778, .slice p5781 x5775.Copy.length c5782, .slice p5785 x5775.Dirty.length c5786], .int .i64 1048576] (by kernel_rfl) (by kernel_rfl) ?_
  refine (c_l_szCopying w5797 x5775 p5777 c5778 (h5779.mem0 M5798) p5781 c5782 (h5783.mem0 M5798) p5785 c5786 (h5787.mem0 M5798) 1048576 hr5799).mono ?_
  rintro e_ w5800 ⟨rfl, K5801⟩
  have M5802 := M5798.call0 K5801
  refine ⟨_, rfl, ?_⟩
  refine W_run 1 [(1, .slice p5790 x5788.length c5791), (2, .int .i64 x5793), (3, .int .i64 x5794), (4, .pointer (some ⟨b5796, 0, none⟩)), (9, .int .i64 r5799)] w5800 (by kernel_rfl) ?_
  refine W_nil ?_
  refine N_then ?_
  refine G_seq ?_
  refine G_seq ?_
  refine G_region ?_
  refine W_run 2 [(1, .slice p5790 x5788.length c5791), (2, .int .i64 x5793), (3, .int .i64 x5794), (4, .pointer (some ⟨b5796, 0, none⟩)), (9, .int .i64 r5799), (20, .bool (decide (r5799 < 0)))] w5800 (by kernel_rfl) ?_
  refine W_nil ?_
  refine N_then ?_
  rcases gx_bif hm with ⟨hc5803, hm⟩ | ⟨hc5803, hm⟩
  · refine G_cond_t (b := (decide (r5799 < 0))) hc5803 (by kernel_rfl) ?_
    refine G_seq ?_
    refine G_region ?_
    refine W_run 1 [(8, .bool true)] w5800 (by kernel_rfl) ?_
    refine W_nil ?_
    refine N_then ?_
    refine G_ret ?_
    refine N_then_ret ?_
    obtain rfl := Option.some.inj hm
    refine N_ret [.bool true] (RVs_cons (RV_tmp (by kernel_rfl)) RVs_nil) ?_
    exact ⟨rfl, M5802.pick [] (by kernel_rfl)⟩
  · refine G_cond_f (b := (decide (r5799 < 0))) hc5803 (by kernel_rfl) ?_
    refine G_skip ?_
    refine N_then ?_
    refine G_seq ?_
    refine G_region ?_
    refine W_run 2 [(1, .slice p5790 x5788.length c5791), (2, .int .i64 x5793), (3, .int .i64 x5794), (4, .pointer (some ⟨b5796, 0, none⟩)), (9, .int .i64 r5799), (21, .slice p5790 x5788.length c5791), (22, .int .i64 r5799)] w5800 (by kernel_rfl) ?_
    obtain ⟨r5875, hr5875, hm⟩ := gx_bind hm
    refine W_call 35 #[.slice p5790 x5788.length c5791, .int .i64 r5799] (by kernel_rfl) (by kernel_rfl) ?_
    refine (c_l_szStoreSS w5800 x5788 p5790 c5791 (h5792.mem0 M5802) r5799 hr5875).mono ?_
    rintro e_ w5876 ⟨rfl, K5877⟩
    have M5878 := M5802.call0 K5877
    refine ⟨_, rfl, ?_⟩
    refine W_run 1 [(1, .slice p5790 x5788.length c5791), (2, .int .i64 x5793), (3, .int .i64 x5794), (4, .pointer (some ⟨b5796, 0, none⟩)), (9, .int .i64 r5875)] w5876 (by kernel_rfl) ?_
    refine W_nil ?_
    refine N_then ?_
    refine G_seq ?_
    refine G_seq ?_
    refine G_region ?_
    refine W_run 2 [(1, .slice p5790 x5788.length c5791), (2, .int .i64 x5793), (3, .int .i64 x5794), (4, .pointer (some ⟨b5796, 0, none⟩)), (25, .bool (decide (r5875 < 0)))] w5876 (by kernel_rfl) ?_
    refine W_nil ?_
    refine N_then ?_
    rcases gx_bif hm with ⟨hc5879, hm⟩ | ⟨hc5879, hm⟩
    · refine G_cond_t (b := (decide (r5875 < 0))) hc5879 (by kernel_rfl) ?_
      refine G_seq ?_
      refine G_region ?_
      refine W_run 1 [(8, .bool true)] w5876 (by kernel_rfl) ?_
      refine W_nil ?_
      refine N_then ?_
      refine G_ret ?_
      refine N_then_ret ?_
      obtain rfl := Option.some.inj hm
      refine N_ret [.bool true] (RVs_cons (RV_tmp (by kernel_rfl)) RVs_nil) ?_
      exact ⟨rfl, M5878.pick [] (by kernel_rfl)⟩
    · refine G_cond_f (b := (decide (r5875 < 0))) hc5879 (by kernel_rfl) ?_
      refine G_skip ?_
      refine N_then ?_
      refine G_seq ?_
      refine G_region ?_
      refine W_val (.agg #[.slice p5777 x5775.Memory.length c5778, .slice p5781 x5775.Copy.length c5782, .slice p5785 x5775.Dirty.length c5786]) w5876 (by kernel_rfl) (E_load (e := 25) (fr := (0, 0)) _ _ true 3 b5796 0 [.slice p5777 x5775.Memory.length c5778, .slice p5781 x5775.Copy.length c5782, .slice p5785 x5775.Dirty.length c5786] (.agg #[.slice p5777 x5775.Memory.length c5778, .slice p5781 x5775.Copy.length c5782, .slice p5785 x5775.Dirty.length c5786]) rfl (by kernel_rfl) (by kernel_rfl) (by kernel_rfl) (M5878.blk 0 (b := b5796) (o := .cells ⟨[.slice p5777 x5775.Memory.length c5778, .slice p5781 x5775.Copy.length c5782, .slice p5785 x5775.Dirty.length c5786]⟩ 25 (0, 0)) (by kernel_rfl))) ?_
      obtain ⟨r5880, hr5880, hm⟩ := gx_bind hm
      refine W_call 15 #[.agg #[.slice p5777 x5775.Memory.length c5778, .slice p5781 x5775.Copy.length c5782, .slice p5785 x5775.Dirty.length c5786]] (by kernel_rfl) (by kernel_rfl) ?_
      refine (c_l_toCopying w5876 x5775 p5777 c5778 (h5779.mem0 M5878) p5781 c5782 (h5783.mem0 M5878) p5785 c5786 (h5787.mem0 M5878) hr5880).mono ?_
      rintro e_ w5896 ⟨p5882, c5883, sg5884, p5887, c5888, sg5889, p5892, c5893, sg5894, rfl, ho5885, ho5890, ho5895, K5897⟩
      have M5898 := M5878.call K5897
      refine ⟨_, rfl, ?_⟩
      refine W_run 1 [(1, .slice p5790 x5788.length c5791), (2, .int .i64 x5793), (3, .int .i64 x5794), (4, .pointer (some ⟨b5796, 0, none⟩)), (28, .agg #[.slice p5882 r5880.Memory.length c5883, .slice p5887 r5880.Copy.length c5888, .slice p5892 r5880.Dirty.length c5893]), (29, .slice p5790 x5788.length c5791)] w5896 (by kernel_rfl) ?_
      obtain ⟨r6137, hr6137, hm⟩ := gx_bind hm
      refine W_call 37 #[.slice p5790 x5788.length c5791] (by kernel_rfl) (by kernel_rfl) ?_
      refine (c_l_toStoreSS w5896 x5788 p5790 c5791 (h5792.mem0 M5898) hr6137).mono ?_
      rintro e_ w6144 ⟨p6139, c6140, sg6141, sg6142, rfl, ho6143, K6145⟩
      have M6146 := M5898.call K6145
      refine ⟨_, rfl, ?_⟩
      refine W_run 2 [(1, .slice p5790 x5788.length c5791), (2, .int .i64 x5793), (3, .int .i64 x5794), (4, .pointer (some ⟨b5796, 0, none⟩)), (28, .agg #[.slice p5882 r5880.Memory.length c5883, .slice p5887 r5880.Copy.length c5888, .slice p5892 r5880.Dirty.length c5893]), (30, .slice p6139 r6137.length c6140), (31, .int .i64 x5793), (32, .int .i64 x5794)] w6144 (by kernel_rfl) ?_
      obtain ⟨r7857, hr7857, hm⟩ := gx_bind hm
      refine W_call 36 #[.agg #[.slice p5882 r5880.Memory.length c5883, .slice p5887 r5880.Copy.length c5888, .slice p5892 r5880.Dirty.length c5893], .slice p6139 r6137.length c6140, .int .i64 x5793, .int .i64 x5794] (by kernel_rfl) (by kernel_rfl) ?_
      refine (c_s_RoundsUntil w6144 r5880 p5882 c5883 (ho5885.rd M6146 1 (by kernel_rfl)) p5887 c5888 (ho5890.rd M6146 2 (by kernel_rfl)) p5892 c5893 (ho5895.rd M6146 3 (by kernel_rfl)) r6137 p6139 c6140 (ho6143.rd M6146 4 (by kernel_rfl) 5 (by kernel_rfl)) x5793 x5794 hr7857).mono ?_
      rintro e_ w7858 ⟨rfl, K7859⟩
      have M7860 := M6146.call0 K7859
      refine ⟨_, rfl, ?_⟩
      refine W_run 5 [(1, .slice p5790 x5788.length c5791), (2, .int .i64 x5793), (3, .int .i64 x5794), (4, .pointer (some ⟨b5796, 0, none⟩)), (10, .int .i64 r7857.1), (11, .bool r7857.2)] w7858 (by kernel_rfl) ?_
      refine W_nil ?_
      refine N_then ?_
      refine G_seq ?_
      refine G_region ?_
      refine W_val (.agg #[.slice p5777 x5775.Memory.length c5778, .slice p5781 x5775.Copy.length c5782, .slice p5785 x5775.Dirty.length c5786]) w7858 (by kernel_rfl) (E_load (e := 25) (fr := (0, 0)) _ _ true 3 b5796 0 [.slice p5777 x5775.Memory.length c5778, .slice p5781 x5775.Copy.length c5782, .slice p5785 x5775.Dirty.length c5786] (.agg #[.slice p5777 x5775.Memory.length c5778, .slice p5781 x5775.Copy.length c5782, .slice p5785 x5775.Dirty.length c5786]) rfl (by kernel_rfl) (by kernel_rfl) (by kernel_rfl) (M7860.blk 0 (b := b5796) (o := .cells ⟨[.slice p5777 x5775.Memory.length c5778, .slice p5781 x5775.Copy.length c5782, .slice p5785 x5775.Dirty.length c5786]⟩ 25 (0, 0)) (by kernel_rfl))) ?_
      obtain ⟨r7861, hr7861, hm⟩ := gx_bind hm
      refine W_call 15 #[.agg #[.slice p5777 x5775.Memory.length c5778, .slice p5781 x5775.Copy.length c5782, .slice p5785 x5775.Dirty.length c5786]] (by kernel_rfl) (by kernel_rfl) ?_
      refine (c_l_toCopying w7858 x5775 p5777 c5778 (h5779.mem0 M7860) p5781 c5782 (h5783.mem0 M7860) p5785 c5786 (h5787.mem0 M7860) hr7861).mono ?_
      rintro e_ w7877 ⟨p7863, c7864, sg7865, p7868, c7869, sg7870, p7873, c7874, sg7875, rfl, ho7866, ho7871, ho7876, K7878⟩
      have M7879 := M7860.call K7878
      refine ⟨_, rfl, ?_⟩
      refine W_new (fun b => .pointer (some ⟨b, 0, none⟩)) (.cells ⟨[.slice none 0 0, .slice none 0 0, .slice none 0 0]⟩ 28 (0, 0)) M7879 rfl (by kernel_rfl) (by kernel_rfl) ?_
      intro b7884 w7885 M7886
      refine W_store _ _ _ true 3 b7884 0 [.slice none 0 0, .slice none 0 0, .slice none 0 0] 28 (.agg #[.slice p7863 r7861.Memory.length c7864, .slice p7868 r7861.Copy.length c7869, .slice p7873 r7861.Dirty.length c7874]) 9 [.slice p7863 r7861.Memory.length c7864, .slice p7868 r7861.Copy.length c7869, .slice p7873 r7861.Dirty.length c7874] M7886 (by kernel_rfl) rfl (by kernel_rfl) (by kernel_rfl) (by kernel_rfl) (by kernel_rfl) (by kernel_rfl) (by kernel_rfl) (by kernel_rfl) (by kernel_rfl) ?_
      intro w7887 M7888
      refine W_nil ?_
      refine N_then ?_
      refine G_seq ?_
      refine G_region ?_
      refine W_run 1 [(1, .slice p5790 x5788.length c5791), (2, .int .i64 x5793), (3, .int .i64 x5794), (4, .pointer (some ⟨b5796, 0, none⟩)), (10, .int .i64 r7857.1), (11, .bool r7857.2), (12, .pointer (some ⟨b7884, 0, none⟩)), (38, .slice p5790 x5788.length c5791)] w7887 (by kernel_rfl) ?_
      obtain ⟨r7889, hr7889, hm⟩ := gx_bind hm
      refine W_call 37 #[.slice p5790 x5788.length c5791] (by kernel_rfl) (by kernel_rfl) ?_
      refine (c_l_toStoreSS w7887 x5788 p5790 c5791 (h5792.mem0 M7888) hr7889).mono ?_
      rintro e_ w7896 ⟨p7891, c7892, sg7893, sg7894, rfl, ho7895, K7897⟩
      have M7898 := M7888.call K7897
      refine ⟨_, rfl, ?_⟩
      refine W_run 1 [(1, .slice p5790 x5788.length c5791), (2, .int .i64 x5793), (3, .int .i64 x5794), (4, .pointer (some ⟨b5796, 0, none⟩)), (10, .int .i64 r7857.1), (11, .bool r7857.2), (12, .pointer (some ⟨b7884, 0, none⟩)), (13, .slice p7891 r7889.length c7892)] w7896 (by kernel_rfl) ?_
      refine W_nil ?_
      refine N_then ?_
      refine G_seq ?_
      refine G_region ?_
      refine W_val (.agg #[.slice p7863 r7861.Memory.length c7864, .slice p7868 r7861.Copy.length c7869, .slice p7873 r7861.Dirty.length c7874]) w7896 (by kernel_rfl) (E_load (e := 28) (fr := (0, 0)) _ _ true 3 b7884 0 [.slice p7863 r7861.Memory.length c7864, .slice p7868 r7861.Copy.length c7869, .slice p7873 r7861.Dirty.length c7874] (.agg #[.slice p7863 r7861.Memory.length c7864, .slice p7868 r7861.Copy.length c7869, .slice p7873 r7861.Dirty.length c7874]) rfl (by kernel_rfl) (by kernel_rfl) (by kernel_rfl) (M7898.blk 9 (b := b7884) (o := .cells ⟨[.slice p7863 r7861.Memory.length c7864, .slice p7868 r7861.Copy.length c7869, .slice p7873 r7861.Dirty.length c7874]⟩ 28 (0, 0)) (by kernel_rfl))) ?_
      refine W_run 3 [(1, .slice p5790 x5788.length c5791), (4, .pointer (some ⟨b5796, 0, none⟩)), (10, .int .i64 r7857.1), (11, .bool r7857.2), (12, .pointer (some ⟨b7884, 0, none⟩)), (13, .slice p7891 r7889.length c7892), (41, .agg #[.slice p7863 r7861.Memory.length c7864, .slice p7868 r7861.Copy.length c7869, .slice p7873 r7861.Dirty.length c7874]), (42, .slice p7891 r7889.length c7892), (43, .int .i64 x5793), (44, .int .i64 x5794)] w7896 (by kernel_rfl) ?_
      obtain ⟨r8629, hr8629, hm⟩ := gx_bind hm
      refine W_call 38 #[.agg #[.slice p7863 r7861.Memory.length c7864, .slice p7868 r7861.Copy.length c7869, .slice p7873 r7861.Dirty.length c7874], .slice p7891 r7889.length c7892, .int .i64 x5793, .int .i64 x5794] (by kernel_rfl) (by kernel_rfl) ?_
      refine (c_i_RoundsUntil w7896 r7861 p7863 c7864 (ho7866.rd M7898 6 (by kernel_rfl)) p7868 c7869 (ho7871.rd M7898 7 (by kernel_rfl)) p7873 c7874 (ho7876.rd M7898 8 (by kernel_rfl)) r7889 p7891 c7892 (ho7895.rd M7898 10 (by kernel_rfl) 11 (by kernel_rfl)) x5793 x5794 hr8629).mono ?_
      rintro e_ w8630 ⟨rfl, K8631⟩
      have M8632 := M7898.call0 K8631
      refine ⟨_, rfl, ?_⟩
      refine W_run 5 [(1, .slice p5790 x5788.length c5791), (4, .pointer (some ⟨b5796, 0, none⟩)), (10, .int .i64 r7857.1), (11, .bool r7857.2), (12, .pointer (some ⟨b7884, 0, none⟩)), (13, .slice p7891 r7889.length c7892), (14, .int .i64 r8629.1), (15, .bool r8629.2)] w8630 (by kernel_rfl) ?_
      refine W_nil ?_
      refine N_then ?_
      refine G_seq ?_
      refine G_seq ?_
      obtain ⟨o8634, ho8635, hm8636⟩ := gx_bind hm
      refine G_meet (fun a w' => Mem [] w w' [[(b5796, .cells ⟨[.slice p5777 x5775.Memory.length c5778, .slice p5781 x5775.Copy.length c5782, .slice p5785 x5775.Dirty.length c5786]⟩ 25 (0, 0))], sg7865, sg7870, sg7875, [(b7884, .cells ⟨[.slice p7863 r7861.Memory.length c7864, .slice p7868 r7861.Copy.length c7869, .slice p7873 r7861.Dirty.length c7874]⟩ 28 (0, 0))], sg7893, sg7894] ∧ Sat Try.f9.ntmps [(1, .slice p5790 x5788.length c5791), (4, .pointer (some ⟨b5796, 0, none⟩)), (12, .pointer (some ⟨b7884, 0, none⟩)), (13, .slice p7891 r7889.length c7892), (55, .bool o8634)] a) ?_ ?_
      · have hm := ho8635
        refine G_region ?_
        refine W_run 4 [(1, .slice p5790 x5788.length c5791), (4, .pointer (some ⟨b5796, 0, none⟩)), (11, .bool r7857.2), (12, .pointer (some ⟨b7884, 0, none⟩)), (13, .slice p7891 r7889.length c7892), (15, .bool r8629.2), (51, .bool (r8629.1 != r7857.1))] w8630 (by kernel_rfl) ?_
        rcases gx_bif hm with ⟨hc8637, hm⟩ | ⟨hc8637, hm⟩
        · refine W_known 51 true (by kernel_rfl) hc8637 ?_
          refine W_run 4 [(1, .slice p5790 x5788.length c5791), (4, .pointer (some ⟨b5796, 0, none⟩)), (12, .pointer (some ⟨b7884, 0, none⟩)), (13, .slice p7891 r7889.length c7892), (55, .bool true)] w8630 (by kernel_rfl) ?_
          refine W_nil ?_
          obtain rfl := Option.some.inj hm
          exact N_meet fun a ha => ⟨M8632.pick [0, 6, 7, 8, 9, 10, 11] (by kernel_rfl), ha.sub (by kernel_rfl)⟩
        · refine W_known 51 false (by kernel_rfl) hc8637 ?_
          refine W_run 4 [(1, .slice p5790 x5788.length c5791), (4, .pointer (some ⟨b5796, 0, none⟩)), (12, .pointer (some ⟨b7884, 0, none⟩)), (13, .slice p7891 r7889.length c7892), (55, .bool (!(r8629.2 == r7857.2)))] w8630 (by kernel_rfl) ?_
          refine W_nil ?_
          obtain rfl := Option.some.inj hm
          exact N_meet fun a ha => ⟨M8632.pick [0, 6, 7, 8, 9, 10, 11] (by kernel_rfl), ha.sub (by kernel_rfl)⟩
      · intro a8640 w8638 ⟨M8639, hS8641⟩
        refine N_use hS8641 ?_
        have hm := hm8636
        refine N_then ?_
        rcases gx_bif hm with ⟨hc8642, hm⟩ | ⟨hc8642, hm⟩
        · refine G_cond_t (b := o8634) hc8642 (by kernel_rfl) ?_
          refine G_seq ?_
          refine G_region ?_
          refine W_run 1 [(8, .bool false)] w8638 (by kernel_rfl) ?_
          refine W_nil ?_
          refine N_then ?_
          refine G_ret ?_
          refine N_then_ret ?_
          obtain rfl := Option.some.inj hm
          refine N_ret [.bool false] (RVs_cons (RV_tmp (by kernel_rfl)) RVs_nil) ?_
          exact ⟨rfl, M8639.pick [] (by kernel_rfl)⟩
        · refine G_cond_f (b := o8634) hc8642 (by kernel_rfl) ?_
          refine G_skip ?_
          refine N_then ?_
          refine G_seq ?_
          refine G_seq ?_
          obtain ⟨r8645, hr8645, hm⟩ := gx_bind hm
          refine G_sub [(1, .slice p5790 x5788.length c5791), (4, .pointer (some ⟨b5796, 0, none⟩)), (12, .pointer (some ⟨b7884, 0, none⟩)), (13, .slice p7891 r7889.length c7892), (55, .bool o8634)] (by kernel_rfl) ?_
          refine G_dagL 3 [[], [], [1]] [[], [], []] [[], [], []] [[], [], []] [[], [], []] [[], [], []] (fun _ => []) (fun i => ([fun f v s => v = (.agg #[.slice p7863 r7861.Memory.length c7864, .slice p7868 r7861.Copy.length c7869, .slice p7873 r7861.Dirty.length c7874] : Value) ∧ s = [], fun f v s => v = (.agg #[.slice p5777 x5775.Memory.length c5778, .slice p5781 x5775.Copy.length c5782, .slice p5785 x5775.Dirty.length c5786] : Value) ∧ s = [], fun f v s => ∃ (p8647 : Option Addr) (c8648 : Nat) (sg8649 : Seg), ∃ (p8652 : Option Addr) (c8653 : Nat) (sg8654 : Seg), ∃ (p8657 : Option Addr) (c8658 : Nat) (sg8659 : Seg), v = (.agg #[.slice p8647 r8645.Memory.length c8648, .slice p8652 r8645.Copy.length c8653, .slice p8657 r8645.Dirty.length c8658] : Value) ∧ s = (sg8649 ++ (sg8654 ++ sg8659)) ∧ ownS encI r8645.Memory p8647 c8648 sg8649 ∧ ownS encI r8645.Copy p8652 c8653 sg8654 ∧ ownS encB r8645.Dirty p8657 c8658 sg8659] : List ((Nat → Value) → Value → Seg → Prop)).getD i (fun _ _ _ => False)) (fun j f v => ∃ s, (fun i => ([fun f v s => v = (.agg #[.slice p7863 r7861.Memory.length c7864, .slice p7868 r7861.Copy.length c7869, .slice p7873 r7861.Dirty.length c7874] : Value) ∧ s = [], fun f v s => v = (.agg #[.slice p5777 x5775.Memory.length c5778, .slice p5781 x5775.Copy.length c5782, .slice p5785 x5775.Dirty.length c5786] : Value) ∧ s = [], fun f v s => ∃ (p8647 : Option Addr) (c8648 : Nat) (sg8649 : Seg), ∃ (p8652 : Option Addr) (c8653 : Nat) (sg8654 : Seg), ∃ (p8657 : Option Addr) (c8658 : Nat) (sg8659 : Seg), v = (.agg #[.slice p8647 r8645.Memory.length c8648, .slice p8652 r8645.Copy.length c8653, .slice p8657 r8645.Dirty.length c8658] : Value) ∧ s = (sg8649 ++ (sg8654 ++ sg8659)) ∧ ownS encI r8645.Memory p8647 c8648 sg8649 ∧ ownS encI r8645.Copy p8652 c8653 sg8654 ∧ ownS encB r8645.Dirty p8657 c8658 sg8659] : List ((Nat → Value) → Value → Seg → Prop)).getD i (fun _ _ _ => False)) j f v s) [] [0, 2] [2] (fun _ _ _ s h => ⟨s, h⟩) (by kernel_rfl) (by kernel_rfl) (M8639.preNil 3) (by kernel_rfl) (by kernel_rfl) (by kernel_rfl) (by kernel_rfl) (allOb_cons ?_ (allOb_cons ?_ (allOb_cons ?_ allOb_nil))) ?_
          · intro g8643 f8644
            intro R w8661 M8662
            refine W_val (.agg #[.slice p7863 r7861.Memory.length c7864, .slice p7868 r7861.Copy.length c7869, .slice p7873 r7861.Dirty.length c7874]) w8661 (by kernel_rfl) (E_load (e := 28) (fr := (0, 0)) _ _ true 3 b7884 0 [.slice p7863 r7861.Memory.length c7864, .slice p7868 r7861.Copy.length c7869, .slice p7873 r7861.Dirty.length c7874] (.agg #[.slice p7863 r7861.Memory.length c7864, .slice p7868 r7861.Copy.length c7869, .slice p7873 r7861.Dirty.length c7874]) rfl (by kernel_rfl) (by kernel_rfl) (by kernel_rfl) (M8662.blk 4 (b := b7884) (o := .cells ⟨[.slice p7863 r7861.Memory.length c7864, .slice p7868 r7861.Copy.length c7869, .slice p7873 r7861.Dirty.length c7874]⟩ 28 (0, 0)) (by kernel_rfl))) ?_
            exact W_nil (ob_end (.agg #[.slice p7863 r7861.Memory.length c7864, .slice p7868 r7861.Copy.length c7869, .slice p7873 r7861.Dirty.length c7874]) [] rfl (by kernel_rfl) ⟨by kernel_rfl, rfl⟩ M8662)
          · intro g8643 f8644
            intro R w8665 M8666
            refine W_val (.agg #[.slice p5777 x5775.Memory.length c5778, .slice p5781 x5775.Copy.length c5782, .slice p5785 x5775.Dirty.length c5786]) w8665 (by kernel_rfl) (E_load (e := 25) (fr := (0, 0)) _ _ true 3 b5796 0 [.slice p5777 x5775.Memory.length c5778, .slice p5781 x5775.Copy.length c5782, .slice p5785 x5775.Dirty.length c5786] (.agg #[.slice p5777 x5775.Memory.length c5778, .slice p5781 x5775.Copy.length c5782, .slice p5785 x5775.Dirty.length c5786]) rfl (by kernel_rfl) (by kernel_rfl) (by kernel_rfl) (M8666.blk 0 (b := b5796) (o := .cells ⟨[.slice p5777 x5775.Memory.length c5778, .slice p5781 x5775.Copy.length c5782, .slice p5785 x5775.Dirty.length c5786]⟩ 25 (0, 0)) (by kernel_rfl))) ?_
            exact W_nil (ob_end (.agg #[.slice p5777 x5775.Memory.length c5778, .slice p5781 x5775.Copy.length c5782, .slice p5785 x5775.Dirty.length c5786]) [] rfl (by kernel_rfl) ⟨by kernel_rfl, rfl⟩ M8666)
          · intro g8643 f8644
            intro v1_ hb1_
            obtain ⟨rfl, _⟩ := hb1_
            intro R w8669 M8670
            refine W_call 15 #[.agg #[.slice p5777 x5775.Memory.length c5778, .slice p5781 x5775.Copy.length c5782, .slice p5785 x5775.Dirty.length c5786]] (by kernel_rfl) (by kernel_rfl) ?_
            refine (c_l_toCopying w8669 x5775 p5777 c5778 (h5779.mem0 M8670) p5781 c5782 (h5783.mem0 M8670) p5785 c5786 (h5787.mem0 M8670) hr8645).mono ?_
            rintro e_ w8671 ⟨p8647, c8648, sg8649, p8652, c8653, sg8654, p8657, c8658, sg8659, rfl, ho8650, ho8655, ho8660, K8673⟩
            refine ⟨_, rfl, ?_⟩
            exact W_nil (ob_end (.agg #[.slice p8647 r8645.Memory.length c8648, .slice p8652 r8645.Copy.length c8653, .slice p8657 r8645.Dirty.length c8658]) (sg8649 ++ (sg8654 ++ sg8659)) rfl (by kernel_rfl) ⟨p8647, c8648, sg8649, p8652, c8653, sg8654, p8657, c8658, sg8659, rfl, rfl, ho8650, ho8655, ho8660⟩ (Mem.callMid M8670 (K8673.permF (by simp))))
          · intro g8643 f8644
            intro v0_ hb0_
            obtain ⟨rfl, _⟩ := hb0_
            intro v2_ hb2_
            obtain ⟨p8647, c8648, sg8649, p8652, c8653, sg8654, p8657, c8658, sg8659, rfl, hs2_, ho8650, ho8655, ho8660⟩ := hb2_
            intro w8674 M8675
            have M8676 : Mem [] w w8674 [[(b5796, .cells ⟨[.slice p5777 x5775.Memory.length c5778, .slice p5781 x5775.Copy.length c5782, .slice p5785 x5775.Dirty.length c5786]⟩ 25 (0, 0))], sg7865, sg7870, sg7875, [(b7884, .cells ⟨[.slice p7863 r7861.Memory.length c7864, .slice p7868 r7861.Copy.length c7869, .slice p7873 r7861.Dirty.length c7874]⟩ 28 (0, 0))], sg7893, sg7894, (g8643 2)] := M8675
            rw [hs2_] at M8676
            replace M8676 : Mem [] w w8674 [[(b5796, .cells ⟨[.slice p5777 x5775.Memory.length c5778, .slice p5781 x5775.Copy.length c5782, .slice p5785 x5775.Dirty.length c5786]⟩ 25 (0, 0))], sg7865, sg7870, sg7875, [(b7884, .cells ⟨[.slice p7863 r7861.Memory.length c7864, .slice p7868 r7861.Copy.length c7869, .slice p7873 r7861.Dirty.length c7874]⟩ 28 (0, 0))], sg7893, sg7894, sg8649, sg8654, sg8659] := M8676.permF (by simp)
            obtain ⟨r8677, hr8677, hm⟩ := gx_bind hm
            refine W_call 17 #[.agg #[.slice p7863 r7861.Memory.length c7864, .slice p7868 r7861.Copy.length c7869, .slice p7873 r7861.Dirty.length c7874], .agg #[.slice p8647 r8645.Memory.length c8648, .slice p8652 r8645.Copy.length c8653, .slice p8657 r8645.Dirty.length c8658]] (by kernel_rfl) (by kernel_rfl) ?_
            refine (c_l_eqCopying w8674 r7861 p7863 c7864 (ho7866.rd M8676 1 (by kernel_rfl)) p7868 c7869 (ho7871.rd M8676 2 (by kernel_rfl)) p7873 c7874 (ho7876.rd M8676 3 (by kernel_rfl)) r8645 p8647 c8648 (ho8650.rd M8676 7 (by kernel_rfl)) p8652 c8653 (ho8655.rd M8676 8 (by kernel_rfl)) p8657 c8658 (ho8660.rd M8676 9 (by kernel_rfl)) hr8677).mono ?_
            rintro e_ w8678 ⟨rfl, K8679⟩
            have M8680 := M8676.call0 K8679
            refine ⟨_, rfl, ?_⟩
            refine W_run 1 [(1, .slice p5790 x5788.length c5791), (13, .slice p7891 r7889.length c7892), (60, .bool (!r8677))] w8678 (by kernel_rfl) ?_
            refine W_nil ?_
            refine N_then ?_
            rcases gx_bif hm with ⟨hc8681, hm⟩ | ⟨hc8681, hm⟩
            · refine G_cond_t (b := (!r8677)) hc8681 (by kernel_rfl) ?_
              refine G_seq ?_
              refine G_region ?_
              refine W_run 1 [(8, .bool false)] w8678 (by kernel_rfl) ?_
              refine W_nil ?_
              refine N_then ?_
              refine G_ret ?_
              refine N_then_ret ?_
              obtain rfl := Option.some.inj hm
              refine N_ret [.bool false] (RVs_cons (RV_tmp (by kernel_rfl)) RVs_nil) ?_
              exact ⟨rfl, M8680.pick [] (by kernel_rfl)⟩
            · refine G_cond_f (b := (!r8677)) hc8681 (by kernel_rfl) ?_
              refine G_skip ?_
              refine N_then ?_
              refine G_seq ?_
              refine G_seq ?_
              refine G_region ?_
              refine W_run 2 [(61, .slice p7891 r7889.length c7892), (62, .slice p5790 x5788.length c5791)] w8678 (by kernel_rfl) ?_
              obtain ⟨r8682, hr8682, hm⟩ := gx_bind hm
              refine W_call 37 #[.slice p5790 x5788.length c5791] (by kernel_rfl) (by kernel_rfl) ?_
              refine (c_l_toStoreSS w8678 x5788 p5790 c5791 (h5792.mem0 M8680) hr8682).mono ?_
              rintro e_ w8689 ⟨p8684, c8685, sg8686, sg8687, rfl, ho8688, K8690⟩
              have M8691 := M8680.call K8690
              refine ⟨_, rfl, ?_⟩
              obtain ⟨r8858, hr8858, hm⟩ := gx_bind hm
              refine W_call 39 #[.slice p7891 r7889.length c7892, .slice p8684 r8682.length c8685] (by kernel_rfl) (by kernel_rfl) ?_
              refine (c_l_eqStoreSS w8689 r7889 p7891 c7892 (ho7895.rd M8691 5 (by kernel_rfl) 6 (by kernel_rfl)) r8682 p8684 c8685 (ho8688.rd M8691 10 (by kernel_rfl) 11 (by kernel_rfl)) hr8858).mono ?_
              rintro e_ w8859 ⟨rfl, K8860⟩
              have M8861 := M8691.call0 K8860
              refine ⟨_, rfl, ?_⟩
              refine W_run 1 [(65, .bool (!r8858))] w8859 (by kernel_rfl) ?_
              refine W_nil ?_
              refine N_then ?_
              rcases gx_bif hm with ⟨hc8862, hm⟩ | ⟨hc8862, hm⟩
              · refine G_cond_t (b := (!r8858)) hc8862 (by kernel_rfl) ?_
                refine G_seq ?_
                refine G_region ?_
                refine W_run 1 [(8, .bool false)] w8859 (by kernel_rfl) ?_
                refine W_nil ?_
                refine N_then ?_
                refine G_ret ?_
                refine N_then_ret ?_
                obtain rfl := Option.some.inj hm
                refine N_ret [.bool false] (RVs_cons (RV_tmp (by kernel_rfl)) RVs_nil) ?_
                exact ⟨rfl, M8861.pick [] (by kernel_rfl)⟩
              · refine G_cond_f (b := (!r8858)) hc8862 (by kernel_rfl) ?_
                refine G_skip ?_
                refine N_then ?_
                refine G_seq ?_
                refine G_region ?_
                refine W_run 1 [(8, .bool true)] w8859 (by kernel_rfl) ?_
                refine W_nil ?_
                refine N_then ?_
                refine G_ret ?_
                obtain rfl := Option.some.inj hm
                refine N_ret [.bool true] (RVs_cons (RV_tmp (by kernel_rfl)) RVs_nil) ?_
                exact ⟨rfl, M8861.pick [] (by kernel_rfl)⟩
theorem c_s_RunRounds (w : World) (x8925 : Copying) (p8927 : Option Addr) (c8928 : Nat) (h8929 : rdS encI w x8925.Memory p8927 c8928) (p8931 : Option Addr) (c8932 : Nat) (h8933 : rdS encI w x8925.Copy p8931 c8932) (p8935 : Option Addr) (c8936 : Nat) (h8937 : rdS encB w x8925.Dirty p8935 c8936) (x8938 : List (List Store)) (p8940 : Option Addr) (c8941 : Nat) (h8942 : rdD (deepL encStore) w x8938 p8940 c8941) (x8943 : Int) {r : Copying × Int × Bool} (hm : M.s_RunRounds x8925 x8938 x8943 = some r) :
    Calls Try.prog 40 #[.agg #[.slice p8927 x8925.Memory.length c8928, .slice p8931 x8925.Copy.length c8932, .slice p8935 x8925.Dirty.length c8936], .slice p8940 x8938.length c8941, .int .i64 x8943] w fun e w' => ∃ (p8945 : Option Addr) (c8946 : Nat) (sg8947 : Seg), ∃ (p8949 : Option Addr) (c8950 : Nat) (sg8951 : Seg), ∃ (p8953 : Option Addr) (c8954 : Nat) (sg8955 : Seg), e = .returned (.tuple #[.agg #[.slice p8945 r.1.Memory.length c8946, .slice p8949 r.1.Copy.length c8950, .slice p8953 r.1.Dirty.length c8954], .int .i64 r.2.1, .bool r.2.2]) ∧ ownS encI r.1.Memory p8945 c8946 sg8947 ∧ ownS encI r.1.Copy p8949 c8950 sg8951 ∧ ownS encB r.1.Dirty p8953 c8954 sg8955 ∧ Mem [] w w' [sg8947, sg8951, sg8955] := by
  unfold M.s_RunRounds at hm
  refine C_enter Try.func40 rfl (by kernel_rfl) ?_
  have M0 := Mem.refl [] w
  refine G_seq ?_
  refine G_region ?_
  refine W_new (fun b => .pointer (some ⟨b, 0, none⟩)) (.cells ⟨[.slice p8927 x8925.Memory.length c8928, .slice p8931 x8925.Copy.length c8932, .slice p8935 x8925.Dirty.length c8936]⟩ 28 (0, 0)) M0 rfl (by kernel_rfl) (by kernel_rfl) ?_
  intro b8957 w8958 M8959
  refine W_new (fun b => .pointer (some ⟨b, 0, none⟩)) (.cells ⟨[.slice none 0 0, .slice none 0 0, .slice none 0 0]⟩ 28 (0, 0)) M8959 rfl (by kernel_rfl) (by kernel_rfl) ?_
  intro b8964 w8965 M8966
  refine W_run 2 [(1, .slice p8940 x8938.length c8941), (2, .int .i64 x8943), (3, .pointer (some ⟨b8957, 0, none⟩)), (6, .pointer (some ⟨b8964, 0, none⟩))] w8965 (by kernel_rfl) ?_
  refine W_nil ?_
  refine N_then ?_
  refine G_seq ?_
  refine G_seq ?_
  obtain ⟨o8981, ho8982, hm8983⟩ := gx_bind hm
  refine G_meet (fun a w' => Mem [] w w' [[(b8957, .cells ⟨[.slice p8927 x8925.Memory.length c8928, .slice p8931 x8925.Copy.length c8932, .slice p8935 x8925.Dirty.length c8936]⟩ 28 (0, 0))], [(b8964, .cells ⟨[.slice none 0 0, .slice none 0 0, .slice none 0 0]⟩ 28 (0, 0))]] ∧ Sat Try.f40.ntmps [(1, .slice p8940 x8938.length c8941), (2, .int .i64 x8943), (3, .pointer (some ⟨b8957, 0, none⟩)), (6, .pointer (some ⟨b8964, 0, none⟩)), (24, .bool o8981)] a) ?_ ?_
  · have hm := ho8982
    refine G_region ?_
    refine W_val (.agg #[.slice p8927 x8925.Memory.length c8928, .slice p8931 x8925.Copy.length c8932, .slice p8935 x8925.Dirty.length c8936]) w8965 (by kernel_rfl) (E_load (e := 28) (fr := (0, 0)) _ _ true 3 b8957 0 [.slice p8927 x8925.Memory.length c8928, .slice p8931 x8925.Copy.length c8932, .slice p8935 x8925.Dirty.length c8936] (.agg #[.slice p8927 x8925.Memory.length c8928, .slice p8931 x8925.Copy.length c8932, .slice p8935 x8925.Dirty.length c8936]) rfl (by kernel_rfl) (by kernel_rfl) (by kernel_rfl) (M8966.blk 0 (b := b8957) (o := .cells ⟨[.slice p8927 x8925.Memory.length c8928, .slice p8931 x8925.Copy.length c8932, .slice p8935 x8925.Dirty.length c8936]⟩ 28 (0, 0)) (by kernel_rfl))) ?_
    obtain ⟨r8984, hr8984, hm⟩ := gx_bind hm
    refine W_call 56 #[.agg #[.slice p8927 x8925.Memory.length c8928, .slice p8931 x8925.Copy.length c8932, .slice p8935 x8925.Dirty.length c8936]] (by kernel_rfl) (by kernel_rfl) ?_
    refine (c_s_l19Good w8965 x8925 p8927 c8928 (h8929.mem0 M8966) p8931 c8932 (h8933.mem0 M8966) p8935 c8936 (h8937.mem0 M8966) hr8984).mono ?_
    rintro e_ w8985 ⟨rfl, K8986⟩
    have M8987 := M8966.call0 K8986
    refine ⟨_, rfl, ?_⟩
    refine W_run 2 [(1, .slice p8940 x8938.length c8941), (2, .int .i64 x8943), (3, .pointer (some ⟨b8957, 0, none⟩)), (6, .pointer (some ⟨b8964, 0, none⟩)), (14, .bool (!r8984))] w8985 (by kernel_rfl) ?_
    rcases gx_bif hm with ⟨hc8988, hm⟩ | ⟨hc8988, hm⟩
    · refine W_known 14 true (by kernel_rfl) hc8988 ?_
      refine W_run 10 [(1, .slice p8940 x8938.length c8941), (2, .int .i64 x8943), (3, .pointer (some ⟨b8957, 0, none⟩)), (6, .pointer (some ⟨b8964, 0, none⟩)), (24, .bool true)] w8985 (by kernel_rfl) ?_
      refine W_nil ?_
      obtain rfl := Option.some.inj hm
      exact N_meet fun a ha => ⟨M8987.pick [0, 1] (by kernel_rfl), ha.sub (by kernel_rfl)⟩
    · refine W_known 14 false (by kernel_rfl) hc8988 ?_
      refine W_val (.agg #[.slice p8927 x8925.Memory.length c8928, .slice p8931 x8925.Copy.length c8932, .slice p8935 x8925.Dirty.length c8936]) w8985 (by kernel_rfl) (E_load (e := 28) (fr := (0, 0)) _ _ true 3 b8957 0 [.slice p8927 x8925.Memory.length c8928, .slice p8931 x8925.Copy.length c8932, .slice p8935 x8925.Dirty.length c8936] (.agg #[.slice p8927 x8925.Memory.length c8928, .slice p8931 x8925.Copy.length c8932, .slice p8935 x8925.Dirty.length c8936]) rfl (by kernel_rfl) (by kernel_rfl) (by kernel_rfl) (M8987.blk 0 (b := b8957) (o := .cells ⟨[.slice p8927 x8925.Memory.length c8928, .slice p8931 x8925.Copy.length c8932, .slice p8935 x8925.Dirty.length c8936]⟩ 28 (0, 0)) (by kernel_rfl))) ?_
      refine W_run 1 [(1, .slice p8940 x8938.length c8941), (2, .int .i64 x8943), (3, .pointer (some ⟨b8957, 0, none⟩)), (6, .pointer (some ⟨b8964, 0, none⟩)), (14, .bool false), (15, .agg #[.slice p8927 x8925.Memory.length c8928, .slice p8931 x8925.Copy.length c8932, .slice p8935 x8925.Dirty.length c8936]), (16, .slice p8940 x8938.length c8941)] w8985 (by kernel_rfl) ?_
      obtain ⟨r8989, hr8989, hm⟩ := gx_bind hm
      refine W_call 77 #[.agg #[.slice p8927 x8925.Memory.length c8928, .slice p8931 x8925.Copy.length c8932, .slice p8935 x8925.Dirty.length c8936], .slice p8940 x8938.length c8941] (by kernel_rfl) (by kernel_rfl) ?_
      refine (c_s_l19Stores w8985 x8925 p8927 c8928 (h8929.mem0 M8987) p8931 c8932 (h8933.mem0 M8987) p8935 c8936 (h8937.mem0 M8987) x8938 p8940 c8941 (h8942.mem0 M8987) hr8989).mono ?_
      rintro e_ w8990 ⟨rfl, K8991⟩
      have M8992 := M8987.call0 K8991
      refine ⟨_, rfl, ?_⟩
      refine W_run 3 [(1, .slice p8940 x8938.length c8941), (2, .int .i64 x8943), (3, .pointer (some ⟨b8957, 0, none⟩)), (6, .pointer (some ⟨b8964, 0, none⟩)), (20, .bool (!r8989))] w8990 (by kernel_rfl) ?_
      rcases gx_bif hm with ⟨hc8993, hm⟩ | ⟨hc8993, hm⟩
      · refine W_known 20 true (by kernel_rfl) hc8993 ?_
        refine W_run 4 [(1, .slice p8940 x8938.length c8941), (2, .int .i64 x8943), (3, .pointer (some ⟨b8957, 0, none⟩)), (6, .pointer (some ⟨b8964, 0, none⟩)), (24, .bool true)] w8990 (by kernel_rfl) ?_
        refine W_nil ?_
        obtain rfl := Option.some.inj hm
        exact N_meet fun a ha => ⟨M8992.pick [0, 1] (by kernel_rfl), ha.sub (by kernel_rfl)⟩
      · refine W_known 20 false (by kernel_rfl) hc8993 ?_
        refine W_run 1 [(1, .slice p8940 x8938.length c8941), (2, .int .i64 x8943), (3, .pointer (some ⟨b8957, 0, none⟩)), (6, .pointer (some ⟨b8964, 0, none⟩)), (20, .bool false), (21, .int .i64 x8943)] w8990 (by kernel_rfl) ?_
        obtain ⟨r8994, hr8994, hm⟩ := gx_bind hm
        refine W_call 73 #[.int .i64 x8943, .int .i64 0, .int .i64 12] (by kernel_rfl) (by kernel_rfl) ?_
        refine (c_s_l1In w8990 x8943 0 12 hr8994).mono ?_
        rintro e_ w8995 ⟨rfl, K8996⟩
        have M8997 := M8992.call0 K8996
        refine ⟨_, rfl, ?_⟩
        refine W_run 2 [(1, .slice p8940 x8938.length c8941), (2, .int .i64 x8943), (3, .pointer (some ⟨b8957, 0, none⟩)), (6, .pointer (some ⟨b8964, 0, none⟩)), (24, .bool (!r8994))] w8995 (by kernel_rfl) ?_
        refine W_nil ?_
        obtain rfl := Option.some.inj hm
        exact N_meet fun a ha => ⟨M8997.pick [0, 1] (by kernel_rfl), ha.sub (by kernel_rfl)⟩
  · intro a9000 w8998 ⟨M8999, hS9001⟩
    refine N_use hS9001 ?_
    have hm := hm8983
    refine N_then ?_
    rcases gx_bif hm with ⟨hc9002, hm⟩ | ⟨hc9002, hm⟩
    · refine G_cond_t (b := o8981) hc9002 (by kernel_rfl) ?_
      refine G_seq ?_
      refine G_region ?_
      refine W_run 1 [(6, .pointer (some ⟨b8964, 0, none⟩)), (25, .agg #[.slice none 0 0, .slice none 0 0, .slice none 0 0])] w8998 (by kernel_rfl) ?_
      refine W_store _ _ _ true 3 b8964 0 [.slice none 0 0, .slice none 0 0, .slice none 0 0] 28 (.agg #[.slice none 0 0, .slice none 0 0, .slice none 0 0]) 1 [.slice none 0 0, .slice none 0 0, .slice none 0 0] M8999 (by kernel_rfl) rfl (by kernel_rfl) (by kernel_rfl) (by kernel_rfl) (by kernel_rfl) (by kernel_rfl) (by kernel_rfl) (by kernel_rfl) (by kernel_rfl) ?_
      intro w9006 M9007
      refine W_run 2 [(6, .pointer (some ⟨b8964, 0, none⟩)), (7, .int .i64 0), (8, .bool false)] w9006 (by kernel_rfl) ?_
      refine W_nil ?_
      refine N_then ?_
      refine G_ret ?_
      refine N_then_ret ?_
      obtain rfl := Option.some.inj hm
      refine N_ret [.agg #[.slice none 0 0, .slice none 0 0, .slice none 0 0], .int .i64 0, .bool false] (RVs_cons (RV_cell (g := true) (k := 3) (b := b8964) (off := 0) (cs := [.slice none 0 0, .slice none 0 0, .slice none 0 0]) (e := 28) (fr := (0, 0)) (v := .agg #[.slice none 0 0, .slice none 0 0, .slice none 0 0]) (M9007.blk 1 (b := b8964) (o := .cells ⟨[.slice none 0 0, .slice none 0 0, .slice none 0 0]⟩ 28 (0, 0)) (by kernel_rfl)) (by kernel_rfl) (by kernel_rfl) (by kernel_rfl)) (RVs_cons (RV_tmp (by kernel_rfl)) (RVs_cons (RV_tmp (by kernel_rfl)) RVs_nil))) ?_
      exact ⟨none, 0, [], none, 0, [], none, 0, [], rfl, ownS_nil, ownS_nil, ownS_nil, M9007.pick [100000, 100001, 100002] (by kernel_rfl)⟩
    · refine G_cond_f (b := o8981) hc9002 (by kernel_rfl) ?_
      refine G_skip ?_
      refine N_then ?_
      refine G_seq ?_
      refine G_region ?_
      refine W_val (.agg #[.slice p8927 x8925.Memory.length c8928, .slice p8931 x8925.Copy.length c8932, .slice p8935 x8925.Dirty.length c8936]) w8998 (by kernel_rfl) (E_load (e := 28) (fr := (0, 0)) _ _ true 3 b8957 0 [.slice p8927 x8925.Memory.length c8928, .slice p8931 x8925.Copy.length c8932, .slice p8935 x8925.Dirty.length c8936] (.agg #[.slice p8927 x8925.Memory.length c8928, .slice p8931 x8925.Copy.length c8932, .slice p8935 x8925.Dirty.length c8936]) rfl (by kernel_rfl) (by kernel_rfl) (by kernel_rfl) (M8999.blk 0 (b := b8957) (o := .cells ⟨[.slice p8927 x8925.Memory.length c8928, .slice p8931 x8925.Copy.length c8932, .slice p8935 x8925.Dirty.length c8936]⟩ 28 (0, 0)) (by kernel_rfl))) ?_
      refine W_run 2 [(6, .pointer (some ⟨b8964, 0, none⟩)), (27, .agg #[.slice p8927 x8925.Memory.length c8928, .slice p8931 x8925.Copy.length c8932, .slice p8935 x8925.Dirty.length c8936]), (28, .slice p8940 x8938.length c8941), (29, .int .i64 x8943)] w8998 (by kernel_rfl) ?_
      obtain ⟨r9008, hr9008, hm⟩ := gx_bind hm
      refine W_call 78 #[.agg #[.slice p8927 x8925.Memory.length c8928, .slice p8931 x8925.Copy.length c8932, .slice p8935 x8925.Dirty.length c8936], .slice p8940 x8938.length c8941, .int .i64 x8943] (by kernel_rfl) (by kernel_rfl) ?_
      refine (c_s_l19Run w8998 x8925 p8927 c8928 (h8929.mem0 M8999) p8931 c8932 (h8933.mem0 M8999) p8935 c8936 (h8937.mem0 M8999) x8938 p8940 c8941 (h8942.mem0 M8999) x8943 hr9008).mono ?_
      rintro e_ w9024 ⟨p9010, c9011, sg9012, p9015, c9016, sg9017, p9020, c9021, sg9022, rfl, ho9013, ho9018, ho9023, K9025⟩
      have M9026 := M8999.call K9025
      refine ⟨_, rfl, ?_⟩
      refine W_run 3 [(6, .pointer (some ⟨b8964, 0, none⟩)), (31, .agg #[.slice p9010 r9008.1.Memory.length c9011, .slice p9015 r9008.1.Copy.length c9016, .slice p9020 r9008.1.Dirty.length c9021]), (32, .int .i64 r9008.2)] w9024 (by kernel_rfl) ?_
      refine W_new (fun b => .pointer (some ⟨b, 0, none⟩)) (.cells ⟨[.slice none 0 0, .slice none 0 0, .slice none 0 0]⟩ 28 (0, 0)) M9026 rfl (by kernel_rfl) (by kernel_rfl) ?_
      intro b9031 w9032 M9033
      refine W_store _ _ _ true 3 b9031 0 [.slice none 0 0, .slice none 0 0, .slice none 0 0] 28 (.agg #[.slice p9010 r9008.1.Memory.length c9011, .slice p9015 r9008.1.Copy.length c9016, .slice p9020 r9008.1.Dirty.length c9021]) 5 [.slice p9010 r9008.1.Memory.length c9011, .slice p9015 r9008.1.Copy.length c9016, .slice p9020 r9008.1.Dirty.length c9021] M9033 (by kernel_rfl) rfl (by kernel_rfl) (by kernel_rfl) (by kernel_rfl) (by kernel_rfl) (by kernel_rfl) (by kernel_rfl) (by kernel_rfl) (by kernel_rfl) ?_
      intro w9034 M9035
      refine W_run 1 [(6, .pointer (some ⟨b8964, 0, none⟩)), (9, .pointer (some ⟨b9031, 0, none⟩)), (10, .int .i64 r9008.2)] w9034 (by kernel_rfl) ?_
      refine W_nil ?_
      refine N_then ?_
      refine G_seq ?_
      refine G_region ?_
      refine W_val (.agg #[.slice p9010 r9008.1.Memory.length c9011, .slice p9015 r9008.1.Copy.length c9016, .slice p9020 r9008.1.Dirty.length c9021]) w9034 (by kernel_rfl) (E_load (e := 28) (fr := (0, 0)) _ _ true 3 b9031 0 [.slice p9010 r9008.1.Memory.length c9011, .slice p9015 r9008.1.Copy.length c9016, .slice p9020 r9008.1.Dirty.length c9021] (.agg #[.slice p9010 r9008.1.Memory.length c9011, .slice p9015 r9008.1.Copy.length c9016, .slice p9020 r9008.1.Dirty.length c9021]) rfl (by kernel_rfl) (by kernel_rfl) (by kernel_rfl) (M9035.blk 5 (b := b9031) (o := .cells ⟨[.slice p9010 r9008.1.Memory.length c9011, .slice p9015 r9008.1.Copy.length c9016, .slice p9020 r9008.1.Dirty.length c9021]⟩ 28 (0, 0)) (by kernel_rfl))) ?_
      refine W_run 1 [(6, .pointer (some ⟨b8964, 0, none⟩)), (33, .agg #[.slice p9010 r9008.1.Memory.length c9011, .slice p9015 r9008.1.Copy.length c9016, .slice p9020 r9008.1.Dirty.length c9021]), (34, .int .i64 r9008.2)] w9034 (by kernel_rfl) ?_
      refine W_store _ _ _ true 3 b8964 0 [.slice none 0 0, .slice none 0 0, .slice none 0 0] 28 (.agg #[.slice p9010 r9008.1.Memory.length c9011, .slice p9015 r9008.1.Copy.length c9016, .slice p9020 r9008.1.Dirty.length c9021]) 1 [.slice p9010 r9008.1.Memory.length c9011, .slice p9015 r9008.1.Copy.length c9016, .slice p9020 r9008.1.Dirty.length c9021] M9035 (by kernel_rfl) rfl (by kernel_rfl) (by kernel_rfl) (by kernel_rfl) (by kernel_rfl) (by kernel_rfl) (by kernel_rfl) (by kernel_rfl) (by kernel_rfl) ?_
      intro w9036 M9037
      refine W_run 2 [(6, .pointer (some ⟨b8964, 0, none⟩)), (7, .int .i64 r9008.2), (8, .bool true)] w9036 (by kernel_rfl) ?_
      refine W_nil ?_
      refine N_then ?_
      refine G_ret ?_
      obtain rfl := Option.some.inj hm
      refine N_ret [.agg #[.slice p9010 r9008.1.Memory.length c9011, .slice p9015 r9008.1.Copy.length c9016, .slice p9020 r9008.1.Dirty.length c9021], .int .i64 r9008.2, .bool true] (RVs_cons (RV_cell (g := true) (k := 3) (b := b8964) (off := 0) (cs := [.slice p9010 r9008.1.Memory.length c9011, .slice p9015 r9008.1.Copy.length c9016, .slice p9020 r9008.1.Dirty.length c9021]) (e := 28) (fr := (0, 0)) (v := .agg #[.slice p9010 r9008.1.Memory.length c9011, .slice p9015 r9008.1.Copy.length c9016, .slice p9020 r9008.1.Dirty.length c9021]) (M9037.blk 1 (b := b8964) (o := .cells ⟨[.slice p9010 r9008.1.Memory.length c9011, .slice p9015 r9008.1.Copy.length c9016, .slice p9020 r9008.1.Dirty.length c9021]⟩ 28 (0, 0)) (by kernel_rfl)) (by kernel_rfl) (by kernel_rfl) (by kernel_rfl)) (RVs_cons (RV_tmp (by kernel_rfl)) (RVs_cons (RV_tmp (by kernel_rfl)) RVs_nil))) ?_
      exact ⟨p9010, c9011, sg9012, p9015, c9016, sg9017, p9020, c9021, sg9022, rfl, ho9013, ho9018, ho9023, M9037.pick [2, 3, 4] (by kernel_rfl)⟩
theorem c_i_RunRounds (w : World) (x9104 : Copying) (p9106 : Option Addr) (c9107 : Nat) (h9108 : rdS encI w x9104.Memory p9106 c9107) (p9110 : Option Addr) (c9111 : Nat) (h9112 : rdS encI w x9104.Copy p9110 c9111) (p9114 : Option Addr) (c9115 : Nat) (h9116 : rdS encB w x9104.Dirty p9114 c9115) (x9117 : List (List Store)) (p9119 : Option Addr) (c9120 : Nat) (h9121 : rdD (deepL encStore) w x9117 p9119 c9120) (x9122 : Int) {r : Copying × Int × Bool} (hm : M.i_RunRounds x9104 x9117 x9122 = some r) :
    Calls Try.prog 41 #[.agg #[.slice p9106 x9104.Memory.length c9107, .slice p9110 x9104.Copy.length c9111, .slice p9114 x9104.Dirty.length c9115], .slice p9119 x9117.length c9120, .int .i64 x9122] w fun e w' => ∃ (p9124 : Option Addr) (c9125 : Nat) (sg9126 : Seg), ∃ (p9128 : Option Addr) (c9129 : Nat) (sg9130 : Seg), ∃ (p9132 : Option Addr) (c9133 : Nat) (sg9134 : Seg), e = .returned (.tuple #[.agg #[.slice p9124 r.1.Memory.length c9125, .slice p9128 r.1.Copy.length c9129, .slice p9132 r.1.Dirty.length c9133], .int .i64 r.2.1, .bool r.2.2]) ∧ ownS encI r.1.Memory p9124 c9125 sg9126 ∧ ownS encI r.1.Copy p9128 c9129 sg9130 ∧ ownS encB r.1.Dirty p9132 c9133 sg9134 ∧ Mem [] w w' [sg9126, sg9130, sg9134] := by
  unfold M.i_RunRounds at hm
  refine C_enter Try.func41 rfl (by kernel_rfl) ?_
  have M0 := Mem.refl [] w
  refine G_seq ?_
  refine G_region ?_
  refine W_new (fun b => .pointer (some ⟨b, 0, none⟩)) (.cells ⟨[.slice p9106 x9104.Memory.length c9107, .slice p9110 x9104.Copy.length c9111, .slice p9114 x9104.Dirty.length c9115]⟩ 28 (0, 0)) M0 rfl (by kernel_rfl) (by kernel_rfl) ?_
  intro b9136 w9137 M9138
  refine W_new (fun b => .pointer (some ⟨b, 0, none⟩)) (.cells ⟨[.slice none 0 0, .slice none 0 0, .slice none 0 0]⟩ 28 (0, 0)) M9138 rfl (by kernel_rfl) (by kernel_rfl) ?_
  intro b9143 w9144 M9145
  refine W_run 2 [(1, .slice p9119 x9117.length c9120), (2, .int .i64 x9122), (3, .pointer (some ⟨b9136, 0, none⟩)), (6, .pointer (some ⟨b9143, 0, none⟩))] w9144 (by kernel_rfl) ?_
  refine W_nil ?_
  refine N_then ?_
  refine G_seq ?_
  refine G_seq ?_
  refine G_region ?_
  refine W_val (.agg #[.slice p9106 x9104.Memory.length c9107, .slice p9110 x9104.Copy.length c9111, .slice p9114 x9104.Dirty.length c9115]) w9144 (by kernel_rfl) (E_load (e := 28) (fr := (0, 0)) _ _ true 3 b9136 0 [.slice p9106 x9104.Memory.length c9107, .slice p9110 x9104.Copy.length c9111, .slice p9114 x9104.Dirty.length c9115] (.agg #[.slice p9106 x9104.Memory.length c9107, .slice p9110 x9104.Copy.length c9111, .slice p9114 x9104.Dirty.length c9115]) rfl (by kernel_rfl) (by kernel_rfl) (by kernel_rfl) (M9145.blk 0 (b := b9136) (o := .cells ⟨[.slice p9106 x9104.Memory.length c9107, .slice p9110 x9104.Copy.length c9111, .slice p9114 x9104.Dirty.length c9115]⟩ 28 (0, 0)) (by kernel_rfl))) ?_
  refine W_run 2 [(1, .slice p9119 x9117.length c9120), (2, .int .i64 x9122), (3, .pointer (some ⟨b9136, 0, none⟩)), (6, .pointer (some ⟨b9143, 0, none⟩)), (13, .agg #[.slice p9106 x9104.Memory.length c9107, .slice p9110 x9104.Copy.length c9111, .slice p9114 x9104.Dirty.length c9115]), (14, .slice p9119 x9117.length c9120), (15, .int .i64 x9122)] w9144 (by kernel_rfl) ?_
  obtain ⟨r9146, hr9146, hm⟩ := gx_bind hm
  refine W_call 80 #[.agg #[.slice p9106 x9104.Memory.length c9107, .slice p9110 x9104.Copy.length c9111, .slice p9114 x9104.Dirty.length c9115], .slice p9119 x9117.length c9120, .int .i64 x9122] (by kernel_rfl) (by kernel_rfl) ?_
  refine (c_i_areRounds w9144 x9104 p9106 c9107 (h9108.mem0 M9145) p9110 c9111 (h9112.mem0 M9145) p9114 c9115 (h9116.mem0 M9145) x9117 p9119 c9120 (h9121.mem0 M9145) x9122 hr9146).mono ?_
  rintro e_ w9147 ⟨rfl, K9148⟩
  have M9149 := M9145.call0 K9148
  refine ⟨_, rfl, ?_⟩
  refine W_run 1 [(1, .slice p9119 x9117.length c9120), (2, .int .i64 x9122), (3, .pointer (some ⟨b9136, 0, none⟩)), (6, .pointer (some ⟨b9143, 0, none⟩)), (17, .bool (!r9146))] w9147 (by kernel_rfl) ?_
  refine W_nil ?_
  refine N_then ?_
  rcases gx_bif hm with ⟨hc9150, hm⟩ | ⟨hc9150, hm⟩
  · refine G_cond_t (b := (!r9146)) hc9150 (by kernel_rfl) ?_
    refine G_seq ?_
    refine G_region ?_
    refine W_run 1 [(6, .pointer (some ⟨b9143, 0, none⟩)), (18, .agg #[.slice none 0 0, .slice none 0 0, .slice none 0 0])] w9147 (by kernel_rfl) ?_
    refine W_store _ _ _ true 3 b9143 0 [.slice none 0 0, .slice none 0 0, .slice none 0 0] 28 (.agg #[.slice none 0 0, .slice none 0 0, .slice none 0 0]) 1 [.slice none 0 0, .slice none 0 0, .slice none 0 0] M9149 (by kernel_rfl) rfl (by kernel_rfl) (by kernel_rfl) (by kernel_rfl) (by kernel_rfl) (by kernel_rfl) (by kernel_rfl) (by kernel_rfl) (by kernel_rfl) ?_
    intro w9154 M9155
    refine W_run 2 [(6, .pointer (some ⟨b9143, 0, none⟩)), (7, .int .i64 0), (8, .bool false)] w9154 (by kernel_rfl) ?_
    refine W_nil ?_
    refine N_then ?_
    refine G_ret ?_
    refine N_then_ret ?_
    obtain rfl := Option.some.inj hm
    refine N_ret [.agg #[.slice none 0 0, .slice none 0 0, .slice none 0 0], .int .i64 0, .bool false] (RVs_cons (RV_cell (g := true) (k := 3) (b := b9143) (off := 0) (cs := [.slice none 0 0, .slice none 0 0, .slice none 0 0]) (e := 28) (fr := (0, 0)) (v := .agg #[.slice none 0 0, .slice none 0 0, .slice none 0 0]) (M9155.blk 1 (b := b9143) (o := .cells ⟨[.slice none 0 0, .slice none 0 0, .slice none 0 0]⟩ 28 (0, 0)) (by kernel_rfl)) (by kernel_rfl) (by kernel_rfl) (by kernel_rfl)) (RVs_cons (RV_tmp (by kernel_rfl)) (RVs_cons (RV_tmp (by kernel_rfl)) RVs_nil))) ?_
    exact ⟨none, 0, [], none, 0, [], none, 0, [], rfl, ownS_nil, ownS_nil, ownS_nil, M9155.pick [100000, 100001, 100002] (by kernel_rfl)⟩
  · refine G_cond_f (b := (!r9146)) hc9150 (by kernel_rfl) ?_
    refine G_skip ?_
    refine N_then ?_
    refine G_seq ?_
    refine G_region ?_
    refine W_val (.agg #[.slice p9106 x9104.Memory.length c9107, .slice p9110 x9104.Copy.length c9111, .slice p9114 x9104.Dirty.length c9115]) w9147 (by kernel_rfl) (E_load (e := 28) (fr := (0, 0)) _ _ true 3 b9136 0 [.slice p9106 x9104.Memory.length c9107, .slice p9110 x9104.Copy.length c9111, .slice p9114 x9104.Dirty.length c9115] (.agg #[.slice p9106 x9104.Memory.length c9107, .slice p9110 x9104.Copy.length c9111, .slice p9114 x9104.Dirty.length c9115]) rfl (by kernel_rfl) (by kernel_rfl) (by kernel_rfl) (M9149.blk 0 (b := b9136) (o := .cells ⟨[.slice p9106 x9104.Memory.length c9107, .slice p9110 x9104.Copy.length c9111, .slice p9114 x9104.Dirty.length c9115]⟩ 28 (0, 0)) (by kernel_rfl))) ?_
    obtain ⟨r9156, hr9156, hm⟩ := gx_bind hm
    refine W_call 71 #[.agg #[.slice p9106 x9104.Memory.length c9107, .slice p9110 x9104.Copy.length c9111, .slice p9114 x9104.Dirty.length c9115]] (by kernel_rfl) (by kernel_rfl) ?_
    refine (c_i_newCopying w9147 x9104 p9106 c9107 (h9108.mem0 M9149) p9110 c9111 (h9112.mem0 M9149) p9114 c9115 (h9116.mem0 M9149) hr9156).mono ?_
    rintro e_ w9172 ⟨p9158, c9159, sg9160, p9163, c9164, sg9165, p9168, c9169, sg9170, rfl, ho9161, ho9166, ho9171, K9173⟩
    have M9174 := M9149.call K9173
    refine ⟨_, rfl, ?_⟩
    refine W_new (fun b => .pointer (some ⟨b, 0, none⟩)) (.cells ⟨[.slice none 0 0, .slice none 0 0, .slice none 0 0]⟩ 28 (0, 0)) M9174 rfl (by kernel_rfl) (by kernel_rfl) ?_
    intro b9179 w9180 M9181
    refine W_store _ _ _ true 3 b9179 0 [.slice none 0 0, .slice none 0 0, .slice none 0 0] 28 (.agg #[.slice p9158 r9156.Memory.length c9159, .slice p9163 r9156.Copy.length c9164, .slice p9168 r9156.Dirty.length c9169]) 5 [.slice p9158 r9156.Memory.length c9159, .slice p9163 r9156.Copy.length c9164, .slice p9168 r9156.Dirty.length c9169] M9181 (by kernel_rfl) rfl (by kernel_rfl) (by kernel_rfl) (by kernel_rfl) (by kernel_rfl) (by kernel_rfl) (by kernel_rfl) (by kernel_rfl) (by kernel_rfl) ?_
    intro w9182 M9183
    refine W_run 1 [(1, .slice p9119 x9117.length c9120), (2, .int .i64 x9122), (6, .pointer (some ⟨b9143, 0, none⟩)), (9, .pointer (some ⟨b9179, 0, none⟩)), (10, .int .i64 0)] w9182 (by kernel_rfl) ?_
    refine W_nil ?_
    refine N_then ?_
    refine G_seq ?_
    refine G_seq ?_
    refine G_region ?_
    refine W_run 3 [(2, .int .i64 x9122), (6, .pointer (some ⟨b9143, 0, none⟩)), (9, .pointer (some ⟨b9179, 0, none⟩)), (10, .int .i64 0), (21, .slice p9119 x9117.length c9120), (22, .int .i64 (x9117.length : Int)), (23, .int .i64 0)] w9182 (by kernel_rfl) ?_
    refine W_nil ?_
    refine N_then ?_
    obtain ⟨out9262, hw9263, hmo9264⟩ := gx_bind hm
    refine G_meet (fun a w' => ∃ (p9281 : Option Addr), ∃ (c9282 : Nat), ∃ (sg9283 : Seg), ∃ (p9286 : Option Addr), ∃ (c9287 : Nat), ∃ (sg9288 : Seg), ∃ (p9291 : Option Addr), ∃ (c9292 : Nat), ∃ (sg9293 : Seg), ownS encI out9262.2.1 p9281 c9282 sg9283 ∧ ownS encI out9262.2.2.1 p9286 c9287 sg9288 ∧ ownS encB out9262.2.2.2 p9291 c9292 sg9293 ∧ Mem [] w w' [[(b9143, .cells ⟨[.slice none 0 0, .slice none 0 0, .slice none 0 0]⟩ 28 (0, 0))], [(b9179, .cells ⟨[.slice p9281 out9262.2.1.length c9282, .slice p9286 out9262.2.2.1.length c9287, .slice p9291 out9262.2.2.2.length c9292]⟩ 28 (0, 0))], sg9283, sg9288, sg9293] ∧ Sat Try.f41.ntmps [(6, .pointer (some ⟨b9143, 0, none⟩)), (9, .pointer (some ⟨b9179, 0, none⟩)), (10, .int .i64 out9262.1)] a) ?_ ?_
    · refine G_block ?_
      refine G_while (σ := Int × Int × List Int × List Int × List Bool) (ρ := Int × List Int × List Int × List Bool) (fun s9255 a w' => ∃ (p9265 : Option Addr), ∃ (c9266 : Nat), ∃ (sg9267 : Seg), ∃ (p9270 : Option Addr), ∃ (c9271 : Nat), ∃ (sg9272 : Seg), ∃ (p9275 : Option Addr), ∃ (c9276 : Nat), ∃ (sg9277 : Seg), ownS encI s9255.2.2.1 p9265 c9266 sg9267 ∧ ownS encI s9255.2.2.2.1 p9270 c9271 sg9272 ∧ ownS encB s9255.2.2.2.2 p9275 c9276 sg9277 ∧ Mem [] w w' [[(b9143, .cells ⟨[.slice none 0 0, .slice none 0 0, .slice none 0 0]⟩ 28 (0, 0))], [(b9179, .cells ⟨[.slice p9265 s9255.2.2.1.length c9266, .slice p9270 s9255.2.2.2.1.length c9271, .slice p9275 s9255.2.2.2.2.length c9276]⟩ 28 (0, 0))], sg9267, sg9272, sg9277] ∧ Sat Try.f41.ntmps [(2, .int .i64 x9122), (6, .pointer (some ⟨b9143, 0, none⟩)), (9, .pointer (some ⟨b9179, 0, none⟩)), (10, .int .i64 s9255.1), (21, .slice p9119 x9117.length c9120), (22, .int .i64 (x9117.length : Int)), (23, .int .i64 s9255.2.1)] a) hw9263 (fun a ha => ⟨p9158, c9159, sg9160, p9163, c9164, sg9165, p9168, c9169, sg9170, ho9161, ho9166, ho9171, M9183.pick [1, 5, 2, 3, 4] (by kernel_rfl), ha.sub (by kernel_rfl)⟩) ?_
      clear hm
      intro s9255 x9256 hm hout9257 a9258 w9259 ⟨p9265, c9266, sg9267, p9270, c9271, sg9272, p9275, c9276, sg9277, ho9268, ho9273, ho9278, M9260, hS9261⟩
      refine G_use hS9261 ?_
      refine G_seq ?_
      refine G_region ?_
      refine W_run 1 [(2, .int .i64 x9122), (6, .pointer (some ⟨b9143, 0, none⟩)), (9, .pointer (some ⟨b9179, 0, none⟩)), (10, .int .i64 s9255.1), (21, .slice p9119 x9117.length c9120), (22, .int .i64 (x9117.length : Int)), (23, .int .i64 s9255.2.1), (24, .bool (decide (s9255.2.1 < (x9117.length : Int))))] w9259 (by kernel_rfl) ?_
      refine W_nil ?_
      refine N_then ?_
      refine G_seq ?_
      rcases gx_bif hm with ⟨hc9296, hm⟩ | ⟨hc9296, hm⟩
      · refine G_cond_t (b := (decide (s9255.2.1 < (x9117.length : Int)))) hc9296 (by kernel_rfl) ?_
        refine G_skip ?_
        refine N_then ?_
        refine G_seq ?_
        refine G_block ?_
        refine G_seq ?_
        refine G_region ?_
        obtain ⟨y9297, hy9297, hm⟩ := gx_bind hm
        obtain ⟨zs9298, hz9299, hr9300, hi9301⟩ := id h9121
        obtain ⟨g9302, hg9303⟩ := gxIdx_fst hz9299 hy9297
        refine W_val (elemP p9119 (s9255.2.1.toNat * 1)) w9259 (by kernel_rfl) (E_index (E := (deepL encStore).E) _ _ _ x9117.length c9120 .i64 s9255.2.1 1 (y := (y9297, g9302)) rfl (by kernel_rfl) (by kernel_rfl) (by kernel_rfl) (hr9300.mem0 M9260) (len_fst hz9299) hg9303) ?_
        refine W_val (.slice ((g9302 0).1) y9297.length ((g9302 0).2)) w9259 (by kernel_rfl) (E_loadE (E := (deepL encStore).E) _ _ false 1 s9255.2.1 0 (s9255.2.1.toNat * 1) (y9297, g9302) (.slice ((g9302 0).1) y9297.length ((g9302 0).2)) rfl (by kernel_rfl) (by kernel_rfl) (by kernel_rfl) (hr9300.mem0 M9260) hg9303 rfl) ?_
        refine W_run 1 [(2, .int .i64 x9122), (6, .pointer (some ⟨b9143, 0, none⟩)), (9, .pointer (some ⟨b9179, 0, none⟩)), (10, .int .i64 s9255.1), (12, .slice ((g9302 0).1) y9297.length ((g9302 0).2)), (21, .slice p9119 x9117.length c9120), (22, .int .i64 (x9117.length : Int)), (23, .int .i64 s9255.2.1)] w9259 (by kernel_rfl) ?_
        refine W_nil ?_
        refine N_then ?_
        refine G_region ?_
        refine W_run 3 [(2, .int .i64 x9122), (6, .pointer (some ⟨b9143, 0, none⟩)), (9, .pointer (some ⟨b9179, 0, none⟩)), (10, .int .i64 s9255.1), (21, .slice p9119 x9117.length c9120), (22, .int .i64 (x9117.length : Int)), (23, .int .i64 s9255.2.1), (27, .int .i64 s9255.1), (28, .slice ((g9302 0).1) y9297.length ((g9302 0).2)), (29, .int .i64 x9122)] w9259 (by kernel_rfl) ?_
        obtain ⟨r9305, hr9305, hm⟩ := gx_bind hm
        refine W_call 81 #[.pointer (some ⟨b9179, 0, none⟩), .slice ((g9302 0).1) y9297.length ((g9302 0).2), .int .i64 x9122] (by kernel_rfl) (by kernel_rfl) ?_
        refine (c_i_Copying_roundWith w9259 (⟨s9255.2.2.1, s9255.2.2.2.1, s9255.2.2.2.2⟩ : Copying) p9265 c9266 sg9267 ho9268 p9270 c9271 sg9272 ho9273 p9275 c9276 sg9277 ho9278 b9179 y9297 ((g9302 0).1) ((g9302 0).2) ((hi9301.mem0 M9260).at_ hg9303 0 ⟨Store, encStore, y9297, (g9302 0).1, (g9302 0).2⟩ (by kernel_rfl)) x9122 (M9260.hasPick [1, 2, 3, 4]) (M9260.nodupPick [1, 2, 3, 4] (by kernel_rfl)) ((apartI.old0 hi9301 M9260 [1, 2, 3, 4]).at_ hg9303 0 ⟨Store, encStore, y9297, (g9302 0).1, (g9302 0).2⟩ (by kernel_rfl)) hr9305).mono ?_
        rintro e_ w9321 ⟨p9307, c9308, sg9309, p9312, c9313, sg9314, p9317, c9318, sg9319, rfl, ho9310, ho9315, ho9320, K9322⟩
        have M9323 := M9260.callF' [1, 2, 3, 4] [0] (by kernel_rfl) K9322
        refine ⟨_, rfl, ?_⟩
        refine W_run 2 [(2, .int .i64 x9122), (6, .pointer (some ⟨b9143, 0, none⟩)), (9, .pointer (some ⟨b9179, 0, none⟩)), (10, .int .i64 (w64 (s9255.1 + r9305.1))), (21, .slice p9119 x9117.length c9120), (22, .int .i64 (x9117.length : Int)), (23, .int .i64 s9255.2.1)] w9321 (by kernel_rfl) ?_
        refine W_nil ?_
        refine N_block ?_
        refine N_then ?_
        refine G_region ?_
        refine W_run 2 [(2, .int .i64 x9122), (6, .pointer (some ⟨b9143, 0, none⟩)), (9, .pointer (some ⟨b9179, 0, none⟩)), (10, .int .i64 (w64 (s9255.1 + r9305.1))), (21, .slice p9119 x9117.length c9120), (22, .int .i64 (x9117.length : Int)), (23, .int .i64 (w64 (s9255.2.1 + 1)))] w9321 (by kernel_rfl) ?_
        refine W_nil ?_
        obtain rfl := Option.some.inj hm
        exact N_loop fun a ha => ⟨_, rfl, p9307, c9308, sg9309, p9312, c9313, sg9314, p9317, c9318, sg9319, ho9310, ho9315, ho9320, M9323.pick [0, 1, 2, 3, 4] (by kernel_rfl), ha.sub (by kernel_rfl)⟩
      · refine G_cond_f (b := (decide (s9255.2.1 < (x9117.length : Int)))) hc9296 (by kernel_rfl) ?_
        refine G_exit ?_
        refine N_then_exit ?_
        refine N_then_exit ?_
        refine N_block_eq ?_
        obtain rfl := Option.some.inj hm
        obtain rfl := hout9257 _ rfl
        exact N_meet fun a ha => ⟨p9265, c9266, sg9267, p9270, c9271, sg9272, p9275, c9276, sg9277, ho9268, ho9273, ho9278, M9260.pick [0, 1, 2, 3, 4] (by kernel_rfl), ha.sub (by kernel_rfl)⟩
    · intro a9324 w9325 ⟨p9281, c9282, sg9283, p9286, c9287, sg9288, p9291, c9292, sg9293, ho9284, ho9289, ho9294, M9326, hS9327⟩
      refine N_use hS9327 ?_
      have hm := hmo9264
      refine N_then ?_
      refine G_seq ?_
      refine G_region ?_
      refine W_val (.agg #[.slice p9281 out9262.2.1.length c9282, .slice p9286 out9262.2.2.1.length c9287, .slice p9291 out9262.2.2.2.length c9292]) w9325 (by kernel_rfl) (E_load (e := 28) (fr := (0, 0)) _ _ true 3 b9179 0 [.slice p9281 out9262.2.1.length c9282, .slice p9286 out9262.2.2.1.length c9287, .slice p9291 out9262.2.2.2.length c9292] (.agg #[.slice p9281 out9262.2.1.length c9282, .slice p9286 out9262.2.2.1.length c9287, .slice p9291 out9262.2.2.2.length c9292]) rfl (by kernel_rfl) (by kernel_rfl) (by kernel_rfl) (M9326.blk 1 (b := b9179) (o := .cells ⟨[.slice p9281 out9262.2.1.length c9282, .slice p9286 out9262.2.2.1.length c9287, .slice p9291 out9262.2.2.2.length c9292]⟩ 28 (0, 0)) (by kernel_rfl))) ?_
      refine W_run 1 [(6, .pointer (some ⟨b9143, 0, none⟩)), (33, .agg #[.slice p9281 out9262.2.1.length c9282, .slice p9286 out9262.2.2.1.length c9287, .slice p9291 out9262.2.2.2.length c9292]), (34, .int .i64 out9262.1)] w9325 (by kernel_rfl) ?_
      refine W_store _ _ _ true 3 b9143 0 [.slice none 0 0, .slice none 0 0, .slice none 0 0] 28 (.agg #[.slice p9281 out9262.2.1.length c9282, .slice p9286 out9262.2.2.1.length c9287, .slice p9291 out9262.2.2.2.length c9292]) 0 [.slice p9281 out9262.2.1.length c9282, .slice p9286 out9262.2.2.1.length c9287, .slice p9291 out9262.2.2.2.length c9292] M9326 (by kernel_rfl) rfl (by kernel_rfl) (by kernel_rfl) (by kernel_rfl) (by kernel_rfl) (by kernel_rfl) (by kernel_rfl) (by kernel_rfl) (by kernel_rfl) ?_
      intro w9328 M9329
      refine W_run 2 [(6, .pointer (some ⟨b9143, 0, none⟩)), (7, .int .i64 out9262.1), (8, .bool true)] w9328 (by kernel_rfl) ?_
      refine W_nil ?_
      refine N_then ?_
      refine G_ret ?_
      obtain rfl := Option.some.inj hm
      refine N_ret [.agg #[.slice p9281 out9262.2.1.length c9282, .slice p9286 out9262.2.2.1.length c9287, .slice p9291 out9262.2.2.2.length c9292], .int .i64 out9262.1, .bool true] (RVs_cons (RV_cell (g := true) (k := 3) (b := b9143) (off := 0) (cs := [.slice p9281 out9262.2.1.length c9282, .slice p9286 out9262.2.2.1.length c9287, .slice p9291 out9262.2.2.2.length c9292]) (e := 28) (fr := (0, 0)) (v := .agg #[.slice p9281 out9262.2.1.length c9282, .slice p9286 out9262.2.2.1.length c9287, .slice p9291 out9262.2.2.2.length c9292]) (M9329.blk 0 (b := b9143) (o := .cells ⟨[.slice p9281 out9262.2.1.length c9282, .slice p9286 out9262.2.2.1.length c9287, .slice p9291 out9262.2.2.2.length c9292]⟩ 28 (0, 0)) (by kernel_rfl)) (by kernel_rfl) (by kernel_rfl) (by kernel_rfl)) (RVs_cons (RV_tmp (by kernel_rfl)) (RVs_cons (RV_tmp (by kernel_rfl)) RVs_nil))) ?_
      exact ⟨p9281, c9282, sg9283, p9286, c9287, sg9288, p9291, c9292, sg9293, rfl, ho9284, ho9289, ho9294, M9329.pick [2, 3, 4] (by kernel_rfl)⟩
theorem c_l_markStoreS (w : World) (x9465 : List Store) (p9467 : Option Addr) (c9468 : Nat) (sg9469 : Seg) (ho9470 : ownS encStore x9465 p9467 c9468 sg9469) (x9471 : Int) (hA : ∀ q ∈ List.flatten [sg9469], w.heap[q.1]? = some q.2) (hN : (idsOf [sg9469]).Nodup) {r : Int × (List Store)} (hm : M.l_markStoreS x9465 x9471 = some r) :
    Calls Try.prog 83 #[.slice p9467 x9465.length c9468, .int .i64 x9471] w fun e w' => ∃ (sg9472 : Seg), e = .returned (.int .i64 r.1) ∧ ownS encStore r.2 p9467 c9468 sg9472 ∧ r.2.length = x9465.length ∧ Mem (idsOf [sg9469]) w w' [sg9472] := by
  unfold M.l_markStoreS at hm
  refine C_enter Try.func83 rfl (by kernel_rfl) ?_
  have M0 := Mem.start' w [sg9469] hA hN
  refine G_seq ?_
  refine G_region ?_
  refine W_run 1 [(0, .slice p9467 x9465.length c9468), (1, .int .i64 x9471)] w (by kernel_rfl) ?_
  refine W_nil ?_
  refine N_then ?_
  refine G_seq ?_
  refine G_seq ?_
  refine G_region ?_
  refine W_run 1 [(0, .slice p9467 x9465.length c9468), (1, .int .i64 x9471), (5, .int .i64 0)] w (by kernel_rfl) ?_
  refine W_nil ?_
  refine N_then ?_
  obtain ⟨out9505, hw9506, hmo9507⟩ := gx_bind hm
  refine G_meet (fun a w' => ∃ (sg9512 : Seg), ownS encStore out9505.2 p9467 c9468 sg9512 ∧ out9505.2.length = x9465.length ∧ Mem (idsOf [sg9469]) w w' [sg9512] ∧ Sat Try.f83.ntmps [(1, .int .i64 out9505.1)] a) ?_ ?_
  · refine G_block ?_
    refine G_while (σ := Int × Int × List Store) (ρ := Int × List Store) (fun s9498 a w' => ∃ (sg9508 : Seg), ownS encStore s9498.2.2 p9467 c9468 sg9508 ∧ s9498.2.2.length = x9465.length ∧ Mem (idsOf [sg9469]) w w' [sg9508] ∧ Sat Try.f83.ntmps [(0, .slice p9467 s9498.2.2.length c9468), (1, .int .i64 s9498.1), (5, .int .i64 s9498.2.1)] a) hw9506 (fun a ha => ⟨sg9469, ho9470, rfl, M0.pick [0] (by kernel_rfl), ha.sub (by kernel_rfl)⟩) ?_
    clear hm
    intro s9498 x9499 hm hout9500 a9501 w9502 ⟨sg9508, ho9509, hl9510, M9503, hS9504⟩
    refine G_use hS9504 ?_
    refine G_seq ?_
    refine G_seq ?_
    refine G_region ?_
    refine W_run 4 [(0, .slice p9467 s9498.2.2.length c9468), (1, .int .i64 s9498.1), (5, .int .i64 s9498.2.1), (9, .bool (decide (s9498.2.1 < (s9498.2.2.length : Int))))] w9502 (by kernel_rfl) ?_
    refine W_nil ?_
    refine N_then ?_
    rcases gx_bif hm with ⟨hc9515, hm⟩ | ⟨hc9515, hm⟩
    · refine G_cond_t (b := (decide (s9498.2.1 < (s9498.2.2.length : Int)))) hc9515 (by kernel_rfl) ?_
      refine G_skip ?_
      refine N_then ?_
      refine G_seq ?_
      refine G_block ?_
      refine G_seq ?_
      refine G_region ?_
      refine W_run 3 [(0, .slice p9467 s9498.2.2.length c9468), (1, .int .i64 s9498.1), (5, .int .i64 s9498.2.1), (12, .slice p9467 s9498.2.2.length c9468), (13, .int .i64 s9498.2.1), (14, .int .i64 s9498.1)] w9502 (by kernel_rfl) ?_
      obtain ⟨y9516, hy9516, hm⟩ := gx_bind hm
      refine W_val (elemP p9467 (s9498.2.1.toNat * 2)) w9502 (by kernel_rfl) (E_index (E := encStore) _ _ _ s9498.2.2.length c9468 .i64 s9498.2.1 2 (y := y9516) rfl (by kernel_rfl) (by kernel_rfl) (by kernel_rfl) (ho9509.rd M9503 0 (by kernel_rfl)) rfl hy9516) ?_
      refine W_val (elemP p9467 (s9498.2.1.toNat * 2 + 0)) w9502 (by kernel_rfl) (E_fieldE (E := encStore) _ _ 0 (s9498.2.1.toNat * 2) 0 rfl (by kernel_rfl) (by kernel_rfl) (ho9509.rd M9503 0 (by kernel_rfl)) hy9516) ?_
      refine W_storeE (E := encStore) _ _ _ false 1 s9498.2.1.toNat 0 (s9498.2.1.toNat * 2 + 0) y9516 (⟨s9498.1, y9516.Value⟩ : Store) (.int .i64 s9498.1) 0 M9503 ho9509 (by kernel_rfl) (by kernel_rfl) rfl (by kernel_rfl) (by kernel_rfl) (by kernel_rfl) (by kernel_rfl) (by kernel_rfl) (by kernel_rfl) (by kernel_rfl) (gxIdx_spec hy9516).2 rfl ?_
      intro w9517 sg9519 ho9520 M9518
      refine W_conv 0 (.slice p9467 s9498.2.2.length c9468) (.slice p9467 (s9498.2.2.set s9498.2.1.toNat (⟨s9498.1, y9516.Value⟩ : Store)).length c9468) (by kernel_rfl) (by rw [@List.length_set _ s9498.2.2 s9498.2.1.toNat (⟨s9498.1, y9516.Value⟩ : Store)]) ?_
      refine W_conv 12 (.slice p9467 s9498.2.2.length c9468) (.slice p9467 (s9498.2.2.set s9498.2.1.toNat (⟨s9498.1, y9516.Value⟩ : Store)).length c9468) (by kernel_rfl) (by rw [@List.length_set _ s9498.2.2 s9498.2.1.toNat (⟨s9498.1, y9516.Value⟩ : Store)]) ?_
      refine W_nil ?_
      refine N_then ?_
      refine G_seq ?_
      refine G_region ?_
      refine W_run 3 [(0, .slice p9467 (s9498.2.2.set s9498.2.1.toNat (⟨s9498.1, y9516.Value⟩ : Store)).length c9468), (1, .int .i64 (w64 (s9498.1 + 1))), (5, .int .i64 s9498.2.1)] w9517 (by kernel_rfl) ?_
      refine W_nil ?_
      refine N_then ?_
      refine G_seq ?_
      refine G_region ?_
      refine W_run 3 [(0, .slice p9467 (s9498.2.2.set s9498.2.1.toNat (⟨s9498.1, y9516.Value⟩ : Store)).length c9468), (1, .int .i64 (w64 (s9498.1 + 1))), (5, .int .i64 s9498.2.1), (19, .slice p9467 (s9498.2.2.set s9498.2.1.toNat (⟨s9498.1, y9516.Value⟩ : Store)).length c9468), (20, .int .i64 s9498.2.1), (21, .int .i64 (w64 (s9498.1 + 1)))] w9517 (by kernel_rfl) ?_
      obtain ⟨y9521, hy9521, hm⟩ := gx_bind hm
      refine W_val (elemP p9467 (s9498.2.1.toNat * 2)) w9517 (by kernel_rfl) (E_index (E := encStore) _ _ _ (s9498.2.2.set s9498.2.1.toNat (⟨s9498.1, y9516.Value⟩ : Store)).length c9468 .i64 s9498.2.1 2 (y := y9521) rfl (by kernel_rfl) (by kernel_rfl) (by kernel_rfl) (ho9520.rd M9518 0 (by kernel_rfl)) rfl hy9521) ?_
      refine W_val (elemP p9467 (s9498.2.1.toNat * 2 + 1)) w9517 (by kernel_rfl) (E_fieldE (E := encStore) _ _ 1 (s9498.2.1.toNat * 2) 1 rfl (by kernel_rfl) (by kernel_rfl) (ho9520.rd M9518 0 (by kernel_rfl)) hy9521) ?_
      refine W_storeE (E := encStore) _ _ _ false 1 s9498.2.1.toNat 1 (s9498.2.1.toNat * 2 + 1) y9521 (⟨y9521.Word, w64 (s9498.1 + 1)⟩ : Store) (.int .i64 (w64 (s9498.1 + 1))) 0 M9518 ho9520 (by kernel_rfl) (by kernel_rfl) rfl (by kernel_rfl) (by kernel_rfl) (by kernel_rfl) (by kernel_rfl) (by kernel_rfl) (by kernel_rfl) (by kernel_rfl) (gxIdx_spec hy9521).2 rfl ?_
      intro w9522 sg9524 ho9525 M9523
      refine W_conv 0 (.slice p9467 (s9498.2.2.set s9498.2.1.toNat (⟨s9498.1, y9516.Value⟩ : Store)).length c9468) (.slice p9467 ((s9498.2.2.set s9498.2.1.toNat (⟨s9498.1, y9516.Value⟩ : Store)).set s9498.2.1.toNat (⟨y9521.Word, w64 (s9498.1 + 1)⟩ : Store)).length c9468) (by kernel_rfl) (by rw [@List.length_set _ (s9498.2.2.set s9498.2.1.toNat (⟨s9498.1, y9516.Value⟩ : Store)) s9498.2.1.toNat (⟨y9521.Word, w64 (s9498.1 + 1)⟩ : Store)]) ?_
      refine W_conv 19 (.slice p9467 (s9498.2.2.set s9498.2.1.toNat (⟨s9498.1, y9516.Value⟩ : Store)).length c9468) (.slice p9467 ((s9498.2.2.set s9498.2.1.toNat (⟨s9498.1, y9516.Value⟩ : Store)).set s9498.2.1.toNat (⟨y9521.Word, w64 (s9498.1 + 1)⟩ : Store)).length c9468) (by kernel_rfl) (by rw [@List.length_set _ (s9498.2.2.set s9498.2.1.toNat (⟨s9498.1, y9516.Value⟩ : Store)) s9498.2.1.toNat (⟨y9521.Word, w64 (s9498.1 + 1)⟩ : Store)]) ?_
      refine W_nil ?_
      refine N_then ?_
      refine G_region ?_
      refine W_run 3 [(0, .slice p9467 ((s9498.2.2.set s9498.2.1.toNat (⟨s9498.1, y9516.Value⟩ : Store)).set s9498.2.1.toNat (⟨y9521.Word, w64 (s9498.1 + 1)⟩ : Store)).length c9468), (1, .int .i64 (w64 ((w64 (s9498.1 + 1)) + 1))), (5, .int .i64 s9498.2.1)] w9522 (by kernel_rfl) ?_
      refine W_nil ?_
      refine N_block ?_
      refine N_then ?_
      refine G_region ?_
      refine W_run 3 [(0, .slice p9467 ((s9498.2.2.set s9498.2.1.toNat (⟨s9498.1, y9516.Value⟩ : Store)).set s9498.2.1.toNat (⟨y9521.Word, w64 (s9498.1 + 1)⟩ : Store)).length c9468), (1, .int .i64 (w64 ((w64 (s9498.1 + 1)) + 1))), (5, .int .i64 (w64 (s9498.2.1 + 1)))] w9522 (by kernel_rfl) ?_
      refine W_nil ?_
      obtain rfl := Option.some.inj hm
      exact N_loop fun a ha => ⟨_, rfl, sg9524, ho9525, (List.length_set.trans (List.length_set.trans hl9510)), M9523.pick [0] (by kernel_rfl), ha.sub (by kernel_rfl)⟩
    · refine G_cond_f (b := (decide (s9498.2.1 < (s9498.2.2.length : Int)))) hc9515 (by kernel_rfl) ?_
      refine G_exit ?_
      refine N_then_exit ?_
      refine N_then_exit ?_
      refine N_block_eq ?_
      obtain rfl := Option.some.inj hm
      obtain rfl := hout9500 _ rfl
      exact N_meet fun a ha => ⟨sg9508, ho9509, hl9510, M9503.pick [0] (by kernel_rfl), ha.sub (by kernel_rfl)⟩
  · intro a9526 w9527 ⟨sg9512, ho9513, hl9514, M9528, hS9529⟩
    refine N_use hS9529 ?_
    have hm := hmo9507
    refine N_then ?_
    refine G_seq ?_
    refine G_region ?_
    refine W_run 2 [(4, .int .i64 out9505.1)] w9527 (by kernel_rfl) ?_
    refine W_nil ?_
    refine N_then ?_
    refine G_ret ?_
    obtain rfl := Option.some.inj hm
    refine N_ret [.int .i64 out9505.1] (RVs_cons (RV_tmp (by kernel_rfl)) RVs_nil) ?_
    exact ⟨sg9512, rfl, ho9513, hl9514, M9528.pick [0] (by kernel_rfl)⟩
theorem c_l_markStoreSS (w : World) (x9446 : List (List Store)) (p9448 : Option Addr) (c9449 : Nat) (sg9450 : Seg) (sg9451 : Seg) (ho9452 : ownD (deepL encStore) x9446 p9448 c9449 sg9450 sg9451) (x9453 : Int) (hA : ∀ q ∈ List.flatten [sg9450, sg9451], w.heap[q.1]? = some q.2) (hN : (idsOf [sg9450, sg9451]).Nodup) {r : Int × (List (List Store))} (hm : M.l_markStoreSS x9446 x9453 = some r) :
    Calls Try.prog 42 #[.slice p9448 x9446.length c9449, .int .i64 x9453] w fun e w' => ∃ (sg9454 : Seg) (sg9455 : Seg), e = .returned (.int .i64 r.1) ∧ ownD (deepL encStore) r.2 p9448 c9449 sg9454 sg9455 ∧ r.2.length = x9446.length ∧ Mem (idsOf [sg9450, sg9451]) w w' [sg9454, sg9455] := by
  unfold M.l_markStoreSS at hm
  refine C_enter Try.func42 rfl (by kernel_rfl) ?_
  have M0 := Mem.start' w [sg9450, sg9451] hA hN
  refine G_seq ?_
  refine G_region ?_
  refine W_run 1 [(0, .slice p9448 x9446.length c9449), (1, .int .i64 x9453)] w (by kernel_rfl) ?_
  refine W_nil ?_
  refine N_then ?_
  refine G_seq ?_
  refine G_seq ?_
  refine G_region ?_
  refine W_run 1 [(0, .slice p9448 x9446.length c9449), (1, .int .i64 x9453), (5, .int .i64 0)] w (by kernel_rfl) ?_
  refine W_nil ?_
  refine N_then ?_
  obtain ⟨out9600, hw9601, hmo9602⟩ := gx_bind hm
  refine G_meet (fun a w' => ∃ (sg9608 : Seg), ∃ (sg9609 : Seg), ownD (deepL encStore) out9600.2 p9448 c9449 sg9608 sg9609 ∧ out9600.2.length = x9446.length ∧ Mem (idsOf [sg9450, sg9451]) w w' [sg9608, sg9609] ∧ Sat Try.f42.ntmps [(1, .int .i64 out9600.1)] a) ?_ ?_
  · refine G_block ?_
    refine G_while (σ := Int × Int × List (List Store)) (ρ := Int × List (List Store)) (fun s9593 a w' => ∃ (sg9603 : Seg), ∃ (sg9604 : Seg), ownD (deepL encStore) s9593.2.2 p9448 c9449 sg9603 sg9604 ∧ s9593.2.2.length = x9446.length ∧ Mem (idsOf [sg9450, sg9451]) w w' [sg9603, sg9604] ∧ Sat Try.f42.ntmps [(0, .slice p9448 s9593.2.2.length c9449), (1, .int .i64 s9593.1), (5, .int .i64 s9593.2.1)] a) hw9601 (fun a ha => ⟨sg9450, sg9451, ho9452, rfl, M0.pick [0, 1] (by kernel_rfl), ha.sub (by kernel_rfl)⟩) ?_
    clear hm
    intro s9593 x9594 hm hout9595 a9596 w9597 ⟨sg9603, sg9604, ho9605, hl9606, M9598, hS9599⟩
    refine G_use hS9599 ?_
    refine G_seq ?_
    refine G_seq ?_
    refine G_region ?_
    refine W_run 4 [(0, .slice p9448 s9593.2.2.length c9449), (1, .int .i64 s9593.1), (5, .int .i64 s9593.2.1), (9, .bool (decide (s9593.2.1 < (s9593.2.2.length : Int))))] w9597 (by kernel_rfl) ?_
    refine W_nil ?_
    refine N_then ?_
    rcases gx_bif hm with ⟨hc9612, hm⟩ | ⟨hc9612, hm⟩
    · refine G_cond_t (b := (decide (s9593.2.1 < (s9593.2.2.length : Int)))) hc9612 (by kernel_rfl) ?_
      refine G_skip ?_
      refine N_then ?_
      refine G_seq ?_
      refine G_block ?_
      refine G_region ?_
      refine W_run 2 [(0, .slice p9448 s9593.2.2.length c9449), (1, .int .i64 s9593.1), (5, .int .i64 s9593.2.1), (12, .slice p9448 s9593.2.2.length c9449), (13, .int .i64 s9593.2.1)] w9597 (by kernel_rfl) ?_
      obtain ⟨y9613, hy9613, hm⟩ := gx_bind hm
      obtain ⟨zs9614, hz9615, hr9616, hi9617⟩ := id ho9605
      obtain ⟨g9618, hg9619⟩ := gxIdx_fst hz9615 hy9613
      refine W_val (elemP p9448 (s9593.2.1.toNat * 1)) w9597 (by kernel_rfl) (E_index (E := (deepL encStore).E) _ _ _ s9593.2.2.length c9449 .i64 s9593.2.1 1 (y := (y9613, g9618)) rfl (by kernel_rfl) (by kernel_rfl) (by kernel_rfl) (hr9616.rd M9598 0 (by kernel_rfl)) (len_fst hz9615) hg9619) ?_
      refine W_val (.slice ((g9618 0).1) y9613.length ((g9618 0).2)) w9597 (by kernel_rfl) (E_loadE (E := (deepL encStore).E) _ _ false 1 s9593.2.1 0 (s9593.2.1.toNat * 1) (y9613, g9618) (.slice ((g9618 0).1) y9613.length ((g9618 0).2)) rfl (by kernel_rfl) (by kernel_rfl) (by kernel_rfl) (hr9616.rd M9598 0 (by kernel_rfl)) hg9619 rfl) ?_
      refine W_run 1 [(0, .slice p9448 s9593.2.2.length c9449), (1, .int .i64 s9593.1), (5, .int .i64 s9593.2.1), (15, .slice ((g9618 0).1) y9613.length ((g9618 0).2)), (16, .int .i64 s9593.1)] w9597 (by kernel_rfl) ?_
      obtain ⟨sa9622, sb9623, sc9624, hs9625, hb9626, hp9627⟩ := hi9617.lens (gxIdx_spec hg9619).2
      have M9628 := M9598.cut 1 (sa := sa9622) (sb := sb9623) (sc := sc9624) hs9625 (by kernel_rfl)
      obtain ⟨u9629, r9630, hu9631, ho9632, hr9633⟩ := hb9626
      have M9634 := M9628.cut 2 (sa := []) (sb := u9629) (sc := r9630) hu9631 (by kernel_rfl)
      obtain ⟨r9621, hr9621, hm⟩ := gx_bind hm
      refine W_call 83 #[.slice ((g9618 0).1) y9613.length ((g9618 0).2), .int .i64 s9593.1] (by kernel_rfl) (by kernel_rfl) ?_
      refine (c_l_markStoreS w9597 y9613 ((g9618 0).1) ((g9618 0).2) u9629 ho9632 s9593.1 (M9634.hasPick [4]) (M9634.nodupPick [4] (by kernel_rfl)) hr9621).mono ?_
      rintro e_ w9639 ⟨sg9636, rfl, ho9637, hl9638, K9640⟩
      have M9641 := M9634.callF' [4] [0, 1, 2, 3, 5] (by kernel_rfl) K9640
      refine ⟨_, rfl, ?_⟩
      refine W_conv 15 (.slice ((g9618 0).1) y9613.length ((g9618 0).2)) (.slice ((g9618 0).1) r9621.2.length ((g9618 0).2)) (by kernel_rfl) (by first | rw [hl9638] | rw [hl9638]) ?_
      have M9643 : Mem (idsOf [sg9450, sg9451]) w w9639 [sg9603, [], sa9622, sg9636, sc9624] := M9641.pick [0, 2, 1, 5, 3] (by kernel_rfl)
      have M9644 : Mem (idsOf [sg9450, sg9451]) w w9639 [sg9603, [], (sa9622 ++ ((sg9636 ++ []) ++ sc9624))] := M9643.regroup (by simp)
      have ho9645 : ownD (deepL encStore) (s9593.2.2.set s9593.2.1.toNat r9621.2) p9448 c9449 sg9603 (sa9622 ++ ((sg9636 ++ []) ++ sc9624)) := ⟨_, set_fst hz9615 s9593.2.1.toNat (r9621.2, g9618), (hr9616.setSame (z' := (r9621.2, g9618)) (gxIdx_spec hg9619).2 (by show ([.slice ((g9618 0).1) r9621.2.length ((g9618 0).2)] : List Value) = [.slice ((g9618 0).1) y9613.length ((g9618 0).2)]; rw [hl9638])), hp9627 (r9621.2, g9618) _ (ownI_cons (i := ⟨Store, encStore, _, _, _⟩) ho9637 ownI_nil)⟩
      refine W_conv 0 (.slice p9448 s9593.2.2.length c9449) (.slice p9448 (s9593.2.2.set s9593.2.1.toNat r9621.2).length c9449) (by kernel_rfl) (by rw [@List.length_set _ s9593.2.2 s9593.2.1.toNat r9621.2]) ?_
      refine W_run 1 [(0, .slice p9448 (s9593.2.2.set s9593.2.1.toNat r9621.2).length c9449), (1, .int .i64 r9621.1), (5, .int .i64 s9593.2.1)] w9639 (by kernel_rfl) ?_
      refine W_nil ?_
      refine N_block ?_
      refine N_then ?_
      refine G_region ?_
      refine W_run 3 [(0, .slice p9448 (s9593.2.2.set s9593.2.1.toNat r9621.2).length c9449), (1, .int .i64 r9621.1), (5, .int .i64 (w64 (s9593.2.1 + 1)))] w9639 (by kernel_rfl) ?_
      refine W_nil ?_
      obtain rfl := Option.some.inj hm
      exact N_loop fun a ha => ⟨_, rfl, sg9603, (sa9622 ++ ((sg9636 ++ []) ++ sc9624)), ho9645, (List.length_set.trans hl9606), M9644.pick [0, 2] (by kernel_rfl), ha.sub (by kernel_rfl)⟩
    · refine G_cond_f (b := (decide (s9593.2.1 < (s9593.2.2.length : Int)))) hc9612 (by kernel_rfl) ?_
      refine G_exit ?_
      refine N_then_exit ?_
      refine N_then_exit ?_
      refine N_block_eq ?_
      obtain rfl := Option.some.inj hm
      obtain rfl := hout9595 _ rfl
      exact N_meet fun a ha => ⟨sg9603, sg9604, ho9605, hl9606, M9598.pick [0, 1] (by kernel_rfl), ha.sub (by kernel_rfl)⟩
  · intro a9646 w9647 ⟨sg9608, sg9609, ho9610, hl9611, M9648, hS9649⟩
    refine N_use hS9649 ?_
    have hm := hmo9602
    refine N_then ?_
    refine G_seq ?_
    refine G_region ?_
    refine W_run 2 [(4, .int .i64 out9600.1)] w9647 (by kernel_rfl) ?_
    refine W_nil ?_
    refine N_then ?_
    refine G_ret ?_
    obtain rfl := Option.some.inj hm
    refine N_ret [.int .i64 out9600.1] (RVs_cons (RV_tmp (by kernel_rfl)) RVs_nil) ?_
    exact ⟨sg9608, sg9609, rfl, ho9610, hl9611, M9648.pick [0, 1] (by kernel_rfl)⟩
theorem c_l_FnExactRunRounds (w : World) (x8863 : Copying) (p8865 : Option Addr) (c8866 : Nat) (h8867 : rdS encI w x8863.Memory p8865 c8866) (p8869 : Option Addr) (c8870 : Nat) (h8871 : rdS encI w x8863.Copy p8869 c8870) (p8873 : Option Addr) (c8874 : Nat) (h8875 : rdS encB w x8863.Dirty p8873 c8874) (x8876 : List (List Store)) (p8878 : Option Addr) (c8879 : Nat) (h8880 : rdD (deepL encStore) w x8876 p8878 c8879) (x8881 : Int) {r : Bool} (hm : M.l_FnExactRunRounds x8863 x8876 x8881 = some r) :
    Calls Try.prog 10 #[.agg #[.slice p8865 x8863.Memory.length c8866, .slice p8869 x8863.Copy.length c8870, .slice p8873 x8863.Dirty.length c8874], .slice p8878 x8876.length c8879, .int .i64 x8881] w fun e w' => e = .returned (.bool r) ∧ Mem [] w w' [] := by
  unfold M.l_FnExactRunRounds at hm
  refine C_enter Try.func10 rfl (by kernel_rfl) ?_
  have M0 := Mem.refl [] w
  refine G_seq ?_
  refine G_region ?_
  refine W_new (fun b => .pointer (some ⟨b, 0, none⟩)) (.cells ⟨[.slice p8865 x8863.Memory.length c8866, .slice p8869 x8863.Copy.length c8870, .slice p8873 x8863.Dirty.length c8874]⟩ 25 (0, 0)) M0 rfl (by kernel_rfl) (by kernel_rfl) ?_
  intro b8883 w8884 M8885
  refine W_run 1 [(1, .slice p8878 x8876.length c8879), (2, .int .i64 x8881), (3, .pointer (some ⟨b8883, 0, none⟩))] w8884 (by kernel_rfl) ?_
  refine W_nil ?_
  refine N_then ?_
  refine G_seq ?_
  refine G_region ?_
  refine W_run 1 [(1, .slice p8878 x8876.length c8879), (2, .int .i64 x8881), (3, .pointer (some ⟨b8883, 0, none⟩)), (7, .int .i64 1048576)] w8884 (by kernel_rfl) ?_
  refine W_nil ?_
  refine N_then ?_
  refine G_seq ?_
  refine G_region ?_
  refine W_val (.agg #[.slice p8865 x8863.Memory.length c8866, .slice p8869 x8863.Copy.length c8870, .slice p8873 x8863.Dirty.length c8874]) w8884 (by kernel_rfl) (E_load (e := 25) (fr := (0, 0)) _ _ true 3 b8883 0 [.slice p8865 x8863.Memory.length c8866, .slice p8869 x8863.Copy.length c8870, .slice p8873 x8863.Dirty.length c8874] (.agg #[.slice p8865 x8863.Memory.length c8866, .slice p8869 x8863.Copy.length c8870, .slice p8873 x8863.Dirty.length c8874]) rfl (by kernel_rfl) (by kernel_rfl) (by kernel_rfl) (M8885.blk 0 (b := b8883) (o := .cells ⟨[.slice p8865 x8863.Memory.length c8866, .slice p8869 x8863.Copy.length c8870, .slice p8873 x8863.Dirty.length c8874]⟩ 25 (0, 0)) (by kernel_rfl))) ?_
  refine W_run 1 [(1, .slice p8878 x8876.length c8879), (2, .int .i64 x8881), (3, .pointer (some ⟨b8883, 0, none⟩)), (7, .int .i64 1048576), (22, .agg #[.slice p8865 x8863.Memory.length c8866, .slice p8869 x8863.Copy.length c8870, .slice p8873 x8863.Dirty.length c8874]), (23, .int .i64 1048576)] w8884 (by kernel_rfl) ?_
  obtain ⟨r8886, hr8886, hm⟩ := gx_bind hm
  refine W_call 13 #[.agg #[.slice p8865 x8863.Memory.length c8866, .slice p8869 x8863.Copy.length c8870, .slice p8873 x8863.Dirty.length c8874], .int .i64 1048576] (by kernel_rfl) (by kernel_rfl) ?_
  refine (c_l_szCopying w8884 x8863 p8865 c8866 (h8867.mem0 M8885) p8869 c8870 (h8871.mem0 M8885) p8873 c8874 (h8875.mem0 M8885) 1048576 hr8886).mono ?_
  rintro e_ w8887 ⟨rfl, K8888⟩
  have M8889 := M8885.call0 K8888
  refine ⟨_, rfl, ?_⟩
  refine W_run 1 [(1, .slice p8878 x8876.length c8879), (2, .int .i64 x8881), (3, .pointer (some ⟨b8883, 0, none⟩)), (7, .int .i64 r8886)] w8887 (by kernel_rfl) ?_
  refine W_nil ?_
  refine N_then ?_
  refine G_seq ?_
  refine G_seq ?_
  refine G_region ?_
  refine W_run 2 [(1, .slice p8878 x8876.length c8879), (2, .int .i64 x8881), (3, .pointer (some ⟨b8883, 0, none⟩)), (7, .int .i64 r8886), (26, .bool (decide (r8886 < 0)))] w8887 (by kernel_rfl) ?_
  refine W_nil ?_
  refine N_then ?_
  rcases gx_bif hm with ⟨hc8890, hm⟩ | ⟨hc8890, hm⟩
  · refine G_cond_t (b := (decide (r8886 < 0))) hc8890 (by kernel_rfl) ?_
    refine G_seq ?_
    refine G_region ?_
    refine W_run 1 [(6, .bool true)] w8887 (by kernel_rfl) ?_
    refine W_nil ?_
    refine N_then ?_
    refine G_ret ?_
    refine N_then_ret ?_
    obtain rfl := Option.some.inj hm
    refine N_ret [.bool true] (RVs_cons (RV_tmp (by kernel_rfl)) RVs_nil) ?_
    exact ⟨rfl, M8889.pick [] (by kernel_rfl)⟩
  · refine G_cond_f (b := (decide (r8886 < 0))) hc8890 (by kernel_rfl) ?_
    refine G_skip ?_
    refine N_then ?_
    refine G_seq ?_
    refine G_region ?_
    refine W_run 2 [(1, .slice p8878 x8876.length c8879), (2, .int .i64 x8881), (3, .pointer (some ⟨b8883, 0, none⟩)), (7, .int .i64 r8886), (27, .slice p8878 x8876.length c8879), (28, .int .i64 r8886)] w8887 (by kernel_rfl) ?_
    obtain ⟨r8891, hr8891, hm⟩ := gx_bind hm
    refine W_call 35 #[.slice p8878 x8876.length c8879, .int .i64 r8886] (by kernel_rfl) (by kernel_rfl) ?_
    refine (c_l_szStoreSS w8887 x8876 p8878 c8879 (h8880.mem0 M8889) r8886 hr8891).mono ?_
    rintro e_ w8892 ⟨rfl, K8893⟩
    have M8894 := M8889.call0 K8893
    refine ⟨_, rfl, ?_⟩
    refine W_run 1 [(1, .slice p8878 x8876.length c8879), (2, .int .i64 x8881), (3, .pointer (some ⟨b8883, 0, none⟩)), (7, .int .i64 r8891)] w8892 (by kernel_rfl) ?_
    refine W_nil ?_
    refine N_then ?_
    refine G_seq ?_
    refine G_seq ?_
    refine G_region ?_
    refine W_run 2 [(1, .slice p8878 x8876.length c8879), (2, .int .i64 x8881), (3, .pointer (some ⟨b8883, 0, none⟩)), (31, .bool (decide (r8891 < 0)))] w8892 (by kernel_rfl) ?_
    refine W_nil ?_
    refine N_then ?_
    rcases gx_bif hm with ⟨hc8895, hm⟩ | ⟨hc8895, hm⟩
    · refine G_cond_t (b := (decide (r8891 < 0))) hc8895 (by kernel_rfl) ?_
      refine G_seq ?_
      refine G_region ?_
      refine W_run 1 [(6, .bool true)] w8892 (by kernel_rfl) ?_
      refine W_nil ?_
      refine N_then ?_
      refine G_ret ?_
      refine N_then_ret ?_
      obtain rfl := Option.some.inj hm
      refine N_ret [.bool true] (RVs_cons (RV_tmp (by kernel_rfl)) RVs_nil) ?_
      exact ⟨rfl, M8894.pick [] (by kernel_rfl)⟩
    · refine G_cond_f (b := (decide (r8891 < 0))) hc8895 (by kernel_rfl) ?_
      refine G_skip ?_
      refine N_then ?_
      refine G_seq ?_
      refine G_region ?_
      refine W_val (.agg #[.slice p8865 x8863.Memory.length c8866, .slice p8869 x8863.Copy.length c8870, .slice p8873 x8863.Dirty.length c8874]) w8892 (by kernel_rfl) (E_load (e := 25) (fr := (0, 0)) _ _ true 3 b8883 0 [.slice p8865 x8863.Memory.length c8866, .slice p8869 x8863.Copy.length c8870, .slice p8873 x8863.Dirty.length c8874] (.agg #[.slice p8865 x8863.Memory.length c8866, .slice p8869 x8863.Copy.length c8870, .slice p8873 x8863.Dirty.length c8874]) rfl (by kernel_rfl) (by kernel_rfl) (by kernel_rfl) (M8894.blk 0 (b := b8883) (o := .cells ⟨[.slice p8865 x8863.Memory.length c8866, .slice p8869 x8863.Copy.length c8870, .slice p8873 x8863.Dirty.length c8874]⟩ 25 (0, 0)) (by kernel_rfl))) ?_
      obtain ⟨r8896, hr8896, hm⟩ := gx_bind hm
      refine W_call 15 #[.agg #[.slice p8865 x8863.Memory.length c8866, .slice p8869 x8863.Copy.length c8870, .slice p8873 x8863.Dirty.length c8874]] (by kernel_rfl) (by kernel_rfl) ?_
      refine (c_l_toCopying w8892 x8863 p8865 c8866 (h8867.mem0 M8894) p8869 c8870 (h8871.mem0 M8894) p8873 c8874 (h8875.mem0 M8894) hr8896).mono ?_
      rintro e_ w8912 ⟨p8898, c8899, sg8900, p8903, c8904, sg8905, p8908, c8909, sg8910, rfl, ho8901, ho8906, ho8911, K8913⟩
      have M8914 := M8894.call K8913
      refine ⟨_, rfl, ?_⟩
      refine W_run 1 [(1, .slice p8878 x8876.length c8879), (2, .int .i64 x8881), (3, .pointer (some ⟨b8883, 0, none⟩)), (34, .agg #[.slice p8898 r8896.Memory.length c8899, .slice p8903 r8896.Copy.length c8904, .slice p8908 r8896.Dirty.length c8909]), (35, .slice p8878 x8876.length c8879)] w8912 (by kernel_rfl) ?_
      obtain ⟨r8915, hr8915, hm⟩ := gx_bind hm
      refine W_call 37 #[.slice p8878 x8876.length c8879] (by kernel_rfl) (by kernel_rfl) ?_
      refine (c_l_toStoreSS w8912 x8876 p8878 c8879 (h8880.mem0 M8914) hr8915).mono ?_
      rintro e_ w8922 ⟨p8917, c8918, sg8919, sg8920, rfl, ho8921, K8923⟩
      have M8924 := M8914.call K8923
      refine ⟨_, rfl, ?_⟩
      refine W_run 1 [(1, .slice p8878 x8876.length c8879), (2, .int .i64 x8881), (3, .pointer (some ⟨b8883, 0, none⟩)), (34, .agg #[.slice p8898 r8896.Memory.length c8899, .slice p8903 r8896.Copy.length c8904, .slice p8908 r8896.Dirty.length c8909]), (36, .slice p8917 r8915.length c8918), (37, .int .i64 x8881)] w8922 (by kernel_rfl) ?_
      obtain ⟨r9038, hr9038, hm⟩ := gx_bind hm
      refine W_call 40 #[.agg #[.slice p8898 r8896.Memory.length c8899, .slice p8903 r8896.Copy.length c8904, .slice p8908 r8896.Dirty.length c8909], .slice p8917 r8915.length c8918, .int .i64 x8881] (by kernel_rfl) (by kernel_rfl) ?_
      refine (c_s_RunRounds w8922 r8896 p8898 c8899 (ho8901.rd M8924 1 (by kernel_rfl)) p8903 c8904 (ho8906.rd M8924 2 (by kernel_rfl)) p8908 c8909 (ho8911.rd M8924 3 (by kernel_rfl)) r8915 p8917 c8918 (ho8921.rd M8924 4 (by kernel_rfl) 5 (by kernel_rfl)) x8881 hr9038).mono ?_
      rintro e_ w9054 ⟨p9040, c9041, sg9042, p9045, c9046, sg9047, p9050, c9051, sg9052, rfl, ho9043, ho9048, ho9053, K9055⟩
      have M9056 := M8924.call K9055
      refine ⟨_, rfl, ?_⟩
      refine W_run 4 [(1, .slice p8878 x8876.length c8879), (2, .int .i64 x8881), (3, .pointer (some ⟨b8883, 0, none⟩)), (39, .agg #[.slice p9040 r9038.1.Memory.length c9041, .slice p9045 r9038.1.Copy.length c9046, .slice p9050 r9038.1.Dirty.length c9051]), (40, .int .i64 r9038.2.1), (41, .bool r9038.2.2)] w9054 (by kernel_rfl) ?_
      refine W_new (fun b => .pointer (some ⟨b, 0, none⟩)) (.cells ⟨[.slice none 0 0, .slice none 0 0, .slice none 0 0]⟩ 28 (0, 0)) M9056 rfl (by kernel_rfl) (by kernel_rfl) ?_
      intro b9061 w9062 M9063
      refine W_store _ _ _ true 3 b9061 0 [.slice none 0 0, .slice none 0 0, .slice none 0 0] 28 (.agg #[.slice p9040 r9038.1.Memory.length c9041, .slice p9045 r9038.1.Copy.length c9046, .slice p9050 r9038.1.Dirty.length c9051]) 9 [.slice p9040 r9038.1.Memory.length c9041, .slice p9045 r9038.1.Copy.length c9046, .slice p9050 r9038.1.Dirty.length c9051] M9063 (by kernel_rfl) rfl (by kernel_rfl) (by kernel_rfl) (by kernel_rfl) (by kernel_rfl) (by kernel_rfl) (by kernel_rfl) (by kernel_rfl) (by kernel_rfl) ?_
      intro w9064 M9065
      refine W_run 2 [(1, .slice p8878 x8876.length c8879), (2, .int .i64 x8881), (3, .pointer (some ⟨b8883, 0, none⟩)), (8, .pointer (some ⟨b9061, 0, none⟩)), (9, .int .i64 r9038.2.1), (10, .bool r9038.2.2)] w9064 (by kernel_rfl) ?_
      refine W_nil ?_
      refine N_then ?_
      refine G_seq ?_
      refine G_region ?_
      refine W_val (.agg #[.slice p8865 x8863.Memory.length c8866, .slice p8869 x8863.Copy.length c8870, .slice p8873 x8863.Dirty.length c8874]) w9064 (by kernel_rfl) (E_load (e := 25) (fr := (0, 0)) _ _ true 3 b8883 0 [.slice p8865 x8863.Memory.length c8866, .slice p8869 x8863.Copy.length c8870, .slice p8873 x8863.Dirty.length c8874] (.agg #[.slice p8865 x8863.Memory.length c8866, .slice p8869 x8863.Copy.length c8870, .slice p8873 x8863.Dirty.length c8874]) rfl (by kernel_rfl) (by kernel_rfl) (by kernel_rfl) (M9065.blk 0 (b := b8883) (o := .cells ⟨[.slice p8865 x8863.Memory.length c8866, .slice p8869 x8863.Copy.length c8870, .slice p8873 x8863.Dirty.length c8874]⟩ 25 (0, 0)) (by kernel_rfl))) ?_
      obtain ⟨r9066, hr9066, hm⟩ := gx_bind hm
      refine W_call 15 #[.agg #[.slice p8865 x8863.Memory.length c8866, .slice p8869 x8863.Copy.length c8870, .slice p8873 x8863.Dirty.length c8874]] (by kernel_rfl) (by kernel_rfl) ?_
      refine (c_l_toCopying w9064 x8863 p8865 c8866 (h8867.mem0 M9065) p8869 c8870 (h8871.mem0 M9065) p8873 c8874 (h8875.mem0 M9065) hr9066).mono ?_
      rintro e_ w9082 ⟨p9068, c9069, sg9070, p9073, c9074, sg9075, p9078, c9079, sg9080, rfl, ho9071, ho9076, ho9081, K9083⟩
      have M9084 := M9065.call K9083
      refine ⟨_, rfl, ?_⟩
      refine W_new (fun b => .pointer (some ⟨b, 0, none⟩)) (.cells ⟨[.slice none 0 0, .slice none 0 0, .slice none 0 0]⟩ 28 (0, 0)) M9084 rfl (by kernel_rfl) (by kernel_rfl) ?_
      intro b9089 w9090 M9091
      refine W_store _ _ _ true 3 b9089 0 [.slice none 0 0, .slice none 0 0, .slice none 0 0] 28 (.agg #[.slice p9068 r9066.Memory.length c9069, .slice p9073 r9066.Copy.length c9074, .slice p9078 r9066.Dirty.length c9079]) 13 [.slice p9068 r9066.Memory.length c9069, .slice p9073 r9066.Copy.length c9074, .slice p9078 r9066.Dirty.length c9079] M9091 (by kernel_rfl) rfl (by kernel_rfl) (by kernel_rfl) (by kernel_rfl) (by kernel_rfl) (by kernel_rfl) (by kernel_rfl) (by kernel_rfl) (by kernel_rfl) ?_
      intro w9092 M9093
      refine W_nil ?_
      refine N_then ?_
      refine G_seq ?_
      refine G_region ?_
      refine W_run 1 [(1, .slice p8878 x8876.length c8879), (2, .int .i64 x8881), (3, .pointer (some ⟨b8883, 0, none⟩)), (8, .pointer (some ⟨b9061, 0, none⟩)), (9, .int .i64 r9038.2.1), (10, .bool r9038.2.2), (11, .pointer (some ⟨b9089, 0, none⟩)), (44, .slice p8878 x8876.length c8879)] w9092 (by kernel_rfl) ?_
      obtain ⟨r9094, hr9094, hm⟩ := gx_bind hm
      refine W_call 37 #[.slice p8878 x8876.length c8879] (by kernel_rfl) (by kernel_rfl) ?_
      refine (c_l_toStoreSS w9092 x8876 p8878 c8879 (h8880.mem0 M9093) hr9094).mono ?_
      rintro e_ w9101 ⟨p9096, c9097, sg9098, sg9099, rfl, ho9100, K9102⟩
      have M9103 := M9093.call K9102
      refine ⟨_, rfl, ?_⟩
      refine W_run 1 [(1, .slice p8878 x8876.length c8879), (2, .int .i64 x8881), (3, .pointer (some ⟨b8883, 0, none⟩)), (8, .pointer (some ⟨b9061, 0, none⟩)), (9, .int .i64 r9038.2.1), (10, .bool r9038.2.2), (11, .pointer (some ⟨b9089, 0, none⟩)), (12, .slice p9096 r9094.length c9097)] w9101 (by kernel_rfl) ?_
      refine W_nil ?_
      refine N_then ?_
      refine G_seq ?_
      refine G_region ?_
      refine W_val (.agg #[.slice p9068 r9066.Memory.length c9069, .slice p9073 r9066.Copy.length c9074, .slice p9078 r9066.Dirty.length c9079]) w9101 (by kernel_rfl) (E_load (e := 28) (fr := (0, 0)) _ _ true 3 b9089 0 [.slice p9068 r9066.Memory.length c9069, .slice p9073 r9066.Copy.length c9074, .slice p9078 r9066.Dirty.length c9079] (.agg #[.slice p9068 r9066.Memory.length c9069, .slice p9073 r9066.Copy.length c9074, .slice p9078 r9066.Dirty.length c9079]) rfl (by kernel_rfl) (by kernel_rfl) (by kernel_rfl) (M9103.blk 13 (b := b9089) (o := .cells ⟨[.slice p9068 r9066.Memory.length c9069, .slice p9073 r9066.Copy.length c9074, .slice p9078 r9066.Dirty.length c9079]⟩ 28 (0, 0)) (by kernel_rfl))) ?_
      refine W_run 2 [(1, .slice p8878 x8876.length c8879), (2, .int .i64 x8881), (3, .pointer (some ⟨b8883, 0, none⟩)), (8, .pointer (some ⟨b9061, 0, none⟩)), (9, .int .i64 r9038.2.1), (10, .bool r9038.2.2), (11, .pointer (some ⟨b9089, 0, none⟩)), (12, .slice p9096 r9094.length c9097), (47, .agg #[.slice p9068 r9066.Memory.length c9069, .slice p9073 r9066.Copy.length c9074, .slice p9078 r9066.Dirty.length c9079]), (48, .slice p9096 r9094.length c9097), (49, .int .i64 x8881)] w9101 (by kernel_rfl) ?_
      obtain ⟨r9330, hr9330, hm⟩ := gx_bind hm
      refine W_call 41 #[.agg #[.slice p9068 r9066.Memory.length c9069, .slice p9073 r9066.Copy.length c9074, .slice p9078 r9066.Dirty.length c9079], .slice p9096 r9094.length c9097, .int .i64 x8881] (by kernel_rfl) (by kernel_rfl) ?_
      refine (c_i_RunRounds w9101 r9066 p9068 c9069 (ho9071.rd M9103 10 (by kernel_rfl)) p9073 c9074 (ho9076.rd M9103 11 (by kernel_rfl)) p9078 c9079 (ho9081.rd M9103 12 (by kernel_rfl)) r9094 p9096 c9097 (ho9100.rd M9103 14 (by kernel_rfl) 15 (by kernel_rfl)) x8881 hr9330).mono ?_
      rintro e_ w9346 ⟨p9332, c9333, sg9334, p9337, c9338, sg9339, p9342, c9343, sg9344, rfl, ho9335, ho9340, ho9345, K9347⟩
      have M9348 := M9103.call K9347
      refine ⟨_, rfl, ?_⟩
      refine W_run 4 [(1, .slice p8878 x8876.length c8879), (2, .int .i64 x8881), (3, .pointer (some ⟨b8883, 0, none⟩)), (8, .pointer (some ⟨b9061, 0, none⟩)), (9, .int .i64 r9038.2.1), (10, .bool r9038.2.2), (11, .pointer (some ⟨b9089, 0, none⟩)), (12, .slice p9096 r9094.length c9097), (51, .agg #[.slice p9332 r9330.1.Memory.length c9333, .slice p9337 r9330.1.Copy.length c9338, .slice p9342 r9330.1.Dirty.length c9343]), (52, .int .i64 r9330.2.1), (53, .bool r9330.2.2)] w9346 (by kernel_rfl) ?_
      refine W_new (fun b => .pointer (some ⟨b, 0, none⟩)) (.cells ⟨[.slice none 0 0, .slice none 0 0, .slice none 0 0]⟩ 28 (0, 0)) M9348 rfl (by kernel_rfl) (by kernel_rfl) ?_
      intro b9353 w9354 M9355
      refine W_store _ _ _ true 3 b9353 0 [.slice none 0 0, .slice none 0 0, .slice none 0 0] 28 (.agg #[.slice p9332 r9330.1.Memory.length c9333, .slice p9337 r9330.1.Copy.length c9338, .slice p9342 r9330.1.Dirty.length c9343]) 19 [.slice p9332 r9330.1.Memory.length c9333, .slice p9337 r9330.1.Copy.length c9338, .slice p9342 r9330.1.Dirty.length c9343] M9355 (by kernel_rfl) rfl (by kernel_rfl) (by kernel_rfl) (by kernel_rfl) (by kernel_rfl) (by kernel_rfl) (by kernel_rfl) (by kernel_rfl) (by kernel_rfl) ?_
      intro w9356 M9357
      refine W_run 2 [(1, .slice p8878 x8876.length c8879), (2, .int .i64 x8881), (3, .pointer (some ⟨b8883, 0, none⟩)), (8, .pointer (some ⟨b9061, 0, none⟩)), (9, .int .i64 r9038.2.1), (10, .bool r9038.2.2), (11, .pointer (some ⟨b9089, 0, none⟩)), (12, .slice p9096 r9094.length c9097), (13, .pointer (some ⟨b9353, 0, none⟩)), (14, .int .i64 r9330.2.1), (15, .bool r9330.2.2)] w9356 (by kernel_rfl) ?_
      refine W_nil ?_
      refine N_then ?_
      refine G_seq ?_
      refine G_seq ?_
      obtain ⟨o9364, ho9365, hm9366⟩ := gx_bind hm
      refine G_meet (fun a w' => Mem [] w w' [[(b8883, .cells ⟨[.slice p8865 x8863.Memory.length c8866, .slice p8869 x8863.Copy.length c8870, .slice p8873 x8863.Dirty.length c8874]⟩ 25 (0, 0))], sg9042, sg9047, sg9052, [(b9061, .cells ⟨[.slice p9040 r9038.1.Memory.length c9041, .slice p9045 r9038.1.Copy.length c9046, .slice p9050 r9038.1.Dirty.length c9051]⟩ 28 (0, 0))], sg9070, sg9075, sg9080, [(b9089, .cells ⟨[.slice p9068 r9066.Memory.length c9069, .slice p9073 r9066.Copy.length c9074, .slice p9078 r9066.Dirty.length c9079]⟩ 28 (0, 0))], sg9098, sg9099, sg9334, sg9339, sg9344, [(b9353, .cells ⟨[.slice p9332 r9330.1.Memory.length c9333, .slice p9337 r9330.1.Copy.length c9338, .slice p9342 r9330.1.Dirty.length c9343]⟩ 28 (0, 0))]] ∧ Sat Try.f10.ntmps [(1, .slice p8878 x8876.length c8879), (2, .int .i64 x8881), (3, .pointer (some ⟨b8883, 0, none⟩)), (8, .pointer (some ⟨b9061, 0, none⟩)), (9, .int .i64 r9038.2.1), (10, .bool r9038.2.2), (11, .pointer (some ⟨b9089, 0, none⟩)), (12, .slice p9096 r9094.length c9097), (13, .pointer (some ⟨b9353, 0, none⟩)), (14, .int .i64 r9330.2.1), (15, .bool r9330.2.2), (67, .bool o9364)] a) ?_ ?_
      · have hm := ho9365
        refine G_region ?_
        refine W_val (.agg #[.slice p9332 r9330.1.Memory.length c9333, .slice p9337 r9330.1.Copy.length c9338, .slice p9342 r9330.1.Dirty.length c9343]) w9356 (by kernel_rfl) (E_load (e := 28) (fr := (0, 0)) _ _ true 3 b9353 0 [.slice p9332 r9330.1.Memory.length c9333, .slice p9337 r9330.1.Copy.length c9338, .slice p9342 r9330.1.Dirty.length c9343] (.agg #[.slice p9332 r9330.1.Memory.length c9333, .slice p9337 r9330.1.Copy.length c9338, .slice p9342 r9330.1.Dirty.length c9343]) rfl (by kernel_rfl) (by kernel_rfl) (by kernel_rfl) (M9357.blk 19 (b := b9353) (o := .cells ⟨[.slice p9332 r9330.1.Memory.length c9333, .slice p9337 r9330.1.Copy.length c9338, .slice p9342 r9330.1.Dirty.length c9343]⟩ 28 (0, 0)) (by kernel_rfl))) ?_
        refine W_val (.agg #[.slice p9040 r9038.1.Memory.length c9041, .slice p9045 r9038.1.Copy.length c9046, .slice p9050 r9038.1.Dirty.length c9051]) w9356 (by kernel_rfl) (E_load (e := 28) (fr := (0, 0)) _ _ true 3 b9061 0 [.slice p9040 r9038.1.Memory.length c9041, .slice p9045 r9038.1.Copy.length c9046, .slice p9050 r9038.1.Dirty.length c9051] (.agg #[.slice p9040 r9038.1.Memory.length c9041, .slice p9045 r9038.1.Copy.length c9046, .slice p9050 r9038.1.Dirty.length c9051]) rfl (by kernel_rfl) (by kernel_rfl) (by kernel_rfl) (M9357.blk 9 (b := b9061) (o := .cells ⟨[.slice p9040 r9038.1.Memory.length c9041, .slice p9045 r9038.1.Copy.length c9046, .slice p9050 r9038.1.Dirty.length c9051]⟩ 28 (0, 0)) (by kernel_rfl))) ?_
        obtain ⟨r9367, hr9367, hm⟩ := gx_bind hm
        refine W_call 17 #[.agg #[.slice p9332 r9330.1.Memory.length c9333, .slice p9337 r9330.1.Copy.length c9338, .slice p9342 r9330.1.Dirty.length c9343], .agg #[.slice p9040 r9038.1.Memory.length c9041, .slice p9045 r9038.1.Copy.length c9046, .slice p9050 r9038.1.Dirty.length c9051]] (by kernel_rfl) (by kernel_rfl) ?_
        refine (c_l_eqCopying w9356 r9330.1 p9332 c9333 (ho9335.rd M9357 16 (by kernel_rfl)) p9337 c9338 (ho9340.rd M9357 17 (by kernel_rfl)) p9342 c9343 (ho9345.rd M9357 18 (by kernel_rfl)) r9038.1 p9040 c9041 (ho9043.rd M9357 6 (by kernel_rfl)) p9045 c9046 (ho9048.rd M9357 7 (by kernel_rfl)) p9050 c9051 (ho9053.rd M9357 8 (by kernel_rfl)) hr9367).mono ?_
        rintro e_ w9368 ⟨rfl, K9369⟩
        have M9370 := M9357.call0 K9369
        refine ⟨_, rfl, ?_⟩
        refine W_run 2 [(1, .slice p8878 x8876.length c8879), (2, .int .i64 x8881), (3, .pointer (some ⟨b8883, 0, none⟩)), (8, .pointer (some ⟨b9061, 0, none⟩)), (9, .int .i64 r9038.2.1), (10, .bool r9038.2.2), (11, .pointer (some ⟨b9089, 0, none⟩)), (12, .slice p9096 r9094.length c9097), (13, .pointer (some ⟨b9353, 0, none⟩)), (14, .int .i64 r9330.2.1), (15, .bool r9330.2.2), (58, .bool (!r9367))] w9368 (by kernel_rfl) ?_
        rcases gx_bif hm with ⟨hc9371, hm⟩ | ⟨hc9371, hm⟩
        · refine W_known 58 true (by kernel_rfl) hc9371 ?_
          refine W_run 9 [(1, .slice p8878 x8876.length c8879), (2, .int .i64 x8881), (3, .pointer (some ⟨b8883, 0, none⟩)), (8, .pointer (some ⟨b9061, 0, none⟩)), (9, .int .i64 r9038.2.1), (10, .bool r9038.2.2), (11, .pointer (some ⟨b9089, 0, none⟩)), (12, .slice p9096 r9094.length c9097), (13, .pointer (some ⟨b9353, 0, none⟩)), (14, .int .i64 r9330.2.1), (15, .bool r9330.2.2), (67, .bool true)] w9368 (by kernel_rfl) ?_
          refine W_nil ?_
          obtain rfl := Option.some.inj hm
          exact N_meet fun a ha => ⟨M9370.pick [0, 6, 7, 8, 9, 10, 11, 12, 13, 14, 15, 16, 17, 18, 19] (by kernel_rfl), ha.sub (by kernel_rfl)⟩
        · refine W_known 58 false (by kernel_rfl) hc9371 ?_
          refine W_run 5 [(1, .slice p8878 x8876.length c8879), (2, .int .i64 x8881), (3, .pointer (some ⟨b8883, 0, none⟩)), (8, .pointer (some ⟨b9061, 0, none⟩)), (9, .int .i64 r9038.2.1), (10, .bool r9038.2.2), (11, .pointer (some ⟨b9089, 0, none⟩)), (12, .slice p9096 r9094.length c9097), (13, .pointer (some ⟨b9353, 0, none⟩)), (14, .int .i64 r9330.2.1), (15, .bool r9330.2.2), (63, .bool (r9330.2.1 != r9038.2.1))] w9368 (by kernel_rfl) ?_
          rcases gx_bif hm with ⟨hc9372, hm⟩ | ⟨hc9372, hm⟩
          · refine W_known 63 true (by kernel_rfl) hc9372 ?_
            refine W_run 4 [(1, .slice p8878 x8876.length c8879), (2, .int .i64 x8881), (3, .pointer (some ⟨b8883, 0, none⟩)), (8, .pointer (some ⟨b9061, 0, none⟩)), (9, .int .i64 r9038.2.1), (10, .bool r9038.2.2), (11, .pointer (some ⟨b9089, 0, none⟩)), (12, .slice p9096 r9094.length c9097), (13, .pointer (some ⟨b9353, 0, none⟩)), (14, .int .i64 r9330.2.1), (15, .bool r9330.2.2), (67, .bool true)] w9368 (by kernel_rfl) ?_
            refine W_nil ?_
            obtain rfl := Option.some.inj hm
            exact N_meet fun a ha => ⟨M9370.pick [0, 6, 7, 8, 9, 10, 11, 12, 13, 14, 15, 16, 17, 18, 19] (by kernel_rfl), ha.sub (by kernel_rfl)⟩
          · refine W_known 63 false (by kernel_rfl) hc9372 ?_
            refine W_run 4 [(1, .slice p8878 x8876.length c8879), (2, .int .i64 x8881), (3, .pointer (some ⟨b8883, 0, none⟩)), (8, .pointer (some ⟨b9061, 0, none⟩)), (9, .int .i64 r9038.2.1), (10, .bool r9038.2.2), (11, .pointer (some ⟨b9089, 0, none⟩)), (12, .slice p9096 r9094.length c9097), (13, .pointer (some ⟨b9353, 0, none⟩)), (14, .int .i64 r9330.2.1), (15, .bool r9330.2.2), (67, .bool (!(r9330.2.2 == r9038.2.2)))] w9368 (by kernel_rfl) ?_
            refine W_nil ?_
            obtain rfl := Option.some.inj hm
            exact N_meet fun a ha => ⟨M9370.pick [0, 6, 7, 8, 9, 10, 11, 12, 13, 14, 15, 16, 17, 18, 19] (by kernel_rfl), ha.sub (by kernel_rfl)⟩
      · intro a9375 w9373 ⟨M9374, hS9376⟩
        refine N_use hS9376 ?_
        have hm := hm9366
        refine N_then ?_
        rcases gx_bif hm with ⟨hc9377, hm⟩ | ⟨hc9377, hm⟩
        · refine G_cond_t (b := o9364) hc9377 (by kernel_rfl) ?_
          refine G_seq ?_
          refine G_region ?_
          refine W_run 1 [(6, .bool false)] w9373 (by kernel_rfl) ?_
          refine W_nil ?_
          refine N_then ?_
          refine G_ret ?_
          refine N_then_ret ?_
          obtain rfl := Option.some.inj hm
          refine N_ret [.bool false] (RVs_cons (RV_tmp (by kernel_rfl)) RVs_nil) ?_
          exact ⟨rfl, M9374.pick [] (by kernel_rfl)⟩
        · refine G_cond_f (b := o9364) hc9377 (by kernel_rfl) ?_
          refine G_skip ?_
          refine N_then ?_
          refine G_seq ?_
          refine G_seq ?_
          obtain ⟨r9380, hr9380, hm⟩ := gx_bind hm
          refine G_sub [(1, .slice p8878 x8876.length c8879), (2, .int .i64 x8881), (3, .pointer (some ⟨b8883, 0, none⟩)), (8, .pointer (some ⟨b9061, 0, none⟩)), (9, .int .i64 r9038.2.1), (10, .bool r9038.2.2), (11, .pointer (some ⟨b9089, 0, none⟩)), (12, .slice p9096 r9094.length c9097), (13, .pointer (some ⟨b9353, 0, none⟩)), (14, .int .i64 r9330.2.1), (15, .bool r9330.2.2), (67, .bool o9364)] (by kernel_rfl) ?_
          refine G_dagL 3 [[], [], [1]] [[], [], []] [[], [], []] [[], [], []] [[], [], []] [[], [], []] (fun _ => []) (fun i => ([fun f v s => v = (.agg #[.slice p9068 r9066.Memory.length c9069, .slice p9073 r9066.Copy.length c9074, .slice p9078 r9066.Dirty.length c9079] : Value) ∧ s = [], fun f v s => v = (.agg #[.slice p8865 x8863.Memory.length c8866, .slice p8869 x8863.Copy.length c8870, .slice p8873 x8863.Dirty.length c8874] : Value) ∧ s = [], fun f v s => ∃ (p9382 : Option Addr) (c9383 : Nat) (sg9384 : Seg), ∃ (p9387 : Option Addr) (c9388 : Nat) (sg9389 : Seg), ∃ (p9392 : Option Addr) (c9393 : Nat) (sg9394 : Seg), v = (.agg #[.slice p9382 r9380.Memory.length c9383, .slice p9387 r9380.Copy.length c9388, .slice p9392 r9380.Dirty.length c9393] : Value) ∧ s = (sg9384 ++ (sg9389 ++ sg9394)) ∧ ownS encI r9380.Memory p9382 c9383 sg9384 ∧ ownS encI r9380.Copy p9387 c9388 sg9389 ∧ ownS encB r9380.Dirty p9392 c9393 sg9394] : List ((Nat → Value) → Value → Seg → Prop)).getD i (fun _ _ _ => False)) (fun j f v => ∃ s, (fun i => ([fun f v s => v = (.agg #[.slice p9068 r9066.Memory.length c9069, .slice p9073 r9066.Copy.length c9074, .slice p9078 r9066.Dirty.length c9079] : Value) ∧ s = [], fun f v s => v = (.agg #[.slice p8865 x8863.Memory.length c8866, .slice p8869 x8863.Copy.length c8870, .slice p8873 x8863.Dirty.length c8874] : Value) ∧ s = [], fun f v s => ∃ (p9382 : Option Addr) (c9383 : Nat) (sg9384 : Seg), ∃ (p9387 : Option Addr) (c9388 : Nat) (sg9389 : Seg), ∃ (p9392 : Option Addr) (c9393 : Nat) (sg9394 : Seg), v = (.agg #[.slice p9382 r9380.Memory.length c9383, .slice p9387 r9380.Copy.length c9388, .slice p9392 r9380.Dirty.length c9393] : Value) ∧ s = (sg9384 ++ (sg9389 ++ sg9394)) ∧ ownS encI r9380.Memory p9382 c9383 sg9384 ∧ ownS encI r9380.Copy p9387 c9388 sg9389 ∧ ownS encB r9380.Dirty p9392 c9393 sg9394] : List ((Nat → Value) → Value → Seg → Prop)).getD i (fun _ _ _ => False)) j f v s) [] [0, 2] [2] (fun _ _ _ s h => ⟨s, h⟩) (by kernel_rfl) (by kernel_rfl) (M9374.preNil 3) (by kernel_rfl) (by kernel_rfl) (by kernel_rfl) (by kernel_rfl) (allOb_cons ?_ (allOb_cons ?_ (allOb_cons ?_ allOb_nil))) ?_
          · intro g9378 f9379
            intro R w9396 M9397
            refine W_val (.agg #[.slice p9068 r9066.Memory.length c9069, .slice p9073 r9066.Copy.length c9074, .slice p9078 r9066.Dirty.length c9079]) w9396 (by kernel_rfl) (E_load (e := 28) (fr := (0, 0)) _ _ true 3 b9089 0 [.slice p9068 r9066.Memory.length c9069, .slice p9073 r9066.Copy.length c9074, .slice p9078 r9066.Dirty.length c9079] (.agg #[.slice p9068 r9066.Memory.length c9069, .slice p9073 r9066.Copy.length c9074, .slice p9078 r9066.Dirty.length c9079]) rfl (by kernel_rfl) (by kernel_rfl) (by kernel_rfl) (M9397.blk 8 (b := b9089) (o := .cells ⟨[.slice p9068 r9066.Memory.length c9069, .slice p9073 r9066.Copy.length c9074, .slice p9078 r9066.Dirty.length c9079]⟩ 28 (0, 0)) (by kernel_rfl))) ?_
            exact W_nil (ob_end (.agg #[.slice p9068 r9066.Memory.length c9069, .slice p9073 r9066.Copy.length c9074, .slice p9078 r9066.Dirty.length c9079]) [] rfl (by kernel_rfl) ⟨by kernel_rfl, rfl⟩ M9397)
          · intro g9378 f9379
            intro R w9400 M9401
            refine W_val (.agg #[.slice p8865 x8863.Memory.length c8866, .slice p8869 x8863.Copy.length c8870, .slice p8873 x8863.Dirty.length c8874]) w9400 (by kernel_rfl) (E_load (e := 25) (fr := (0, 0)) _ _ true 3 b8883 0 [.slice p8865 x8863.Memory.length c8866, .slice p8869 x8863.Copy.length c8870, .slice p8873 x8863.Dirty.length c8874] (.agg #[.slice p8865 x8863.Memory.length c8866, .slice p8869 x8863.Copy.length c8870, .slice p8873 x8863.Dirty.length c8874]) rfl (by kernel_rfl) (by kernel_rfl) (by kernel_rfl) (M9401.blk 0 (b := b8883) (o := .cells ⟨[.slice p8865 x8863.Memory.length c8866, .slice p8869 x8863.Copy.length c8870, .slice p8873 x8863.Dirty.length c8874]⟩ 25 (0, 0)) (by kernel_rfl))) ?_
            exact W_nil (ob_end (.agg #[.slice p8865 x8863.Memory.length c8866, .slice p8869 x8863.Copy.length c8870, .slice p8873 x8863.Dirty.length c8874]) [] rfl (by kernel_rfl) ⟨by kernel_rfl, rfl⟩ M9401)
          · intro g9378 f9379
            intro v1_ hb1_
            obtain ⟨rfl, _⟩ := hb1_
            intro R w9404 M9405
            refine W_call 15 #[.agg #[.slice p8865 x8863.Memory.length c8866, .slice p8869 x8863.Copy.length c8870, .slice p8873 x8863.Dirty.length c8874]] (by kernel_rfl) (by kernel_rfl) ?_
            refine (c_l_toCopying w9404 x8863 p8865 c8866 (h8867.mem0 M9405) p8869 c8870 (h8871.mem0 M9405) p8873 c8874 (h8875.mem0 M9405) hr9380).mono ?_
            rintro e_ w9406 ⟨p9382, c9383, sg9384, p9387, c9388, sg9389, p9392, c9393, sg9394, rfl, ho9385, ho9390, ho9395, K9408⟩
            refine ⟨_, rfl, ?_⟩
            exact W_nil (ob_end (.agg #[.slice p9382 r9380.Memory.length c9383, .slice p9387 r9380.Copy.length c9388, .slice p9392 r9380.Dirty.length c9393]) (sg9384 ++ (sg9389 ++ sg9394)) rfl (by kernel_rfl) ⟨p9382, c9383, sg9384, p9387, c9388, sg9389, p9392, c9393, sg9394, rfl, rfl, ho9385, ho9390, ho9395⟩ (Mem.callMid M9405 (K9408.permF (by simp))))
          · intro g9378 f9379
            intro v0_ hb0_
            obtain ⟨rfl, _⟩ := hb0_
            intro v2_ hb2_
            obtain ⟨p9382, c9383, sg9384, p9387, c9388, sg9389, p9392, c9393, sg9394, rfl, hs2_, ho9385, ho9390, ho9395⟩ := hb2_
            intro w9409 M9410
            have M9411 : Mem [] w w9409 [[(b8883, .cells ⟨[.slice p8865 x8863.Memory.length c8866, .slice p8869 x8863.Copy.length c8870, .slice p8873 x8863.Dirty.length c8874]⟩ 25 (0, 0))], sg9042, sg9047, sg9052, [(b9061, .cells ⟨[.slice p9040 r9038.1.Memory.length c9041, .slice p9045 r9038.1.Copy.length c9046, .slice p9050 r9038.1.Dirty.length c9051]⟩ 28 (0, 0))], sg9070, sg9075, sg9080, [(b9089, .cells ⟨[.slice p9068 r9066.Memory.length c9069, .slice p9073 r9066.Copy.length c9074, .slice p9078 r9066.Dirty.length c9079]⟩ 28 (0, 0))], sg9098, sg9099, sg9334, sg9339, sg9344, [(b9353, .cells ⟨[.slice p9332 r9330.1.Memory.length c9333, .slice p9337 r9330.1.Copy.length c9338, .slice p9342 r9330.1.Dirty.length c9343]⟩ 28 (0, 0))], (g9378 2)] := M9410
            rw [hs2_] at M9411
            replace M9411 : Mem [] w w9409 [[(b8883, .cells ⟨[.slice p8865 x8863.Memory.length c8866, .slice p8869 x8863.Copy.length c8870, .slice p8873 x8863.Dirty.length c8874]⟩ 25 (0, 0))], sg9042, sg9047, sg9052, [(b9061, .cells ⟨[.slice p9040 r9038.1.Memory.length c9041, .slice p9045 r9038.1.Copy.length c9046, .slice p9050 r9038.1.Dirty.length c9051]⟩ 28 (0, 0))], sg9070, sg9075, sg9080, [(b9089, .cells ⟨[.slice p9068 r9066.Memory.length c9069, .slice p9073 r9066.Copy.length c9074, .slice p9078 r9066.Dirty.length c9079]⟩ 28 (0, 0))], sg9098, sg9099, sg9334, sg9339, sg9344, [(b9353, .cells ⟨[.slice p9332 r9330.1.Memory.length c9333, .slice p9337 r9330.1.Copy.length c9338, .slice p9342 r9330.1.Dirty.length c9343]⟩ 28 (0, 0))], sg9384, sg9389, sg9394] := M9411.permF (by simp)
            obtain ⟨r9412, hr9412, hm⟩ := gx_bind hm
            refine W_call 17 #[.agg #[.slice p9068 r9066.Memory.length c9069, .slice p9073 r9066.Copy.length c9074, .slice p9078 r9066.Dirty.length c9079], .agg #[.slice p9382 r9380.Memory.length c9383, .slice p9387 r9380.Copy.length c9388, .slice p9392 r9380.Dirty.length c9393]] (by kernel_rfl) (by kernel_rfl) ?_
            refine (c_l_eqCopying w9409 r9066 p9068 c9069 (ho9071.rd M9411 5 (by kernel_rfl)) p9073 c9074 (ho9076.rd M9411 6 (by kernel_rfl)) p9078 c9079 (ho9081.rd M9411 7 (by kernel_rfl)) r9380 p9382 c9383 (ho9385.rd M9411 15 (by kernel_rfl)) p9387 c9388 (ho9390.rd M9411 16 (by kernel_rfl)) p9392 c9393 (ho9395.rd M9411 17 (by kernel_rfl)) hr9412).mono ?_
            rintro e_ w9413 ⟨rfl, K9414⟩
            have M9415 := M9411.call0 K9414
            refine ⟨_, rfl, ?_⟩
            refine W_run 1 [(1, .slice p8878 x8876.length c8879), (2, .int .i64 x8881), (3, .pointer (some ⟨b8883, 0, none⟩)), (8, .pointer (some ⟨b9061, 0, none⟩)), (9, .int .i64 r9038.2.1), (10, .bool r9038.2.2), (11, .pointer (some ⟨b9089, 0, none⟩)), (12, .slice p9096 r9094.length c9097), (13, .pointer (some ⟨b9353, 0, none⟩)), (14, .int .i64 r9330.2.1), (15, .bool r9330.2.2), (72, .bool (!r9412))] w9413 (by kernel_rfl) ?_
            refine W_nil ?_
            refine N_then ?_
            rcases gx_bif hm with ⟨hc9416, hm⟩ | ⟨hc9416, hm⟩
            · refine G_cond_t (b := (!r9412)) hc9416 (by kernel_rfl) ?_
              refine G_seq ?_
              refine G_region ?_
              refine W_run 1 [(6, .bool false)] w9413 (by kernel_rfl) ?_
              refine W_nil ?_
              refine N_then ?_
              refine G_ret ?_
              refine N_then_ret ?_
              obtain rfl := Option.some.inj hm
              refine N_ret [.bool false] (RVs_cons (RV_tmp (by kernel_rfl)) RVs_nil) ?_
              exact ⟨rfl, M9415.pick [] (by kernel_rfl)⟩
            · refine G_cond_f (b := (!r9412)) hc9416 (by kernel_rfl) ?_
              refine G_skip ?_
              refine N_then ?_
              refine G_seq ?_
              refine G_seq ?_
              refine G_region ?_
              refine W_run 2 [(1, .slice p8878 x8876.length c8879), (2, .int .i64 x8881), (3, .pointer (some ⟨b8883, 0, none⟩)), (8, .pointer (some ⟨b9061, 0, none⟩)), (9, .int .i64 r9038.2.1), (10, .bool r9038.2.2), (11, .pointer (some ⟨b9089, 0, none⟩)), (12, .slice p9096 r9094.length c9097), (13, .pointer (some ⟨b9353, 0, none⟩)), (14, .int .i64 r9330.2.1), (15, .bool r9330.2.2), (73, .slice p9096 r9094.length c9097), (74, .slice p8878 x8876.length c8879)] w9413 (by kernel_rfl) ?_
              obtain ⟨r9417, hr9417, hm⟩ := gx_bind hm
              refine W_call 37 #[.slice p8878 x8876.length c8879] (by kernel_rfl) (by kernel_rfl) ?_
              refine (c_l_toStoreSS w9413 x8876 p8878 c8879 (h8880.mem0 M9415) hr9417).mono ?_
              rintro e_ w9424 ⟨p9419, c9420, sg9421, sg9422, rfl, ho9423, K9425⟩
              have M9426 := M9415.call K9425
              refine ⟨_, rfl, ?_⟩
              obtain ⟨r9427, hr9427, hm⟩ := gx_bind hm
              refine W_call 39 #[.slice p9096 r9094.length c9097, .slice p9419 r9417.length c9420] (by kernel_rfl) (by kernel_rfl) ?_
              refine (c_l_eqStoreSS w9424 r9094 p9096 c9097 (ho9100.rd M9426 9 (by kernel_rfl) 10 (by kernel_rfl)) r9417 p9419 c9420 (ho9423.rd M9426 18 (by kernel_rfl) 19 (by kernel_rfl)) hr9427).mono ?_
              rintro e_ w9428 ⟨rfl, K9429⟩
              have M9430 := M9426.call0 K9429
              refine ⟨_, rfl, ?_⟩
              refine W_run 1 [(1, .slice p8878 x8876.length c8879), (2, .int .i64 x8881), (3, .pointer (some ⟨b8883, 0, none⟩)), (8, .pointer (some ⟨b9061, 0, none⟩)), (9, .int .i64 r9038.2.1), (10, .bool r9038.2.2), (11, .pointer (some ⟨b9089, 0, none⟩)), (12, .slice p9096 r9094.length c9097), (13, .pointer (some ⟨b9353, 0, none⟩)), (14, .int .i64 r9330.2.1), (15, .bool r9330.2.2), (77, .bool (!r9427))] w9428 (by kernel_rfl) ?_
              refine W_nil ?_
              refine N_then ?_
              rcases gx_bif hm with ⟨hc9431, hm⟩ | ⟨hc9431, hm⟩
              · refine G_cond_t (b := (!r9427)) hc9431 (by kernel_rfl) ?_
                refine G_seq ?_
                refine G_region ?_
                refine W_run 1 [(6, .bool false)] w9428 (by kernel_rfl) ?_
                refine W_nil ?_
                refine N_then ?_
                refine G_ret ?_
                refine N_then_ret ?_
                obtain rfl := Option.some.inj hm
                refine N_ret [.bool false] (RVs_cons (RV_tmp (by kernel_rfl)) RVs_nil) ?_
                exact ⟨rfl, M9430.pick [] (by kernel_rfl)⟩
              · refine G_cond_f (b := (!r9427)) hc9431 (by kernel_rfl) ?_
                refine G_skip ?_
                refine N_then ?_
                refine G_seq ?_
                refine G_region ?_
                refine W_run 1 [(1, .slice p8878 x8876.length c8879), (2, .int .i64 x8881), (3, .pointer (some ⟨b8883, 0, none⟩)), (8, .pointer (some ⟨b9061, 0, none⟩)), (9, .int .i64 r9038.2.1), (10, .bool r9038.2.2), (11, .pointer (some ⟨b9089, 0, none⟩)), (12, .slice p9096 r9094.length c9097), (13, .pointer (some ⟨b9353, 0, none⟩)), (14, .int .i64 r9330.2.1), (15, .bool r9330.2.2), (16, .int .i64 1)] w9428 (by kernel_rfl) ?_
                refine W_nil ?_
                refine N_then ?_
                refine G_seq ?_
                refine G_region ?_
                refine W_val (.agg #[.slice p9068 r9066.Memory.length c9069, .slice p9073 r9066.Copy.length c9074, .slice p9078 r9066.Dirty.length c9079]) w9428 (by kernel_rfl) (E_load (e := 28) (fr := (0, 0)) _ _ true 3 b9089 0 [.slice p9068 r9066.Memory.length c9069, .slice p9073 r9066.Copy.length c9074, .slice p9078 r9066.Dirty.length c9079] (.agg #[.slice p9068 r9066.Memory.length c9069, .slice p9073 r9066.Copy.length c9074, .slice p9078 r9066.Dirty.length c9079]) rfl (by kernel_rfl) (by kernel_rfl) (by kernel_rfl) (M9430.blk 8 (b := b9089) (o := .cells ⟨[.slice p9068 r9066.Memory.length c9069, .slice p9073 r9066.Copy.length c9074, .slice p9078 r9066.Dirty.length c9079]⟩ 28 (0, 0)) (by kernel_rfl))) ?_
                refine W_run 1 [(1, .slice p8878 x8876.length c8879), (2, .int .i64 x8881), (3, .pointer (some ⟨b8883, 0, none⟩)), (8, .pointer (some ⟨b9061, 0, none⟩)), (9, .int .i64 r9038.2.1), (10, .bool r9038.2.2), (12, .slice p9096 r9094.length c9097), (13, .pointer (some ⟨b9353, 0, none⟩)), (14, .int .i64 r9330.2.1), (15, .bool r9330.2.2), (16, .int .i64 1), (78, .agg #[.slice p9068 r9066.Memory.length c9069, .slice p9073 r9066.Copy.length c9074, .slice p9078 r9066.Dirty.length c9079]), (79, .int .i64 1)] w9428 (by kernel_rfl) ?_
                obtain ⟨r9432, hr9432, hm⟩ := gx_bind hm
                refine W_call 23 #[.agg #[.slice p9068 r9066.Memory.length c9069, .slice p9073 r9066.Copy.length c9074, .slice p9078 r9066.Dirty.length c9079], .int .i64 1] (by kernel_rfl) (by kernel_rfl) ?_
                refine (c_l_markCopying w9428 r9066 p9068 c9069 sg9070 ho9071 p9073 c9074 sg9075 ho9076 p9078 c9079 sg9080 ho9081 1 (M9430.hasPick [5, 6, 7]) (M9430.nodupPick [5, 6, 7] (by kernel_rfl)) hr9432).mono ?_
                rintro e_ w9442 ⟨sg9433, sg9436, sg9439, rfl, ho9434, hl9435, ho9437, hl9438, ho9440, hl9441, K9443⟩
                have M9444 := M9430.callF' [5, 6, 7] [0, 1, 2, 3, 4, 8, 9, 10, 11, 12, 13, 14, 15, 16, 17, 18, 19] (by kernel_rfl) K9443
                refine ⟨_, rfl, ?_⟩
                refine W_conv 78 (.agg #[.slice p9068 r9066.Memory.length c9069, .slice p9073 r9066.Copy.length c9074, .slice p9078 r9066.Dirty.length c9079]) (.agg #[.slice p9068 r9432.2.1.length c9069, .slice p9073 r9432.2.2.1.length c9074, .slice p9078 r9432.2.2.2.length c9079]) (by kernel_rfl) (by first | rw [hl9435, hl9438, hl9441] | rw [hl9435] | rw [hl9438] | rw [hl9441]) ?_
                have M9445 : Mem [] w w9442 [[(b8883, .cells ⟨[.slice p8865 x8863.Memory.length c8866, .slice p8869 x8863.Copy.length c8870, .slice p8873 x8863.Dirty.length c8874]⟩ 25 (0, 0))], sg9042, sg9047, sg9052, [(b9061, .cells ⟨[.slice p9040 r9038.1.Memory.length c9041, .slice p9045 r9038.1.Copy.length c9046, .slice p9050 r9038.1.Dirty.length c9051]⟩ 28 (0, 0))], [(b9089, .cells ⟨[.slice p9068 r9432.2.1.length c9069, .slice p9073 r9432.2.2.1.length c9074, .slice p9078 r9432.2.2.2.length c9079]⟩ 28 (0, 0))], sg9098, sg9099, sg9334, sg9339, sg9344, [(b9353, .cells ⟨[.slice p9332 r9330.1.Memory.length c9333, .slice p9337 r9330.1.Copy.length c9338, .slice p9342 r9330.1.Dirty.length c9343]⟩ 28 (0, 0))], sg9384, sg9389, sg9394, sg9421, sg9422, sg9433, sg9436, sg9439] := by rw [hl9435, hl9438, hl9441]; exact M9444
                refine W_run 1 [(1, .slice p8878 x8876.length c8879), (2, .int .i64 x8881), (3, .pointer (some ⟨b8883, 0, none⟩)), (8, .pointer (some ⟨b9061, 0, none⟩)), (9, .int .i64 r9038.2.1), (10, .bool r9038.2.2), (12, .slice p9096 r9094.length c9097), (13, .pointer (some ⟨b9353, 0, none⟩)), (14, .int .i64 r9330.2.1), (15, .bool r9330.2.2), (16, .int .i64 r9432.1)] w9442 (by kernel_rfl) ?_
                refine W_nil ?_
                refine N_then ?_
                refine G_seq ?_
                refine G_region ?_
                refine W_run 2 [(1, .slice p8878 x8876.length c8879), (2, .int .i64 x8881), (3, .pointer (some ⟨b8883, 0, none⟩)), (8, .pointer (some ⟨b9061, 0, none⟩)), (9, .int .i64 r9038.2.1), (10, .bool r9038.2.2), (13, .pointer (some ⟨b9353, 0, none⟩)), (14, .int .i64 r9330.2.1), (15, .bool r9330.2.2), (16, .int .i64 r9432.1), (81, .slice p9096 r9094.length c9097), (82, .int .i64 r9432.1)] w9442 (by kernel_rfl) ?_
                obtain ⟨r9650, hr9650, hm⟩ := gx_bind hm
                refine W_call 42 #[.slice p9096 r9094.length c9097, .int .i64 r9432.1] (by kernel_rfl) (by kernel_rfl) ?_
                refine (c_l_markStoreSS w9442 r9094 p9096 c9097 sg9098 sg9099 ho9100 r9432.1 (M9445.hasPick [6, 7]) (M9445.nodupPick [6, 7] (by kernel_rfl)) hr9650).mono ?_
                rintro e_ w9655 ⟨sg9651, sg9652, rfl, ho9653, hl9654, K9656⟩
                have M9657 := M9445.callF' [6, 7] [0, 1, 2, 3, 4, 5, 8, 9, 10, 11, 12, 13, 14, 15, 16, 17, 18, 19] (by kernel_rfl) K9656
                refine ⟨_, rfl, ?_⟩
                refine W_conv 81 (.slice p9096 r9094.length c9097) (.slice p9096 r9650.2.length c9097) (by kernel_rfl) (by first | rw [hl9654] | rw [hl9654]) ?_
                refine W_run 1 [(1, .slice p8878 x8876.length c8879), (2, .int .i64 x8881), (3, .pointer (some ⟨b8883, 0, none⟩)), (8, .pointer (some ⟨b9061, 0, none⟩)), (9, .int .i64 r9038.2.1), (10, .bool r9038.2.2), (13, .pointer (some ⟨b9353, 0, none⟩)), (14, .int .i64 r9330.2.1), (15, .bool r9330.2.2), (16, .int .i64 r9650.1)] w9655 (by kernel_rfl) ?_
                refine W_nil ?_
                refine N_then ?_
                refine G_seq ?_
                refine G_seq ?_
                obtain ⟨o9665, ho9666, hm9667⟩ := gx_bind hm
                refine G_meet (fun a w' => Mem [] w w' [[(b8883, .cells ⟨[.slice p8865 x8863.Memory.length c8866, .slice p8869 x8863.Copy.length c8870, .slice p8873 x8863.Dirty.length c8874]⟩ 25 (0, 0))], sg9042, sg9047, sg9052, [(b9061, .cells ⟨[.slice p9040 r9038.1.Memory.length c9041, .slice p9045 r9038.1.Copy.length c9046, .slice p9050 r9038.1.Dirty.length c9051]⟩ 28 (0, 0))], sg9334, sg9339, sg9344, [(b9353, .cells ⟨[.slice p9332 r9330.1.Memory.length c9333, .slice p9337 r9330.1.Copy.length c9338, .slice p9342 r9330.1.Dirty.length c9343]⟩ 28 (0, 0))]] ∧ Sat Try.f10.ntmps [(1, .slice p8878 x8876.length c8879), (2, .int .i64 x8881), (3, .pointer (some ⟨b8883, 0, none⟩)), (8, .pointer (some ⟨b9061, 0, none⟩)), (9, .int .i64 r9038.2.1), (10, .bool r9038.2.2), (13, .pointer (some ⟨b9353, 0, none⟩)), (101, .bool o9665)] a) ?_ ?_
                · have hm := ho9666
                  refine G_region ?_
                  refine W_run 3 [(1, .slice p8878 x8876.length c8879), (2, .int .i64 x8881), (3, .pointer (some ⟨b8883, 0, none⟩)), (8, .pointer (some ⟨b9061, 0, none⟩)), (9, .int .i64 r9038.2.1), (10, .bool r9038.2.2), (13, .pointer (some ⟨b9353, 0, none⟩)), (14, .int .i64 r9330.2.1), (15, .bool r9330.2.2), (86, .bool (decide (r9650.1 < 0)))] w9655 (by kernel_rfl) ?_
                  rcases gx_bif hm with ⟨hc9668, hm⟩ | ⟨hc9668, hm⟩
                  · refine W_known 86 true (by kernel_rfl) hc9668 ?_
                    refine W_run 15 [(1, .slice p8878 x8876.length c8879), (2, .int .i64 x8881), (3, .pointer (some ⟨b8883, 0, none⟩)), (8, .pointer (some ⟨b9061, 0, none⟩)), (9, .int .i64 r9038.2.1), (10, .bool r9038.2.2), (13, .pointer (some ⟨b9353, 0, none⟩)), (101, .bool true)] w9655 (by kernel_rfl) ?_
                    refine W_nil ?_
                    obtain rfl := Option.some.inj hm
                    exact N_meet fun a ha => ⟨M9657.pick [0, 1, 2, 3, 4, 6, 7, 8, 9] (by kernel_rfl), ha.sub (by kernel_rfl)⟩
                  · refine W_known 86 false (by kernel_rfl) hc9668 ?_
                    refine W_val (.agg #[.slice p9332 r9330.1.Memory.length c9333, .slice p9337 r9330.1.Copy.length c9338, .slice p9342 r9330.1.Dirty.length c9343]) w9655 (by kernel_rfl) (E_load (e := 28) (fr := (0, 0)) _ _ true 3 b9353 0 [.slice p9332 r9330.1.Memory.length c9333, .slice p9337 r9330.1.Copy.length c9338, .slice p9342 r9330.1.Dirty.length c9343] (.agg #[.slice p9332 r9330.1.Memory.length c9333, .slice p9337 r9330.1.Copy.length c9338, .slice p9342 r9330.1.Dirty.length c9343]) rfl (by kernel_rfl) (by kernel_rfl) (by kernel_rfl) (M9657.blk 9 (b := b9353) (o := .cells ⟨[.slice p9332 r9330.1.Memory.length c9333, .slice p9337 r9330.1.Copy.length c9338, .slice p9342 r9330.1.Dirty.length c9343]⟩ 28 (0, 0)) (by kernel_rfl))) ?_
                    refine W_val (.agg #[.slice p9040 r9038.1.Memory.length c9041, .slice p9045 r9038.1.Copy.length c9046, .slice p9050 r9038.1.Dirty.length c9051]) w9655 (by kernel_rfl) (E_load (e := 28) (fr := (0, 0)) _ _ true 3 b9061 0 [.slice p9040 r9038.1.Memory.length c9041, .slice p9045 r9038.1.Copy.length c9046, .slice p9050 r9038.1.Dirty.length c9051] (.agg #[.slice p9040 r9038.1.Memory.length c9041, .slice p9045 r9038.1.Copy.length c9046, .slice p9050 r9038.1.Dirty.length c9051]) rfl (by kernel_rfl) (by kernel_rfl) (by kernel_rfl) (M9657.blk 4 (b := b9061) (o := .cells ⟨[.slice p9040 r9038.1.Memory.length c9041, .slice p9045 r9038.1.Copy.length c9046, .slice p9050 r9038.1.Dirty.length c9051]⟩ 28 (0, 0)) (by kernel_rfl))) ?_
                    obtain ⟨r9669, hr9669, hm⟩ := gx_bind hm
                    refine W_call 17 #[.agg #[.slice p9332 r9330.1.Memory.length c9333, .slice p9337 r9330.1.Copy.length c9338, .slice p9342 r9330.1.Dirty.length c9343], .agg #[.slice p9040 r9038.1.Memory.length c9041, .slice p9045 r9038.1.Copy.length c9046, .slice p9050 r9038.1.Dirty.length c9051]] (by kernel_rfl) (by kernel_rfl) ?_
                    refine (c_l_eqCopying w9655 r9330.1 p9332 c9333 (ho9335.rd M9657 6 (by kernel_rfl)) p9337 c9338 (ho9340.rd M9657 7 (by kernel_rfl)) p9342 c9343 (ho9345.rd M9657 8 (by kernel_rfl)) r9038.1 p9040 c9041 (ho9043.rd M9657 1 (by kernel_rfl)) p9045 c9046 (ho9048.rd M9657 2 (by kernel_rfl)) p9050 c9051 (ho9053.rd M9657 3 (by kernel_rfl)) hr9669).mono ?_
                    rintro e_ w9670 ⟨rfl, K9671⟩
                    have M9672 := M9657.call0 K9671
                    refine ⟨_, rfl, ?_⟩
                    refine W_run 3 [(1, .slice p8878 x8876.length c8879), (2, .int .i64 x8881), (3, .pointer (some ⟨b8883, 0, none⟩)), (8, .pointer (some ⟨b9061, 0, none⟩)), (9, .int .i64 r9038.2.1), (10, .bool r9038.2.2), (13, .pointer (some ⟨b9353, 0, none⟩)), (14, .int .i64 r9330.2.1), (15, .bool r9330.2.2), (92, .bool (!r9669))] w9670 (by kernel_rfl) ?_
                    rcases gx_bif hm with ⟨hc9673, hm⟩ | ⟨hc9673, hm⟩
                    · refine W_known 92 true (by kernel_rfl) hc9673 ?_
                      refine W_run 9 [(1, .slice p8878 x8876.length c8879), (2, .int .i64 x8881), (3, .pointer (some ⟨b8883, 0, none⟩)), (8, .pointer (some ⟨b9061, 0, none⟩)), (9, .int .i64 r9038.2.1), (10, .bool r9038.2.2), (13, .pointer (some ⟨b9353, 0, none⟩)), (101, .bool true)] w9670 (by kernel_rfl) ?_
                      refine W_nil ?_
                      obtain rfl := Option.some.inj hm
                      exact N_meet fun a ha => ⟨M9672.pick [0, 1, 2, 3, 4, 6, 7, 8, 9] (by kernel_rfl), ha.sub (by kernel_rfl)⟩
                    · refine W_known 92 false (by kernel_rfl) hc9673 ?_
                      refine W_run 5 [(1, .slice p8878 x8876.length c8879), (2, .int .i64 x8881), (3, .pointer (some ⟨b8883, 0, none⟩)), (8, .pointer (some ⟨b9061, 0, none⟩)), (9, .int .i64 r9038.2.1), (10, .bool r9038.2.2), (13, .pointer (some ⟨b9353, 0, none⟩)), (15, .bool r9330.2.2), (97, .bool (r9330.2.1 != r9038.2.1))] w9670 (by kernel_rfl) ?_
                      rcases gx_bif hm with ⟨hc9674, hm⟩ | ⟨hc9674, hm⟩
                      · refine W_known 97 true (by kernel_rfl) hc9674 ?_
                        refine W_run 4 [(1, .slice p8878 x8876.length c8879), (2, .int .i64 x8881), (3, .pointer (some ⟨b8883, 0, none⟩)), (8, .pointer (some ⟨b9061, 0, none⟩)), (9, .int .i64 r9038.2.1), (10, .bool r9038.2.2), (13, .pointer (some ⟨b9353, 0, none⟩)), (101, .bool true)] w9670 (by kernel_rfl) ?_
                        refine W_nil ?_
                        obtain rfl := Option.some.inj hm
                        exact N_meet fun a ha => ⟨M9672.pick [0, 1, 2, 3, 4, 6, 7, 8, 9] (by kernel_rfl), ha.sub (by kernel_rfl)⟩
                      · refine W_known 97 false (by kernel_rfl) hc9674 ?_
                        refine W_run 4 [(1, .slice p8878 x8876.length c8879), (2, .int .i64 x8881), (3, .pointer (some ⟨b8883, 0, none⟩)), (8, .pointer (some ⟨b9061, 0, none⟩)), (9, .int .i64 r9038.2.1), (10, .bool r9038.2.2), (13, .pointer (some ⟨b9353, 0, none⟩)), (101, .bool (!(r9330.2.2 == r9038.2.2)))] w9670 (by kernel_rfl) ?_
                        refine W_nil ?_
                        obtain rfl := Option.some.inj hm
                        exact N_meet fun a ha => ⟨M9672.pick [0, 1, 2, 3, 4, 6, 7, 8, 9] (by kernel_rfl), ha.sub (by kernel_rfl)⟩
                · intro a9677 w9675 ⟨M9676, hS9678⟩
                  refine N_use hS9678 ?_
                  have hm := hm9667
                  refine N_then ?_
                  rcases gx_bif hm with ⟨hc9679, hm⟩ | ⟨hc9679, hm⟩
                  · refine G_cond_t (b := o9665) hc9679 (by kernel_rfl) ?_
                    refine G_seq ?_
                    refine G_region ?_
                    refine W_run 1 [(6, .bool false)] w9675 (by kernel_rfl) ?_
                    refine W_nil ?_
                    refine N_then ?_
                    refine G_ret ?_
                    refine N_then_ret ?_
                    obtain rfl := Option.some.inj hm
                    refine N_ret [.bool false] (RVs_cons (RV_tmp (by kernel_rfl)) RVs_nil) ?_
                    exact ⟨rfl, M9676.pick [] (by kernel_rfl)⟩
                  · refine G_cond_f (b := o9665) hc9679 (by kernel_rfl) ?_
                    refine G_skip ?_
                    refine N_then ?_
                    refine G_seq ?_
                    refine G_region ?_
                    refine W_run 1 [(1, .slice p8878 x8876.length c8879), (2, .int .i64 x8881), (3, .pointer (some ⟨b8883, 0, none⟩)), (8, .pointer (some ⟨b9061, 0, none⟩)), (9, .int .i64 r9038.2.1), (10, .bool r9038.2.2), (13, .pointer (some ⟨b9353, 0, none⟩)), (17, .int .i64 1)] w9675 (by kernel_rfl) ?_
                    refine W_nil ?_
                    refine N_then ?_
                    refine G_seq ?_
                    refine G_region ?_
                    refine W_val (.agg #[.slice p9332 r9330.1.Memory.length c9333, .slice p9337 r9330.1.Copy.length c9338, .slice p9342 r9330.1.Dirty.length c9343]) w9675 (by kernel_rfl) (E_load (e := 28) (fr := (0, 0)) _ _ true 3 b9353 0 [.slice p9332 r9330.1.Memory.length c9333, .slice p9337 r9330.1.Copy.length c9338, .slice p9342 r9330.1.Dirty.length c9343] (.agg #[.slice p9332 r9330.1.Memory.length c9333, .slice p9337 r9330.1.Copy.length c9338, .slice p9342 r9330.1.Dirty.length c9343]) rfl (by kernel_rfl) (by kernel_rfl) (by kernel_rfl) (M9676.blk 8 (b := b9353) (o := .cells ⟨[.slice p9332 r9330.1.Memory.length c9333, .slice p9337 r9330.1.Copy.length c9338, .slice p9342 r9330.1.Dirty.length c9343]⟩ 28 (0, 0)) (by kernel_rfl))) ?_
                    refine W_run 1 [(1, .slice p8878 x8876.length c8879), (2, .int .i64 x8881), (3, .pointer (some ⟨b8883, 0, none⟩)), (8, .pointer (some ⟨b9061, 0, none⟩)), (9, .int .i64 r9038.2.1), (10, .bool r9038.2.2), (13, .pointer (some ⟨b9353, 0, none⟩)), (17, .int .i64 1), (102, .agg #[.slice p9332 r9330.1.Memory.length c9333, .slice p9337 r9330.1.Copy.length c9338, .slice p9342 r9330.1.Dirty.length c9343]), (103, .int .i64 1)] w9675 (by kernel_rfl) ?_
                    obtain ⟨r9680, hr9680, hm⟩ := gx_bind hm
                    refine W_call 23 #[.agg #[.slice p9332 r9330.1.Memory.length c9333, .slice p9337 r9330.1.Copy.length c9338, .slice p9342 r9330.1.Dirty.length c9343], .int .i64 1] (by kernel_rfl) (by kernel_rfl) ?_
                    refine (c_l_markCopying w9675 r9330.1 p9332 c9333 sg9334 ho9335 p9337 c9338 sg9339 ho9340 p9342 c9343 sg9344 ho9345 1 (M9676.hasPick [5, 6, 7]) (M9676.nodupPick [5, 6, 7] (by kernel_rfl)) hr9680).mono ?_
                    rintro e_ w9690 ⟨sg9681, sg9684, sg9687, rfl, ho9682, hl9683, ho9685, hl9686, ho9688, hl9689, K9691⟩
                    have M9692 := M9676.callF' [5, 6, 7] [0, 1, 2, 3, 4, 8] (by kernel_rfl) K9691
                    refine ⟨_, rfl, ?_⟩
                    refine W_conv 102 (.agg #[.slice p9332 r9330.1.Memory.length c9333, .slice p9337 r9330.1.Copy.length c9338, .slice p9342 r9330.1.Dirty.length c9343]) (.agg #[.slice p9332 r9680.2.1.length c9333, .slice p9337 r9680.2.2.1.length c9338, .slice p9342 r9680.2.2.2.length c9343]) (by kernel_rfl) (by first | rw [hl9683, hl9686, hl9689] | rw [hl9683] | rw [hl9686] | rw [hl9689]) ?_
                    have M9693 : Mem [] w w9690 [[(b8883, .cells ⟨[.slice p8865 x8863.Memory.length c8866, .slice p8869 x8863.Copy.length c8870, .slice p8873 x8863.Dirty.length c8874]⟩ 25 (0, 0))], sg9042, sg9047, sg9052, [(b9061, .cells ⟨[.slice p9040 r9038.1.Memory.length c9041, .slice p9045 r9038.1.Copy.length c9046, .slice p9050 r9038.1.Dirty.length c9051]⟩ 28 (0, 0))], [(b9353, .cells ⟨[.slice p9332 r9680.2.1.length c9333, .slice p9337 r9680.2.2.1.length c9338, .slice p9342 r9680.2.2.2.length c9343]⟩ 28 (0, 0))], sg9681, sg9684, sg9687] := by rw [hl9683, hl9686, hl9689]; exact M9692
                    refine W_run 1 [(1, .slice p8878 x8876.length c8879), (2, .int .i64 x8881), (3, .pointer (some ⟨b8883, 0, none⟩)), (8, .pointer (some ⟨b9061, 0, none⟩)), (9, .int .i64 r9038.2.1), (10, .bool r9038.2.2), (13, .pointer (some ⟨b9353, 0, none⟩)), (17, .int .i64 r9680.1)] w9690 (by kernel_rfl) ?_
                    refine W_nil ?_
                    refine N_then ?_
                    refine G_seq ?_
                    refine G_region ?_
                    refine W_run 1 [(1, .slice p8878 x8876.length c8879), (2, .int .i64 x8881), (3, .pointer (some ⟨b8883, 0, none⟩)), (8, .pointer (some ⟨b9061, 0, none⟩)), (9, .int .i64 r9038.2.1), (10, .bool r9038.2.2), (13, .pointer (some ⟨b9353, 0, none⟩)), (17, .int .i64 r9680.1), (18, .int .i64 1)] w9690 (by kernel_rfl) ?_
                    refine W_nil ?_
                    refine N_then ?_
                    refine G_seq ?_
                    refine G_region ?_
                    refine W_val (.agg #[.slice p9332 r9680.2.1.length c9333, .slice p9337 r9680.2.2.1.length c9338, .slice p9342 r9680.2.2.2.length c9343]) w9690 (by kernel_rfl) (E_load (e := 28) (fr := (0, 0)) _ _ true 3 b9353 0 [.slice p9332 r9680.2.1.length c9333, .slice p9337 r9680.2.2.1.length c9338, .slice p9342 r9680.2.2.2.length c9343] (.agg #[.slice p9332 r9680.2.1.length c9333, .slice p9337 r9680.2.2.1.length c9338, .slice p9342 r9680.2.2.2.length c9343]) rfl (by kernel_rfl) (by kernel_rfl) (by kernel_rfl) (M9693.blk 5 (b := b9353) (o := .cells ⟨[.slice p9332 r9680.2.1.length c9333, .slice p9337 r9680.2.2.1.length c9338, .slice p9342 r9680.2.2.2.length c9343]⟩ 28 (0, 0)) (by kernel_rfl))) ?_
                    refine W_run 1 [(1, .slice p8878 x8876.length c8879), (2, .int .i64 x8881), (3, .pointer (some ⟨b8883, 0, none⟩)), (8, .pointer (some ⟨b9061, 0, none⟩)), (9, .int .i64 r9038.2.1), (10, .bool r9038.2.2), (13, .pointer (some ⟨b9353, 0, none⟩)), (17, .int .i64 r9680.1), (18, .int .i64 1), (105, .agg #[.slice p9332 r9680.2.1.length c9333, .slice p9337 r9680.2.2.1.length c9338, .slice p9342 r9680.2.2.2.length c9343]), (106, .int .i64 1)] w9690 (by kernel_rfl) ?_
                    obtain ⟨r9694, hr9694, hm⟩ := gx_bind hm
                    refine W_call 24 #[.agg #[.slice p9332 r9680.2.1.length c9333, .slice p9337 r9680.2.2.1.length c9338, .slice p9342 r9680.2.2.2.length c9343], .int .i64 1] (by kernel_rfl) (by kernel_rfl) ?_
                    refine (c_l_heldCopying w9690 (⟨r9680.2.1, r9680.2.2.1, r9680.2.2.2⟩ : Copying) p9332 c9333 (ho9682.rd M9693 6 (by kernel_rfl)) p9337 c9338 (ho9685.rd M9693 7 (by kernel_rfl)) p9342 c9343 (ho9688.rd M9693 8 (by kernel_rfl)) 1 hr9694).mono ?_
                    rintro e_ w9695 ⟨rfl, K9696⟩
                    have M9697 := M9693.call0 K9696
                    refine ⟨_, rfl, ?_⟩
                    refine W_run 1 [(1, .slice p8878 x8876.length c8879), (2, .int .i64 x8881), (3, .pointer (some ⟨b8883, 0, none⟩)), (8, .pointer (some ⟨b9061, 0, none⟩)), (9, .int .i64 r9038.2.1), (10, .bool r9038.2.2), (13, .pointer (some ⟨b9353, 0, none⟩)), (17, .int .i64 r9680.1), (18, .int .i64 r9694)] w9695 (by kernel_rfl) ?_
                    refine W_nil ?_
                    refine N_then ?_
                    refine G_seq ?_
                    refine G_seq ?_
                    refine G_region ?_
                    refine W_run 2 [(1, .slice p8878 x8876.length c8879), (2, .int .i64 x8881), (3, .pointer (some ⟨b8883, 0, none⟩)), (8, .pointer (some ⟨b9061, 0, none⟩)), (9, .int .i64 r9038.2.1), (10, .bool r9038.2.2), (13, .pointer (some ⟨b9353, 0, none⟩)), (17, .int .i64 r9680.1), (18, .int .i64 r9694), (109, .bool (decide (r9694 < 0)))] w9695 (by kernel_rfl) ?_
                    refine W_nil ?_
                    refine N_then ?_
                    rcases gx_bif hm with ⟨hc9698, hm⟩ | ⟨hc9698, hm⟩
                    · refine G_cond_t (b := (decide (r9694 < 0))) hc9698 (by kernel_rfl) ?_
                      refine G_seq ?_
                      refine G_region ?_
                      refine W_run 1 [(6, .bool false)] w9695 (by kernel_rfl) ?_
                      refine W_nil ?_
                      refine N_then ?_
                      refine G_ret ?_
                      refine N_then_ret ?_
                      obtain rfl := Option.some.inj hm
                      refine N_ret [.bool false] (RVs_cons (RV_tmp (by kernel_rfl)) RVs_nil) ?_
                      exact ⟨rfl, M9697.pick [] (by kernel_rfl)⟩
                    · refine G_cond_f (b := (decide (r9694 < 0))) hc9698 (by kernel_rfl) ?_
                      refine G_skip ?_
                      refine N_then ?_
                      refine G_seq ?_
                      refine G_seq ?_
                      refine G_region ?_
                      refine W_run 3 [(1, .slice p8878 x8876.length c8879), (2, .int .i64 x8881), (3, .pointer (some ⟨b8883, 0, none⟩)), (8, .pointer (some ⟨b9061, 0, none⟩)), (9, .int .i64 r9038.2.1), (10, .bool r9038.2.2), (13, .pointer (some ⟨b9353, 0, none⟩)), (17, .int .i64 r9680.1), (112, .bool (r9694 != r9680.1))] w9695 (by kernel_rfl) ?_
                      refine W_nil ?_
                      refine N_then ?_
                      rcases gx_bif hm with ⟨hc9699, hm⟩ | ⟨hc9699, hm⟩
                      · refine G_cond_t (b := (r9694 != r9680.1)) hc9699 (by kernel_rfl) ?_
                        refine G_seq ?_
                        refine G_region ?_
                        refine W_run 1 [(6, .bool false)] w9695 (by kernel_rfl) ?_
                        refine W_nil ?_
                        refine N_then ?_
                        refine G_ret ?_
                        refine N_then_ret ?_
                        obtain rfl := Option.some.inj hm
                        refine N_ret [.bool false] (RVs_cons (RV_tmp (by kernel_rfl)) RVs_nil) ?_
                        exact ⟨rfl, M9697.pick [] (by kernel_rfl)⟩
                      · refine G_cond_f (b := (r9694 != r9680.1)) hc9699 (by kernel_rfl) ?_
                        refine G_skip ?_
                        refine N_then ?_
                        refine G_seq ?_
                        refine G_region ?_
                        refine W_val (.agg #[.slice p8865 x8863.Memory.length c8866, .slice p8869 x8863.Copy.length c8870, .slice p8873 x8863.Dirty.length c8874]) w9695 (by kernel_rfl) (E_load (e := 25) (fr := (0, 0)) _ _ true 3 b8883 0 [.slice p8865 x8863.Memory.length c8866, .slice p8869 x8863.Copy.length c8870, .slice p8873 x8863.Dirty.length c8874] (.agg #[.slice p8865 x8863.Memory.length c8866, .slice p8869 x8863.Copy.length c8870, .slice p8873 x8863.Dirty.length c8874]) rfl (by kernel_rfl) (by kernel_rfl) (by kernel_rfl) (M9697.blk 0 (b := b8883) (o := .cells ⟨[.slice p8865 x8863.Memory.length c8866, .slice p8869 x8863.Copy.length c8870, .slice p8873 x8863.Dirty.length c8874]⟩ 25 (0, 0)) (by kernel_rfl))) ?_
                        obtain ⟨r9700, hr9700, hm⟩ := gx_bind hm
                        refine W_call 15 #[.agg #[.slice p8865 x8863.Memory.length c8866, .slice p8869 x8863.Copy.length c8870, .slice p8873 x8863.Dirty.length c8874]] (by kernel_rfl) (by kernel_rfl) ?_
                        refine (c_l_toCopying w9695 x8863 p8865 c8866 (h8867.mem0 M9697) p8869 c8870 (h8871.mem0 M9697) p8873 c8874 (h8875.mem0 M9697) hr9700).mono ?_
                        rintro e_ w9716 ⟨p9702, c9703, sg9704, p9707, c9708, sg9709, p9712, c9713, sg9714, rfl, ho9705, ho9710, ho9715, K9717⟩
                        have M9718 := M9697.call K9717
                        refine ⟨_, rfl, ?_⟩
                        refine W_run 1 [(2, .int .i64 x8881), (8, .pointer (some ⟨b9061, 0, none⟩)), (9, .int .i64 r9038.2.1), (10, .bool r9038.2.2), (13, .pointer (some ⟨b9353, 0, none⟩)), (17, .int .i64 r9680.1), (115, .agg #[.slice p9702 r9700.Memory.length c9703, .slice p9707 r9700.Copy.length c9708, .slice p9712 r9700.Dirty.length c9713]), (116, .slice p8878 x8876.length c8879)] w9716 (by kernel_rfl) ?_
                        obtain ⟨r9719, hr9719, hm⟩ := gx_bind hm
                        refine W_call 37 #[.slice p8878 x8876.length c8879] (by kernel_rfl) (by kernel_rfl) ?_
                        refine (c_l_toStoreSS w9716 x8876 p8878 c8879 (h8880.mem0 M9718) hr9719).mono ?_
                        rintro e_ w9726 ⟨p9721, c9722, sg9723, sg9724, rfl, ho9725, K9727⟩
                        have M9728 := M9718.call K9727
                        refine ⟨_, rfl, ?_⟩
                        refine W_run 1 [(8, .pointer (some ⟨b9061, 0, none⟩)), (9, .int .i64 r9038.2.1), (10, .bool r9038.2.2), (13, .pointer (some ⟨b9353, 0, none⟩)), (17, .int .i64 r9680.1), (115, .agg #[.slice p9702 r9700.Memory.length c9703, .slice p9707 r9700.Copy.length c9708, .slice p9712 r9700.Dirty.length c9713]), (117, .slice p9721 r9719.length c9722), (118, .int .i64 x8881)] w9726 (by kernel_rfl) ?_
                        obtain ⟨r9729, hr9729, hm⟩ := gx_bind hm
                        refine W_call 41 #[.agg #[.slice p9702 r9700.Memory.length c9703, .slice p9707 r9700.Copy.length c9708, .slice p9712 r9700.Dirty.length c9713], .slice p9721 r9719.length c9722, .int .i64 x8881] (by kernel_rfl) (by kernel_rfl) ?_
                        refine (c_i_RunRounds w9726 r9700 p9702 c9703 (ho9705.rd M9728 9 (by kernel_rfl)) p9707 c9708 (ho9710.rd M9728 10 (by kernel_rfl)) p9712 c9713 (ho9715.rd M9728 11 (by kernel_rfl)) r9719 p9721 c9722 (ho9725.rd M9728 12 (by kernel_rfl) 13 (by kernel_rfl)) x8881 hr9729).mono ?_
                        rintro e_ w9745 ⟨p9731, c9732, sg9733, p9736, c9737, sg9738, p9741, c9742, sg9743, rfl, ho9734, ho9739, ho9744, K9746⟩
                        have M9747 := M9728.call K9746
                        refine ⟨_, rfl, ?_⟩
                        refine W_run 4 [(8, .pointer (some ⟨b9061, 0, none⟩)), (9, .int .i64 r9038.2.1), (10, .bool r9038.2.2), (13, .pointer (some ⟨b9353, 0, none⟩)), (17, .int .i64 r9680.1), (120, .agg #[.slice p9731 r9729.1.Memory.length c9732, .slice p9736 r9729.1.Copy.length c9737, .slice p9741 r9729.1.Dirty.length c9742]), (121, .int .i64 r9729.2.1), (122, .bool r9729.2.2)] w9745 (by kernel_rfl) ?_
                        refine W_new (fun b => .pointer (some ⟨b, 0, none⟩)) (.cells ⟨[.slice none 0 0, .slice none 0 0, .slice none 0 0]⟩ 28 (0, 0)) M9747 rfl (by kernel_rfl) (by kernel_rfl) ?_
                        intro b9752 w9753 M9754
                        refine W_store _ _ _ true 3 b9752 0 [.slice none 0 0, .slice none 0 0, .slice none 0 0] 28 (.agg #[.slice p9731 r9729.1.Memory.length c9732, .slice p9736 r9729.1.Copy.length c9737, .slice p9741 r9729.1.Dirty.length c9742]) 17 [.slice p9731 r9729.1.Memory.length c9732, .slice p9736 r9729.1.Copy.length c9737, .slice p9741 r9729.1.Dirty.length c9742] M9754 (by kernel_rfl) rfl (by kernel_rfl) (by kernel_rfl) (by kernel_rfl) (by kernel_rfl) (by kernel_rfl) (by kernel_rfl) (by kernel_rfl) (by kernel_rfl) ?_
                        intro w9755 M9756
                        refine W_run 2 [(8, .pointer (some ⟨b9061, 0, none⟩)), (9, .int .i64 r9038.2.1), (10, .bool r9038.2.2), (13, .pointer (some ⟨b9353, 0, none⟩)), (17, .int .i64 r9680.1), (19, .pointer (some ⟨b9752, 0, none⟩)), (20, .int .i64 r9729.2.1), (21, .bool r9729.2.2)] w9755 (by kernel_rfl) ?_
                        refine W_nil ?_
                        refine N_then ?_
                        refine G_seq ?_
                        refine G_seq ?_
                        obtain ⟨o9763, ho9764, hm9765⟩ := gx_bind hm
                        refine G_meet (fun a w' => Mem [] w w' [[(b9353, .cells ⟨[.slice p9332 r9680.2.1.length c9333, .slice p9337 r9680.2.2.1.length c9338, .slice p9342 r9680.2.2.2.length c9343]⟩ 28 (0, 0))], sg9681, sg9684, sg9687] ∧ Sat Try.f10.ntmps [(13, .pointer (some ⟨b9353, 0, none⟩)), (17, .int .i64 r9680.1), (136, .bool o9763)] a) ?_ ?_
                        · have hm := ho9764
                          refine G_region ?_
                          refine W_val (.agg #[.slice p9731 r9729.1.Memory.length c9732, .slice p9736 r9729.1.Copy.length c9737, .slice p9741 r9729.1.Dirty.length c9742]) w9755 (by kernel_rfl) (E_load (e := 28) (fr := (0, 0)) _ _ true 3 b9752 0 [.slice p9731 r9729.1.Memory.length c9732, .slice p9736 r9729.1.Copy.length c9737, .slice p9741 r9729.1.Dirty.length c9742] (.agg #[.slice p9731 r9729.1.Memory.length c9732, .slice p9736 r9729.1.Copy.length c9737, .slice p9741 r9729.1.Dirty.length c9742]) rfl (by kernel_rfl) (by kernel_rfl) (by kernel_rfl) (M9756.blk 17 (b := b9752) (o := .cells ⟨[.slice p9731 r9729.1.Memory.length c9732, .slice p9736 r9729.1.Copy.length c9737, .slice p9741 r9729.1.Dirty.length c9742]⟩ 28 (0, 0)) (by kernel_rfl))) ?_
                          refine W_val (.agg #[.slice p9040 r9038.1.Memory.length c9041, .slice p9045 r9038.1.Copy.length c9046, .slice p9050 r9038.1.Dirty.length c9051]) w9755 (by kernel_rfl) (E_load (e := 28) (fr := (0, 0)) _ _ true 3 b9061 0 [.slice p9040 r9038.1.Memory.length c9041, .slice p9045 r9038.1.Copy.length c9046, .slice p9050 r9038.1.Dirty.length c9051] (.agg #[.slice p9040 r9038.1.Memory.length c9041, .slice p9045 r9038.1.Copy.length c9046, .slice p9050 r9038.1.Dirty.length c9051]) rfl (by kernel_rfl) (by kernel_rfl) (by kernel_rfl) (M9756.blk 4 (b := b9061) (o := .cells ⟨[.slice p9040 r9038.1.Memory.length c9041, .slice p9045 r9038.1.Copy.length c9046, .slice p9050 r9038.1.Dirty.length c9051]⟩ 28 (0, 0)) (by kernel_rfl))) ?_
                          obtain ⟨r9766, hr9766, hm⟩ := gx_bind hm
                          refine W_call 17 #[.agg #[.slice p9731 r9729.1.Memory.length c9732, .slice p9736 r9729.1.Copy.length c9737, .slice p9741 r9729.1.Dirty.length c9742], .agg #[.slice p9040 r9038.1.Memory.length c9041, .slice p9045 r9038.1.Copy.length c9046, .slice p9050 r9038.1.Dirty.length c9051]] (by kernel_rfl) (by kernel_rfl) ?_
                          refine (c_l_eqCopying w9755 r9729.1 p9731 c9732 (ho9734.rd M9756 14 (by kernel_rfl)) p9736 c9737 (ho9739.rd M9756 15 (by kernel_rfl)) p9741 c9742 (ho9744.rd M9756 16 (by kernel_rfl)) r9038.1 p9040 c9041 (ho9043.rd M9756 1 (by kernel_rfl)) p9045 c9046 (ho9048.rd M9756 2 (by kernel_rfl)) p9050 c9051 (ho9053.rd M9756 3 (by kernel_rfl)) hr9766).mono ?_
                          rintro e_ w9767 ⟨rfl, K9768⟩
                          have M9769 := M9756.call0 K9768
                          refine ⟨_, rfl, ?_⟩
                          refine W_run 2 [(9, .int .i64 r9038.2.1), (10, .bool r9038.2.2), (13, .pointer (some ⟨b9353, 0, none⟩)), (17, .int .i64 r9680.1), (20, .int .i64 r9729.2.1), (21, .bool r9729.2.2), (127, .bool (!r9766))] w9767 (by kernel_rfl) ?_
                          rcases gx_bif hm with ⟨hc9770, hm⟩ | ⟨hc9770, hm⟩
                          · refine W_known 127 true (by kernel_rfl) hc9770 ?_
                            refine W_run 9 [(13, .pointer (some ⟨b9353, 0, none⟩)), (17, .int .i64 r9680.1), (136, .bool true)] w9767 (by kernel_rfl) ?_
                            refine W_nil ?_
                            obtain rfl := Option.some.inj hm
                            exact N_meet fun a ha => ⟨M9769.pick [5, 6, 7, 8] (by kernel_rfl), ha.sub (by kernel_rfl)⟩
                          · refine W_known 127 false (by kernel_rfl) hc9770 ?_
                            refine W_run 5 [(10, .bool r9038.2.2), (13, .pointer (some ⟨b9353, 0, none⟩)), (17, .int .i64 r9680.1), (21, .bool r9729.2.2), (132, .bool (r9729.2.1 != r9038.2.1))] w9767 (by kernel_rfl) ?_
                            rcases gx_bif hm with ⟨hc9771, hm⟩ | ⟨hc9771, hm⟩
                            · refine W_known 132 true (by kernel_rfl) hc9771 ?_
                              refine W_run 4 [(13, .pointer (some ⟨b9353, 0, none⟩)), (17, .int .i64 r9680.1), (136, .bool true)] w9767 (by kernel_rfl) ?_
                              refine W_nil ?_
                              obtain rfl := Option.some.inj hm
                              exact N_meet fun a ha => ⟨M9769.pick [5, 6, 7, 8] (by kernel_rfl), ha.sub (by kernel_rfl)⟩
                            · refine W_known 132 false (by kernel_rfl) hc9771 ?_
                              refine W_run 4 [(13, .pointer (some ⟨b9353, 0, none⟩)), (17, .int .i64 r9680.1), (136, .bool (!(r9729.2.2 == r9038.2.2)))] w9767 (by kernel_rfl) ?_
                              refine W_nil ?_
                              obtain rfl := Option.some.inj hm
                              exact N_meet fun a ha => ⟨M9769.pick [5, 6, 7, 8] (by kernel_rfl), ha.sub (by kernel_rfl)⟩
                        · intro a9774 w9772 ⟨M9773, hS9775⟩
                          refine N_use hS9775 ?_
                          have hm := hm9765
                          refine N_then ?_
                          rcases gx_bif hm with ⟨hc9776, hm⟩ | ⟨hc9776, hm⟩
                          · refine G_cond_t (b := o9763) hc9776 (by kernel_rfl) ?_
                            refine G_seq ?_
                            refine G_region ?_
                            refine W_run 1 [(6, .bool false)] w9772 (by kernel_rfl) ?_
                            refine W_nil ?_
                            refine N_then ?_
                            refine G_ret ?_
                            refine N_then_ret ?_
                            obtain rfl := Option.some.inj hm
                            refine N_ret [.bool false] (RVs_cons (RV_tmp (by kernel_rfl)) RVs_nil) ?_
                            exact ⟨rfl, M9773.pick [] (by kernel_rfl)⟩
                          · refine G_cond_f (b := o9763) hc9776 (by kernel_rfl) ?_
                            refine G_skip ?_
                            refine N_then ?_
                            refine G_seq ?_
                            refine G_region ?_
                            refine W_run 1 [(13, .pointer (some ⟨b9353, 0, none⟩)), (17, .int .i64 r9680.1), (18, .int .i64 1)] w9772 (by kernel_rfl) ?_
                            refine W_nil ?_
                            refine N_then ?_
                            refine G_seq ?_
                            refine G_region ?_
                            refine W_val (.agg #[.slice p9332 r9680.2.1.length c9333, .slice p9337 r9680.2.2.1.length c9338, .slice p9342 r9680.2.2.2.length c9343]) w9772 (by kernel_rfl) (E_load (e := 28) (fr := (0, 0)) _ _ true 3 b9353 0 [.slice p9332 r9680.2.1.length c9333, .slice p9337 r9680.2.2.1.length c9338, .slice p9342 r9680.2.2.2.length c9343] (.agg #[.slice p9332 r9680.2.1.length c9333, .slice p9337 r9680.2.2.1.length c9338, .slice p9342 r9680.2.2.2.length c9343]) rfl (by kernel_rfl) (by kernel_rfl) (by kernel_rfl) (M9773.blk 0 (b := b9353) (o := .cells ⟨[.slice p9332 r9680.2.1.length c9333, .slice p9337 r9680.2.2.1.length c9338, .slice p9342 r9680.2.2.2.length c9343]⟩ 28 (0, 0)) (by kernel_rfl))) ?_
                            refine W_run 1 [(17, .int .i64 r9680.1), (18, .int .i64 1), (137, .agg #[.slice p9332 r9680.2.1.length c9333, .slice p9337 r9680.2.2.1.length c9338, .slice p9342 r9680.2.2.2.length c9343]), (138, .int .i64 1)] w9772 (by kernel_rfl) ?_
                            obtain ⟨r9777, hr9777, hm⟩ := gx_bind hm
                            refine W_call 24 #[.agg #[.slice p9332 r9680.2.1.length c9333, .slice p9337 r9680.2.2.1.length c9338, .slice p9342 r9680.2.2.2.length c9343], .int .i64 1] (by kernel_rfl) (by kernel_rfl) ?_
                            refine (c_l_heldCopying w9772 (⟨r9680.2.1, r9680.2.2.1, r9680.2.2.2⟩ : Copying) p9332 c9333 (ho9682.rd M9773 1 (by kernel_rfl)) p9337 c9338 (ho9685.rd M9773 2 (by kernel_rfl)) p9342 c9343 (ho9688.rd M9773 3 (by kernel_rfl)) 1 hr9777).mono ?_
                            rintro e_ w9778 ⟨rfl, K9779⟩
                            have M9780 := M9773.call0 K9779
                            refine ⟨_, rfl, ?_⟩
                            refine W_run 1 [(17, .int .i64 r9680.1), (18, .int .i64 r9777)] w9778 (by kernel_rfl) ?_
                            refine W_nil ?_
                            refine N_then ?_
                            refine G_seq ?_
                            refine G_seq ?_
                            refine G_region ?_
                            refine W_run 2 [(17, .int .i64 r9680.1), (18, .int .i64 r9777), (141, .bool (decide (r9777 < 0)))] w9778 (by kernel_rfl) ?_
                            refine W_nil ?_
                            refine N_then ?_
                            rcases gx_bif hm with ⟨hc9781, hm⟩ | ⟨hc9781, hm⟩
                            · refine G_cond_t (b := (decide (r9777 < 0))) hc9781 (by kernel_rfl) ?_
                              refine G_seq ?_
                              refine G_region ?_
                              refine W_run 1 [(6, .bool false)] w9778 (by kernel_rfl) ?_
                              refine W_nil ?_
                              refine N_then ?_
                              refine G_ret ?_
                              refine N_then_ret ?_
                              obtain rfl := Option.some.inj hm
                              refine N_ret [.bool false] (RVs_cons (RV_tmp (by kernel_rfl)) RVs_nil) ?_
                              exact ⟨rfl, M9780.pick [] (by kernel_rfl)⟩
                            · refine G_cond_f (b := (decide (r9777 < 0))) hc9781 (by kernel_rfl) ?_
                              refine G_skip ?_
                              refine N_then ?_
                              refine G_seq ?_
                              refine G_seq ?_
                              refine G_region ?_
                              refine W_run 3 [(144, .bool (r9777 != r9680.1))] w9778 (by kernel_rfl) ?_
                              refine W_nil ?_
                              refine N_then ?_
                              rcases gx_bif hm with ⟨hc9782, hm⟩ | ⟨hc9782, hm⟩
                              · refine G_cond_t (b := (r9777 != r9680.1)) hc9782 (by kernel_rfl) ?_
                                refine G_seq ?_
                                refine G_region ?_
                                refine W_run 1 [(6, .bool false)] w9778 (by kernel_rfl) ?_
                                refine W_nil ?_
                                refine N_then ?_
                                refine G_ret ?_
                                refine N_then_ret ?_
                                obtain rfl := Option.some.inj hm
                                refine N_ret [.bool false] (RVs_cons (RV_tmp (by kernel_rfl)) RVs_nil) ?_
                                exact ⟨rfl, M9780.pick [] (by kernel_rfl)⟩
                              · refine G_cond_f (b := (r9777 != r9680.1)) hc9782 (by kernel_rfl) ?_
                                refine G_skip ?_
                                refine N_then ?_
                                refine G_seq ?_
                                refine G_region ?_
                                refine W_run 1 [(6, .bool true)] w9778 (by kernel_rfl) ?_
                                refine W_nil ?_
                                refine N_then ?_
                                refine G_ret ?_
                                obtain rfl := Option.some.inj hm
                                refine N_ret [.bool true] (RVs_cons (RV_tmp (by kernel_rfl)) RVs_nil) ?_
                                exact ⟨rfl, M9780.pick [] (by kernel_rfl)⟩
theorem c_l_vBig (w : World) (x9788 : List Int) (p9790 : Option Addr) (c9791 : Nat) (h9792 : rdS encU8 w x9788 p9790 c9791) {r : Bool} (hm : M.l_vBig x9788 = some r) :
    Calls Try.prog 43 #[.slice p9790 x9788.length c9791] w fun e w' => e = .returned (.bool r) ∧ Mem [] w w' [] := by
  unfold M.l_vBig at hm
  refine C_enter Try.func43 rfl (by kernel_rfl) ?_
  have M0 := Mem.refl [] w
  refine G_seq ?_
  refine G_region ?_
  refine W_run 1 [(0, .slice p9790 x9788.length c9791)] w (by kernel_rfl) ?_
  refine W_nil ?_
  refine N_then ?_
  refine G_seq ?_
  refine G_region ?_
  refine W_run 4 [(2, .bool (decide ((x9788.length : Int) > 65536)))] w (by kernel_rfl) ?_
  refine W_nil ?_
  refine N_then ?_
  refine G_ret ?_
  obtain rfl := Option.some.inj hm
  refine N_ret [.bool (decide ((x9788.length : Int) > 65536))] (RVs_cons (RV_tmp (by kernel_rfl)) RVs_nil) ?_
  exact ⟨rfl, M0.pick [] (by kernel_rfl)⟩
end Go.Proofs.Ytjbblcdajdpfkaa
