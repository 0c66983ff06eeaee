/- The walks, printed by program: whenever the model gives r, the call returns r. Part 2. -/
import Derived.Test.YtllhajkgkghhdaaM
import Derived.Test.YtllhajkgkghhdaaProg
import Derived.Test.YtllhajkgkghhdaaC1
set_option linter.unusedVariables false
set_option maxRecDepth 100000
set_option maxHeartbeats 4000000
namespace Go.Proofs.Ytllhajkgkghhdaa
open Go.Gx
theorem c_l_markSlotS (w : World) (x2150 : List Slot) (p2152 : Option Addr) (c2153 : Nat) (sg2154 : Seg) (ho2155 : ownS encSlot x2150 p2152 c2153 sg2154) (x2156 : Int) (hA : ∀ q ∈ List.flatten [sg2154], w.heap[q.1]? = some q.2) (hN : (idsOf [sg2154]).Nodup) {r : Int × (List Slot)} (hm : M.l_markSlotS x2150 x2156 = some r) :
    Calls Try.prog 32 #[.slice p2152 x2150.length c2153, .int .i64 x2156] w fun e w' => ∃ (sg2157 : Seg), e = .returned (.int .i64 r.1) ∧ ownS encSlot r.2 p2152 c2153 sg2157 ∧ r.2.length = x2150.length ∧ Mem (idsOf [sg2154]) w w' [sg2157] := by
  unfold M.l_markSlotS at hm
  refine C_enter Try.func32 rfl (by kernel_rfl) ?_
  have M0 := Mem.start' w [sg2154] hA hN
  refine G_seq ?_
  refine G_region ?_
  refine W_run 1 [(0, .slice p2152 x2150.length c2153), (1, .int .i64 x2156)] w (by kernel_rfl) ?_
  refine W_nil ?_
  refine N_then ?_
  refine G_seq ?_
  refine G_seq ?_
  refine G_region ?_
  refine W_run 1 [(0, .slice p2152 x2150.length c2153), (1, .int .i64 x2156), (5, .int .i64 0)] w (by kernel_rfl) ?_
  refine W_nil ?_
  refine N_then ?_
  obtain ⟨out2200, hw2201, hmo2202⟩ := gx_bind hm
  refine G_meet (fun a w' => ∃ (sg2207 : Seg), ownS encSlot out2200.2 p2152 c2153 sg2207 ∧ out2200.2.length = x2150.length ∧ Mem (idsOf [sg2154]) w w' [sg2207] ∧ Sat Try.f32.ntmps [(1, .int .i64 out2200.1)] a) ?_ ?_
  · refine G_block ?_
    refine G_while (σ := Int × Int × List Slot) (ρ := Int × List Slot) (fun s2193 a w' => ∃ (sg2203 : Seg), ownS encSlot s2193.2.2 p2152 c2153 sg2203 ∧ s2193.2.2.length = x2150.length ∧ Mem (idsOf [sg2154]) w w' [sg2203] ∧ Sat Try.f32.ntmps [(0, .slice p2152 s2193.2.2.length c2153), (1, .int .i64 s2193.1), (5, .int .i64 s2193.2.1)] a) hw2201 (fun a ha => ⟨sg2154, ho2155, rfl, M0.pick [0] (by kernel_rfl), ha.sub (by kernel_rfl)⟩) ?_
    clear hm
    intro s2193 x2194 hm hout2195 a2196 w2197 ⟨sg2203, ho2204, hl2205, M2198, hS2199⟩
    refine G_use hS2199 ?_
    refine G_seq ?_
    refine G_seq ?_
    refine G_region ?_
    refine W_run 4 [(0, .slice p2152 s2193.2.2.length c2153), (1, .int .i64 s2193.1), (5, .int .i64 s2193.2.1), (9, .bool (decide (s2193.2.1 < (s2193.2.2.length : Int))))] w2197 (by kernel_rfl) ?_
    refine W_nil ?_
    refine N_then ?_
    rcases gx_bif hm with ⟨hc2210, hm⟩ | ⟨hc2210, hm⟩
    · refine G_cond_t (b := (decide (s2193.2.1 < (s2193.2.2.length : Int)))) hc2210 (by kernel_rfl) ?_
      refine G_skip ?_
      refine N_then ?_
      refine G_seq ?_
      refine G_block ?_
      refine G_seq ?_
      refine G_region ?_
      refine W_run 3 [(0, .slice p2152 s2193.2.2.length c2153), (1, .int .i64 s2193.1), (5, .int .i64 s2193.2.1), (12, .slice p2152 s2193.2.2.length c2153), (13, .int .i64 s2193.2.1), (14, .int .i64 s2193.1)] w2197 (by kernel_rfl) ?_
      obtain ⟨y2211, hy2211, hm⟩ := gx_bind hm
      refine W_val (elemP p2152 (s2193.2.1.toNat * 3)) w2197 (by kernel_rfl) (E_index (E := encSlot) _ _ _ s2193.2.2.length c2153 .i64 s2193.2.1 3 (y := y2211) rfl (by kernel_rfl) (by kernel_rfl) (by kernel_rfl) (ho2204.rd M2198 0 (by kernel_rfl)) rfl hy2211) ?_
      refine W_val (elemP p2152 (s2193.2.1.toNat * 3 + 0)) w2197 (by kernel_rfl) (E_fieldE (E := encSlot) _ _ 0 (s2193.2.1.toNat * 3) 0 rfl (by kernel_rfl) (by kernel_rfl) (ho2204.rd M2198 0 (by kernel_rfl)) hy2211) ?_
      refine W_storeE (E := encSlot) _ _ _ false 1 s2193.2.1.toNat 0 (s2193.2.1.toNat * 3 + 0) y2211 (⟨s2193.1, y2211.Irq, y2211.Priority⟩ : Slot) (.int .i64 s2193.1) 0 M2198 ho2204 (by kernel_rfl) (by kernel_rfl) rfl (by kernel_rfl) (by kernel_rfl) (by kernel_rfl) (by kernel_rfl) (by kernel_rfl) (by kernel_rfl) (by kernel_rfl) (gxIdx_spec hy2211).2 rfl ?_
      intro w2212 sg2214 ho2215 M2213
      refine W_conv 0 (.slice p2152 s2193.2.2.length c2153) (.slice p2152 (s2193.2.2.set s2193.2.1.toNat (⟨s2193.1, y2211.Irq, y2211.Priority⟩ : Slot)).length c2153) (by kernel_rfl) (by rw [@List.length_set _ s2193.2.2 s2193.2.1.toNat (⟨s2193.1, y2211.Irq, y2211.Priority⟩ : Slot)]) ?_
      refine W_conv 12 (.slice p2152 s2193.2.2.length c2153) (.slice p2152 (s2193.2.2.set s2193.2.1.toNat (⟨s2193.1, y2211.Irq, y2211.Priority⟩ : Slot)).length c2153) (by kernel_rfl) (by rw [@List.length_set _ s2193.2.2 s2193.2.1.toNat (⟨s2193.1, y2211.Irq, y2211.Priority⟩ : Slot)]) ?_
      refine W_nil ?_
      refine N_then ?_
      refine G_seq ?_
      refine G_region ?_
      refine W_run 3 [(0, .slice p2152 (s2193.2.2.set s2193.2.1.toNat (⟨s2193.1, y2211.Irq, y2211.Priority⟩ : Slot)).length c2153), (1, .int .i64 (w64 (s2193.1 + 1))), (5, .int .i64 s2193.2.1)] w2212 (by kernel_rfl) ?_
      refine W_nil ?_
      refine N_then ?_
      refine G_seq ?_
      refine G_region ?_
      refine W_run 3 [(0, .slice p2152 (s2193.2.2.set s2193.2.1.toNat (⟨s2193.1, y2211.Irq, y2211.Priority⟩ : Slot)).length c2153), (1, .int .i64 (w64 (s2193.1 + 1))), (5, .int .i64 s2193.2.1), (19, .slice p2152 (s2193.2.2.set s2193.2.1.toNat (⟨s2193.1, y2211.Irq, y2211.Priority⟩ : Slot)).length c2153), (20, .int .i64 s2193.2.1), (21, .int .i64 (w64 (s2193.1 + 1)))] w2212 (by kernel_rfl) ?_
      obtain ⟨y2216, hy2216, hm⟩ := gx_bind hm
      refine W_val (elemP p2152 (s2193.2.1.toNat * 3)) w2212 (by kernel_rfl) (E_index (E := encSlot) _ _ _ (s2193.2.2.set s2193.2.1.toNat (⟨s2193.1, y2211.Irq, y2211.Priority⟩ : Slot)).length c2153 .i64 s2193.2.1 3 (y := y2216) rfl (by kernel_rfl) (by kernel_rfl) (by kernel_rfl) (ho2215.rd M2213 0 (by kernel_rfl)) rfl hy2216) ?_
      refine W_val (elemP p2152 (s2193.2.1.toNat * 3 + 1)) w2212 (by kernel_rfl) (E_fieldE (E := encSlot) _ _ 1 (s2193.2.1.toNat * 3) 1 rfl (by kernel_rfl) (by kernel_rfl) (ho2215.rd M2213 0 (by kernel_rfl)) hy2216) ?_
      refine W_storeE (E := encSlot) _ _ _ false 1 s2193.2.1.toNat 1 (s2193.2.1.toNat * 3 + 1) y2216 (⟨y2216.State, w64 (s2193.1 + 1), y2216.Priority⟩ : Slot) (.int .i64 (w64 (s2193.1 + 1))) 0 M2213 ho2215 (by kernel_rfl) (by kernel_rfl) rfl (by kernel_rfl) (by kernel_rfl) (by kernel_rfl) (by kernel_rfl) (by kernel_rfl) (by kernel_rfl) (by kernel_rfl) (gxIdx_spec hy2216).2 rfl ?_
      intro w2217 sg2219 ho2220 M2218
      refine W_conv 0 (.slice p2152 (s2193.2.2.set s2193.2.1.toNat (⟨s2193.1, y2211.Irq, y2211.Priority⟩ : Slot)).length c2153) (.slice p2152 ((s2193.2.2.set s2193.2.1.toNat (⟨s2193.1, y2211.Irq, y2211.Priority⟩ : Slot)).set s2193.2.1.toNat (⟨y2216.State, w64 (s2193.1 + 1), y2216.Priority⟩ : Slot)).length c2153) (by kernel_rfl) (by rw [@List.length_set _ (s2193.2.2.set s2193.2.1.toNat (⟨s2193.1, y2211.Irq, y2211.Priority⟩ : Slot)) s2193.2.1.toNat (⟨y2216.State, w64 (s2193.1 + 1), y2216.Priority⟩ : Slot)]) ?_
      refine W_conv 19 (.slice p2152 (s2193.2.2.set s2193.2.1.toNat (⟨s2193.1, y2211.Irq, y2211.Priority⟩ : Slot)).length c2153) (.slice p2152 ((s2193.2.2.set s2193.2.1.toNat (⟨s2193.1, y2211.Irq, y2211.Priority⟩ : Slot)).set s2193.2.1.toNat (⟨y2216.State, w64 (s2193.1 + 1), y2216.Priority⟩ : Slot)).length c2153) (by kernel_rfl) (by rw [@List.length_set _ (s2193.2.2.set s2193.2.1.toNat (⟨s2193.1, y2211.Irq, y2211.Priority⟩ : Slot)) s2193.2.1.toNat (⟨y2216.State, w64 (s2193.1 + 1), y2216.Priority⟩ : Slot)]) ?_
      refine W_nil ?_
      refine N_then ?_
      refine G_seq ?_
      refine G_region ?_
      refine W_run 3 [(0, .slice p2152 ((s2193.2.2.set s2193.2.1.toNat (⟨s2193.1, y2211.Irq, y2211.Priority⟩ : Slot)).set s2193.2.1.toNat (⟨y2216.State, w64 (s2193.1 + 1), y2216.Priority⟩ : Slot)).length c2153), (1, .int .i64 (w64 ((w64 (s2193.1 + 1)) + 1))), (5, .int .i64 s2193.2.1)] w2217 (by kernel_rfl) ?_
      refine W_nil ?_
      refine N_then ?_
      refine G_seq ?_
      refine G_region ?_
      refine W_run 3 [(0, .slice p2152 ((s2193.2.2.set s2193.2.1.toNat (⟨s2193.1, y2211.Irq, y2211.Priority⟩ : Slot)).set s2193.2.1.toNat (⟨y2216.State, w64 (s2193.1 + 1), y2216.Priority⟩ : Slot)).length c2153), (1, .int .i64 (w64 ((w64 (s2193.1 + 1)) + 1))), (5, .int .i64 s2193.2.1), (26, .slice p2152 ((s2193.2.2.set s2193.2.1.toNat (⟨s2193.1, y2211.Irq, y2211.Priority⟩ : Slot)).set s2193.2.1.toNat (⟨y2216.State, w64 (s2193.1 + 1), y2216.Priority⟩ : Slot)).length c2153), (27, .int .i64 s2193.2.1), (28, .int .i64 (w64 ((w64 (s2193.1 + 1)) + 1)))] w2217 (by kernel_rfl) ?_
      obtain ⟨y2221, hy2221, hm⟩ := gx_bind hm
      refine W_val (elemP p2152 (s2193.2.1.toNat * 3)) w2217 (by kernel_rfl) (E_index (E := encSlot) _ _ _ ((s2193.2.2.set s2193.2.1.toNat (⟨s2193.1, y2211.Irq, y2211.Priority⟩ : Slot)).set s2193.2.1.toNat (⟨y2216.State, w64 (s2193.1 + 1), y2216.Priority⟩ : Slot)).length c2153 .i64 s2193.2.1 3 (y := y2221) rfl (by kernel_rfl) (by kernel_rfl) (by kernel_rfl) (ho2220.rd M2218 0 (by kernel_rfl)) rfl hy2221) ?_
      refine W_val (elemP p2152 (s2193.2.1.toNat * 3 + 2)) w2217 (by kernel_rfl) (E_fieldE (E := encSlot) _ _ 2 (s2193.2.1.toNat * 3) 2 rfl (by kernel_rfl) (by kernel_rfl) (ho2220.rd M2218 0 (by kernel_rfl)) hy2221) ?_
      refine W_storeE (E := encSlot) _ _ _ false 1 s2193.2.1.toNat 2 (s2193.2.1.toNat * 3 + 2) y2221 (⟨y2221.State, y2221.Irq, w64 ((w64 (s2193.1 + 1)) + 1)⟩ : Slot) (.int .i64 (w64 ((w64 (s2193.1 + 1)) + 1))) 0 M2218 ho2220 (by kernel_rfl) (by kernel_rfl) rfl (by kernel_rfl) (by kernel_rfl) (by kernel_rfl) (by kernel_rfl) (by kernel_rfl) (by kernel_rfl) (by kernel_rfl) (gxIdx_spec hy2221).2 rfl ?_
      intro w2222 sg2224 ho2225 M2223
      refine W_conv 0 (.slice p2152 ((s2193.2.2.set s2193.2.1.toNat (⟨s2193.1, y2211.Irq, y2211.Priority⟩ : Slot)).set s2193.2.1.toNat (⟨y2216.State, w64 (s2193.1 + 1), y2216.Priority⟩ : Slot)).length c2153) (.slice p2152 (((s2193.2.2.set s2193.2.1.toNat (⟨s2193.1, y2211.Irq, y2211.Priority⟩ : Slot)).set s2193.2.1.toNat (⟨y2216.State, w64 (s2193.1 + 1), y2216.Priority⟩ : Slot)).set s2193.2.1.toNat (⟨y2221.State, y2221.Irq, w64 ((w64 (s2193.1 + 1)) + 1)⟩ : Slot)).length c2153) (by kernel_rfl) (by rw [@List.length_set _ ((s2193.2.2.set s2193.2.1.toNat (⟨s2193.1, y2211.Irq, y2211.Priority⟩ : Slot)).set s2193.2.1.toNat (⟨y2216.State, w64 (s2193.1 + 1), y2216.Priority⟩ : Slot)) s2193.2.1.toNat (⟨y2221.State, y2221.Irq, w64 ((w64 (s2193.1 + 1)) + 1)⟩ : Slot)]) ?_
      refine W_conv 26 (.slice p2152 ((s2193.2.2.set s2193.2.1.toNat (⟨s2193.1, y2211.Irq, y2211.Priority⟩ : Slot)).set s2193.2.1.toNat (⟨y2216.State, w64 (s2193.1 + 1), y2216.Priority⟩ : Slot)).length c2153) (.slice p2152 (((s2193.2.2.set s2193.2.1.toNat (⟨s2193.1, y2211.Irq, y2211.Priority⟩ : Slot)).set s2193.2.1.toNat (⟨y2216.State, w64 (s2193.1 + 1), y2216.Priority⟩ : Slot)).set s2193.2.1.toNat (⟨y2221.State, y2221.Irq, w64 ((w64 (s2193.1 + 1)) + 1)⟩ : Slot)).length c2153) (by kernel_rfl) (by rw [@List.length_set _ ((s2193.2.2.set s2193.2.1.toNat (⟨s2193.1, y2211.Irq, y2211.Priority⟩ : Slot)).set s2193.2.1.toNat (⟨y2216.State, w64 (s2193.1 + 1), y2216.Priority⟩ : Slot)) s2193.2.1.toNat (⟨y2221.State, y2221.Irq, w64 ((w64 (s2193.1 + 1)) + 1)⟩ : Slot)]) ?_
      refine W_nil ?_
      refine N_then ?_
      refine G_region ?_
      refine W_run 3 [(0, .slice p2152 (((s2193.2.2.set s2193.2.1.toNat (⟨s2193.1, y2211.Irq, y2211.Priority⟩ : Slot)).set s2193.2.1.toNat (⟨y2216.State, w64 (s2193.1 + 1), y2216.Priority⟩ : Slot)).set s2193.2.1.toNat (⟨y2221.State, y2221.Irq, w64 ((w64 (s2193.1 + 1)) + 1)⟩ : Slot)).length c2153), (1, .int .i64 (w64 ((w64 ((w64 (s2193.1 + 1)) + 1)) + 1))), (5, .int .i64 s2193.2.1)] w2222 (by kernel_rfl) ?_
      refine W_nil ?_
      refine N_block ?_
      refine N_then ?_
      refine G_region ?_
      refine W_run 3 [(0, .slice p2152 (((s2193.2.2.set s2193.2.1.toNat (⟨s2193.1, y2211.Irq, y2211.Priority⟩ : Slot)).set s2193.2.1.toNat (⟨y2216.State, w64 (s2193.1 + 1), y2216.Priority⟩ : Slot)).set s2193.2.1.toNat (⟨y2221.State, y2221.Irq, w64 ((w64 (s2193.1 + 1)) + 1)⟩ : Slot)).length c2153), (1, .int .i64 (w64 ((w64 ((w64 (s2193.1 + 1)) + 1)) + 1))), (5, .int .i64 (w64 (s2193.2.1 + 1)))] w2222 (by kernel_rfl) ?_
      refine W_nil ?_
      obtain rfl := Option.some.inj hm
      exact N_loop fun a ha => ⟨_, rfl, sg2224, ho2225, (List.length_set.trans (List.length_set.trans (List.length_set.trans hl2205))), M2223.pick [0] (by kernel_rfl), ha.sub (by kernel_rfl)⟩
    · refine G_cond_f (b := (decide (s2193.2.1 < (s2193.2.2.length : Int)))) hc2210 (by kernel_rfl) ?_
      refine G_exit ?_
      refine N_then_exit ?_
      refine N_then_exit ?_
      refine N_block_eq ?_
      obtain rfl := Option.some.inj hm
      obtain rfl := hout2195 _ rfl
      exact N_meet fun a ha => ⟨sg2203, ho2204, hl2205, M2198.pick [0] (by kernel_rfl), ha.sub (by kernel_rfl)⟩
  · intro a2226 w2227 ⟨sg2207, ho2208, hl2209, M2228, hS2229⟩
    refine N_use hS2229 ?_
    have hm := hmo2202
    refine N_then ?_
    refine G_seq ?_
    refine G_region ?_
    refine W_run 2 [(4, .int .i64 out2200.1)] w2227 (by kernel_rfl) ?_
    refine W_nil ?_
    refine N_then ?_
    refine G_ret ?_
    obtain rfl := Option.some.inj hm
    refine N_ret [.int .i64 out2200.1] (RVs_cons (RV_tmp (by kernel_rfl)) RVs_nil) ?_
    exact ⟨sg2207, rfl, ho2208, hl2209, M2228.pick [0] (by kernel_rfl)⟩
theorem c_l_markWaiterS (w : World) (x2281 : List Waiter) (p2283 : Option Addr) (c2284 : Nat) (sg2285 : Seg) (ho2286 : ownS encWaiter x2281 p2283 c2284 sg2285) (x2287 : Int) (hA : ∀ q ∈ List.flatten [sg2285], w.heap[q.1]? = some q.2) (hN : (idsOf [sg2285]).Nodup) {r : Int × (List Waiter)} (hm : M.l_markWaiterS x2281 x2287 = some r) :
    Calls Try.prog 33 #[.slice p2283 x2281.length c2284, .int .i64 x2287] w fun e w' => ∃ (sg2288 : Seg), e = .returned (.int .i64 r.1) ∧ ownS encWaiter r.2 p2283 c2284 sg2288 ∧ r.2.length = x2281.length ∧ Mem (idsOf [sg2285]) w w' [sg2288] := by
  unfold M.l_markWaiterS at hm
  refine C_enter Try.func33 rfl (by kernel_rfl) ?_
  have M0 := Mem.start' w [sg2285] hA hN
  refine G_seq ?_
  refine G_region ?_
  refine W_run 1 [(0, .slice p2283 x2281.length c2284), (1, .int .i64 x2287)] w (by kernel_rfl) ?_
  refine W_nil ?_
  refine N_then ?_
  refine G_seq ?_
  refine G_seq ?_
  refine G_region ?_
  refine W_run 1 [(0, .slice p2283 x2281.length c2284), (1, .int .i64 x2287), (5, .int .i64 0)] w (by kernel_rfl) ?_
  refine W_nil ?_
  refine N_then ?_
  obtain ⟨out2321, hw2322, hmo2323⟩ := gx_bind hm
  refine G_meet (fun a w' => ∃ (sg2328 : Seg), ownS encWaiter out2321.2 p2283 c2284 sg2328 ∧ out2321.2.length = x2281.length ∧ Mem (idsOf [sg2285]) w w' [sg2328] ∧ Sat Try.f33.ntmps [(1, .int .i64 out2321.1)] a) ?_ ?_
  · refine G_block ?_
    refine G_while (σ := Int × Int × List Waiter) (ρ := Int × List Waiter) (fun s2314 a w' => ∃ (sg2324 : Seg), ownS encWaiter s2314.2.2 p2283 c2284 sg2324 ∧ s2314.2.2.length = x2281.length ∧ Mem (idsOf [sg2285]) w w' [sg2324] ∧ Sat Try.f33.ntmps [(0, .slice p2283 s2314.2.2.length c2284), (1, .int .i64 s2314.1), (5, .int .i64 s2314.2.1)] a) hw2322 (fun a ha => ⟨sg2285, ho2286, rfl, M0.pick [0] (by kernel_rfl), ha.sub (by kernel_rfl)⟩) ?_
    clear hm
    intro s2314 x2315 hm hout2316 a2317 w2318 ⟨sg2324, ho2325, hl2326, M2319, hS2320⟩
    refine G_use hS2320 ?_
    refine G_seq ?_
    refine G_seq ?_
    refine G_region ?_
    refine W_run 4 [(0, .slice p2283 s2314.2.2.length c2284), (1, .int .i64 s2314.1), (5, .int .i64 s2314.2.1), (9, .bool (decide (s2314.2.1 < (s2314.2.2.length : Int))))] w2318 (by kernel_rfl) ?_
    refine W_nil ?_
    refine N_then ?_
    rcases gx_bif hm with ⟨hc2331, hm⟩ | ⟨hc2331, hm⟩
    · refine G_cond_t (b := (decide (s2314.2.1 < (s2314.2.2.length : Int)))) hc2331 (by kernel_rfl) ?_
      refine G_skip ?_
      refine N_then ?_
      refine G_seq ?_
      refine G_block ?_
      refine G_seq ?_
      refine G_region ?_
      refine W_run 3 [(0, .slice p2283 s2314.2.2.length c2284), (1, .int .i64 s2314.1), (5, .int .i64 s2314.2.1), (12, .slice p2283 s2314.2.2.length c2284), (13, .int .i64 s2314.2.1), (14, .int .i64 s2314.1)] w2318 (by kernel_rfl) ?_
      obtain ⟨y2332, hy2332, hm⟩ := gx_bind hm
      refine W_val (elemP p2283 (s2314.2.1.toNat * 2)) w2318 (by kernel_rfl) (E_index (E := encWaiter) _ _ _ s2314.2.2.length c2284 .i64 s2314.2.1 2 (y := y2332) rfl (by kernel_rfl) (by kernel_rfl) (by kernel_rfl) (ho2325.rd M2319 0 (by kernel_rfl)) rfl hy2332) ?_
      refine W_val (elemP p2283 (s2314.2.1.toNat * 2 + 0)) w2318 (by kernel_rfl) (E_fieldE (E := encWaiter) _ _ 0 (s2314.2.1.toNat * 2) 0 rfl (by kernel_rfl) (by kernel_rfl) (ho2325.rd M2319 0 (by kernel_rfl)) hy2332) ?_
      refine W_storeE (E := encWaiter) _ _ _ false 1 s2314.2.1.toNat 0 (s2314.2.1.toNat * 2 + 0) y2332 (⟨s2314.1, y2332.Priority⟩ : Waiter) (.int .i64 s2314.1) 0 M2319 ho2325 (by kernel_rfl) (by kernel_rfl) rfl (by kernel_rfl) (by kernel_rfl) (by kernel_rfl) (by kernel_rfl) (by kernel_rfl) (by kernel_rfl) (by kernel_rfl) (gxIdx_spec hy2332).2 rfl ?_
      intro w2333 sg2335 ho2336 M2334
      refine W_conv 0 (.slice p2283 s2314.2.2.length c2284) (.slice p2283 (s2314.2.2.set s2314.2.1.toNat (⟨s2314.1, y2332.Priority⟩ : Waiter)).length c2284) (by kernel_rfl) (by rw [@List.length_set _ s2314.2.2 s2314.2.1.toNat (⟨s2314.1, y2332.Priority⟩ : Waiter)]) ?_
      refine W_conv 12 (.slice p2283 s2314.2.2.length c2284) (.slice p2283 (s2314.2.2.set s2314.2.1.toNat (⟨s2314.1, y2332.Priority⟩ : Waiter)).length c2284) (by kernel_rfl) (by rw [@List.length_set _ s2314.2.2 s2314.2.1.toNat (⟨s2314.1, y2332.Priority⟩ : Waiter)]) ?_
      refine W_nil ?_
      refine N_then ?_
      refine G_seq ?_
      refine G_region ?_
      refine W_run 3 [(0, .slice p2283 (s2314.2.2.set s2314.2.1.toNat (⟨s2314.1, y2332.Priority⟩ : Waiter)).length c2284), (1, .int .i64 (w64 (s2314.1 + 1))), (5, .int .i64 s2314.2.1)] w2333 (by kernel_rfl) ?_
      refine W_nil ?_
      refine N_then ?_
      refine G_seq ?_
      refine G_region ?_
      refine W_run 3 [(0, .slice p2283 (s2314.2.2.set s2314.2.1.toNat (⟨s2314.1, y2332.Priority⟩ : Waiter)).length c2284), (1, .int .i64 (w64 (s2314.1 + 1))), (5, .int .i64 s2314.2.1), (19, .slice p2283 (s2314.2.2.set s2314.2.1.toNat (⟨s2314.1, y2332.Priority⟩ : Waiter)).length c2284), (20, .int .i64 s2314.2.1), (21, .int .i64 (w64 (s2314.1 + 1)))] w2333 (by kernel_rfl) ?_
      obtain ⟨y2337, hy2337, hm⟩ := gx_bind hm
      refine W_val (elemP p2283 (s2314.2.1.toNat * 2)) w2333 (by kernel_rfl) (E_index (E := encWaiter) _ _ _ (s2314.2.2.set s2314.2.1.toNat (⟨s2314.1, y2332.Priority⟩ : Waiter)).length c2284 .i64 s2314.2.1 2 (y := y2337) rfl (by kernel_rfl) (by kernel_rfl) (by kernel_rfl) (ho2336.rd M2334 0 (by kernel_rfl)) rfl hy2337) ?_
      refine W_val (elemP p2283 (s2314.2.1.toNat * 2 + 1)) w2333 (by kernel_rfl) (E_fieldE (E := encWaiter) _ _ 1 (s2314.2.1.toNat * 2) 1 rfl (by kernel_rfl) (by kernel_rfl) (ho2336.rd M2334 0 (by kernel_rfl)) hy2337) ?_
      refine W_storeE (E := encWaiter) _ _ _ false 1 s2314.2.1.toNat 1 (s2314.2.1.toNat * 2 + 1) y2337 (⟨y2337.Irq, w64 (s2314.1 + 1)⟩ : Waiter) (.int .i64 (w64 (s2314.1 + 1))) 0 M2334 ho2336 (by kernel_rfl) (by kernel_rfl) rfl (by kernel_rfl) (by kernel_rfl) (by kernel_rfl) (by kernel_rfl) (by kernel_rfl) (by kernel_rfl) (by kernel_rfl) (gxIdx_spec hy2337).2 rfl ?_
      intro w2338 sg2340 ho2341 M2339
      refine W_conv 0 (.slice p2283 (s2314.2.2.set s2314.2.1.toNat (⟨s2314.1, y2332.Priority⟩ : Waiter)).length c2284) (.slice p2283 ((s2314.2.2.set s2314.2.1.toNat (⟨s2314.1, y2332.Priority⟩ : Waiter)).set s2314.2.1.toNat (⟨y2337.Irq, w64 (s2314.1 + 1)⟩ : Waiter)).length c2284) (by kernel_rfl) (by rw [@List.length_set _ (s2314.2.2.set s2314.2.1.toNat (⟨s2314.1, y2332.Priority⟩ : Waiter)) s2314.2.1.toNat (⟨y2337.Irq, w64 (s2314.1 + 1)⟩ : Waiter)]) ?_
      refine W_conv 19 (.slice p2283 (s2314.2.2.set s2314.2.1.toNat (⟨s2314.1, y2332.Priority⟩ : Waiter)).length c2284) (.slice p2283 ((s2314.2.2.set s2314.2.1.toNat (⟨s2314.1, y2332.Priority⟩ : Waiter)).set s2314.2.1.toNat (⟨y2337.Irq, w64 (s2314.1 + 1)⟩ : Waiter)).length c2284) (by kernel_rfl) (by rw [@List.length_set _ (s2314.2.2.set s2314.2.1.toNat (⟨s2314.1, y2332.Priority⟩ : Waiter)) s2314.2.1.toNat (⟨y2337.Irq, w64 (s2314.1 + 1)⟩ : Waiter)]) ?_
      refine W_nil ?_
      refine N_then ?_
      refine G_region ?_
      refine W_run 3 [(0, .slice p2283 ((s2314.2.2.set s2314.2.1.toNat (⟨s2314.1, y2332.Priority⟩ : Waiter)).set s2314.2.1.toNat (⟨y2337.Irq, w64 (s2314.1 + 1)⟩ : Waiter)).length c2284), (1, .int .i64 (w64 ((w64 (s2314.1 + 1)) + 1))), (5, .int .i64 s2314.2.1)] w2338 (by kernel_rfl) ?_
      refine W_nil ?_
      refine N_block ?_
      refine N_then ?_
      refine G_region ?_
      refine W_run 3 [(0, .slice p2283 ((s2314.2.2.set s2314.2.1.toNat (⟨s2314.1, y2332.Priority⟩ : Waiter)).set s2314.2.1.toNat (⟨y2337.Irq, w64 (s2314.1 + 1)⟩ : Waiter)).length c2284), (1, .int .i64 (w64 ((w64 (s2314.1 + 1)) + 1))), (5, .int .i64 (w64 (s2314.2.1 + 1)))] w2338 (by kernel_rfl) ?_
      refine W_nil ?_
      obtain rfl := Option.some.inj hm
      exact N_loop fun a ha => ⟨_, rfl, sg2340, ho2341, (List.length_set.trans (List.length_set.trans hl2326)), M2339.pick [0] (by kernel_rfl), ha.sub (by kernel_rfl)⟩
    · refine G_cond_f (b := (decide (s2314.2.1 < (s2314.2.2.length : Int)))) hc2331 (by kernel_rfl) ?_
      refine G_exit ?_
      refine N_then_exit ?_
      refine N_then_exit ?_
      refine N_block_eq ?_
      obtain rfl := Option.some.inj hm
      obtain rfl := hout2316 _ rfl
      exact N_meet fun a ha => ⟨sg2324, ho2325, hl2326, M2319.pick [0] (by kernel_rfl), ha.sub (by kernel_rfl)⟩
  · intro a2342 w2343 ⟨sg2328, ho2329, hl2330, M2344, hS2345⟩
    refine N_use hS2345 ?_
    have hm := hmo2323
    refine N_then ?_
    refine G_seq ?_
    refine G_region ?_
    refine W_run 2 [(4, .int .i64 out2321.1)] w2343 (by kernel_rfl) ?_
    refine W_nil ?_
    refine N_then ?_
    refine G_ret ?_
    obtain rfl := Option.some.inj hm
    refine N_ret [.int .i64 out2321.1] (RVs_cons (RV_tmp (by kernel_rfl)) RVs_nil) ?_
    exact ⟨sg2328, rfl, ho2329, hl2330, M2344.pick [0] (by kernel_rfl)⟩
theorem c_l_markInterfaceS (w : World) (x2013 : List Interface) (p2015 : Option Addr) (c2016 : Nat) (sg2017 : Seg) (sg2018 : Seg) (ho2019 : ownD deepInterface x2013 p2015 c2016 sg2017 sg2018) (x2020 : Int) (hA : ∀ q ∈ List.flatten [sg2017, sg2018], w.heap[q.1]? = some q.2) (hN : (idsOf [sg2017, sg2018]).Nodup) {r : Int × (List Interface)} (hm : M.l_markInterfaceS x2013 x2020 = some r) :
    Calls Try.prog 20 #[.slice p2015 x2013.length c2016, .int .i64 x2020] w fun e w' => ∃ (sg2021 : Seg) (sg2022 : Seg), e = .returned (.int .i64 r.1) ∧ ownD deepInterface r.2 p2015 c2016 sg2021 sg2022 ∧ r.2.length = x2013.length ∧ Mem (idsOf [sg2017, sg2018]) w w' [sg2021, sg2022] := by
  unfold M.l_markInterfaceS at hm
  refine C_enter Try.func20 rfl (by kernel_rfl) ?_
  have M0 := Mem.start' w [sg2017, sg2018] hA hN
  refine G_seq ?_
  refine G_region ?_
  refine W_run 1 [(0, .slice p2015 x2013.length c2016), (1, .int .i64 x2020)] w (by kernel_rfl) ?_
  refine W_nil ?_
  refine N_then ?_
  refine G_seq ?_
  refine G_seq ?_
  refine G_region ?_
  refine W_run 1 [(0, .slice p2015 x2013.length c2016), (1, .int .i64 x2020), (5, .int .i64 0)] w (by kernel_rfl) ?_
  refine W_nil ?_
  refine N_then ?_
  obtain ⟨out2567, hw2568, hmo2569⟩ := gx_bind hm
  refine G_meet (fun a w' => ∃ (sg2575 : Seg), ∃ (sg2576 : Seg), ownD deepInterface out2567.2 p2015 c2016 sg2575 sg2576 ∧ out2567.2.length = x2013.length ∧ Mem (idsOf [sg2017, sg2018]) w w' [sg2575, sg2576] ∧ Sat Try.f20.ntmps [(1, .int .i64 out2567.1)] a) ?_ ?_
  · refine G_block ?_
    refine G_while (σ := Int × Int × List Interface) (ρ := Int × List Interface) (fun s2560 a w' => ∃ (sg2570 : Seg), ∃ (sg2571 : Seg), ownD deepInterface s2560.2.2 p2015 c2016 sg2570 sg2571 ∧ s2560.2.2.length = x2013.length ∧ Mem (idsOf [sg2017, sg2018]) w w' [sg2570, sg2571] ∧ Sat Try.f20.ntmps [(0, .slice p2015 s2560.2.2.length c2016), (1, .int .i64 s2560.1), (5, .int .i64 s2560.2.1)] a) hw2568 (fun a ha => ⟨sg2017, sg2018, ho2019, rfl, M0.pick [0, 1] (by kernel_rfl), ha.sub (by kernel_rfl)⟩) ?_
    clear hm
    intro s2560 x2561 hm hout2562 a2563 w2564 ⟨sg2570, sg2571, ho2572, hl2573, M2565, hS2566⟩
    refine G_use hS2566 ?_
    refine G_seq ?_
    refine G_seq ?_
    refine G_region ?_
    refine W_run 4 [(0, .slice p2015 s2560.2.2.length c2016), (1, .int .i64 s2560.1), (5, .int .i64 s2560.2.1), (9, .bool (decide (s2560.2.1 < (s2560.2.2.length : Int))))] w2564 (by kernel_rfl) ?_
    refine W_nil ?_
    refine N_then ?_
    rcases gx_bif hm with ⟨hc2579, hm⟩ | ⟨hc2579, hm⟩
    · refine G_cond_t (b := (decide (s2560.2.1 < (s2560.2.2.length : Int)))) hc2579 (by kernel_rfl) ?_
      refine G_skip ?_
      refine N_then ?_
      refine G_seq ?_
      refine G_block ?_
      refine G_seq ?_
      refine G_region ?_
      refine W_run 3 [(0, .slice p2015 s2560.2.2.length c2016), (1, .int .i64 s2560.1), (5, .int .i64 s2560.2.1), (12, .slice p2015 s2560.2.2.length c2016), (13, .int .i64 s2560.2.1), (14, .int .i64 s2560.1)] w2564 (by kernel_rfl) ?_
      obtain ⟨y2580, hy2580, hm⟩ := gx_bind hm
      obtain ⟨zs2581, hz2582, hr2583, hi2584⟩ := id ho2572
      obtain ⟨g2585, hg2586⟩ := gxIdx_fst hz2582 hy2580
      refine W_val (elemP p2015 (s2560.2.1.toNat * 4)) w2564 (by kernel_rfl) (E_index (E := deepInterface.E) _ _ _ s2560.2.2.length c2016 .i64 s2560.2.1 4 (y := (y2580, g2585)) rfl (by kernel_rfl) (by kernel_rfl) (by kernel_rfl) (hr2583.rd M2565 0 (by kernel_rfl)) (len_fst hz2582) hg2586) ?_
      refine W_val (elemP p2015 (s2560.2.1.toNat * 4 + 0)) w2564 (by kernel_rfl) (E_fieldE (E := deepInterface.E) _ _ 0 (s2560.2.1.toNat * 4) 0 rfl (by kernel_rfl) (by kernel_rfl) (hr2583.rd M2565 0 (by kernel_rfl)) hg2586) ?_
      refine W_storeE (E := deepInterface.E) _ _ _ false 1 s2560.2.1.toNat 0 (s2560.2.1.toNat * 4 + 0) (y2580, g2585) ((⟨s2560.1, y2580.Stack, (⟨y2580.Queue.Slots, y2580.Queue.Waiting⟩ : Queue)⟩ : Interface), g2585) (.int .i64 s2560.1) 0 M2565 hr2583 (by kernel_rfl) (by kernel_rfl) rfl (by kernel_rfl) (by kernel_rfl) (by kernel_rfl) (by kernel_rfl) (by kernel_rfl) (by kernel_rfl) (by kernel_rfl) (gxIdx_spec hg2586).2 rfl ?_
      intro w2590 sg2592 ho2593 M2591
      have ho2594 : ownD deepInterface (s2560.2.2.set s2560.2.1.toNat (⟨s2560.1, y2580.Stack, (⟨y2580.Queue.Slots, y2580.Queue.Waiting⟩ : Queue)⟩ : Interface)) p2015 c2016 sg2592 sg2571 := ⟨_, set_fst hz2582 s2560.2.1.toNat ((⟨s2560.1, y2580.Stack, (⟨y2580.Queue.Slots, y2580.Queue.Waiting⟩ : Queue)⟩ : Interface), g2585), ho2593, (by rw [flatMap_setSame (gxIdx_spec hg2586).2 (by kernel_rfl)]; exact hi2584)⟩
      refine W_conv 0 (.slice p2015 s2560.2.2.length c2016) (.slice p2015 (s2560.2.2.set s2560.2.1.toNat (⟨s2560.1, y2580.Stack, (⟨y2580.Queue.Slots, y2580.Queue.Waiting⟩ : Queue)⟩ : Interface)).length c2016) (by kernel_rfl) (by rw [@List.length_set _ s2560.2.2 s2560.2.1.toNat (⟨s2560.1, y2580.Stack, (⟨y2580.Queue.Slots, y2580.Queue.Waiting⟩ : Queue)⟩ : Interface)]) ?_
      refine W_conv 12 (.slice p2015 s2560.2.2.length c2016) (.slice p2015 (s2560.2.2.set s2560.2.1.toNat (⟨s2560.1, y2580.Stack, (⟨y2580.Queue.Slots, y2580.Queue.Waiting⟩ : Queue)⟩ : Interface)).length c2016) (by kernel_rfl) (by rw [@List.length_set _ s2560.2.2 s2560.2.1.toNat (⟨s2560.1, y2580.Stack, (⟨y2580.Queue.Slots, y2580.Queue.Waiting⟩ : Queue)⟩ : Interface)]) ?_
      refine W_nil ?_
      refine N_then ?_
      refine G_seq ?_
      refine G_region ?_
      refine W_run 3 [(0, .slice p2015 (s2560.2.2.set s2560.2.1.toNat (⟨s2560.1, y2580.Stack, (⟨y2580.Queue.Slots, y2580.Queue.Waiting⟩ : Queue)⟩ : Interface)).length c2016), (1, .int .i64 (w64 (s2560.1 + 1))), (5, .int .i64 s2560.2.1)] w2590 (by kernel_rfl) ?_
      refine W_nil ?_
      refine N_then ?_
      refine G_seq ?_
      refine G_region ?_
      refine W_run 2 [(0, .slice p2015 (s2560.2.2.set s2560.2.1.toNat (⟨s2560.1, y2580.Stack, (⟨y2580.Queue.Slots, y2580.Queue.Waiting⟩ : Queue)⟩ : Interface)).length c2016), (1, .int .i64 (w64 (s2560.1 + 1))), (5, .int .i64 s2560.2.1), (19, .slice p2015 (s2560.2.2.set s2560.2.1.toNat (⟨s2560.1, y2580.Stack, (⟨y2580.Queue.Slots, y2580.Queue.Waiting⟩ : Queue)⟩ : Interface)).length c2016), (20, .int .i64 s2560.2.1)] w2590 (by kernel_rfl) ?_
      obtain ⟨y2595, hy2595, hm⟩ := gx_bind hm
      obtain ⟨zs2596, hz2597, hr2598, hi2599⟩ := id ho2594
      obtain ⟨g2600, hg2601⟩ := gxIdx_fst hz2597 hy2595
      refine W_val (elemP p2015 (s2560.2.1.toNat * 4)) w2590 (by kernel_rfl) (E_index (E := deepInterface.E) _ _ _ (s2560.2.2.set s2560.2.1.toNat (⟨s2560.1, y2580.Stack, (⟨y2580.Queue.Slots, y2580.Queue.Waiting⟩ : Queue)⟩ : Interface)).length c2016 .i64 s2560.2.1 4 (y := (y2595, g2600)) rfl (by kernel_rfl) (by kernel_rfl) (by kernel_rfl) (hr2598.rd M2591 0 (by kernel_rfl)) (len_fst hz2597) hg2601) ?_
      refine W_val (elemP p2015 (s2560.2.1.toNat * 4 + 1)) w2590 (by kernel_rfl) (E_fieldE (E := deepInterface.E) _ _ 1 (s2560.2.1.toNat * 4) 1 rfl (by kernel_rfl) (by kernel_rfl) (hr2598.rd M2591 0 (by kernel_rfl)) hg2601) ?_
      refine W_val (.slice ((g2600 0).1) y2595.Stack.length ((g2600 0).2)) w2590 (by kernel_rfl) (E_loadE (E := deepInterface.E) _ _ false 1 s2560.2.1 1 (s2560.2.1.toNat * 4 + 1) (y2595, g2600) (.slice ((g2600 0).1) y2595.Stack.length ((g2600 0).2)) rfl (by kernel_rfl) (by kernel_rfl) (by kernel_rfl) (hr2598.rd M2591 0 (by kernel_rfl)) hg2601 rfl) ?_
      refine W_run 1 [(0, .slice p2015 (s2560.2.2.set s2560.2.1.toNat (⟨s2560.1, y2580.Stack, (⟨y2580.Queue.Slots, y2580.Queue.Waiting⟩ : Queue)⟩ : Interface)).length c2016), (1, .int .i64 (w64 (s2560.1 + 1))), (5, .int .i64 s2560.2.1), (23, .slice ((g2600 0).1) y2595.Stack.length ((g2600 0).2)), (24, .int .i64 (w64 (s2560.1 + 1)))] w2590 (by kernel_rfl) ?_
      obtain ⟨sa2606, sb2607, sc2608, hs2609, hb2610, hp2611⟩ := hi2599.lens (gxIdx_spec hg2601).2
      have M2612 := M2591.cut 1 (sa := sa2606) (sb := sb2607) (sc := sc2608) hs2609 (by kernel_rfl)
      obtain ⟨u2613, r2614, hu2615, ho2616, hr2617⟩ := hb2610
      have M2618 := M2612.cut 2 (sa := []) (sb := u2613) (sc := r2614) hu2615 (by kernel_rfl)
      obtain ⟨u2620, r2621, hu2622, ho2623, hr2624⟩ := hr2617
      have M2625 := M2618.cut 5 (sa := []) (sb := u2620) (sc := r2621) hu2622 (by kernel_rfl)
      obtain ⟨u2627, r2628, hu2629, ho2630, hr2631⟩ := hr2624
      have M2632 := M2625.cut 7 (sa := []) (sb := u2627) (sc := r2628) hu2629 (by kernel_rfl)
      obtain ⟨r2605, hr2605, hm⟩ := gx_bind hm
      refine W_call 31 #[.slice ((g2600 0).1) y2595.Stack.length ((g2600 0).2), .int .i64 (w64 (s2560.1 + 1))] (by kernel_rfl) (by kernel_rfl) ?_
      refine (c_l_markIntS w2590 y2595.Stack ((g2600 0).1) ((g2600 0).2) u2613 ho2616 (w64 (s2560.1 + 1)) (M2632.hasPick [4]) (M2632.nodupPick [4] (by kernel_rfl)) hr2605).mono ?_
      rintro e_ w2637 ⟨sg2634, rfl, ho2635, hl2636, K2638⟩
      have M2639 := M2632.callF' [4] [0, 1, 2, 3, 5, 6, 7, 8, 9] (by kernel_rfl) K2638
      refine ⟨_, rfl, ?_⟩
      refine W_conv 23 (.slice ((g2600 0).1) y2595.Stack.length ((g2600 0).2)) (.slice ((g2600 0).1) r2605.2.length ((g2600 0).2)) (by kernel_rfl) (by first | rw [hl2636] | rw [hl2636]) ?_
      have M2643 : Mem (idsOf [sg2017, sg2018]) w w2637 [sg2592, [], [], [], sa2606, sg2634, u2620, u2627, sc2608] := M2639.pick [0, 2, 4, 6, 1, 9, 5, 7, 3] (by kernel_rfl)
      have M2644 : Mem (idsOf [sg2017, sg2018]) w w2637 [sg2592, [], [], [], (sa2606 ++ ((sg2634 ++ (u2620 ++ (u2627 ++ []))) ++ sc2608))] := M2643.regroup (by simp)
      have ho2645 : ownD deepInterface ((s2560.2.2.set s2560.2.1.toNat (⟨s2560.1, y2580.Stack, (⟨y2580.Queue.Slots, y2580.Queue.Waiting⟩ : Queue)⟩ : Interface)).set s2560.2.1.toNat (⟨y2595.Mask, r2605.2, (⟨y2595.Queue.Slots, y2595.Queue.Waiting⟩ : Queue)⟩ : Interface)) p2015 c2016 sg2592 (sa2606 ++ ((sg2634 ++ (u2620 ++ (u2627 ++ []))) ++ sc2608)) := ⟨_, set_fst hz2597 s2560.2.1.toNat ((⟨y2595.Mask, r2605.2, (⟨y2595.Queue.Slots, y2595.Queue.Waiting⟩ : Queue)⟩ : Interface), g2600), (hr2598.setSame (z' := ((⟨y2595.Mask, r2605.2, (⟨y2595.Queue.Slots, y2595.Queue.Waiting⟩ : Queue)⟩ : Interface), g2600)) (gxIdx_spec hg2601).2 (by show ([.int .i64 y2595.Mask, .slice ((g2600 0).1) r2605.2.length ((g2600 0).2), .slice ((g2600 1).1) y2595.Queue.Slots.length ((g2600 1).2), .slice ((g2600 2).1) y2595.Queue.Waiting.length ((g2600 2).2)] : List Value) = [.int .i64 y2595.Mask, .slice ((g2600 0).1) y2595.Stack.length ((g2600 0).2), .slice ((g2600 1).1) y2595.Queue.Slots.length ((g2600 1).2), .slice ((g2600 2).1) y2595.Queue.Waiting.length ((g2600 2).2)]; rw [hl2636])), hp2611 ((⟨y2595.Mask, r2605.2, (⟨y2595.Queue.Slots, y2595.Queue.Waiting⟩ : Queue)⟩ : Interface), g2600) _ (ownI_cons (i := ⟨Int, encI, _, _, _⟩) ho2635 (ownI_cons (i := ⟨Slot, encSlot, _, _, _⟩) ho2623 (ownI_cons (i := ⟨Waiter, encWaiter, _, _, _⟩) ho2630 ownI_nil)))⟩
      refine W_conv 0 (.slice p2015 (s2560.2.2.set s2560.2.1.toNat (⟨s2560.1, y2580.Stack, (⟨y2580.Queue.Slots, y2580.Queue.Waiting⟩ : Queue)⟩ : Interface)).length c2016) (.slice p2015 ((s2560.2.2.set s2560.2.1.toNat (⟨s2560.1, y2580.Stack, (⟨y2580.Queue.Slots, y2580.Queue.Waiting⟩ : Queue)⟩ : Interface)).set s2560.2.1.toNat (⟨y2595.Mask, r2605.2, (⟨y2595.Queue.Slots, y2595.Queue.Waiting⟩ : Queue)⟩ : Interface)).length c2016) (by kernel_rfl) (by rw [@List.length_set _ (s2560.2.2.set s2560.2.1.toNat (⟨s2560.1, y2580.Stack, (⟨y2580.Queue.Slots, y2580.Queue.Waiting⟩ : Queue)⟩ : Interface)) s2560.2.1.toNat (⟨y2595.Mask, r2605.2, (⟨y2595.Queue.Slots, y2595.Queue.Waiting⟩ : Queue)⟩ : Interface)]) ?_
      refine W_run 1 [(0, .slice p2015 ((s2560.2.2.set s2560.2.1.toNat (⟨s2560.1, y2580.Stack, (⟨y2580.Queue.Slots, y2580.Queue.Waiting⟩ : Queue)⟩ : Interface)).set s2560.2.1.toNat (⟨y2595.Mask, r2605.2, (⟨y2595.Queue.Slots, y2595.Queue.Waiting⟩ : Queue)⟩ : Interface)).length c2016), (1, .int .i64 r2605.1), (5, .int .i64 s2560.2.1)] w2637 (by kernel_rfl) ?_
      refine W_nil ?_
      refine N_then ?_
      refine G_seq ?_
      refine G_region ?_
      refine W_run 2 [(0, .slice p2015 ((s2560.2.2.set s2560.2.1.toNat (⟨s2560.1, y2580.Stack, (⟨y2580.Queue.Slots, y2580.Queue.Waiting⟩ : Queue)⟩ : Interface)).set s2560.2.1.toNat (⟨y2595.Mask, r2605.2, (⟨y2595.Queue.Slots, y2595.Queue.Waiting⟩ : Queue)⟩ : Interface)).length c2016), (1, .int .i64 r2605.1), (5, .int .i64 s2560.2.1), (26, .slice p2015 ((s2560.2.2.set s2560.2.1.toNat (⟨s2560.1, y2580.Stack, (⟨y2580.Queue.Slots, y2580.Queue.Waiting⟩ : Queue)⟩ : Interface)).set s2560.2.1.toNat (⟨y2595.Mask, r2605.2, (⟨y2595.Queue.Slots, y2595.Queue.Waiting⟩ : Queue)⟩ : Interface)).length c2016), (27, .int .i64 s2560.2.1)] w2637 (by kernel_rfl) ?_
      obtain ⟨y2646, hy2646, hm⟩ := gx_bind hm
      obtain ⟨zs2647, hz2648, hr2649, hi2650⟩ := id ho2645
      obtain ⟨g2651, hg2652⟩ := gxIdx_fst hz2648 hy2646
      refine W_val (elemP p2015 (s2560.2.1.toNat * 4)) w2637 (by kernel_rfl) (E_index (E := deepInterface.E) _ _ _ ((s2560.2.2.set s2560.2.1.toNat (⟨s2560.1, y2580.Stack, (⟨y2580.Queue.Slots, y2580.Queue.Waiting⟩ : Queue)⟩ : Interface)).set s2560.2.1.toNat (⟨y2595.Mask, r2605.2, (⟨y2595.Queue.Slots, y2595.Queue.Waiting⟩ : Queue)⟩ : Interface)).length c2016 .i64 s2560.2.1 4 (y := (y2646, g2651)) rfl (by kernel_rfl) (by kernel_rfl) (by kernel_rfl) (hr2649.rd M2644 0 (by kernel_rfl)) (len_fst hz2648) hg2652) ?_
      refine W_val (elemP p2015 (s2560.2.1.toNat * 4 + 2)) w2637 (by kernel_rfl) (E_fieldE (E := deepInterface.E) _ _ 2 (s2560.2.1.toNat * 4) 2 rfl (by kernel_rfl) (by kernel_rfl) (hr2649.rd M2644 0 (by kernel_rfl)) hg2652) ?_
      refine W_val (elemP p2015 (s2560.2.1.toNat * 4 + 2 + 0)) w2637 (by kernel_rfl) (E_fieldE (E := deepInterface.E) _ _ 0 (s2560.2.1.toNat * 4 + 2) 0 rfl (by kernel_rfl) (by kernel_rfl) (hr2649.rd M2644 0 (by kernel_rfl)) hg2652) ?_
      refine W_val (.slice ((g2651 1).1) y2646.Queue.Slots.length ((g2651 1).2)) w2637 (by kernel_rfl) (E_loadE (E := deepInterface.E) _ _ false 1 s2560.2.1 2 (s2560.2.1.toNat * 4 + 2 + 0) (y2646, g2651) (.slice ((g2651 1).1) y2646.Queue.Slots.length ((g2651 1).2)) rfl (by kernel_rfl) (by kernel_rfl) (by kernel_rfl) (hr2649.rd M2644 0 (by kernel_rfl)) hg2652 rfl) ?_
      refine W_run 1 [(0, .slice p2015 ((s2560.2.2.set s2560.2.1.toNat (⟨s2560.1, y2580.Stack, (⟨y2580.Queue.Slots, y2580.Queue.Waiting⟩ : Queue)⟩ : Interface)).set s2560.2.1.toNat (⟨y2595.Mask, r2605.2, (⟨y2595.Queue.Slots, y2595.Queue.Waiting⟩ : Queue)⟩ : Interface)).length c2016), (1, .int .i64 r2605.1), (5, .int .i64 s2560.2.1), (31, .slice ((g2651 1).1) y2646.Queue.Slots.length ((g2651 1).2)), (32, .int .i64 r2605.1)] w2637 (by kernel_rfl) ?_
      obtain ⟨sa2657, sb2658, sc2659, hs2660, hb2661, hp2662⟩ := hi2650.lens (gxIdx_spec hg2652).2
      have M2663 := M2644.cut 4 (sa := sa2657) (sb := sb2658) (sc := sc2659) hs2660 (by kernel_rfl)
      obtain ⟨u2664, r2665, hu2666, ho2667, hr2668⟩ := hb2661
      have M2669 := M2663.cut 5 (sa := []) (sb := u2664) (sc := r2665) hu2666 (by kernel_rfl)
      obtain ⟨u2671, r2672, hu2673, ho2674, hr2675⟩ := hr2668
      have M2676 := M2669.cut 8 (sa := []) (sb := u2671) (sc := r2672) hu2673 (by kernel_rfl)
      obtain ⟨u2678, r2679, hu2680, ho2681, hr2682⟩ := hr2675
      have M2683 := M2676.cut 10 (sa := []) (sb := u2678) (sc := r2679) hu2680 (by kernel_rfl)
      obtain ⟨r2656, hr2656, hm⟩ := gx_bind hm
      refine W_call 32 #[.slice ((g2651 1).1) y2646.Queue.Slots.length ((g2651 1).2), .int .i64 r2605.1] (by kernel_rfl) (by kernel_rfl) ?_
      refine (c_l_markSlotS w2637 y2646.Queue.Slots ((g2651 1).1) ((g2651 1).2) u2671 ho2674 r2605.1 (M2683.hasPick [9]) (M2683.nodupPick [9] (by kernel_rfl)) hr2656).mono ?_
      rintro e_ w2688 ⟨sg2685, rfl, ho2686, hl2687, K2689⟩
      have M2690 := M2683.callF' [9] [0, 1, 2, 3, 4, 5, 6, 7, 8, 10, 11, 12] (by kernel_rfl) K2689
      refine ⟨_, rfl, ?_⟩
      refine W_conv 31 (.slice ((g2651 1).1) y2646.Queue.Slots.length ((g2651 1).2)) (.slice ((g2651 1).1) r2656.2.length ((g2651 1).2)) (by kernel_rfl) (by first | rw [hl2687] | rw [hl2687]) ?_
      have M2694 : Mem (idsOf [sg2017, sg2018]) w w2688 [sg2592, [], [], [], [], [], [], sa2657, u2664, sg2685, u2678, sc2659] := M2690.pick [0, 1, 2, 3, 5, 8, 9, 4, 7, 12, 10, 6] (by kernel_rfl)
      have M2695 : Mem (idsOf [sg2017, sg2018]) w w2688 [sg2592, [], [], [], [], [], [], (sa2657 ++ ((u2664 ++ (sg2685 ++ (u2678 ++ []))) ++ sc2659))] := M2694.regroup (by simp)
      have ho2696 : ownD deepInterface (((s2560.2.2.set s2560.2.1.toNat (⟨s2560.1, y2580.Stack, (⟨y2580.Queue.Slots, y2580.Queue.Waiting⟩ : Queue)⟩ : Interface)).set s2560.2.1.toNat (⟨y2595.Mask, r2605.2, (⟨y2595.Queue.Slots, y2595.Queue.Waiting⟩ : Queue)⟩ : Interface)).set s2560.2.1.toNat (⟨y2646.Mask, y2646.Stack, (⟨r2656.2, y2646.Queue.Waiting⟩ : Queue)⟩ : Interface)) p2015 c2016 sg2592 (sa2657 ++ ((u2664 ++ (sg2685 ++ (u2678 ++ []))) ++ sc2659)) := ⟨_, set_fst hz2648 s2560.2.1.toNat ((⟨y2646.Mask, y2646.Stack, (⟨r2656.2, y2646.Queue.Waiting⟩ : Queue)⟩ : Interface), g2651), (hr2649.setSame (z' := ((⟨y2646.Mask, y2646.Stack, (⟨r2656.2, y2646.Queue.Waiting⟩ : Queue)⟩ : Interface), g2651)) (gxIdx_spec hg2652).2 (by show ([.int .i64 y2646.Mask, .slice ((g2651 0).1) y2646.Stack.length ((g2651 0).2), .slice ((g2651 1).1) r2656.2.length ((g2651 1).2), .slice ((g2651 2).1) y2646.Queue.Waiting.length ((g2651 2).2)] : List Value) = [.int .i64 y2646.Mask, .slice ((g2651 0).1) y2646.Stack.length ((g2651 0).2), .slice ((g2651 1).1) y2646.Queue.Slots.length ((g2651 1).2), .slice ((g2651 2).1) y2646.Queue.Waiting.length ((g2651 2).2)]; rw [hl2687])), hp2662 ((⟨y2646.Mask, y2646.Stack, (⟨r2656.2, y2646.Queue.Waiting⟩ : Queue)⟩ : Interface), g2651) _ (ownI_cons (i := ⟨Int, encI, _, _, _⟩) ho2667 (ownI_cons (i := ⟨Slot, encSlot, _, _, _⟩) ho2686 (ownI_cons (i := ⟨Waiter, encWaiter, _, _, _⟩) ho2681 ownI_nil)))⟩
      refine W_conv 0 (.slice p2015 ((s2560.2.2.set s2560.2.1.toNat (⟨s2560.1, y2580.Stack, (⟨y2580.Queue.Slots, y2580.Queue.Waiting⟩ : Queue)⟩ : Interface)).set s2560.2.1.toNat (⟨y2595.Mask, r2605.2, (⟨y2595.Queue.Slots, y2595.Queue.Waiting⟩ : Queue)⟩ : Interface)).length c2016) (.slice p2015 (((s2560.2.2.set s2560.2.1.toNat (⟨s2560.1, y2580.Stack, (⟨y2580.Queue.Slots, y2580.Queue.Waiting⟩ : Queue)⟩ : Interface)).set s2560.2.1.toNat (⟨y2595.Mask, r2605.2, (⟨y2595.Queue.Slots, y2595.Queue.Waiting⟩ : Queue)⟩ : Interface)).set s2560.2.1.toNat (⟨y2646.Mask, y2646.Stack, (⟨r2656.2, y2646.Queue.Waiting⟩ : Queue)⟩ : Interface)).length c2016) (by kernel_rfl) (by rw [@List.length_set _ ((s2560.2.2.set s2560.2.1.toNat (⟨s2560.1, y2580.Stack, (⟨y2580.Queue.Slots, y2580.Queue.Waiting⟩ : Queue)⟩ : Interface)).set s2560.2.1.toNat (⟨y2595.Mask, r2605.2, (⟨y2595.Queue.Slots, y2595.Queue.Waiting⟩ : Queue)⟩ : Interface)) s2560.2.1.toNat (⟨y2646.Mask, y2646.Stack, (⟨r2656.2, y2646.Queue.Waiting⟩ : Queue)⟩ : Interface)]) ?_
      refine W_run 1 [(0, .slice p2015 (((s2560.2.2.set s2560.2.1.toNat (⟨s2560.1, y2580.Stack, (⟨y2580.Queue.Slots, y2580.Queue.Waiting⟩ : Queue)⟩ : Interface)).set s2560.2.1.toNat (⟨y2595.Mask, r2605.2, (⟨y2595.Queue.Slots, y2595.Queue.Waiting⟩ : Queue)⟩ : Interface)).set s2560.2.1.toNat (⟨y2646.Mask, y2646.Stack, (⟨r2656.2, y2646.Queue.Waiting⟩ : Queue)⟩ : Interface)).length c2016), (1, .int .i64 r2656.1), (5, .int .i64 s2560.2.1)] w2688 (by kernel_rfl) ?_
      refine W_nil ?_
      refine N_then ?_
      refine G_region ?_
      refine W_run 2 [(0, .slice p2015 (((s2560.2.2.set s2560.2.1.toNat (⟨s2560.1, y2580.Stack, (⟨y2580.Queue.Slots, y2580.Queue.Waiting⟩ : Queue)⟩ : Interface)).set s2560.2.1.toNat (⟨y2595.Mask, r2605.2, (⟨y2595.Queue.Slots, y2595.Queue.Waiting⟩ : Queue)⟩ : Interface)).set s2560.2.1.toNat (⟨y2646.Mask, y2646.Stack, (⟨r2656.2, y2646.Queue.Waiting⟩ : Queue)⟩ : Interface)).length c2016), (1, .int .i64 r2656.1), (5, .int .i64 s2560.2.1), (34, .slice p2015 (((s2560.2.2.set s2560.2.1.toNat (⟨s2560.1, y2580.Stack, (⟨y2580.Queue.Slots, y2580.Queue.Waiting⟩ : Queue)⟩ : Interface)).set s2560.2.1.toNat (⟨y2595.Mask, r2605.2, (⟨y2595.Queue.Slots, y2595.Queue.Waiting⟩ : Queue)⟩ : Interface)).set s2560.2.1.toNat (⟨y2646.Mask, y2646.Stack, (⟨r2656.2, y2646.Queue.Waiting⟩ : Queue)⟩ : Interface)).length c2016), (35, .int .i64 s2560.2.1)] w2688 (by kernel_rfl) ?_
      obtain ⟨y2697, hy2697, hm⟩ := gx_bind hm
      obtain ⟨zs2698, hz2699, hr2700, hi2701⟩ := id ho2696
      obtain ⟨g2702, hg2703⟩ := gxIdx_fst hz2699 hy2697
      refine W_val (elemP p2015 (s2560.2.1.toNat * 4)) w2688 (by kernel_rfl) (E_index (E := deepInterface.E) _ _ _ (((s2560.2.2.set s2560.2.1.toNat (⟨s2560.1, y2580.Stack, (⟨y2580.Queue.Slots, y2580.Queue.Waiting⟩ : Queue)⟩ : Interface)).set s2560.2.1.toNat (⟨y2595.Mask, r2605.2, (⟨y2595.Queue.Slots, y2595.Queue.Waiting⟩ : Queue)⟩ : Interface)).set s2560.2.1.toNat (⟨y2646.Mask, y2646.Stack, (⟨r2656.2, y2646.Queue.Waiting⟩ : Queue)⟩ : Interface)).length c2016 .i64 s2560.2.1 4 (y := (y2697, g2702)) rfl (by kernel_rfl) (by kernel_rfl) (by kernel_rfl) (hr2700.rd M2695 0 (by kernel_rfl)) (len_fst hz2699) hg2703) ?_
      refine W_val (elemP p2015 (s2560.2.1.toNat * 4 + 2)) w2688 (by kernel_rfl) (E_fieldE (E := deepInterface.E) _ _ 2 (s2560.2.1.toNat * 4) 2 rfl (by kernel_rfl) (by kernel_rfl) (hr2700.rd M2695 0 (by kernel_rfl)) hg2703) ?_
      refine W_val (elemP p2015 (s2560.2.1.toNat * 4 + 2 + 1)) w2688 (by kernel_rfl) (E_fieldE (E := deepInterface.E) _ _ 1 (s2560.2.1.toNat * 4 + 2) 1 rfl (by kernel_rfl) (by kernel_rfl) (hr2700.rd M2695 0 (by kernel_rfl)) hg2703) ?_
      refine W_val (.slice ((g2702 2).1) y2697.Queue.Waiting.length ((g2702 2).2)) w2688 (by kernel_rfl) (E_loadE (E := deepInterface.E) _ _ false 1 s2560.2.1 3 (s2560.2.1.toNat * 4 + 2 + 1) (y2697, g2702) (.slice ((g2702 2).1) y2697.Queue.Waiting.length ((g2702 2).2)) rfl (by kernel_rfl) (by kernel_rfl) (by kernel_rfl) (hr2700.rd M2695 0 (by kernel_rfl)) hg2703 rfl) ?_
      refine W_run 1 [(0, .slice p2015 (((s2560.2.2.set s2560.2.1.toNat (⟨s2560.1, y2580.Stack, (⟨y2580.Queue.Slots, y2580.Queue.Waiting⟩ : Queue)⟩ : Interface)).set s2560.2.1.toNat (⟨y2595.Mask, r2605.2, (⟨y2595.Queue.Slots, y2595.Queue.Waiting⟩ : Queue)⟩ : Interface)).set s2560.2.1.toNat (⟨y2646.Mask, y2646.Stack, (⟨r2656.2, y2646.Queue.Waiting⟩ : Queue)⟩ : Interface)).length c2016), (1, .int .i64 r2656.1), (5, .int .i64 s2560.2.1), (39, .slice ((g2702 2).1) y2697.Queue.Waiting.length ((g2702 2).2)), (40, .int .i64 r2656.1)] w2688 (by kernel_rfl) ?_
      obtain ⟨sa2708, sb2709, sc2710, hs2711, hb2712, hp2713⟩ := hi2701.lens (gxIdx_spec hg2703).2
      have M2714 := M2695.cut 7 (sa := sa2708) (sb := sb2709) (sc := sc2710) hs2711 (by kernel_rfl)
      obtain ⟨u2715, r2716, hu2717, ho2718, hr2719⟩ := hb2712
      have M2720 := M2714.cut 8 (sa := []) (sb := u2715) (sc := r2716) hu2717 (by kernel_rfl)
      obtain ⟨u2722, r2723, hu2724, ho2725, hr2726⟩ := hr2719
      have M2727 := M2720.cut 11 (sa := []) (sb := u2722) (sc := r2723) hu2724 (by kernel_rfl)
      obtain ⟨u2729, r2730, hu2731, ho2732, hr2733⟩ := hr2726
      have M2734 := M2727.cut 13 (sa := []) (sb := u2729) (sc := r2730) hu2731 (by kernel_rfl)
      obtain ⟨r2707, hr2707, hm⟩ := gx_bind hm
      refine W_call 33 #[.slice ((g2702 2).1) y2697.Queue.Waiting.length ((g2702 2).2), .int .i64 r2656.1] (by kernel_rfl) (by kernel_rfl) ?_
      refine (c_l_markWaiterS w2688 y2697.Queue.Waiting ((g2702 2).1) ((g2702 2).2) u2729 ho2732 r2656.1 (M2734.hasPick [14]) (M2734.nodupPick [14] (by kernel_rfl)) hr2707).mono ?_
      rintro e_ w2739 ⟨sg2736, rfl, ho2737, hl2738, K2740⟩
      have M2741 := M2734.callF' [14] [0, 1, 2, 3, 4, 5, 6, 7, 8, 9, 10, 11, 12, 13, 15] (by kernel_rfl) K2740
      refine ⟨_, rfl, ?_⟩
      refine W_conv 39 (.slice ((g2702 2).1) y2697.Queue.Waiting.length ((g2702 2).2)) (.slice ((g2702 2).1) r2707.2.length ((g2702 2).2)) (by kernel_rfl) (by first | rw [hl2738] | rw [hl2738]) ?_
      have M2745 : Mem (idsOf [sg2017, sg2018]) w w2739 [sg2592, [], [], [], [], [], [], [], [], [], sa2708, u2715, u2722, sg2736, sc2710] := M2741.pick [0, 1, 2, 3, 4, 5, 6, 8, 11, 13, 7, 10, 12, 15, 9] (by kernel_rfl)
      have M2746 : Mem (idsOf [sg2017, sg2018]) w w2739 [sg2592, [], [], [], [], [], [], [], [], [], (sa2708 ++ ((u2715 ++ (u2722 ++ (sg2736 ++ []))) ++ sc2710))] := M2745.regroup (by simp)
      have ho2747 : ownD deepInterface ((((s2560.2.2.set s2560.2.1.toNat (⟨s2560.1, y2580.Stack, (⟨y2580.Queue.Slots, y2580.Queue.Waiting⟩ : Queue)⟩ : Interface)).set s2560.2.1.toNat (⟨y2595.Mask, r2605.2, (⟨y2595.Queue.Slots, y2595.Queue.Waiting⟩ : Queue)⟩ : Interface)).set s2560.2.1.toNat (⟨y2646.Mask, y2646.Stack, (⟨r2656.2, y2646.Queue.Waiting⟩ : Queue)⟩ : Interface)).set s2560.2.1.toNat (⟨y2697.Mask, y2697.Stack, (⟨y2697.Queue.Slots, r2707.2⟩ : Queue)⟩ : Interface)) p2015 c2016 sg2592 (sa2708 ++ ((u2715 ++ (u2722 ++ (sg2736 ++ []))) ++ sc2710)) := ⟨_, set_fst hz2699 s2560.2.1.toNat ((⟨y2697.Mask, y2697.Stack, (⟨y2697.Queue.Slots, r2707.2⟩ : Queue)⟩ : Interface), g2702), (hr2700.setSame (z' := ((⟨y2697.Mask, y2697.Stack, (⟨y2697.Queue.Slots, r2707.2⟩ : Queue)⟩ : Interface), g2702)) (gxIdx_spec hg2703).2 (by show ([.int .i64 y2697.Mask, .slice ((g2702 0).1) y2697.Stack.length ((g2702 0).2), .slice ((g2702 1).1) y2697.Queue.Slots.length ((g2702 1).2), .slice ((g2702 2).1) r2707.2.length ((g2702 2).2)] : List Value) = [.int .i64 y2697.Mask, .slice ((g2702 0).1) y2697.Stack.length ((g2702 0).2), .slice ((g2702 1).1) y2697.Queue.Slots.length ((g2702 1).2), .slice ((g2702 2).1) y2697.Queue.Waiting.length ((g2702 2).2)]; rw [hl2738])), hp2713 ((⟨y2697.Mask, y2697.Stack, (⟨y2697.Queue.Slots, r2707.2⟩ : Queue)⟩ : Interface), g2702) _ (ownI_cons (i := ⟨Int, encI, _, _, _⟩) ho2718 (ownI_cons (i := ⟨Slot, encSlot, _, _, _⟩) ho2725 (ownI_cons (i := ⟨Waiter, encWaiter, _, _, _⟩) ho2737 ownI_nil)))⟩
      refine W_conv 0 (.slice p2015 (((s2560.2.2.set s2560.2.1.toNat (⟨s2560.1, y2580.Stack, (⟨y2580.Queue.Slots, y2580.Queue.Waiting⟩ : Queue)⟩ : Interface)).set s2560.2.1.toNat (⟨y2595.Mask, r2605.2, (⟨y2595.Queue.Slots, y2595.Queue.Waiting⟩ : Queue)⟩ : Interface)).set s2560.2.1.toNat (⟨y2646.Mask, y2646.Stack, (⟨r2656.2, y2646.Queue.Waiting⟩ : Queue)⟩ : Interface)).length c2016) (.slice p2015 ((((s2560.2.2.set s2560.2.1.toNat (⟨s2560.1, y2580.Stack, (⟨y2580.Queue.Slots, y2580.Queue.Waiting⟩ : Queue)⟩ : Interface)).set s2560.2.1.toNat (⟨y2595.Mask, r2605.2, (⟨y2595.Queue.Slots, y2595.Queue.Waiting⟩ : Queue)⟩ : Interface)).set s2560.2.1.toNat (⟨y2646.Mask, y2646.Stack, (⟨r2656.2, y2646.Queue.Waiting⟩ : Queue)⟩ : Interface)).set s2560.2.1.toNat (⟨y2697.Mask, y2697.Stack, (⟨y2697.Queue.Slots, r2707.2⟩ : Queue)⟩ : Interface)).length c2016) (by kernel_rfl) (by rw [@List.length_set _ (((s2560.2.2.set s2560.2.1.toNat (⟨s2560.1, y2580.Stack, (⟨y2580.Queue.Slots, y2580.Queue.Waiting⟩ : Queue)⟩ : Interface)).set s2560.2.1.toNat (⟨y2595.Mask, r2605.2, (⟨y2595.Queue.Slots, y2595.Queue.Waiting⟩ : Queue)⟩ : Interface)).set s2560.2.1.toNat (⟨y2646.Mask, y2646.Stack, (⟨r2656.2, y2646.Queue.Waiting⟩ : Queue)⟩ : Interface)) s2560.2.1.toNat (⟨y2697.Mask, y2697.Stack, (⟨y2697.Queue.Slots, r2707.2⟩ : Queue)⟩ : Interface)]) ?_
      refine W_run 1 [(0, .slice p2015 ((((s2560.2.2.set s2560.2.1.toNat (⟨s2560.1, y2580.Stack, (⟨y2580.Queue.Slots, y2580.Queue.Waiting⟩ : Queue)⟩ : Interface)).set s2560.2.1.toNat (⟨y2595.Mask, r2605.2, (⟨y2595.Queue.Slots, y2595.Queue.Waiting⟩ : Queue)⟩ : Interface)).set s2560.2.1.toNat (⟨y2646.Mask, y2646.Stack, (⟨r2656.2, y2646.Queue.Waiting⟩ : Queue)⟩ : Interface)).set s2560.2.1.toNat (⟨y2697.Mask, y2697.Stack, (⟨y2697.Queue.Slots, r2707.2⟩ : Queue)⟩ : Interface)).length c2016), (1, .int .i64 r2707.1), (5, .int .i64 s2560.2.1)] w2739 (by kernel_rfl) ?_
      refine W_nil ?_
      refine N_block ?_
      refine N_then ?_
      refine G_region ?_
      refine W_run 3 [(0, .slice p2015 ((((s2560.2.2.set s2560.2.1.toNat (⟨s2560.1, y2580.Stack, (⟨y2580.Queue.Slots, y2580.Queue.Waiting⟩ : Queue)⟩ : Interface)).set s2560.2.1.toNat (⟨y2595.Mask, r2605.2, (⟨y2595.Queue.Slots, y2595.Queue.Waiting⟩ : Queue)⟩ : Interface)).set s2560.2.1.toNat (⟨y2646.Mask, y2646.Stack, (⟨r2656.2, y2646.Queue.Waiting⟩ : Queue)⟩ : Interface)).set s2560.2.1.toNat (⟨y2697.Mask, y2697.Stack, (⟨y2697.Queue.Slots, r2707.2⟩ : Queue)⟩ : Interface)).length c2016), (1, .int .i64 r2707.1), (5, .int .i64 (w64 (s2560.2.1 + 1)))] w2739 (by kernel_rfl) ?_
      refine W_nil ?_
      obtain rfl := Option.some.inj hm
      exact N_loop fun a ha => ⟨_, rfl, sg2592, (sa2708 ++ ((u2715 ++ (u2722 ++ (sg2736 ++ []))) ++ sc2710)), ho2747, (List.length_set.trans (List.length_set.trans (List.length_set.trans (List.length_set.trans hl2573)))), M2746.pick [0, 10] (by kernel_rfl), ha.sub (by kernel_rfl)⟩
    · refine G_cond_f (b := (decide (s2560.2.1 < (s2560.2.2.length : Int)))) hc2579 (by kernel_rfl) ?_
      refine G_exit ?_
      refine N_then_exit ?_
      refine N_then_exit ?_
      refine N_block_eq ?_
      obtain rfl := Option.some.inj hm
      obtain rfl := hout2562 _ rfl
      exact N_meet fun a ha => ⟨sg2570, sg2571, ho2572, hl2573, M2565.pick [0, 1] (by kernel_rfl), ha.sub (by kernel_rfl)⟩
  · intro a2748 w2749 ⟨sg2575, sg2576, ho2577, hl2578, M2750, hS2751⟩
    refine N_use hS2751 ?_
    have hm := hmo2569
    refine N_then ?_
    refine G_seq ?_
    refine G_region ?_
    refine W_run 2 [(4, .int .i64 out2567.1)] w2749 (by kernel_rfl) ?_
    refine W_nil ?_
    refine N_then ?_
    refine G_ret ?_
    obtain rfl := Option.some.inj hm
    refine N_ret [.int .i64 out2567.1] (RVs_cons (RV_tmp (by kernel_rfl)) RVs_nil) ?_
    exact ⟨sg2575, sg2576, rfl, ho2577, hl2578, M2750.pick [0, 1] (by kernel_rfl)⟩
theorem c_l_markMachine (w : World) (x1907 : Machine) (p1909 : Option Addr) (c1910 : Nat) (sg1911 : Seg) (ho1912 : ownS encRoute x1907.Routes p1909 c1910 sg1911) (p1914 : Option Addr) (c1915 : Nat) (sg1916 : Seg) (ho1917 : ownS encB x1907.Enabled p1914 c1915 sg1916) (p1919 : Option Addr) (c1920 : Nat) (sg1921 : Seg) (ho1922 : ownS encB x1907.Raised p1919 c1920 sg1921) (p1924 : Option Addr) (c1925 : Nat) (sg1926 : Seg) (sg1927 : Seg) (ho1928 : ownD deepInterface x1907.Cpus p1924 c1925 sg1926 sg1927) (x1929 : Int) (hA : ∀ q ∈ List.flatten [sg1911, sg1916, sg1921, sg1926, sg1927], w.heap[q.1]? = some q.2) (hN : (idsOf [sg1911, sg1916, sg1921, sg1926, sg1927]).Nodup) {r : Int × (List Route) × (List Bool) × (List Bool) × (List Interface)} (hm : M.l_markMachine x1907 x1929 = some r) :
    Calls Try.prog 11 #[.agg #[.slice p1909 x1907.Routes.length c1910, .slice p1914 x1907.Enabled.length c1915, .slice p1919 x1907.Raised.length c1920, .slice p1924 x1907.Cpus.length c1925], .int .i64 x1929] w fun e w' => ∃ (sg1930 : Seg), ∃ (sg1931 : Seg), ∃ (sg1932 : Seg), ∃ (sg1933 : Seg) (sg1934 : Seg), e = .returned (.int .i64 r.1) ∧ ownS encRoute r.2.1 p1909 c1910 sg1930 ∧ r.2.1.length = x1907.Routes.length ∧ ownS encB r.2.2.1 p1914 c1915 sg1931 ∧ r.2.2.1.length = x1907.Enabled.length ∧ ownS encB r.2.2.2.1 p1919 c1920 sg1932 ∧ r.2.2.2.1.length = x1907.Raised.length ∧ ownD deepInterface r.2.2.2.2 p1924 c1925 sg1933 sg1934 ∧ r.2.2.2.2.length = x1907.Cpus.length ∧ Mem (idsOf [sg1911, sg1916, sg1921, sg1926, sg1927]) w w' [sg1930, sg1931, sg1932, sg1933, sg1934] := by
  unfold M.l_markMachine at hm
  refine C_enter Try.func11 rfl (by kernel_rfl) ?_
  have M0 := Mem.start' w [sg1911, sg1916, sg1921, sg1926, sg1927] hA hN
  refine G_seq ?_
  refine G_region ?_
  refine W_new (fun b => .pointer (some ⟨b, 0, none⟩)) (.cells ⟨[.slice p1909 x1907.Routes.length c1910, .slice p1914 x1907.Enabled.length c1915, .slice p1919 x1907.Raised.length c1920, .slice p1924 x1907.Cpus.length c1925]⟩ 28 (0, 0)) M0 rfl (by kernel_rfl) (by kernel_rfl) ?_
  intro b1936 w1937 M1938
  refine W_run 1 [(1, .int .i64 x1929), (2, .pointer (some ⟨b1936, 0, none⟩))] w1937 (by kernel_rfl) ?_
  refine W_nil ?_
  refine N_then ?_
  refine G_seq ?_
  refine G_region ?_
  refine W_run 1 [(1, .int .i64 x1929), (2, .pointer (some ⟨b1936, 0, none⟩)), (5, .pointer (some ⟨b1936, 0, none⟩))] w1937 (by kernel_rfl) ?_
  refine W_val (.slice p1909 x1907.Routes.length c1910) w1937 (by kernel_rfl) (E_load (e := 28) (fr := (0, 0)) _ _ false 1 b1936 0 [.slice p1909 x1907.Routes.length c1910, .slice p1914 x1907.Enabled.length c1915, .slice p1919 x1907.Raised.length c1920, .slice p1924 x1907.Cpus.length c1925] (.slice p1909 x1907.Routes.length c1910) rfl (by kernel_rfl) (by kernel_rfl) (by kernel_rfl) (M1938.blk 5 (b := b1936) (o := .cells ⟨[.slice p1909 x1907.Routes.length c1910, .slice p1914 x1907.Enabled.length c1915, .slice p1919 x1907.Raised.length c1920, .slice p1924 x1907.Cpus.length c1925]⟩ 28 (0, 0)) (by kernel_rfl))) ?_
  refine W_run 1 [(1, .int .i64 x1929), (2, .pointer (some ⟨b1936, 0, none⟩)), (6, .slice p1909 x1907.Routes.length c1910), (7, .int .i64 x1929)] w1937 (by kernel_rfl) ?_
  obtain ⟨r1939, hr1939, hm⟩ := gx_bind hm
  refine W_call 10 #[.slice p1909 x1907.Routes.length c1910, .int .i64 x1929] (by kernel_rfl) (by kernel_rfl) ?_
  refine (c_l_markRouteS w1937 x1907.Routes p1909 c1910 sg1911 ho1912 x1929 (M1938.hasPick [0]) (M1938.nodupPick [0] (by kernel_rfl)) hr1939).mono ?_
  rintro e_ w1943 ⟨sg1940, rfl, ho1941, hl1942, K1944⟩
  have M1945 := M1938.callF' [0] [1, 2, 3, 4, 5] (by kernel_rfl) K1944
  refine ⟨_, rfl, ?_⟩
  refine W_conv 6 (.slice p1909 x1907.Routes.length c1910) (.slice p1909 r1939.2.length c1910) (by kernel_rfl) (by first | rw [hl1942] | rw [hl1942]) ?_
  have M1946 : Mem (idsOf [sg1911, sg1916, sg1921, sg1926, sg1927]) w w1943 [sg1916, sg1921, sg1926, sg1927, [(b1936, .cells ⟨[.slice p1909 r1939.2.length c1910, .slice p1914 x1907.Enabled.length c1915, .slice p1919 x1907.Raised.length c1920, .slice p1924 x1907.Cpus.length c1925]⟩ 28 (0, 0))], sg1940] := by rw [hl1942]; exact M1945
  refine W_run 1 [(1, .int .i64 r1939.1), (2, .pointer (some ⟨b1936, 0, none⟩))] w1943 (by kernel_rfl) ?_
  refine W_nil ?_
  refine N_then ?_
  refine G_seq ?_
  refine G_region ?_
  refine W_run 1 [(1, .int .i64 r1939.1), (2, .pointer (some ⟨b1936, 0, none⟩)), (9, .pointer (some ⟨b1936, 1, none⟩))] w1943 (by kernel_rfl) ?_
  refine W_val (.slice p1914 x1907.Enabled.length c1915) w1943 (by kernel_rfl) (E_load (e := 28) (fr := (0, 0)) _ _ false 1 b1936 1 [.slice p1909 r1939.2.length c1910, .slice p1914 x1907.Enabled.length c1915, .slice p1919 x1907.Raised.length c1920, .slice p1924 x1907.Cpus.length c1925] (.slice p1914 x1907.Enabled.length c1915) rfl (by kernel_rfl) (by kernel_rfl) (by kernel_rfl) (M1946.blk 4 (b := b1936) (o := .cells ⟨[.slice p1909 r1939.2.length c1910, .slice p1914 x1907.Enabled.length c1915, .slice p1919 x1907.Raised.length c1920, .slice p1924 x1907.Cpus.length c1925]⟩ 28 (0, 0)) (by kernel_rfl))) ?_
  refine W_run 1 [(1, .int .i64 r1939.1), (2, .pointer (some ⟨b1936, 0, none⟩)), (10, .slice p1914 x1907.Enabled.length c1915), (11, .int .i64 r1939.1)] w1943 (by kernel_rfl) ?_
  obtain ⟨r1997, hr1997, hm⟩ := gx_bind hm
  refine W_call 19 #[.slice p1914 x1907.Enabled.length c1915, .int .i64 r1939.1] (by kernel_rfl) (by kernel_rfl) ?_
  refine (c_l_markBoolS w1943 x1907.Enabled p1914 c1915 sg1916 ho1917 r1939.1 (M1946.hasPick [0]) (M1946.nodupPick [0] (by kernel_rfl)) hr1997).mono ?_
  rintro e_ w2001 ⟨sg1998, rfl, ho1999, hl2000, K2002⟩
  have M2003 := M1946.callF' [0] [1, 2, 3, 4, 5] (by kernel_rfl) K2002
  refine ⟨_, rfl, ?_⟩
  refine W_conv 10 (.slice p1914 x1907.Enabled.length c1915) (.slice p1914 r1997.2.length c1915) (by kernel_rfl) (by first | rw [hl2000] | rw [hl2000]) ?_
  have M2004 : Mem (idsOf [sg1911, sg1916, sg1921, sg1926, sg1927]) w w2001 [sg1921, sg1926, sg1927, [(b1936, .cells ⟨[.slice p1909 r1939.2.length c1910, .slice p1914 r1997.2.length c1915, .slice p1919 x1907.Raised.length c1920, .slice p1924 x1907.Cpus.length c1925]⟩ 28 (0, 0))], sg1940, sg1998] := by rw [hl2000]; exact M2003
  refine W_run 1 [(1, .int .i64 r1997.1), (2, .pointer (some ⟨b1936, 0, none⟩))] w2001 (by kernel_rfl) ?_
  refine W_nil ?_
  refine N_then ?_
  refine G_seq ?_
  refine G_region ?_
  refine W_run 1 [(1, .int .i64 r1997.1), (2, .pointer (some ⟨b1936, 0, none⟩)), (13, .pointer (some ⟨b1936, 2, none⟩))] w2001 (by kernel_rfl) ?_
  refine W_val (.slice p1919 x1907.Raised.length c1920) w2001 (by kernel_rfl) (E_load (e := 28) (fr := (0, 0)) _ _ false 1 b1936 2 [.slice p1909 r1939.2.length c1910, .slice p1914 r1997.2.length c1915, .slice p1919 x1907.Raised.length c1920, .slice p1924 x1907.Cpus.length c1925] (.slice p1919 x1907.Raised.length c1920) rfl (by kernel_rfl) (by kernel_rfl) (by kernel_rfl) (M2004.blk 3 (b := b1936) (o := .cells ⟨[.slice p1909 r1939.2.length c1910, .slice p1914 r1997.2.length c1915, .slice p1919 x1907.Raised.length c1920, .slice p1924 x1907.Cpus.length c1925]⟩ 28 (0, 0)) (by kernel_rfl))) ?_
  refine W_run 1 [(1, .int .i64 r1997.1), (2, .pointer (some ⟨b1936, 0, none⟩)), (14, .slice p1919 x1907.Raised.length c1920), (15, .int .i64 r1997.1)] w2001 (by kernel_rfl) ?_
  obtain ⟨r2005, hr2005, hm⟩ := gx_bind hm
  refine W_call 19 #[.slice p1919 x1907.Raised.length c1920, .int .i64 r1997.1] (by kernel_rfl) (by kernel_rfl) ?_
  refine (c_l_markBoolS w2001 x1907.Raised p1919 c1920 sg1921 ho1922 r1997.1 (M2004.hasPick [0]) (M2004.nodupPick [0] (by kernel_rfl)) hr2005).mono ?_
  rintro e_ w2009 ⟨sg2006, rfl, ho2007, hl2008, K2010⟩
  have M2011 := M2004.callF' [0] [1, 2, 3, 4, 5] (by kernel_rfl) K2010
  refine ⟨_, rfl, ?_⟩
  refine W_conv 14 (.slice p1919 x1907.Raised.length c1920) (.slice p1919 r2005.2.length c1920) (by kernel_rfl) (by first | rw [hl2008] | rw [hl2008]) ?_
  have M2012 : Mem (idsOf [sg1911, sg1916, sg1921, sg1926, sg1927]) w w2009 [sg1926, sg1927, [(b1936, .cells ⟨[.slice p1909 r1939.2.length c1910, .slice p1914 r1997.2.length c1915, .slice p1919 r2005.2.length c1920, .slice p1924 x1907.Cpus.length c1925]⟩ 28 (0, 0))], sg1940, sg1998, sg2006] := by rw [hl2008]; exact M2011
  refine W_run 1 [(1, .int .i64 r2005.1), (2, .pointer (some ⟨b1936, 0, none⟩))] w2009 (by kernel_rfl) ?_
  refine W_nil ?_
  refine N_then ?_
  refine G_seq ?_
  refine G_region ?_
  refine W_run 1 [(1, .int .i64 r2005.1), (17, .pointer (some ⟨b1936, 3, none⟩))] w2009 (by kernel_rfl) ?_
  refine W_val (.slice p1924 x1907.Cpus.length c1925) w2009 (by kernel_rfl) (E_load (e := 28) (fr := (0, 0)) _ _ false 1 b1936 3 [.slice p1909 r1939.2.length c1910, .slice p1914 r1997.2.length c1915, .slice p1919 r2005.2.length c1920, .slice p1924 x1907.Cpus.length c1925] (.slice p1924 x1907.Cpus.length c1925) rfl (by kernel_rfl) (by kernel_rfl) (by kernel_rfl) (M2012.blk 2 (b := b1936) (o := .cells ⟨[.slice p1909 r1939.2.length c1910, .slice p1914 r1997.2.length c1915, .slice p1919 r2005.2.length c1920, .slice p1924 x1907.Cpus.length c1925]⟩ 28 (0, 0)) (by kernel_rfl))) ?_
  refine W_run 1 [(1, .int .i64 r2005.1), (18, .slice p1924 x1907.Cpus.length c1925), (19, .int .i64 r2005.1)] w2009 (by kernel_rfl) ?_
  obtain ⟨r2752, hr2752, hm⟩ := gx_bind hm
  refine W_call 20 #[.slice p1924 x1907.Cpus.length c1925, .int .i64 r2005.1] (by kernel_rfl) (by kernel_rfl) ?_
  refine (c_l_markInterfaceS w2009 x1907.Cpus p1924 c1925 sg1926 sg1927 ho1928 r2005.1 (M2012.hasPick [0, 1]) (M2012.nodupPick [0, 1] (by kernel_rfl)) hr2752).mono ?_
  rintro e_ w2757 ⟨sg2753, sg2754, rfl, ho2755, hl2756, K2758⟩
  have M2759 := M2012.callF' [0, 1] [2, 3, 4, 5] (by kernel_rfl) K2758
  refine ⟨_, rfl, ?_⟩
  refine W_conv 18 (.slice p1924 x1907.Cpus.length c1925) (.slice p1924 r2752.2.length c1925) (by kernel_rfl) (by first | rw [hl2756] | rw [hl2756]) ?_
  have M2760 : Mem (idsOf [sg1911, sg1916, sg1921, sg1926, sg1927]) w w2757 [[(b1936, .cells ⟨[.slice p1909 r1939.2.length c1910, .slice p1914 r1997.2.length c1915, .slice p1919 r2005.2.length c1920, .slice p1924 r2752.2.length c1925]⟩ 28 (0, 0))], sg1940, sg1998, sg2006, sg2753, sg2754] := by rw [hl2756]; exact M2759
  refine W_run 1 [(1, .int .i64 r2752.1)] w2757 (by kernel_rfl) ?_
  refine W_nil ?_
  refine N_then ?_
  refine G_seq ?_
  refine G_region ?_
  refine W_run 2 [(4, .int .i64 r2752.1)] w2757 (by kernel_rfl) ?_
  refine W_nil ?_
  refine N_then ?_
  refine G_ret ?_
  obtain rfl := Option.some.inj hm
  refine N_ret [.int .i64 r2752.1] (RVs_cons (RV_tmp (by kernel_rfl)) RVs_nil) ?_
  exact ⟨sg1940, sg1998, sg2006, sg2753, sg2754, rfl, ho1941, (hl1942.trans rfl), ho1999, (hl2000.trans rfl), ho2007, (hl2008.trans rfl), ho2755, (hl2756.trans rfl), M2760.pick [1, 2, 3, 4, 5] (by kernel_rfl)⟩
theorem c_l_heldRouteS (w : World) (x2801 : List Route) (p2803 : Option Addr) (c2804 : Nat) (h2805 : rdS encRoute w x2801 p2803 c2804) (x2806 : Int) {r : Int} (hm : M.l_heldRouteS x2801 x2806 = some r) :
    Calls Try.prog 21 #[.slice p2803 x2801.length c2804, .int .i64 x2806] w fun e w' => e = .returned (.int .i64 r) ∧ Mem [] w w' [] := by
  unfold M.l_heldRouteS at hm
  refine C_enter Try.func21 rfl (by kernel_rfl) ?_
  have M0 := Mem.refl [] w
  refine G_seq ?_
  refine G_region ?_
  refine W_run 1 [(0, .slice p2803 x2801.length c2804), (1, .int .i64 x2806)] w (by kernel_rfl) ?_
  refine W_nil ?_
  refine N_then ?_
  refine G_seq ?_
  refine G_seq ?_
  refine G_region ?_
  refine W_run 1 [(0, .slice p2803 x2801.length c2804), (1, .int .i64 x2806), (5, .int .i64 0)] w (by kernel_rfl) ?_
  refine W_nil ?_
  refine N_then ?_
  obtain ⟨out2824, hw2825, hmo2826⟩ := gx_bind hm
  refine G_meet (fun a w' => ∃ (o2827 : Int), out2824 = .inl o2827 ∧ Mem [] w w' [] ∧ Sat Try.f21.ntmps [(1, .int .i64 o2827)] a) ?_ ?_
  · refine G_block ?_
    refine G_while (σ := Int × Int) (ρ := (Int) ⊕ (Int)) (fun s2817 a w' => Mem [] w w' [] ∧ Sat Try.f21.ntmps [(0, .slice p2803 x2801.length c2804), (1, .int .i64 s2817.1), (5, .int .i64 s2817.2)] a) hw2825 (fun a ha => ⟨M0.pick [] (by kernel_rfl), ha.sub (by kernel_rfl)⟩) ?_
    clear hm
    intro s2817 x2818 hm hout2819 a2820 w2821 ⟨M2822, hS2823⟩
    refine G_use hS2823 ?_
    refine G_seq ?_
    refine G_seq ?_
    refine G_region ?_
    refine W_run 4 [(0, .slice p2803 x2801.length c2804), (1, .int .i64 s2817.1), (5, .int .i64 s2817.2), (9, .bool (decide (s2817.2 < (x2801.length : Int))))] w2821 (by kernel_rfl) ?_
    refine W_nil ?_
    refine N_then ?_
    rcases gx_bif hm with ⟨hc2828, hm⟩ | ⟨hc2828, hm⟩
    · refine G_cond_t (b := (decide (s2817.2 < (x2801.length : Int)))) hc2828 (by kernel_rfl) ?_
      refine G_skip ?_
      refine N_then ?_
      refine G_seq ?_
      refine G_block ?_
      refine G_seq ?_
      refine G_seq ?_
      refine G_region ?_
      refine W_run 2 [(0, .slice p2803 x2801.length c2804), (1, .int .i64 s2817.1), (5, .int .i64 s2817.2), (12, .slice p2803 x2801.length c2804), (13, .int .i64 s2817.2)] w2821 (by kernel_rfl) ?_
      obtain ⟨y2829, hy2829, hm⟩ := gx_bind hm
      refine W_val (elemP p2803 (s2817.2.toNat * 2)) w2821 (by kernel_rfl) (E_index (E := encRoute) _ _ _ x2801.length c2804 .i64 s2817.2 2 (y := y2829) rfl (by kernel_rfl) (by kernel_rfl) (by kernel_rfl) (h2805.mem0 M2822) rfl hy2829) ?_
      refine W_val (elemP p2803 (s2817.2.toNat * 2 + 0)) w2821 (by kernel_rfl) (E_fieldE (E := encRoute) _ _ 0 (s2817.2.toNat * 2) 0 rfl (by kernel_rfl) (by kernel_rfl) (h2805.mem0 M2822) hy2829) ?_
      refine W_val (.int .i64 y2829.Priority) w2821 (by kernel_rfl) (E_loadE (E := encRoute) _ _ false 1 s2817.2 0 (s2817.2.toNat * 2 + 0) y2829 (.int .i64 y2829.Priority) rfl (by kernel_rfl) (by kernel_rfl) (by kernel_rfl) (h2805.mem0 M2822) hy2829 rfl) ?_
      refine W_run 2 [(0, .slice p2803 x2801.length c2804), (1, .int .i64 s2817.1), (5, .int .i64 s2817.2), (18, .bool (y2829.Priority != s2817.1))] w2821 (by kernel_rfl) ?_
      refine W_nil ?_
      refine N_then ?_
      rcases gx_bif hm with ⟨hc2830, hm⟩ | ⟨hc2830, hm⟩
      · refine G_cond_t (b := (y2829.Priority != s2817.1)) hc2830 (by kernel_rfl) ?_
        refine G_seq ?_
        refine G_region ?_
        refine W_run 1 [(4, .int .i64 (-1))] w2821 (by kernel_rfl) ?_
        refine W_nil ?_
        refine N_then ?_
        refine G_ret ?_
        refine N_then_ret ?_
        refine N_block_ret ?_
        refine N_then_ret ?_
        refine N_then_ret ?_
        obtain rfl := Option.some.inj hm
        obtain rfl := hout2819 _ rfl
        have hm := hmo2826; simp only [Sum.elim_inr] at hm
        refine N_block_ret ?_
        refine N_meet_ret ?_
        refine N_then_ret ?_
        obtain rfl := Option.some.inj hm
        refine N_ret [.int .i64 (-1)] (RVs_cons (RV_tmp (by kernel_rfl)) RVs_nil) ?_
        exact ⟨rfl, M2822.pick [] (by kernel_rfl)⟩
      · refine G_cond_f (b := (y2829.Priority != s2817.1)) hc2830 (by kernel_rfl) ?_
        refine G_skip ?_
        refine N_then ?_
        refine G_seq ?_
        refine G_region ?_
        refine W_run 3 [(0, .slice p2803 x2801.length c2804), (1, .int .i64 (w64 (s2817.1 + 1))), (5, .int .i64 s2817.2)] w2821 (by kernel_rfl) ?_
        refine W_nil ?_
        refine N_then ?_
        refine G_seq ?_
        refine G_seq ?_
        refine G_region ?_
        refine W_run 2 [(0, .slice p2803 x2801.length c2804), (1, .int .i64 (w64 (s2817.1 + 1))), (5, .int .i64 s2817.2), (21, .slice p2803 x2801.length c2804), (22, .int .i64 s2817.2)] w2821 (by kernel_rfl) ?_
        obtain ⟨y2831, hy2831, hm⟩ := gx_bind hm
        refine W_val (elemP p2803 (s2817.2.toNat * 2)) w2821 (by kernel_rfl) (E_index (E := encRoute) _ _ _ x2801.length c2804 .i64 s2817.2 2 (y := y2831) rfl (by kernel_rfl) (by kernel_rfl) (by kernel_rfl) (h2805.mem0 M2822) rfl hy2831) ?_
        refine W_val (elemP p2803 (s2817.2.toNat * 2 + 1)) w2821 (by kernel_rfl) (E_fieldE (E := encRoute) _ _ 1 (s2817.2.toNat * 2) 1 rfl (by kernel_rfl) (by kernel_rfl) (h2805.mem0 M2822) hy2831) ?_
        refine W_val (.int .i64 y2831.Target) w2821 (by kernel_rfl) (E_loadE (E := encRoute) _ _ false 1 s2817.2 1 (s2817.2.toNat * 2 + 1) y2831 (.int .i64 y2831.Target) rfl (by kernel_rfl) (by kernel_rfl) (by kernel_rfl) (h2805.mem0 M2822) hy2831 rfl) ?_
        refine W_run 2 [(0, .slice p2803 x2801.length c2804), (1, .int .i64 (w64 (s2817.1 + 1))), (5, .int .i64 s2817.2), (27, .bool (y2831.Target != (w64 (s2817.1 + 1))))] w2821 (by kernel_rfl) ?_
        refine W_nil ?_
        refine N_then ?_
        rcases gx_bif hm with ⟨hc2832, hm⟩ | ⟨hc2832, hm⟩
        · refine G_cond_t (b := (y2831.Target != (w64 (s2817.1 + 1)))) hc2832 (by kernel_rfl) ?_
          refine G_seq ?_
          refine G_region ?_
          refine W_run 1 [(4, .int .i64 (-1))] w2821 (by kernel_rfl) ?_
          refine W_nil ?_
          refine N_then ?_
          refine G_ret ?_
          refine N_then_ret ?_
          refine N_block_ret ?_
          refine N_then_ret ?_
          refine N_then_ret ?_
          obtain rfl := Option.some.inj hm
          obtain rfl := hout2819 _ rfl
          have hm := hmo2826; simp only [Sum.elim_inr] at hm
          refine N_block_ret ?_
          refine N_meet_ret ?_
          refine N_then_ret ?_
          obtain rfl := Option.some.inj hm
          refine N_ret [.int .i64 (-1)] (RVs_cons (RV_tmp (by kernel_rfl)) RVs_nil) ?_
          exact ⟨rfl, M2822.pick [] (by kernel_rfl)⟩
        · refine G_cond_f (b := (y2831.Target != (w64 (s2817.1 + 1)))) hc2832 (by kernel_rfl) ?_
          refine G_skip ?_
          refine N_then ?_
          refine G_region ?_
          refine W_run 3 [(0, .slice p2803 x2801.length c2804), (1, .int .i64 (w64 ((w64 (s2817.1 + 1)) + 1))), (5, .int .i64 s2817.2)] w2821 (by kernel_rfl) ?_
          refine W_nil ?_
          refine N_block ?_
          refine N_then ?_
          refine G_region ?_
          refine W_run 3 [(0, .slice p2803 x2801.length c2804), (1, .int .i64 (w64 ((w64 (s2817.1 + 1)) + 1))), (5, .int .i64 (w64 (s2817.2 + 1)))] w2821 (by kernel_rfl) ?_
          refine W_nil ?_
          obtain rfl := Option.some.inj hm
          exact N_loop fun a ha => ⟨_, rfl, M2822.pick [] (by kernel_rfl), ha.sub (by kernel_rfl)⟩
    · refine G_cond_f (b := (decide (s2817.2 < (x2801.length : Int)))) hc2828 (by kernel_rfl) ?_
      refine G_exit ?_
      refine N_then_exit ?_
      refine N_then_exit ?_
      refine N_block_eq ?_
      obtain rfl := Option.some.inj hm
      obtain rfl := hout2819 _ rfl
      exact N_meet fun a ha => ⟨_, rfl, M2822.pick [] (by kernel_rfl), ha.sub (by kernel_rfl)⟩
  · intro a2833 w2834 ⟨o2827, hout_, M2835, hS2836⟩
    refine N_use hS2836 ?_
    subst hout_
    have hm := hmo2826; simp only [Sum.elim_inl] at hm
    refine N_then ?_
    refine G_seq ?_
    refine G_region ?_
    refine W_run 2 [(4, .int .i64 o2827)] w2834 (by kernel_rfl) ?_
    refine W_nil ?_
    refine N_then ?_
    refine G_ret ?_
    obtain rfl := Option.some.inj hm
    refine N_ret [.int .i64 o2827] (RVs_cons (RV_tmp (by kernel_rfl)) RVs_nil) ?_
    exact ⟨rfl, M2835.pick [] (by kernel_rfl)⟩
theorem c_l_heldBoolS (w : World) (x2842 : List Bool) (p2844 : Option Addr) (c2845 : Nat) (h2846 : rdS encB w x2842 p2844 c2845) (x2847 : Int) {r : Int} (hm : M.l_heldBoolS x2842 x2847 = some r) :
    Calls Try.prog 22 #[.slice p2844 x2842.length c2845, .int .i64 x2847] w fun e w' => e = .returned (.int .i64 r) ∧ Mem [] w w' [] := by
  unfold M.l_heldBoolS at hm
  refine C_enter Try.func22 rfl (by kernel_rfl) ?_
  have M0 := Mem.refl [] w
  refine G_seq ?_
  refine G_region ?_
  refine W_run 1 [(0, .slice p2844 x2842.length c2845), (1, .int .i64 x2847)] w (by kernel_rfl) ?_
  refine W_nil ?_
  refine N_then ?_
  refine G_seq ?_
  refine G_seq ?_
  refine G_region ?_
  refine W_run 1 [(0, .slice p2844 x2842.length c2845), (1, .int .i64 x2847), (5, .int .i64 0)] w (by kernel_rfl) ?_
  refine W_nil ?_
  refine N_then ?_
  obtain ⟨out2861, hw2862, hmo2863⟩ := gx_bind hm
  refine G_meet (fun a w' => ∃ (o2864 : Int), out2861 = .inl o2864 ∧ Mem [] w w' [] ∧ Sat Try.f22.ntmps [(1, .int .i64 o2864)] a) ?_ ?_
  · refine G_block ?_
    refine G_while (σ := Int × Int) (ρ := (Int) ⊕ (Int)) (fun s2854 a w' => Mem [] w w' [] ∧ Sat Try.f22.ntmps [(0, .slice p2844 x2842.length c2845), (1, .int .i64 s2854.1), (5, .int .i64 s2854.2)] a) hw2862 (fun a ha => ⟨M0.pick [] (by kernel_rfl), ha.sub (by kernel_rfl)⟩) ?_
    clear hm
    intro s2854 x2855 hm hout2856 a2857 w2858 ⟨M2859, hS2860⟩
    refine G_use hS2860 ?_
    refine G_seq ?_
    refine G_seq ?_
    refine G_region ?_
    refine W_run 4 [(0, .slice p2844 x2842.length c2845), (1, .int .i64 s2854.1), (5, .int .i64 s2854.2), (9, .bool (decide (s2854.2 < (x2842.length : Int))))] w2858 (by kernel_rfl) ?_
    refine W_nil ?_
    refine N_then ?_
    rcases gx_bif hm with ⟨hc2865, hm⟩ | ⟨hc2865, hm⟩
    · refine G_cond_t (b := (decide (s2854.2 < (x2842.length : Int)))) hc2865 (by kernel_rfl) ?_
      refine G_skip ?_
      refine N_then ?_
      refine G_seq ?_
      refine G_block ?_
      refine G_seq ?_
      refine G_seq ?_
      refine G_region ?_
      refine W_run 2 [(0, .slice p2844 x2842.length c2845), (1, .int .i64 s2854.1), (5, .int .i64 s2854.2), (12, .slice p2844 x2842.length c2845), (13, .int .i64 s2854.2)] w2858 (by kernel_rfl) ?_
      obtain ⟨y2866, hy2866, hm⟩ := gx_bind hm
      refine W_val (elemP p2844 (s2854.2.toNat * 1)) w2858 (by kernel_rfl) (E_index (E := encB) _ _ _ x2842.length c2845 .i64 s2854.2 1 (y := y2866) rfl (by kernel_rfl) (by kernel_rfl) (by kernel_rfl) (h2846.mem0 M2859) rfl hy2866) ?_
      refine W_val (.bool y2866) w2858 (by kernel_rfl) (E_loadE (E := encB) _ _ false 1 s2854.2 0 (s2854.2.toNat * 1) y2866 (.bool y2866) rfl (by kernel_rfl) (by kernel_rfl) (by kernel_rfl) (h2846.mem0 M2859) hy2866 rfl) ?_
      refine W_run 4 [(0, .slice p2844 x2842.length c2845), (1, .int .i64 s2854.1), (5, .int .i64 s2854.2), (19, .bool (!(y2866 == ((s2854.1.tmod 3) == 0))))] w2858 (by kernel_rfl) ?_
      refine W_nil ?_
      refine N_then ?_
      rcases gx_bif hm with ⟨hc2867, hm⟩ | ⟨hc2867, hm⟩
      · refine G_cond_t (b := (!(y2866 == ((s2854.1.tmod 3) == 0)))) hc2867 (by kernel_rfl) ?_
        refine G_seq ?_
        refine G_region ?_
        refine W_run 1 [(4, .int .i64 (-1))] w2858 (by kernel_rfl) ?_
        refine W_nil ?_
        refine N_then ?_
        refine G_ret ?_
        refine N_then_ret ?_
        refine N_block_ret ?_
        refine N_then_ret ?_
        refine N_then_ret ?_
        obtain rfl := Option.some.inj hm
        obtain rfl := hout2856 _ rfl
        have hm := hmo2863; simp only [Sum.elim_inr] at hm
        refine N_block_ret ?_
        refine N_meet_ret ?_
        refine N_then_ret ?_
        obtain rfl := Option.some.inj hm
        refine N_ret [.int .i64 (-1)] (RVs_cons (RV_tmp (by kernel_rfl)) RVs_nil) ?_
        exact ⟨rfl, M2859.pick [] (by kernel_rfl)⟩
      · refine G_cond_f (b := (!(y2866 == ((s2854.1.tmod 3) == 0)))) hc2867 (by kernel_rfl) ?_
        refine G_skip ?_
        refine N_then ?_
        refine G_region ?_
        refine W_run 3 [(0, .slice p2844 x2842.length c2845), (1, .int .i64 (w64 (s2854.1 + 1))), (5, .int .i64 s2854.2)] w2858 (by kernel_rfl) ?_
        refine W_nil ?_
        refine N_block ?_
        refine N_then ?_
        refine G_region ?_
        refine W_run 3 [(0, .slice p2844 x2842.length c2845), (1, .int .i64 (w64 (s2854.1 + 1))), (5, .int .i64 (w64 (s2854.2 + 1)))] w2858 (by kernel_rfl) ?_
        refine W_nil ?_
        obtain rfl := Option.some.inj hm
        exact N_loop fun a ha => ⟨_, rfl, M2859.pick [] (by kernel_rfl), ha.sub (by kernel_rfl)⟩
    · refine G_cond_f (b := (decide (s2854.2 < (x2842.length : Int)))) hc2865 (by kernel_rfl) ?_
      refine G_exit ?_
      refine N_then_exit ?_
      refine N_then_exit ?_
      refine N_block_eq ?_
      obtain rfl := Option.some.inj hm
      obtain rfl := hout2856 _ rfl
      exact N_meet fun a ha => ⟨_, rfl, M2859.pick [] (by kernel_rfl), ha.sub (by kernel_rfl)⟩
  · intro a2868 w2869 ⟨o2864, hout_, M2870, hS2871⟩
    refine N_use hS2871 ?_
    subst hout_
    have hm := hmo2863; simp only [Sum.elim_inl] at hm
    refine N_then ?_
    refine G_seq ?_
    refine G_region ?_
    refine W_run 2 [(4, .int .i64 o2864)] w2869 (by kernel_rfl) ?_
    refine W_nil ?_
    refine N_then ?_
    refine G_ret ?_
    obtain rfl := Option.some.inj hm
    refine N_ret [.int .i64 o2864] (RVs_cons (RV_tmp (by kernel_rfl)) RVs_nil) ?_
    exact ⟨rfl, M2870.pick [] (by kernel_rfl)⟩
theorem c_l_heldIntS (w : World) (x2906 : List Int) (p2908 : Option Addr) (c2909 : Nat) (h2910 : rdS encI w x2906 p2908 c2909) (x2911 : Int) {r : Int} (hm : M.l_heldIntS x2906 x2911 = some r) :
    Calls Try.prog 34 #[.slice p2908 x2906.length c2909, .int .i64 x2911] w fun e w' => e = .returned (.int .i64 r) ∧ Mem [] w w' [] := by
  unfold M.l_heldIntS at hm
  refine C_enter Try.func34 rfl (by kernel_rfl) ?_
  have M0 := Mem.refl [] w
  refine G_seq ?_
  refine G_region ?_
  refine W_run 1 [(0, .slice p2908 x2906.length c2909), (1, .int .i64 x2911)] w (by kernel_rfl) ?_
  refine W_nil ?_
  refine N_then ?_
  refine G_seq ?_
  refine G_seq ?_
  refine G_region ?_
  refine W_run 1 [(0, .slice p2908 x2906.length c2909), (1, .int .i64 x2911), (5, .int .i64 0)] w (by kernel_rfl) ?_
  refine W_nil ?_
  refine N_then ?_
  obtain ⟨out2925, hw2926, hmo2927⟩ := gx_bind hm
  refine G_meet (fun a w' => ∃ (o2928 : Int), out2925 = .inl o2928 ∧ Mem [] w w' [] ∧ Sat Try.f34.ntmps [(1, .int .i64 o2928)] a) ?_ ?_
  · refine G_block ?_
    refine G_while (σ := Int × Int) (ρ := (Int) ⊕ (Int)) (fun s2918 a w' => Mem [] w w' [] ∧ Sat Try.f34.ntmps [(0, .slice p2908 x2906.length c2909), (1, .int .i64 s2918.1), (5, .int .i64 s2918.2)] a) hw2926 (fun a ha => ⟨M0.pick [] (by kernel_rfl), ha.sub (by kernel_rfl)⟩) ?_
    clear hm
    intro s2918 x2919 hm hout2920 a2921 w2922 ⟨M2923, hS2924⟩
    refine G_use hS2924 ?_
    refine G_seq ?_
    refine G_seq ?_
    refine G_region ?_
    refine W_run 4 [(0, .slice p2908 x2906.length c2909), (1, .int .i64 s2918.1), (5, .int .i64 s2918.2), (9, .bool (decide (s2918.2 < (x2906.length : Int))))] w2922 (by kernel_rfl) ?_
    refine W_nil ?_
    refine N_then ?_
    rcases gx_bif hm with ⟨hc2929, hm⟩ | ⟨hc2929, hm⟩
    · refine G_cond_t (b := (decide (s2918.2 < (x2906.length : Int)))) hc2929 (by kernel_rfl) ?_
      refine G_skip ?_
      refine N_then ?_
      refine G_seq ?_
      refine G_block ?_
      refine G_seq ?_
      refine G_seq ?_
      refine G_region ?_
      refine W_run 2 [(0, .slice p2908 x2906.length c2909), (1, .int .i64 s2918.1), (5, .int .i64 s2918.2), (12, .slice p2908 x2906.length c2909), (13, .int .i64 s2918.2)] w2922 (by kernel_rfl) ?_
      obtain ⟨y2930, hy2930, hm⟩ := gx_bind hm
      refine W_val (elemP p2908 (s2918.2.toNat * 1)) w2922 (by kernel_rfl) (E_index (E := encI) _ _ _ x2906.length c2909 .i64 s2918.2 1 (y := y2930) rfl (by kernel_rfl) (by kernel_rfl) (by kernel_rfl) (h2910.mem0 M2923) rfl hy2930) ?_
      refine W_val (.int .i64 y2930) w2922 (by kernel_rfl) (E_loadE (E := encI) _ _ false 1 s2918.2 0 (s2918.2.toNat * 1) y2930 (.int .i64 y2930) rfl (by kernel_rfl) (by kernel_rfl) (by kernel_rfl) (h2910.mem0 M2923) hy2930 rfl) ?_
      refine W_run 2 [(0, .slice p2908 x2906.length c2909), (1, .int .i64 s2918.1), (5, .int .i64 s2918.2), (17, .bool (y2930 != s2918.1))] w2922 (by kernel_rfl) ?_
      refine W_nil ?_
      refine N_then ?_
      rcases gx_bif hm with ⟨hc2931, hm⟩ | ⟨hc2931, hm⟩
      · refine G_cond_t (b := (y2930 != s2918.1)) hc2931 (by kernel_rfl) ?_
        refine G_seq ?_
        refine G_region ?_
        refine W_run 1 [(4, .int .i64 (-1))] w2922 (by kernel_rfl) ?_
        refine W_nil ?_
        refine N_then ?_
        refine G_ret ?_
        refine N_then_ret ?_
        refine N_block_ret ?_
        refine N_then_ret ?_
        refine N_then_ret ?_
        obtain rfl := Option.some.inj hm
        obtain rfl := hout2920 _ rfl
        have hm := hmo2927; simp only [Sum.elim_inr] at hm
        refine N_block_ret ?_
        refine N_meet_ret ?_
        refine N_then_ret ?_
        obtain rfl := Option.some.inj hm
        refine N_ret [.int .i64 (-1)] (RVs_cons (RV_tmp (by kernel_rfl)) RVs_nil) ?_
        exact ⟨rfl, M2923.pick [] (by kernel_rfl)⟩
      · refine G_cond_f (b := (y2930 != s2918.1)) hc2931 (by kernel_rfl) ?_
        refine G_skip ?_
        refine N_then ?_
        refine G_region ?_
        refine W_run 3 [(0, .slice p2908 x2906.length c2909), (1, .int .i64 (w64 (s2918.1 + 1))), (5, .int .i64 s2918.2)] w2922 (by kernel_rfl) ?_
        refine W_nil ?_
        refine N_block ?_
        refine N_then ?_
        refine G_region ?_
        refine W_run 3 [(0, .slice p2908 x2906.length c2909), (1, .int .i64 (w64 (s2918.1 + 1))), (5, .int .i64 (w64 (s2918.2 + 1)))] w2922 (by kernel_rfl) ?_
        refine W_nil ?_
        obtain rfl := Option.some.inj hm
        exact N_loop fun a ha => ⟨_, rfl, M2923.pick [] (by kernel_rfl), ha.sub (by kernel_rfl)⟩
    · refine G_cond_f (b := (decide (s2918.2 < (x2906.length : Int)))) hc2929 (by kernel_rfl) ?_
      refine G_exit ?_
      refine N_then_exit ?_
      refine N_then_exit ?_
      refine N_block_eq ?_
      obtain rfl := Option.some.inj hm
      obtain rfl := hout2920 _ rfl
      exact N_meet fun a ha => ⟨_, rfl, M2923.pick [] (by kernel_rfl), ha.sub (by kernel_rfl)⟩
  · intro a2932 w2933 ⟨o2928, hout_, M2934, hS2935⟩
    refine N_use hS2935 ?_
    subst hout_
    have hm := hmo2927; simp only [Sum.elim_inl] at hm
    refine N_then ?_
    refine G_seq ?_
    refine G_region ?_
    refine W_run 2 [(4, .int .i64 o2928)] w2933 (by kernel_rfl) ?_
    refine W_nil ?_
    refine N_then ?_
    refine G_ret ?_
    obtain rfl := Option.some.inj hm
    refine N_ret [.int .i64 o2928] (RVs_cons (RV_tmp (by kernel_rfl)) RVs_nil) ?_
    exact ⟨rfl, M2934.pick [] (by kernel_rfl)⟩
theorem c_l_heldSlotS (w : World) (x2947 : List Slot) (p2949 : Option Addr) (c2950 : Nat) (h2951 : rdS encSlot w x2947 p2949 c2950) (x2952 : Int) {r : Int} (hm : M.l_heldSlotS x2947 x2952 = some r) :
    Calls Try.prog 35 #[.slice p2949 x2947.length c2950, .int .i64 x2952] w fun e w' => e = .returned (.int .i64 r) ∧ Mem [] w w' [] := by
  unfold M.l_heldSlotS at hm
  refine C_enter Try.func35 rfl (by kernel_rfl) ?_
  have M0 := Mem.refl [] w
  refine G_seq ?_
  refine G_region ?_
  refine W_run 1 [(0, .slice p2949 x2947.length c2950), (1, .int .i64 x2952)] w (by kernel_rfl) ?_
  refine W_nil ?_
  refine N_then ?_
  refine G_seq ?_
  refine G_seq ?_
  refine G_region ?_
  refine W_run 1 [(0, .slice p2949 x2947.length c2950), (1, .int .i64 x2952), (5, .int .i64 0)] w (by kernel_rfl) ?_
  refine W_nil ?_
  refine N_then ?_
  obtain ⟨out2974, hw2975, hmo2976⟩ := gx_bind hm
  refine G_meet (fun a w' => ∃ (o2977 : Int), out2974 = .inl o2977 ∧ Mem [] w w' [] ∧ Sat Try.f35.ntmps [(1, .int .i64 o2977)] a) ?_ ?_
  · refine G_block ?_
    refine G_while (σ := Int × Int) (ρ := (Int) ⊕ (Int)) (fun s2967 a w' => Mem [] w w' [] ∧ Sat Try.f35.ntmps [(0, .slice p2949 x2947.length c2950), (1, .int .i64 s2967.1), (5, .int .i64 s2967.2)] a) hw2975 (fun a ha => ⟨M0.pick [] (by kernel_rfl), ha.sub (by kernel_rfl)⟩) ?_
    clear hm
    intro s2967 x2968 hm hout2969 a2970 w2971 ⟨M2972, hS2973⟩
    refine G_use hS2973 ?_
    refine G_seq ?_
    refine G_seq ?_
    refine G_region ?_
    refine W_run 4 [(0, .slice p2949 x2947.length c2950), (1, .int .i64 s2967.1), (5, .int .i64 s2967.2), (9, .bool (decide (s2967.2 < (x2947.length : Int))))] w2971 (by kernel_rfl) ?_
    refine W_nil ?_
    refine N_then ?_
    rcases gx_bif hm with ⟨hc2978, hm⟩ | ⟨hc2978, hm⟩
    · refine G_cond_t (b := (decide (s2967.2 < (x2947.length : Int)))) hc2978 (by kernel_rfl) ?_
      refine G_skip ?_
      refine N_then ?_
      refine G_seq ?_
      refine G_block ?_
      refine G_seq ?_
      refine G_seq ?_
      refine G_region ?_
      refine W_run 2 [(0, .slice p2949 x2947.length c2950), (1, .int .i64 s2967.1), (5, .int .i64 s2967.2), (12, .slice p2949 x2947.length c2950), (13, .int .i64 s2967.2)] w2971 (by kernel_rfl) ?_
      obtain ⟨y2979, hy2979, hm⟩ := gx_bind hm
      refine W_val (elemP p2949 (s2967.2.toNat * 3)) w2971 (by kernel_rfl) (E_index (E := encSlot) _ _ _ x2947.length c2950 .i64 s2967.2 3 (y := y2979) rfl (by kernel_rfl) (by kernel_rfl) (by kernel_rfl) (h2951.mem0 M2972) rfl hy2979) ?_
      refine W_val (elemP p2949 (s2967.2.toNat * 3 + 0)) w2971 (by kernel_rfl) (E_fieldE (E := encSlot) _ _ 0 (s2967.2.toNat * 3) 0 rfl (by kernel_rfl) (by kernel_rfl) (h2951.mem0 M2972) hy2979) ?_
      refine W_val (.int .i64 y2979.State) w2971 (by kernel_rfl) (E_loadE (E := encSlot) _ _ false 1 s2967.2 0 (s2967.2.toNat * 3 + 0) y2979 (.int .i64 y2979.State) rfl (by kernel_rfl) (by kernel_rfl) (by kernel_rfl) (h2951.mem0 M2972) hy2979 rfl) ?_
      refine W_run 2 [(0, .slice p2949 x2947.length c2950), (1, .int .i64 s2967.1), (5, .int .i64 s2967.2), (18, .bool (y2979.State != s2967.1))] w2971 (by kernel_rfl) ?_
      refine W_nil ?_
      refine N_then ?_
      rcases gx_bif hm with ⟨hc2980, hm⟩ | ⟨hc2980, hm⟩
      · refine G_cond_t (b := (y2979.State != s2967.1)) hc2980 (by kernel_rfl) ?_
        refine G_seq ?_
        refine G_region ?_
        refine W_run 1 [(4, .int .i64 (-1))] w2971 (by kernel_rfl) ?_
        refine W_nil ?_
        refine N_then ?_
        refine G_ret ?_
        refine N_then_ret ?_
        refine N_block_ret ?_
        refine N_then_ret ?_
        refine N_then_ret ?_
        obtain rfl := Option.some.inj hm
        obtain rfl := hout2969 _ rfl
        have hm := hmo2976; simp only [Sum.elim_inr] at hm
        refine N_block_ret ?_
        refine N_meet_ret ?_
        refine N_then_ret ?_
        obtain rfl := Option.some.inj hm
        refine N_ret [.int .i64 (-1)] (RVs_cons (RV_tmp (by kernel_rfl)) RVs_nil) ?_
        exact ⟨rfl, M2972.pick [] (by kernel_rfl)⟩
      · refine G_cond_f (b := (y2979.State != s2967.1)) hc2980 (by kernel_rfl) ?_
        refine G_skip ?_
        refine N_then ?_
        refine G_seq ?_
        refine G_region ?_
        refine W_run 3 [(0, .slice p2949 x2947.length c2950), (1, .int .i64 (w64 (s2967.1 + 1))), (5, .int .i64 s2967.2)] w2971 (by kernel_rfl) ?_
        refine W_nil ?_
        refine N_then ?_
        refine G_seq ?_
        refine G_seq ?_
        refine G_region ?_
        refine W_run 2 [(0, .slice p2949 x2947.length c2950), (1, .int .i64 (w64 (s2967.1 + 1))), (5, .int .i64 s2967.2), (21, .slice p2949 x2947.length c2950), (22, .int .i64 s2967.2)] w2971 (by kernel_rfl) ?_
        obtain ⟨y2981, hy2981, hm⟩ := gx_bind hm
        refine W_val (elemP p2949 (s2967.2.toNat * 3)) w2971 (by kernel_rfl) (E_index (E := encSlot) _ _ _ x2947.length c2950 .i64 s2967.2 3 (y := y2981) rfl (by kernel_rfl) (by kernel_rfl) (by kernel_rfl) (h2951.mem0 M2972) rfl hy2981) ?_
        refine W_val (elemP p2949 (s2967.2.toNat * 3 + 1)) w2971 (by kernel_rfl) (E_fieldE (E := encSlot) _ _ 1 (s2967.2.toNat * 3) 1 rfl (by kernel_rfl) (by kernel_rfl) (h2951.mem0 M2972) hy2981) ?_
        refine W_val (.int .i64 y2981.Irq) w2971 (by kernel_rfl) (E_loadE (E := encSlot) _ _ false 1 s2967.2 1 (s2967.2.toNat * 3 + 1) y2981 (.int .i64 y2981.Irq) rfl (by kernel_rfl) (by kernel_rfl) (by kernel_rfl) (h2951.mem0 M2972) hy2981 rfl) ?_
        refine W_run 2 [(0, .slice p2949 x2947.length c2950), (1, .int .i64 (w64 (s2967.1 + 1))), (5, .int .i64 s2967.2), (27, .bool (y2981.Irq != (w64 (s2967.1 + 1))))] w2971 (by kernel_rfl) ?_
        refine W_nil ?_
        refine N_then ?_
        rcases gx_bif hm with ⟨hc2982, hm⟩ | ⟨hc2982, hm⟩
        · refine G_cond_t (b := (y2981.Irq != (w64 (s2967.1 + 1)))) hc2982 (by kernel_rfl) ?_
          refine G_seq ?_
          refine G_region ?_
          refine W_run 1 [(4, .int .i64 (-1))] w2971 (by kernel_rfl) ?_
          refine W_nil ?_
          refine N_then ?_
          refine G_ret ?_
          refine N_then_ret ?_
          refine N_block_ret ?_
          refine N_then_ret ?_
          refine N_then_ret ?_
          obtain rfl := Option.some.inj hm
          obtain rfl := hout2969 _ rfl
          have hm := hmo2976; simp only [Sum.elim_inr] at hm
          refine N_block_ret ?_
          refine N_meet_ret ?_
          refine N_then_ret ?_
          obtain rfl := Option.some.inj hm
          refine N_ret [.int .i64 (-1)] (RVs_cons (RV_tmp (by kernel_rfl)) RVs_nil) ?_
          exact ⟨rfl, M2972.pick [] (by kernel_rfl)⟩
        · refine G_cond_f (b := (y2981.Irq != (w64 (s2967.1 + 1)))) hc2982 (by kernel_rfl) ?_
          refine G_skip ?_
          refine N_then ?_
          refine G_seq ?_
          refine G_region ?_
          refine W_run 3 [(0, .slice p2949 x2947.length c2950), (1, .int .i64 (w64 ((w64 (s2967.1 + 1)) + 1))), (5, .int .i64 s2967.2)] w2971 (by kernel_rfl) ?_
          refine W_nil ?_
          refine N_then ?_
          refine G_seq ?_
          refine G_seq ?_
          refine G_region ?_
          refine W_run 2 [(0, .slice p2949 x2947.length c2950), (1, .int .i64 (w64 ((w64 (s2967.1 + 1)) + 1))), (5, .int .i64 s2967.2), (30, .slice p2949 x2947.length c2950), (31, .int .i64 s2967.2)] w2971 (by kernel_rfl) ?_
          obtain ⟨y2983, hy2983, hm⟩ := gx_bind hm
          refine W_val (elemP p2949 (s2967.2.toNat * 3)) w2971 (by kernel_rfl) (E_index (E := encSlot) _ _ _ x2947.length c2950 .i64 s2967.2 3 (y := y2983) rfl (by kernel_rfl) (by kernel_rfl) (by kernel_rfl) (h2951.mem0 M2972) rfl hy2983) ?_
          refine W_val (elemP p2949 (s2967.2.toNat * 3 + 2)) w2971 (by kernel_rfl) (E_fieldE (E := encSlot) _ _ 2 (s2967.2.toNat * 3) 2 rfl (by kernel_rfl) (by kernel_rfl) (h2951.mem0 M2972) hy2983) ?_
          refine W_val (.int .i64 y2983.Priority) w2971 (by kernel_rfl) (E_loadE (E := encSlot) _ _ false 1 s2967.2 2 (s2967.2.toNat * 3 + 2) y2983 (.int .i64 y2983.Priority) rfl (by kernel_rfl) (by kernel_rfl) (by kernel_rfl) (h2951.mem0 M2972) hy2983 rfl) ?_
          refine W_run 2 [(0, .slice p2949 x2947.length c2950), (1, .int .i64 (w64 ((w64 (s2967.1 + 1)) + 1))), (5, .int .i64 s2967.2), (36, .bool (y2983.Priority != (w64 ((w64 (s2967.1 + 1)) + 1))))] w2971 (by kernel_rfl) ?_
          refine W_nil ?_
          refine N_then ?_
          rcases gx_bif hm with ⟨hc2984, hm⟩ | ⟨hc2984, hm⟩
          · refine G_cond_t (b := (y2983.Priority != (w64 ((w64 (s2967.1 + 1)) + 1)))) hc2984 (by kernel_rfl) ?_
            refine G_seq ?_
            refine G_region ?_
            refine W_run 1 [(4, .int .i64 (-1))] w2971 (by kernel_rfl) ?_
            refine W_nil ?_
            refine N_then ?_
            refine G_ret ?_
            refine N_then_ret ?_
            refine N_block_ret ?_
            refine N_then_ret ?_
            refine N_then_ret ?_
            obtain rfl := Option.some.inj hm
            obtain rfl := hout2969 _ rfl
            have hm := hmo2976; simp only [Sum.elim_inr] at hm
            refine N_block_ret ?_
            refine N_meet_ret ?_
            refine N_then_ret ?_
            obtain rfl := Option.some.inj hm
            refine N_ret [.int .i64 (-1)] (RVs_cons (RV_tmp (by kernel_rfl)) RVs_nil) ?_
            exact ⟨rfl, M2972.pick [] (by kernel_rfl)⟩
          · refine G_cond_f (b := (y2983.Priority != (w64 ((w64 (s2967.1 + 1)) + 1)))) hc2984 (by kernel_rfl) ?_
            refine G_skip ?_
            refine N_then ?_
            refine G_region ?_
            refine W_run 3 [(0, .slice p2949 x2947.length c2950), (1, .int .i64 (w64 ((w64 ((w64 (s2967.1 + 1)) + 1)) + 1))), (5, .int .i64 s2967.2)] w2971 (by kernel_rfl) ?_
            refine W_nil ?_
            refine N_block ?_
            refine N_then ?_
            refine G_region ?_
            refine W_run 3 [(0, .slice p2949 x2947.length c2950), (1, .int .i64 (w64 ((w64 ((w64 (s2967.1 + 1)) + 1)) + 1))), (5, .int .i64 (w64 (s2967.2 + 1)))] w2971 (by kernel_rfl) ?_
            refine W_nil ?_
            obtain rfl := Option.some.inj hm
            exact N_loop fun a ha => ⟨_, rfl, M2972.pick [] (by kernel_rfl), ha.sub (by kernel_rfl)⟩
    · refine G_cond_f (b := (decide (s2967.2 < (x2947.length : Int)))) hc2978 (by kernel_rfl) ?_
      refine G_exit ?_
      refine N_then_exit ?_
      refine N_then_exit ?_
      refine N_block_eq ?_
      obtain rfl := Option.some.inj hm
      obtain rfl := hout2969 _ rfl
      exact N_meet fun a ha => ⟨_, rfl, M2972.pick [] (by kernel_rfl), ha.sub (by kernel_rfl)⟩
  · intro a2985 w2986 ⟨o2977, hout_, M2987, hS2988⟩
    refine N_use hS2988 ?_
    subst hout_
    have hm := hmo2976; simp only [Sum.elim_inl] at hm
    refine N_then ?_
    refine G_seq ?_
    refine G_region ?_
    refine W_run 2 [(4, .int .i64 o2977)] w2986 (by kernel_rfl) ?_
    refine W_nil ?_
    refine N_then ?_
    refine G_ret ?_
    obtain rfl := Option.some.inj hm
    refine N_ret [.int .i64 o2977] (RVs_cons (RV_tmp (by kernel_rfl)) RVs_nil) ?_
    exact ⟨rfl, M2987.pick [] (by kernel_rfl)⟩
theorem c_l_heldWaiterS (w : World) (x3000 : List Waiter) (p3002 : Option Addr) (c3003 : Nat) (h3004 : rdS encWaiter w x3000 p3002 c3003) (x3005 : Int) {r : Int} (hm : M.l_heldWaiterS x3000 x3005 = some r) :
    Calls Try.prog 36 #[.slice p3002 x3000.length c3003, .int .i64 x3005] w fun e w' => e = .returned (.int .i64 r) ∧ Mem [] w w' [] := by
  unfold M.l_heldWaiterS at hm
  refine C_enter Try.func36 rfl (by kernel_rfl) ?_
  have M0 := Mem.refl [] w
  refine G_seq ?_
  refine G_region ?_
  refine W_run 1 [(0, .slice p3002 x3000.length c3003), (1, .int .i64 x3005)] w (by kernel_rfl) ?_
  refine W_nil ?_
  refine N_then ?_
  refine G_seq ?_
  refine G_seq ?_
  refine G_region ?_
  refine W_run 1 [(0, .slice p3002 x3000.length c3003), (1, .int .i64 x3005), (5, .int .i64 0)] w (by kernel_rfl) ?_
  refine W_nil ?_
  refine N_then ?_
  obtain ⟨out3023, hw3024, hmo3025⟩ := gx_bind hm
  refine G_meet (fun a w' => ∃ (o3026 : Int), out3023 = .inl o3026 ∧ Mem [] w w' [] ∧ Sat Try.f36.ntmps [(1, .int .i64 o3026)] a) ?_ ?_
  · refine G_block ?_
    refine G_while (σ := Int × Int) (ρ := (Int) ⊕ (Int)) (fun s3016 a w' => Mem [] w w' [] ∧ Sat Try.f36.ntmps [(0, .slice p3002 x3000.length c3003), (1, .int .i64 s3016.1), (5, .int .i64 s3016.2)] a) hw3024 (fun a ha => ⟨M0.pick [] (by kernel_rfl), ha.sub (by kernel_rfl)⟩) ?_
    clear hm
    intro s3016 x3017 hm hout3018 a3019 w3020 ⟨M3021, hS3022⟩
    refine G_use hS3022 ?_
    refine G_seq ?_
    refine G_seq ?_
    refine G_region ?_
    refine W_run 4 [(0, .slice p3002 x3000.length c3003), (1, .int .i64 s3016.1), (5, .int .i64 s3016.2), (9, .bool (decide (s3016.2 < (x3000.length : Int))))] w3020 (by kernel_rfl) ?_
    refine W_nil ?_
    refine N_then ?_
    rcases gx_bif hm with ⟨hc3027, hm⟩ | ⟨hc3027, hm⟩
    · refine G_cond_t (b := (decide (s3016.2 < (x3000.length : Int)))) hc3027 (by kernel_rfl) ?_
      refine G_skip ?_
      refine N_then ?_
      refine G_seq ?_
      refine G_block ?_
      refine G_seq ?_
      refine G_seq ?_
      refine G_region ?_
      refine W_run 2 [(0, .slice p3002 x3000.length c3003), (1, .int .i64 s3016.1), (5, .int .i64 s3016.2), (12, .slice p3002 x3000.length c3003), (13, .int .i64 s3016.2)] w3020 (by kernel_rfl) ?_
      obtain ⟨y3028, hy3028, hm⟩ := gx_bind hm
      refine W_val (elemP p3002 (s3016.2.toNat * 2)) w3020 (by kernel_rfl) (E_index (E := encWaiter) _ _ _ x3000.length c3003 .i64 s3016.2 2 (y := y3028) rfl (by kernel_rfl) (by kernel_rfl) (by kernel_rfl) (h3004.mem0 M3021) rfl hy3028) ?_
      refine W_val (elemP p3002 (s3016.2.toNat * 2 + 0)) w3020 (by kernel_rfl) (E_fieldE (E := encWaiter) _ _ 0 (s3016.2.toNat * 2) 0 rfl (by kernel_rfl) (by kernel_rfl) (h3004.mem0 M3021) hy3028) ?_
      refine W_val (.int .i64 y3028.Irq) w3020 (by kernel_rfl) (E_loadE (E := encWaiter) _ _ false 1 s3016.2 0 (s3016.2.toNat * 2 + 0) y3028 (.int .i64 y3028.Irq) rfl (by kernel_rfl) (by kernel_rfl) (by kernel_rfl) (h3004.mem0 M3021) hy3028 rfl) ?_
      refine W_run 2 [(0, .slice p3002 x3000.length c3003), (1, .int .i64 s3016.1), (5, .int .i64 s3016.2), (18, .bool (y3028.Irq != s3016.1))] w3020 (by kernel_rfl) ?_
      refine W_nil ?_
      refine N_then ?_
      rcases gx_bif hm with ⟨hc3029, hm⟩ | ⟨hc3029, hm⟩
      · refine G_cond_t (b := (y3028.Irq != s3016.1)) hc3029 (by kernel_rfl) ?_
        refine G_seq ?_
        refine G_region ?_
        refine W_run 1 [(4, .int .i64 (-1))] w3020 (by kernel_rfl) ?_
        refine W_nil ?_
        refine N_then ?_
        refine G_ret ?_
        refine N_then_ret ?_
        refine N_block_ret ?_
        refine N_then_ret ?_
        refine N_then_ret ?_
        obtain rfl := Option.some.inj hm
        obtain rfl := hout3018 _ rfl
        have hm := hmo3025; simp only [Sum.elim_inr] at hm
        refine N_block_ret ?_
        refine N_meet_ret ?_
        refine N_then_ret ?_
        obtain rfl := Option.some.inj hm
        refine N_ret [.int .i64 (-1)] (RVs_cons (RV_tmp (by kernel_rfl)) RVs_nil) ?_
        exact ⟨rfl, M3021.pick [] (by kernel_rfl)⟩
      · refine G_cond_f (b := (y3028.Irq != s3016.1)) hc3029 (by kernel_rfl) ?_
        refine G_skip ?_
        refine N_then ?_
        refine G_seq ?_
        refine G_region ?_
        refine W_run 3 [(0, .slice p3002 x3000.length c3003), (1, .int .i64 (w64 (s3016.1 + 1))), (5, .int .i64 s3016.2)] w3020 (by kernel_rfl) ?_
        refine W_nil ?_
        refine N_then ?_
        refine G_seq ?_
        refine G_seq ?_
        refine G_region ?_
        refine W_run 2 [(0, .slice p3002 x3000.length c3003), (1, .int .i64 (w64 (s3016.1 + 1))), (5, .int .i64 s3016.2), (21, .slice p3002 x3000.length c3003), (22, .int .i64 s3016.2)] w3020 (by kernel_rfl) ?_
        obtain ⟨y3030, hy3030, hm⟩ := gx_bind hm
        refine W_val (elemP p3002 (s3016.2.toNat * 2)) w3020 (by kernel_rfl) (E_index (E := encWaiter) _ _ _ x3000.length c3003 .i64 s3016.2 2 (y := y3030) rfl (by kernel_rfl) (by kernel_rfl) (by kernel_rfl) (h3004.mem0 M3021) rfl hy3030) ?_
        refine W_val (elemP p3002 (s3016.2.toNat * 2 + 1)) w3020 (by kernel_rfl) (E_fieldE (E := encWaiter) _ _ 1 (s3016.2.toNat * 2) 1 rfl (by kernel_rfl) (by kernel_rfl) (h3004.mem0 M3021) hy3030) ?_
        refine W_val (.int .i64 y3030.Priority) w3020 (by kernel_rfl) (E_loadE (E := encWaiter) _ _ false 1 s3016.2 1 (s3016.2.toNat * 2 + 1) y3030 (.int .i64 y3030.Priority) rfl (by kernel_rfl) (by kernel_rfl) (by kernel_rfl) (h3004.mem0 M3021) hy3030 rfl) ?_
        refine W_run 2 [(0, .slice p3002 x3000.length c3003), (1, .int .i64 (w64 (s3016.1 + 1))), (5, .int .i64 s3016.2), (27, .bool (y3030.Priority != (w64 (s3016.1 + 1))))] w3020 (by kernel_rfl) ?_
        refine W_nil ?_
        refine N_then ?_
        rcases gx_bif hm with ⟨hc3031, hm⟩ | ⟨hc3031, hm⟩
        · refine G_cond_t (b := (y3030.Priority != (w64 (s3016.1 + 1)))) hc3031 (by kernel_rfl) ?_
          refine G_seq ?_
          refine G_region ?_
          refine W_run 1 [(4, .int .i64 (-1))] w3020 (by kernel_rfl) ?_
          refine W_nil ?_
          refine N_then ?_
          refine G_ret ?_
          refine N_then_ret ?_
          refine N_block_ret ?_
          refine N_then_ret ?_
          refine N_then_ret ?_
          obtain rfl := Option.some.inj hm
          obtain rfl := hout3018 _ rfl
          have hm := hmo3025; simp only [Sum.elim_inr] at hm
          refine N_block_ret ?_
          refine N_meet_ret ?_
          refine N_then_ret ?_
          obtain rfl := Option.some.inj hm
          refine N_ret [.int .i64 (-1)] (RVs_cons (RV_tmp (by kernel_rfl)) RVs_nil) ?_
          exact ⟨rfl, M3021.pick [] (by kernel_rfl)⟩
        · refine G_cond_f (b := (y3030.Priority != (w64 (s3016.1 + 1)))) hc3031 (by kernel_rfl) ?_
          refine G_skip ?_
          refine N_then ?_
          refine G_region ?_
          refine W_run 3 [(0, .slice p3002 x3000.length c3003), (1, .int .i64 (w64 ((w64 (s3016.1 + 1)) + 1))), (5, .int .i64 s3016.2)] w3020 (by kernel_rfl) ?_
          refine W_nil ?_
          refine N_block ?_
          refine N_then ?_
          refine G_region ?_
          refine W_run 3 [(0, .slice p3002 x3000.length c3003), (1, .int .i64 (w64 ((w64 (s3016.1 + 1)) + 1))), (5, .int .i64 (w64 (s3016.2 + 1)))] w3020 (by kernel_rfl) ?_
          refine W_nil ?_
          obtain rfl := Option.some.inj hm
          exact N_loop fun a ha => ⟨_, rfl, M3021.pick [] (by kernel_rfl), ha.sub (by kernel_rfl)⟩
    · refine G_cond_f (b := (decide (s3016.2 < (x3000.length : Int)))) hc3027 (by kernel_rfl) ?_
      refine G_exit ?_
      refine N_then_exit ?_
      refine N_then_exit ?_
      refine N_block_eq ?_
      obtain rfl := Option.some.inj hm
      obtain rfl := hout3018 _ rfl
      exact N_meet fun a ha => ⟨_, rfl, M3021.pick [] (by kernel_rfl), ha.sub (by kernel_rfl)⟩
  · intro a3032 w3033 ⟨o3026, hout_, M3034, hS3035⟩
    refine N_use hS3035 ?_
    subst hout_
    have hm := hmo3025; simp only [Sum.elim_inl] at hm
    refine N_then ?_
    refine G_seq ?_
    refine G_region ?_
    refine W_run 2 [(4, .int .i64 o3026)] w3033 (by kernel_rfl) ?_
    refine W_nil ?_
    refine N_then ?_
    refine G_ret ?_
    obtain rfl := Option.some.inj hm
    refine N_ret [.int .i64 o3026] (RVs_cons (RV_tmp (by kernel_rfl)) RVs_nil) ?_
    exact ⟨rfl, M3034.pick [] (by kernel_rfl)⟩
theorem c_l_heldInterfaceS (w : World) (x2882 : List Interface) (p2884 : Option Addr) (c2885 : Nat) (h2886 : rdD deepInterface w x2882 p2884 c2885) (x2887 : Int) {r : Int} (hm : M.l_heldInterfaceS x2882 x2887 = some r) :
    Calls Try.prog 23 #[.slice p2884 x2882.length c2885, .int .i64 x2887] w fun e w' => e = .returned (.int .i64 r) ∧ Mem [] w w' [] := by
  unfold M.l_heldInterfaceS at hm
  refine C_enter Try.func23 rfl (by kernel_rfl) ?_
  have M0 := Mem.refl [] w
  refine G_seq ?_
  refine G_region ?_
  refine W_run 1 [(0, .slice p2884 x2882.length c2885), (1, .int .i64 x2887)] w (by kernel_rfl) ?_
  refine W_nil ?_
  refine N_then ?_
  refine G_seq ?_
  refine G_seq ?_
  refine G_region ?_
  refine W_run 1 [(0, .slice p2884 x2882.length c2885), (1, .int .i64 x2887), (5, .int .i64 0)] w (by kernel_rfl) ?_
  refine W_nil ?_
  refine N_then ?_
  obtain ⟨out3093, hw3094, hmo3095⟩ := gx_bind hm
  refine G_meet (fun a w' => ∃ (o3096 : Int), out3093 = .inl o3096 ∧ Mem [] w w' [] ∧ Sat Try.f23.ntmps [(1, .int .i64 o3096)] a) ?_ ?_
  · refine G_block ?_
    refine G_while (σ := Int × Int) (ρ := (Int) ⊕ (Int)) (fun s3086 a w' => Mem [] w w' [] ∧ Sat Try.f23.ntmps [(0, .slice p2884 x2882.length c2885), (1, .int .i64 s3086.1), (5, .int .i64 s3086.2)] a) hw3094 (fun a ha => ⟨M0.pick [] (by kernel_rfl), ha.sub (by kernel_rfl)⟩) ?_
    clear hm
    intro s3086 x3087 hm hout3088 a3089 w3090 ⟨M3091, hS3092⟩
    refine G_use hS3092 ?_
    refine G_seq ?_
    refine G_seq ?_
    refine G_region ?_
    refine W_run 4 [(0, .slice p2884 x2882.length c2885), (1, .int .i64 s3086.1), (5, .int .i64 s3086.2), (9, .bool (decide (s3086.2 < (x2882.length : Int))))] w3090 (by kernel_rfl) ?_
    refine W_nil ?_
    refine N_then ?_
    rcases gx_bif hm with ⟨hc3097, hm⟩ | ⟨hc3097, hm⟩
    · refine G_cond_t (b := (decide (s3086.2 < (x2882.length : Int)))) hc3097 (by kernel_rfl) ?_
      refine G_skip ?_
      refine N_then ?_
      refine G_seq ?_
      refine G_block ?_
      refine G_seq ?_
      refine G_seq ?_
      refine G_region ?_
      refine W_run 2 [(0, .slice p2884 x2882.length c2885), (1, .int .i64 s3086.1), (5, .int .i64 s3086.2), (12, .slice p2884 x2882.length c2885), (13, .int .i64 s3086.2)] w3090 (by kernel_rfl) ?_
      obtain ⟨y3098, hy3098, hm⟩ := gx_bind hm
      obtain ⟨zs3099, hz3100, hr3101, hi3102⟩ := id h2886
      obtain ⟨g3103, hg3104⟩ := gxIdx_fst hz3100 hy3098
      refine W_val (elemP p2884 (s3086.2.toNat * 4)) w3090 (by kernel_rfl) (E_index (E := deepInterface.E) _ _ _ x2882.length c2885 .i64 s3086.2 4 (y := (y3098, g3103)) rfl (by kernel_rfl) (by kernel_rfl) (by kernel_rfl) (hr3101.mem0 M3091) (len_fst hz3100) hg3104) ?_
      refine W_val (elemP p2884 (s3086.2.toNat * 4 + 0)) w3090 (by kernel_rfl) (E_fieldE (E := deepInterface.E) _ _ 0 (s3086.2.toNat * 4) 0 rfl (by kernel_rfl) (by kernel_rfl) (hr3101.mem0 M3091) hg3104) ?_
      refine W_val (.int .i64 y3098.Mask) w3090 (by kernel_rfl) (E_loadE (E := deepInterface.E) _ _ false 1 s3086.2 0 (s3086.2.toNat * 4 + 0) (y3098, g3103) (.int .i64 y3098.Mask) rfl (by kernel_rfl) (by kernel_rfl) (by kernel_rfl) (hr3101.mem0 M3091) hg3104 rfl) ?_
      refine W_run 2 [(0, .slice p2884 x2882.length c2885), (1, .int .i64 s3086.1), (5, .int .i64 s3086.2), (18, .bool (y3098.Mask != s3086.1))] w3090 (by kernel_rfl) ?_
      refine W_nil ?_
      refine N_then ?_
      rcases gx_bif hm with ⟨hc3108, hm⟩ | ⟨hc3108, hm⟩
      · refine G_cond_t (b := (y3098.Mask != s3086.1)) hc3108 (by kernel_rfl) ?_
        refine G_seq ?_
        refine G_region ?_
        refine W_run 1 [(4, .int .i64 (-1))] w3090 (by kernel_rfl) ?_
        refine W_nil ?_
        refine N_then ?_
        refine G_ret ?_
        refine N_then_ret ?_
        refine N_block_ret ?_
        refine N_then_ret ?_
        refine N_then_ret ?_
        obtain rfl := Option.some.inj hm
        obtain rfl := hout3088 _ rfl
        have hm := hmo3095; simp only [Sum.elim_inr] at hm
        refine N_block_ret ?_
        refine N_meet_ret ?_
        refine N_then_ret ?_
        obtain rfl := Option.some.inj hm
        refine N_ret [.int .i64 (-1)] (RVs_cons (RV_tmp (by kernel_rfl)) RVs_nil) ?_
        exact ⟨rfl, M3091.pick [] (by kernel_rfl)⟩
      · refine G_cond_f (b := (y3098.Mask != s3086.1)) hc3108 (by kernel_rfl) ?_
        refine G_skip ?_
        refine N_then ?_
        refine G_seq ?_
        refine G_region ?_
        refine W_run 3 [(0, .slice p2884 x2882.length c2885), (1, .int .i64 (w64 (s3086.1 + 1))), (5, .int .i64 s3086.2)] w3090 (by kernel_rfl) ?_
        refine W_nil ?_
        refine N_then ?_
        refine G_seq ?_
        refine G_region ?_
        refine W_run 2 [(0, .slice p2884 x2882.length c2885), (1, .int .i64 (w64 (s3086.1 + 1))), (5, .int .i64 s3086.2), (21, .slice p2884 x2882.length c2885), (22, .int .i64 s3086.2)] w3090 (by kernel_rfl) ?_
        obtain ⟨y3109, hy3109, hm⟩ := gx_bind hm
        obtain ⟨g3110, hg3111⟩ := gxIdx_fst hz3100 hy3109
        refine W_val (elemP p2884 (s3086.2.toNat * 4)) w3090 (by kernel_rfl) (E_index (E := deepInterface.E) _ _ _ x2882.length c2885 .i64 s3086.2 4 (y := (y3109, g3110)) rfl (by kernel_rfl) (by kernel_rfl) (by kernel_rfl) (hr3101.mem0 M3091) (len_fst hz3100) hg3111) ?_
        refine W_val (elemP p2884 (s3086.2.toNat * 4 + 1)) w3090 (by kernel_rfl) (E_fieldE (E := deepInterface.E) _ _ 1 (s3086.2.toNat * 4) 1 rfl (by kernel_rfl) (by kernel_rfl) (hr3101.mem0 M3091) hg3111) ?_
        refine W_val (.slice ((g3110 0).1) y3109.Stack.length ((g3110 0).2)) w3090 (by kernel_rfl) (E_loadE (E := deepInterface.E) _ _ false 1 s3086.2 1 (s3086.2.toNat * 4 + 1) (y3109, g3110) (.slice ((g3110 0).1) y3109.Stack.length ((g3110 0).2)) rfl (by kernel_rfl) (by kernel_rfl) (by kernel_rfl) (hr3101.mem0 M3091) hg3111 rfl) ?_
        refine W_run 1 [(0, .slice p2884 x2882.length c2885), (1, .int .i64 (w64 (s3086.1 + 1))), (5, .int .i64 s3086.2), (25, .slice ((g3110 0).1) y3109.Stack.length ((g3110 0).2)), (26, .int .i64 (w64 (s3086.1 + 1)))] w3090 (by kernel_rfl) ?_
        obtain ⟨r3115, hr3115, hm⟩ := gx_bind hm
        refine W_call 34 #[.slice ((g3110 0).1) y3109.Stack.length ((g3110 0).2), .int .i64 (w64 (s3086.1 + 1))] (by kernel_rfl) (by kernel_rfl) ?_
        refine (c_l_heldIntS w3090 y3109.Stack ((g3110 0).1) ((g3110 0).2) ((hi3102.mem0 M3091).at_ hg3111 0 ⟨Int, encI, y3109.Stack, (g3110 0).1, (g3110 0).2⟩ (by kernel_rfl)) (w64 (s3086.1 + 1)) hr3115).mono ?_
        rintro e_ w3116 ⟨rfl, K3117⟩
        have M3118 := M3091.call0 K3117
        refine ⟨_, rfl, ?_⟩
        refine W_run 1 [(0, .slice p2884 x2882.length c2885), (1, .int .i64 r3115), (5, .int .i64 s3086.2)] w3116 (by kernel_rfl) ?_
        refine W_nil ?_
        refine N_then ?_
        refine G_seq ?_
        refine G_seq ?_
        refine G_region ?_
        refine W_run 2 [(0, .slice p2884 x2882.length c2885), (1, .int .i64 r3115), (5, .int .i64 s3086.2), (29, .bool (decide (r3115 < 0)))] w3116 (by kernel_rfl) ?_
        refine W_nil ?_
        refine N_then ?_
        rcases gx_bif hm with ⟨hc3119, hm⟩ | ⟨hc3119, hm⟩
        · refine G_cond_t (b := (decide (r3115 < 0))) hc3119 (by kernel_rfl) ?_
          refine G_seq ?_
          refine G_region ?_
          refine W_run 1 [(4, .int .i64 (-1))] w3116 (by kernel_rfl) ?_
          refine W_nil ?_
          refine N_then ?_
          refine G_ret ?_
          refine N_then_ret ?_
          refine N_block_ret ?_
          refine N_then_ret ?_
          refine N_then_ret ?_
          obtain rfl := Option.some.inj hm
          obtain rfl := hout3088 _ rfl
          have hm := hmo3095; simp only [Sum.elim_inr] at hm
          refine N_block_ret ?_
          refine N_meet_ret ?_
          refine N_then_ret ?_
          obtain rfl := Option.some.inj hm
          refine N_ret [.int .i64 (-1)] (RVs_cons (RV_tmp (by kernel_rfl)) RVs_nil) ?_
          exact ⟨rfl, M3118.pick [] (by kernel_rfl)⟩
        · refine G_cond_f (b := (decide (r3115 < 0))) hc3119 (by kernel_rfl) ?_
          refine G_skip ?_
          refine N_then ?_
          refine G_seq ?_
          refine G_region ?_
          refine W_run 2 [(0, .slice p2884 x2882.length c2885), (1, .int .i64 r3115), (5, .int .i64 s3086.2), (30, .slice p2884 x2882.length c2885), (31, .int .i64 s3086.2)] w3116 (by kernel_rfl) ?_
          obtain ⟨y3120, hy3120, hm⟩ := gx_bind hm
          obtain ⟨g3121, hg3122⟩ := gxIdx_fst hz3100 hy3120
          refine W_val (elemP p2884 (s3086.2.toNat * 4)) w3116 (by kernel_rfl) (E_index (E := deepInterface.E) _ _ _ x2882.length c2885 .i64 s3086.2 4 (y := (y3120, g3121)) rfl (by kernel_rfl) (by kernel_rfl) (by kernel_rfl) (hr3101.mem0 M3118) (len_fst hz3100) hg3122) ?_
          refine W_val (elemP p2884 (s3086.2.toNat * 4 + 2)) w3116 (by kernel_rfl) (E_fieldE (E := deepInterface.E) _ _ 2 (s3086.2.toNat * 4) 2 rfl (by kernel_rfl) (by kernel_rfl) (hr3101.mem0 M3118) hg3122) ?_
          refine W_val (elemP p2884 (s3086.2.toNat * 4 + 2 + 0)) w3116 (by kernel_rfl) (E_fieldE (E := deepInterface.E) _ _ 0 (s3086.2.toNat * 4 + 2) 0 rfl (by kernel_rfl) (by kernel_rfl) (hr3101.mem0 M3118) hg3122) ?_
          refine W_val (.slice ((g3121 1).1) y3120.Queue.Slots.length ((g3121 1).2)) w3116 (by kernel_rfl) (E_loadE (E := deepInterface.E) _ _ false 1 s3086.2 2 (s3086.2.toNat * 4 + 2 + 0) (y3120, g3121) (.slice ((g3121 1).1) y3120.Queue.Slots.length ((g3121 1).2)) rfl (by kernel_rfl) (by kernel_rfl) (by kernel_rfl) (hr3101.mem0 M3118) hg3122 rfl) ?_
          refine W_run 1 [(0, .slice p2884 x2882.length c2885), (1, .int .i64 r3115), (5, .int .i64 s3086.2), (35, .slice ((g3121 1).1) y3120.Queue.Slots.length ((g3121 1).2)), (36, .int .i64 r3115)] w3116 (by kernel_rfl) ?_
          obtain ⟨r3126, hr3126, hm⟩ := gx_bind hm
          refine W_call 35 #[.slice ((g3121 1).1) y3120.Queue.Slots.length ((g3121 1).2), .int .i64 r3115] (by kernel_rfl) (by kernel_rfl) ?_
          refine (c_l_heldSlotS w3116 y3120.Queue.Slots ((g3121 1).1) ((g3121 1).2) ((hi3102.mem0 M3118).at_ hg3122 1 ⟨Slot, encSlot, y3120.Queue.Slots, (g3121 1).1, (g3121 1).2⟩ (by kernel_rfl)) r3115 hr3126).mono ?_
          rintro e_ w3127 ⟨rfl, K3128⟩
          have M3129 := M3118.call0 K3128
          refine ⟨_, rfl, ?_⟩
          refine W_run 1 [(0, .slice p2884 x2882.length c2885), (1, .int .i64 r3126), (5, .int .i64 s3086.2)] w3127 (by kernel_rfl) ?_
          refine W_nil ?_
          refine N_then ?_
          refine G_seq ?_
          refine G_seq ?_
          refine G_region ?_
          refine W_run 2 [(0, .slice p2884 x2882.length c2885), (1, .int .i64 r3126), (5, .int .i64 s3086.2), (39, .bool (decide (r3126 < 0)))] w3127 (by kernel_rfl) ?_
          refine W_nil ?_
          refine N_then ?_
          rcases gx_bif hm with ⟨hc3130, hm⟩ | ⟨hc3130, hm⟩
          · refine G_cond_t (b := (decide (r3126 < 0))) hc3130 (by kernel_rfl) ?_
            refine G_seq ?_
            refine G_region ?_
            refine W_run 1 [(4, .int .i64 (-1))] w3127 (by kernel_rfl) ?_
            refine W_nil ?_
            refine N_then ?_
            refine G_ret ?_
            refine N_then_ret ?_
            refine N_block_ret ?_
            refine N_then_ret ?_
            refine N_then_ret ?_
            obtain rfl := Option.some.inj hm
            obtain rfl := hout3088 _ rfl
            have hm := hmo3095; simp only [Sum.elim_inr] at hm
            refine N_block_ret ?_
            refine N_meet_ret ?_
            refine N_then_ret ?_
            obtain rfl := Option.some.inj hm
            refine N_ret [.int .i64 (-1)] (RVs_cons (RV_tmp (by kernel_rfl)) RVs_nil) ?_
            exact ⟨rfl, M3129.pick [] (by kernel_rfl)⟩
          · refine G_cond_f (b := (decide (r3126 < 0))) hc3130 (by kernel_rfl) ?_
            refine G_skip ?_
            refine N_then ?_
            refine G_seq ?_
            refine G_region ?_
            refine W_run 2 [(0, .slice p2884 x2882.length c2885), (1, .int .i64 r3126), (5, .int .i64 s3086.2), (40, .slice p2884 x2882.length c2885), (41, .int .i64 s3086.2)] w3127 (by kernel_rfl) ?_
            obtain ⟨y3131, hy3131, hm⟩ := gx_bind hm
            obtain ⟨g3132, hg3133⟩ := gxIdx_fst hz3100 hy3131
            refine W_val (elemP p2884 (s3086.2.toNat * 4)) w3127 (by kernel_rfl) (E_index (E := deepInterface.E) _ _ _ x2882.length c2885 .i64 s3086.2 4 (y := (y3131, g3132)) rfl (by kernel_rfl) (by kernel_rfl) (by kernel_rfl) (hr3101.mem0 M3129) (len_fst hz3100) hg3133) ?_
            refine W_val (elemP p2884 (s3086.2.toNat * 4 + 2)) w3127 (by kernel_rfl) (E_fieldE (E := deepInterface.E) _ _ 2 (s3086.2.toNat * 4) 2 rfl (by kernel_rfl) (by kernel_rfl) (hr3101.mem0 M3129) hg3133) ?_
            refine W_val (elemP p2884 (s3086.2.toNat * 4 + 2 + 1)) w3127 (by kernel_rfl) (E_fieldE (E := deepInterface.E) _ _ 1 (s3086.2.toNat * 4 + 2) 1 rfl (by kernel_rfl) (by kernel_rfl) (hr3101.mem0 M3129) hg3133) ?_
            refine W_val (.slice ((g3132 2).1) y3131.Queue.Waiting.length ((g3132 2).2)) w3127 (by kernel_rfl) (E_loadE (E := deepInterface.E) _ _ false 1 s3086.2 3 (s3086.2.toNat * 4 + 2 + 1) (y3131, g3132) (.slice ((g3132 2).1) y3131.Queue.Waiting.length ((g3132 2).2)) rfl (by kernel_rfl) (by kernel_rfl) (by kernel_rfl) (hr3101.mem0 M3129) hg3133 rfl) ?_
            refine W_run 1 [(0, .slice p2884 x2882.length c2885), (1, .int .i64 r3126), (5, .int .i64 s3086.2), (45, .slice ((g3132 2).1) y3131.Queue.Waiting.length ((g3132 2).2)), (46, .int .i64 r3126)] w3127 (by kernel_rfl) ?_
            obtain ⟨r3137, hr3137, hm⟩ := gx_bind hm
            refine W_call 36 #[.slice ((g3132 2).1) y3131.Queue.Waiting.length ((g3132 2).2), .int .i64 r3126] (by kernel_rfl) (by kernel_rfl) ?_
            refine (c_l_heldWaiterS w3127 y3131.Queue.Waiting ((g3132 2).1) ((g3132 2).2) ((hi3102.mem0 M3129).at_ hg3133 2 ⟨Waiter, encWaiter, y3131.Queue.Waiting, (g3132 2).1, (g3132 2).2⟩ (by kernel_rfl)) r3126 hr3137).mono ?_
            rintro e_ w3138 ⟨rfl, K3139⟩
            have M3140 := M3129.call0 K3139
            refine ⟨_, rfl, ?_⟩
            refine W_run 1 [(0, .slice p2884 x2882.length c2885), (1, .int .i64 r3137), (5, .int .i64 s3086.2)] w3138 (by kernel_rfl) ?_
            refine W_nil ?_
            refine N_then ?_
            refine G_seq ?_
            refine G_region ?_
            refine W_run 2 [(0, .slice p2884 x2882.length c2885), (1, .int .i64 r3137), (5, .int .i64 s3086.2), (49, .bool (decide (r3137 < 0)))] w3138 (by kernel_rfl) ?_
            refine W_nil ?_
            refine N_then ?_
            rcases gx_bif hm with ⟨hc3141, hm⟩ | ⟨hc3141, hm⟩
            · refine G_cond_t (b := (decide (r3137 < 0))) hc3141 (by kernel_rfl) ?_
              refine G_seq ?_
              refine G_region ?_
              refine W_run 1 [(4, .int .i64 (-1))] w3138 (by kernel_rfl) ?_
              refine W_nil ?_
              refine N_then ?_
              refine G_ret ?_
              refine N_block_ret ?_
              refine N_then_ret ?_
              refine N_then_ret ?_
              obtain rfl := Option.some.inj hm
              obtain rfl := hout3088 _ rfl
              have hm := hmo3095; simp only [Sum.elim_inr] at hm
              refine N_block_ret ?_
              refine N_meet_ret ?_
              refine N_then_ret ?_
              obtain rfl := Option.some.inj hm
              refine N_ret [.int .i64 (-1)] (RVs_cons (RV_tmp (by kernel_rfl)) RVs_nil) ?_
              exact ⟨rfl, M3140.pick [] (by kernel_rfl)⟩
            · refine G_cond_f (b := (decide (r3137 < 0))) hc3141 (by kernel_rfl) ?_
              refine G_skip ?_
              refine N_block ?_
              refine N_then ?_
              refine G_region ?_
              refine W_run 3 [(0, .slice p2884 x2882.length c2885), (1, .int .i64 r3137), (5, .int .i64 (w64 (s3086.2 + 1)))] w3138 (by kernel_rfl) ?_
              refine W_nil ?_
              obtain rfl := Option.some.inj hm
              exact N_loop fun a ha => ⟨_, rfl, M3140.pick [] (by kernel_rfl), ha.sub (by kernel_rfl)⟩
    · refine G_cond_f (b := (decide (s3086.2 < (x2882.length : Int)))) hc3097 (by kernel_rfl) ?_
      refine G_exit ?_
      refine N_then_exit ?_
      refine N_then_exit ?_
      refine N_block_eq ?_
      obtain rfl := Option.some.inj hm
      obtain rfl := hout3088 _ rfl
      exact N_meet fun a ha => ⟨_, rfl, M3091.pick [] (by kernel_rfl), ha.sub (by kernel_rfl)⟩
  · intro a3142 w3143 ⟨o3096, hout_, M3144, hS3145⟩
    refine N_use hS3145 ?_
    subst hout_
    have hm := hmo3095; simp only [Sum.elim_inl] at hm
    refine N_then ?_
    refine G_seq ?_
    refine G_region ?_
    refine W_run 2 [(4, .int .i64 o3096)] w3143 (by kernel_rfl) ?_
    refine W_nil ?_
    refine N_then ?_
    refine G_ret ?_
    obtain rfl := Option.some.inj hm
    refine N_ret [.int .i64 o3096] (RVs_cons (RV_tmp (by kernel_rfl)) RVs_nil) ?_
    exact ⟨rfl, M3144.pick [] (by kernel_rfl)⟩
theorem c_l_heldMachine (w : World) (x2779 : Machine) (p2781 : Option Addr) (c2782 : Nat) (h2783 : rdS encRoute w x2779.Routes p2781 c2782) (p2785 : Option Addr) (c2786 : Nat) (h2787 : rdS encB w x2779.Enabled p2785 c2786) (p2789 : Option Addr) (c2790 : Nat) (h2791 : rdS encB w x2779.Raised p2789 c2790) (p2793 : Option Addr) (c2794 : Nat) (h2795 : rdD deepInterface w x2779.Cpus p2793 c2794) (x2796 : Int) {r : Int} (hm : M.l_heldMachine x2779 x2796 = some r) :
    Calls Try.prog 12 #[.agg #[.slice p2781 x2779.Routes.length c2782, .slice p2785 x2779.Enabled.length c2786, .slice p2789 x2779.Raised.length c2790, .slice p2793 x2779.Cpus.length c2794], .int .i64 x2796] w fun e w' => e = .returned (.int .i64 r) ∧ Mem [] w w' [] := by
  unfold M.l_heldMachine at hm
  refine C_enter Try.func12 rfl (by kernel_rfl) ?_
  have M0 := Mem.refl [] w
  refine G_seq ?_
  refine G_region ?_
  refine W_new (fun b => .pointer (some ⟨b, 0, none⟩)) (.cells ⟨[.slice p2781 x2779.Routes.length c2782, .slice p2785 x2779.Enabled.length c2786, .slice p2789 x2779.Raised.length c2790, .slice p2793 x2779.Cpus.length c2794]⟩ 28 (0, 0)) M0 rfl (by kernel_rfl) (by kernel_rfl) ?_
  intro b2798 w2799 M2800
  refine W_run 1 [(1, .int .i64 x2796), (2, .pointer (some ⟨b2798, 0, none⟩))] w2799 (by kernel_rfl) ?_
  refine W_nil ?_
  refine N_then ?_
  refine G_seq ?_
  refine G_region ?_
  refine W_run 1 [(1, .int .i64 x2796), (2, .pointer (some ⟨b2798, 0, none⟩)), (5, .pointer (some ⟨b2798, 0, none⟩))] w2799 (by kernel_rfl) ?_
  refine W_val (.slice p2781 x2779.Routes.length c2782) w2799 (by kernel_rfl) (E_load (e := 28) (fr := (0, 0)) _ _ false 1 b2798 0 [.slice p2781 x2779.Routes.length c2782, .slice p2785 x2779.Enabled.length c2786, .slice p2789 x2779.Raised.length c2790, .slice p2793 x2779.Cpus.length c2794] (.slice p2781 x2779.Routes.length c2782) rfl (by kernel_rfl) (by kernel_rfl) (by kernel_rfl) (M2800.blk 0 (b := b2798) (o := .cells ⟨[.slice p2781 x2779.Routes.length c2782, .slice p2785 x2779.Enabled.length c2786, .slice p2789 x2779.Raised.length c2790, .slice p2793 x2779.Cpus.length c2794]⟩ 28 (0, 0)) (by kernel_rfl))) ?_
  refine W_run 1 [(1, .int .i64 x2796), (2, .pointer (some ⟨b2798, 0, none⟩)), (6, .slice p2781 x2779.Routes.length c2782), (7, .int .i64 x2796)] w2799 (by kernel_rfl) ?_
  obtain ⟨r2837, hr2837, hm⟩ := gx_bind hm
  refine W_call 21 #[.slice p2781 x2779.Routes.length c2782, .int .i64 x2796] (by kernel_rfl) (by kernel_rfl) ?_
  refine (c_l_heldRouteS w2799 x2779.Routes p2781 c2782 (h2783.mem0 M2800) x2796 hr2837).mono ?_
  rintro e_ w2838 ⟨rfl, K2839⟩
  have M2840 := M2800.call0 K2839
  refine ⟨_, rfl, ?_⟩
  refine W_run 1 [(1, .int .i64 r2837), (2, .pointer (some ⟨b2798, 0, none⟩))] w2838 (by kernel_rfl) ?_
  refine W_nil ?_
  refine N_then ?_
  refine G_seq ?_
  refine G_seq ?_
  refine G_region ?_
  refine W_run 2 [(1, .int .i64 r2837), (2, .pointer (some ⟨b2798, 0, none⟩)), (10, .bool (decide (r2837 < 0)))] w2838 (by kernel_rfl) ?_
  refine W_nil ?_
  refine N_then ?_
  rcases gx_bif hm with ⟨hc2841, hm⟩ | ⟨hc2841, hm⟩
  · refine G_cond_t (b := (decide (r2837 < 0))) hc2841 (by kernel_rfl) ?_
    refine G_seq ?_
    refine G_region ?_
    refine W_run 1 [(4, .int .i64 (-1))] w2838 (by kernel_rfl) ?_
    refine W_nil ?_
    refine N_then ?_
    refine G_ret ?_
    refine N_then_ret ?_
    obtain rfl := Option.some.inj hm
    refine N_ret [.int .i64 (-1)] (RVs_cons (RV_tmp (by kernel_rfl)) RVs_nil) ?_
    exact ⟨rfl, M2840.pick [] (by kernel_rfl)⟩
  · refine G_cond_f (b := (decide (r2837 < 0))) hc2841 (by kernel_rfl) ?_
    refine G_skip ?_
    refine N_then ?_
    refine G_seq ?_
    refine G_region ?_
    refine W_run 1 [(1, .int .i64 r2837), (2, .pointer (some ⟨b2798, 0, none⟩)), (11, .pointer (some ⟨b2798, 1, none⟩))] w2838 (by kernel_rfl) ?_
    refine W_val (.slice p2785 x2779.Enabled.length c2786) w2838 (by kernel_rfl) (E_load (e := 28) (fr := (0, 0)) _ _ false 1 b2798 1 [.slice p2781 x2779.Routes.length c2782, .slice p2785 x2779.Enabled.length c2786, .slice p2789 x2779.Raised.length c2790, .slice p2793 x2779.Cpus.length c2794] (.slice p2785 x2779.Enabled.length c2786) rfl (by kernel_rfl) (by kernel_rfl) (by kernel_rfl) (M2840.blk 0 (b := b2798) (o := .cells ⟨[.slice p2781 x2779.Routes.length c2782, .slice p2785 x2779.Enabled.length c2786, .slice p2789 x2779.Raised.length c2790, .slice p2793 x2779.Cpus.length c2794]⟩ 28 (0, 0)) (by kernel_rfl))) ?_
    refine W_run 1 [(1, .int .i64 r2837), (2, .pointer (some ⟨b2798, 0, none⟩)), (12, .slice p2785 x2779.Enabled.length c2786), (13, .int .i64 r2837)] w2838 (by kernel_rfl) ?_
    obtain ⟨r2872, hr2872, hm⟩ := gx_bind hm
    refine W_call 22 #[.slice p2785 x2779.Enabled.length c2786, .int .i64 r2837] (by kernel_rfl) (by kernel_rfl) ?_
    refine (c_l_heldBoolS w2838 x2779.Enabled p2785 c2786 (h2787.mem0 M2840) r2837 hr2872).mono ?_
    rintro e_ w2873 ⟨rfl, K2874⟩
    have M2875 := M2840.call0 K2874
    refine ⟨_, rfl, ?_⟩
    refine W_run 1 [(1, .int .i64 r2872), (2, .pointer (some ⟨b2798, 0, none⟩))] w2873 (by kernel_rfl) ?_
    refine W_nil ?_
    refine N_then ?_
    refine G_seq ?_
    refine G_seq ?_
    refine G_region ?_
    refine W_run 2 [(1, .int .i64 r2872), (2, .pointer (some ⟨b2798, 0, none⟩)), (16, .bool (decide (r2872 < 0)))] w2873 (by kernel_rfl) ?_
    refine W_nil ?_
    refine N_then ?_
    rcases gx_bif hm with ⟨hc2876, hm⟩ | ⟨hc2876, hm⟩
    · refine G_cond_t (b := (decide (r2872 < 0))) hc2876 (by kernel_rfl) ?_
      refine G_seq ?_
      refine G_region ?_
      refine W_run 1 [(4, .int .i64 (-1))] w2873 (by kernel_rfl) ?_
      refine W_nil ?_
      refine N_then ?_
      refine G_ret ?_
      refine N_then_ret ?_
      obtain rfl := Option.some.inj hm
      refine N_ret [.int .i64 (-1)] (RVs_cons (RV_tmp (by kernel_rfl)) RVs_nil) ?_
      exact ⟨rfl, M2875.pick [] (by kernel_rfl)⟩
    · refine G_cond_f (b := (decide (r2872 < 0))) hc2876 (by kernel_rfl) ?_
      refine G_skip ?_
      refine N_then ?_
      refine G_seq ?_
      refine G_region ?_
      refine W_run 1 [(1, .int .i64 r2872), (2, .pointer (some ⟨b2798, 0, none⟩)), (17, .pointer (some ⟨b2798, 2, none⟩))] w2873 (by kernel_rfl) ?_
      refine W_val (.slice p2789 x2779.Raised.length c2790) w2873 (by kernel_rfl) (E_load (e := 28) (fr := (0, 0)) _ _ false 1 b2798 2 [.slice p2781 x2779.Routes.length c2782, .slice p2785 x2779.Enabled.length c2786, .slice p2789 x2779.Raised.length c2790, .slice p2793 x2779.Cpus.length c2794] (.slice p2789 x2779.Raised.length c2790) rfl (by kernel_rfl) (by kernel_rfl) (by kernel_rfl) (M2875.blk 0 (b := b2798) (o := .cells ⟨[.slice p2781 x2779.Routes.length c2782, .slice p2785 x2779.Enabled.length c2786, .slice p2789 x2779.Raised.length c2790, .slice p2793 x2779.Cpus.length c2794]⟩ 28 (0, 0)) (by kernel_rfl))) ?_
      refine W_run 1 [(1, .int .i64 r2872), (2, .pointer (some ⟨b2798, 0, none⟩)), (18, .slice p2789 x2779.Raised.length c2790), (19, .int .i64 r2872)] w2873 (by kernel_rfl) ?_
      obtain ⟨r2877, hr2877, hm⟩ := gx_bind hm
      refine W_call 22 #[.slice p2789 x2779.Raised.length c2790, .int .i64 r2872] (by kernel_rfl) (by kernel_rfl) ?_
      refine (c_l_heldBoolS w2873 x2779.Raised p2789 c2790 (h2791.mem0 M2875) r2872 hr2877).mono ?_
      rintro e_ w2878 ⟨rfl, K2879⟩
      have M2880 := M2875.call0 K2879
      refine ⟨_, rfl, ?_⟩
      refine W_run 1 [(1, .int .i64 r2877), (2, .pointer (some ⟨b2798, 0, none⟩))] w2878 (by kernel_rfl) ?_
      refine W_nil ?_
      refine N_then ?_
      refine G_seq ?_
      refine G_seq ?_
      refine G_region ?_
      refine W_run 2 [(1, .int .i64 r2877), (2, .pointer (some ⟨b2798, 0, none⟩)), (22, .bool (decide (r2877 < 0)))] w2878 (by kernel_rfl) ?_
      refine W_nil ?_
      refine N_then ?_
      rcases gx_bif hm with ⟨hc2881, hm⟩ | ⟨hc2881, hm⟩
      · refine G_cond_t (b := (decide (r2877 < 0))) hc2881 (by kernel_rfl) ?_
        refine G_seq ?_
        refine G_region ?_
        refine W_run 1 [(4, .int .i64 (-1))] w2878 (by kernel_rfl) ?_
        refine W_nil ?_
        refine N_then ?_
        refine G_ret ?_
        refine N_then_ret ?_
        obtain rfl := Option.some.inj hm
        refine N_ret [.int .i64 (-1)] (RVs_cons (RV_tmp (by kernel_rfl)) RVs_nil) ?_
        exact ⟨rfl, M2880.pick [] (by kernel_rfl)⟩
      · refine G_cond_f (b := (decide (r2877 < 0))) hc2881 (by kernel_rfl) ?_
        refine G_skip ?_
        refine N_then ?_
        refine G_seq ?_
        refine G_region ?_
        refine W_run 1 [(1, .int .i64 r2877), (23, .pointer (some ⟨b2798, 3, none⟩))] w2878 (by kernel_rfl) ?_
        refine W_val (.slice p2793 x2779.Cpus.length c2794) w2878 (by kernel_rfl) (E_load (e := 28) (fr := (0, 0)) _ _ false 1 b2798 3 [.slice p2781 x2779.Routes.length c2782, .slice p2785 x2779.Enabled.length c2786, .slice p2789 x2779.Raised.length c2790, .slice p2793 x2779.Cpus.length c2794] (.slice p2793 x2779.Cpus.length c2794) rfl (by kernel_rfl) (by kernel_rfl) (by kernel_rfl) (M2880.blk 0 (b := b2798) (o := .cells ⟨[.slice p2781 x2779.Routes.length c2782, .slice p2785 x2779.Enabled.length c2786, .slice p2789 x2779.Raised.length c2790, .slice p2793 x2779.Cpus.length c2794]⟩ 28 (0, 0)) (by kernel_rfl))) ?_
        refine W_run 1 [(1, .int .i64 r2877), (24, .slice p2793 x2779.Cpus.length c2794), (25, .int .i64 r2877)] w2878 (by kernel_rfl) ?_
        obtain ⟨r3146, hr3146, hm⟩ := gx_bind hm
        refine W_call 23 #[.slice p2793 x2779.Cpus.length c2794, .int .i64 r2877] (by kernel_rfl) (by kernel_rfl) ?_
        refine (c_l_heldInterfaceS w2878 x2779.Cpus p2793 c2794 (h2795.mem0 M2880) r2877 hr3146).mono ?_
        rintro e_ w3147 ⟨rfl, K3148⟩
        have M3149 := M2880.call0 K3148
        refine ⟨_, rfl, ?_⟩
        refine W_run 1 [(1, .int .i64 r3146)] w3147 (by kernel_rfl) ?_
        refine W_nil ?_
        refine N_then ?_
        refine G_seq ?_
        refine G_seq ?_
        refine G_region ?_
        refine W_run 2 [(1, .int .i64 r3146), (28, .bool (decide (r3146 < 0)))] w3147 (by kernel_rfl) ?_
        refine W_nil ?_
        refine N_then ?_
        rcases gx_bif hm with ⟨hc3150, hm⟩ | ⟨hc3150, hm⟩
        · refine G_cond_t (b := (decide (r3146 < 0))) hc3150 (by kernel_rfl) ?_
          refine G_seq ?_
          refine G_region ?_
          refine W_run 1 [(4, .int .i64 (-1))] w3147 (by kernel_rfl) ?_
          refine W_nil ?_
          refine N_then ?_
          refine G_ret ?_
          refine N_then_ret ?_
          obtain rfl := Option.some.inj hm
          refine N_ret [.int .i64 (-1)] (RVs_cons (RV_tmp (by kernel_rfl)) RVs_nil) ?_
          exact ⟨rfl, M3149.pick [] (by kernel_rfl)⟩
        · refine G_cond_f (b := (decide (r3146 < 0))) hc3150 (by kernel_rfl) ?_
          refine G_skip ?_
          refine N_then ?_
          refine G_seq ?_
          refine G_region ?_
          refine W_run 2 [(4, .int .i64 r3146)] w3147 (by kernel_rfl) ?_
          refine W_nil ?_
          refine N_then ?_
          refine G_ret ?_
          obtain rfl := Option.some.inj hm
          refine N_ret [.int .i64 r3146] (RVs_cons (RV_tmp (by kernel_rfl)) RVs_nil) ?_
          exact ⟨rfl, M3149.pick [] (by kernel_rfl)⟩
theorem c_l_FnExactNewMachine (w : World) (x1 : List Route) (p3 : Option Addr) (c4 : Nat) (h5 : rdS encRoute w x1 p3 c4) (x6 : Int) {r : Bool} (hm : M.l_FnExactNewMachine x1 x6 = some r) :
    Calls Try.prog 3 #[.slice p3 x1.length c4, .int .i64 x6] w fun e w' => e = .returned (.bool r) ∧ Mem [] w w' [] := by
  unfold M.l_FnExactNewMachine at hm
  refine C_enter Try.func3 rfl (by kernel_rfl) ?_
  have M0 := Mem.refl [] w
  refine G_seq ?_
  refine G_region ?_
  refine W_run 1 [(0, .slice p3 x1.length c4), (1, .int .i64 x6)] w (by kernel_rfl) ?_
  refine W_nil ?_
  refine N_then ?_
  refine G_seq ?_
  refine G_region ?_
  refine W_run 1 [(0, .slice p3 x1.length c4), (1, .int .i64 x6), (5, .int .i64 1048576)] w (by kernel_rfl) ?_
  refine W_nil ?_
  refine N_then ?_
  refine G_seq ?_
  refine G_region ?_
  refine W_run 2 [(0, .slice p3 x1.length c4), (1, .int .i64 x6), (5, .int .i64 1048576), (16, .slice p3 x1.length c4), (17, .int .i64 1048576)] w (by kernel_rfl) ?_
  obtain ⟨r14, hr14, hm⟩ := gx_bind hm
  refine W_call 4 #[.slice p3 x1.length c4, .int .i64 1048576] (by kernel_rfl) (by kernel_rfl) ?_
  refine (c_l_szRouteS w x1 p3 c4 (h5.mem0 M0) 1048576 hr14).mono ?_
  rintro e_ w15 ⟨rfl, K16⟩
  have M17 := M0.call0 K16
  refine ⟨_, rfl, ?_⟩
  refine W_run 1 [(0, .slice p3 x1.length c4), (1, .int .i64 x6), (5, .int .i64 r14)] w15 (by kernel_rfl) ?_
  refine W_nil ?_
  refine N_then ?_
  refine G_seq ?_
  refine G_seq ?_
  refine G_region ?_
  refine W_run 2 [(0, .slice p3 x1.length c4), (1, .int .i64 x6), (20, .bool (decide (r14 < 0)))] w15 (by kernel_rfl) ?_
  refine W_nil ?_
  refine N_then ?_
  rcases gx_bif hm with ⟨hc18, hm⟩ | ⟨hc18, hm⟩
  · refine G_cond_t (b := (decide (r14 < 0))) hc18 (by kernel_rfl) ?_
    refine G_seq ?_
    refine G_region ?_
    refine W_run 1 [(4, .bool true)] w15 (by kernel_rfl) ?_
    refine W_nil ?_
    refine N_then ?_
    refine G_ret ?_
    refine N_then_ret ?_
    obtain rfl := Option.some.inj hm
    refine N_ret [.bool true] (RVs_cons (RV_tmp (by kernel_rfl)) RVs_nil) ?_
    exact ⟨rfl, M17.pick [] (by kernel_rfl)⟩
  · refine G_cond_f (b := (decide (r14 < 0))) hc18 (by kernel_rfl) ?_
    refine G_skip ?_
    refine N_then ?_
    refine G_seq ?_
    refine G_region ?_
    refine W_run 1 [(0, .slice p3 x1.length c4), (1, .int .i64 x6), (22, .slice p3 x1.length c4)] w15 (by kernel_rfl) ?_
    obtain ⟨r110, hr110, hm⟩ := gx_bind hm
    refine W_call 6 #[.slice p3 x1.length c4] (by kernel_rfl) (by kernel_rfl) ?_
    refine (c_l_toRouteS w15 x1 p3 c4 (h5.mem0 M17) hr110).mono ?_
    rintro e_ w116 ⟨p112, c113, sg114, rfl, ho115, K117⟩
    have M118 := M17.call K117
    refine ⟨_, rfl, ?_⟩
    refine W_run 1 [(0, .slice p3 x1.length c4), (1, .int .i64 x6), (23, .slice p112 r110.length c113), (24, .int .i64 x6)] w116 (by kernel_rfl) ?_
    obtain ⟨r596, hr596, hm⟩ := gx_bind hm
    refine W_call 5 #[.slice p112 r110.length c113, .int .i64 x6] (by kernel_rfl) (by kernel_rfl) ?_
    refine (c_s_NewMachine w116 r110 p112 c113 (ho115.rd M118 0 (by kernel_rfl)) x6 hr596).mono ?_
    rintro e_ w618 ⟨p598, c599, sg600, p603, c604, sg605, p608, c609, sg610, p613, c614, sg615, sg616, rfl, ho601, ho606, ho611, ho617, K619⟩
    have M620 := M118.call K619
    refine ⟨_, rfl, ?_⟩
    refine W_run 3 [(0, .slice p3 x1.length c4), (1, .int .i64 x6), (26, .agg #[.slice p598 r596.1.Routes.length c599, .slice p603 r596.1.Enabled.length c604, .slice p608 r596.1.Raised.length c609, .slice p613 r596.1.Cpus.length c614]), (27, .bool r596.2)] w618 (by kernel_rfl) ?_
    refine W_new (fun b => .pointer (some ⟨b, 0, none⟩)) (.cells ⟨[.slice none 0 0, .slice none 0 0, .slice none 0 0, .slice none 0 0]⟩ 28 (0, 0)) M620 rfl (by kernel_rfl) (by kernel_rfl) ?_
    intro b626 w627 M628
    refine W_store _ _ _ true 4 b626 0 [.slice none 0 0, .slice none 0 0, .slice none 0 0, .slice none 0 0] 28 (.agg #[.slice p598 r596.1.Routes.length c599, .slice p603 r596.1.Enabled.length c604, .slice p608 r596.1.Raised.length c609, .slice p613 r596.1.Cpus.length c614]) 6 [.slice p598 r596.1.Routes.length c599, .slice p603 r596.1.Enabled.length c604, .slice p608 r596.1.Raised.length c609, .slice p613 r596.1.Cpus.length c614] M628 (by kernel_rfl) rfl (by kernel_rfl) (by kernel_rfl) (by kernel_rfl) (by kernel_rfl) (by kernel_rfl) (by kernel_rfl) (by kernel_rfl) (by kernel_rfl) ?_
    intro w629 M630
    refine W_run 1 [(0, .slice p3 x1.length c4), (1, .int .i64 x6), (6, .pointer (some ⟨b626, 0, none⟩)), (7, .bool r596.2)] w629 (by kernel_rfl) ?_
    refine W_nil ?_
    refine N_then ?_
    refine G_seq ?_
    refine G_region ?_
    refine W_run 1 [(0, .slice p3 x1.length c4), (1, .int .i64 x6), (6, .pointer (some ⟨b626, 0, none⟩)), (7, .bool r596.2), (28, .slice p3 x1.length c4)] w629 (by kernel_rfl) ?_
    obtain ⟨r631, hr631, hm⟩ := gx_bind hm
    refine W_call 6 #[.slice p3 x1.length c4] (by kernel_rfl) (by kernel_rfl) ?_
    refine (c_l_toRouteS w629 x1 p3 c4 (h5.mem0 M630) hr631).mono ?_
    rintro e_ w637 ⟨p633, c634, sg635, rfl, ho636, K638⟩
    have M639 := M630.call K638
    refine ⟨_, rfl, ?_⟩
    refine W_run 1 [(0, .slice p3 x1.length c4), (1, .int .i64 x6), (6, .pointer (some ⟨b626, 0, none⟩)), (7, .bool r596.2), (8, .slice p633 r631.length c634)] w637 (by kernel_rfl) ?_
    refine W_nil ?_
    refine N_then ?_
    refine G_seq ?_
    refine G_region ?_
    refine W_run 2 [(0, .slice p3 x1.length c4), (1, .int .i64 x6), (6, .pointer (some ⟨b626, 0, none⟩)), (7, .bool r596.2), (8, .slice p633 r631.length c634), (31, .slice p633 r631.length c634), (32, .int .i64 x6)] w637 (by kernel_rfl) ?_
    obtain ⟨r1202, hr1202, hm⟩ := gx_bind hm
    refine W_call 7 #[.slice p633 r631.length c634, .int .i64 x6] (by kernel_rfl) (by kernel_rfl) ?_
    refine (c_i_NewMachine w637 r631 p633 c634 (ho636.rd M639 7 (by kernel_rfl)) x6 hr1202).mono ?_
    rintro e_ w1224 ⟨p1204, c1205, sg1206, p1209, c1210, sg1211, p1214, c1215, sg1216, p1219, c1220, sg1221, sg1222, rfl, ho1207, ho1212, ho1217, ho1223, K1225⟩
    have M1226 := M639.call K1225
    refine ⟨_, rfl, ?_⟩
    refine W_run 3 [(0, .slice p3 x1.length c4), (1, .int .i64 x6), (6, .pointer (some ⟨b626, 0, none⟩)), (7, .bool r596.2), (8, .slice p633 r631.length c634), (34, .agg #[.slice p1204 r1202.1.Routes.length c1205, .slice p1209 r1202.1.Enabled.length c1210, .slice p1214 r1202.1.Raised.length c1215, .slice p1219 r1202.1.Cpus.length c1220]), (35, .bool r1202.2)] w1224 (by kernel_rfl) ?_
    refine W_new (fun b => .pointer (some ⟨b, 0, none⟩)) (.cells ⟨[.slice none 0 0, .slice none 0 0, .slice none 0 0, .slice none 0 0]⟩ 28 (0, 0)) M1226 rfl (by kernel_rfl) (by kernel_rfl) ?_
    intro b1232 w1233 M1234
    refine W_store _ _ _ true 4 b1232 0 [.slice none 0 0, .slice none 0 0, .slice none 0 0, .slice none 0 0] 28 (.agg #[.slice p1204 r1202.1.Routes.length c1205, .slice p1209 r1202.1.Enabled.length c1210, .slice p1214 r1202.1.Raised.length c1215, .slice p1219 r1202.1.Cpus.length c1220]) 13 [.slice p1204 r1202.1.Routes.length c1205, .slice p1209 r1202.1.Enabled.length c1210, .slice p1214 r1202.1.Raised.length c1215, .slice p1219 r1202.1.Cpus.length c1220] M1234 (by kernel_rfl) rfl (by kernel_rfl) (by kernel_rfl) (by kernel_rfl) (by kernel_rfl) (by kernel_rfl) (by kernel_rfl) (by kernel_rfl) (by kernel_rfl) ?_
    intro w1235 M1236
    refine W_run 1 [(0, .slice p3 x1.length c4), (1, .int .i64 x6), (6, .pointer (some ⟨b626, 0, none⟩)), (7, .bool r596.2), (8, .slice p633 r631.length c634), (9, .pointer (some ⟨b1232, 0, none⟩)), (10, .bool r1202.2)] w1235 (by kernel_rfl) ?_
    refine W_nil ?_
    refine N_then ?_
    refine G_seq ?_
    refine G_seq ?_
    obtain ⟨o1788, ho1789, hm1790⟩ := gx_bind hm
    refine G_meet (fun a w' => Mem [] w w' [sg600, sg605, sg610, sg615, sg616, [(b626, .cells ⟨[.slice p598 r596.1.Routes.length c599, .slice p603 r596.1.Enabled.length c604, .slice p608 r596.1.Raised.length c609, .slice p613 r596.1.Cpus.length c614]⟩ 28 (0, 0))], sg635, sg1206, sg1211, sg1216, sg1221, sg1222, [(b1232, .cells ⟨[.slice p1204 r1202.1.Routes.length c1205, .slice p1209 r1202.1.Enabled.length c1210, .slice p1214 r1202.1.Raised.length c1215, .slice p1219 r1202.1.Cpus.length c1220]⟩ 28 (0, 0))]] ∧ Sat Try.f3.ntmps [(0, .slice p3 x1.length c4), (1, .int .i64 x6), (6, .pointer (some ⟨b626, 0, none⟩)), (7, .bool r596.2), (8, .slice p633 r631.length c634), (9, .pointer (some ⟨b1232, 0, none⟩)), (10, .bool r1202.2), (44, .bool o1788)] a) ?_ ?_
    · have hm := ho1789
      refine G_region ?_
      refine W_val (.agg #[.slice p1204 r1202.1.Routes.length c1205, .slice p1209 r1202.1.Enabled.length c1210, .slice p1214 r1202.1.Raised.length c1215, .slice p1219 r1202.1.Cpus.length c1220]) w1235 (by kernel_rfl) (E_load (e := 28) (fr := (0, 0)) _ _ true 4 b1232 0 [.slice p1204 r1202.1.Routes.length c1205, .slice p1209 r1202.1.Enabled.length c1210, .slice p1214 r1202.1.Raised.length c1215, .slice p1219 r1202.1.Cpus.length c1220] (.agg #[.slice p1204 r1202.1.Routes.length c1205, .slice p1209 r1202.1.Enabled.length c1210, .slice p1214 r1202.1.Raised.length c1215, .slice p1219 r1202.1.Cpus.length c1220]) rfl (by kernel_rfl) (by kernel_rfl) (by kernel_rfl) (M1236.blk 13 (b := b1232) (o := .cells ⟨[.slice p1204 r1202.1.Routes.length c1205, .slice p1209 r1202.1.Enabled.length c1210, .slice p1214 r1202.1.Raised.length c1215, .slice p1219 r1202.1.Cpus.length c1220]⟩ 28 (0, 0)) (by kernel_rfl))) ?_
      refine W_val (.agg #[.slice p598 r596.1.Routes.length c599, .slice p603 r596.1.Enabled.length c604, .slice p608 r596.1.Raised.length c609, .slice p613 r596.1.Cpus.length c614]) w1235 (by kernel_rfl) (E_load (e := 28) (fr := (0, 0)) _ _ true 4 b626 0 [.slice p598 r596.1.Routes.length c599, .slice p603 r596.1.Enabled.length c604, .slice p608 r596.1.Raised.length c609, .slice p613 r596.1.Cpus.length c614] (.agg #[.slice p598 r596.1.Routes.length c599, .slice p603 r596.1.Enabled.length c604, .slice p608 r596.1.Raised.length c609, .slice p613 r596.1.Cpus.length c614]) rfl (by kernel_rfl) (by kernel_rfl) (by kernel_rfl) (M1236.blk 6 (b := b626) (o := .cells ⟨[.slice p598 r596.1.Routes.length c599, .slice p603 r596.1.Enabled.length c604, .slice p608 r596.1.Raised.length c609, .slice p613 r596.1.Cpus.length c614]⟩ 28 (0, 0)) (by kernel_rfl))) ?_
      obtain ⟨r1791, hr1791, hm⟩ := gx_bind hm
      refine W_call 8 #[.agg #[.slice p1204 r1202.1.Routes.length c1205, .slice p1209 r1202.1.Enabled.length c1210, .slice p1214 r1202.1.Raised.length c1215, .slice p1219 r1202.1.Cpus.length c1220], .agg #[.slice p598 r596.1.Routes.length c599, .slice p603 r596.1.Enabled.length c604, .slice p608 r596.1.Raised.length c609, .slice p613 r596.1.Cpus.length c614]] (by kernel_rfl) (by kernel_rfl) ?_
      refine (c_l_eqMachine w1235 r1202.1 p1204 c1205 (ho1207.rd M1236 8 (by kernel_rfl)) p1209 c1210 (ho1212.rd M1236 9 (by kernel_rfl)) p1214 c1215 (ho1217.rd M1236 10 (by kernel_rfl)) p1219 c1220 (ho1223.rd M1236 11 (by kernel_rfl) 12 (by kernel_rfl)) r596.1 p598 c599 (ho601.rd M1236 1 (by kernel_rfl)) p603 c604 (ho606.rd M1236 2 (by kernel_rfl)) p608 c609 (ho611.rd M1236 3 (by kernel_rfl)) p613 c614 (ho617.rd M1236 4 (by kernel_rfl) 5 (by kernel_rfl)) hr1791).mono ?_
      rintro e_ w1792 ⟨rfl, K1793⟩
      have M1794 := M1236.call0 K1793
      refine ⟨_, rfl, ?_⟩
      refine W_run 2 [(0, .slice p3 x1.length c4), (1, .int .i64 x6), (6, .pointer (some ⟨b626, 0, none⟩)), (7, .bool r596.2), (8, .slice p633 r631.length c634), (9, .pointer (some ⟨b1232, 0, none⟩)), (10, .bool r1202.2), (40, .bool (!r1791))] w1792 (by kernel_rfl) ?_
      rcases gx_bif hm with ⟨hc1795, hm⟩ | ⟨hc1795, hm⟩
      · refine W_known 40 true (by kernel_rfl) hc1795 ?_
        refine W_run 4 [(0, .slice p3 x1.length c4), (1, .int .i64 x6), (6, .pointer (some ⟨b626, 0, none⟩)), (7, .bool r596.2), (8, .slice p633 r631.length c634), (9, .pointer (some ⟨b1232, 0, none⟩)), (10, .bool r1202.2), (44, .bool true)] w1792 (by kernel_rfl) ?_
        refine W_nil ?_
        obtain rfl := Option.some.inj hm
        exact N_meet fun a ha => ⟨M1794.pick [1, 2, 3, 4, 5, 6, 7, 8, 9, 10, 11, 12, 13] (by kernel_rfl), ha.sub (by kernel_rfl)⟩
      · refine W_known 40 false (by kernel_rfl) hc1795 ?_
        refine W_run 4 [(0, .slice p3 x1.length c4), (1, .int .i64 x6), (6, .pointer (some ⟨b626, 0, none⟩)), (7, .bool r596.2), (8, .slice p633 r631.length c634), (9, .pointer (some ⟨b1232, 0, none⟩)), (10, .bool r1202.2), (44, .bool (!(r1202.2 == r596.2)))] w1792 (by kernel_rfl) ?_
        refine W_nil ?_
        obtain rfl := Option.some.inj hm
        exact N_meet fun a ha => ⟨M1794.pick [1, 2, 3, 4, 5, 6, 7, 8, 9, 10, 11, 12, 13] (by kernel_rfl), ha.sub (by kernel_rfl)⟩
    · intro a1798 w1796 ⟨M1797, hS1799⟩
      refine N_use hS1799 ?_
      have hm := hm1790
      refine N_then ?_
      rcases gx_bif hm with ⟨hc1800, hm⟩ | ⟨hc1800, hm⟩
      · refine G_cond_t (b := o1788) hc1800 (by kernel_rfl) ?_
        refine G_seq ?_
        refine G_region ?_
        refine W_run 1 [(4, .bool false)] w1796 (by kernel_rfl) ?_
        refine W_nil ?_
        refine N_then ?_
        refine G_ret ?_
        refine N_then_ret ?_
        obtain rfl := Option.some.inj hm
        refine N_ret [.bool false] (RVs_cons (RV_tmp (by kernel_rfl)) RVs_nil) ?_
        exact ⟨rfl, M1797.pick [] (by kernel_rfl)⟩
      · refine G_cond_f (b := o1788) hc1800 (by kernel_rfl) ?_
        refine G_skip ?_
        refine N_then ?_
        refine G_seq ?_
        refine G_seq ?_
        refine G_region ?_
        refine W_run 2 [(0, .slice p3 x1.length c4), (1, .int .i64 x6), (6, .pointer (some ⟨b626, 0, none⟩)), (7, .bool r596.2), (8, .slice p633 r631.length c634), (9, .pointer (some ⟨b1232, 0, none⟩)), (10, .bool r1202.2), (45, .slice p633 r631.length c634), (46, .slice p3 x1.length c4)] w1796 (by kernel_rfl) ?_
        obtain ⟨r1801, hr1801, hm⟩ := gx_bind hm
        refine W_call 6 #[.slice p3 x1.length c4] (by kernel_rfl) (by kernel_rfl) ?_
        refine (c_l_toRouteS w1796 x1 p3 c4 (h5.mem0 M1797) hr1801).mono ?_
        rintro e_ w1807 ⟨p1803, c1804, sg1805, rfl, ho1806, K1808⟩
        have M1809 := M1797.call K1808
        refine ⟨_, rfl, ?_⟩
        obtain ⟨r1810, hr1810, hm⟩ := gx_bind hm
        refine W_call 9 #[.slice p633 r631.length c634, .slice p1803 r1801.length c1804] (by kernel_rfl) (by kernel_rfl) ?_
        refine (c_l_eqRouteS w1807 r631 p633 c634 (ho636.rd M1809 6 (by kernel_rfl)) r1801 p1803 c1804 (ho1806.rd M1809 13 (by kernel_rfl)) hr1810).mono ?_
        rintro e_ w1811 ⟨rfl, K1812⟩
        have M1813 := M1809.call0 K1812
        refine ⟨_, rfl, ?_⟩
        refine W_run 1 [(0, .slice p3 x1.length c4), (1, .int .i64 x6), (6, .pointer (some ⟨b626, 0, none⟩)), (7, .bool r596.2), (8, .slice p633 r631.length c634), (9, .pointer (some ⟨b1232, 0, none⟩)), (10, .bool r1202.2), (49, .bool (!r1810))] w1811 (by kernel_rfl) ?_
        refine W_nil ?_
        refine N_then ?_
        rcases gx_bif hm with ⟨hc1814, hm⟩ | ⟨hc1814, hm⟩
        · refine G_cond_t (b := (!r1810)) hc1814 (by kernel_rfl) ?_
          refine G_seq ?_
          refine G_region ?_
          refine W_run 1 [(4, .bool false)] w1811 (by kernel_rfl) ?_
          refine W_nil ?_
          refine N_then ?_
          refine G_ret ?_
          refine N_then_ret ?_
          obtain rfl := Option.some.inj hm
          refine N_ret [.bool false] (RVs_cons (RV_tmp (by kernel_rfl)) RVs_nil) ?_
          exact ⟨rfl, M1813.pick [] (by kernel_rfl)⟩
        · refine G_cond_f (b := (!r1810)) hc1814 (by kernel_rfl) ?_
          refine G_skip ?_
          refine N_then ?_
          refine G_seq ?_
          refine G_region ?_
          refine W_run 1 [(0, .slice p3 x1.length c4), (1, .int .i64 x6), (6, .pointer (some ⟨b626, 0, none⟩)), (7, .bool r596.2), (8, .slice p633 r631.length c634), (9, .pointer (some ⟨b1232, 0, none⟩)), (10, .bool r1202.2), (11, .int .i64 1)] w1811 (by kernel_rfl) ?_
          refine W_nil ?_
          refine N_then ?_
          refine G_seq ?_
          refine G_region ?_
          refine W_run 2 [(0, .slice p3 x1.length c4), (1, .int .i64 x6), (6, .pointer (some ⟨b626, 0, none⟩)), (7, .bool r596.2), (9, .pointer (some ⟨b1232, 0, none⟩)), (10, .bool r1202.2), (11, .int .i64 1), (50, .slice p633 r631.length c634), (51, .int .i64 1)] w1811 (by kernel_rfl) ?_
          obtain ⟨r1880, hr1880, hm⟩ := gx_bind hm
          refine W_call 10 #[.slice p633 r631.length c634, .int .i64 1] (by kernel_rfl) (by kernel_rfl) ?_
          refine (c_l_markRouteS w1811 r631 p633 c634 sg635 ho636 1 (M1813.hasPick [6]) (M1813.nodupPick [6] (by kernel_rfl)) hr1880).mono ?_
          rintro e_ w1884 ⟨sg1881, rfl, ho1882, hl1883, K1885⟩
          have M1886 := M1813.callF' [6] [0, 1, 2, 3, 4, 5, 7, 8, 9, 10, 11, 12, 13] (by kernel_rfl) K1885
          refine ⟨_, rfl, ?_⟩
          refine W_conv 50 (.slice p633 r631.length c634) (.slice p633 r1880.2.length c634) (by kernel_rfl) (by first | rw [hl1883] | rw [hl1883]) ?_
          refine W_run 1 [(0, .slice p3 x1.length c4), (1, .int .i64 x6), (6, .pointer (some ⟨b626, 0, none⟩)), (7, .bool r596.2), (9, .pointer (some ⟨b1232, 0, none⟩)), (10, .bool r1202.2), (11, .int .i64 r1880.1)] w1884 (by kernel_rfl) ?_
          refine W_nil ?_
          refine N_then ?_
          refine G_seq ?_
          refine G_seq ?_
          obtain ⟨o1893, ho1894, hm1895⟩ := gx_bind hm
          refine G_meet (fun a w' => Mem [] w w' [sg600, sg605, sg610, sg615, sg616, [(b626, .cells ⟨[.slice p598 r596.1.Routes.length c599, .slice p603 r596.1.Enabled.length c604, .slice p608 r596.1.Raised.length c609, .slice p613 r596.1.Cpus.length c614]⟩ 28 (0, 0))], sg1206, sg1211, sg1216, sg1221, sg1222, [(b1232, .cells ⟨[.slice p1204 r1202.1.Routes.length c1205, .slice p1209 r1202.1.Enabled.length c1210, .slice p1214 r1202.1.Raised.length c1215, .slice p1219 r1202.1.Cpus.length c1220]⟩ 28 (0, 0))]] ∧ Sat Try.f3.ntmps [(0, .slice p3 x1.length c4), (1, .int .i64 x6), (6, .pointer (some ⟨b626, 0, none⟩)), (7, .bool r596.2), (9, .pointer (some ⟨b1232, 0, none⟩)), (65, .bool o1893)] a) ?_ ?_
          · have hm := ho1894
            refine G_region ?_
            refine W_run 3 [(0, .slice p3 x1.length c4), (1, .int .i64 x6), (6, .pointer (some ⟨b626, 0, none⟩)), (7, .bool r596.2), (9, .pointer (some ⟨b1232, 0, none⟩)), (10, .bool r1202.2), (55, .bool (decide (r1880.1 < 0)))] w1884 (by kernel_rfl) ?_
            rcases gx_bif hm with ⟨hc1896, hm⟩ | ⟨hc1896, hm⟩
            · refine W_known 55 true (by kernel_rfl) hc1896 ?_
              refine W_run 10 [(0, .slice p3 x1.length c4), (1, .int .i64 x6), (6, .pointer (some ⟨b626, 0, none⟩)), (7, .bool r596.2), (9, .pointer (some ⟨b1232, 0, none⟩)), (65, .bool true)] w1884 (by kernel_rfl) ?_
              refine W_nil ?_
              obtain rfl := Option.some.inj hm
              exact N_meet fun a ha => ⟨M1886.pick [0, 1, 2, 3, 4, 5, 6, 7, 8, 9, 10, 11] (by kernel_rfl), ha.sub (by kernel_rfl)⟩
            · refine W_known 55 false (by kernel_rfl) hc1896 ?_
              refine W_val (.agg #[.slice p1204 r1202.1.Routes.length c1205, .slice p1209 r1202.1.Enabled.length c1210, .slice p1214 r1202.1.Raised.length c1215, .slice p1219 r1202.1.Cpus.length c1220]) w1884 (by kernel_rfl) (E_load (e := 28) (fr := (0, 0)) _ _ true 4 b1232 0 [.slice p1204 r1202.1.Routes.length c1205, .slice p1209 r1202.1.Enabled.length c1210, .slice p1214 r1202.1.Raised.length c1215, .slice p1219 r1202.1.Cpus.length c1220] (.agg #[.slice p1204 r1202.1.Routes.length c1205, .slice p1209 r1202.1.Enabled.length c1210, .slice p1214 r1202.1.Raised.length c1215, .slice p1219 r1202.1.Cpus.length c1220]) rfl (by kernel_rfl) (by kernel_rfl) (by kernel_rfl) (M1886.blk 11 (b := b1232) (o := .cells ⟨[.slice p1204 r1202.1.Routes.length c1205, .slice p1209 r1202.1.Enabled.length c1210, .slice p1214 r1202.1.Raised.length c1215, .slice p1219 r1202.1.Cpus.length c1220]⟩ 28 (0, 0)) (by kernel_rfl))) ?_
              refine W_val (.agg #[.slice p598 r596.1.Routes.length c599, .slice p603 r596.1.Enabled.length c604, .slice p608 r596.1.Raised.length c609, .slice p613 r596.1.Cpus.length c614]) w1884 (by kernel_rfl) (E_load (e := 28) (fr := (0, 0)) _ _ true 4 b626 0 [.slice p598 r596.1.Routes.length c599, .slice p603 r596.1.Enabled.length c604, .slice p608 r596.1.Raised.length c609, .slice p613 r596.1.Cpus.length c614] (.agg #[.slice p598 r596.1.Routes.length c599, .slice p603 r596.1.Enabled.length c604, .slice p608 r596.1.Raised.length c609, .slice p613 r596.1.Cpus.length c614]) rfl (by kernel_rfl) (by kernel_rfl) (by kernel_rfl) (M1886.blk 5 (b := b626) (o := .cells ⟨[.slice p598 r596.1.Routes.length c599, .slice p603 r596.1.Enabled.length c604, .slice p608 r596.1.Raised.length c609, .slice p613 r596.1.Cpus.length c614]⟩ 28 (0, 0)) (by kernel_rfl))) ?_
              obtain ⟨r1897, hr1897, hm⟩ := gx_bind hm
              refine W_call 8 #[.agg #[.slice p1204 r1202.1.Routes.length c1205, .slice p1209 r1202.1.Enabled.length c1210, .slice p1214 r1202.1.Raised.length c1215, .slice p1219 r1202.1.Cpus.length c1220], .agg #[.slice p598 r596.1.Routes.length c599, .slice p603 r596.1.Enabled.length c604, .slice p608 r596.1.Raised.length c609, .slice p613 r596.1.Cpus.length c614]] (by kernel_rfl) (by kernel_rfl) ?_
              refine (c_l_eqMachine w1884 r1202.1 p1204 c1205 (ho1207.rd M1886 6 (by kernel_rfl)) p1209 c1210 (ho1212.rd M1886 7 (by kernel_rfl)) p1214 c1215 (ho1217.rd M1886 8 (by kernel_rfl)) p1219 c1220 (ho1223.rd M1886 9 (by kernel_rfl) 10 (by kernel_rfl)) r596.1 p598 c599 (ho601.rd M1886 0 (by kernel_rfl)) p603 c604 (ho606.rd M1886 1 (by kernel_rfl)) p608 c609 (ho611.rd M1886 2 (by kernel_rfl)) p613 c614 (ho617.rd M1886 3 (by kernel_rfl) 4 (by kernel_rfl)) hr1897).mono ?_
              rintro e_ w1898 ⟨rfl, K1899⟩
              have M1900 := M1886.call0 K1899
              refine ⟨_, rfl, ?_⟩
              refine W_run 3 [(0, .slice p3 x1.length c4), (1, .int .i64 x6), (6, .pointer (some ⟨b626, 0, none⟩)), (7, .bool r596.2), (9, .pointer (some ⟨b1232, 0, none⟩)), (10, .bool r1202.2), (61, .bool (!r1897))] w1898 (by kernel_rfl) ?_
              rcases gx_bif hm with ⟨hc1901, hm⟩ | ⟨hc1901, hm⟩
              · refine W_known 61 true (by kernel_rfl) hc1901 ?_
                refine W_run 4 [(0, .slice p3 x1.length c4), (1, .int .i64 x6), (6, .pointer (some ⟨b626, 0, none⟩)), (7, .bool r596.2), (9, .pointer (some ⟨b1232, 0, none⟩)), (65, .bool true)] w1898 (by kernel_rfl) ?_
                refine W_nil ?_
                obtain rfl := Option.some.inj hm
                exact N_meet fun a ha => ⟨M1900.pick [0, 1, 2, 3, 4, 5, 6, 7, 8, 9, 10, 11] (by kernel_rfl), ha.sub (by kernel_rfl)⟩
              · refine W_known 61 false (by kernel_rfl) hc1901 ?_
                refine W_run 4 [(0, .slice p3 x1.length c4), (1, .int .i64 x6), (6, .pointer (some ⟨b626, 0, none⟩)), (7, .bool r596.2), (9, .pointer (some ⟨b1232, 0, none⟩)), (65, .bool (!(r1202.2 == r596.2)))] w1898 (by kernel_rfl) ?_
                refine W_nil ?_
                obtain rfl := Option.some.inj hm
                exact N_meet fun a ha => ⟨M1900.pick [0, 1, 2, 3, 4, 5, 6, 7, 8, 9, 10, 11] (by kernel_rfl), ha.sub (by kernel_rfl)⟩
          · intro a1904 w1902 ⟨M1903, hS1905⟩
            refine N_use hS1905 ?_
            have hm := hm1895
            refine N_then ?_
            rcases gx_bif hm with ⟨hc1906, hm⟩ | ⟨hc1906, hm⟩
            · refine G_cond_t (b := o1893) hc1906 (by kernel_rfl) ?_
              refine G_seq ?_
              refine G_region ?_
              refine W_run 1 [(4, .bool false)] w1902 (by kernel_rfl) ?_
              refine W_nil ?_
              refine N_then ?_
              refine G_ret ?_
              refine N_then_ret ?_
              obtain rfl := Option.some.inj hm
              refine N_ret [.bool false] (RVs_cons (RV_tmp (by kernel_rfl)) RVs_nil) ?_
              exact ⟨rfl, M1903.pick [] (by kernel_rfl)⟩
            · refine G_cond_f (b := o1893) hc1906 (by kernel_rfl) ?_
              refine G_skip ?_
              refine N_then ?_
              refine G_seq ?_
              refine G_region ?_
              refine W_run 1 [(0, .slice p3 x1.length c4), (1, .int .i64 x6), (6, .pointer (some ⟨b626, 0, none⟩)), (7, .bool r596.2), (9, .pointer (some ⟨b1232, 0, none⟩)), (12, .int .i64 1)] w1902 (by kernel_rfl) ?_
              refine W_nil ?_
              refine N_then ?_
              refine G_seq ?_
              refine G_region ?_
              refine W_val (.agg #[.slice p1204 r1202.1.Routes.length c1205, .slice p1209 r1202.1.Enabled.length c1210, .slice p1214 r1202.1.Raised.length c1215, .slice p1219 r1202.1.Cpus.length c1220]) w1902 (by kernel_rfl) (E_load (e := 28) (fr := (0, 0)) _ _ true 4 b1232 0 [.slice p1204 r1202.1.Routes.length c1205, .slice p1209 r1202.1.Enabled.length c1210, .slice p1214 r1202.1.Raised.length c1215, .slice p1219 r1202.1.Cpus.length c1220] (.agg #[.slice p1204 r1202.1.Routes.length c1205, .slice p1209 r1202.1.Enabled.length c1210, .slice p1214 r1202.1.Raised.length c1215, .slice p1219 r1202.1.Cpus.length c1220]) rfl (by kernel_rfl) (by kernel_rfl) (by kernel_rfl) (M1903.blk 11 (b := b1232) (o := .cells ⟨[.slice p1204 r1202.1.Routes.length c1205, .slice p1209 r1202.1.Enabled.length c1210, .slice p1214 r1202.1.Raised.length c1215, .slice p1219 r1202.1.Cpus.length c1220]⟩ 28 (0, 0)) (by kernel_rfl))) ?_
              refine W_run 1 [(0, .slice p3 x1.length c4), (1, .int .i64 x6), (6, .pointer (some ⟨b626, 0, none⟩)), (7, .bool r596.2), (9, .pointer (some ⟨b1232, 0, none⟩)), (12, .int .i64 1), (66, .agg #[.slice p1204 r1202.1.Routes.length c1205, .slice p1209 r1202.1.Enabled.length c1210, .slice p1214 r1202.1.Raised.length c1215, .slice p1219 r1202.1.Cpus.length c1220]), (67, .int .i64 1)] w1902 (by kernel_rfl) ?_
              obtain ⟨r2761, hr2761, hm⟩ := gx_bind hm
              refine W_call 11 #[.agg #[.slice p1204 r1202.1.Routes.length c1205, .slice p1209 r1202.1.Enabled.length c1210, .slice p1214 r1202.1.Raised.length c1215, .slice p1219 r1202.1.Cpus.length c1220], .int .i64 1] (by kernel_rfl) (by kernel_rfl) ?_
              refine (c_l_markMachine w1902 r1202.1 p1204 c1205 sg1206 ho1207 p1209 c1210 sg1211 ho1212 p1214 c1215 sg1216 ho1217 p1219 c1220 sg1221 sg1222 ho1223 1 (M1903.hasPick [6, 7, 8, 9, 10]) (M1903.nodupPick [6, 7, 8, 9, 10] (by kernel_rfl)) hr2761).mono ?_
              rintro e_ w2775 ⟨sg2762, sg2765, sg2768, sg2771, sg2772, rfl, ho2763, hl2764, ho2766, hl2767, ho2769, hl2770, ho2773, hl2774, K2776⟩
              have M2777 := M1903.callF' [6, 7, 8, 9, 10] [0, 1, 2, 3, 4, 5, 11] (by kernel_rfl) K2776
              refine ⟨_, rfl, ?_⟩
              refine W_conv 66 (.agg #[.slice p1204 r1202.1.Routes.length c1205, .slice p1209 r1202.1.Enabled.length c1210, .slice p1214 r1202.1.Raised.length c1215, .slice p1219 r1202.1.Cpus.length c1220]) (.agg #[.slice p1204 r2761.2.1.length c1205, .slice p1209 r2761.2.2.1.length c1210, .slice p1214 r2761.2.2.2.1.length c1215, .slice p1219 r2761.2.2.2.2.length c1220]) (by kernel_rfl) (by first | rw [hl2764, hl2767, hl2770, hl2774] | rw [hl2764] | rw [hl2767] | rw [hl2770] | rw [hl2774]) ?_
              have M2778 : Mem [] w w2775 [sg600, sg605, sg610, sg615, sg616, [(b626, .cells ⟨[.slice p598 r596.1.Routes.length c599, .slice p603 r596.1.Enabled.length c604, .slice p608 r596.1.Raised.length c609, .slice p613 r596.1.Cpus.length c614]⟩ 28 (0, 0))], [(b1232, .cells ⟨[.slice p1204 r2761.2.1.length c1205, .slice p1209 r2761.2.2.1.length c1210, .slice p1214 r2761.2.2.2.1.length c1215, .slice p1219 r2761.2.2.2.2.length c1220]⟩ 28 (0, 0))], sg2762, sg2765, sg2768, sg2771, sg2772] := by rw [hl2764, hl2767, hl2770, hl2774]; exact M2777
              refine W_run 1 [(0, .slice p3 x1.length c4), (1, .int .i64 x6), (6, .pointer (some ⟨b626, 0, none⟩)), (7, .bool r596.2), (9, .pointer (some ⟨b1232, 0, none⟩)), (12, .int .i64 r2761.1)] w2775 (by kernel_rfl) ?_
              refine W_nil ?_
              refine N_then ?_
              refine G_seq ?_
              refine G_region ?_
              refine W_run 1 [(0, .slice p3 x1.length c4), (1, .int .i64 x6), (6, .pointer (some ⟨b626, 0, none⟩)), (7, .bool r596.2), (9, .pointer (some ⟨b1232, 0, none⟩)), (12, .int .i64 r2761.1), (13, .int .i64 1)] w2775 (by kernel_rfl) ?_
              refine W_nil ?_
              refine N_then ?_
              refine G_seq ?_
              refine G_region ?_
              refine W_val (.agg #[.slice p1204 r2761.2.1.length c1205, .slice p1209 r2761.2.2.1.length c1210, .slice p1214 r2761.2.2.2.1.length c1215, .slice p1219 r2761.2.2.2.2.length c1220]) w2775 (by kernel_rfl) (E_load (e := 28) (fr := (0, 0)) _ _ true 4 b1232 0 [.slice p1204 r2761.2.1.length c1205, .slice p1209 r2761.2.2.1.length c1210, .slice p1214 r2761.2.2.2.1.length c1215, .slice p1219 r2761.2.2.2.2.length c1220] (.agg #[.slice p1204 r2761.2.1.length c1205, .slice p1209 r2761.2.2.1.length c1210, .slice p1214 r2761.2.2.2.1.length c1215, .slice p1219 r2761.2.2.2.2.length c1220]) rfl (by kernel_rfl) (by kernel_rfl) (by kernel_rfl) (M2778.blk 6 (b := b1232) (o := .cells ⟨[.slice p1204 r2761.2.1.length c1205, .slice p1209 r2761.2.2.1.length c1210, .slice p1214 r2761.2.2.2.1.length c1215, .slice p1219 r2761.2.2.2.2.length c1220]⟩ 28 (0, 0)) (by kernel_rfl))) ?_
              refine W_run 1 [(0, .slice p3 x1.length c4), (1, .int .i64 x6), (6, .pointer (some ⟨b626, 0, none⟩)), (7, .bool r596.2), (9, .pointer (some ⟨b1232, 0, none⟩)), (12, .int .i64 r2761.1), (13, .int .i64 1), (69, .agg #[.slice p1204 r2761.2.1.length c1205, .slice p1209 r2761.2.2.1.length c1210, .slice p1214 r2761.2.2.2.1.length c1215, .slice p1219 r2761.2.2.2.2.length c1220]), (70, .int .i64 1)] w2775 (by kernel_rfl) ?_
              obtain ⟨r3151, hr3151, hm⟩ := gx_bind hm
              refine W_call 12 #[.agg #[.slice p1204 r2761.2.1.length c1205, .slice p1209 r2761.2.2.1.length c1210, .slice p1214 r2761.2.2.2.1.length c1215, .slice p1219 r2761.2.2.2.2.length c1220], .int .i64 1] (by kernel_rfl) (by kernel_rfl) ?_
              refine (c_l_heldMachine w2775 (⟨r2761.2.1, r2761.2.2.1, r2761.2.2.2.1, r2761.2.2.2.2⟩ : Machine) p1204 c1205 (ho2763.rd M2778 7 (by kernel_rfl)) p1209 c1210 (ho2766.rd M2778 8 (by kernel_rfl)) p1214 c1215 (ho2769.rd M2778 9 (by kernel_rfl)) p1219 c1220 (ho2773.rd M2778 10 (by kernel_rfl) 11 (by kernel_rfl)) 1 hr3151).mono ?_
              rintro e_ w3152 ⟨rfl, K3153⟩
              have M3154 := M2778.call0 K3153
              refine ⟨_, rfl, ?_⟩
              refine W_run 1 [(0, .slice p3 x1.length c4), (1, .int .i64 x6), (6, .pointer (some ⟨b626, 0, none⟩)), (7, .bool r596.2), (9, .pointer (some ⟨b1232, 0, none⟩)), (12, .int .i64 r2761.1), (13, .int .i64 r3151)] w3152 (by kernel_rfl) ?_
              refine W_nil ?_
              refine N_then ?_
              refine G_seq ?_
              refine G_seq ?_
              refine G_region ?_
              refine W_run 2 [(0, .slice p3 x1.length c4), (1, .int .i64 x6), (6, .pointer (some ⟨b626, 0, none⟩)), (7, .bool r596.2), (9, .pointer (some ⟨b1232, 0, none⟩)), (12, .int .i64 r2761.1), (13, .int .i64 r3151), (73, .bool (decide (r3151 < 0)))] w3152 (by kernel_rfl) ?_
              refine W_nil ?_
              refine N_then ?_
              rcases gx_bif hm with ⟨hc3155, hm⟩ | ⟨hc3155, hm⟩
              · refine G_cond_t (b := (decide (r3151 < 0))) hc3155 (by kernel_rfl) ?_
                refine G_seq ?_
                refine G_region ?_
                refine W_run 1 [(4, .bool false)] w3152 (by kernel_rfl) ?_
                refine W_nil ?_
                refine N_then ?_
                refine G_ret ?_
                refine N_then_ret ?_
                obtain rfl := Option.some.inj hm
                refine N_ret [.bool false] (RVs_cons (RV_tmp (by kernel_rfl)) RVs_nil) ?_
                exact ⟨rfl, M3154.pick [] (by kernel_rfl)⟩
              · refine G_cond_f (b := (decide (r3151 < 0))) hc3155 (by kernel_rfl) ?_
                refine G_skip ?_
                refine N_then ?_
                refine G_seq ?_
                refine G_seq ?_
                refine G_region ?_
                refine W_run 3 [(0, .slice p3 x1.length c4), (1, .int .i64 x6), (6, .pointer (some ⟨b626, 0, none⟩)), (7, .bool r596.2), (9, .pointer (some ⟨b1232, 0, none⟩)), (12, .int .i64 r2761.1), (76, .bool (r3151 != r2761.1))] w3152 (by kernel_rfl) ?_
                refine W_nil ?_
                refine N_then ?_
                rcases gx_bif hm with ⟨hc3156, hm⟩ | ⟨hc3156, hm⟩
                · refine G_cond_t (b := (r3151 != r2761.1)) hc3156 (by kernel_rfl) ?_
                  refine G_seq ?_
                  refine G_region ?_
                  refine W_run 1 [(4, .bool false)] w3152 (by kernel_rfl) ?_
                  refine W_nil ?_
                  refine N_then ?_
                  refine G_ret ?_
                  refine N_then_ret ?_
                  obtain rfl := Option.some.inj hm
                  refine N_ret [.bool false] (RVs_cons (RV_tmp (by kernel_rfl)) RVs_nil) ?_
                  exact ⟨rfl, M3154.pick [] (by kernel_rfl)⟩
                · refine G_cond_f (b := (r3151 != r2761.1)) hc3156 (by kernel_rfl) ?_
                  refine G_skip ?_
                  refine N_then ?_
                  refine G_seq ?_
                  refine G_region ?_
                  refine W_run 1 [(1, .int .i64 x6), (6, .pointer (some ⟨b626, 0, none⟩)), (7, .bool r596.2), (9, .pointer (some ⟨b1232, 0, none⟩)), (12, .int .i64 r2761.1), (78, .slice p3 x1.length c4)] w3152 (by kernel_rfl) ?_
                  obtain ⟨r3157, hr3157, hm⟩ := gx_bind hm
                  refine W_call 6 #[.slice p3 x1.length c4] (by kernel_rfl) (by kernel_rfl) ?_
                  refine (c_l_toRouteS w3152 x1 p3 c4 (h5.mem0 M3154) hr3157).mono ?_
                  rintro e_ w3163 ⟨p3159, c3160, sg3161, rfl, ho3162, K3164⟩
                  have M3165 := M3154.call K3164
                  refine ⟨_, rfl, ?_⟩
                  refine W_run 1 [(6, .pointer (some ⟨b626, 0, none⟩)), (7, .bool r596.2), (9, .pointer (some ⟨b1232, 0, none⟩)), (12, .int .i64 r2761.1), (79, .slice p3159 r3157.length c3160), (80, .int .i64 x6)] w3163 (by kernel_rfl) ?_
                  obtain ⟨r3166, hr3166, hm⟩ := gx_bind hm
                  refine W_call 7 #[.slice p3159 r3157.length c3160, .int .i64 x6] (by kernel_rfl) (by kernel_rfl) ?_
                  refine (c_i_NewMachine w3163 r3157 p3159 c3160 (ho3162.rd M3165 12 (by kernel_rfl)) x6 hr3166).mono ?_
                  rintro e_ w3188 ⟨p3168, c3169, sg3170, p3173, c3174, sg3175, p3178, c3179, sg3180, p3183, c3184, sg3185, sg3186, rfl, ho3171, ho3176, ho3181, ho3187, K3189⟩
                  have M3190 := M3165.call K3189
                  refine ⟨_, rfl, ?_⟩
                  refine W_run 3 [(6, .pointer (some ⟨b626, 0, none⟩)), (7, .bool r596.2), (9, .pointer (some ⟨b1232, 0, none⟩)), (12, .int .i64 r2761.1), (82, .agg #[.slice p3168 r3166.1.Routes.length c3169, .slice p3173 r3166.1.Enabled.length c3174, .slice p3178 r3166.1.Raised.length c3179, .slice p3183 r3166.1.Cpus.length c3184]), (83, .bool r3166.2)] w3188 (by kernel_rfl) ?_
                  refine W_new (fun b => .pointer (some ⟨b, 0, none⟩)) (.cells ⟨[.slice none 0 0, .slice none 0 0, .slice none 0 0, .slice none 0 0]⟩ 28 (0, 0)) M3190 rfl (by kernel_rfl) (by kernel_rfl) ?_
                  intro b3196 w3197 M3198
                  refine W_store _ _ _ true 4 b3196 0 [.slice none 0 0, .slice none 0 0, .slice none 0 0, .slice none 0 0] 28 (.agg #[.slice p3168 r3166.1.Routes.length c3169, .slice p3173 r3166.1.Enabled.length c3174, .slice p3178 r3166.1.Raised.length c3179, .slice p3183 r3166.1.Cpus.length c3184]) 18 [.slice p3168 r3166.1.Routes.length c3169, .slice p3173 r3166.1.Enabled.length c3174, .slice p3178 r3166.1.Raised.length c3179, .slice p3183 r3166.1.Cpus.length c3184] M3198 (by kernel_rfl) rfl (by kernel_rfl) (by kernel_rfl) (by kernel_rfl) (by kernel_rfl) (by kernel_rfl) (by kernel_rfl) (by kernel_rfl) (by kernel_rfl) ?_
                  intro w3199 M3200
                  refine W_run 1 [(6, .pointer (some ⟨b626, 0, none⟩)), (7, .bool r596.2), (9, .pointer (some ⟨b1232, 0, none⟩)), (12, .int .i64 r2761.1), (14, .pointer (some ⟨b3196, 0, none⟩)), (15, .bool r3166.2)] w3199 (by kernel_rfl) ?_
                  refine W_nil ?_
                  refine N_then ?_
                  refine G_seq ?_
                  refine G_seq ?_
                  obtain ⟨o3206, ho3207, hm3208⟩ := gx_bind hm
                  refine G_meet (fun a w' => Mem [] w w' [[(b1232, .cells ⟨[.slice p1204 r2761.2.1.length c1205, .slice p1209 r2761.2.2.1.length c1210, .slice p1214 r2761.2.2.2.1.length c1215, .slice p1219 r2761.2.2.2.2.length c1220]⟩ 28 (0, 0))], sg2762, sg2765, sg2768, sg2771, sg2772] ∧ Sat Try.f3.ntmps [(9, .pointer (some ⟨b1232, 0, none⟩)), (12, .int .i64 r2761.1), (92, .bool o3206)] a) ?_ ?_
                  · have hm := ho3207
                    refine G_region ?_
                    refine W_val (.agg #[.slice p3168 r3166.1.Routes.length c3169, .slice p3173 r3166.1.Enabled.length c3174, .slice p3178 r3166.1.Raised.length c3179, .slice p3183 r3166.1.Cpus.length c3184]) w3199 (by kernel_rfl) (E_load (e := 28) (fr := (0, 0)) _ _ true 4 b3196 0 [.slice p3168 r3166.1.Routes.length c3169, .slice p3173 r3166.1.Enabled.length c3174, .slice p3178 r3166.1.Raised.length c3179, .slice p3183 r3166.1.Cpus.length c3184] (.agg #[.slice p3168 r3166.1.Routes.length c3169, .slice p3173 r3166.1.Enabled.length c3174, .slice p3178 r3166.1.Raised.length c3179, .slice p3183 r3166.1.Cpus.length c3184]) rfl (by kernel_rfl) (by kernel_rfl) (by kernel_rfl) (M3200.blk 18 (b := b3196) (o := .cells ⟨[.slice p3168 r3166.1.Routes.length c3169, .slice p3173 r3166.1.Enabled.length c3174, .slice p3178 r3166.1.Raised.length c3179, .slice p3183 r3166.1.Cpus.length c3184]⟩ 28 (0, 0)) (by kernel_rfl))) ?_
                    refine W_val (.agg #[.slice p598 r596.1.Routes.length c599, .slice p603 r596.1.Enabled.length c604, .slice p608 r596.1.Raised.length c609, .slice p613 r596.1.Cpus.length c614]) w3199 (by kernel_rfl) (E_load (e := 28) (fr := (0, 0)) _ _ true 4 b626 0 [.slice p598 r596.1.Routes.length c599, .slice p603 r596.1.Enabled.length c604, .slice p608 r596.1.Raised.length c609, .slice p613 r596.1.Cpus.length c614] (.agg #[.slice p598 r596.1.Routes.length c599, .slice p603 r596.1.Enabled.length c604, .slice p608 r596.1.Raised.length c609, .slice p613 r596.1.Cpus.length c614]) rfl (by kernel_rfl) (by kernel_rfl) (by kernel_rfl) (M3200.blk 5 (b := b626) (o := .cells ⟨[.slice p598 r596.1.Routes.length c599, .slice p603 r596.1.Enabled.length c604, .slice p608 r596.1.Raised.length c609, .slice p613 r596.1.Cpus.length c614]⟩ 28 (0, 0)) (by kernel_rfl))) ?_
                    obtain ⟨r3209, hr3209, hm⟩ := gx_bind hm
                    refine W_call 8 #[.agg #[.slice p3168 r3166.1.Routes.length c3169, .slice p3173 r3166.1.Enabled.length c3174, .slice p3178 r3166.1.Raised.length c3179, .slice p3183 r3166.1.Cpus.length c3184], .agg #[.slice p598 r596.1.Routes.length c599, .slice p603 r596.1.Enabled.length c604, .slice p608 r596.1.Raised.length c609, .slice p613 r596.1.Cpus.length c614]] (by kernel_rfl) (by kernel_rfl) ?_
                    refine (c_l_eqMachine w3199 r3166.1 p3168 c3169 (ho3171.rd M3200 13 (by kernel_rfl)) p3173 c3174 (ho3176.rd M3200 14 (by kernel_rfl)) p3178 c3179 (ho3181.rd M3200 15 (by kernel_rfl)) p3183 c3184 (ho3187.rd M3200 16 (by kernel_rfl) 17 (by kernel_rfl)) r596.1 p598 c599 (ho601.rd M3200 0 (by kernel_rfl)) p603 c604 (ho606.rd M3200 1 (by kernel_rfl)) p608 c609 (ho611.rd M3200 2 (by kernel_rfl)) p613 c614 (ho617.rd M3200 3 (by kernel_rfl) 4 (by kernel_rfl)) hr3209).mono ?_
                    rintro e_ w3210 ⟨rfl, K3211⟩
                    have M3212 := M3200.call0 K3211
                    refine ⟨_, rfl, ?_⟩
                    refine W_run 2 [(7, .bool r596.2), (9, .pointer (some ⟨b1232, 0, none⟩)), (12, .int .i64 r2761.1), (15, .bool r3166.2), (88, .bool (!r3209))] w3210 (by kernel_rfl) ?_
                    rcases gx_bif hm with ⟨hc3213, hm⟩ | ⟨hc3213, hm⟩
                    · refine W_known 88 true (by kernel_rfl) hc3213 ?_
                      refine W_run 4 [(9, .pointer (some ⟨b1232, 0, none⟩)), (12, .int .i64 r2761.1), (92, .bool true)] w3210 (by kernel_rfl) ?_
                      refine W_nil ?_
                      obtain rfl := Option.some.inj hm
                      exact N_meet fun a ha => ⟨M3212.pick [6, 7, 8, 9, 10, 11] (by kernel_rfl), ha.sub (by kernel_rfl)⟩
                    · refine W_known 88 false (by kernel_rfl) hc3213 ?_
                      refine W_run 4 [(9, .pointer (some ⟨b1232, 0, none⟩)), (12, .int .i64 r2761.1), (92, .bool (!(r3166.2 == r596.2)))] w3210 (by kernel_rfl) ?_
                      refine W_nil ?_
                      obtain rfl := Option.some.inj hm
                      exact N_meet fun a ha => ⟨M3212.pick [6, 7, 8, 9, 10, 11] (by kernel_rfl), ha.sub (by kernel_rfl)⟩
                  · intro a3216 w3214 ⟨M3215, hS3217⟩
                    refine N_use hS3217 ?_
                    have hm := hm3208
                    refine N_then ?_
                    rcases gx_bif hm with ⟨hc3218, hm⟩ | ⟨hc3218, hm⟩
                    · refine G_cond_t (b := o3206) hc3218 (by kernel_rfl) ?_
                      refine G_seq ?_
                      refine G_region ?_
                      refine W_run 1 [(4, .bool false)] w3214 (by kernel_rfl) ?_
                      refine W_nil ?_
                      refine N_then ?_
                      refine G_ret ?_
                      refine N_then_ret ?_
                      obtain rfl := Option.some.inj hm
                      refine N_ret [.bool false] (RVs_cons (RV_tmp (by kernel_rfl)) RVs_nil) ?_
                      exact ⟨rfl, M3215.pick [] (by kernel_rfl)⟩
                    · refine G_cond_f (b := o3206) hc3218 (by kernel_rfl) ?_
                      refine G_skip ?_
                      refine N_then ?_
                      refine G_seq ?_
                      refine G_region ?_
                      refine W_run 1 [(9, .pointer (some ⟨b1232, 0, none⟩)), (12, .int .i64 r2761.1), (13, .int .i64 1)] w3214 (by kernel_rfl) ?_
                      refine W_nil ?_
                      refine N_then ?_
                      refine G_seq ?_
                      refine G_region ?_
                      refine W_val (.agg #[.slice p1204 r2761.2.1.length c1205, .slice p1209 r2761.2.2.1.length c1210, .slice p1214 r2761.2.2.2.1.length c1215, .slice p1219 r2761.2.2.2.2.length c1220]) w3214 (by kernel_rfl) (E_load (e := 28) (fr := (0, 0)) _ _ true 4 b1232 0 [.slice p1204 r2761.2.1.length c1205, .slice p1209 r2761.2.2.1.length c1210, .slice p1214 r2761.2.2.2.1.length c1215, .slice p1219 r2761.2.2.2.2.length c1220] (.agg #[.slice p1204 r2761.2.1.length c1205, .slice p1209 r2761.2.2.1.length c1210, .slice p1214 r2761.2.2.2.1.length c1215, .slice p1219 r2761.2.2.2.2.length c1220]) rfl (by kernel_rfl) (by kernel_rfl) (by kernel_rfl) (M3215.blk 0 (b := b1232) (o := .cells ⟨[.slice p1204 r2761.2.1.length c1205, .slice p1209 r2761.2.2.1.length c1210, .slice p1214 r2761.2.2.2.1.length c1215, .slice p1219 r2761.2.2.2.2.length c1220]⟩ 28 (0, 0)) (by kernel_rfl))) ?_
                      refine W_run 1 [(12, .int .i64 r2761.1), (13, .int .i64 1), (93, .agg #[.slice p1204 r2761.2.1.length c1205, .slice p1209 r2761.2.2.1.length c1210, .slice p1214 r2761.2.2.2.1.length c1215, .slice p1219 r2761.2.2.2.2.length c1220]), (94, .int .i64 1)] w3214 (by kernel_rfl) ?_
                      obtain ⟨r3219, hr3219, hm⟩ := gx_bind hm
                      refine W_call 12 #[.agg #[.slice p1204 r2761.2.1.length c1205, .slice p1209 r2761.2.2.1.length c1210, .slice p1214 r2761.2.2.2.1.length c1215, .slice p1219 r2761.2.2.2.2.length c1220], .int .i64 1] (by kernel_rfl) (by kernel_rfl) ?_
                      refine (c_l_heldMachine w3214 (⟨r2761.2.1, r2761.2.2.1, r2761.2.2.2.1, r2761.2.2.2.2⟩ : Machine) p1204 c1205 (ho2763.rd M3215 1 (by kernel_rfl)) p1209 c1210 (ho2766.rd M3215 2 (by kernel_rfl)) p1214 c1215 (ho2769.rd M3215 3 (by kernel_rfl)) p1219 c1220 (ho2773.rd M3215 4 (by kernel_rfl) 5 (by kernel_rfl)) 1 hr3219).mono ?_
                      rintro e_ w3220 ⟨rfl, K3221⟩
                      have M3222 := M3215.call0 K3221
                      refine ⟨_, rfl, ?_⟩
                      refine W_run 1 [(12, .int .i64 r2761.1), (13, .int .i64 r3219)] w3220 (by kernel_rfl) ?_
                      refine W_nil ?_
                      refine N_then ?_
                      refine G_seq ?_
                      refine G_seq ?_
                      refine G_region ?_
                      refine W_run 2 [(12, .int .i64 r2761.1), (13, .int .i64 r3219), (97, .bool (decide (r3219 < 0)))] w3220 (by kernel_rfl) ?_
                      refine W_nil ?_
                      refine N_then ?_
                      rcases gx_bif hm with ⟨hc3223, hm⟩ | ⟨hc3223, hm⟩
                      · refine G_cond_t (b := (decide (r3219 < 0))) hc3223 (by kernel_rfl) ?_
                        refine G_seq ?_
                        refine G_region ?_
                        refine W_run 1 [(4, .bool false)] w3220 (by kernel_rfl) ?_
                        refine W_nil ?_
                        refine N_then ?_
                        refine G_ret ?_
                        refine N_then_ret ?_
                        obtain rfl := Option.some.inj hm
                        refine N_ret [.bool false] (RVs_cons (RV_tmp (by kernel_rfl)) RVs_nil) ?_
                        exact ⟨rfl, M3222.pick [] (by kernel_rfl)⟩
                      · refine G_cond_f (b := (decide (r3219 < 0))) hc3223 (by kernel_rfl) ?_
                        refine G_skip ?_
                        refine N_then ?_
                        refine G_seq ?_
                        refine G_seq ?_
                        refine G_region ?_
                        refine W_run 3 [(100, .bool (r3219 != r2761.1))] w3220 (by kernel_rfl) ?_
                        refine W_nil ?_
                        refine N_then ?_
                        rcases gx_bif hm with ⟨hc3224, hm⟩ | ⟨hc3224, hm⟩
                        · refine G_cond_t (b := (r3219 != r2761.1)) hc3224 (by kernel_rfl) ?_
                          refine G_seq ?_
                          refine G_region ?_
                          refine W_run 1 [(4, .bool false)] w3220 (by kernel_rfl) ?_
                          refine W_nil ?_
                          refine N_then ?_
                          refine G_ret ?_
                          refine N_then_ret ?_
                          obtain rfl := Option.some.inj hm
                          refine N_ret [.bool false] (RVs_cons (RV_tmp (by kernel_rfl)) RVs_nil) ?_
                          exact ⟨rfl, M3222.pick [] (by kernel_rfl)⟩
                        · refine G_cond_f (b := (r3219 != r2761.1)) hc3224 (by kernel_rfl) ?_
                          refine G_skip ?_
                          refine N_then ?_
                          refine G_seq ?_
                          refine G_region ?_
                          refine W_run 1 [(4, .bool true)] w3220 (by kernel_rfl) ?_
                          refine W_nil ?_
                          refine N_then ?_
                          refine G_ret ?_
                          obtain rfl := Option.some.inj hm
                          refine N_ret [.bool true] (RVs_cons (RV_tmp (by kernel_rfl)) RVs_nil) ?_
                          exact ⟨rfl, M3222.pick [] (by kernel_rfl)⟩
end Go.Proofs.Ytllhajkgkghhdaa
