/- Plain laws of the models: no program in sight. -/
import Derived.Test.YtllhajkgkghhdaaGreatAM
import Derived.Test.YtllhajkgkghhdaaGreatAK10
set_option linter.unusedVariables false
set_option linter.unusedSimpArgs false
set_option maxHeartbeats 4000000
namespace Go.Proofs.YtllhajkgkghhdaaGreat
open Go.Gx
/-! ### Marks alone -/
theorem markRouteS_mk (xs : List Route) (k : Nat) (h : k + 2 * xs.length ≤ 1099511627776) : M.l_markRouteS xs k = some (((gmk mkRoute xs k).1 : Int), (gmk mkRoute xs k).2) ∧ (gmk mkRoute xs k).1 = k + 2 * xs.length := by
  have hf : ∀ (x : Route) (k : Nat), k ≤ (mkRoute x k).1 := fun x k => by simp only [mkRoute]; omega
  have hc : (gmk mkRoute xs k).1 = k + 2 * xs.length := gmk_const (fun _ _ => rfl) xs k
  refine ⟨?_, hc⟩
  unfold M.l_markRouteS
  rw [mark_run mkRoute hf (by omega) (by omega)]
  · rfl
  · intro i hi K L hL hK hLi hLl
    have h1 : ((i : Int) < (L.length : Int)) := by omega
    have hK : K + 2 ≤ 1099511627776 := hK
    simp only [h1, decide_true, cond_true, gxIdx_nat hL, gxIdx_same hL, List.set_set, Option.bind_some, Int.toNat_natCast, w64_succ (show K ≤ 4611686018427387904 by omega), w64_succ (show K + 1 ≤ 4611686018427387904 by omega), Nat.add_assoc, Nat.reduceAdd, mkRoute]
    all_goals rfl
  · intro K L hL
    simp only [hL, Int.lt_irrefl, decide_false, cond_false]
theorem markSlotS_mk (xs : List Slot) (k : Nat) (h : k + 3 * xs.length ≤ 1099511627776) : M.l_markSlotS xs k = some (((gmk mkSlot xs k).1 : Int), (gmk mkSlot xs k).2) ∧ (gmk mkSlot xs k).1 = k + 3 * xs.length := by
  have hf : ∀ (x : Slot) (k : Nat), k ≤ (mkSlot x k).1 := fun x k => by simp only [mkSlot]; omega
  have hc : (gmk mkSlot xs k).1 = k + 3 * xs.length := gmk_const (fun _ _ => rfl) xs k
  refine ⟨?_, hc⟩
  unfold M.l_markSlotS
  rw [mark_run mkSlot hf (by omega) (by omega)]
  · rfl
  · intro i hi K L hL hK hLi hLl
    have h1 : ((i : Int) < (L.length : Int)) := by omega
    have hK : K + 3 ≤ 1099511627776 := hK
    simp only [h1, decide_true, cond_true, gxIdx_nat hL, gxIdx_same hL, List.set_set, Option.bind_some, Int.toNat_natCast, w64_succ (show K ≤ 4611686018427387904 by omega), w64_succ (show K + 1 ≤ 4611686018427387904 by omega), w64_succ (show K + 2 ≤ 4611686018427387904 by omega), Nat.add_assoc, Nat.reduceAdd, mkSlot]
    all_goals rfl
  · intro K L hL
    simp only [hL, Int.lt_irrefl, decide_false, cond_false]
theorem markWaiterS_mk (xs : List Waiter) (k : Nat) (h : k + 2 * xs.length ≤ 1099511627776) : M.l_markWaiterS xs k = some (((gmk mkWaiter xs k).1 : Int), (gmk mkWaiter xs k).2) ∧ (gmk mkWaiter xs k).1 = k + 2 * xs.length := by
  have hf : ∀ (x : Waiter) (k : Nat), k ≤ (mkWaiter x k).1 := fun x k => by simp only [mkWaiter]; omega
  have hc : (gmk mkWaiter xs k).1 = k + 2 * xs.length := gmk_const (fun _ _ => rfl) xs k
  refine ⟨?_, hc⟩
  unfold M.l_markWaiterS
  rw [mark_run mkWaiter hf (by omega) (by omega)]
  · rfl
  · intro i hi K L hL hK hLi hLl
    have h1 : ((i : Int) < (L.length : Int)) := by omega
    have hK : K + 2 ≤ 1099511627776 := hK
    simp only [h1, decide_true, cond_true, gxIdx_nat hL, gxIdx_same hL, List.set_set, Option.bind_some, Int.toNat_natCast, w64_succ (show K ≤ 4611686018427387904 by omega), w64_succ (show K + 1 ≤ 4611686018427387904 by omega), Nat.add_assoc, Nat.reduceAdd, mkWaiter]
    all_goals rfl
  · intro K L hL
    simp only [hL, Int.lt_irrefl, decide_false, cond_false]
theorem markIfS_mk (xs : List Interface) (k : Nat) (hl : xs.length ≤ 1048576) (h : k + wIfs xs ≤ 1099511627776) : M.l_markInterfaceS xs k = some (((gmk mkIf xs k).1 : Int), (gmk mkIf xs k).2) := by
  have hf : ∀ (x : Interface) (k : Nat), k ≤ (mkIf x k).1 := fun x k => by simp only [mkIf]; omega
  have hc := mkIf_sum xs k
  unfold M.l_markInterfaceS
  rw [mark_run mkIf hf (by omega) (by omega)]
  · rfl
  · intro i hi K L hL hK hLi hLl
    have h1 : ((i : Int) < (L.length : Int)) := by omega
    have hK : K + wIf xs[i] ≤ 1099511627776 := hK
    have hw : wIf xs[i] = 1 + xs[i].Stack.length + 3 * xs[i].Queue.Slots.length + 2 * xs[i].Queue.Waiting.length := rfl
    have m1 := markIntS_ok xs[i].Stack (K + 1) (by omega)
    have m2 := markSlotS_mk xs[i].Queue.Slots (K + 1 + xs[i].Stack.length) (by omega)
    have m3 := markWaiterS_mk xs[i].Queue.Waiting (K + 1 + xs[i].Stack.length + 3 * xs[i].Queue.Slots.length) (by omega)
    rw [m2.2] at m2
    simp only [h1, decide_true, cond_true, gxIdx_nat hL, gxIdx_same hL, List.set_set, Option.bind_some, Int.toNat_natCast, hLi, w64_succ (show K ≤ 4611686018427387904 by omega), m1, m2.1, m3.1]
    rw [m3.2]
    have e : K + 1 + xs[i].Stack.length + 3 * xs[i].Queue.Slots.length + 2 * xs[i].Queue.Waiting.length = K + wIf xs[i] := by omega
    rw [e]
    rfl
  · intro K L hL
    simp only [hL, Int.lt_irrefl, decide_false, cond_false]
theorem markMachine_held (m : Machine) (k : Nat) (hf : fitM m) (h : k ≤ 1048576) : ∃ (n : Nat) (q : List Route × List Bool × List Bool × List Interface), M.l_markMachine m k = some ((n : Int), q) ∧ True ∧ k ≤ n ∧ n = k + 2 * m.Routes.length + m.Enabled.length + m.Raised.length + wIfs m.Cpus := by
  obtain ⟨h1, h2, h3, h4, h5, h6⟩ := hf
  have m1 := markRouteS_mk m.Routes k (by omega)
  rw [m1.2] at m1
  have m2 := markBoolS_ok m.Enabled (k + 2 * m.Routes.length) (by omega)
  have m3 := markBoolS_ok m.Raised (k + 2 * m.Routes.length + m.Enabled.length) (by omega)
  have m4 := markIfS_mk m.Cpus (k + 2 * m.Routes.length + m.Enabled.length + m.Raised.length) h4 (by omega)
  rw [mkIf_sum] at m4
  refine ⟨k + 2 * m.Routes.length + m.Enabled.length + m.Raised.length + wIfs m.Cpus, ⟨(gmk mkRoute m.Routes k).2, bmarks (k + 2 * m.Routes.length) m.Enabled.length, bmarks (k + 2 * m.Routes.length + m.Enabled.length) m.Raised.length, (gmk mkIf m.Cpus (k + 2 * m.Routes.length + m.Enabled.length + m.Raised.length)).2⟩, ?_, trivial, by omega, rfl⟩
  unfold M.l_markMachine
  simp only [m1.1, m2, m3, m4, Option.bind_some]

theorem plain_IsIdle (a0 : Machine) (k0 : okMachine a0) : M.l_FnExactIsIdle a0 = some true := by
  unfold M.l_FnExactIsIdle
  obtain ⟨q0, hq0, hf0⟩ := szMachine_ex a0 1048576 k0 (by omega)
  rw [hq0, Option.bind_some]
  rcases hf0 with hf0 | hf0
  · simp only [hf0, decide_true, cond_true]
  have hn0 : ¬ (q0 < 0) := by omega
  simp only [hn0, decide_false, cond_false]
  have hz0 := hf0.2.2
  obtain ⟨r, hs, hi⟩ := IsIdle_eq a0 hz0
  have ht0 := toMachine_id a0 hz0
  have he0 := eqMachine_refl a0 hz0
  simp only [hs, hi, ht0, he0, nat_nlt, Option.bind_some, Bool.not_true, cond_false, cond_true, beq_self_eq_true, bne_self_eq_false, decide_false]
theorem plain_PendingOn (a0 : Machine) (a1 : Int) (k0 : okMachine a0) (k1 : okI a1) : M.l_FnExactPendingOn a0 a1 = some true := by
  unfold M.l_FnExactPendingOn
  obtain ⟨q0, hq0, hf0⟩ := szMachine_ex a0 1048576 k0 (by omega)
  rw [hq0, Option.bind_some]
  rcases hf0 with hf0 | hf0
  · simp only [hf0, decide_true, cond_true]
  have hn0 : ¬ (q0 < 0) := by omega
  simp only [hn0, decide_false, cond_false]
  have hz0 := hf0.2.2
  obtain ⟨r, hs, hi, hr0⟩ := PendingOn_eq a0 a1 hz0
  have ht0 := toMachine_id a0 hz0
  have he0 := eqMachine_refl a0 hz0
  obtain ⟨na0, ma0, hma0, _, hla0, hua0⟩ := markMachine_held a0 1 hz0 (by omega)
  have hma0 : M.l_markMachine a0 1 = _ := hma0
  obtain ⟨nr0, mr0, hmr0, hhr0, hlr0, hur0⟩ := markIntS_held r.1 1 (by omega)
  have hmr0 : M.l_markIntS r.1 1 = _ := hmr0
  have hhr0 : M.l_heldIntS mr0 1 = _ := hhr0
  have her0 := eqIntS_refl r.1 (by omega)
  simp only [hs, hi, ht0, he0, hma0, hmr0, hhr0, her0, nat_nlt, Option.bind_some, Bool.not_true, cond_false, cond_true, beq_self_eq_true, bne_self_eq_false, decide_false]

end Go.Proofs.YtllhajkgkghhdaaGreat
