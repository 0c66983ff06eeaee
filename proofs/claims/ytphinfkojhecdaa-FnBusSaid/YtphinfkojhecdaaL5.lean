/- Plain laws of the models: no program in sight. -/
import Derived.Test.YtphinfkojhecdaaM
import Derived.Test.YtphinfkojhecdaaL4
set_option linter.unusedVariables false
set_option linter.unusedSimpArgs false
set_option maxHeartbeats 4000000
namespace Go.Proofs.Ytphinfkojhecdaa
open Go.Gx
/-! ### Region -/
theorem toRegion_id (x : Region) : M.l_toRegion x = some x := rfl
theorem szRegionS_ex (xs : List Region) (left : Int) (h : okL okRegion xs) (hl : -1 ≤ left ∧ left ≤ 1048576) : ∃ q, M.l_szRegionS xs left = some q ∧ (q < 0 ∨ (0 ≤ q ∧ q ≤ left ∧ (xs.length : Int) ≤ left - q)) := by
  unfold M.l_szRegionS
  have := h.1
  exact sz_simple (by omega) hl
def mkRegion (x : Region) (k : Nat) : Nat × Region := (k + 4, ⟨((k : Nat) : Int), (((k + 1) : Nat) : Int), (((k + 2) : Nat) : Int), (((k + 3) : Nat) : Int)⟩)
theorem markRegionS_held (xs : List Region) (k : Nat) (h : k + 4 * xs.length ≤ 1099511627776) : ∃ (n : Nat) (m : List Region), M.l_markRegionS xs k = some ((n : Int), m) ∧ M.l_heldRegionS m k = some (n : Int) ∧ k ≤ n ∧ n = k + 4 * xs.length := by
  have hf : ∀ (x : Region) (k : Nat), k ≤ (mkRegion x k).1 := fun x k => by simp only [mkRegion]; omega
  have hc : (gmk mkRegion xs k).1 = k + 4 * xs.length := gmk_const (fun _ _ => rfl) xs k
  refine ⟨(gmk mkRegion xs k).1, (gmk mkRegion xs k).2, ?_, ?_, gmk_mono hf _ _, hc⟩
  · unfold M.l_markRegionS
    rw [mark_run mkRegion hf (by omega) (by omega)]
    · rfl
    · intro i hi K L hL hK hLi hLl
      have h1 : ((i : Int) < (L.length : Int)) := by omega
      have hK : K + 4 ≤ 1099511627776 := hK
      simp only [h1, decide_true, cond_true, gxIdx_nat hL, gxIdx_same hL, List.set_set, Option.bind_some, Int.toNat_natCast, w64_succ (show K ≤ 4611686018427387904 by omega), w64_succ (show K + 1 ≤ 4611686018427387904 by omega), w64_succ (show K + 2 ≤ 4611686018427387904 by omega), w64_succ (show K + 3 ≤ 4611686018427387904 by omega), Nat.add_assoc, Nat.reduceAdd, mkRegion]
      all_goals rfl
    · intro K L hL
      simp only [hL, Int.lt_irrefl, decide_false, cond_false]
  · unfold M.l_heldRegionS
    rw [held_run mkRegion (xs := xs) hf (by omega) (by omega)]
    · rfl
    · intro i hi h2 K hK he
      have h1 : ((i : Int) < ((gmk mkRegion xs k).2.length : Int)) := by omega
      have hK : K + 4 ≤ 1099511627776 := hK
      simp only [h1, decide_true, cond_true, gxIdx_nat h2, he, mkRegion, Option.bind_some, bne_self_eq_false, beq_self_eq_true, Bool.not_true, cond_false, w64_succ (show K ≤ 4611686018427387904 by omega), w64_succ (show K + 1 ≤ 4611686018427387904 by omega), w64_succ (show K + 2 ≤ 4611686018427387904 by omega), w64_succ (show K + 3 ≤ 4611686018427387904 by omega), Nat.add_assoc, Nat.reduceAdd]
      all_goals rfl
    · intro K
      simp only [gmk_len, Int.lt_irrefl, decide_false, cond_false]
      all_goals rfl
/-! ### Access -/
theorem eqAccess_refl (x : Access) : M.l_eqAccess x x = some true := by unfold M.l_eqAccess; simp
theorem eqAccessS_refl (xs : List Access) (h : xs.length ≤ 4611686018427387904) : M.l_eqAccessS xs xs = some true := by
  unfold M.l_eqAccessS
  rw [while_run (fun i => (i : Int)) (Sum.inl ()) xs.length (by simp) h]
  · simp
  · intro i hi
    have h1 : ((i : Int) < (xs.length : Int)) := by omega
    simp [h1, gxIdx_nat hi, eqAccess_refl, w64_succ (show i ≤ 4611686018427387904 by omega)]
  · simp
theorem toAccess_id (x : Access) : M.l_toAccess x = some x := rfl
def mkAccess (x : Access) (k : Nat) : Nat × Access := (k + 3, ⟨((k : Nat) : Int), (((k + 1) : Nat) : Int), ((((k + 2) : Nat) : Int).tmod 3 == 0)⟩)
theorem markAccessS_held (xs : List Access) (k : Nat) (h : k + 3 * xs.length ≤ 1099511627776) : ∃ (n : Nat) (m : List Access), M.l_markAccessS xs k = some ((n : Int), m) ∧ M.l_heldAccessS m k = some (n : Int) ∧ k ≤ n ∧ n = k + 3 * xs.length := by
  have hf : ∀ (x : Access) (k : Nat), k ≤ (mkAccess x k).1 := fun x k => by simp only [mkAccess]; omega
  have hc : (gmk mkAccess xs k).1 = k + 3 * xs.length := gmk_const (fun _ _ => rfl) xs k
  refine ⟨(gmk mkAccess xs k).1, (gmk mkAccess xs k).2, ?_, ?_, gmk_mono hf _ _, hc⟩
  · unfold M.l_markAccessS
    rw [mark_run mkAccess hf (by omega) (by omega)]
    · rfl
    · intro i hi K L hL hK hLi hLl
      have h1 : ((i : Int) < (L.length : Int)) := by omega
      have hK : K + 3 ≤ 1099511627776 := hK
      simp only [h1, decide_true, cond_true, gxIdx_nat hL, gxIdx_same hL, List.set_set, Option.bind_some, Int.toNat_natCast, w64_succ (show K ≤ 4611686018427387904 by omega), w64_succ (show K + 1 ≤ 4611686018427387904 by omega), w64_succ (show K + 2 ≤ 4611686018427387904 by omega), Nat.add_assoc, Nat.reduceAdd, mkAccess]
      all_goals rfl
    · intro K L hL
      simp only [hL, Int.lt_irrefl, decide_false, cond_false]
  · unfold M.l_heldAccessS
    rw [held_run mkAccess (xs := xs) hf (by omega) (by omega)]
    · rfl
    · intro i hi h2 K hK he
      have h1 : ((i : Int) < ((gmk mkAccess xs k).2.length : Int)) := by omega
      have hK : K + 3 ≤ 1099511627776 := hK
      simp only [h1, decide_true, cond_true, gxIdx_nat h2, he, mkAccess, Option.bind_some, bne_self_eq_false, beq_self_eq_true, Bool.not_true, cond_false, w64_succ (show K ≤ 4611686018427387904 by omega), w64_succ (show K + 1 ≤ 4611686018427387904 by omega), w64_succ (show K + 2 ≤ 4611686018427387904 by omega), Nat.add_assoc, Nat.reduceAdd]
      all_goals rfl
    · intro K
      simp only [gmk_len, Int.lt_irrefl, decide_false, cond_false]
      all_goals rfl
theorem plain_UnitsBetween (a0 : List Region) (a1 : Int) (a2 : Int) (k0 : okL okRegion a0) (k1 : okI a1) (k2 : okI a2) : M.l_FnExactUnitsBetween a0 a1 a2 = some true := by
  unfold M.l_FnExactUnitsBetween
  obtain ⟨q0, hq0, hf0⟩ := szRegionS_ex a0 1048576 k0 (by omega)
  rw [hq0, Option.bind_some]
  rcases hf0 with hf0 | hf0
  · simp only [hf0, decide_true, cond_true]
  have hn0 : ¬ (q0 < 0) := by omega
  simp only [hn0, decide_false, cond_false]
  obtain ⟨r, hs, hi, hr0⟩ := UnitsBetween_eq a0 a1 a2 (by omega)
  have ht0 := toRegionS_id a0 (by omega)
  have he0 := eqRegionS_refl a0 (by omega)
  obtain ⟨na0, ma0, hma0, _, hla0, hua0⟩ := markRegionS_held a0 1 (by omega)
  have hma0 : M.l_markRegionS a0 1 = _ := hma0
  obtain ⟨nr0, mr0, hmr0, hhr0, hlr0, hur0⟩ := markIntS_held r.1 1 (by omega)
  have hmr0 : M.l_markIntS r.1 1 = _ := hmr0
  have hhr0 : M.l_heldIntS mr0 1 = _ := hhr0
  have her0 := eqIntS_refl r.1 (by omega)
  simp only [hs, hi, ht0, he0, hma0, hmr0, hhr0, her0, nat_nlt, Option.bind_some, Bool.not_true, cond_false, cond_true, beq_self_eq_true, bne_self_eq_false, decide_false]
theorem plain_SplitAccess (a0 : List Region) (a1 : Access) (k0 : okL okRegion a0) (k1 : okAccess a1) : M.l_FnExactSplitAccess a0 a1 = some true := by
  unfold M.l_FnExactSplitAccess
  obtain ⟨q0, hq0, hf0⟩ := szRegionS_ex a0 1048576 k0 (by omega)
  rw [hq0, Option.bind_some]
  rcases hf0 with hf0 | hf0
  · simp only [hf0, decide_true, cond_true]
  have hn0 : ¬ (q0 < 0) := by omega
  simp only [hn0, decide_false, cond_false]
  obtain ⟨r, hs, hi, hr0⟩ := SplitAccess_eq a0 a1 (by omega)
  have ht0 := toRegionS_id a0 (by omega)
  have he0 := eqRegionS_refl a0 (by omega)
  have ht1 := toAccess_id a1
  obtain ⟨na0, ma0, hma0, _, hla0, hua0⟩ := markRegionS_held a0 1 (by omega)
  have hma0 : M.l_markRegionS a0 1 = _ := hma0
  obtain ⟨nr0, mr0, hmr0, hhr0, hlr0, hur0⟩ := markAccessS_held r.1 1 (by omega)
  have hmr0 : M.l_markAccessS r.1 1 = _ := hmr0
  have hhr0 : M.l_heldAccessS mr0 1 = _ := hhr0
  have her0 := eqAccessS_refl r.1 (by omega)
  simp only [hs, hi, ht0, he0, ht1, hma0, hmr0, hhr0, her0, nat_nlt, Option.bind_some, Bool.not_true, cond_false, cond_true, beq_self_eq_true, bne_self_eq_false, decide_false]
end Go.Proofs.Ytphinfkojhecdaa
