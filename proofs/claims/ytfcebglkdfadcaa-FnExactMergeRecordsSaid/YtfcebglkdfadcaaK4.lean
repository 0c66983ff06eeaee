/- Plain laws of the models: no program in sight. -/
import Derived.Test.YtfcebglkdfadcaaM
import Derived.Test.YtfcebglkdfadcaaK3
set_option linter.unusedVariables false
set_option linter.unusedSimpArgs false
set_option maxHeartbeats 4000000
namespace Go.Proofs.Ytfcebglkdfadcaa
open Go.Gx
/-! ### Marks of texts -/
theorem str1_size (b : Int) : (gxStr [b]).size = 1 := by
  simp [gxStr]
theorem markText_ex (k : Nat) (h : k ≤ 1099511627776) : ∃ t, M.l_markText (k : Int) = some t := by
  unfold M.l_markText
  by_cases hk : (k : Int) ≤ 0
  · exact ⟨ByteArray.mk #[109, 48], by simp only [hk, decide_true, cond_true]⟩
  · simp only [hk, decide_false, cond_false]
    have := while_inv (body := fun s1506 : Int × ByteArray =>
      bif decide (s1506.1 > 0) then (Option.bind (gxSCat (gxStr [IntKind.u8.wrap (w64 (48 + (s1506.1.tmod 10)))]) s1506.2) fun q1525 =>
      some (Sum.inl (β := ByteArray) (w64 (s1506.1.tdiv 10), q1525)))
      else some (.inr s1506.2)) (s0 := ((k : Int), (ByteArray.mk #[]))) (fun i s => 0 ≤ s.1 ∧ s.1 * 10 ^ i ≤ 1099511627776 ∧ s.2.size ≤ i) (fun r => r.size ≤ 20) 20 (by omega) ⟨by omega, by simp; omega, Nat.le_refl 0⟩ (fun i s hi hR => by
        obtain ⟨a, t⟩ := s
        obtain ⟨h0, h1, h2⟩ := hR
        simp only at h0 h1 h2
        by_cases ha : a > 0
        · have hp : (1 : Int) ≤ 10 ^ i := by
            have := Int.pow_pos (n := 10) (m := i) (by omega)
            omega
          have hle : a ≤ 1099511627776 := by
            have : a * 1 ≤ a * 10 ^ i := Int.mul_le_mul_of_nonneg_left hp h0
            omega
          have hc : gxSCat (gxStr [IntKind.u8.wrap (w64 (48 + (a.tmod 10)))]) t = some (gxStr [IntKind.u8.wrap (w64 (48 + (a.tmod 10)))] ++ t) := by
            unfold gxSCat
            rw [if_neg (by rw [str1_size]; omega)]
          have hd : a.tdiv 10 = a / 10 := Int.tdiv_eq_ediv_of_nonneg h0
          simp only [ha, decide_true, cond_true, hc, Option.bind_some, hd, w64_id (z := a / 10) (by omega) (by omega)]
          refine Or.inl ⟨_, rfl, by simp only; omega, ?_, ?_⟩
          · simp only
            have e1 : a / 10 * 10 ≤ a := by omega
            have e2 : a / 10 * 10 * 10 ^ i ≤ a * 10 ^ i := Int.mul_le_mul_of_nonneg_right e1 (by omega)
            rw [Int.pow_succ, Int.mul_comm (10 ^ i) 10, ← Int.mul_assoc]
            omega
          · simp only [ByteArray.size_append, str1_size]
            omega
        · simp only [ha, decide_false, cond_false]
          exact Or.inr ⟨_, rfl, by omega⟩) (fun s hR => by
        obtain ⟨a, t⟩ := s
        obtain ⟨h0, h1, h2⟩ := hR
        simp only at h0 h1 h2
        have ha : ¬ (a > 0) := by omega
        simp only [ha, decide_false, cond_false]
        exact ⟨_, rfl, h2⟩)
    obtain ⟨q, hq, hq2⟩ := this
    rw [hq, Option.bind_some]
    have hc : gxSCat (ByteArray.mk #[109]) q = some ((ByteArray.mk #[109]) ++ q) := by
      unfold gxSCat
      rw [if_neg (by have : (ByteArray.mk #[109]).size = 1 := rfl; omega)]
    rw [hc]
    exact ⟨_, rfl⟩
def txt (k : Nat) : ByteArray := (M.l_markText (k : Int)).getD ByteArray.empty
theorem markText_ok (k : Nat) (h : k ≤ 1099511627776) : M.l_markText ((k : Nat) : Int) = some (txt k) := by
  obtain ⟨t, ht⟩ := markText_ex k h
  unfold txt
  rw [ht]
  rfl
def mkEvent (x : Event) (k : Nat) : Nat × Event := (k + 4, ⟨((k : Nat) : Int), (((k + 1) : Nat) : Int), txt (k + 2), (((k + 3) : Nat) : Int)⟩)
theorem markEventS_held (xs : List Event) (k : Nat) (h : k + 4 * xs.length ≤ 1099511627776) : ∃ (n : Nat) (m : List Event), M.l_markEventS xs k = some ((n : Int), m) ∧ M.l_heldEventS m k = some (n : Int) ∧ k ≤ n ∧ n = k + 4 * xs.length := by
  have hf : ∀ (x : Event) (k : Nat), k ≤ (mkEvent x k).1 := fun x k => by simp only [mkEvent]; omega
  have hc : (gmk mkEvent xs k).1 = k + 4 * xs.length := gmk_const (fun _ _ => rfl) xs k
  refine ⟨(gmk mkEvent xs k).1, (gmk mkEvent xs k).2, ?_, ?_, gmk_mono hf _ _, hc⟩
  · unfold M.l_markEventS
    rw [mark_run mkEvent hf (by omega) (by omega)]
    · rfl
    · intro i hi K L hL hK hLi hLl
      have h1 : ((i : Int) < (L.length : Int)) := by omega
      have hK : K + 4 ≤ 1099511627776 := hK
      simp only [h1, decide_true, cond_true, gxIdx_nat hL, gxIdx_same hL, List.set_set, Option.bind_some, Int.toNat_natCast, w64_succ (show K ≤ 4611686018427387904 by omega), w64_succ (show K + 1 ≤ 4611686018427387904 by omega), w64_succ (show K + 2 ≤ 4611686018427387904 by omega), w64_succ (show K + 3 ≤ 4611686018427387904 by omega), markText_ok (K + 2) (by omega), Nat.add_assoc, Nat.reduceAdd, mkEvent]
      all_goals rfl
    · intro K L hL
      simp only [hL, Int.lt_irrefl, decide_false, cond_false]
  · unfold M.l_heldEventS
    rw [held_run mkEvent (xs := xs) hf (by omega) (by omega)]
    · rfl
    · intro i hi h2 K hK he
      have h1 : ((i : Int) < ((gmk mkEvent xs k).2.length : Int)) := by omega
      have hK : K + 4 ≤ 1099511627776 := hK
      simp only [h1, decide_true, cond_true, gxIdx_nat h2, he, mkEvent, Option.bind_some, bne_self_eq_false, beq_self_eq_true, Bool.not_true, cond_false, w64_succ (show K ≤ 4611686018427387904 by omega), w64_succ (show K + 1 ≤ 4611686018427387904 by omega), w64_succ (show K + 2 ≤ 4611686018427387904 by omega), w64_succ (show K + 3 ≤ 4611686018427387904 by omega), markText_ok (K + 2) (by omega), Nat.add_assoc, Nat.reduceAdd]
      all_goals rfl
    · intro K
      simp only [gmk_len, Int.lt_irrefl, decide_false, cond_false]
      all_goals rfl
theorem plain_AddEvent (a0 : List Event) (a1 : Event) (k0 : okL okEvent a0) (k1 : okEvent a1) : M.l_FnExactAddEvent a0 a1 = some true := by
  unfold M.l_FnExactAddEvent
  obtain ⟨q0, hq0, hf0⟩ := szEventS_ex a0 1048576 k0 (by omega)
  rw [hq0, Option.bind_some]
  rcases hf0 with hf0 | hf0
  · simp only [hf0, decide_true, cond_true]
  have hn0 : ¬ (q0 < 0) := by omega
  simp only [hn0, decide_false, cond_false]
  have hz0 := hf0.2.2
  have hw0 : (a0.length : Int) ≤ 1048576 := hz0.1
  obtain ⟨q1, hq1, hf1⟩ := szEvent_ex a1 q0 k1 (by omega)
  rw [hq1, Option.bind_some]
  rcases hf1 with hf1 | hf1
  · simp only [hf1, decide_true, cond_true]
  have hn1 : ¬ (q1 < 0) := by omega
  simp only [hn1, decide_false, cond_false]
  obtain ⟨r, hs, hi, hr0⟩ := AddEvent_eq a0 a1 hz0 (by omega)
  have ht0 := toEventS_id a0 (by omega)
  have he0 := eqEventS_refl a0 (by omega)
  have ht1 := toEvent_id a1
  obtain ⟨na0, ma0, hma0, _, hla0, hua0⟩ := markEventS_held a0 1 (by omega)
  have hma0 : M.l_markEventS a0 1 = _ := hma0
  obtain ⟨nr0, mr0, hmr0, hhr0, hlr0, hur0⟩ := markEventS_held r.1 1 (by omega)
  have hmr0 : M.l_markEventS r.1 1 = _ := hmr0
  have hhr0 : M.l_heldEventS mr0 1 = _ := hhr0
  have her0 := eqEventS_refl r.1 (by omega)
  simp only [hs, hi, ht0, he0, ht1, hma0, hmr0, hhr0, her0, nat_nlt, Option.bind_some, Bool.not_true, cond_false, cond_true, beq_self_eq_true, bne_self_eq_false, decide_false]
theorem plain_MergeRecords (a0 : List Event) (a1 : List Event) (k0 : okL okEvent a0) (k1 : okL okEvent a1) : M.l_FnExactMergeRecords a0 a1 = some true := by
  unfold M.l_FnExactMergeRecords
  obtain ⟨q0, hq0, hf0⟩ := szEventS_ex a0 1048576 k0 (by omega)
  rw [hq0, Option.bind_some]
  rcases hf0 with hf0 | hf0
  · simp only [hf0, decide_true, cond_true]
  have hn0 : ¬ (q0 < 0) := by omega
  simp only [hn0, decide_false, cond_false]
  have hz0 := hf0.2.2
  have hw0 : (a0.length : Int) ≤ 1048576 := hz0.1
  obtain ⟨q1, hq1, hf1⟩ := szEventS_ex a1 q0 k1 (by omega)
  rw [hq1, Option.bind_some]
  rcases hf1 with hf1 | hf1
  · simp only [hf1, decide_true, cond_true]
  have hn1 : ¬ (q1 < 0) := by omega
  simp only [hn1, decide_false, cond_false]
  have hz1 := hf1.2.2
  have hw1 : (a1.length : Int) ≤ 1048576 := hz1.1
  obtain ⟨r, hs, hi, hr0⟩ := MergeRecords_eq a0 a1 hz0 hz1
  have ht0 := toEventS_id a0 (by omega)
  have he0 := eqEventS_refl a0 (by omega)
  have ht1 := toEventS_id a1 (by omega)
  have he1 := eqEventS_refl a1 (by omega)
  obtain ⟨na0, ma0, hma0, _, hla0, hua0⟩ := markEventS_held a0 1 (by omega)
  have hma0 : M.l_markEventS a0 1 = _ := hma0
  obtain ⟨na1, ma1, hma1, _, hla1, hua1⟩ := markEventS_held a1 na0 (by omega)
  obtain ⟨nr0, mr0, hmr0, hhr0, hlr0, hur0⟩ := markEventS_held r.1 1 (by omega)
  have hmr0 : M.l_markEventS r.1 1 = _ := hmr0
  have hhr0 : M.l_heldEventS mr0 1 = _ := hhr0
  have her0 := eqEventS_refl r.1 (by omega)
  simp only [hs, hi, ht0, he0, ht1, he1, hma0, hma1, hmr0, hhr0, her0, nat_nlt, Option.bind_some, Bool.not_true, cond_false, cond_true, beq_self_eq_true, bne_self_eq_false, decide_false]
end Go.Proofs.Ytfcebglkdfadcaa
