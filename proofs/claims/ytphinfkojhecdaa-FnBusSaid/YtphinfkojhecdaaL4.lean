/- Plain laws of the models: no program in sight. -/
import Derived.Test.YtphinfkojhecdaaM
import Derived.Test.YtphinfkojhecdaaL3
set_option linter.unusedVariables false
set_option linter.unusedSimpArgs false
set_option maxHeartbeats 4000000
namespace Go.Proofs.Ytphinfkojhecdaa
open Go.Gx
/-! ### Units between two addresses -/
theorem goodM_mem {xs : List Region} (h : goodM xs = true) {r : Region} (hr : r ∈ xs) : oneR r = true := by
  obtain ⟨i, hi, rfl⟩ := List.mem_iff_getElem.1 hr
  have := goodM_one h hi
  rwa [getD_at hi] at this
theorem oneR_spec {r : Region} (h : oneR r = true) : (4 ≤ r.Size ∧ r.Size ≤ 4096) ∧ (0 ≤ r.Base ∧ r.Base ≤ 65535) ∧ r.Base % r.Size = 0 ∧ (0 ≤ r.Kind ∧ r.Kind ≤ 3) ∧ (0 ≤ r.Unit ∧ r.Unit ≤ 15) := by
  unfold oneR inB at h
  simp only [Bool.and_eq_true, decide_eq_true_eq, beq_iff_eq] at h
  exact ⟨pow_range h.1, h.2.1, h.2.2.1, h.2.2.2.1, h.2.2.2.2⟩
theorem UnitsBetween_eq (xs : List Region) (a b : Int) (h : (xs.length : Int) ≤ 1048576) : ∃ r, M.s_UnitsBetween xs a b = some r ∧ M.i_UnitsBetween xs a b = some r ∧ r.1.length ≤ 1048576 := by
  unfold M.s_UnitsBetween M.i_UnitsBetween M.s_l17Address M.i_isWord16
  simp only [s_goodM xs (by omega), i_goodM xs (by omega), s_in, i_in, Option.bind_some]
  cases hg : goodM xs with
  | false => exact ⟨_, rfl, rfl, by simp⟩
  | true => cases ha : (decide (0 ≤ a) && decide (a ≤ 65535)) with
    | false => exact ⟨_, rfl, rfl, by simp⟩
    | true => cases hb : (decide (0 ≤ b) && decide (b ≤ 65535)) with
      | false => exact ⟨_, rfl, rfl, by simp⟩
      | true => cases hc : decide (a > b) with
        | true => exact ⟨_, rfl, rfl, by simp⟩
        | false =>
          simp only [Bool.and_eq_true, decide_eq_true_eq, decide_eq_false_iff_not] at ha hb hc
          simp only [Bool.not_true, cond_false, Option.bind_some]
          have key : ∀ (i : Nat) (hi : i < xs.length), decide ((gxMax a xs[i].Base) ≤ (gxMin b (w64 ((w64 (xs[i].Base + xs[i].Size)) - 1)))) = (decide (xs[i].Base ≤ b) && decide (w64 (xs[i].Base + xs[i].Size) > a)) := by
            intro i hi
            have ho := oneR_spec (goodM_mem hg (List.getElem_mem hi))
            rw [w64_id (z := xs[i].Base + xs[i].Size) (by omega) (by omega), w64_id (by omega) (by omega)]
            unfold gxMax gxMin
            rw [← Bool.decide_and]
            congr 1
            apply propext
            split <;> split <;> omega
          have hs : ∀ {body : List Int × Int → Option ((List Int × Int) ⊕ List Int)}, (∀ (i : Nat) (hi : i < xs.length) (acc : List Int), acc.length ≤ i → body (acc, (i : Int)) = some (.inl (bif (decide (xs[i].Base ≤ b) && decide (w64 (xs[i].Base + xs[i].Size) > a)) then acc ++ [xs[i].Unit] else acc, w64 ((i : Int) + 1)))) → (∀ acc, body (acc, (xs.length : Int)) = some (.inr acc)) → whileM body gxFuel ([], 0) = some ((xs.filter (fun r => decide (r.Base ≤ b) && decide (w64 (r.Base + r.Size) > a))).map Region.Unit) :=
            fun h1 h2 => while_filter (fun r : Region => decide (r.Base ≤ b) && decide (w64 (r.Base + r.Size) > a)) Region.Unit (by omega) h1 h2
          refine ⟨(((xs.filter (fun r => decide (r.Base ≤ b) && decide (w64 (r.Base + r.Size) > a))).map Region.Unit), true), ?_, ?_, ?_⟩
          · rw [hs]
            · rfl
            · intro i hi acc hacc
              have e0 : ((i : Int) < (xs.length : Int)) := by omega
              simp only [e0, decide_true, cond_true, gxIdx_nat hi, Option.bind_some, gxApp_ok (show (acc.length + [xs[i].Unit].length) * 8 ≤ 140737488355328 by simp; omega)]
              cases decide (xs[i].Base ≤ b) <;> cases decide (w64 (xs[i].Base + xs[i].Size) > a) <;> rfl
            · intro acc
              simp only [Int.lt_irrefl, decide_false, cond_false]
          · rw [hs]
            · rfl
            · intro i hi acc hacc
              have e0 : ((i : Int) < (xs.length : Int)) := by omega
              simp only [e0, decide_true, cond_true, gxIdx_nat hi, Option.bind_some, key i hi, gxApp_ok (show (acc.length + [xs[i].Unit].length) * 8 ≤ 140737488355328 by simp; omega)]
              cases decide (xs[i].Base ≤ b) <;> cases decide (w64 (xs[i].Base + xs[i].Size) > a) <;> rfl
            · intro acc
              simp only [Int.lt_irrefl, decide_false, cond_false]
          · simp only [List.length_map]
            exact Nat.le_trans (List.length_filter_le _ _) (by omega)
/-! ### Split accesses -/
def partsR (ad wd : Int) (st : Bool) (w : Nat) (n : Nat) : List Access := (List.range n).map fun j => ⟨w64 (ad + ((j * w : Nat) : Int)), w, st⟩
theorem SplitAccess_eq (xs : List Region) (a : Access) (h : (xs.length : Int) ≤ 1048576) : ∃ r, M.s_SplitAccess xs a = some r ∧ M.i_SplitAccess xs a = some r ∧ r.1.length ≤ 1048576 := by
  unfold M.s_SplitAccess M.i_SplitAccess
  simp only [s_goodM xs (by omega), i_goodM xs (by omega), s_acc, i_acc, Option.bind_some]
  cases hg : goodM xs with
  | false => exact ⟨_, rfl, rfl, by simp⟩
  | true => cases ha : okAcc a with
    | false => exact ⟨_, rfl, rfl, by simp⟩
    | true =>
      have hs := acc_spec ha
      simp only [s_find xs _ (show xs.length ≤ 1048576 by omega), i_find xs _ (show xs.length ≤ 1048576 by omega), rem_ok hs.1.1 (show 0 < a.Width by omega), Option.bind_some, Bool.not_true, cond_false]
      cases (a.Address % a.Width != 0) with
      | true => exact ⟨_, rfl, rfl, by simp⟩
      | false =>
        by_cases hf : findR xs a.Address < 0
        · simp only [hf, decide_true, cond_true, cond_false, Option.bind_some]
          exact ⟨_, rfl, rfl, by simp⟩
        · obtain ⟨i, hi, hlt⟩ := find_lt hf
          have ho := goodM_one hg hlt
          have hk := (oneR_spec ho).2.2.2.1
          have hf' : ¬ ((i : Int) < 0) := by omega
          simp only [hi, hf', decide_false, cond_false, Option.bind_some, gxIdx_getD gR hlt, (allows_ok ho _).1, (allows_ok ho _).2]
          generalize xs.getD i gR = r at *
          obtain ⟨ad, wd, st⟩ := a
          obtain ⟨rb, rs, rk, ru⟩ := r
          simp only at hs hk ⊢
          have hk4 : rk = 0 ∨ rk = 1 ∨ rk = 2 ∨ rk = 3 := by omega
          have fin : ∀ {X Y : Option ((List Access) × Bool)} (w n : Nat), n ≤ 4 → X = some (partsR ad wd st w n, true) → Y = some (partsR ad wd st w n, true) → ∃ r, X = some r ∧ Y = some r ∧ r.1.length ≤ 1048576 := by
            intro X Y w n hn hX hY
            exact ⟨_, hX, hY, by simp [partsR]; omega⟩
          have fin0 : ∀ {X Y : Option ((List Access) × Bool)}, X = some ([], false) → Y = some ([], false) → ∃ r, X = some r ∧ Y = some r ∧ r.1.length ≤ 1048576 := fun hX hY => ⟨_, hX, hY, by simp⟩
          rcases hk4 with rfl | rfl | rfl | rfl <;> rcases hs.2 with rfl | rfl | rfl
          · exact fin 1 1 (by omega) (by kernel_rfl) (by kernel_rfl)
          · exact fin 1 2 (by omega) (by kernel_rfl) (by kernel_rfl)
          · exact fin 1 4 (by omega) (by kernel_rfl) (by kernel_rfl)
          · exact fin0 (by kernel_rfl) (by kernel_rfl)
          · exact fin 2 1 (by omega) (by kernel_rfl) (by kernel_rfl)
          · exact fin 2 2 (by omega) (by kernel_rfl) (by kernel_rfl)
          · exact fin0 (by kernel_rfl) (by kernel_rfl)
          · exact fin0 (by kernel_rfl) (by kernel_rfl)
          · exact fin 4 1 (by omega) (by kernel_rfl) (by kernel_rfl)
          · exact fin 1 1 (by omega) (by kernel_rfl) (by kernel_rfl)
          · exact fin 2 1 (by omega) (by kernel_rfl) (by kernel_rfl)
          · exact fin 4 1 (by omega) (by kernel_rfl) (by kernel_rfl)
end Go.Proofs.Ytphinfkojhecdaa
