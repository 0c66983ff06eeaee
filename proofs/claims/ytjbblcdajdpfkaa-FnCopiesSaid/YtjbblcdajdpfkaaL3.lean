/- Plain laws of the models: no program in sight. -/
import Derived.Test.YtjbblcdajdpfkaaM
import Derived.Test.YtjbblcdajdpfkaaL2
set_option linter.unusedVariables false
set_option linter.unusedSimpArgs false
set_option maxHeartbeats 4000000
namespace Go.Proofs.Ytjbblcdajdpfkaa
open Go.Gx
/-! ### A round of copying -/
/-- The first i words gone through, with room for m. -/
def rd (x : Copying) (m : Int) : Nat → Nat × List Int × List Bool
  | 0 => (0, x.Copy, x.Dirty)
  | i + 1 =>
    let s := rd x m i
    bif x.Dirty.getD i false && decide ((s.1 : Int) < m) then (s.1 + 1, s.2.1.set i (x.Memory.getD i 0), s.2.2.set i false) else s
theorem rd_lens (x : Copying) (m : Int) : ∀ i, (rd x m i).1 ≤ i ∧ (rd x m i).2.1.length = x.Copy.length ∧ (rd x m i).2.2.length = x.Dirty.length
  | 0 => by simp [rd]
  | i + 1 => by
    have := rd_lens x m i
    simp only [rd]
    cases x.Dirty.getD i false && decide (((rd x m i).1 : Int) < m) <;> simp <;> omega
theorem rd_later (x : Copying) (m : Int) : ∀ i j, i ≤ j → (rd x m i).2.2.getD j false = x.Dirty.getD j false
  | 0, j, _ => rfl
  | i + 1, j, h => by
    have := rd_later x m i j (by omega)
    simp only [rd]
    cases x.Dirty.getD i false && decide (((rd x m i).1 : Int) < m) with
    | false => exact this
    | true =>
      simp only [cond_true]
      rw [List.getD_eq_getElem?_getD, List.getElem?_set_ne (by omega), ← List.getD_eq_getElem?_getD]
      exact this
theorem rd_stop (x : Copying) (m : Int) {i : Nat} (h : ¬ (((rd x m i).1 : Int) < m)) : ∀ k, rd x m (i + k) = rd x m i
  | 0 => rfl
  | k + 1 => by
    have ih := rd_stop x m h k
    show rd x m ((i + k) + 1) = rd x m i
    simp only [rd, ih, h, decide_false, Bool.and_false, cond_false]
theorem s_round (x : Copying) (m : Int) (hf : fits x 1048576) (hl : 1 ≤ x.Memory.length ∧ x.Memory.length ≤ 12 ∧ x.Copy.length = x.Memory.length ∧ x.Dirty.length = x.Memory.length) : M.s_l19Round x m = some (⟨x.Memory, (rd x m x.Memory.length).2.1, (rd x m x.Memory.length).2.2⟩, ((rd x m x.Memory.length).1 : Int)) := by
  unfold M.s_l19Round
  rw [s_own x hf, Option.bind_some]
  have step : ∀ i, i < x.Memory.length → ((rd x m i).1 : Int) < m →
      (Option.bind (gxIdx x.Dirty (i : Int)) fun y3060 =>
        Option.bind (α := Int × List Int × List Bool) (bif y3060 then (Option.bind (gxIdx x.Memory (i : Int)) fun y3122 =>
        Option.bind (gxIdx (rd x m i).2.1 (i : Int)) fun y3158 =>
        Option.bind (gxIdx (rd x m i).2.2 (i : Int)) fun y3164 =>
        some (w64 (((rd x m i).1 : Int) + 1), ((rd x m i).2.1.set (i : Int).toNat y3122), ((rd x m i).2.2.set (i : Int).toNat false)))
        else some (((rd x m i).1 : Int), (rd x m i).2.1, (rd x m i).2.2)) fun o3112 =>
        some (Sum.inl (β := Int × List Int × List Bool) (o3112.1, w64 ((i : Int) + 1), o3112.2.1, o3112.2.2))) = some (.inl (((rd x m (i + 1)).1 : Int), ((i + 1 : Nat) : Int), (rd x m (i + 1)).2.1, (rd x m (i + 1)).2.2)) := by
    intro i hi hm
    have hr := rd_lens x m i
    have i1 : i < x.Dirty.length := by omega
    have i2 : i < (rd x m i).2.1.length := by omega
    have i3 : i < (rd x m i).2.2.length := by omega
    simp only [gxIdx_nat i1, gxIdx_nat hi, gxIdx_nat i2, gxIdx_nat i3, Option.bind_some, Int.toNat_natCast, w64_succ (show i ≤ 4611686018427387904 by omega), w64_succ (show (rd x m i).1 ≤ 4611686018427387904 by omega)]
    have hd : x.Dirty.getD i false = x.Dirty[i] := by rw [List.getD_eq_getElem?_getD, List.getElem?_eq_getElem i1]; rfl
    have hme : x.Memory.getD i 0 = x.Memory[i] := by rw [List.getD_eq_getElem?_getD, List.getElem?_eq_getElem hi]; rfl
    simp only [rd, hd, hme, hm, decide_true, Bool.and_true]
    cases x.Dirty[i] <;> rfl
  -- where the round ends
  have hex : ∃ k, k = x.Memory.length ∨ ¬ (((rd x m k).1 : Int) < m) := ⟨_, Or.inl rfl⟩
  obtain ⟨k, hk, hmin⟩ := exists_least hex
  have hkl : k ≤ x.Memory.length := hmin _ (Or.inl rfl)
  have hkr : rd x m x.Memory.length = rd x m k := by
    rcases hk with hk | hk
    · rw [hk]
    · have := rd_stop x m hk (x.Memory.length - k)
      rwa [show k + (x.Memory.length - k) = x.Memory.length by omega] at this
  rw [hkr, while_run (fun i => (((rd x m i).1 : Int), (i : Int), (rd x m i).2.1, (rd x m i).2.2)) (((rd x m k).1 : Int), (rd x m k).2.1, (rd x m k).2.2) k (by simp [rd]) (by omega)]
  · rfl
  · intro i hi
    have hi' : i < x.Memory.length := by omega
    have hm : ((rd x m i).1 : Int) < m := Classical.byContradiction fun hn => by
      have := hmin i (Or.inr hn); omega
    have e0 : ((i : Int) < (x.Dirty.length : Int)) := by omega
    have hs := step i hi' hm
    simp only [e0, hm, decide_true, cond_true, Option.bind_some]
    exact hs
  · by_cases e0 : ((k : Int) < (x.Dirty.length : Int))
    · have hn : ¬ (((rd x m k).1 : Int) < m) := by
        rcases hk with hk | hk
        · omega
        · exact hk
      simp only [e0, hn, decide_true, decide_false, cond_true, cond_false, Option.bind_some]
    · simp only [e0, decide_false, cond_false, Option.bind_some]
theorem i_round (x : Copying) (m : Int) (hf : fits x 1048576) (hl : 1 ≤ x.Memory.length ∧ x.Memory.length ≤ 12 ∧ x.Copy.length = x.Memory.length ∧ x.Dirty.length = x.Memory.length) : M.i_Copying_round x m = some (((rd x m x.Memory.length).1 : Int), x.Memory, (rd x m x.Memory.length).2.1, (rd x m x.Memory.length).2.2) := by
  unfold M.i_Copying_round
  rw [while_run (fun i => (((rd x m i).1 : Int), (i : Int), (rd x m i).2.1, (rd x m i).2.2)) (((rd x m x.Memory.length).1 : Int), (rd x m x.Memory.length).2.1, (rd x m x.Memory.length).2.2) x.Memory.length (by simp [rd]) (by omega)]
  · rfl
  · intro i hi
    have e0 : ((i : Int) < (x.Dirty.length : Int)) := by omega
    have hr := rd_lens x m i
    have i1 : i < x.Dirty.length := by omega
    have i2 : i < (rd x m i).2.1.length := by omega
    have i3 : i < (rd x m i).2.2.length := by omega
    have hd : x.Dirty.getD i false = (rd x m i).2.2[i] := by
      rw [← rd_later x m i i (Nat.le_refl _), List.getD_eq_getElem?_getD, List.getElem?_eq_getElem i3]; rfl
    have hme : x.Memory.getD i 0 = x.Memory[i] := by rw [List.getD_eq_getElem?_getD, List.getElem?_eq_getElem hi]; rfl
    simp only [e0, decide_true, cond_true, gxIdx_nat hi, gxIdx_nat i2, gxIdx_nat i3, Option.bind_some, Int.toNat_natCast, w64_succ (show i ≤ 4611686018427387904 by omega), w64_succ (show (rd x m i).1 ≤ 4611686018427387904 by omega)]
    simp only [rd, hd, hme]
    cases (rd x m i).2.2[i] with
    | false => rfl
    | true => cases decide (((rd x m i).1 : Int) < m) <;> rfl
  · have e0 : ¬ ((x.Memory.length : Int) < (x.Dirty.length : Int)) := by omega
    simp only [e0, decide_false, cond_false]
theorem rd_fits (x : Copying) (m : Int) (i : Nat) (hf : fits x 1048576) : fits ⟨x.Memory, (rd x m i).2.1, (rd x m i).2.2⟩ 1048576 := by
  have := rd_lens x m i
  obtain ⟨a, b, c⟩ := hf
  exact ⟨a, by simp only; omega, by simp only; omega⟩
theorem round_eq (x : Copying) (m : Int) (hf : fits x 1048576) : ∃ r, M.s_CopyRound x m = some r ∧ M.i_CopyRound x m = some r ∧ fits r.1 1048576 := by
  unfold M.s_CopyRound M.i_CopyRound
  simp only [s_good x hf, i_good x hf, s_in, i_in, Option.bind_some]
  cases h : isC x with
  | false => exact ⟨_, rfl, rfl, by simp [fits]⟩
  | true => cases hc : (decide (0 ≤ m) && decide (m ≤ 12)) with
    | false => exact ⟨_, rfl, rfl, by simp [fits]⟩
    | true =>
      simp only [i_new x hf, s_round x m hf (isC_lens h), i_round x m hf (isC_lens h), Option.bind_some, Bool.not_true, cond_false]
      exact ⟨_, rfl, rfl, rd_fits x m _ hf⟩
theorem plain_CopyRound (x : Copying) (m : Int) (hx : okCopying x) (_ : okI m) : M.l_FnExactCopyRound x m = some true := by
  obtain ⟨q, hr, hf⟩ := szCopying_ok x hx
  unfold M.l_FnExactCopyRound
  rw [hr, Option.bind_some]
  by_cases h : q < 0
  · simp [h]
  · have hfit := hf (by omega)
    obtain ⟨r, h3, h4, h5⟩ := round_eq x m hfit
    have htot := fits_total hfit
    have htot1 := fits_total h5
    have ht := toCopying_id x (fits_more hfit)
    have he := eqCopying_refl x (fits_more hfit)
    have he1 := eqCopying_refl r.1 (fits_more h5)
    have hm : M.l_markCopying x 1 = _ := markCopying_ok x 1 (by omega)
    have hm1 : M.l_markCopying r.1 1 = _ := markCopying_ok r.1 1 (by omega)
    have hh1 : M.l_heldCopying ⟨(marksC r.1 1).Memory, (marksC r.1 1).Copy, (marksC r.1 1).Dirty⟩ 1 = _ := heldCopying_ok r.1 1 (by omega)
    have hn1 : ¬ (((1 + total x : Nat) : Int) < 0) := by omega
    have hn2 : ¬ (((1 + total r.1 : Nat) : Int) < 0) := by omega
    simp only [h, h3, h4, ht, he, he1, hm, hm1, hh1, hn1, hn2, if_false, Option.bind_some, Bool.not_true, cond_false, beq_self_eq_true, bne_self_eq_false, decide_false]
/-! ### A copy brought to its end -/
theorem rd_count (x : Copying) : ∀ i, i ≤ 12 → (rd x 12 i).1 = (dl x.Dirty i).length
  | 0, _ => rfl
  | i + 1, h => by
    have ih := rd_count x i (by omega)
    have hl := rd_lens x 12 i
    have hlt : (((rd x 12 i).1 : Int) < 12) := by omega
    simp only [rd, dl, hlt, decide_true, Bool.and_true, List.length_append]
    cases x.Dirty.getD i false <;> simp [ih]
theorem rd_copy (x : Copying) (hlen : x.Copy.length = x.Memory.length) (hok : ∀ i, i < x.Memory.length → okC x i = true) : ∀ i, i ≤ 12 → i ≤ x.Memory.length → (rd x 12 i).2.1 = x.Memory.take i ++ x.Copy.drop i
  | 0, _, _ => by simp [rd]
  | i + 1, h, hi => by
    have ih := rd_copy x hlen hok i (by omega) (by omega)
    have hl := rd_lens x 12 i
    have hlt : (((rd x 12 i).1 : Int) < 12) := by omega
    have hi' : i < x.Memory.length := by omega
    have hic : i < x.Copy.length := by omega
    have hme : x.Memory.getD i 0 = x.Memory[i] := by rw [List.getD_eq_getElem?_getD, List.getElem?_eq_getElem hi']; rfl
    have hco : x.Copy.getD i 0 = x.Copy[i] := by rw [List.getD_eq_getElem?_getD, List.getElem?_eq_getElem hic]; rfl
    have ho := hok i hi'
    unfold okC at ho
    rw [hme, hco] at ho
    have hdrop : x.Copy.drop i = x.Copy[i] :: x.Copy.drop (i + 1) := List.drop_eq_getElem_cons hic
    have htake : x.Memory.take (i + 1) = x.Memory.take i ++ [x.Memory[i]] := by rw [List.take_add_one, List.getElem?_eq_getElem hi']; rfl
    simp only [rd, hlt, decide_true, Bool.and_true]
    cases hd : x.Dirty.getD i false with
    | true =>
      simp only [cond_true]
      rw [ih, hme, hdrop, List.set_append_right _ _ (by simp; omega), htake]
      have : i - (x.Memory.take i).length = 0 := by simp; omega
      rw [this, List.set_cons_zero, List.append_assoc]
      rfl
    | false =>
      rw [hd, Bool.or_false] at ho
      have heq : x.Memory[i] = x.Copy[i] := by simpa using ho
      simp only [cond_false]
      rw [ih, hdrop, htake, heq, List.append_assoc]
      rfl
theorem finish_eq (x : Copying) (hf : fits x 1048576) : ∃ r, M.s_FinishCopy x = some r ∧ M.i_FinishCopy x = some r ∧ r.1.length ≤ 1048576 := by
  unfold M.s_FinishCopy M.i_FinishCopy
  simp only [s_good x hf, i_good x hf, Option.bind_some]
  cases h : isC x with
  | false => exact ⟨_, rfl, rfl, by simp⟩
  | true =>
    have hl := isC_lens h
    have hall : ∀ i, i < x.Memory.length → okC x i = true := by
      unfold isC at h
      simp only [Bool.and_eq_true] at h
      exact fun i hi => List.all_eq_true.1 h.2.2.2.2 i (List.mem_range.2 hi)
    have hc := rd_copy x hl.2.2.1 hall x.Memory.length hl.2.1 (Nat.le_refl _)
    rw [List.take_length, List.drop_eq_nil_of_le (by omega), List.append_nil] at hc
    have hn := rd_count x x.Memory.length hl.2.1
    simp only [s_round x 12 hf (isC_lens h), copyInts_ok x.Memory (by omega), i_dirty x hf.2.2, Option.bind_some, Bool.not_true, cond_false, hc, hn, hl.2.2.2]
    exact ⟨_, rfl, rfl, hf.1⟩
theorem plain_FinishCopy (x : Copying) (hx : okCopying x) : M.l_FnExactFinishCopy x = some true := by
  obtain ⟨q, hr, hf⟩ := szCopying_ok x hx
  unfold M.l_FnExactFinishCopy
  rw [hr, Option.bind_some]
  by_cases h : q < 0
  · simp [h]
  · have hfit := hf (by omega)
    obtain ⟨r, h3, h4, h5⟩ := finish_eq x hfit
    have htot := fits_total hfit
    have ht := toCopying_id x (fits_more hfit)
    have he := eqCopying_refl x (fits_more hfit)
    have he2 := eqIntS_refl r.1 (by omega)
    have hm : M.l_markCopying x 1 = _ := markCopying_ok x 1 (by omega)
    have hm2 : M.l_markIntS r.1 1 = _ := markIntS_ok r.1 1 (by omega)
    have hh : M.l_heldIntS (marks 1 r.1.length) 1 = _ := heldIntS_ok 1 r.1.length (by omega)
    have hn1 : ¬ (((1 + total x : Nat) : Int) < 0) := by omega
    have hn2 : ¬ (((1 + r.1.length : Nat) : Int) < 0) := by omega
    simp only [h, h3, h4, ht, he, he2, hm, hm2, hh, hn1, hn2, if_false, Option.bind_some, Bool.not_true, cond_false, beq_self_eq_true, bne_self_eq_false, decide_false]
end Go.Proofs.Ytjbblcdajdpfkaa
