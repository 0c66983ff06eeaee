/- Plain laws of the models: no program in sight. -/
import Derived.Test.YtlfligjpmodefaaM
import Derived.Test.YtlfligjpmodefaaL2
set_option linter.unusedVariables false
set_option linter.unusedSimpArgs false
set_option maxHeartbeats 4000000
namespace Go.Proofs.Ytlfligjpmodefaa
open Go.Gx
theorem hasB_app {xs ys : List Int} {x : Int} : hasB (xs ++ ys) x = (hasB xs x || hasB ys x) := by
  rw [Bool.eq_iff_iff, Bool.or_eq_true]
  simp only [hasB_iff, List.mem_append]
theorem i_goodB (os : List Int) (xs : List Balloon) (ho : os.length ≤ 1048576) (hf : fitB xs) : M.i_AreBalloons os xs = some (goodB os xs) := by
  have hl := hf.1
  unfold M.i_AreBalloons M.i_isGuest M.i_isGoal goodB
  rw [i_owners os ho, Option.bind_some]
  cases ownersB os with
  | false => rfl
  | true =>
    simp only [Bool.not_true, cond_false, Bool.true_and]
    rw [while_all (fun i => (givenB xs i, (i : Int))) (okBal os xs) (.inr false) (.inl ()) xs.length (by simp [givenB]) (by omega)]
    · cases (List.range xs.length).all (okBal os xs) <;> rfl
    · intro i hi
      have e0 : ((i : Int) < (xs.length : Int)) := by omega
      have hgl := gave_len hf hi
      have hgv := givenB_len (xs := xs) i hf
      have hgn := givenB_succ hi
      unfold okBal
      rw [getD_at hi]
      simp only [e0, decide_true, cond_true, gxIdx_nat hi, i_in, Option.bind_some, w64_succ (show i ≤ 4611686018427387904 by omega), w64_id (z := (os.length : Int) - 1) (by omega) (by omega), i_rise xs[i].Gave 0 ((os.length : Int) - 1) hgl]
      unfold inB
      cases (decide (1 ≤ xs[i].Guest) && decide (xs[i].Guest ≤ 4)) with
      | false => rfl
      | true => cases (decide (0 ≤ xs[i].Goal) && decide (xs[i].Goal ≤ 16)) with
        | false => rfl
        | true => cases hr : riseB xs[i].Gave 0 ((os.length : Int) - 1) with
          | false =>
            by_cases hp : (i : Int) > 0
            · simp only [Bool.not_false, cond_true, cond_false, Option.bind_some, Bool.and_false, Bool.false_and, Bool.not_true]
            · simp only [Bool.not_false, cond_true, cond_false, Option.bind_some, Bool.and_false, Bool.false_and, Bool.not_true]
          | true =>
            have inner : whileM (σ := List Int × Int) (ρ := (List Int) ⊕ (Bool)) (fun s2165 =>
                bif decide (s2165.2 < (xs[i].Gave.length : Int)) then (Option.bind (gxIdx xs[i].Gave s2165.2) fun y2187 =>
                Option.bind (α := Bool) (Option.bind (gxIdx os y2187) fun y2197 =>
                bif y2197 != 0 then some true
                else (Option.bind (M.slices_Contains_53 s2165.1 y2187) fun r2199 =>
                some r2199)) fun o2194 =>
                bif o2194 then some (.inr (.inr false))
                else (Option.bind (gxApp 8 s2165.1 [y2187]) fun ap2215 =>
                some (.inl (ap2215, w64 (s2165.2 + 1)))))
                else some (.inr (.inl s2165.1))) gxFuel (givenB xs i, 0) = some (bif freeB os (givenB xs i) xs[i].Gave then .inl (givenB xs (i + 1)) else .inr false) := by
              unfold freeB
              rw [hgn]
              refine while_all (fun (k : Nat) => (givenB xs i ++ xs[i].Gave.take k, (k : Int))) (fun (k : Nat) => (os.getD (xs[i].Gave.getD k 0).toNat 0 == 0) && !(hasB (givenB xs i) (xs[i].Gave.getD k 0))) (Sum.inr false : List Int ⊕ Bool) (Sum.inl (givenB xs i ++ xs[i].Gave) : List Int ⊕ Bool) xs[i].Gave.length (by simp) (by omega) (fun k hk => ?_) ?_
              · have e1 : ((k : Int) < (xs[i].Gave.length : Int)) := by omega
                have hb := (rise_at hr hk).1
                have hnot : hasB (xs[i].Gave.take k) xs[i].Gave[k] = false := by
                  cases hc : hasB (xs[i].Gave.take k) xs[i].Gave[k] with
                  | false => rfl
                  | true =>
                    obtain ⟨j, hj, he⟩ := List.mem_iff_getElem.1 (hasB_iff.1 hc)
                    rw [List.getElem_take] at he
                    have hjk : j < k := by simp at hj; omega
                    have := rise_lt hr j k hk hjk
                    omega
                obtain ⟨f, hfv⟩ : ∃ f : Nat, xs[i].Gave[k] = (f : Int) := ⟨xs[i].Gave[k].toNat, by omega⟩
                have hfo : f < os.length := by omega
                have htl : (xs[i].Gave.take k).length = k := by simp; omega
                have hts : xs[i].Gave.take (k + 1) = xs[i].Gave.take k ++ [(f : Int)] := by rw [List.take_add_one, List.getElem?_eq_getElem hk, hfv]; rfl
                rw [hfv] at hnot
                rw [getD_at hk, hfv, Int.toNat_natCast, getD_at hfo]
                simp only [e1, decide_true, cond_true, gxIdx_nat hk, hfv, gxIdx_nat hfo, Option.bind_some, i_has (givenB xs i ++ xs[i].Gave.take k) (f : Int) (by rw [List.length_append]; omega), hasB_app, hnot, Bool.or_false, w64_succ (show k ≤ 4611686018427387904 by omega),
                  gxApp_ok (show ((givenB xs i ++ xs[i].Gave.take k).length + [(f : Int)].length) * 8 ≤ 140737488355328 by rw [List.length_append]; simp; omega)]
                rw [hts, List.append_assoc]
                cases h0 : (os[f] == 0) with
                | true =>
                  have h0' : (os[f] != 0) = false := by simp [bne, h0]
                  simp only [h0', cond_false, Option.bind_some, Bool.true_and]
                  cases hasB (givenB xs i) (f : Int) <;> rfl
                | false =>
                  have h0' : (os[f] != 0) = true := by simp [bne, h0]
                  simp only [h0', cond_true, Option.bind_some, Bool.false_and, cond_false]
              · simp only [Int.lt_irrefl, decide_false, cond_false, List.take_length]
            by_cases hp : (i : Int) > 0
            · rw [getD_at (show i - 1 < xs.length by omega)]
              simp only [hp, decide_true, cond_true, gxIdx_prevG hi (by omega) (by omega), Option.bind_some, Bool.not_true, cond_false, Bool.true_and, Bool.and_true]
              cases decide ((xs[i - 1]'(by omega)).Guest ≥ xs[i].Guest) with
              | true => rfl
              | false =>
                simp only [Bool.not_true, Bool.not_false, Bool.true_and, cond_false, Option.bind_some]
                rw [inner, Option.bind_some]
                cases freeB os (givenB xs i) xs[i].Gave <;> rfl
            · simp only [hp, decide_false, cond_false, Bool.false_and, Bool.not_false, Bool.true_and, Bool.not_true, Option.bind_some, cond_true]
              rw [inner, Option.bind_some]
              cases freeB os (givenB xs i) xs[i].Gave <;> rfl
    · simp only [Int.lt_irrefl, decide_false, cond_false]
theorem AreBalloons_eq (os : List Int) (xs : List Balloon) (ho : (os.length : Int) ≤ 1048576) (hf : fitB xs) : ∃ r, M.s_AreBalloons os xs = some r ∧ M.i_AreBalloons os xs = some r := by
  refine ⟨goodB os xs, ?_, i_goodB os xs (by omega) hf⟩
  unfold M.s_AreBalloons
  rw [s_goodB os xs (by omega) hf]
  rfl
theorem GivenFrames_eq (os : List Int) (xs : List Balloon) (ho : (os.length : Int) ≤ 1048576) (hf : fitB xs) : ∃ r, M.s_GivenFrames os xs = some r ∧ M.i_GivenFrames os xs = some r := by
  have hl := hf.1
  unfold M.s_GivenFrames M.i_GivenFrames
  simp only [s_goodB os xs (show os.length ≤ 1048576 by omega) hf, i_goodB os xs (show os.length ≤ 1048576 by omega) hf, Option.bind_some]
  cases goodB os xs with
  | false => exact ⟨_, rfl, rfl⟩
  | true =>
    simp only [Bool.not_true, cond_false]
    have hb : ∀ (s : Int × Int × Int), (bif decide (s.2.2 < (xs.length : Int)) then (Option.bind (gxIdx xs s.2.2) fun y2543 =>
        Option.bind (gxIdx xs s.2.2) fun y2551 =>
        Option.bind (gxIdx xs s.2.2) fun y2555 =>
        Option.bind (M.s_l1Most 0 (w64 (y2551.Goal - (y2555.Gave.length : Int)))) fun r2559 =>
        some (Sum.inl (β := Int × Int) (w64 (s.1 + (y2543.Gave.length : Int)), w64 (s.2.1 + r2559), w64 (s.2.2 + 1))))
        else some (.inr (s.1, s.2.1))) = (bif decide (s.2.2 < (xs.length : Int)) then (Option.bind (gxIdx xs s.2.2) fun y2651 =>
        some (.inl (w64 (s.1 + (y2651.Gave.length : Int)), w64 (s.2.1 + (gxMax (w64 (y2651.Goal - (y2651.Gave.length : Int))) 0)), w64 (s.2.2 + 1))))
        else some (.inr (s.1, s.2.1))) := by
      intro s
      cases hg : gxIdx xs s.2.2 with
      | none => rfl
      | some y =>
        have hm : M.s_l1Most 0 (w64 (y.Goal - (y.Gave.length : Int))) = some (gxMax (w64 (y.Goal - (y.Gave.length : Int))) 0) := by
          unfold M.s_l1Most gxMax
          by_cases h : (0 : Int) > w64 (y.Goal - (y.Gave.length : Int))
          · simp [h]
          · simp [h]
        simp only [Option.bind_some, hm]
    rw [funext hb]
    have := while_inv (body := fun s2639 : Int × Int × Int =>
      bif decide (s2639.2.2 < (xs.length : Int)) then (Option.bind (gxIdx xs s2639.2.2) fun y2651 =>
      some (Sum.inl (β := Int × Int) (w64 (s2639.1 + (y2651.Gave.length : Int)), w64 (s2639.2.1 + (gxMax (w64 (y2651.Goal - (y2651.Gave.length : Int))) 0)), w64 (s2639.2.2 + 1))))
      else some (.inr (s2639.1, s2639.2.1))) (s0 := (0, 0, 0)) (fun i s => s.2.2 = (i : Int)) (fun _ => True) xs.length (by omega) rfl (fun i s hi hR => by
        obtain ⟨a, b, c⟩ := s
        simp only at hR
        subst hR
        have e0 : ((i : Int) < (xs.length : Int)) := by omega
        simp only [e0, decide_true, cond_true, gxIdx_nat hi, Option.bind_some, w64_succ (show i ≤ 4611686018427387904 by omega)]
        exact Or.inl ⟨_, rfl, rfl⟩) (fun s hR => by
        obtain ⟨a, b, c⟩ := s
        simp only at hR
        subst hR
        simp only [Int.lt_irrefl, decide_false, cond_false]
        exact ⟨_, rfl, trivial⟩)
    obtain ⟨q, hq, _⟩ := this
    rw [hq]
    exact ⟨_, rfl, rfl⟩
/-! ### A goal is set -/
def findB (xs : List Balloon) (g : Int) : Int := match (List.range xs.length).find? (fun i => (xs.getD i gB).Guest == g) with
  | some i => i
  | none => -1
theorem s_findB (xs : List Balloon) (g : Int) (h : xs.length ≤ 1048576) : M.s_l18Find xs g = some (findB xs g) := by
  unfold M.s_l18Find findB
  rw [while_first (fun i => (i : Int)) (fun i => (xs.getD i gB).Guest == g) (fun i => .inr (i : Int)) (.inl ()) xs.length (by simp) (by omega)]
  · cases (List.range xs.length).find? (fun i => (xs.getD i gB).Guest == g) <;> rfl
  · intro i hi
    have e0 : ((i : Int) < (xs.length : Int)) := by omega
    rw [getD_at hi]
    simp only [e0, decide_true, cond_true, gxIdx_nat hi, Option.bind_some, w64_succ (show i ≤ 4611686018427387904 by omega)]
    cases (xs[i].Guest == g) <;> rfl
  · simp only [Int.lt_irrefl, decide_false, cond_false]
theorem i_findB (xs : List Balloon) (g : Int) (h : xs.length ≤ 1048576) : M.slices_IndexFunc_85__i_balloonOf_1 xs g = some (findB xs g) := by
  unfold M.slices_IndexFunc_85__i_balloonOf_1 M.i_balloonOf_1 findB
  rw [while_first (fun i => (i : Int)) (fun i => (xs.getD i gB).Guest == g) (fun i => .inr (i : Int)) (.inl ()) xs.length (by simp) (by omega)]
  · cases (List.range xs.length).find? (fun i => (xs.getD i gB).Guest == g) <;> rfl
  · intro i hi
    have e0 : ((i : Int) < (xs.length : Int)) := by omega
    rw [getD_at hi]
    simp only [e0, decide_true, cond_true, gxIdx_nat hi, Option.bind_some, w64_succ (show i ≤ 4611686018427387904 by omega)]
    cases (xs[i].Guest == g) <;> rfl
  · simp only [Int.lt_irrefl, decide_false, cond_false]
theorem findB_lt {xs : List Balloon} {g : Int} (h : ¬ (findB xs g < 0)) : ∃ i : Nat, findB xs g = i ∧ i < xs.length := by
  unfold findB at h ⊢
  cases hf : (List.range xs.length).find? (fun i => (xs.getD i gB).Guest == g) with
  | none => rw [hf] at h; simp at h
  | some i => exact ⟨i, rfl, List.mem_range.1 (List.mem_of_find?_eq_some hf)⟩
theorem i_balloonOf_ok (os : List Int) (xs : List Balloon) (g : Int) (ho : os.length ≤ 1048576) (hf : fitB xs) : M.i_balloonOf os xs g = some (findB xs g, goodB os xs && decide (findB xs g ≥ 0)) := by
  unfold M.i_balloonOf
  rw [i_findB xs g hf.1, Option.bind_some, i_goodB os xs ho hf, Option.bind_some]
  cases goodB os xs <;> rfl
theorem s_own (xs : List Int) (h : xs.length ≤ 1048576) : M.s_l1Own xs = some xs := by
  unfold M.s_l1Own
  rw [gxApp_ok (by simp; omega)]
  rfl
theorem i_copy (xs : List Int) (h : xs.length ≤ 1048576) : M.i_copyInts xs = some xs := by
  unfold M.i_copyInts
  rw [gxApp_ok (by simp; omega)]
  rfl
/-- One balloon replaced. -/
def withB (xs : List Balloon) (at_ : Int) (goal : Int) (gave : List Int) (j : Nat) : Balloon := bif (j : Int) == at_ then ⟨(xs.getD j gB).Guest, goal, gave⟩ else xs.getD j gB
theorem s_with (xs : List Balloon) (at_ goal : Int) (gave : List Int) (hf : fitB xs) (hg : gave.length ≤ 1048576) : M.s_l18With xs at_ goal gave = some ((List.range xs.length).map (withB xs at_ goal gave)) := by
  have hl := hf.1
  unfold M.s_l18With
  rw [while_map (withB xs at_ goal gave) (n := xs.length) (by omega)]
  · rfl
  · intro i hi acc hacc
    have e0 : ((i : Int) < (xs.length : Int)) := by omega
    have hgl := gave_len hf hi
    unfold withB
    rw [getD_at hi]
    simp only [e0, decide_true, cond_true, gxIdx_nat hi, Option.bind_some, s_own xs[i].Gave hgl, s_own gave hg]
    cases ((i : Int) == at_) with
    | true =>
      simp only [cond_true, Option.bind_some]
      rw [gxApp_ok (by simp; omega)]
      rfl
    | false =>
      simp only [cond_false, Option.bind_some]
      rw [gxApp_ok (by simp; omega)]
      rfl
  · intro acc _
    simp only [Int.lt_irrefl, decide_false, cond_false]
theorem map_getD (xs : List Balloon) : (List.range xs.length).map (fun j => xs.getD j gB) = xs := by
  apply List.ext_getElem (by simp)
  intro i h1 h2
  simp only [List.getElem_map, List.getElem_range]
  exact getD_at h2
theorem i_newB (xs : List Balloon) (hf : fitB xs) : M.i_newBalloons xs = some xs := by
  have hl := hf.1
  unfold M.i_newBalloons
  rw [while_map (fun j => xs.getD j gB) (n := xs.length) (by omega)]
  · rw [map_getD]; rfl
  · intro i hi acc hacc
    have e0 : ((i : Int) < (xs.length : Int)) := by omega
    have hgl := gave_len hf hi
    rw [getD_at hi]
    simp only [e0, decide_true, cond_true, gxIdx_nat hi, Option.bind_some, i_copy xs[i].Gave hgl]
    rw [gxApp_ok (by simp; omega)]
    rfl
  · intro acc _
    simp only [Int.lt_irrefl, decide_false, cond_false]
theorem with_set (xs : List Balloon) {i : Nat} (hi : i < xs.length) (goal : Int) (gave : List Int) : (List.range xs.length).map (withB xs (i : Int) goal gave) = xs.set i ⟨xs[i].Guest, goal, gave⟩ := by
  apply List.ext_getElem (by simp)
  intro j h1 h2
  have hj : j < xs.length := by simpa using h1
  simp only [List.getElem_map, List.getElem_range]
  unfold withB
  rw [getD_at hj, List.getElem_set]
  by_cases h : i = j
  · subst h; simp
  · have h3 : ((j : Int) == (i : Int)) = false := by simp; omega
    rw [h3, if_neg h]
    rfl
theorem tot_set : ∀ {xs : List Balloon} {i : Nat} (hi : i < xs.length) (b : Balloon), tot (xs.set i b) + xs[i].Gave.length = tot xs + b.Gave.length
  | x :: r, 0, _, b => by simp only [List.set_cons_zero, tot, List.getElem_cons_zero]; omega
  | x :: r, i + 1, hi, b => by
    have := tot_set (xs := r) (i := i) (by simpa using hi) b
    simp only [List.set_cons_succ, tot, List.getElem_cons_succ]
    omega
theorem SetGoal_eq (os : List Int) (xs : List Balloon) (g v : Int) (ho : (os.length : Int) ≤ 1048576) (hf : fitB xs) : ∃ r, M.s_SetGoal os xs g v = some r ∧ M.i_SetGoal os xs g v = some r ∧ fitB r.1 := by
  have hl := hf.1
  unfold M.s_SetGoal M.i_SetGoal M.i_isGoal
  simp only [s_findB xs g hl, i_balloonOf_ok os xs g (show os.length ≤ 1048576 by omega) hf, s_goodB os xs (show os.length ≤ 1048576 by omega) hf, s_in, i_in, Option.bind_some]
  cases goodB os xs with
  | false => exact ⟨_, rfl, rfl, by simp [fitB, tot]⟩
  | true =>
    by_cases hn : findB xs g < 0
    · have hn2 : ¬ (findB xs g ≥ 0) := by omega
      simp only [hn, hn2, Bool.not_true, decide_true, decide_false, cond_true, cond_false, Option.bind_some, Bool.and_false, Bool.not_false]
      exact ⟨_, rfl, rfl, by simp [fitB, tot]⟩
    · have hn2 : findB xs g ≥ 0 := by omega
      obtain ⟨i, hi, hlt⟩ := findB_lt hn
      have hgl := gave_len hf hlt
      simp only [hn, hn2, Bool.not_true, decide_true, decide_false, cond_true, cond_false, Option.bind_some, Bool.and_true]
      cases (decide (0 ≤ v) && decide (v ≤ 16)) with
      | false => exact ⟨_, rfl, rfl, by simp [fitB, tot]⟩
      | true =>
        simp only [Bool.not_true, cond_false, hi, gxIdx_nat hlt, Option.bind_some, s_with xs (i : Int) v xs[i].Gave hf hgl, i_newB xs hf, with_set xs hlt, Int.toNat_natCast]
        refine ⟨_, rfl, rfl, ?_⟩
        have h5 := tot_set hlt ⟨xs[i].Guest, v, xs[i].Gave⟩
        refine ⟨by simpa using hf.1, ?_⟩
        have h6 := hf.2
        simp only at h5 ⊢
        omega
end Go.Proofs.Ytlfligjpmodefaa
