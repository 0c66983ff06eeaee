/- Plain laws of the models: no program in sight. -/
import Derived.Test.YtlfligjpmodefaaM
import Derived.Test.YtlfligjpmodefaaL1
set_option linter.unusedVariables false
set_option linter.unusedSimpArgs false
set_option maxHeartbeats 4000000
namespace Go.Proofs.Ytlfligjpmodefaa
open Go.Gx
/-! ### Good balloons -/
def inB (x a b : Int) : Bool := decide (a ≤ x) && decide (x ≤ b)
def ownersB (os : List Int) : Bool := (List.range os.length).all (fun i => inB (os.getD i 0) 0 4) && inB (os.length : Int) 1 16
theorem s_owners (os : List Int) (h : os.length ≤ 1048576) : M.s_l2Good os = some (ownersB os) := by
  unfold M.s_l2Good ownersB
  rw [while_all (fun i => (i : Int)) (fun i => inB (os.getD i 0) 0 4) (.inr false) (.inl ()) os.length (by simp) (by omega)]
  · simp only [s_in, Option.bind_some]
    cases (List.range os.length).all (fun i => inB (os.getD i 0) 0 4) <;> rfl
  · intro i hi
    have e0 : ((i : Int) < (os.length : Int)) := by omega
    rw [getD_at hi]
    unfold inB
    simp only [e0, decide_true, cond_true, gxIdx_nat hi, s_in, Option.bind_some, w64_succ (show i ≤ 4611686018427387904 by omega)]
    cases (decide (0 ≤ os[i]) && decide (os[i] ≤ 4)) <;> rfl
  · simp only [Int.lt_irrefl, decide_false, cond_false]
theorem i_owners (os : List Int) (h : os.length ≤ 1048576) : M.i_AreOwners os = some (ownersB os) := by
  unfold M.i_AreOwners M.slices_ContainsFunc_83__i_AreOwners_1 M.slices_IndexFunc_91__i_AreOwners_1 M.i_AreOwners_1 ownersB
  rw [while_first (fun i => (i : Int)) (fun i => !(inB (os.getD i 0) 0 4)) (fun i => (.inr (i : Int))) (.inl ()) os.length (by simp) (by omega)]
  · simp only [i_in, Option.bind_some, inB]
    cases hb : (decide (1 ≤ (os.length : Int)) && decide ((os.length : Int) ≤ 16)) with
    | false => simp
    | true =>
      simp only [cond_true, Bool.and_true]
      cases hf : (List.range os.length).find? (fun i => !((decide (0 ≤ os.getD i 0) && decide (os.getD i 0 ≤ 4)))) with
      | none =>
        rw [List.find?_eq_none] at hf
        have : ((List.range os.length).all fun i => (decide (0 ≤ os.getD i 0) && decide (os.getD i 0 ≤ 4))) = true := List.all_eq_true.2 fun i hi => by simpa using hf i hi
        rw [this]
        rfl
      | some i =>
        have h1 := List.find?_some hf
        have h2 := List.mem_of_find?_eq_some hf
        have h3 : ((List.range os.length).all fun i => (decide (0 ≤ os.getD i 0) && decide (os.getD i 0 ≤ 4))) = false := by
          rw [List.all_eq_false]
          exact ⟨i, h2, fun hc => by rw [hc] at h1; cases h1⟩
        have h4 : ((i : Int) ≥ 0) := by omega
        rw [h3]
        simp [h4]
  · intro i hi
    have e0 : ((i : Int) < (os.length : Int)) := by omega
    rw [getD_at hi]
    unfold inB
    simp only [e0, decide_true, cond_true, gxIdx_nat hi, i_in, Option.bind_some, w64_succ (show i ≤ 4611686018427387904 by omega)]
    cases (decide (0 ≤ os[i]) && decide (os[i] ≤ 4)) <;> rfl
  · simp only [Int.lt_irrefl, decide_false, cond_false]
def riseOk (xs : List Int) (a b : Int) (i : Nat) : Bool := inB (xs.getD i 0) a b && !(decide ((i : Int) > 0) && decide (xs.getD (i - 1) 0 ≥ xs.getD i 0))
def riseB (xs : List Int) (a b : Int) : Bool := (List.range xs.length).all (riseOk xs a b)
theorem s_rise (xs : List Int) (a b : Int) (h : xs.length ≤ 1048576) : M.s_l1Rising xs a b = some (riseB xs a b) := by
  unfold M.s_l1Rising riseB
  rw [while_all (fun i => (i : Int)) (riseOk xs a b) (.inr false) (.inl ()) xs.length (by simp) (by omega)]
  · cases (List.range xs.length).all (riseOk xs a b) <;> rfl
  · intro i hi
    have e0 : ((i : Int) < (xs.length : Int)) := by omega
    unfold riseOk inB
    rw [getD_at hi]
    simp only [e0, decide_true, cond_true, gxIdx_nat hi, s_in, Option.bind_some, w64_succ (show i ≤ 4611686018427387904 by omega)]
    cases (decide (a ≤ xs[i]) && decide (xs[i] ≤ b)) with
    | false => rfl
    | true =>
      by_cases hp : (i : Int) > 0
      · rw [getD_at (show i - 1 < xs.length by omega)]
        simp only [hp, decide_true, cond_true, gxIdx_prevG hi (by omega) (by omega), Option.bind_some, Bool.not_true, cond_false, Bool.true_and]
        cases decide ((xs[i - 1]'(by omega)) ≥ xs[i]) <;> rfl
      · simp only [hp, decide_false, cond_false, Bool.not_true, Bool.false_and]
        rfl
  · simp only [Int.lt_irrefl, decide_false, cond_false]
theorem i_rise (xs : List Int) (a b : Int) (h : xs.length ≤ 1048576) : M.i_ascending xs a b = some (riseB xs a b) := by
  unfold M.i_ascending riseB
  rw [while_all (fun i => (i : Int)) (riseOk xs a b) (.inr false) (.inl ()) xs.length (by simp) (by omega)]
  · cases (List.range xs.length).all (riseOk xs a b) <;> rfl
  · intro i hi
    have e0 : ((i : Int) < (xs.length : Int)) := by omega
    unfold riseOk inB
    rw [getD_at hi]
    simp only [e0, decide_true, cond_true, gxIdx_nat hi, i_in, Option.bind_some, w64_succ (show i ≤ 4611686018427387904 by omega)]
    cases (decide (a ≤ xs[i]) && decide (xs[i] ≤ b)) with
    | false => rfl
    | true =>
      by_cases hp : (i : Int) > 0
      · rw [getD_at (show i - 1 < xs.length by omega)]
        simp only [hp, decide_true, cond_true, gxIdx_prevG hi (by omega) (by omega), Option.bind_some, Bool.not_true, cond_false, Bool.true_and]
        cases decide ((xs[i - 1]'(by omega)) ≥ xs[i]) <;> rfl
      · simp only [hp, decide_false, cond_false, Bool.not_true, Bool.false_and]
        rfl
  · simp only [Int.lt_irrefl, decide_false, cond_false]
theorem rise_at {xs : List Int} {a b : Int} (h : riseB xs a b = true) {i : Nat} (hi : i < xs.length) : (a ≤ xs[i] ∧ xs[i] ≤ b) ∧ ∀ (h0 : 0 < i), (xs[i - 1]'(by omega)) < xs[i] := by
  have := List.all_eq_true.1 h i (List.mem_range.2 hi)
  unfold riseOk inB at this
  rw [getD_at hi] at this
  simp only [Bool.and_eq_true, decide_eq_true_eq, Bool.not_eq_true', Bool.and_eq_false_iff, decide_eq_false_iff_not] at this
  refine ⟨this.1, fun h0 => ?_⟩
  rw [getD_at (show i - 1 < xs.length by omega)] at this
  rcases this.2 with h2 | h2 <;> omega
theorem rise_lt {xs : List Int} {a b : Int} (h : riseB xs a b = true) : ∀ (j i : Nat) (hi : i < xs.length) (hj : j < i), (xs[j]'(by omega)) < xs[i] := by
  intro j i
  induction i with
  | zero => intro _ hj; omega
  | succ i ih =>
    intro hi hj
    have h1 := (rise_at h hi).2 (by omega)
    simp only [Nat.add_sub_cancel] at h1
    by_cases hji : j = i
    · subst hji; exact h1
    · have := ih (by omega) (by omega)
      omega
def hasB (xs : List Int) (x : Int) : Bool := (List.range xs.length).any fun i => xs.getD i 0 == x
theorem find_any (p : Nat → Bool) (n : Nat) : (match (List.range n).find? p with | some _ => true | none => false) = (List.range n).any p := by
  cases hf : (List.range n).find? p with
  | none =>
    rw [List.find?_eq_none] at hf
    symm
    rw [List.any_eq_false]
    exact hf
  | some i =>
    symm
    rw [List.any_eq_true]
    exact ⟨i, List.mem_of_find?_eq_some hf, List.find?_some hf⟩
theorem s_has (xs : List Int) (x : Int) (h : xs.length ≤ 1099511627776) : M.s_l1Has xs x = some (hasB xs x) := by
  unfold M.s_l1Has hasB
  rw [while_first (fun i => (i : Int)) (fun i => xs.getD i 0 == x) (fun _ => (.inr true)) (.inl ()) xs.length (by simp) (by omega)]
  · rw [← find_any]
    cases (List.range xs.length).find? (fun i => xs.getD i 0 == x) <;> rfl
  · intro i hi
    have e0 : ((i : Int) < (xs.length : Int)) := by omega
    rw [getD_at hi]
    simp only [e0, decide_true, cond_true, gxIdx_nat hi, Option.bind_some, w64_succ (show i ≤ 4611686018427387904 by omega)]
    cases (xs[i] == x) <;> rfl
  · simp only [Int.lt_irrefl, decide_false, cond_false]
theorem i_has (xs : List Int) (x : Int) (h : xs.length ≤ 1099511627776) : M.slices_Contains_53 xs x = some (hasB xs x) := by
  unfold M.slices_Contains_53 M.slices_Index_63 hasB
  rw [while_first (fun i => (i : Int)) (fun i => xs.getD i 0 == x) (fun i => (.inr (i : Int))) (.inl ()) xs.length (by simp) (by omega)]
  · rw [← find_any]
    cases (List.range xs.length).find? (fun i => xs.getD i 0 == x) with
    | none => rfl
    | some i =>
      have : ((i : Int) ≥ 0) := by omega
      simp [this]
  · intro i hi
    have e0 : ((i : Int) < (xs.length : Int)) := by omega
    rw [getD_at hi]
    simp only [e0, decide_true, cond_true, gxIdx_nat hi, Option.bind_some, w64_succ (show i ≤ 4611686018427387904 by omega)]
    rw [show (x == xs[i]) = (xs[i] == x) from Bool.beq_comm]
    cases (xs[i] == x) <;> rfl
  · simp only [Int.lt_irrefl, decide_false, cond_false]
theorem hasB_iff {xs : List Int} {x : Int} : hasB xs x = true ↔ x ∈ xs := by
  unfold hasB
  rw [List.any_eq_true]
  constructor
  · rintro ⟨i, hi, he⟩
    rw [List.mem_range] at hi
    rw [getD_at hi] at he
    have : xs[i] = x := by simpa using he
    exact this ▸ List.getElem_mem hi
  · intro hx
    obtain ⟨i, hi, rfl⟩ := List.mem_iff_getElem.1 hx
    exact ⟨i, List.mem_range.2 hi, by rw [getD_at hi]; simp⟩
def gB : Balloon := ⟨0, 0, []⟩
def givenB (xs : List Balloon) (i : Nat) : List Int := (xs.take i).flatMap Balloon.Gave
def freeB (os : List Int) (given : List Int) (gave : List Int) : Bool := (List.range gave.length).all fun k => (os.getD (gave.getD k 0).toNat 0 == 0) && !(hasB given (gave.getD k 0))
def okBal (os : List Int) (xs : List Balloon) (i : Nat) : Bool :=
  (inB (xs.getD i gB).Guest 1 4 && (inB (xs.getD i gB).Goal 0 16 && (!(decide ((i : Int) > 0) && decide ((xs.getD (i - 1) gB).Guest ≥ (xs.getD i gB).Guest)) && riseB (xs.getD i gB).Gave 0 ((os.length : Int) - 1)))) && freeB os (givenB xs i) (xs.getD i gB).Gave
def goodB (os : List Int) (xs : List Balloon) : Bool := ownersB os && (List.range xs.length).all (okBal os xs)
theorem tot_flat : ∀ xs : List Balloon, (xs.flatMap Balloon.Gave).length = tot xs
  | [] => rfl
  | x :: r => by rw [List.flatMap_cons, List.length_append, tot_flat r]; rfl
theorem givenB_len {xs : List Balloon} (i : Nat) (hf : fitB xs) : (givenB xs i).length ≤ 1048576 := by
  unfold givenB
  rw [tot_flat]
  have := tot_app (xs.take i) (xs.drop i)
  rw [List.take_append_drop] at this
  have := hf.2
  omega
theorem givenB_succ {xs : List Balloon} {i : Nat} (hi : i < xs.length) : givenB xs (i + 1) = givenB xs i ++ xs[i].Gave := by
  unfold givenB
  rw [List.take_add_one, List.getElem?_eq_getElem hi, Option.toList_some, List.flatMap_append]
  simp
theorem gave_len {xs : List Balloon} (hf : fitB xs) {i : Nat} (hi : i < xs.length) : xs[i].Gave.length ≤ 1048576 := by
  have := tot_mem (List.getElem_mem hi)
  have := hf.2
  omega
theorem s_goodB (os : List Int) (xs : List Balloon) (ho : os.length ≤ 1048576) (hf : fitB xs) : M.s_l18Good os xs = some (goodB os xs) := by
  have hl := hf.1
  unfold M.s_l18Good goodB
  rw [s_owners os ho, Option.bind_some]
  cases ownersB os with
  | false => rfl
  | true =>
    simp only [Bool.not_true, cond_false, Bool.true_and]
    rw [while_all (fun i => (givenB xs i, (i : Int))) (okBal os xs) (.inr false) (.inl ()) xs.length (by simp [givenB]) (by omega)]
    · cases (List.range xs.length).all (okBal os xs) <;> rfl
    · intro i hi
      have e0 : ((i : Int) < (xs.length : Int)) := by omega
      have hgl := gave_len hf hi
      have hgv := givenB_len (xs := xs) i hf
      have hgn := givenB_succ hi
      unfold okBal
      rw [getD_at hi]
      simp only [e0, decide_true, cond_true, gxIdx_nat hi, s_in, Option.bind_some, w64_succ (show i ≤ 4611686018427387904 by omega), w64_id (z := (os.length : Int) - 1) (by omega) (by omega), s_rise xs[i].Gave 0 ((os.length : Int) - 1) hgl]
      unfold inB
      cases (decide (1 ≤ xs[i].Guest) && decide (xs[i].Guest ≤ 4)) with
      | false => rfl
      | true => cases (decide (0 ≤ xs[i].Goal) && decide (xs[i].Goal ≤ 16)) with
        | false => rfl
        | true =>
          have inner : riseB xs[i].Gave 0 ((os.length : Int) - 1) = true → whileM (σ := Int) (ρ := (Unit) ⊕ (Bool)) (fun s1189 =>
              bif decide (s1189 < (xs[i].Gave.length : Int)) then (Option.bind (α := Bool) (Option.bind (gxIdx xs[i].Gave s1189) fun y1212 =>
              Option.bind (gxIdx os y1212) fun y1213 =>
              bif y1213 != 0 then some true
              else (Option.bind (gxIdx xs[i].Gave s1189) fun y1215 =>
              Option.bind (M.s_l1Has (givenB xs i) y1215) fun r1216 =>
              some r1216)) fun o1209 =>
              bif o1209 then some (.inr (.inr false))
              else some (.inl (w64 (s1189 + 1))))
              else some (.inr (.inl ()))) gxFuel 0 = some (bif freeB os (givenB xs i) xs[i].Gave then .inl () else .inr false) := by
            intro hr
            unfold freeB
            refine while_all (fun (k : Nat) => (k : Int)) (fun (k : Nat) => (os.getD (xs[i].Gave.getD k 0).toNat 0 == 0) && !(hasB (givenB xs i) (xs[i].Gave.getD k 0))) (Sum.inr false : Unit ⊕ Bool) (Sum.inl () : Unit ⊕ Bool) xs[i].Gave.length (by simp) (by omega) (fun k hk => ?_) ?_
            · have e1 : ((k : Int) < (xs[i].Gave.length : Int)) := by omega
              have hb := (rise_at hr hk).1
              obtain ⟨f, hfv⟩ : ∃ f : Nat, xs[i].Gave[k] = (f : Int) := ⟨xs[i].Gave[k].toNat, by omega⟩
              have hfo : f < os.length := by omega
              rw [getD_at hk, hfv, Int.toNat_natCast, getD_at hfo]
              simp only [e1, decide_true, cond_true, gxIdx_nat hk, hfv, gxIdx_nat hfo, Option.bind_some, s_has (givenB xs i) (f : Int) (by omega), w64_succ (show k ≤ 4611686018427387904 by omega)]
              cases h0 : (os[f] == 0) with
              | true =>
                have h0' : (os[f] != 0) = false := by simp [bne, h0]
                simp only [h0', cond_false, Option.bind_some, Bool.true_and]
                cases hasB (givenB xs i) (f : Int) <;> rfl
              | false =>
                have h0' : (os[f] != 0) = true := by simp [bne, h0]
                simp only [h0', cond_true, Option.bind_some, Bool.false_and, cond_false]
            · simp only [Int.lt_irrefl, decide_false, cond_false]
          by_cases hp : (i : Int) > 0
          · rw [getD_at (show i - 1 < xs.length by omega)]
            simp only [hp, decide_true, cond_true, gxIdx_prevG hi (by omega) (by omega), Option.bind_some, Bool.not_true, cond_false, Bool.true_and]
            cases decide ((xs[i - 1]'(by omega)).Guest ≥ xs[i].Guest) with
            | true => rfl
            | false => cases hr : riseB xs[i].Gave 0 ((os.length : Int) - 1) with
              | false => rfl
              | true =>
                simp only [Bool.not_true, Bool.not_false, Bool.true_and, cond_false, Option.bind_some]
                rw [inner hr, Option.bind_some]
                cases freeB os (givenB xs i) xs[i].Gave with
                | false => rfl
                | true =>
                  simp only [cond_true, Sum.elim_inl, gxApp_ok (show ((givenB xs i).length + xs[i].Gave.length) * 8 ≤ 140737488355328 by omega), Option.bind_some, hgn]
          · simp only [hp, decide_false, cond_false, Bool.false_and, Bool.not_false, Bool.true_and, Bool.not_true]
            cases hr : riseB xs[i].Gave 0 ((os.length : Int) - 1) with
            | false => rfl
            | true =>
              simp only [Bool.not_true, Bool.true_and, cond_false, Option.bind_some]
              rw [inner hr, Option.bind_some]
              cases freeB os (givenB xs i) xs[i].Gave with
              | false => rfl
              | true =>
                simp only [cond_true, Sum.elim_inl, gxApp_ok (show ((givenB xs i).length + xs[i].Gave.length) * 8 ≤ 140737488355328 by omega), Option.bind_some, hgn]
    · simp only [Int.lt_irrefl, decide_false, cond_false]
end Go.Proofs.Ytlfligjpmodefaa
