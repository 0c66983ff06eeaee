/- Plain laws of the models: no program in sight. -/
import Derived.Test.YtopnablbecepjaaM
import Derived.Test.YtopnablbecepjaaGxH
set_option linter.unusedVariables false
set_option linter.unusedSimpArgs false
set_option maxHeartbeats 4000000
namespace Go.Proofs.Ytopnablbecepjaa
open Go.Gx
/-! ### Slices of integers -/
theorem eqIntS_refl (xs : List Int) (h : xs.length ≤ 4611686018427387904) : M.l_eqIntS xs xs = some true := by
  unfold M.l_eqIntS
  rw [while_run (fun i => (i : Int)) (Sum.inl ()) xs.length (by simp) h]
  · simp
  · intro i hi
    have h1 : ((i : Int) < (xs.length : Int)) := by omega
    simp [h1, gxIdx_nat hi, w64_succ (show i ≤ 4611686018427387904 by omega)]
  · simp
theorem toIntS_id (xs : List Int) (h : xs.length ≤ 1099511627776) : M.l_toIntS xs = some xs := by
  unfold M.l_toIntS
  rw [gxMake_nat (by omega), Option.bind_some, while_run (fun i => ((i : Int), taken xs 0 i)) xs xs.length (by simp [taken_zero]) (by omega)]
  · rfl
  · intro i hi
    have h1 : ((i : Int) < (xs.length : Int)) := by omega
    have h2 : i < (taken xs 0 i).length := by rw [taken_length (by omega)]; exact hi
    simp [h1, gxIdx_nat hi, gxIdx_nat h2, w64_succ (show i ≤ 4611686018427387904 by omega), taken_set hi]
  · simp [taken_all]
theorem markIntS_ok (xs : List Int) (k : Nat) (h : k + xs.length ≤ 1099511627776) : M.l_markIntS xs k = some (((k + xs.length : Nat) : Int), marks k xs.length) := by
  unfold M.l_markIntS
  rw [while_run (fun i => (((k + i : Nat) : Int), (i : Int), marked k xs i)) (((k + xs.length : Nat) : Int), marks k xs.length) xs.length (by simp [marked_zero]) (by omega)]
  · rfl
  · intro i hi
    have h0 : (marked k xs i).length = xs.length := marked_length (by omega)
    have h1 : ((i : Int) < (xs.length : Int)) := by omega
    have h2 : i < (marked k xs i).length := by omega
    simp only [h0, h1, gxIdx_nat h2, decide_true, cond_true, Option.bind_some, Int.toNat_natCast, marked_set hi, w64_succ (show i ≤ 4611686018427387904 by omega), w64_succ (show k + i ≤ 4611686018427387904 by omega)]
    rfl
  · have h0 : (marked k xs xs.length).length = xs.length := marked_length (by omega)
    simp [marked_all, marks_length]
theorem heldIntS_ok (k n : Nat) (h : k + n ≤ 1099511627776) : M.l_heldIntS (marks k n) k = some ((k + n : Nat) : Int) := by
  unfold M.l_heldIntS
  rw [while_run (fun i => (((k + i : Nat) : Int), (i : Int))) (Sum.inl ((k + n : Nat) : Int)) n (by simp) (by omega)]
  · rfl
  · intro i hi
    have h1 : ((i : Int) < (n : Int)) := by omega
    have h2 : i < (marks k n).length := by rw [marks_length]; exact hi
    simp only [marks_length, h1, gxIdx_nat h2, marks_get, decide_true, cond_true, Option.bind_some, bne_self_eq_false, cond_false, w64_succ (show i ≤ 4611686018427387904 by omega), w64_succ (show k + i ≤ 4611686018427387904 by omega)]
    rfl
  · simp [marks_length]
theorem szIntS_ok (xs : List Int) (left : Int) (h : xs.length ≤ 9223372036854775807) (hl : -1 ≤ left ∧ left ≤ 1048576) : M.l_szIntS xs left = some (if left < xs.length then -1 else left - xs.length) := by
  unfold M.l_szIntS
  rw [w64_id (by omega) (by omega)]
  by_cases hc : left < xs.length
  · have : left - (xs.length : Int) < 0 := by omega
    simp [hc, this]
  · have : ¬ (left - (xs.length : Int) < 0) := by omega
    simp [hc, this]
/-! ### Rings -/
theorem eqRing_refl (x : Ring) (h : x.Items.length ≤ 4611686018427387904) : M.l_eqRing x x = some true := by
  unfold M.l_eqRing
  simp [eqIntS_refl _ h]
theorem toRing_id (x : Ring) (h : x.Items.length ≤ 1099511627776) : M.l_toRing x = some x := by
  unfold M.l_toRing
  simp [toIntS_id _ h]
theorem markRing_ok (x : Ring) (k : Nat) (h : k + x.Items.length ≤ 1099511627776) : M.l_markRing x k = some (((k + x.Items.length : Nat) : Int), marks k x.Items.length) := by
  unfold M.l_markRing
  simp [markIntS_ok _ _ h]
theorem heldRing_ok (k n : Nat) (a b : Int) (h : k + n ≤ 1099511627776) : M.l_heldRing ⟨marks k n, a, b⟩ k = some ((k + n : Nat) : Int) := by
  unfold M.l_heldRing
  have : ¬ (((k + n : Nat) : Int) < 0) := by omega
  simp only [heldIntS_ok k n h, Option.bind_some, this, decide_false, cond_false]
def okRing (x : Ring) : Prop := okL okI x.Items ∧ okI x.Head ∧ okI x.Tail
theorem szRing_ok (x : Ring) (h : x.Items.length ≤ 9223372036854775807) : M.l_szRing x 1048576 = some (if (1048576 : Int) < x.Items.length then (-1 : Int) else 1048576 - x.Items.length) := by
  unfold M.l_szRing
  rw [szIntS_ok _ _ h (by omega)]
  by_cases hc : (1048576 : Int) < x.Items.length
  · simp [hc]
  · have : ¬ ((1048576 : Int) - x.Items.length < 0) := by omega
    simp [hc, this]
/-! ### Words, places, counts -/
def word (x : Int) : Bool := decide (0 ≤ x) && decide (x ≤ 65535)
theorem word_spec {x : Int} : word x = true ↔ 0 ≤ x ∧ x ≤ 65535 := by simp [word]
theorem s_word (x : Int) : M.s_l2Word16 x = some (word x) := by
  unfold M.s_l2Word16 M.s_l1In word
  by_cases h : x ≥ 0 <;> simp [h]
theorem i_word (x : Int) : M.i_isWord16 x = some (word x) := by
  unfold M.i_isWord16 M.i_inside word
  by_cases h : x ≥ 0 <;> simp [h]
def pl (x : Int) : Bool := x == 1 || (x == 2 || (x == 4 || x == 8))
theorem pl_cases {x : Int} (h : pl x = true) : x = 1 ∨ x = 2 ∨ x = 4 ∨ x = 8 := by simpa [pl] using h
theorem pl_nat {n : Nat} (h : pl n = true) : n = 1 ∨ n = 2 ∨ n = 4 ∨ n = 8 := by have := pl_cases h; omega
theorem s_places (x : Int) : M.s_l20Places x = some (pl x) := by
  unfold M.s_l20Places pl
  cases h1 : x == 1 <;> cases h2 : x == 2 <;> cases h3 : x == 4 <;> simp
theorem i_places (x : Int) : M.i_arePlaces x = some (pl x) := by
  unfold M.i_arePlaces M.i_inside
  by_cases h : 1 ≤ x ∧ x ≤ 8
  · have h1 : x = 1 ∨ x = 2 ∨ x = 3 ∨ x = 4 ∨ x = 5 ∨ x = 6 ∨ x = 7 ∨ x = 8 := by omega
    rcases h1 with rfl | rfl | rfl | rfl | rfl | rfl | rfl | rfl <;> rfl
  · have h0 : pl x = false := by
      cases hp : pl x with
      | false => rfl
      | true => have := pl_cases hp; omega
    rw [h0]
    by_cases h1 : x ≥ 1
    · have h2 : ¬ (x ≤ 8) := by omega
      simp [h1, h2]
    · simp [h1]
def cnt (a b : Int) : Int := (b - a) % 65536
theorem steps_ok {a b : Int} (ha : 0 ≤ a ∧ a ≤ 65535) (hb : 0 ≤ b ∧ b ≤ 65535) : M.i_stepsTo a b = some (cnt a b) := by
  unfold M.i_stepsTo cnt
  rw [and16, w64_id (by omega) (by omega)]
theorem s_count {x : Ring} (ha : word x.Head = true) (hb : word x.Tail = true) : M.s_l20Count x = some (cnt x.Head x.Tail) := by
  have ha := word_spec.1 ha
  have hb := word_spec.1 hb
  unfold M.s_l20Count cnt
  rw [w64_id (z := x.Tail - x.Head) (by omega) (by omega), w64_id (by omega) (by omega), Int.tmod_eq_emod_of_nonneg (by omega)]
  congr 1
  omega
theorem i_count {x : Ring} (ha : word x.Head = true) (hb : word x.Tail = true) : M.i_Ring_count x = some (cnt x.Head x.Tail) := by
  unfold M.i_Ring_count
  rw [steps_ok (word_spec.1 ha) (word_spec.1 hb)]
  rfl
theorem rem_ok {a n : Int} (h : 0 ≤ a) (hn : 0 < n) : gxRem a n = some (a % n) := by
  unfold gxRem
  rw [if_neg (by omega), Int.tmod_eq_emod_of_nonneg h]
theorem idx_ok {xs : List Int} {i : Int} (h0 : 0 ≤ i) (h : i < xs.length) : gxIdx xs i = some (xs.getD i.toNat 0) := by
  unfold gxIdx
  rw [if_pos h0, List.getD_eq_getElem?_getD, List.getElem?_eq_getElem (by omega)]
  rfl
theorem makeRing_eq (a b : Int) : ∃ r, M.s_MakeRing a b = some r ∧ M.i_MakeRing a b = some r ∧ r.1.Items.length ≤ 8 := by
  unfold M.s_MakeRing M.i_MakeRing
  simp only [s_places, i_places, s_word, i_word, Option.bind_some]
  cases h1 : pl a with
  | false => exact ⟨_, rfl, rfl, by simp⟩
  | true => cases h2 : word b with
    | false => exact ⟨_, rfl, rfl, by simp⟩
    | true =>
      obtain ⟨n, rfl, hn⟩ : ∃ n : Nat, a = n ∧ n ≤ 8 := ⟨a.toNat, by have := pl_cases h1; omega, by have := pl_cases h1; omega⟩
      simp only [Bool.not_true, cond_false, Option.bind_some, gxMake_nat (show n * 8 ≤ 140737488355328 by omega)]
      exact ⟨_, rfl, rfl, by simpa using hn⟩
theorem plain_MakeRing (a b : Int) (_ : okI a) (_ : okI b) : M.l_FnExactMakeRing a b = some true := by
  obtain ⟨r, h1, h2, h3⟩ := makeRing_eq a b
  have he := eqRing_refl r.1 (by omega)
  have hm : M.l_markRing r.1 1 = _ := markRing_ok r.1 1 (by omega)
  have hh : M.l_heldRing ⟨marks 1 r.1.Items.length, r.1.Head, r.1.Tail⟩ 1 = _ := heldRing_ok 1 r.1.Items.length _ _ (by omega)
  have hn : ¬ (((1 + r.1.Items.length : Nat) : Int) < 0) := by omega
  unfold M.l_FnExactMakeRing
  simp only [h1, h2, he, hm, hh, hn, Option.bind_some, Bool.not_true, cond_false, beq_self_eq_true, bne_self_eq_false, decide_false]
/-! ### Is it a ring? -/
theorem while_all {σ ρ : Type} {body : σ → Option (σ ⊕ ρ)} {s0 : σ} (st : Nat → σ) (ok : Nat → Bool) (bad r : ρ) (n : Nat) (h0 : s0 = st 0) (hn : n ≤ 4611686018427387904) (h : ∀ i, i < n → body (st i) = some (bif ok i then .inl (st (i + 1)) else .inr bad)) (he : body (st n) = some (.inr r)) :
    whileM body gxFuel s0 = some (bif (List.range n).all ok then r else bad) := by
  cases hall : (List.range n).all ok with
  | true =>
    refine while_run st r n h0 hn (fun i hi => ?_) he
    rw [h i hi, List.all_eq_true.1 hall i (List.mem_range.2 hi)]
    rfl
  | false =>
    have hex : ∃ i, i < n ∧ ok i = false := by
      rw [List.all_eq_false] at hall
      obtain ⟨i, hi, hf⟩ := hall
      exact ⟨i, List.mem_range.1 hi, by simpa using hf⟩
    obtain ⟨i, ⟨hi, hf⟩, hmin⟩ := exists_least hex
    refine while_run st bad i h0 (by omega) (fun j hj => ?_) (by rw [h i hi, hf]; rfl)
    have hj' : ok j = true := by
      cases hb : ok j with
      | true => rfl
      | false => have := hmin j ⟨by omega, hb⟩; omega
    rw [h j (by omega), hj']
    rfl
def okS (x : Ring) (i : Nat) : Bool :=
  word (x.Items.getD ((x.Head + i) % x.Items.length).toNat 0) && !(decide ((i : Int) ≥ cnt x.Head x.Tail) && x.Items.getD ((x.Head + i) % x.Items.length).toNat 0 != 0)
def okIm (x : Ring) (j : Nat) : Bool :=
  word (x.Items.getD j 0) && !(x.Items.getD j 0 != 0 && decide (cnt x.Head j % x.Items.length ≥ cnt x.Head x.Tail))
def good (x : Ring) : Bool := pl x.Items.length && (word x.Head && (word x.Tail && (decide (cnt x.Head x.Tail ≤ x.Items.length) && (List.range x.Items.length).all (okS x))))
theorem all_eq {n : Nat} {p q : Nat → Bool} (f g : Nat → Nat) (hf : ∀ i, i < n → f i < n ∧ p i = q (f i)) (hg : ∀ j, j < n → g j < n ∧ p (g j) = q j) : (List.range n).all p = (List.range n).all q := by
  rw [Bool.eq_iff_iff, List.all_eq_true, List.all_eq_true]
  constructor
  · intro h j hj
    have hj := List.mem_range.1 hj
    rw [← (hg j hj).2]
    exact h _ (List.mem_range.2 (hg j hj).1)
  · intro h i hi
    have hi := List.mem_range.1 hi
    rw [(hf i hi).2]
    exact h _ (List.mem_range.2 (hf i hi).1)
theorem okS_okI {x : Ring} (hp : pl x.Items.length = true) (hh : word x.Head = true) : (List.range x.Items.length).all (okS x) = (List.range x.Items.length).all (okIm x) := by
  have hw := word_spec.1 hh
  have hc := pl_nat hp
  refine all_eq (fun i => ((x.Head + i) % x.Items.length).toNat) (fun j => (((j : Int) - x.Head) % x.Items.length).toNat) (fun i hi => ?_) (fun j hj => ?_)
  · have h1 : ((x.Head + i) % x.Items.length).toNat < x.Items.length := by
      rcases hc with h | h | h | h <;> rw [h] <;> omega
    have h2 : cnt x.Head (((x.Head + i) % x.Items.length).toNat : Nat) % x.Items.length = i := by
      unfold cnt
      rcases hc with h | h | h | h <;> rw [h] at hi ⊢ <;> omega
    refine ⟨h1, ?_⟩
    unfold okS okIm
    rw [h2, Bool.and_comm (decide _)]
  · have h1 : (((j : Int) - x.Head) % x.Items.length).toNat < x.Items.length := by
      rcases hc with h | h | h | h <;> rw [h] <;> omega
    have h2 : ((x.Head + (((j : Int) - x.Head) % x.Items.length).toNat) % x.Items.length).toNat = j := by
      rcases hc with h | h | h | h <;> rw [h] <;> omega
    have h3 : cnt x.Head j % x.Items.length = (((j : Int) - x.Head) % x.Items.length).toNat := by
      unfold cnt
      rcases hc with h | h | h | h <;> rw [h] at hj ⊢ <;> omega
    refine ⟨h1, ?_⟩
    unfold okS okIm
    rw [h2, h3, Bool.and_comm (decide _)]
theorem s_good (x : Ring) : M.s_l20Good x = some (good x) := by
  unfold M.s_l20Good good
  simp only [s_places, s_word, Option.bind_some]
  cases h1 : pl x.Items.length with
  | false => simp
  | true => cases h2 : word x.Head with
    | false => simp
    | true => cases h3 : word x.Tail with
      | false => simp
      | true =>
        simp only [s_count h2 h3, Option.bind_some, Bool.not_true, cond_false, Bool.true_and]
        have hc := pl_cases h1
        have hw := word_spec.1 h2
        by_cases h4 : cnt x.Head x.Tail ≤ x.Items.length
        · have h5 : ¬ (cnt x.Head x.Tail > x.Items.length) := by omega
          simp only [h4, h5, decide_false, decide_true, cond_false, Bool.true_and]
          rw [while_all (fun i => (i : Int)) (okS x) (.inr false) (.inl ()) x.Items.length (by simp) (by omega)]
          · cases (List.range x.Items.length).all (okS x) <;> rfl
          · intro i hi
            have e1 : ((i : Int) < (x.Items.length : Int)) := by omega
            have e2 : 0 ≤ (x.Head + i) % x.Items.length := Int.emod_nonneg _ (by omega)
            have e3 : (x.Head + i) % x.Items.length < x.Items.length := Int.emod_lt_of_pos _ (by omega)
            simp only [e1, decide_true, cond_true, w64_id (z := x.Head + i) (by omega) (by omega), rem_ok (show 0 ≤ x.Head + (i : Int) by omega) (show (0 : Int) < x.Items.length by omega), Option.bind_some, idx_ok e2 e3, w64_succ (show i ≤ 4611686018427387904 by omega)]
            unfold okS
            cases word (x.Items.getD ((x.Head + i) % x.Items.length).toNat 0) <;> cases decide ((i : Int) ≥ cnt x.Head x.Tail) <;> cases (x.Items.getD ((x.Head + i) % x.Items.length).toNat 0 != 0) <;> rfl
          · simp
        · have h5 : cnt x.Head x.Tail > x.Items.length := by omega
          simp [h4, h5]
theorem i_good (x : Ring) : M.i_IsRing x = some (good x) := by
  unfold M.i_IsRing good
  simp only [i_places, i_word, Option.bind_some]
  cases h1 : pl x.Items.length with
  | false => simp
  | true => cases h2 : word x.Head with
    | false => simp
    | true => cases h3 : word x.Tail with
      | false => simp
      | true =>
        simp only [i_count h2 h3, Option.bind_some, Bool.not_true, cond_false, Bool.true_and]
        have hc := pl_cases h1
        have hw := word_spec.1 h2
        rw [okS_okI h1 h2]
        by_cases h4 : cnt x.Head x.Tail ≤ x.Items.length
        · have h5 : ¬ (cnt x.Head x.Tail > x.Items.length) := by omega
          simp only [h4, h5, decide_false, decide_true, cond_false, Bool.true_and]
          rw [while_all (fun i => (i : Int)) (okIm x) (.inr false) (.inl ()) x.Items.length (by simp) (by omega)]
          · cases (List.range x.Items.length).all (okIm x) <;> rfl
          · intro i hi
            have e1 : ((i : Int) < (x.Items.length : Int)) := by omega
            have e2 : 0 ≤ cnt x.Head i := Int.emod_nonneg _ (by omega)
            simp only [e1, decide_true, cond_true, idx_ok (show (0 : Int) ≤ i by omega) e1, Option.bind_some, Int.toNat_natCast, steps_ok hw (show (0 : Int) ≤ i ∧ (i : Int) ≤ 65535 by omega), rem_ok e2 (show (0 : Int) < x.Items.length by omega), w64_succ (show i ≤ 4611686018427387904 by omega)]
            unfold okIm
            cases word (x.Items.getD i 0) <;> cases (x.Items.getD i 0 != 0) <;> cases decide (cnt x.Head i % x.Items.length ≥ cnt x.Head x.Tail) <;> rfl
          · simp
        · have h5 : cnt x.Head x.Tail > x.Items.length := by omega
          simp [h4, h5]
theorem plain_IsRing (x : Ring) (hx : okRing x) : M.l_FnExactIsRing x = some true := by
  unfold M.l_FnExactIsRing
  rw [szRing_ok x hx.1.1, Option.bind_some]
  by_cases h : (1048576 : Int) < x.Items.length
  · simp [h]
  · have h2 : ¬ ((1048576 : Int) - x.Items.length < 0) := by omega
    have ht := toRing_id x (by omega)
    have he := eqRing_refl x (by omega)
    have hs : M.s_IsRing x = some (good x) := by unfold M.s_IsRing; rw [s_good]; rfl
    simp only [h, h2, if_false, decide_false, cond_false, ht, he, hs, i_good, Option.bind_some, beq_self_eq_true, Bool.not_true]
end Go.Proofs.Ytopnablbecepjaa
