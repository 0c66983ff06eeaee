/- Plain laws of the models: no program in sight. -/
import Derived.Test.YtopnablbecepjaaRM
import Derived.Test.YtopnablbecepjaaGxH
set_option linter.unusedVariables false
set_option linter.unusedSimpArgs false
set_option maxHeartbeats 4000000
namespace Go.Proofs.Ytopnablbecepjaa
open Go.Gx
/-! ### Slices of integers -/
/-! ### Rings -/
def okRing (x : Ring) : Prop := okL okI x.Items ∧ okI x.Head ∧ okI x.Tail
/-! ### Words, places, counts -/
def word (x : Int) : Bool := decide (0 ≤ x) && decide (x ≤ 65535)
theorem word_spec {x : Int} : word x = true ↔ 0 ≤ x ∧ x ≤ 65535 := by simp [word]
theorem s_word (x : Int) : M.s_l2Word16 x = some (word x) := by
  unfold M.s_l2Word16 M.s_l1In word
  by_cases h : x ≥ 0 <;> simp [h]
theorem i_word (x : Int) : M.i_isWord16 x = some (word x) := by
  unfold M.i_isWord16 M.i_inside word
  by_cases h : x ≥ 0 <;> simp [h]
def pl (x : Int) : Bool := x == 1 || (x == 2 || (x == 4 || x == 8))
theorem pl_cases {x : Int} (h : pl x = true) : x = 1 ∨ x = 2 ∨ x = 4 ∨ x = 8 := by simpa [pl] using h
theorem pl_nat {n : Nat} (h : pl n = true) : n = 1 ∨ n = 2 ∨ n = 4 ∨ n = 8 := by have := pl_cases h; omega
theorem s_places (x : Int) : M.s_l20Places x = some (pl x) := by
  unfold M.s_l20Places pl
  cases h1 : x == 1 <;> cases h2 : x == 2 <;> cases h3 : x == 4 <;> simp
theorem i_places (x : Int) : M.i_arePlaces x = some (pl x) := by
  unfold M.i_arePlaces M.i_inside
  by_cases h : 1 ≤ x ∧ x ≤ 8
  · have h1 : x = 1 ∨ x = 2 ∨ x = 3 ∨ x = 4 ∨ x = 5 ∨ x = 6 ∨ x = 7 ∨ x = 8 := by omega
    rcases h1 with rfl | rfl | rfl | rfl | rfl | rfl | rfl | rfl <;> rfl
  · have h0 : pl x = false := by
      cases hp : pl x with
      | false => rfl
      | true => have := pl_cases hp; omega
    rw [h0]
    by_cases h1 : x ≥ 1
    · have h2 : ¬ (x ≤ 8) := by omega
      simp [h1, h2]
    · simp [h1]
def cnt (a b : Int) : Int := (b - a) % 65536
theorem steps_ok {a b : Int} (ha : 0 ≤ a ∧ a ≤ 65535) (hb : 0 ≤ b ∧ b ≤ 65535) : M.i_stepsTo a b = some (cnt a b) := by
  unfold M.i_stepsTo cnt
  rw [and16, w64_id (by omega) (by omega)]
theorem s_count {x : Ring} (ha : word x.Head = true) (hb : word x.Tail = true) : M.s_l20Count x = some (cnt x.Head x.Tail) := by
  have ha := word_spec.1 ha
  have hb := word_spec.1 hb
  unfold M.s_l20Count cnt
  rw [w64_id (z := x.Tail - x.Head) (by omega) (by omega), w64_id (by omega) (by omega), Int.tmod_eq_emod_of_nonneg (by omega)]
  congr 1
  omega
theorem i_count {x : Ring} (ha : word x.Head = true) (hb : word x.Tail = true) : M.i_Ring_count x = some (cnt x.Head x.Tail) := by
  unfold M.i_Ring_count
  rw [steps_ok (word_spec.1 ha) (word_spec.1 hb)]
  rfl
theorem rem_ok {a n : Int} (h : 0 ≤ a) (hn : 0 < n) : gxRem a n = some (a % n) := by
  unfold gxRem
  rw [if_neg (by omega), Int.tmod_eq_emod_of_nonneg h]
theorem idx_ok {xs : List Int} {i : Int} (h0 : 0 ≤ i) (h : i < xs.length) : gxIdx xs i = some (xs.getD i.toNat 0) := by
  unfold gxIdx
  rw [if_pos h0, List.getD_eq_getElem?_getD, List.getElem?_eq_getElem (by omega)]
  rfl
theorem makeRing_eq (a b : Int) : ∃ r, M.s_MakeRing a b = some r ∧ M.i_MakeRing a b = some r ∧ r.1.Items.length ≤ 8 := by
  unfold M.s_MakeRing M.i_MakeRing
  simp only [s_places, i_places, s_word, i_word, Option.bind_some]
  cases h1 : pl a with
  | false => exact ⟨_, rfl, rfl, by simp⟩
  | true => cases h2 : word b with
    | false => exact ⟨_, rfl, rfl, by simp⟩
    | true =>
      obtain ⟨n, rfl, hn⟩ : ∃ n : Nat, a = n ∧ n ≤ 8 := ⟨a.toNat, by have := pl_cases h1; omega, by have := pl_cases h1; omega⟩
      simp only [Bool.not_true, cond_false, Option.bind_some, gxMake_nat (show n * 8 ≤ 140737488355328 by omega)]
      exact ⟨_, rfl, rfl, by simpa using hn⟩
/-! ### Is it a ring? -/
theorem while_all {σ ρ : Type} {body : σ → Option (σ ⊕ ρ)} {s0 : σ} (st : Nat → σ) (ok : Nat → Bool) (bad r : ρ) (n : Nat) (h0 : s0 = st 0) (hn : n ≤ 4611686018427387904) (h : ∀ i, i < n → body (st i) = some (bif ok i then .inl (st (i + 1)) else .inr bad)) (he : body (st n) = some (.inr r)) :
    whileM body gxFuel s0 = some (bif (List.range n).all ok then r else bad) := by
  cases hall : (List.range n).all ok with
  | true =>
    refine while_run st r n h0 hn (fun i hi => ?_) he
    rw [h i hi, List.all_eq_true.1 hall i (List.mem_range.2 hi)]
    rfl
  | false =>
    have hex : ∃ i, i < n ∧ ok i = false := by
      rw [List.all_eq_false] at hall
      obtain ⟨i, hi, hf⟩ := hall
      exact ⟨i, List.mem_range.1 hi, by simpa using hf⟩
    obtain ⟨i, ⟨hi, hf⟩, hmin⟩ := exists_least hex
    refine while_run st bad i h0 (by omega) (fun j hj => ?_) (by rw [h i hi, hf]; rfl)
    have hj' : ok j = true := by
      cases hb : ok j with
      | true => rfl
      | false => have := hmin j ⟨by omega, hb⟩; omega
    rw [h j (by omega), hj']
    rfl
def okS (x : Ring) (i : Nat) : Bool :=
  word (x.Items.getD ((x.Head + i) % x.Items.length).toNat 0) && !(decide ((i : Int) ≥ cnt x.Head x.Tail) && x.Items.getD ((x.Head + i) % x.Items.length).toNat 0 != 0)
def okIm (x : Ring) (j : Nat) : Bool :=
  word (x.Items.getD j 0) && !(x.Items.getD j 0 != 0 && decide (cnt x.Head j % x.Items.length ≥ cnt x.Head x.Tail))
def good (x : Ring) : Bool := pl x.Items.length && (word x.Head && (word x.Tail && (decide (cnt x.Head x.Tail ≤ x.Items.length) && (List.range x.Items.length).all (okS x))))
theorem all_eq {n : Nat} {p q : Nat → Bool} (f g : Nat → Nat) (hf : ∀ i, i < n → f i < n ∧ p i = q (f i)) (hg : ∀ j, j < n → g j < n ∧ p (g j) = q j) : (List.range n).all p = (List.range n).all q := by
  rw [Bool.eq_iff_iff, List.all_eq_true, List.all_eq_true]
  constructor
  · intro h j hj
    have hj := List.mem_range.1 hj
    rw [← (hg j hj).2]
    exact h _ (List.mem_range.2 (hg j hj).1)
  · intro h i hi
    have hi := List.mem_range.1 hi
    rw [(hf i hi).2]
    exact h _ (List.mem_range.2 (hf i hi).1)
theorem okS_okI {x : Ring} (hp : pl x.Items.length = true) (hh : word x.Head = true) : (List.range x.Items.length).all (okS x) = (List.range x.Items.length).all (okIm x) := by
  have hw := word_spec.1 hh
  have hc := pl_nat hp
  refine all_eq (fun i => ((x.Head + i) % x.Items.length).toNat) (fun j => (((j : Int) - x.Head) % x.Items.length).toNat) (fun i hi => ?_) (fun j hj => ?_)
  · have h1 : ((x.Head + i) % x.Items.length).toNat < x.Items.length := by
      rcases hc with h | h | h | h <;> rw [h] <;> omega
    have h2 : cnt x.Head (((x.Head + i) % x.Items.length).toNat : Nat) % x.Items.length = i := by
      unfold cnt
      rcases hc with h | h | h | h <;> rw [h] at hi ⊢ <;> omega
    refine ⟨h1, ?_⟩
    unfold okS okIm
    rw [h2, Bool.and_comm (decide _)]
  · have h1 : (((j : Int) - x.Head) % x.Items.length).toNat < x.Items.length := by
      rcases hc with h | h | h | h <;> rw [h] <;> omega
    have h2 : ((x.Head + (((j : Int) - x.Head) % x.Items.length).toNat) % x.Items.length).toNat = j := by
      rcases hc with h | h | h | h <;> rw [h] <;> omega
    have h3 : cnt x.Head j % x.Items.length = (((j : Int) - x.Head) % x.Items.length).toNat := by
      unfold cnt
      rcases hc with h | h | h | h <;> rw [h] at hj ⊢ <;> omega
    refine ⟨h1, ?_⟩
    unfold okS okIm
    rw [h2, h3, Bool.and_comm (decide _)]
theorem s_good (x : Ring) : M.s_l20Good x = some (good x) := by
  unfold M.s_l20Good good
  simp only [s_places, s_word, Option.bind_some]
  cases h1 : pl x.Items.length with
  | false => simp
  | true => cases h2 : word x.Head with
    | false => simp
    | true => cases h3 : word x.Tail with
      | false => simp
      | true =>
        simp only [s_count h2 h3, Option.bind_some, Bool.not_true, cond_false, Bool.true_and]
        have hc := pl_cases h1
        have hw := word_spec.1 h2
        by_cases h4 : cnt x.Head x.Tail ≤ x.Items.length
        · have h5 : ¬ (cnt x.Head x.Tail > x.Items.length) := by omega
          simp only [h4, h5, decide_false, decide_true, cond_false, Bool.true_and]
          rw [while_all (fun i => (i : Int)) (okS x) (.inr false) (.inl ()) x.Items.length (by simp) (by omega)]
          · cases (List.range x.Items.length).all (okS x) <;> rfl
          · intro i hi
            have e1 : ((i : Int) < (x.Items.length : Int)) := by omega
            have e2 : 0 ≤ (x.Head + i) % x.Items.length := Int.emod_nonneg _ (by omega)
            have e3 : (x.Head + i) % x.Items.length < x.Items.length := Int.emod_lt_of_pos _ (by omega)
            simp only [e1, decide_true, cond_true, w64_id (z := x.Head + i) (by omega) (by omega), rem_ok (show 0 ≤ x.Head + (i : Int) by omega) (show (0 : Int) < x.Items.length by omega), Option.bind_some, idx_ok e2 e3, w64_succ (show i ≤ 4611686018427387904 by omega)]
            unfold okS
            cases word (x.Items.getD ((x.Head + i) % x.Items.length).toNat 0) <;> cases decide ((i : Int) ≥ cnt x.Head x.Tail) <;> cases (x.Items.getD ((x.Head + i) % x.Items.length).toNat 0 != 0) <;> rfl
          · simp
        · have h5 : cnt x.Head x.Tail > x.Items.length := by omega
          simp [h4, h5]
theorem i_good (x : Ring) : M.i_IsRing x = some (good x) := by
  unfold M.i_IsRing good
  simp only [i_places, i_word, Option.bind_some]
  cases h1 : pl x.Items.length with
  | false => simp
  | true => cases h2 : word x.Head with
    | false => simp
    | true => cases h3 : word x.Tail with
      | false => simp
      | true =>
        simp only [i_count h2 h3, Option.bind_some, Bool.not_true, cond_false, Bool.true_and]
        have hc := pl_cases h1
        have hw := word_spec.1 h2
        rw [okS_okI h1 h2]
        by_cases h4 : cnt x.Head x.Tail ≤ x.Items.length
        · have h5 : ¬ (cnt x.Head x.Tail > x.Items.length) := by omega
          simp only [h4, h5, decide_false, decide_true, cond_false, Bool.true_and]
          rw [while_all (fun i => (i : Int)) (okIm x) (.inr false) (.inl ()) x.Items.length (by simp) (by omega)]
          · cases (List.range x.Items.length).all (okIm x) <;> rfl
          · intro i hi
            have e1 : ((i : Int) < (x.Items.length : Int)) := by omega
            have e2 : 0 ≤ cnt x.Head i := Int.emod_nonneg _ (by omega)
            simp only [e1, decide_true, cond_true, idx_ok (show (0 : Int) ≤ i by omega) e1, Option.bind_some, Int.toNat_natCast, steps_ok hw (show (0 : Int) ≤ i ∧ (i : Int) ≤ 65535 by omega), rem_ok e2 (show (0 : Int) < x.Items.length by omega), w64_succ (show i ≤ 4611686018427387904 by omega)]
            unfold okIm
            cases word (x.Items.getD i 0) <;> cases (x.Items.getD i 0 != 0) <;> cases decide (cnt x.Head i % x.Items.length ≥ cnt x.Head x.Tail) <;> rfl
          · simp
        · have h5 : cnt x.Head x.Tail > x.Items.length := by omega
          simp [h4, h5]
/-! ### A ring as its words -/
def lay (n : Nat) (h : Int) (W : List Int) : List Int := (List.range n).map fun (j : Nat) => W.getD (((j : Int) - h) % n).toNat 0
theorem lay_length (n : Nat) (h : Int) (W : List Int) : (lay n h W).length = n := by simp [lay]
theorem lay_at {n : Nat} {h : Int} {W : List Int} {j : Nat} (hj : j < n) : (lay n h W)[j]? = some (W.getD (((j : Int) - h) % n).toNat 0) := by
  simp [lay, hj]
theorem lay_getD {n : Nat} {h : Int} {W : List Int} {i : Nat} (hn : n = 1 ∨ n = 2 ∨ n = 4 ∨ n = 8) (hi : i < n) : (lay n h W).getD ((h + i) % n).toNat 0 = W.getD i 0 := by
  have h1 : ((h + i) % n).toNat < n := by rcases hn with rfl | rfl | rfl | rfl <;> omega
  have h2 : (((((h + i) % n).toNat : Nat) : Int) - h) % n = i := by rcases hn with rfl | rfl | rfl | rfl <;> omega
  rw [List.getD_eq_getElem?_getD, lay_at h1, h2]
  simp
theorem lay_mod {n : Nat} {h : Int} {W : List Int} (hn : n = 1 ∨ n = 2 ∨ n = 4 ∨ n = 8) : lay n (h % 65536) W = lay n h W := by
  unfold lay
  refine List.map_congr_left fun j hj => ?_
  have : ((j : Int) - h % 65536) % n = ((j : Int) - h) % n := by rcases hn with rfl | rfl | rfl | rfl <;> omega
  rw [this]
theorem lay_put {n : Nat} {h w : Int} {W : List Int} (hn : n = 1 ∨ n = 2 ∨ n = 4 ∨ n = 8) (hW : W.length < n) : (lay n h W).set ((h + W.length) % n).toNat w = lay n h (W ++ [w]) := by
  apply List.ext_getElem?
  intro j
  by_cases hj : j < n
  · rw [lay_at hj, List.getElem?_set]
    by_cases he : ((h + W.length) % n).toNat = j
    · rw [if_pos he, if_pos (by rw [lay_length]; omega)]
      have h2 : (((j : Int) - h) % n).toNat = W.length := by subst he; rcases hn with rfl | rfl | rfl | rfl <;> omega
      rw [h2]
      simp
    · rw [if_neg he, lay_at hj]
      have h2 : (((j : Int) - h) % n).toNat ≠ W.length := by intro e; apply he; rcases hn with rfl | rfl | rfl | rfl <;> omega
      generalize (((j : Int) - h) % n).toNat = k at h2
      congr 1
      rw [List.getD_eq_getElem?_getD, List.getD_eq_getElem?_getD, List.getElem?_append]
      split
      · rfl
      · rw [List.getElem?_eq_none (by omega), List.getElem?_eq_none (by simp; omega)]
  · rw [List.getElem?_eq_none (by simp [lay_length]; omega), List.getElem?_eq_none (by rw [lay_length]; omega)]
theorem lay_take {n : Nat} {h w : Int} {W : List Int} (hn : n = 1 ∨ n = 2 ∨ n = 4 ∨ n = 8) (hW : W.length < n) : (lay n h (w :: W)).set (h % n).toNat 0 = lay n (h + 1) W := by
  apply List.ext_getElem?
  intro j
  by_cases hj : j < n
  · rw [lay_at hj, List.getElem?_set]
    by_cases he : (h % n).toNat = j
    · rw [if_pos he, if_pos (by rw [lay_length]; omega)]
      have h2 : (((j : Int) - (h + 1)) % n).toNat = n - 1 := by subst he; rcases hn with rfl | rfl | rfl | rfl <;> omega
      rw [h2, List.getD_eq_getElem?_getD, List.getElem?_eq_none (by omega)]
      rfl
    · rw [if_neg he, lay_at hj]
      have h2 : (((j : Int) - h) % n).toNat = (((j : Int) - (h + 1)) % n).toNat + 1 := by rcases hn with rfl | rfl | rfl | rfl <;> omega
      rw [h2]
      simp
  · rw [List.getElem?_eq_none (by simp [lay_length]; omega), List.getElem?_eq_none (by rw [lay_length]; omega)]
/-- A ring of n places that holds the words W. -/
structure IsR (x : Ring) (n : Nat) (W : List Int) : Prop where
  hn : n = 1 ∨ n = 2 ∨ n = 4 ∨ n = 8
  head : 0 ≤ x.Head ∧ x.Head ≤ 65535
  len : W.length ≤ n
  items : x.Items = lay n x.Head W
  tail : x.Tail = (x.Head + W.length) % 65536
  words : ∀ w ∈ W, word w = true
theorem IsR.n8 {x : Ring} {n : Nat} {W : List Int} (h : IsR x n W) : 1 ≤ n ∧ n ≤ 8 := by have := h.hn; omega
theorem IsR.ilen {x : Ring} {n : Nat} {W : List Int} (h : IsR x n W) : x.Items.length = n := by rw [h.items, lay_length]
theorem IsR.htail {x : Ring} {n : Nat} {W : List Int} (h : IsR x n W) : 0 ≤ x.Tail ∧ x.Tail ≤ 65535 := by rw [h.tail]; omega
theorem IsR.cnt {x : Ring} {n : Nat} {W : List Int} (h : IsR x n W) : Proofs.Ytopnablbecepjaa.cnt x.Head x.Tail = W.length := by
  have := h.n8
  have := h.len
  rw [h.tail]
  unfold Proofs.Ytopnablbecepjaa.cnt
  omega
theorem good_isR {x : Ring} (h : good x = true) : ∃ W, IsR x x.Items.length W := by
  unfold good at h
  simp only [Bool.and_eq_true, decide_eq_true_eq] at h
  obtain ⟨h1, h2, h3, h4, h5⟩ := h
  have hn := pl_nat h1
  have hh := word_spec.1 h2
  have ht := word_spec.1 h3
  have hc0 : 0 ≤ cnt x.Head x.Tail := Int.emod_nonneg _ (by omega)
  obtain ⟨c, hc⟩ : ∃ c : Nat, cnt x.Head x.Tail = c := ⟨(cnt x.Head x.Tail).toNat, by omega⟩
  rw [hc] at h4
  have hok : ∀ i, i < x.Items.length → okS x i = true := fun i hi => List.all_eq_true.1 h5 i (List.mem_range.2 hi)
  refine ⟨(List.range c).map fun i => x.Items.getD ((x.Head + (i : Nat)) % x.Items.length).toNat 0, hn, hh, by simp; omega, ?_, ?_, ?_⟩
  · apply List.ext_getElem?
    intro j
    by_cases hj : j < x.Items.length
    · rw [lay_at hj, List.getElem?_eq_getElem hj]
      congr 1
      obtain ⟨i, hi⟩ : ∃ i : Nat, (((j : Int) - x.Head) % x.Items.length).toNat = i := ⟨_, rfl⟩
      have h6 : i < x.Items.length := by rw [← hi]; rcases hn with h | h | h | h <;> rw [h] <;> omega
      have h7 : ((x.Head + (i : Nat)) % x.Items.length).toNat = j := by
        rw [← hi]; rcases hn with h | h | h | h <;> rw [h] at hj ⊢ <;> omega
      rw [hi, List.getD_eq_getElem?_getD]
      by_cases hic : i < c
      · rw [List.getElem?_map, List.getElem?_range hic]
        simp only [Option.map_some, Option.getD_some, h7]
        rw [List.getD_eq_getElem?_getD, List.getElem?_eq_getElem hj]
        rfl
      · rw [List.getElem?_eq_none (by simp; omega)]
        have h8 := hok i h6
        unfold okS at h8
        rw [h7, hc, List.getD_eq_getElem?_getD, List.getElem?_eq_getElem hj] at h8
        have h9 : ((i : Int) ≥ (c : Int)) := by omega
        simp [h9] at h8
        simpa using h8.2
    · rw [List.getElem?_eq_none (by omega), List.getElem?_eq_none (by rw [lay_length]; omega)]
  · simp only [List.length_map, List.length_range]
    unfold cnt at hc
    omega
  · intro w hw
    obtain ⟨i, hi, rfl⟩ := List.mem_map.1 hw
    have hi := List.mem_range.1 hi
    have h8 := hok i (by omega)
    unfold okS at h8
    rw [Bool.and_eq_true] at h8
    exact h8.1
theorem IsR.at_ {x : Ring} {n : Nat} {W : List Int} (h : IsR x n W) {i : Nat} (hi : i < n) : gxRem (w64 (x.Head + i)) x.Items.length = some ((x.Head + i) % n) ∧ gxIdx x.Items ((x.Head + i) % n) = some (W.getD i 0) := by
  have h8 := h.n8
  have hh := h.head
  have e1 : 0 ≤ (x.Head + (i : Int)) % n := Int.emod_nonneg _ (by omega)
  have e2 : (x.Head + (i : Int)) % n < n := Int.emod_lt_of_pos _ (by omega)
  refine ⟨?_, ?_⟩
  · rw [w64_id (by omega) (by omega), h.ilen]
    exact rem_ok (by omega) (by omega)
  · rw [idx_ok e1 (by rw [h.ilen]; exact e2), h.items, lay_getD h.hn hi]
theorem IsR.s_cnt {x : Ring} {n : Nat} {W : List Int} (h : IsR x n W) : M.s_l20Count x = some (W.length : Int) := by
  rw [s_count (word_spec.2 h.head) (word_spec.2 h.htail), h.cnt]
theorem IsR.i_cnt {x : Ring} {n : Nat} {W : List Int} (h : IsR x n W) : M.i_Ring_count x = some (W.length : Int) := by
  rw [i_count (word_spec.2 h.head) (word_spec.2 h.htail), h.cnt]
theorem IsR.s_words {x : Ring} {n : Nat} {W : List Int} (h : IsR x n W) : M.s_l20Words x = some W := by
  have h8 := h.n8
  have hl := h.len
  unfold M.s_l20Words
  rw [while_run (fun i => (W.take i, (i : Int))) W W.length (by simp) (by omega)]
  · rfl
  · intro i hi
    have e1 : ((i : Int) < (W.length : Int)) := by omega
    simp only [h.s_cnt, Option.bind_some, e1, decide_true, cond_true, (h.at_ (show i < n by omega)).1, (h.at_ (show i < n by omega)).2, gxApp_ok (show ((W.take i).length + [W.getD i 0].length) * 8 ≤ 140737488355328 by simp; omega), w64_succ (show i ≤ 4611686018427387904 by omega)]
    rw [List.take_add_one, List.getD_eq_getElem?_getD, List.getElem?_eq_getElem hi]
    rfl
  · simp only [h.s_cnt, Option.bind_some, Int.lt_irrefl, decide_false, cond_false, List.take_length]
theorem IsR.i_words {x : Ring} {n : Nat} {W : List Int} (h : IsR x n W) : M.i_ringWords x = some W := by
  have h8 := h.n8
  have hl := h.len
  unfold M.i_ringWords
  rw [h.i_cnt, Option.bind_some, while_run (fun i => (W.take i, (i : Int))) W W.length (by simp) (by omega)]
  · rfl
  · intro i hi
    have e1 : ((i : Int) < (W.length : Int)) := by omega
    simp only [Option.bind_some, e1, decide_true, cond_true, (h.at_ (show i < n by omega)).1, (h.at_ (show i < n by omega)).2, gxApp_ok (show ((W.take i).length + [W.getD i 0].length) * 8 ≤ 140737488355328 by simp; omega), w64_succ (show i ≤ 4611686018427387904 by omega)]
    rw [List.take_add_one, List.getD_eq_getElem?_getD, List.getElem?_eq_getElem hi]
    rfl
  · simp only [Int.lt_irrefl, decide_false, cond_false, List.take_length]
theorem words_eq (x : Ring) : ∃ r, M.s_RingWords x = some r ∧ M.i_RingWords x = some r ∧ r.1.length ≤ 8 := by
  unfold M.s_RingWords M.i_RingWords
  simp only [s_good, i_good, Option.bind_some]
  cases hg : good x with
  | false => exact ⟨_, rfl, rfl, by simp⟩
  | true =>
    obtain ⟨W, h⟩ := good_isR hg
    simp only [h.s_words, h.i_words, Option.bind_some, Bool.not_true, cond_false]
    exact ⟨_, rfl, rfl, by have := h.len; have := h.n8; simp; omega⟩
end Go.Proofs.Ytopnablbecepjaa
