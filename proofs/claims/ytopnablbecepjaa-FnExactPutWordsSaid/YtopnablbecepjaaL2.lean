/- Plain laws of the models: no program in sight. -/
import Derived.Test.YtopnablbecepjaaM
import Derived.Test.YtopnablbecepjaaL1
set_option linter.unusedVariables false
set_option linter.unusedSimpArgs false
set_option maxHeartbeats 4000000
namespace Go.Proofs.Ytopnablbecepjaa
open Go.Gx
/-! ### A ring as its words -/
def lay (n : Nat) (h : Int) (W : List Int) : List Int := (List.range n).map fun (j : Nat) => W.getD (((j : Int) - h) % n).toNat 0
theorem lay_length (n : Nat) (h : Int) (W : List Int) : (lay n h W).length = n := by simp [lay]
theorem lay_at {n : Nat} {h : Int} {W : List Int} {j : Nat} (hj : j < n) : (lay n h W)[j]? = some (W.getD (((j : Int) - h) % n).toNat 0) := by
  simp [lay, hj]
theorem lay_getD {n : Nat} {h : Int} {W : List Int} {i : Nat} (hn : n = 1 ∨ n = 2 ∨ n = 4 ∨ n = 8) (hi : i < n) : (lay n h W).getD ((h + i) % n).toNat 0 = W.getD i 0 := by
  have h1 : ((h + i) % n).toNat < n := by rcases hn with rfl | rfl | rfl | rfl <;> omega
  have h2 : (((((h + i) % n).toNat : Nat) : Int) - h) % n = i := by rcases hn with rfl | rfl | rfl | rfl <;> omega
  rw [List.getD_eq_getElem?_getD, lay_at h1, h2]
  simp
theorem lay_mod {n : Nat} {h : Int} {W : List Int} (hn : n = 1 ∨ n = 2 ∨ n = 4 ∨ n = 8) : lay n (h % 65536) W = lay n h W := by
  unfold lay
  refine List.map_congr_left fun j hj => ?_
  have : ((j : Int) - h % 65536) % n = ((j : Int) - h) % n := by rcases hn with rfl | rfl | rfl | rfl <;> omega
  rw [this]
theorem lay_put {n : Nat} {h w : Int} {W : List Int} (hn : n = 1 ∨ n = 2 ∨ n = 4 ∨ n = 8) (hW : W.length < n) : (lay n h W).set ((h + W.length) % n).toNat w = lay n h (W ++ [w]) := by
  apply List.ext_getElem?
  intro j
  by_cases hj : j < n
  · rw [lay_at hj, List.getElem?_set]
    by_cases he : ((h + W.length) % n).toNat = j
    · rw [if_pos he, if_pos (by rw [lay_length]; omega)]
      have h2 : (((j : Int) - h) % n).toNat = W.length := by subst he; rcases hn with rfl | rfl | rfl | rfl <;> omega
      rw [h2]
      simp
    · rw [if_neg he, lay_at hj]
      have h2 : (((j : Int) - h) % n).toNat ≠ W.length := by intro e; apply he; rcases hn with rfl | rfl | rfl | rfl <;> omega
      generalize (((j : Int) - h) % n).toNat = k at h2
      congr 1
      rw [List.getD_eq_getElem?_getD, List.getD_eq_getElem?_getD, List.getElem?_append]
      split
      · rfl
      · rw [List.getElem?_eq_none (by omega), List.getElem?_eq_none (by simp; omega)]
  · rw [List.getElem?_eq_none (by simp [lay_length]; omega), List.getElem?_eq_none (by rw [lay_length]; omega)]
theorem lay_take {n : Nat} {h w : Int} {W : List Int} (hn : n = 1 ∨ n = 2 ∨ n = 4 ∨ n = 8) (hW : W.length < n) : (lay n h (w :: W)).set (h % n).toNat 0 = lay n (h + 1) W := by
  apply List.ext_getElem?
  intro j
  by_cases hj : j < n
  · rw [lay_at hj, List.getElem?_set]
    by_cases he : (h % n).toNat = j
    · rw [if_pos he, if_pos (by rw [lay_length]; omega)]
      have h2 : (((j : Int) - (h + 1)) % n).toNat = n - 1 := by subst he; rcases hn with rfl | rfl | rfl | rfl <;> omega
      rw [h2, List.getD_eq_getElem?_getD, List.getElem?_eq_none (by omega)]
      rfl
    · rw [if_neg he, lay_at hj]
      have h2 : (((j : Int) - h) % n).toNat = (((j : Int) - (h + 1)) % n).toNat + 1 := by rcases hn with rfl | rfl | rfl | rfl <;> omega
      rw [h2]
      simp
  · rw [List.getElem?_eq_none (by simp [lay_length]; omega), List.getElem?_eq_none (by rw [lay_length]; omega)]
/-- A ring of n places that holds the words W. -/
structure IsR (x : Ring) (n : Nat) (W : List Int) : Prop where
  hn : n = 1 ∨ n = 2 ∨ n = 4 ∨ n = 8
  head : 0 ≤ x.Head ∧ x.Head ≤ 65535
  len : W.length ≤ n
  items : x.Items = lay n x.Head W
  tail : x.Tail = (x.Head + W.length) % 65536
  words : ∀ w ∈ W, word w = true
theorem IsR.n8 {x : Ring} {n : Nat} {W : List Int} (h : IsR x n W) : 1 ≤ n ∧ n ≤ 8 := by have := h.hn; omega
theorem IsR.ilen {x : Ring} {n : Nat} {W : List Int} (h : IsR x n W) : x.Items.length = n := by rw [h.items, lay_length]
theorem IsR.htail {x : Ring} {n : Nat} {W : List Int} (h : IsR x n W) : 0 ≤ x.Tail ∧ x.Tail ≤ 65535 := by rw [h.tail]; omega
theorem IsR.cnt {x : Ring} {n : Nat} {W : List Int} (h : IsR x n W) : Proofs.Ytopnablbecepjaa.cnt x.Head x.Tail = W.length := by
  have := h.n8
  have := h.len
  rw [h.tail]
  unfold Proofs.Ytopnablbecepjaa.cnt
  omega
theorem good_isR {x : Ring} (h : good x = true) : ∃ W, IsR x x.Items.length W := by
  unfold good at h
  simp only [Bool.and_eq_true, decide_eq_true_eq] at h
  obtain ⟨h1, h2, h3, h4, h5⟩ := h
  have hn := pl_nat h1
  have hh := word_spec.1 h2
  have ht := word_spec.1 h3
  have hc0 : 0 ≤ cnt x.Head x.Tail := Int.emod_nonneg _ (by omega)
  obtain ⟨c, hc⟩ : ∃ c : Nat, cnt x.Head x.Tail = c := ⟨(cnt x.Head x.Tail).toNat, by omega⟩
  rw [hc] at h4
  have hok : ∀ i, i < x.Items.length → okS x i = true := fun i hi => List.all_eq_true.1 h5 i (List.mem_range.2 hi)
  refine ⟨(List.range c).map fun i => x.Items.getD ((x.Head + (i : Nat)) % x.Items.length).toNat 0, hn, hh, by simp; omega, ?_, ?_, ?_⟩
  · apply List.ext_getElem?
    intro j
    by_cases hj : j < x.Items.length
    · rw [lay_at hj, List.getElem?_eq_getElem hj]
      congr 1
      obtain ⟨i, hi⟩ : ∃ i : Nat, (((j : Int) - x.Head) % x.Items.length).toNat = i := ⟨_, rfl⟩
      have h6 : i < x.Items.length := by rw [← hi]; rcases hn with h | h | h | h <;> rw [h] <;> omega
      have h7 : ((x.Head + (i : Nat)) % x.Items.length).toNat = j := by
        rw [← hi]; rcases hn with h | h | h | h <;> rw [h] at hj ⊢ <;> omega
      rw [hi, List.getD_eq_getElem?_getD]
      by_cases hic : i < c
      · rw [List.getElem?_map, List.getElem?_range hic]
        simp only [Option.map_some, Option.getD_some, h7]
        rw [List.getD_eq_getElem?_getD, List.getElem?_eq_getElem hj]
        rfl
      · rw [List.getElem?_eq_none (by simp; omega)]
        have h8 := hok i h6
        unfold okS at h8
        rw [h7, hc, List.getD_eq_getElem?_getD, List.getElem?_eq_getElem hj] at h8
        have h9 : ((i : Int) ≥ (c : Int)) := by omega
        simp [h9] at h8
        simpa using h8.2
    · rw [List.getElem?_eq_none (by omega), List.getElem?_eq_none (by rw [lay_length]; omega)]
  · simp only [List.length_map, List.length_range]
    unfold cnt at hc
    omega
  · intro w hw
    obtain ⟨i, hi, rfl⟩ := List.mem_map.1 hw
    have hi := List.mem_range.1 hi
    have h8 := hok i (by omega)
    unfold okS at h8
    rw [Bool.and_eq_true] at h8
    exact h8.1
theorem IsR.at_ {x : Ring} {n : Nat} {W : List Int} (h : IsR x n W) {i : Nat} (hi : i < n) : gxRem (w64 (x.Head + i)) x.Items.length = some ((x.Head + i) % n) ∧ gxIdx x.Items ((x.Head + i) % n) = some (W.getD i 0) := by
  have h8 := h.n8
  have hh := h.head
  have e1 : 0 ≤ (x.Head + (i : Int)) % n := Int.emod_nonneg _ (by omega)
  have e2 : (x.Head + (i : Int)) % n < n := Int.emod_lt_of_pos _ (by omega)
  refine ⟨?_, ?_⟩
  · rw [w64_id (by omega) (by omega), h.ilen]
    exact rem_ok (by omega) (by omega)
  · rw [idx_ok e1 (by rw [h.ilen]; exact e2), h.items, lay_getD h.hn hi]
theorem IsR.s_cnt {x : Ring} {n : Nat} {W : List Int} (h : IsR x n W) : M.s_l20Count x = some (W.length : Int) := by
  rw [s_count (word_spec.2 h.head) (word_spec.2 h.htail), h.cnt]
theorem IsR.i_cnt {x : Ring} {n : Nat} {W : List Int} (h : IsR x n W) : M.i_Ring_count x = some (W.length : Int) := by
  rw [i_count (word_spec.2 h.head) (word_spec.2 h.htail), h.cnt]
theorem IsR.s_words {x : Ring} {n : Nat} {W : List Int} (h : IsR x n W) : M.s_l20Words x = some W := by
  have h8 := h.n8
  have hl := h.len
  unfold M.s_l20Words
  rw [while_run (fun i => (W.take i, (i : Int))) W W.length (by simp) (by omega)]
  · rfl
  · intro i hi
    have e1 : ((i : Int) < (W.length : Int)) := by omega
    simp only [h.s_cnt, Option.bind_some, e1, decide_true, cond_true, (h.at_ (show i < n by omega)).1, (h.at_ (show i < n by omega)).2, gxApp_ok (show ((W.take i).length + [W.getD i 0].length) * 8 ≤ 140737488355328 by simp; omega), w64_succ (show i ≤ 4611686018427387904 by omega)]
    rw [List.take_add_one, List.getD_eq_getElem?_getD, List.getElem?_eq_getElem hi]
    rfl
  · simp only [h.s_cnt, Option.bind_some, Int.lt_irrefl, decide_false, cond_false, List.take_length]
theorem IsR.i_words {x : Ring} {n : Nat} {W : List Int} (h : IsR x n W) : M.i_ringWords x = some W := by
  have h8 := h.n8
  have hl := h.len
  unfold M.i_ringWords
  rw [h.i_cnt, Option.bind_some, while_run (fun i => (W.take i, (i : Int))) W W.length (by simp) (by omega)]
  · rfl
  · intro i hi
    have e1 : ((i : Int) < (W.length : Int)) := by omega
    simp only [Option.bind_some, e1, decide_true, cond_true, (h.at_ (show i < n by omega)).1, (h.at_ (show i < n by omega)).2, gxApp_ok (show ((W.take i).length + [W.getD i 0].length) * 8 ≤ 140737488355328 by simp; omega), w64_succ (show i ≤ 4611686018427387904 by omega)]
    rw [List.take_add_one, List.getD_eq_getElem?_getD, List.getElem?_eq_getElem hi]
    rfl
  · simp only [Int.lt_irrefl, decide_false, cond_false, List.take_length]
theorem words_eq (x : Ring) : ∃ r, M.s_RingWords x = some r ∧ M.i_RingWords x = some r ∧ r.1.length ≤ 8 := by
  unfold M.s_RingWords M.i_RingWords
  simp only [s_good, i_good, Option.bind_some]
  cases hg : good x with
  | false => exact ⟨_, rfl, rfl, by simp⟩
  | true =>
    obtain ⟨W, h⟩ := good_isR hg
    simp only [h.s_words, h.i_words, Option.bind_some, Bool.not_true, cond_false]
    exact ⟨_, rfl, rfl, by have := h.len; have := h.n8; simp; omega⟩
theorem plain_RingWords (x : Ring) (hx : okRing x) : M.l_FnExactRingWords x = some true := by
  unfold M.l_FnExactRingWords
  rw [szRing_ok x hx.1.1, Option.bind_some]
  by_cases h : (1048576 : Int) < x.Items.length
  · simp [h]
  · have h2 : ¬ ((1048576 : Int) - x.Items.length < 0) := by omega
    obtain ⟨r, h3, h4, h5⟩ := words_eq x
    have ht := toRing_id x (by omega)
    have he := eqRing_refl x (by omega)
    have he2 := eqIntS_refl r.1 (by omega)
    have hm : M.l_markRing x 1 = _ := markRing_ok x 1 (by omega)
    have hm2 : M.l_markIntS r.1 1 = _ := markIntS_ok r.1 1 (by omega)
    have hh : M.l_heldIntS (marks 1 r.1.length) 1 = _ := heldIntS_ok 1 r.1.length (by omega)
    have hn1 : ¬ (((1 + x.Items.length : Nat) : Int) < 0) := by omega
    have hn : ¬ (((1 + r.1.length : Nat) : Int) < 0) := by omega
    simp only [h, h2, h3, h4, ht, he, he2, hm, hm2, hh, hn, hn1, if_false, Option.bind_some, Bool.not_true, cond_false, beq_self_eq_true, bne_self_eq_false, decide_false]
end Go.Proofs.Ytopnablbecepjaa
