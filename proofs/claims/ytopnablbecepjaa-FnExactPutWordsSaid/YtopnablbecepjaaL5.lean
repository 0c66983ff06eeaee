/- Plain laws of the models: no program in sight. -/
import Derived.Test.YtopnablbecepjaaM
import Derived.Test.YtopnablbecepjaaL4
set_option linter.unusedVariables false
set_option linter.unusedSimpArgs false
set_option maxHeartbeats 4000000
namespace Go.Proofs.Ytopnablbecepjaa
open Go.Gx
/-! ### Words put -/
theorem puts_run {n : Nat} {h : Int} {W V : List Int} (hn : n = 1 ∨ n = 2 ∨ n = 4 ∨ n = 8) (hl : W.length + V.length ≤ n) (hw : ∀ v ∈ W, word v = true) (hv : ∀ v ∈ V, word v = true) {i : Nat} (hi : i < V.length) :
    M.s_l20Put (rg n h (W ++ V.take i)) V[i] = some (rg n h (W ++ V.take (i + 1)), true) := by
  have ht : V.take i ++ [V[i]] = V.take (i + 1) := by rw [List.take_add_one, List.getElem?_eq_getElem hi]; rfl
  rw [← ht, ← List.append_assoc]
  refine put_ok hn (by simp; omega) (fun v hm => ?_)
  rcases List.mem_append.1 hm with h1 | h1
  · exact hw v h1
  · exact hv v (List.mem_of_mem_take h1)
theorem resize_eq (x : Ring) (p : Int) : ∃ r, M.s_ResizeRing x p = some r ∧ M.i_ResizeRing x p = some r ∧ r.1.Items.length ≤ 8 := by
  unfold M.s_ResizeRing M.i_ResizeRing
  simp only [s_good, i_good, s_places, i_places, Option.bind_some]
  cases hg : good x with
  | false => exact ⟨_, rfl, rfl, by simp⟩
  | true => cases hp : pl p with
    | false => exact ⟨_, rfl, rfl, by simp⟩
    | true =>
      obtain ⟨W, h⟩ := good_isR hg
      have h8 := h.n8
      have hl := h.len
      obtain ⟨q, rfl⟩ : ∃ q : Nat, p = q := ⟨p.toNat, by have := pl_cases hp; omega⟩
      have hq := pl_nat hp
      simp only [h.s_cnt, h.i_cnt, Option.bind_some, Bool.not_true, cond_false]
      by_cases hc : (W.length : Int) > (q : Int)
      · simp only [hc, decide_true, cond_true]
        exact ⟨_, rfl, rfl, by simp⟩
      · simp only [hc, decide_false, cond_false, gxMake_nat (show q * 8 ≤ 140737488355328 by omega), h.s_words, h.i_words, Option.bind_some]
        have h0 : ∀ i, (⟨lay q x.Head (W.take i), x.Head % 65536, (x.Head + (W.take i).length) % 65536⟩ : Ring) = rg q x.Head (W.take i) := fun i => rfl
        refine ⟨(rg q x.Head W, true), ?_, ?_, ?_⟩
        · rw [while_run (fun i => ((i : Int), lay q x.Head (W.take i), x.Head % 65536, (x.Head + (W.take i).length) % 65536)) (lay q x.Head W, x.Head % 65536, (x.Head + W.length) % 65536) W.length ?_ (by omega)]
          · rfl
          · intro i hi
            have e0 : ((i : Int) < (W.length : Int)) := by omega
            have hput := puts_run (h := x.Head) (W := []) (V := W) hq (by simp; omega) (by simp) h.words hi
            simp only [List.nil_append] at hput
            simp only [e0, decide_true, cond_true, gxIdx_nat hi, Option.bind_some, h0, hput, w64_succ (show i ≤ 4611686018427387904 by omega)]
            rfl
          · simp only [Int.lt_irrefl, decide_false, cond_false, List.take_length]
          · have := h.head
            simp only [List.take_zero, lay_nil, List.length_nil, Int.natCast_zero, Int.add_zero, Int.emod_eq_of_lt h.head.1 (show x.Head < 65536 by omega)]
        · rw [ringOf_ok hq h.head (by omega)]
          rfl
        · simp only [rg, lay_length]
          omega
theorem plain_ResizeRing (x : Ring) (m : Int) (hx : okRing x) (_ : okI m) : M.l_FnExactResizeRing x m = some true := by
  unfold M.l_FnExactResizeRing
  rw [szRing_ok x hx.1.1, Option.bind_some]
  by_cases h : (1048576 : Int) < x.Items.length
  · simp [h]
  · have h2 : ¬ ((1048576 : Int) - x.Items.length < 0) := by omega
    obtain ⟨r, h3, h4, h5⟩ := resize_eq x m
    have ht := toRing_id x (by omega)
    have he := eqRing_refl x (by omega)
    have he1 := eqRing_refl r.1 (by omega)
    have hm : M.l_markRing x 1 = _ := markRing_ok x 1 (by omega)
    have hm1 : M.l_markRing r.1 1 = _ := markRing_ok r.1 1 (by omega)
    have hh1 : M.l_heldRing ⟨marks 1 r.1.Items.length, r.1.Head, r.1.Tail⟩ 1 = _ := heldRing_ok 1 r.1.Items.length _ _ (by omega)
    have hn1 : ¬ (((1 + x.Items.length : Nat) : Int) < 0) := by omega
    have hn2 : ¬ (((1 + r.1.Items.length : Nat) : Int) < 0) := by omega
    simp only [h, h2, h3, h4, ht, he, he1, hm, hm1, hh1, hn1, hn2, if_false, Option.bind_some, Bool.not_true, cond_false, beq_self_eq_true, bne_self_eq_false, decide_false]
theorem indexFunc_ok (V : List Int) (h : V.length ≤ 1099511627776) : ∃ r : Int, M.slices_IndexFunc_79__i_PutWords_1 V = some r ∧ (decide (r ≥ 0)) = !(V.all word) := by
  unfold M.slices_IndexFunc_79__i_PutWords_1
  have hb : ∀ (y : Int), M.i_PutWords_1 y = some (!(word y)) := fun y => by unfold M.i_PutWords_1; rw [i_word]; rfl
  cases hall : V.all word with
  | true =>
    refine ⟨-1, ?_, rfl⟩
    rw [while_run (fun i => (i : Int)) (Sum.inl ()) V.length (by simp) (by omega)]
    · rfl
    · intro i hi
      have e0 : ((i : Int) < (V.length : Int)) := by omega
      have hw : word V[i] = true := List.all_eq_true.1 hall _ (List.getElem_mem hi)
      simp only [e0, decide_true, cond_true, gxIdx_nat hi, Option.bind_some, hb, hw, Bool.not_true, cond_false, w64_succ (show i ≤ 4611686018427387904 by omega)]
    · simp only [Int.lt_irrefl, decide_false, cond_false]
  | false =>
    have hex : ∃ i, ∃ hi : i < V.length, word V[i] = false := by
      rw [List.all_eq_false] at hall
      obtain ⟨v, hv, hf⟩ := hall
      obtain ⟨i, hi, rfl⟩ := List.mem_iff_getElem.1 hv
      exact ⟨i, hi, by simpa using hf⟩
    obtain ⟨i, ⟨hi, hf⟩, hmin⟩ := exists_least hex
    refine ⟨(i : Int), ?_, by simp⟩
    rw [while_run (fun i => (i : Int)) (Sum.inr (i : Int)) i (by simp) (by omega)]
    · rfl
    · intro j hj
      have hj' : j < V.length := by omega
      have e0 : ((j : Int) < (V.length : Int)) := by omega
      have hw : word V[j] = true := by
        cases hb : word V[j] with
        | true => rfl
        | false => have := hmin j ⟨hj', hb⟩; omega
      simp only [e0, decide_true, cond_true, gxIdx_nat hj', Option.bind_some, hb, hw, Bool.not_true, cond_false, w64_succ (show j ≤ 4611686018427387904 by omega)]
    · have e0 : ((i : Int) < (V.length : Int)) := by omega
      simp only [e0, decide_true, cond_true, gxIdx_nat hi, Option.bind_some, hb, hf, Bool.not_false, cond_true]
/-- How many words fit. -/
def fit (n : Nat) (W V : List Int) : Nat := min V.length (n - W.length)
theorem i_puts (x : Ring) (V : List Int) (hV : V.length ≤ 1099511627776) : M.i_PutWords x V = if good x = true ∧ V.all word = true then
    some (rg x.Items.length x.Head (((M.i_ringWords x).getD []) ++ V.take (fit x.Items.length ((M.i_ringWords x).getD []) V)), ((fit x.Items.length ((M.i_ringWords x).getD []) V : Nat) : Int), true) else some (⟨[], 0, 0⟩, 0, false) := by
  unfold M.i_PutWords M.slices_ContainsFunc_68__i_PutWords_1
  obtain ⟨r, hr, hr2⟩ := indexFunc_ok V hV
  simp only [i_good, hr, Option.bind_some, hr2]
  cases hg : good x with
  | false => simp
  | true => cases hw : V.all word with
    | false => simp
    | true =>
      obtain ⟨W, h⟩ := good_isR hg
      have h8 := h.n8
      have hl := h.len
      have hmin : gxMin (V.length : Int) (w64 ((x.Items.length : Int) - (W.length : Int))) = (fit x.Items.length W V : Nat) := by
        rw [w64_id (by omega) (by omega)]
        unfold gxMin fit
        split <;> omega
      have hs : gxSlice V 0 ((fit x.Items.length W V : Nat) : Int) = some (V.take (fit x.Items.length W V)) := by
        unfold gxSlice
        rw [if_pos ⟨by omega, by omega, by unfold fit; omega⟩]
        simp
      have hf : fit x.Items.length W V ≤ x.Items.length - W.length := by unfold fit; omega
      simp only [Bool.not_true, cond_false, Option.bind_some, h.i_cnt, h.i_words, hmin, hs, gxApp_ok (show (W.length + (V.take (fit x.Items.length W V)).length) * 8 ≤ 140737488355328 by simp; omega), ringOf_ok (W := W ++ V.take (fit x.Items.length W V)) h.hn h.head (by simp; omega), Option.getD_some]
      simp
theorem putWord_eq (x : Ring) (v : Int) : ∃ r, M.s_PutWord x v = some r ∧ M.i_PutWord x v = some r ∧ r.1.Items.length ≤ 8 := by
  unfold M.s_PutWord M.i_PutWord
  simp only [s_good, s_word, Option.bind_some, i_puts x [v] (by simp)]
  cases hg : good x with
  | false => exact ⟨_, rfl, rfl, by simp⟩
  | true => cases hw : word v with
    | false => exact ⟨_, rfl, by simp [hw], by simp⟩
    | true =>
      obtain ⟨W, h⟩ := good_isR hg
      have h8 := h.n8
      have hl := h.len
      have hx := h.eq_rg
      have hif : (True ∧ [v].all word = true) := ⟨trivial, by simp [hw]⟩
      simp only [if_pos hif, h.i_words, Option.getD_some, Option.bind_some, Bool.not_true, cond_false]
      by_cases hc : W.length < x.Items.length
      · have hput := put_ok (h := x.Head) (w := v) (W := W) h.hn hc h.words
        rw [← hx] at hput
        have hf : fit x.Items.length W [v] = 1 := by unfold fit; simp; omega
        have hne : (((1 : Nat) : Int) == 0) = false := rfl
        simp only [hput, hf, hne, Option.bind_some, Bool.not_true, cond_false]
        exact ⟨_, rfl, rfl, by simp only [rg, lay_length]; omega⟩
      · obtain ⟨y, hy⟩ := put_full (h := x.Head) (w := v) (W := W) h.hn (by omega) h.words
        rw [← hx] at hy
        have hf : fit x.Items.length W [v] = 0 := by unfold fit; simp; omega
        have hne : (((0 : Nat) : Int) == 0) = true := rfl
        simp only [hy, hf, hne, Option.bind_some, Bool.not_false, cond_true]
        exact ⟨_, rfl, rfl, by simp⟩
theorem plain_PutWord (x : Ring) (m : Int) (hx : okRing x) (_ : okI m) : M.l_FnExactPutWord x m = some true := by
  unfold M.l_FnExactPutWord
  rw [szRing_ok x hx.1.1, Option.bind_some]
  by_cases h : (1048576 : Int) < x.Items.length
  · simp [h]
  · have h2 : ¬ ((1048576 : Int) - x.Items.length < 0) := by omega
    obtain ⟨r, h3, h4, h5⟩ := putWord_eq x m
    have ht := toRing_id x (by omega)
    have he := eqRing_refl x (by omega)
    have he1 := eqRing_refl r.1 (by omega)
    have hm : M.l_markRing x 1 = _ := markRing_ok x 1 (by omega)
    have hm1 : M.l_markRing r.1 1 = _ := markRing_ok r.1 1 (by omega)
    have hh1 : M.l_heldRing ⟨marks 1 r.1.Items.length, r.1.Head, r.1.Tail⟩ 1 = _ := heldRing_ok 1 r.1.Items.length _ _ (by omega)
    have hn1 : ¬ (((1 + x.Items.length : Nat) : Int) < 0) := by omega
    have hn2 : ¬ (((1 + r.1.Items.length : Nat) : Int) < 0) := by omega
    simp only [h, h2, h3, h4, ht, he, he1, hm, hm1, hh1, hn1, hn2, if_false, Option.bind_some, Bool.not_true, cond_false, beq_self_eq_true, bne_self_eq_false, decide_false]
theorem putWords_eq (x : Ring) (V : List Int) (hV : V.length ≤ 1099511627776) : ∃ r, M.s_PutWords x V = some r ∧ M.i_PutWords x V = some r ∧ r.1.Items.length ≤ 8 := by
  unfold M.s_PutWords
  simp only [s_good, s_word, Option.bind_some, i_puts x V hV]
  cases hg : good x with
  | false => exact ⟨_, rfl, rfl, by simp⟩
  | true =>
    rw [while_all (fun i => (i : Int)) (fun i => word (V.getD i 0)) (.inr (⟨[], 0, 0⟩, 0, false)) (.inl ()) V.length (by simp) (by omega)]
    · have hall : (List.range V.length).all (fun i => word (V.getD i 0)) = V.all word := by
        rw [Bool.eq_iff_iff, List.all_eq_true, List.all_eq_true]
        constructor
        · intro h v hv
          obtain ⟨i, hi, rfl⟩ := List.mem_iff_getElem.1 hv
          have := h i (List.mem_range.2 hi)
          rwa [List.getD_eq_getElem?_getD, List.getElem?_eq_getElem hi] at this
        · intro h i hi
          have hi := List.mem_range.1 hi
          rw [List.getD_eq_getElem?_getD, List.getElem?_eq_getElem hi]
          exact h _ (List.getElem_mem hi)
      rw [hall]
      cases hw : V.all word with
      | false => exact ⟨_, rfl, by simp, by simp⟩
      | true =>
        obtain ⟨W, h⟩ := good_isR hg
        have h8 := h.n8
        have hl := h.len
        have hh := h.head
        have hx := h.eq_rg
        have hvw : ∀ v ∈ V, word v = true := List.all_eq_true.1 hw
        obtain ⟨k, hk⟩ : ∃ k, fit x.Items.length W V = k := ⟨_, rfl⟩
        have hk1 : k ≤ V.length := by rw [← hk]; unfold fit; omega
        have hk2 : W.length + k ≤ x.Items.length := by rw [← hk]; unfold fit; omega
        have hk3 : k = V.length ∨ W.length + k = x.Items.length := by rw [← hk]; unfold fit; omega
        have hV' : (V.take k).length = k := by simp; omega
        refine ⟨(rg x.Items.length x.Head (W ++ V.take k), (k : Int), true), ?_, by simp [h.i_words, hk], by simp only [rg, lay_length]; omega⟩
        simp only [Bool.not_true, cond_false, cond_true, Option.bind_some, Sum.elim_inl, h.own]
        have h0 : ∀ i, (⟨lay x.Items.length x.Head (W ++ V.take i), x.Head % 65536, (x.Head + (W ++ V.take i).length) % 65536⟩ : Ring) = rg x.Items.length x.Head (W ++ V.take i) := fun i => rfl
        have hrun : ∀ i, i < k → ∀ hi : i < V.length, M.s_l20Put (rg x.Items.length x.Head (W ++ V.take i)) V[i] = some (rg x.Items.length x.Head (W ++ V.take (i + 1)), true) := fun i hik hi => by
          have := puts_run (h := x.Head) (W := W) (V := V.take k) h.hn (by omega) h.words (fun v hv => hvw v (List.mem_of_mem_take hv)) (i := i) (by omega)
          rw [List.take_take, List.take_take, Nat.min_eq_left (by omega), Nat.min_eq_left (by omega)] at this
          simpa using this
        have hinit : ((0 : Int), x.Items, x.Head, x.Tail) = (((0 : Nat) : Int), lay x.Items.length x.Head (W ++ V.take 0), x.Head % 65536, (x.Head + (W ++ V.take 0).length) % 65536) := by
          rw [List.take_zero, List.append_nil, ← h.items, ← h.tail, Int.emod_eq_of_lt h.head.1 (by omega)]
          rfl
        have hstep : ∀ i, i < k → ∀ (b : Int × List Int × Int × Int → Option ((Int × List Int × Int × Int) ⊕ ((List Int × Int × Int) ⊕ (Ring × Int × Bool)))), True := fun _ _ _ => trivial
        by_cases hkV : k = V.length
        · rw [while_run (fun i => ((i : Int), lay x.Items.length x.Head (W ++ V.take i), x.Head % 65536, (x.Head + (W ++ V.take i).length) % 65536)) (.inl (lay x.Items.length x.Head (W ++ V.take k), x.Head % 65536, (x.Head + (W ++ V.take k).length) % 65536)) k hinit (by omega)]
          · simp only [Option.bind_some, Sum.elim_inl, hkV]
            rfl
          · intro i hi
            have hi' : i < V.length := by omega
            have e0 : ((i : Int) < (V.length : Int)) := by omega
            simp only [e0, decide_true, cond_true, gxIdx_nat hi', Option.bind_some, h0, hrun i hi hi', Bool.not_true, cond_false, w64_succ (show i ≤ 4611686018427387904 by omega)]
            rfl
          · have e0 : ¬ ((k : Int) < (V.length : Int)) := by omega
            simp only [e0, decide_false, cond_false]
        · rw [while_run (fun i => ((i : Int), lay x.Items.length x.Head (W ++ V.take i), x.Head % 65536, (x.Head + (W ++ V.take i).length) % 65536)) (.inr (rg x.Items.length x.Head (W ++ V.take k), (k : Int), true)) k hinit (by omega)]
          · simp only [Option.bind_some, Sum.elim_inr]
          · intro i hi
            have hi' : i < V.length := by omega
            have e0 : ((i : Int) < (V.length : Int)) := by omega
            simp only [e0, decide_true, cond_true, gxIdx_nat hi', Option.bind_some, h0, hrun i hi hi', Bool.not_true, cond_false, w64_succ (show i ≤ 4611686018427387904 by omega)]
            rfl
          · have hk' : k < V.length := by omega
            have e0 : ((k : Int) < (V.length : Int)) := by omega
            obtain ⟨y, hy⟩ := put_full (h := x.Head) (w := V[k]) (W := W ++ V.take k) h.hn (by simp; omega) (fun v hv => by
              rcases List.mem_append.1 hv with h1 | h1
              · exact h.words v h1
              · exact hvw v (List.mem_of_mem_take h1))
            simp only [e0, decide_true, cond_true, gxIdx_nat hk', Option.bind_some, h0, hy, Bool.not_false]
    · intro i hi
      have e0 : ((i : Int) < (V.length : Int)) := by omega
      simp only [e0, decide_true, cond_true, gxIdx_nat hi, Option.bind_some, List.getD_eq_getElem?_getD, List.getElem?_eq_getElem hi, Option.getD_some, w64_succ (show i ≤ 4611686018427387904 by omega)]
      cases word V[i] <;> rfl
    · simp only [Int.lt_irrefl, decide_false, cond_false]
theorem plain_PutWords (x : Ring) (V : List Int) (hx : okRing x) (hV : okL okI V) : M.l_FnExactPutWords x V = some true := by
  unfold M.l_FnExactPutWords
  by_cases hv : (V.length : Int) > 1048576
  · simp [hv]
  · simp only [hv, decide_false, cond_false]
    rw [szRing_ok x hx.1.1, Option.bind_some]
    by_cases h : (1048576 : Int) < x.Items.length
    · simp [h]
    · have h2 : ¬ ((1048576 : Int) - x.Items.length < 0) := by omega
      obtain ⟨r, h3, h4, h5⟩ := putWords_eq x V (by omega)
      have ht := toRing_id x (by omega)
      have htV := toIntS_id V (by omega)
      have he := eqRing_refl x (by omega)
      have heV := eqIntS_refl V (by omega)
      have he1 := eqRing_refl r.1 (by omega)
      have hm : M.l_markRing x 1 = _ := markRing_ok x 1 (by omega)
      have hmV := markIntS_ok V (1 + x.Items.length) (by omega)
      have hm1 : M.l_markRing r.1 1 = _ := markRing_ok r.1 1 (by omega)
      have hh1 : M.l_heldRing ⟨marks 1 r.1.Items.length, r.1.Head, r.1.Tail⟩ 1 = _ := heldRing_ok 1 r.1.Items.length _ _ (by omega)
      have hn1 : ¬ (((1 + x.Items.length + V.length : Nat) : Int) < 0) := by omega
      have hn2 : ¬ (((1 + r.1.Items.length : Nat) : Int) < 0) := by omega
      simp only [h, h2, h3, h4, ht, htV, he, heV, he1, hm, hmV, hm1, hh1, hn1, hn2, if_false, Option.bind_some, Bool.not_true, cond_false, beq_self_eq_true, bne_self_eq_false, decide_false]
end Go.Proofs.Ytopnablbecepjaa
