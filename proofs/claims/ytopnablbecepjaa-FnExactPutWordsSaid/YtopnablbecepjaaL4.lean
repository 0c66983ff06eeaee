/- Plain laws of the models: no program in sight. -/
import Derived.Test.YtopnablbecepjaaM
import Derived.Test.YtopnablbecepjaaL3
set_option linter.unusedVariables false
set_option linter.unusedSimpArgs false
set_option maxHeartbeats 4000000
namespace Go.Proofs.Ytopnablbecepjaa
open Go.Gx
/-! ### Words taken -/
theorem IsR.take {x : Ring} {n : Nat} {W : List Int} (h : IsR x n W) (i : Nat) : ∀ w ∈ W.drop i, word w = true := fun w hw => h.words w (List.mem_of_mem_drop hw)
theorem s_take {x : Ring} {n : Nat} {W : List Int} (h : IsR x n W) {m : Int} (hm : 0 ≤ m) (hg : good x = true) : M.s_TakeWords x m = some (rg n (x.Head + (min m.toNat W.length : Nat)) (W.drop (min m.toNat W.length)), W.take (min m.toNat W.length), true) := by
  have h8 := h.n8
  have hl := h.len
  have hx := h.eq_rg
  obtain ⟨k, hk⟩ : ∃ k, min m.toNat W.length = k := ⟨_, rfl⟩
  rw [hk]
  unfold M.s_TakeWords
  have hneg : ¬ (m < 0) := by omega
  simp only [s_good, hg, hneg, Option.bind_some, Bool.not_true, cond_false, decide_false, h.own]
  have hrg : ∀ i, i ≤ W.length → (⟨lay n (x.Head + (i : Nat)) (W.drop i), (x.Head + (i : Nat)) % 65536, x.Tail⟩ : Ring) = rg n (x.Head + (i : Nat)) (W.drop i) := fun i hi => by
    simp only [rg, Ring.mk.injEq, true_and]
    rw [h.tail, List.length_drop]
    omega
  have hR : ∀ i, IsR (rg n (x.Head + (i : Nat)) (W.drop i)) n (W.drop i) := fun i => rg_isR h.hn (by simp; omega) (h.take i)
  rw [while_run (fun i => (W.take i, lay n (x.Head + (i : Nat)) (W.drop i), (x.Head + (i : Nat)) % 65536, x.Tail)) (W.take k, lay n (x.Head + (k : Nat)) (W.drop k), (x.Head + (k : Nat)) % 65536, x.Tail) k ?_ (by omega)]
  · simp only [Option.bind_some, hrg k (by omega)]
  · intro i hi
    have hlt : (W.take i).length = i := by simp; omega
    have e0 : ((i : Int) < m) := by omega
    have e1 : (((W.drop i).length : Int) > 0) := by simp; omega
    have hd : W.drop i = W[i]'(by omega) :: W.drop (i + 1) := List.drop_eq_getElem_cons (by omega)
    have ht : W.take i ++ [W[i]'(by omega)] = W.take (i + 1) := by rw [List.take_add_one, List.getElem?_eq_getElem (by omega)]; rfl
    have htk := take_ok (h := x.Head + (i : Nat)) (w := W[i]'(by omega)) (W := W.drop (i + 1)) h.hn (by rw [← hd]; simp; omega) (by rw [← hd]; exact h.take i)
    rw [← hd] at htk
    simp only [hlt, e0, decide_true, cond_true, Option.bind_some, hrg i (by omega), (hR i).s_cnt, e1, htk, gxApp_ok (show ((W.take i).length + [W[i]'(by omega)].length) * 8 ≤ 140737488355328 by simp; omega), ht]
    simp only [rg, List.length_drop, h.tail]
    have e2 : x.Head + (i : Int) + 1 = x.Head + ((i + 1 : Nat) : Int) := by omega
    have e3 : (x.Head + ((i + 1 : Nat) : Int) + ((W.length - (i + 1) : Nat) : Int)) % 65536 = (x.Head + W.length) % 65536 := by congr 1; omega
    rw [e2, e3]
  · have hlt : (W.take k).length = k := by simp; omega
    simp only [hlt, hrg k (by omega), (hR k).s_cnt, Option.bind_some]
    by_cases e0 : ((k : Int) < m)
    · have e1 : ¬ (((W.drop k).length : Int) > 0) := by simp; omega
      simp only [e0, e1, decide_true, decide_false, cond_true, cond_false, Option.bind_some]
    · simp only [e0, decide_false, cond_false, Option.bind_some]
  · simp only [List.take_zero, List.drop_zero, Int.natCast_zero, Int.add_zero]
    rw [← h.items, Int.emod_eq_of_lt h.head.1 (by have := h.head; omega)]
theorem i_take {x : Ring} {n : Nat} {W : List Int} (h : IsR x n W) {m : Int} (hm : 0 ≤ m) (hg : good x = true) : M.i_TakeWords x m = some (rg n (x.Head + (min m.toNat W.length : Nat)) (W.drop (min m.toNat W.length)), W.take (min m.toNat W.length), true) := by
  have h8 := h.n8
  have hl := h.len
  have hh := h.head
  obtain ⟨k, hk⟩ : ∃ k, min m.toNat W.length = k := ⟨_, rfl⟩
  rw [hk]
  have hmin : gxMin m (W.length : Int) = (k : Int) := by
    unfold gxMin
    split <;> omega
  have hneg : ¬ (m < 0) := by omega
  have hs1 : gxSlice W (k : Int) (W.length : Int) = some (W.drop k) := by
    unfold gxSlice
    rw [if_pos ⟨by omega, by omega, by omega⟩]
    simp
  have hs2 : gxSlice W 0 (k : Int) = some (W.take k) := by
    unfold gxSlice
    rw [if_pos ⟨by omega, by omega, by omega⟩]
    simp
  have hrg : rg n ((x.Head + (k : Nat)) % 65536) (W.drop k) = rg n (x.Head + (k : Nat)) (W.drop k) := by
    simp only [rg, lay_mod h.hn, Ring.mk.injEq, true_and]
    omega
  unfold M.i_TakeWords
  simp only [i_good, hg, hneg, Option.bind_some, Bool.not_true, cond_false, decide_false, h.i_words, h.i_cnt, hmin, hs1, hs2, and16, w64_id (z := x.Head + (k : Int)) (by omega) (by omega), h.ilen, ringOf_ok (h := (x.Head + (k : Nat)) % 65536) (W := W.drop k) h.hn (by omega) (by simp; omega), hrg, copyInts_ok (W.take k) (by simp; omega)]
theorem takeWords_eq (x : Ring) (m : Int) : ∃ r, M.s_TakeWords x m = some r ∧ M.i_TakeWords x m = some r ∧ r.1.Items.length ≤ 8 ∧ r.2.1.length ≤ 8 := by
  cases hg : good x with
  | false =>
    unfold M.s_TakeWords M.i_TakeWords
    simp only [s_good, i_good, hg, Option.bind_some, Bool.not_false, cond_true]
    exact ⟨_, rfl, rfl, by simp, by simp⟩
  | true =>
    by_cases hm : 0 ≤ m
    · obtain ⟨W, h⟩ := good_isR hg
      have h8 := h.n8
      have hl := h.len
      refine ⟨_, s_take h hm hg, i_take h hm hg, ?_, ?_⟩
      · simp only [rg, lay_length]; omega
      · simp; omega
    · unfold M.s_TakeWords M.i_TakeWords
      have hneg : m < 0 := by omega
      simp only [s_good, i_good, hg, hneg, Option.bind_some, Bool.not_true, cond_false, decide_true, cond_true]
      exact ⟨_, rfl, rfl, by simp, by simp⟩
theorem plain_TakeWords (x : Ring) (m : Int) (hx : okRing x) (_ : okI m) : M.l_FnExactTakeWords x m = some true := by
  unfold M.l_FnExactTakeWords
  rw [szRing_ok x hx.1.1, Option.bind_some]
  by_cases h : (1048576 : Int) < x.Items.length
  · simp [h]
  · have h2 : ¬ ((1048576 : Int) - x.Items.length < 0) := by omega
    obtain ⟨r, h3, h4, h5, h6⟩ := takeWords_eq x m
    have ht := toRing_id x (by omega)
    have he := eqRing_refl x (by omega)
    have he1 := eqRing_refl r.1 (by omega)
    have he2 := eqIntS_refl r.2.1 (by omega)
    have hm : M.l_markRing x 1 = _ := markRing_ok x 1 (by omega)
    have hm1 : M.l_markRing r.1 1 = _ := markRing_ok r.1 1 (by omega)
    have hm2 := markIntS_ok r.2.1 (1 + r.1.Items.length) (by omega)
    have hh1 : M.l_heldRing ⟨marks 1 r.1.Items.length, r.1.Head, r.1.Tail⟩ 1 = _ := heldRing_ok 1 r.1.Items.length _ _ (by omega)
    have hh2 := heldIntS_ok (1 + r.1.Items.length) r.2.1.length (by omega)
    have hn1 : ¬ (((1 + x.Items.length : Nat) : Int) < 0) := by omega
    have hn2 : ¬ (((1 + r.1.Items.length : Nat) : Int) < 0) := by omega
    have hn3 : ¬ (((1 + r.1.Items.length + r.2.1.length : Nat) : Int) < 0) := by omega
    simp only [h, h2, h3, h4, ht, he, he1, he2, hm, hm1, hm2, hh1, hh2, hn1, hn2, hn3, if_false, Option.bind_some, Bool.not_true, cond_false, beq_self_eq_true, bne_self_eq_false, decide_false]
theorem takeWord_eq (x : Ring) : ∃ r, M.s_TakeWord x = some r ∧ M.i_TakeWord x = some r ∧ r.1.Items.length ≤ 8 := by
  cases hg : good x with
  | false =>
    have h1 : M.i_TakeWords x 1 = some (⟨[], 0, 0⟩, [], false) := by unfold M.i_TakeWords; simp [i_good, hg]
    unfold M.s_TakeWord M.i_TakeWord
    simp only [s_good, hg, h1, Option.bind_some, Bool.not_false, cond_true]
    exact ⟨_, rfl, rfl, by simp⟩
  | true =>
    obtain ⟨W, h⟩ := good_isR hg
    have h8 := h.n8
    have hl := h.len
    have hi := i_take (m := 1) h (by omega) hg
    unfold M.s_TakeWord M.i_TakeWord
    simp only [s_good, hg, hi, h.s_cnt, Option.bind_some, Bool.not_true, cond_false]
    cases W with
    | nil =>
      simp only [List.length_nil, Nat.min_zero, List.take_nil]
      exact ⟨_, rfl, rfl, by simp⟩
    | cons w W =>
      have htk := take_ok (h := x.Head) (w := w) (W := W) h.hn hl h.words
      rw [← h.eq_rg] at htk
      have hne : (((w :: W).length : Int) == 0) = false := by simp; omega
      have hmin : min (1 : Int).toNat (w :: W).length = 1 := by simp <;> omega
      simp only [htk, hne, hmin, cond_false, Option.bind_some, List.take_succ_cons, List.take_zero, List.length_singleton]
      have hg0 : gxIdx [w] 0 = some w := rfl
      have hne1 : (((1 : Nat) : Int) == 0) = false := rfl
      simp only [hne1, hg0, cond_false, Option.bind_some, List.drop_succ_cons, List.drop_zero]
      exact ⟨_, rfl, rfl, by simp only [rg, lay_length]; omega⟩
theorem plain_TakeWord (x : Ring) (hx : okRing x) : M.l_FnExactTakeWord x = some true := by
  unfold M.l_FnExactTakeWord
  rw [szRing_ok x hx.1.1, Option.bind_some]
  by_cases h : (1048576 : Int) < x.Items.length
  · simp [h]
  · have h2 : ¬ ((1048576 : Int) - x.Items.length < 0) := by omega
    obtain ⟨r, h3, h4, h5⟩ := takeWord_eq x
    have ht := toRing_id x (by omega)
    have he := eqRing_refl x (by omega)
    have he1 := eqRing_refl r.1 (by omega)
    have hm : M.l_markRing x 1 = _ := markRing_ok x 1 (by omega)
    have hm1 : M.l_markRing r.1 1 = _ := markRing_ok r.1 1 (by omega)
    have hh1 : M.l_heldRing ⟨marks 1 r.1.Items.length, r.1.Head, r.1.Tail⟩ 1 = _ := heldRing_ok 1 r.1.Items.length _ _ (by omega)
    have hn1 : ¬ (((1 + x.Items.length : Nat) : Int) < 0) := by omega
    have hn2 : ¬ (((1 + r.1.Items.length : Nat) : Int) < 0) := by omega
    simp only [h, h2, h3, h4, ht, he, he1, hm, hm1, hh1, hn1, hn2, if_false, Option.bind_some, Bool.not_true, cond_false, beq_self_eq_true, bne_self_eq_false, decide_false]
end Go.Proofs.Ytopnablbecepjaa
