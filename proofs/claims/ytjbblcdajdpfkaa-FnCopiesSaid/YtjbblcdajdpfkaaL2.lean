/- Plain laws of the models: no program in sight. -/
import Derived.Test.YtjbblcdajdpfkaaM
import Derived.Test.YtjbblcdajdpfkaaL1
set_option linter.unusedVariables false
set_option linter.unusedSimpArgs false
set_option maxHeartbeats 4000000
namespace Go.Proofs.Ytjbblcdajdpfkaa
open Go.Gx
theorem fits_more {x : Copying} (h : fits x 1048576) : fits x 1099511627776 := by obtain ⟨a, b, c⟩ := h; exact ⟨by omega, by omega, by omega⟩
theorem fits_total {x : Copying} (h : fits x 1048576) : total x ≤ 3145728 := by obtain ⟨a, b, c⟩ := h; unfold total; omega
theorem memy_len {V : List Int} (h : memy V = true) : 1 ≤ V.length ∧ V.length ≤ 12 := by
  simp [memy] at h; omega
/-! ### A copy begun -/
theorem own_ok (xs : List Int) (h : xs.length ≤ 1099511627776) : M.s_l1Own xs = some xs := by
  unfold M.s_l1Own
  rw [gxApp_ok (by simp; omega)]
  rfl
theorem copyInts_ok (xs : List Int) (h : xs.length ≤ 1099511627776) : M.i_copyInts xs = some xs := by
  unfold M.i_copyInts
  rw [gxApp_ok (by simp; omega)]
  rfl
theorem start_eq (V : List Int) (hV : V.length ≤ 1048576) : ∃ r, M.s_StartCopy V = some r ∧ M.i_StartCopy V = some r ∧ fits r.1 1048576 := by
  unfold M.s_StartCopy M.i_StartCopy
  simp only [s_memory V (by omega), i_memory V (by omega), Option.bind_some]
  cases h : memy V with
  | false => exact ⟨_, rfl, rfl, by simp [fits]⟩
  | true =>
    have hl := memy_len h
    simp only [own_ok V (by omega), copyInts_ok V (by omega), gxMake_nat (show V.length * 8 ≤ 140737488355328 by omega), Option.bind_some, Bool.not_true, cond_false]
    refine ⟨(⟨V, List.replicate V.length 0, List.replicate V.length true⟩, true), ?_, ?_, ⟨hV, by simp; omega, by simp; omega⟩⟩ <;>
    · rw [while_run (fun i => ((i : Int), List.replicate i true)) (List.replicate V.length true) V.length (by simp) (by omega)]
      · rfl
      · intro i hi
        have e0 : ((i : Int) < (V.length : Int)) := by omega
        simp only [e0, decide_true, cond_true, gxApp_ok (show ((List.replicate i true).length + [true].length) * 1 ≤ 140737488355328 by simp; omega), Option.bind_some, w64_succ (show i ≤ 4611686018427387904 by omega)]
        rw [List.replicate_succ', ]
      · simp only [Int.lt_irrefl, decide_false, cond_false]
theorem plain_StartCopy (V : List Int) (hx : okL okI V) : M.l_FnExactStartCopy V = some true := by
  unfold M.l_FnExactStartCopy
  by_cases hv : (V.length : Int) > 1048576
  · simp [hv]
  · obtain ⟨r, h3, h4, h5⟩ := start_eq V (by omega)
    have ht := toIntS_id V (by omega)
    have he := eqIntS_refl V (by omega)
    have he1 := eqCopying_refl r.1 (fits_more h5)
    have htot := fits_total h5
    have hm : M.l_markIntS V 1 = _ := markIntS_ok V 1 (by omega)
    have hm1 : M.l_markCopying r.1 1 = _ := markCopying_ok r.1 1 (by omega)
    have hh1 : M.l_heldCopying ⟨(marksC r.1 1).Memory, (marksC r.1 1).Copy, (marksC r.1 1).Dirty⟩ 1 = _ := heldCopying_ok r.1 1 (by omega)
    have hn1 : ¬ (((1 + V.length : Nat) : Int) < 0) := by omega
    have hn2 : ¬ (((1 + total r.1 : Nat) : Int) < 0) := by omega
    simp only [hv, h3, h4, ht, he, he1, hm, hm1, hh1, hn1, hn2, if_false, Option.bind_some, Bool.not_true, cond_false, beq_self_eq_true, bne_self_eq_false, decide_false]
/-! ### Dirty words -/
def dl (D : List Bool) : Nat → List Int
  | 0 => []
  | i + 1 => dl D i ++ (bif D.getD i false then [(i : Int)] else [])
theorem dl_length (D : List Bool) : ∀ i, (dl D i).length ≤ i
  | 0 => by simp [dl]
  | i + 1 => by
    have := dl_length D i
    unfold dl
    cases D.getD i false <;> simp <;> omega
theorem i_dirty (x : Copying) (h : x.Dirty.length ≤ 1048576) : M.i_dirtyWords x = some (dl x.Dirty x.Dirty.length) := by
  unfold M.i_dirtyWords
  rw [while_run (fun i => (dl x.Dirty i, (i : Int))) (dl x.Dirty x.Dirty.length) x.Dirty.length (by simp [dl]) (by omega)]
  · rfl
  · intro i hi
    have e0 : ((i : Int) < (x.Dirty.length : Int)) := by omega
    have hl := dl_length x.Dirty i
    have hd : dl x.Dirty (i + 1) = dl x.Dirty i ++ (bif x.Dirty[i] then [(i : Int)] else []) := by
      show dl x.Dirty i ++ (bif x.Dirty.getD i false then [(i : Int)] else []) = _
      rw [List.getD_eq_getElem?_getD, List.getElem?_eq_getElem hi]
      rfl
    simp only [e0, decide_true, cond_true, gxIdx_nat hi, Option.bind_some, w64_succ (show i ≤ 4611686018427387904 by omega), gxApp_ok (show ((dl x.Dirty i).length + [(i : Int)].length) * 8 ≤ 140737488355328 by simp; omega), hd]
    cases x.Dirty[i] <;> simp
  · simp only [Int.lt_irrefl, decide_false, cond_false]
theorem s_dirty (x : Copying) (h : x.Dirty.length ≤ 1048576) : M.s_l19Dirty x = some (dl x.Dirty x.Dirty.length) := i_dirty x h
theorem dirty_eq (x : Copying) (h : fits x 1048576) : ∃ r, M.s_DirtyWords x = some r ∧ M.i_DirtyWords x = some r ∧ r.1.length ≤ 1048576 := by
  unfold M.s_DirtyWords M.i_DirtyWords
  simp only [s_good x h, i_good x h, s_dirty x h.2.2, i_dirty x h.2.2, Option.bind_some]
  cases isC x with
  | false => exact ⟨_, rfl, rfl, by simp⟩
  | true => exact ⟨_, rfl, rfl, by have := dl_length x.Dirty x.Dirty.length; have := h.2.2; simp; omega⟩
theorem plain_DirtyWords (x : Copying) (hx : okCopying x) : M.l_FnExactDirtyWords x = some true := by
  obtain ⟨q, hr, hf⟩ := szCopying_ok x hx
  unfold M.l_FnExactDirtyWords
  rw [hr, Option.bind_some]
  by_cases h : q < 0
  · simp [h]
  · have hfit := hf (by omega)
    obtain ⟨r, h3, h4, h5⟩ := dirty_eq x hfit
    have htot := fits_total hfit
    have ht := toCopying_id x (fits_more hfit)
    have he := eqCopying_refl x (fits_more hfit)
    have he2 := eqIntS_refl r.1 (by omega)
    have hm : M.l_markCopying x 1 = _ := markCopying_ok x 1 (by omega)
    have hm2 : M.l_markIntS r.1 1 = _ := markIntS_ok r.1 1 (by omega)
    have hh : M.l_heldIntS (marks 1 r.1.length) 1 = _ := heldIntS_ok 1 r.1.length (by omega)
    have hn1 : ¬ (((1 + total x : Nat) : Int) < 0) := by omega
    have hn2 : ¬ (((1 + r.1.length : Nat) : Int) < 0) := by omega
    simp only [h, h3, h4, ht, he, he2, hm, hm2, hh, hn1, hn2, if_false, Option.bind_some, Bool.not_true, cond_false, beq_self_eq_true, bne_self_eq_false, decide_false]
/-! ### A word stored -/
theorem s_own (x : Copying) (h : fits x 1048576) : M.s_l19Own x = some x := by
  obtain ⟨a, b, c⟩ := h
  unfold M.s_l19Own
  rw [own_ok x.Memory (by omega), Option.bind_some, own_ok x.Copy (by omega), Option.bind_some, gxApp_ok (by simp; omega)]
  rfl
theorem i_new (x : Copying) (h : fits x 1048576) : M.i_newCopying x = some x := by
  obtain ⟨a, b, c⟩ := h
  unfold M.i_newCopying
  rw [copyInts_ok x.Memory (by omega), Option.bind_some, copyInts_ok x.Copy (by omega), Option.bind_some, gxApp_ok (by simp; omega)]
  rfl
def canStore (x : Copying) (p : Store) : Bool := (decide (0 ≤ p.Word) && decide (p.Word ≤ w64 ((x.Memory.length : Int) - 1))) && word p.Value
theorem s_canStore (x : Copying) (p : Store) : M.s_l19Store x p = some (canStore x p) := by
  unfold M.s_l19Store canStore
  simp only [s_in, s_word, Option.bind_some]
  cases (decide (0 ≤ p.Word) && decide (p.Word ≤ w64 ((x.Memory.length : Int) - 1))) <;> rfl
theorem i_canStore (x : Copying) (p : Store) : M.i_isStore x p = some (canStore x p) := by
  unfold M.i_isStore canStore
  simp only [i_in, i_word, Option.bind_some]
  cases (decide (0 ≤ p.Word) && decide (p.Word ≤ w64 ((x.Memory.length : Int) - 1))) <;> rfl
def put (x : Copying) (p : Store) : Copying := ⟨x.Memory.set p.Word.toNat p.Value, x.Copy, x.Dirty.set p.Word.toNat true⟩
theorem isC_lens {x : Copying} (h : isC x = true) : 1 ≤ x.Memory.length ∧ x.Memory.length ≤ 12 ∧ x.Copy.length = x.Memory.length ∧ x.Dirty.length = x.Memory.length := by
  unfold isC at h
  simp only [Bool.and_eq_true, beq_iff_eq] at h
  have := memy_len h.1
  omega
theorem gxIdx_in {α : Type} {xs : List α} {i : Int} (h0 : 0 ≤ i) (h : i < xs.length) : ∃ y, gxIdx xs i = some y := by
  unfold gxIdx
  rw [if_pos h0, List.getElem?_eq_getElem (by omega)]
  exact ⟨_, rfl⟩
theorem canStore_in {x : Copying} {p : Store} (hl : 1 ≤ x.Memory.length ∧ x.Memory.length ≤ 12 ∧ x.Copy.length = x.Memory.length ∧ x.Dirty.length = x.Memory.length) (hc : canStore x p = true) : 0 ≤ p.Word ∧ p.Word < x.Memory.length := by
  unfold canStore at hc
  simp only [Bool.and_eq_true, decide_eq_true_eq] at hc
  rw [w64_id (by omega) (by omega)] at hc
  omega
theorem s_put {x : Copying} {p : Store} (hf : fits x 1048576) (hl : 1 ≤ x.Memory.length ∧ x.Memory.length ≤ 12 ∧ x.Copy.length = x.Memory.length ∧ x.Dirty.length = x.Memory.length) (hc : canStore x p = true) : M.s_l19Write x p = some (put x p) := by
  have hi := canStore_in hl hc
  unfold M.s_l19Write
  rw [s_own x hf, Option.bind_some]
  obtain ⟨y, hy⟩ := gxIdx_in (xs := x.Memory) hi.1 hi.2
  obtain ⟨z, hz⟩ := gxIdx_in (xs := x.Dirty) hi.1 (by omega)
  rw [hy, Option.bind_some, hz]
  rfl
theorem i_put {x : Copying} {p : Store} (hl : 1 ≤ x.Memory.length ∧ x.Memory.length ≤ 12 ∧ x.Copy.length = x.Memory.length ∧ x.Dirty.length = x.Memory.length) (hc : canStore x p = true) : M.i_Copying_store x p = some ((put x p).Memory, (put x p).Copy, (put x p).Dirty) := by
  have hi := canStore_in hl hc
  unfold M.i_Copying_store
  obtain ⟨y, hy⟩ := gxIdx_in (xs := x.Memory) hi.1 hi.2
  obtain ⟨z, hz⟩ := gxIdx_in (xs := x.Dirty) hi.1 (by omega)
  rw [hy, Option.bind_some, hz]
  rfl
theorem store_eq (x : Copying) (p : Store) (hf : fits x 1048576) : ∃ r, M.s_StoreWord x p = some r ∧ M.i_StoreWord x p = some r ∧ fits r.1 1048576 := by
  unfold M.s_StoreWord M.i_StoreWord
  simp only [s_good x hf, i_good x hf, s_canStore, i_canStore, Option.bind_some]
  cases h : isC x with
  | false => exact ⟨_, rfl, rfl, by simp [fits]⟩
  | true => cases hc : canStore x p with
    | false => exact ⟨_, rfl, rfl, by simp [fits]⟩
    | true =>
      simp only [i_new x hf, s_put hf (isC_lens h) hc, i_put (isC_lens h) hc, Option.bind_some, Bool.not_true, cond_false]
      refine ⟨_, rfl, rfl, ?_⟩
      obtain ⟨a, b, c⟩ := hf
      exact ⟨by simp only [put, List.length_set]; omega, b, by simp only [put, List.length_set]; omega⟩
theorem plain_StoreWord (x : Copying) (p : Store) (hx : okCopying x) (_ : okStore p) : M.l_FnExactStoreWord x p = some true := by
  obtain ⟨q, hr, hf⟩ := szCopying_ok x hx
  unfold M.l_FnExactStoreWord
  rw [hr, Option.bind_some]
  by_cases h : q < 0
  · simp [h]
  · have hfit := hf (by omega)
    obtain ⟨r, h3, h4, h5⟩ := store_eq x p hfit
    have htot := fits_total hfit
    have htot1 := fits_total h5
    have ht := toCopying_id x (fits_more hfit)
    have hts : M.l_toStore p = some p := rfl
    have he := eqCopying_refl x (fits_more hfit)
    have he1 := eqCopying_refl r.1 (fits_more h5)
    have hm : M.l_markCopying x 1 = _ := markCopying_ok x 1 (by omega)
    have hm1 : M.l_markCopying r.1 1 = _ := markCopying_ok r.1 1 (by omega)
    have hh1 : M.l_heldCopying ⟨(marksC r.1 1).Memory, (marksC r.1 1).Copy, (marksC r.1 1).Dirty⟩ 1 = _ := heldCopying_ok r.1 1 (by omega)
    have hn1 : ¬ (((1 + total x : Nat) : Int) < 0) := by omega
    have hn2 : ¬ (((1 + total r.1 : Nat) : Int) < 0) := by omega
    simp only [h, h3, h4, ht, hts, he, he1, hm, hm1, hh1, hn1, hn2, if_false, Option.bind_some, Bool.not_true, cond_false, beq_self_eq_true, bne_self_eq_false, decide_false]
end Go.Proofs.Ytjbblcdajdpfkaa
