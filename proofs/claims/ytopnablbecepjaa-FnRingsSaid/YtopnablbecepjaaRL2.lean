/- Plain laws of the models: no program in sight. -/
import Derived.Test.YtopnablbecepjaaRM
import Derived.Test.YtopnablbecepjaaRL1
set_option linter.unusedVariables false
set_option linter.unusedSimpArgs false
set_option maxHeartbeats 4000000
namespace Go.Proofs.Ytopnablbecepjaa
open Go.Gx
/-! ### Rings written out -/
def rg (n : Nat) (h : Int) (W : List Int) : Ring := ⟨lay n h W, h % 65536, (h + W.length) % 65536⟩
theorem rg_isR {n : Nat} {h : Int} {W : List Int} (hn : n = 1 ∨ n = 2 ∨ n = 4 ∨ n = 8) (hW : W.length ≤ n) (hw : ∀ w ∈ W, word w = true) : IsR (rg n h W) n W :=
  ⟨hn, by simp only [rg]; omega, hW, by simp only [rg]; rw [lay_mod hn], by simp only [rg]; omega, hw⟩
theorem IsR.eq_rg {x : Ring} {n : Nat} {W : List Int} (h : IsR x n W) : x = rg n x.Head W := by
  have hh := h.head
  have h1 := h.items
  have h2 := h.tail
  obtain ⟨a, b, c⟩ := x
  simp only at h1 h2 hh
  subst h1 h2
  simp only [rg, Ring.mk.injEq, true_and, and_true]
  omega
theorem own_ok (xs : List Int) (h : xs.length ≤ 1099511627776) : M.s_l1Own xs = some xs := by
  unfold M.s_l1Own
  rw [gxApp_ok (by simp; omega)]
  rfl
theorem copyInts_ok (xs : List Int) (h : xs.length ≤ 1099511627776) : M.i_copyInts xs = some xs := by
  unfold M.i_copyInts
  rw [gxApp_ok (by simp; omega)]
  rfl
theorem IsR.own {x : Ring} {n : Nat} {W : List Int} (h : IsR x n W) : M.s_l1Own x.Items = some x.Items := own_ok _ (by rw [h.ilen]; have := h.n8; omega)
theorem take_ok {n : Nat} {h w : Int} {W : List Int} (hn : n = 1 ∨ n = 2 ∨ n = 4 ∨ n = 8) (hW : (w :: W).length ≤ n) (hw : ∀ v ∈ w :: W, word v = true) : M.s_l20Take (rg n h (w :: W)) = some (rg n (h + 1) W, w) := by
  have hR := rg_isR (h := h) hn hW hw
  have h8 := hR.n8
  have hh := hR.head
  have ha := hR.at_ (i := 0) (by omega)
  simp only [Int.natCast_zero, Int.add_zero, w64_id (z := (rg n h (w :: W)).Head) (by omega) (by omega)] at ha
  have hl : (rg n h (w :: W)).Items.length = n := hR.ilen
  simp only [List.length_cons] at hW
  unfold M.s_l20Take
  rw [hR.own, Option.bind_some, hR.s_cnt, Option.bind_some, ha.1, Option.bind_some, ha.2]
  have hne : (((w :: W).length : Int) == 0) = false := by simp; omega
  have hm : ((rg n h (w :: W)).Head % n).toNat = (h % n).toNat := by simp only [rg]; rcases hn with rfl | rfl | rfl | rfl <;> omega
  have hq : (w64 ((rg n h (w :: W)).Head + 1)).tmod 65536 = (h + 1) % 65536 := by
    rw [w64_id (by omega) (by omega), Int.tmod_eq_emod_of_nonneg (by omega)]
    simp only [rg]
    omega
  simp only [hne, cond_false, Option.bind_some, List.getD_cons_zero, hm, hq]
  have ht : (rg n h (w :: W)).Items.set (h % n).toNat 0 = lay n (h + 1) W := by simp only [rg]; exact lay_take hn (by omega)
  rw [ht]
  simp only [rg, List.length_cons]
  congr 3
  omega
theorem put_ok {n : Nat} {h w : Int} {W : List Int} (hn : n = 1 ∨ n = 2 ∨ n = 4 ∨ n = 8) (hW : W.length < n) (hw : ∀ v ∈ W, word v = true) : M.s_l20Put (rg n h W) w = some (rg n h (W ++ [w]), true) := by
  have hR := rg_isR (h := h) hn (by omega) hw
  have h8 := hR.n8
  have ht := hR.htail
  have hl : (rg n h W).Items.length = n := hR.ilen
  have e1 : 0 ≤ (rg n h W).Tail % n := Int.emod_nonneg _ (by omega)
  have e2 : (rg n h W).Tail % n < n := Int.emod_lt_of_pos _ (by omega)
  unfold M.s_l20Put
  rw [hR.own, Option.bind_some, hR.s_cnt, Option.bind_some, hl, rem_ok (show 0 ≤ (rg n h W).Tail by omega) (show (0 : Int) < n by omega), Option.bind_some, idx_ok e1 (by rw [hl]; exact e2)]
  have hne : ((W.length : Int) == (n : Int)) = false := by simp; omega
  have hm : ((rg n h W).Tail % n).toNat = ((h + W.length) % n).toNat := by simp only [rg]; rcases hn with rfl | rfl | rfl | rfl <;> omega
  have hq : (w64 ((rg n h W).Tail + 1)).tmod 65536 = (h + (W ++ [w]).length) % 65536 := by
    rw [w64_id (by omega) (by omega), Int.tmod_eq_emod_of_nonneg (by omega)]
    simp only [rg, List.length_append, List.length_singleton]
    omega
  simp only [hne, cond_false, Option.bind_some, hm, hq]
  have hs : (rg n h W).Items.set ((h + W.length) % n).toNat w = lay n h (W ++ [w]) := by simp only [rg]; exact lay_put hn hW
  rw [hs]
  rfl
theorem put_full {n : Nat} {h w : Int} {W : List Int} (hn : n = 1 ∨ n = 2 ∨ n = 4 ∨ n = 8) (hW : W.length = n) (hw : ∀ v ∈ W, word v = true) : ∃ y, M.s_l20Put (rg n h W) w = some (y, false) := by
  have hR := rg_isR (h := h) hn (by omega) hw
  have hl : (rg n h W).Items.length = n := hR.ilen
  unfold M.s_l20Put
  rw [hR.own, Option.bind_some, hR.s_cnt, Option.bind_some, hl, hW]
  simp only [beq_self_eq_true, cond_true]
  exact ⟨_, rfl⟩
theorem lay_nil {n : Nat} {h : Int} : lay n h [] = List.replicate n 0 := by
  apply List.ext_getElem?
  intro j
  by_cases hj : j < n
  · rw [lay_at hj, List.getElem?_replicate_of_lt hj]; simp
  · rw [List.getElem?_eq_none (by rw [lay_length]; omega), List.getElem?_eq_none (by simp; omega)]
theorem ringOf_ok {n : Nat} {h : Int} {W : List Int} (hn : n = 1 ∨ n = 2 ∨ n = 4 ∨ n = 8) (hh : 0 ≤ h ∧ h ≤ 65535) (hW : W.length ≤ n) : M.i_ringOf n h W = some (rg n h W) := by
  have h8 : 1 ≤ n ∧ n ≤ 8 := by omega
  unfold M.i_ringOf
  rw [gxMake_nat (by omega), Option.bind_some, while_run (fun i => ((i : Int), lay n h (W.take i))) (lay n h W) W.length (by simp [lay_nil]) (by omega)]
  · simp only [Option.bind_some, and16, w64_id (z := h + W.length) (by omega) (by omega), rg]
    congr 2
    omega
  · intro i hi
    have e0 : ((i : Int) < (W.length : Int)) := by omega
    have e1 : 0 ≤ (h + (i : Int)) % n := Int.emod_nonneg _ (by omega)
    have e2 : (h + (i : Int)) % n < n := Int.emod_lt_of_pos _ (by omega)
    have hp := lay_put (h := h) (w := W[i]) (W := W.take i) hn (by simp; omega)
    have hl : (W.take i).length = i := by simp; omega
    have ht : W.take i ++ [W[i]] = W.take (i + 1) := by rw [List.take_add_one, List.getElem?_eq_getElem hi]; rfl
    rw [hl, ht] at hp
    simp only [e0, decide_true, cond_true, gxIdx_nat hi, Option.bind_some, w64_id (z := h + i) (by omega) (by omega), rem_ok (show 0 ≤ h + (i : Int) by omega) (show (0 : Int) < n by omega), idx_ok e1 (show (h + (i : Int)) % n < (lay n h (W.take i)).length by rw [lay_length]; exact e2), w64_succ (show i ≤ 4611686018427387904 by omega), hp]
  · simp only [Int.lt_irrefl, decide_false, cond_false, List.take_length]

/-! ### Words taken -/
theorem IsR.take {x : Ring} {n : Nat} {W : List Int} (h : IsR x n W) (i : Nat) : ∀ w ∈ W.drop i, word w = true := fun w hw => h.words w (List.mem_of_mem_drop hw)
theorem s_take {x : Ring} {n : Nat} {W : List Int} (h : IsR x n W) {m : Int} (hm : 0 ≤ m) (hg : good x = true) : M.s_TakeWords x m = some (rg n (x.Head + (min m.toNat W.length : Nat)) (W.drop (min m.toNat W.length)), W.take (min m.toNat W.length), true) := by
  have h8 := h.n8
  have hl := h.len
  have hx := h.eq_rg
  obtain ⟨k, hk⟩ : ∃ k, min m.toNat W.length = k := ⟨_, rfl⟩
  rw [hk]
  unfold M.s_TakeWords
  have hneg : ¬ (m < 0) := by omega
  simp only [s_good, hg, hneg, Option.bind_some, Bool.not_true, cond_false, decide_false, h.own]
  have hrg : ∀ i, i ≤ W.length → (⟨lay n (x.Head + (i : Nat)) (W.drop i), (x.Head + (i : Nat)) % 65536, x.Tail⟩ : Ring) = rg n (x.Head + (i : Nat)) (W.drop i) := fun i hi => by
    simp only [rg, Ring.mk.injEq, true_and]
    rw [h.tail, List.length_drop]
    omega
  have hR : ∀ i, IsR (rg n (x.Head + (i : Nat)) (W.drop i)) n (W.drop i) := fun i => rg_isR h.hn (by simp; omega) (h.take i)
  rw [while_run (fun i => (W.take i, lay n (x.Head + (i : Nat)) (W.drop i), (x.Head + (i : Nat)) % 65536, x.Tail)) (W.take k, lay n (x.Head + (k : Nat)) (W.drop k), (x.Head + (k : Nat)) % 65536, x.Tail) k ?_ (by omega)]
  · simp only [Option.bind_some, hrg k (by omega)]
  · intro i hi
    have hlt : (W.take i).length = i := by simp; omega
    have e0 : ((i : Int) < m) := by omega
    have e1 : (((W.drop i).length : Int) > 0) := by simp; omega
    have hd : W.drop i = W[i]'(by omega) :: W.drop (i + 1) := List.drop_eq_getElem_cons (by omega)
    have ht : W.take i ++ [W[i]'(by omega)] = W.take (i + 1) := by rw [List.take_add_one, List.getElem?_eq_getElem (by omega)]; rfl
    have htk := take_ok (h := x.Head + (i : Nat)) (w := W[i]'(by omega)) (W := W.drop (i + 1)) h.hn (by rw [← hd]; simp; omega) (by rw [← hd]; exact h.take i)
    rw [← hd] at htk
    simp only [hlt, e0, decide_true, cond_true, Option.bind_some, hrg i (by omega), (hR i).s_cnt, e1, htk, gxApp_ok (show ((W.take i).length + [W[i]'(by omega)].length) * 8 ≤ 140737488355328 by simp; omega), ht]
    simp only [rg, List.length_drop, h.tail]
    have e2 : x.Head + (i : Int) + 1 = x.Head + ((i + 1 : Nat) : Int) := by omega
    have e3 : (x.Head + ((i + 1 : Nat) : Int) + ((W.length - (i + 1) : Nat) : Int)) % 65536 = (x.Head + W.length) % 65536 := by congr 1; omega
    rw [e2, e3]
  · have hlt : (W.take k).length = k := by simp; omega
    simp only [hlt, hrg k (by omega), (hR k).s_cnt, Option.bind_some]
    by_cases e0 : ((k : Int) < m)
    · have e1 : ¬ (((W.drop k).length : Int) > 0) := by simp; omega
      simp only [e0, e1, decide_true, decide_false, cond_true, cond_false, Option.bind_some]
    · simp only [e0, decide_false, cond_false, Option.bind_some]
  · simp only [List.take_zero, List.drop_zero, Int.natCast_zero, Int.add_zero]
    rw [← h.items, Int.emod_eq_of_lt h.head.1 (by have := h.head; omega)]
theorem i_take {x : Ring} {n : Nat} {W : List Int} (h : IsR x n W) {m : Int} (hm : 0 ≤ m) (hg : good x = true) : M.i_TakeWords x m = some (rg n (x.Head + (min m.toNat W.length : Nat)) (W.drop (min m.toNat W.length)), W.take (min m.toNat W.length), true) := by
  have h8 := h.n8
  have hl := h.len
  have hh := h.head
  obtain ⟨k, hk⟩ : ∃ k, min m.toNat W.length = k := ⟨_, rfl⟩
  rw [hk]
  have hmin : gxMin m (W.length : Int) = (k : Int) := by
    unfold gxMin
    split <;> omega
  have hneg : ¬ (m < 0) := by omega
  have hs1 : gxSlice W (k : Int) (W.length : Int) = some (W.drop k) := by
    unfold gxSlice
    rw [if_pos ⟨by omega, by omega, by omega⟩]
    simp
  have hs2 : gxSlice W 0 (k : Int) = some (W.take k) := by
    unfold gxSlice
    rw [if_pos ⟨by omega, by omega, by omega⟩]
    simp
  have hrg : rg n ((x.Head + (k : Nat)) % 65536) (W.drop k) = rg n (x.Head + (k : Nat)) (W.drop k) := by
    simp only [rg, lay_mod h.hn, Ring.mk.injEq, true_and]
    omega
  unfold M.i_TakeWords
  simp only [i_good, hg, hneg, Option.bind_some, Bool.not_true, cond_false, decide_false, h.i_words, h.i_cnt, hmin, hs1, hs2, and16, w64_id (z := x.Head + (k : Int)) (by omega) (by omega), h.ilen, ringOf_ok (h := (x.Head + (k : Nat)) % 65536) (W := W.drop k) h.hn (by omega) (by simp; omega), hrg, copyInts_ok (W.take k) (by simp; omega)]
theorem takeWords_eq (x : Ring) (m : Int) : ∃ r, M.s_TakeWords x m = some r ∧ M.i_TakeWords x m = some r ∧ r.1.Items.length ≤ 8 ∧ r.2.1.length ≤ 8 := by
  cases hg : good x with
  | false =>
    unfold M.s_TakeWords M.i_TakeWords
    simp only [s_good, i_good, hg, Option.bind_some, Bool.not_false, cond_true]
    exact ⟨_, rfl, rfl, by simp, by simp⟩
  | true =>
    by_cases hm : 0 ≤ m
    · obtain ⟨W, h⟩ := good_isR hg
      have h8 := h.n8
      have hl := h.len
      refine ⟨_, s_take h hm hg, i_take h hm hg, ?_, ?_⟩
      · simp only [rg, lay_length]; omega
      · simp; omega
    · unfold M.s_TakeWords M.i_TakeWords
      have hneg : m < 0 := by omega
      simp only [s_good, i_good, hg, hneg, Option.bind_some, Bool.not_true, cond_false, decide_true, cond_true]
      exact ⟨_, rfl, rfl, by simp, by simp⟩
theorem takeWord_eq (x : Ring) : ∃ r, M.s_TakeWord x = some r ∧ M.i_TakeWord x = some r ∧ r.1.Items.length ≤ 8 := by
  cases hg : good x with
  | false =>
    have h1 : M.i_TakeWords x 1 = some (⟨[], 0, 0⟩, [], false) := by unfold M.i_TakeWords; simp [i_good, hg]
    unfold M.s_TakeWord M.i_TakeWord
    simp only [s_good, hg, h1, Option.bind_some, Bool.not_false, cond_true]
    exact ⟨_, rfl, rfl, by simp⟩
  | true =>
    obtain ⟨W, h⟩ := good_isR hg
    have h8 := h.n8
    have hl := h.len
    have hi := i_take (m := 1) h (by omega) hg
    unfold M.s_TakeWord M.i_TakeWord
    simp only [s_good, hg, hi, h.s_cnt, Option.bind_some, Bool.not_true, cond_false]
    cases W with
    | nil =>
      simp only [List.length_nil, Nat.min_zero, List.take_nil]
      exact ⟨_, rfl, rfl, by simp⟩
    | cons w W =>
      have htk := take_ok (h := x.Head) (w := w) (W := W) h.hn hl h.words
      rw [← h.eq_rg] at htk
      have hne : (((w :: W).length : Int) == 0) = false := by simp; omega
      have hmin : min (1 : Int).toNat (w :: W).length = 1 := by simp <;> omega
      simp only [htk, hne, hmin, cond_false, Option.bind_some, List.take_succ_cons, List.take_zero, List.length_singleton]
      have hg0 : gxIdx [w] 0 = some w := rfl
      have hne1 : (((1 : Nat) : Int) == 0) = false := rfl
      simp only [hne1, hg0, cond_false, Option.bind_some, List.drop_succ_cons, List.drop_zero]
      exact ⟨_, rfl, rfl, by simp only [rg, lay_length]; omega⟩
/-! ### Words put -/
theorem puts_run {n : Nat} {h : Int} {W V : List Int} (hn : n = 1 ∨ n = 2 ∨ n = 4 ∨ n = 8) (hl : W.length + V.length ≤ n) (hw : ∀ v ∈ W, word v = true) (hv : ∀ v ∈ V, word v = true) {i : Nat} (hi : i < V.length) :
    M.s_l20Put (rg n h (W ++ V.take i)) V[i] = some (rg n h (W ++ V.take (i + 1)), true) := by
  have ht : V.take i ++ [V[i]] = V.take (i + 1) := by rw [List.take_add_one, List.getElem?_eq_getElem hi]; rfl
  rw [← ht, ← List.append_assoc]
  refine put_ok hn (by simp; omega) (fun v hm => ?_)
  rcases List.mem_append.1 hm with h1 | h1
  · exact hw v h1
  · exact hv v (List.mem_of_mem_take h1)
theorem resize_eq (x : Ring) (p : Int) : ∃ r, M.s_ResizeRing x p = some r ∧ M.i_ResizeRing x p = some r ∧ r.1.Items.length ≤ 8 := by
  unfold M.s_ResizeRing M.i_ResizeRing
  simp only [s_good, i_good, s_places, i_places, Option.bind_some]
  cases hg : good x with
  | false => exact ⟨_, rfl, rfl, by simp⟩
  | true => cases hp : pl p with
    | false => exact ⟨_, rfl, rfl, by simp⟩
    | true =>
      obtain ⟨W, h⟩ := good_isR hg
      have h8 := h.n8
      have hl := h.len
      obtain ⟨q, rfl⟩ : ∃ q : Nat, p = q := ⟨p.toNat, by have := pl_cases hp; omega⟩
      have hq := pl_nat hp
      simp only [h.s_cnt, h.i_cnt, Option.bind_some, Bool.not_true, cond_false]
      by_cases hc : (W.length : Int) > (q : Int)
      · simp only [hc, decide_true, cond_true]
        exact ⟨_, rfl, rfl, by simp⟩
      · simp only [hc, decide_false, cond_false, gxMake_nat (show q * 8 ≤ 140737488355328 by omega), h.s_words, h.i_words, Option.bind_some]
        have h0 : ∀ i, (⟨lay q x.Head (W.take i), x.Head % 65536, (x.Head + (W.take i).length) % 65536⟩ : Ring) = rg q x.Head (W.take i) := fun i => rfl
        refine ⟨(rg q x.Head W, true), ?_, ?_, ?_⟩
        · rw [while_run (fun i => ((i : Int), lay q x.Head (W.take i), x.Head % 65536, (x.Head + (W.take i).length) % 65536)) (lay q x.Head W, x.Head % 65536, (x.Head + W.length) % 65536) W.length ?_ (by omega)]
          · rfl
          · intro i hi
            have e0 : ((i : Int) < (W.length : Int)) := by omega
            have hput := puts_run (h := x.Head) (W := []) (V := W) hq (by simp; omega) (by simp) h.words hi
            simp only [List.nil_append] at hput
            simp only [e0, decide_true, cond_true, gxIdx_nat hi, Option.bind_some, h0, hput, w64_succ (show i ≤ 4611686018427387904 by omega)]
            rfl
          · simp only [Int.lt_irrefl, decide_false, cond_false, List.take_length]
          · have := h.head
            simp only [List.take_zero, lay_nil, List.length_nil, Int.natCast_zero, Int.add_zero, Int.emod_eq_of_lt h.head.1 (show x.Head < 65536 by omega)]
        · rw [ringOf_ok hq h.head (by omega)]
          rfl
        · simp only [rg, lay_length]
          omega
theorem indexFunc_ok (V : List Int) (h : V.length ≤ 1099511627776) : ∃ r : Int, M.slices_IndexFunc_79__i_PutWords_1 V = some r ∧ (decide (r ≥ 0)) = !(V.all word) := by
  unfold M.slices_IndexFunc_79__i_PutWords_1
  have hb : ∀ (y : Int), M.i_PutWords_1 y = some (!(word y)) := fun y => by unfold M.i_PutWords_1; rw [i_word]; rfl
  cases hall : V.all word with
  | true =>
    refine ⟨-1, ?_, rfl⟩
    rw [while_run (fun i => (i : Int)) (Sum.inl ()) V.length (by simp) (by omega)]
    · rfl
    · intro i hi
      have e0 : ((i : Int) < (V.length : Int)) := by omega
      have hw : word V[i] = true := List.all_eq_true.1 hall _ (List.getElem_mem hi)
      simp only [e0, decide_true, cond_true, gxIdx_nat hi, Option.bind_some, hb, hw, Bool.not_true, cond_false, w64_succ (show i ≤ 4611686018427387904 by omega)]
    · simp only [Int.lt_irrefl, decide_false, cond_false]
  | false =>
    have hex : ∃ i, ∃ hi : i < V.length, word V[i] = false := by
      rw [List.all_eq_false] at hall
      obtain ⟨v, hv, hf⟩ := hall
      obtain ⟨i, hi, rfl⟩ := List.mem_iff_getElem.1 hv
      exact ⟨i, hi, by simpa using hf⟩
    obtain ⟨i, ⟨hi, hf⟩, hmin⟩ := exists_least hex
    refine ⟨(i : Int), ?_, by simp⟩
    rw [while_run (fun i => (i : Int)) (Sum.inr (i : Int)) i (by simp) (by omega)]
    · rfl
    · intro j hj
      have hj' : j < V.length := by omega
      have e0 : ((j : Int) < (V.length : Int)) := by omega
      have hw : word V[j] = true := by
        cases hb : word V[j] with
        | true => rfl
        | false => have := hmin j ⟨hj', hb⟩; omega
      simp only [e0, decide_true, cond_true, gxIdx_nat hj', Option.bind_some, hb, hw, Bool.not_true, cond_false, w64_succ (show j ≤ 4611686018427387904 by omega)]
    · have e0 : ((i : Int) < (V.length : Int)) := by omega
      simp only [e0, decide_true, cond_true, gxIdx_nat hi, Option.bind_some, hb, hf, Bool.not_false, cond_true]
/-- How many words fit. -/
def fit (n : Nat) (W V : List Int) : Nat := min V.length (n - W.length)
theorem i_puts (x : Ring) (V : List Int) (hV : V.length ≤ 1099511627776) : M.i_PutWords x V = if good x = true ∧ V.all word = true then
    some (rg x.Items.length x.Head (((M.i_ringWords x).getD []) ++ V.take (fit x.Items.length ((M.i_ringWords x).getD []) V)), ((fit x.Items.length ((M.i_ringWords x).getD []) V : Nat) : Int), true) else some (⟨[], 0, 0⟩, 0, false) := by
  unfold M.i_PutWords M.slices_ContainsFunc_68__i_PutWords_1
  obtain ⟨r, hr, hr2⟩ := indexFunc_ok V hV
  simp only [i_good, hr, Option.bind_some, hr2]
  cases hg : good x with
  | false => simp
  | true => cases hw : V.all word with
    | false => simp
    | true =>
      obtain ⟨W, h⟩ := good_isR hg
      have h8 := h.n8
      have hl := h.len
      have hmin : gxMin (V.length : Int) (w64 ((x.Items.length : Int) - (W.length : Int))) = (fit x.Items.length W V : Nat) := by
        rw [w64_id (by omega) (by omega)]
        unfold gxMin fit
        split <;> omega
      have hs : gxSlice V 0 ((fit x.Items.length W V : Nat) : Int) = some (V.take (fit x.Items.length W V)) := by
        unfold gxSlice
        rw [if_pos ⟨by omega, by omega, by unfold fit; omega⟩]
        simp
      have hf : fit x.Items.length W V ≤ x.Items.length - W.length := by unfold fit; omega
      simp only [Bool.not_true, cond_false, Option.bind_some, h.i_cnt, h.i_words, hmin, hs, gxApp_ok (show (W.length + (V.take (fit x.Items.length W V)).length) * 8 ≤ 140737488355328 by simp; omega), ringOf_ok (W := W ++ V.take (fit x.Items.length W V)) h.hn h.head (by simp; omega), Option.getD_some]
      simp
theorem putWord_eq (x : Ring) (v : Int) : ∃ r, M.s_PutWord x v = some r ∧ M.i_PutWord x v = some r ∧ r.1.Items.length ≤ 8 := by
  unfold M.s_PutWord M.i_PutWord
  simp only [s_good, s_word, Option.bind_some, i_puts x [v] (by simp)]
  cases hg : good x with
  | false => exact ⟨_, rfl, rfl, by simp⟩
  | true => cases hw : word v with
    | false => exact ⟨_, rfl, by simp [hw], by simp⟩
    | true =>
      obtain ⟨W, h⟩ := good_isR hg
      have h8 := h.n8
      have hl := h.len
      have hx := h.eq_rg
      have hif : (True ∧ [v].all word = true) := ⟨trivial, by simp [hw]⟩
      simp only [if_pos hif, h.i_words, Option.getD_some, Option.bind_some, Bool.not_true, cond_false]
      by_cases hc : W.length < x.Items.length
      · have hput := put_ok (h := x.Head) (w := v) (W := W) h.hn hc h.words
        rw [← hx] at hput
        have hf : fit x.Items.length W [v] = 1 := by unfold fit; simp; omega
        have hne : (((1 : Nat) : Int) == 0) = false := rfl
        simp only [hput, hf, hne, Option.bind_some, Bool.not_true, cond_false]
        exact ⟨_, rfl, rfl, by simp only [rg, lay_length]; omega⟩
      · obtain ⟨y, hy⟩ := put_full (h := x.Head) (w := v) (W := W) h.hn (by omega) h.words
        rw [← hx] at hy
        have hf : fit x.Items.length W [v] = 0 := by unfold fit; simp; omega
        have hne : (((0 : Nat) : Int) == 0) = true := rfl
        simp only [hy, hf, hne, Option.bind_some, Bool.not_false, cond_true]
        exact ⟨_, rfl, rfl, by simp⟩
theorem putWords_eq (x : Ring) (V : List Int) (hV : V.length ≤ 1099511627776) : ∃ r, M.s_PutWords x V = some r ∧ M.i_PutWords x V = some r ∧ r.1.Items.length ≤ 8 := by
  unfold M.s_PutWords
  simp only [s_good, s_word, Option.bind_some, i_puts x V hV]
  cases hg : good x with
  | false => exact ⟨_, rfl, rfl, by simp⟩
  | true =>
    rw [while_all (fun i => (i : Int)) (fun i => word (V.getD i 0)) (.inr (⟨[], 0, 0⟩, 0, false)) (.inl ()) V.length (by simp) (by omega)]
    · have hall : (List.range V.length).all (fun i => word (V.getD i 0)) = V.all word := by
        rw [Bool.eq_iff_iff, List.all_eq_true, List.all_eq_true]
        constructor
        · intro h v hv
          obtain ⟨i, hi, rfl⟩ := List.mem_iff_getElem.1 hv
          have := h i (List.mem_range.2 hi)
          rwa [List.getD_eq_getElem?_getD, List.getElem?_eq_getElem hi] at this
        · intro h i hi
          have hi := List.mem_range.1 hi
          rw [List.getD_eq_getElem?_getD, List.getElem?_eq_getElem hi]
          exact h _ (List.getElem_mem hi)
      rw [hall]
      cases hw : V.all word with
      | false => exact ⟨_, rfl, by simp, by simp⟩
      | true =>
        obtain ⟨W, h⟩ := good_isR hg
        have h8 := h.n8
        have hl := h.len
        have hh := h.head
        have hx := h.eq_rg
        have hvw : ∀ v ∈ V, word v = true := List.all_eq_true.1 hw
        obtain ⟨k, hk⟩ : ∃ k, fit x.Items.length W V = k := ⟨_, rfl⟩
        have hk1 : k ≤ V.length := by rw [← hk]; unfold fit; omega
        have hk2 : W.length + k ≤ x.Items.length := by rw [← hk]; unfold fit; omega
        have hk3 : k = V.length ∨ W.length + k = x.Items.length := by rw [← hk]; unfold fit; omega
        have hV' : (V.take k).length = k := by simp; omega
        refine ⟨(rg x.Items.length x.Head (W ++ V.take k), (k : Int), true), ?_, by simp [h.i_words, hk], by simp only [rg, lay_length]; omega⟩
        simp only [Bool.not_true, cond_false, cond_true, Option.bind_some, Sum.elim_inl, h.own]
        have h0 : ∀ i, (⟨lay x.Items.length x.Head (W ++ V.take i), x.Head % 65536, (x.Head + (W ++ V.take i).length) % 65536⟩ : Ring) = rg x.Items.length x.Head (W ++ V.take i) := fun i => rfl
        have hrun : ∀ i, i < k → ∀ hi : i < V.length, M.s_l20Put (rg x.Items.length x.Head (W ++ V.take i)) V[i] = some (rg x.Items.length x.Head (W ++ V.take (i + 1)), true) := fun i hik hi => by
          have := puts_run (h := x.Head) (W := W) (V := V.take k) h.hn (by omega) h.words (fun v hv => hvw v (List.mem_of_mem_take hv)) (i := i) (by omega)
          rw [List.take_take, List.take_take, Nat.min_eq_left (by omega), Nat.min_eq_left (by omega)] at this
          simpa using this
        have hinit : ((0 : Int), x.Items, x.Head, x.Tail) = (((0 : Nat) : Int), lay x.Items.length x.Head (W ++ V.take 0), x.Head % 65536, (x.Head + (W ++ V.take 0).length) % 65536) := by
          rw [List.take_zero, List.append_nil, ← h.items, ← h.tail, Int.emod_eq_of_lt h.head.1 (by omega)]
          rfl
        have hstep : ∀ i, i < k → ∀ (b : Int × List Int × Int × Int → Option ((Int × List Int × Int × Int) ⊕ ((List Int × Int × Int) ⊕ (Ring × Int × Bool)))), True := fun _ _ _ => trivial
        by_cases hkV : k = V.length
        · rw [while_run (fun i => ((i : Int), lay x.Items.length x.Head (W ++ V.take i), x.Head % 65536, (x.Head + (W ++ V.take i).length) % 65536)) (.inl (lay x.Items.length x.Head (W ++ V.take k), x.Head % 65536, (x.Head + (W ++ V.take k).length) % 65536)) k hinit (by omega)]
          · simp only [Option.bind_some, Sum.elim_inl, hkV]
            rfl
          · intro i hi
            have hi' : i < V.length := by omega
            have e0 : ((i : Int) < (V.length : Int)) := by omega
            simp only [e0, decide_true, cond_true, gxIdx_nat hi', Option.bind_some, h0, hrun i hi hi', Bool.not_true, cond_false, w64_succ (show i ≤ 4611686018427387904 by omega)]
            rfl
          · have e0 : ¬ ((k : Int) < (V.length : Int)) := by omega
            simp only [e0, decide_false, cond_false]
        · rw [while_run (fun i => ((i : Int), lay x.Items.length x.Head (W ++ V.take i), x.Head % 65536, (x.Head + (W ++ V.take i).length) % 65536)) (.inr (rg x.Items.length x.Head (W ++ V.take k), (k : Int), true)) k hinit (by omega)]
          · simp only [Option.bind_some, Sum.elim_inr]
          · intro i hi
            have hi' : i < V.length := by omega
            have e0 : ((i : Int) < (V.length : Int)) := by omega
            simp only [e0, decide_true, cond_true, gxIdx_nat hi', Option.bind_some, h0, hrun i hi hi', Bool.not_true, cond_false, w64_succ (show i ≤ 4611686018427387904 by omega)]
            rfl
          · have hk' : k < V.length := by omega
            have e0 : ((k : Int) < (V.length : Int)) := by omega
            obtain ⟨y, hy⟩ := put_full (h := x.Head) (w := V[k]) (W := W ++ V.take k) h.hn (by simp; omega) (fun v hv => by
              rcases List.mem_append.1 hv with h1 | h1
              · exact h.words v h1
              · exact hvw v (List.mem_of_mem_take h1))
            simp only [e0, decide_true, cond_true, gxIdx_nat hk', Option.bind_some, h0, hy, Bool.not_false]
    · intro i hi
      have e0 : ((i : Int) < (V.length : Int)) := by omega
      simp only [e0, decide_true, cond_true, gxIdx_nat hi, Option.bind_some, List.getD_eq_getElem?_getD, List.getElem?_eq_getElem hi, Option.getD_some, w64_succ (show i ≤ 4611686018427387904 by omega)]
      cases word V[i] <;> rfl
    · simp only [Int.lt_irrefl, decide_false, cond_false]
/-! ### Loops with an invariant -/
theorem while_inv_fuel {σ ρ : Type} {body : σ → Option (σ ⊕ ρ)} (R : Nat → σ → Prop) (Q : ρ → Prop) (n : Nat) (hstep : ∀ i s, i < n → R i s → (∃ s', body s = some (.inl s') ∧ R (i + 1) s') ∨ (∃ r, body s = some (.inr r) ∧ Q r)) (hend : ∀ s, R n s → ∃ r, body s = some (.inr r) ∧ Q r) : ∀ (k i fuel : Nat) (s : σ), i + k = n → k < fuel → R i s → ∃ r, whileM body fuel s = some r ∧ Q r
  | 0, i, fuel, s, hi, hf, hR => by
    obtain ⟨m, rfl⟩ : ∃ m, fuel = m + 1 := ⟨fuel - 1, by omega⟩
    obtain ⟨r, hr, hq⟩ := hend s (by rw [← hi]; exact hR)
    exact ⟨r, by simp only [whileM, hr], hq⟩
  | k + 1, i, fuel, s, hi, hf, hR => by
    obtain ⟨m, rfl⟩ : ∃ m, fuel = m + 1 := ⟨fuel - 1, by omega⟩
    rcases hstep i s (by omega) hR with ⟨s', hs, hR'⟩ | ⟨r, hr, hq⟩
    · obtain ⟨r, hr, hq⟩ := while_inv_fuel R Q n hstep hend k (i + 1) m s' (by omega) (by omega) hR'
      exact ⟨r, by simp only [whileM, hs]; exact hr, hq⟩
    · exact ⟨r, by simp only [whileM, hr], hq⟩
theorem while_inv {σ ρ : Type} {body : σ → Option (σ ⊕ ρ)} {s0 : σ} (R : Nat → σ → Prop) (Q : ρ → Prop) (n : Nat) (hn : n ≤ 4611686018427387904) (h0 : R 0 s0) (hstep : ∀ i s, i < n → R i s → (∃ s', body s = some (.inl s') ∧ R (i + 1) s') ∨ (∃ r, body s = some (.inr r) ∧ Q r)) (hend : ∀ s, R n s → ∃ r, body s = some (.inr r) ∧ Q r) : ∃ r, whileM body gxFuel s0 = some r ∧ Q r :=
  while_inv_fuel R Q n hstep hend n 0 gxFuel s0 (by omega) (by unfold gxFuel; omega) h0
theorem while_map {β : Type} (F : Nat → β) {n : Nat} {body : List β × Int → Option ((List β × Int) ⊕ List β)} (hl : n ≤ 1099511627776)
    (h : ∀ (i : Nat) (hi : i < n) (acc : List β), acc.length = i → body (acc, (i : Int)) = some (.inl (acc ++ [F i], w64 ((i : Int) + 1))))
    (he : ∀ acc : List β, acc.length = n → body (acc, (n : Int)) = some (.inr acc)) : whileM body gxFuel ([], 0) = some ((List.range n).map F) := by
  refine while_run (fun i => ((List.range i).map F, (i : Int))) _ n (by simp) (by omega) (fun i hi => ?_) (he _ (by simp))
  rw [h i hi _ (by simp), w64_succ (by omega), List.range_succ, List.map_append]
  rfl

/-! ### Draws -/
/-- The code is of bytes; so many steps at most have been made. -/
def curI (c : l1Cur) (n : Nat) : Prop := okL okU c.code ∧ 0 ≤ c.at_ ∧ c.at_ ≤ n
theorem u8_range {x : Int} (h : okU x) : 0 ≤ x ∧ x ≤ 255 := by
  unfold okU at h
  simp [Lit.wf, IntKind.min, IntKind.max, IntKind.bits, IntKind.signed] at h
  omega
theorem and255 (x : Int) : 0 ≤ gxAnd .u64 x 255 ∧ gxAnd .u64 x 255 ≤ 255 := by
  unfold gxAnd
  have h1 : (BitVec.ofInt 64 x &&& BitVec.ofInt 64 255).toNat ≤ 255 := by
    rw [BitVec.toNat_and]
    have : (BitVec.ofInt 64 255).toNat = 255 := rfl
    rw [this]
    exact Nat.and_le_right
  show 0 ≤ IntKind.u64.wrap ((BitVec.ofInt 64 x &&& BitVec.ofInt 64 255).toNat : Int) ∧ IntKind.u64.wrap ((BitVec.ofInt 64 x &&& BitVec.ofInt 64 255).toNat : Int) ≤ 255
  generalize (BitVec.ofInt 64 x &&& BitVec.ofInt 64 255).toNat = n at h1
  have h2 : IntKind.u64.wrap (n : Int) = n := by
    simp [IntKind.wrap, IntKind.bits, IntKind.signed]
    omega
  rw [h2]
  omega
theorem next_ok (c : l1Cur) (n : Nat) (h : curI c n) (hn : n ≤ 1099511627776) : ∃ r, M.s_l1Cur_next c = some r ∧ (0 ≤ r.1 ∧ r.1 ≤ 255) ∧ 0 ≤ r.2.1 ∧ r.2.1 ≤ ((n + 1 : Nat) : Int) := by
  obtain ⟨hc, h0, h1⟩ := h
  unfold M.s_l1Cur_next
  rw [w64_id (z := c.at_ + 1) (by omega) (by omega)]
  have hfst : ∃ b, (bif decide (c.at_ < (c.code.length : Int)) then (Option.bind (gxIdx c.code c.at_) fun y7680 => some (w64 y7680)) else some 0) = some b ∧ 0 ≤ b ∧ b ≤ 255 := by
    by_cases hlt : c.at_ < (c.code.length : Int)
    · obtain ⟨i, hi⟩ : ∃ i : Nat, c.at_ = i := ⟨c.at_.toNat, by omega⟩
      rw [hi] at hlt ⊢
      have hil : i < c.code.length := by omega
      have hb := u8_range (hc.2 _ (List.getElem_mem hil))
      simp only [hlt, decide_true, cond_true, gxIdx_nat hil, Option.bind_some, w64_id (z := c.code[i]) (by omega) (by omega)]
      exact ⟨_, rfl, hb.1, hb.2⟩
    · simp only [hlt, decide_false, cond_false]
      exact ⟨0, rfl, by omega, by omega⟩
  obtain ⟨b, hb, hb1⟩ := hfst
  rw [hb, Option.bind_some]
  by_cases hle : c.at_ + 1 ≤ (c.code.length : Int)
  · simp only [hle, decide_true, cond_true]
    exact ⟨_, rfl, hb1, by simp only; omega, by simp only; omega⟩
  · simp only [hle, decide_false, cond_false]
    refine ⟨_, rfl, ?_, by simp only; omega, by simp only; omega⟩
    have := and255 ((IntKind.u64.wrap ((IntKind.u64.wrap ((IntKind.u64.wrap (c.seed * 6364136223846793005)) + (IntKind.u64.wrap b))) + 843843)).fdiv (2 ^ 40))
    simp only
    rw [w64_id (by omega) (by omega)]
    exact this
/-- What a pick among k gives. -/
theorem pick_ok (c : l1Cur) (k : Int) (n : Nat) (h : curI c n) (hn : n ≤ 1099511000000) (hk : k ≤ 9223372036854775807) : ∃ r, M.s_l1Cur_pick c k = some r ∧ 0 ≤ r.1 ∧ (r.1 < k ∨ r.1 = 0) ∧ (k ≥ 1 → r.1 < k) ∧ curI ⟨c.code, r.2.1, r.2.2⟩ (n + 2) := by
  unfold M.s_l1Cur_pick
  by_cases h1 : k ≤ 1
  · simp only [h1, decide_true, cond_true]
    exact ⟨_, rfl, by simp, Or.inr rfl, fun h => by simp only; omega, h.1, h.2.1, by have := h.2.2; simp only; omega⟩
  · simp only [h1, decide_false, cond_false]
    obtain ⟨r, hr, hb, ha0, ha1⟩ := next_ok c n h (by omega)
    rw [hr, Option.bind_some]
    have hrem : ∀ v : Int, 0 ≤ v → gxRem v k = some (v % k) := by
      intro v hv
      unfold gxRem
      rw [if_neg (by omega), Int.tmod_eq_emod_of_nonneg hv]
    by_cases h2 : k > 200
    · simp only [h2, decide_true, cond_true]
      obtain ⟨r2, hr2, hb2, ha2, ha3⟩ := next_ok ⟨c.code, r.2.1, r.2.2⟩ (n + 1) ⟨h.1, ha0, ha1⟩ (by omega)
      rw [hr2, Option.bind_some, Option.bind_some]
      have e : w64 ((w64 (r.1 * 256)) + r2.1) = r.1 * 256 + r2.1 := by
        rw [w64_id (z := r.1 * 256) (by omega) (by omega), w64_id (by omega) (by omega)]
      simp only [e, hrem (r.1 * 256 + r2.1) (by omega), Option.bind_some]
      have p1 := Int.emod_nonneg (r.1 * 256 + r2.1) (show k ≠ 0 by omega)
      have p2 := Int.emod_lt_of_pos (r.1 * 256 + r2.1) (show 0 < k by omega)
      exact ⟨_, rfl, p1, Or.inl p2, fun _ => p2, h.1, ha2, by simp only; omega⟩
    · simp only [h2, decide_false, cond_false, Option.bind_some, hrem r.1 hb.1]
      have p1 := Int.emod_nonneg r.1 (show k ≠ 0 by omega)
      have p2 := Int.emod_lt_of_pos r.1 (show 0 < k by omega)
      exact ⟨_, rfl, p1, Or.inl p2, fun _ => p2, h.1, ha0, by simp only; omega⟩
theorem among_ok (c : l1Cur) (l : List Int) (n : Nat) (h : curI c n) (hn : n ≤ 1099511000000) (hl : 0 < l.length ∧ l.length ≤ 1000) : ∃ r, M.s_l1Cur_among c l = some r ∧ r.1 ∈ l ∧ curI ⟨c.code, r.2.1, r.2.2⟩ (n + 2) := by
  unfold M.s_l1Cur_among
  obtain ⟨r, hr, h0, _, h1, hc⟩ := pick_ok c (l.length : Int) n h hn (by omega)
  have h1 := h1 (by omega)
  rw [hr, Option.bind_some]
  obtain ⟨i, hi⟩ : ∃ i : Nat, r.1 = i := ⟨r.1.toNat, by omega⟩
  have hil : i < l.length := by omega
  rw [hi, gxIdx_nat hil, Option.bind_some]
  exact ⟨_, rfl, List.getElem_mem hil, hc⟩

theorem one_ok (c : l1Cur) (k : Int) (n : Nat) (h : curI c n) (hn : n ≤ 1099511000000) (hk : k ≤ 9223372036854775807) : ∃ r, M.s_l1Cur_one c k = some r ∧ curI ⟨c.code, r.2.1, r.2.2⟩ (n + 2) := by
  unfold M.s_l1Cur_one
  obtain ⟨r, hr, _, _, _, hc⟩ := pick_ok c k n h hn hk
  rw [hr, Option.bind_some]
  exact ⟨_, rfl, hc⟩

end Go.Proofs.Ytopnablbecepjaa
