/- Plain laws of the models: no program in sight. -/
import Derived.Test.YtllhajkgkghhdaaGreatAM
import Derived.Test.YtllhajkgkghhdaaGreatAK1
set_option linter.unusedVariables false
set_option linter.unusedSimpArgs false
set_option maxHeartbeats 4000000
namespace Go.Proofs.YtllhajkgkghhdaaGreat
open Go.Gx
/-! ### Loops that stop early; lists without doubles -/
theorem while_upto {σ ρ : Type} {body : σ → Option (σ ⊕ ρ)} {s0 : σ} (st : Nat → σ) (ok : Nat → Bool) (bad r : ρ) (n : Nat) (h0 : s0 = st 0) (hn : n ≤ 4611686018427387904) (h : ∀ i, i < n → (∀ j, j < i → ok j = true) → body (st i) = some (bif ok i then .inl (st (i + 1)) else .inr bad)) (he : (∀ j, j < n → ok j = true) → body (st n) = some (.inr r)) :
    whileM body gxFuel s0 = some (bif (List.range n).all ok then r else bad) := by
  cases hf : (List.range n).find? (fun i => !(ok i)) with
  | none =>
    have hall : ∀ j, j < n → ok j = true := fun j hj => by
      have := List.find?_eq_none.1 hf j (List.mem_range.2 hj)
      simpa using this
    have : (List.range n).all ok = true := List.all_eq_true.2 fun j hj => hall j (List.mem_range.1 hj)
    rw [this]
    refine while_run st _ n h0 hn (fun i hi => ?_) (he hall)
    rw [h i hi (fun j hj => hall j (by omega)), hall i hi]
    rfl
  | some i =>
    obtain ⟨h1, h2, h3⟩ := List.find?_range_eq_some.1 hf
    have h2 := List.mem_range.1 h2
    have hb : ∀ j, j < i → ok j = true := fun j hj => by simpa using h3 j hj
    have hi : ok i = false := by simpa using h1
    have : (List.range n).all ok = false := List.all_eq_false.2 ⟨i, List.mem_range.2 h2, by simp [hi]⟩
    rw [this]
    refine while_run st _ i h0 (by omega) (fun j hj => ?_) ?_
    · rw [h j (by omega) (fun k hk => hb k (by omega)), hb j hj]
      rfl
    · rw [h i h2 hb, hi]
      rfl
theorem nodup_bound : ∀ (n : Nat) (l : List Nat), l.Nodup → (∀ x ∈ l, x < n) → l.length ≤ n
  | 0, [], _, _ => Nat.le_refl _
  | 0, x :: r, _, h => absurd (h x List.mem_cons_self) (Nat.not_lt_zero _)
  | n + 1, l, hd, h => by
    by_cases hn : n ∈ l
    · have hp := List.perm_cons_erase hn
      have hd2 := hp.nodup_iff.1 hd
      rw [List.nodup_cons] at hd2
      have hl := hp.length_eq
      have := nodup_bound n (l.erase n) hd2.2 fun x hx => by
        have h1 := h x (List.mem_of_mem_erase hx)
        have h2 : x ≠ n := fun e => hd2.1 (e ▸ hx)
        omega
      rw [List.length_cons] at hl
      omega
    · have := nodup_bound n l hd fun x hx => by
        have h1 := h x hx
        have h2 : x ≠ n := fun e => hn (e ▸ hx)
        omega
      omega
theorem nodup_perm {α : Type} [BEq α] [LawfulBEq α] : ∀ {a b : List α}, a.Nodup → (∀ x ∈ a, x ∈ b) → b.length ≤ a.length → a.Perm b
  | [], b, _, _, hl => by
    have : b = [] := List.length_eq_zero_iff.1 (by simpa using hl)
    rw [this]
  | x :: t, b, hd, h, hl => by
    rw [List.nodup_cons] at hd
    have hp := List.perm_cons_erase (h x List.mem_cons_self)
    have hlen := hp.length_eq
    have := nodup_perm (a := t) (b := b.erase x) hd.2 (fun y hy => by
      have h1 := hp.mem_iff.1 (h y (List.mem_cons_of_mem _ hy))
      rcases List.mem_cons.1 h1 with e | e
      · exact absurd (e ▸ hy) hd.1
      · exact e) (by simp at hl hlen; omega)
    exact (this.cons x).trans hp.symm
theorem first_lt {n : Nat} {p : Nat → Bool} : (match (List.range n).find? p with | some i => (i : Int) | none => -1) < 0 ↔ ∀ i, i < n → p i = false := by
  cases hf : (List.range n).find? p with
  | none =>
    simp only
    refine ⟨fun _ i hi => ?_, fun _ => by omega⟩
    have := List.find?_eq_none.1 hf i (List.mem_range.2 hi)
    simpa using this
  | some i =>
    obtain ⟨h1, h2, _⟩ := List.find?_range_eq_some.1 hf
    simp only
    refine ⟨fun h => by omega, fun h => ?_⟩
    rw [h i (List.mem_range.1 h2)] at h1
    cases h1
/-! ### Slots -/
def gS : Slot := ⟨0, 0, 0⟩
def mtS (q : Int) (s : Slot) : Bool := s.State != 0 && s.Irq == q
def fndS (xs : List Slot) (q : Int) : Int := match (List.range xs.length).find? (fun i => mtS q (xs.getD i gS)) with
  | some i => (i : Int)
  | none => -1
theorem s_find (xs : List Slot) (q : Int) (h : xs.length ≤ 1048576) : M.s_l8Find xs q = some (fndS xs q) := by
  unfold M.s_l8Find fndS
  rw [while_first (fun i => (i : Int)) (fun i => mtS q (xs.getD i gS)) (fun i => (Sum.inr (i : Int) : Unit ⊕ Int)) (Sum.inl ()) xs.length (by simp) (by omega)]
  · cases (List.range xs.length).find? (fun i => mtS q (xs.getD i gS)) <;> rfl
  · intro i hi
    have e0 : ((i : Int) < (xs.length : Int)) := by omega
    simp only [e0, decide_true, cond_true, gxIdx_nat hi, Option.bind_some, getD_at hi, w64_succ (show i ≤ 4611686018427387904 by omega), mtS]
    cases (xs[i].State != 0) with
    | false => rfl
    | true => cases (xs[i].Irq == q) <;> rfl
  · simp
theorem i_find (xs : List Slot) (q : Int) (h : xs.length ≤ 1048576) : M.i_findSlot xs q = some (fndS xs q) := by
  unfold M.i_findSlot M.slices_IndexFunc_210__i_findSlot_1 fndS
  rw [while_first (fun i => (i : Int)) (fun i => mtS q (xs.getD i gS)) (fun i => (Sum.inr (i : Int) : Unit ⊕ Int)) (Sum.inl ()) xs.length (by simp) (by omega)]
  · cases (List.range xs.length).find? (fun i => mtS q (xs.getD i gS)) <;> rfl
  · intro i hi
    have e0 : ((i : Int) < (xs.length : Int)) := by omega
    simp only [e0, decide_true, cond_true, gxIdx_nat hi, Option.bind_some, getD_at hi, w64_succ (show i ≤ 4611686018427387904 by omega), mtS, M.i_findSlot_1]
    cases (xs[i].State != 0) with
    | false => rfl
    | true => cases (xs[i].Irq == q) <;> rfl
  · simp
theorem fndS_neg {xs : List Slot} {q : Int} : fndS xs q < 0 ↔ ∀ i, (hi : i < xs.length) → mtS q xs[i] = false := by
  unfold fndS
  rw [first_lt]
  exact ⟨fun h i hi => by have := h i hi; rwa [getD_at hi] at this, fun h i hi => by rw [getD_at hi]; exact h i hi⟩
theorem fndS_at {xs : List Slot} {q : Int} (h : ¬ fndS xs q < 0) : ∃ i, ∃ hi : i < xs.length, fndS xs q = (i : Int) ∧ mtS q xs[i] = true ∧ ∀ j, (hj : j < i) → mtS q (xs[j]'(by omega)) = false := by
  unfold fndS at h ⊢
  cases hf : (List.range xs.length).find? (fun i => mtS q (xs.getD i gS)) with
  | none => rw [hf] at h; simp at h
  | some i =>
    obtain ⟨h1, h2, h3⟩ := List.find?_range_eq_some.1 hf
    have h2 := List.mem_range.1 h2
    rw [getD_at h2] at h1
    refine ⟨i, h2, rfl, h1, fun j hj => ?_⟩
    have := h3 j hj
    rw [getD_at (show j < xs.length by omega)] at this
    simpa using this
def inR (x a b : Int) : Bool := decide (a ≤ x) && decide (x ≤ b)
def freshS (xs : List Slot) (i : Nat) : Bool := (List.range i).all fun j => !(mtS (xs.getD i gS).Irq (xs.getD j gS))
def okSl (xs : List Slot) (i : Nat) : Bool := inR (xs.getD i gS).State 0 3 && (inR (xs.getD i gS).Irq 0 7 && (inR (xs.getD i gS).Priority 0 15 && (bif (xs.getD i gS).State == 0 then (xs.getD i gS).Irq == 0 && (xs.getD i gS).Priority == 0 else freshS xs i)))
def goodS (xs : List Slot) : Bool := (xs.length : Int) == 4 && (List.range xs.length).all (okSl xs)
theorem fresh_find {xs : List Slot} {i : Nat} (hi : i < xs.length) (hs : (xs[i].State == 0) = false) : (fndS xs xs[i].Irq != (i : Int)) = !(freshS xs i) := by
  have hm : mtS xs[i].Irq xs[i] = true := by unfold mtS; simp [bne, hs]
  have hnn : ¬ fndS xs xs[i].Irq < 0 := fun h => by rw [fndS_neg.1 h i hi] at hm; cases hm
  obtain ⟨k, hk, he, h1, h2⟩ := fndS_at hnn
  cases hf : freshS xs i with
  | true =>
    unfold freshS at hf
    rw [List.all_eq_true] at hf
    have hki : k = i := by
      rcases Nat.lt_trichotomy k i with h | h | h
      · have := hf k (List.mem_range.2 h)
        rw [getD_at hi, getD_at hk, h1] at this
        cases this
      · exact h
      · have := h2 i h
        rw [hm] at this
        cases this
    rw [he, hki]
    simp
  | false =>
    unfold freshS at hf
    rw [List.all_eq_false] at hf
    obtain ⟨j, hj, hjf⟩ := hf
    have hj := List.mem_range.1 hj
    rw [getD_at hi, getD_at (show j < xs.length by omega)] at hjf
    have hkj : k ≠ i := fun e => by
      have := h2 j (by omega)
      rw [this] at hjf
      simp at hjf
    rw [he]
    simp
    omega
theorem fresh_take {xs : List Slot} {i : Nat} (hi : i < xs.length) : decide (fndS (xs.take i) xs[i].Irq ≥ 0) = !(freshS xs i) := by
  have hl : (xs.take i).length = i := by simp; omega
  cases hf : freshS xs i with
  | true =>
    unfold freshS at hf
    rw [List.all_eq_true] at hf
    have : fndS (xs.take i) xs[i].Irq < 0 := fndS_neg.2 fun j hj => by
      have hji : j < i := by omega
      have := hf j (List.mem_range.2 hji)
      rw [getD_at hi, getD_at (show j < xs.length by omega)] at this
      rw [List.getElem_take]
      simpa using this
    have : ¬ (fndS (xs.take i) xs[i].Irq ≥ 0) := by omega
    simp [this]
  | false =>
    unfold freshS at hf
    rw [List.all_eq_false] at hf
    obtain ⟨j, hj, hjf⟩ := hf
    have hj := List.mem_range.1 hj
    rw [getD_at hi, getD_at (show j < xs.length by omega)] at hjf
    have : ¬ fndS (xs.take i) xs[i].Irq < 0 := fun h => by
      have := fndS_neg.1 h j (by omega)
      rw [List.getElem_take] at this
      rw [this] at hjf
      simp at hjf
    have : fndS (xs.take i) xs[i].Irq ≥ 0 := by omega
    simp [this]
theorem s_goodS (xs : List Slot) (h : xs.length ≤ 1048576) : M.s_l8Good xs = some (goodS xs) := by
  unfold M.s_l8Good goodS
  rw [while_all (fun i => (i : Int)) (okSl xs) (Sum.inr false : Unit ⊕ Bool) (Sum.inl ()) xs.length (by simp) (by omega)]
  · cases (List.range xs.length).all (okSl xs) <;> simp
  · intro i hi
    have e0 : ((i : Int) < (xs.length : Int)) := by omega
    simp only [e0, decide_true, cond_true, gxIdx_nat hi, Option.bind_some, M.s_l6Irq, M.s_l6Prio, s_in, w64_succ (show i ≤ 4611686018427387904 by omega)]
    unfold okSl inR
    rw [getD_at hi]
    cases (decide (0 ≤ xs[i].State) && decide (xs[i].State ≤ 3)) with
    | false => rfl
    | true => cases (decide (0 ≤ xs[i].Irq) && decide (xs[i].Irq ≤ 7)) with
      | false => rfl
      | true => cases (decide (0 ≤ xs[i].Priority) && decide (xs[i].Priority ≤ 15)) with
        | false => rfl
        | true =>
          cases hs : (xs[i].State == 0) with
          | true =>
            simp only [Bool.not_true, cond_false, cond_true, Option.bind_some, Bool.true_and, bne, hs]
            cases (xs[i].Irq == 0) with
            | false => rfl
            | true => cases (xs[i].Priority == 0) <;> rfl
          | false =>
            have := fresh_find hi hs
            simp only [Bool.not_true, Bool.not_false, cond_false, cond_true, Option.bind_some, Bool.true_and, bne, hs, s_find xs _ h] at this ⊢
            rw [this]
            cases freshS xs i <;> rfl
  · simp
theorem i_goodS (xs : List Slot) (h : xs.length ≤ 1048576) : M.i_AreSlots xs = some (goodS xs) := by
  unfold M.i_AreSlots goodS
  cases h4 : ((xs.length : Int) == 4) with
  | false => simp only [bne, h4, Bool.not_false, cond_true, Bool.false_and]
  | true =>
    simp only [bne, h4, Bool.not_true, cond_false, Bool.true_and]
    rw [while_all (fun i => (i : Int)) (okSl xs) (Sum.inr false : Unit ⊕ Bool) (Sum.inl ()) xs.length (by simp) (by omega)]
    · cases (List.range xs.length).all (okSl xs) <;> simp
    · intro i hi
      have e0 : ((i : Int) < (xs.length : Int)) := by omega
      have hsl : gxSlice xs 0 (i : Int) = some (xs.take i) := by
        unfold gxSlice
        rw [if_pos ⟨by omega, by omega, by omega⟩]
        simp
      have hfd := i_find (xs.take i) xs[i].Irq (by simp; omega)
      simp only [e0, decide_true, cond_true, gxIdx_nat hi, Option.bind_some, M.i_isIrq, M.i_isPriority, i_in, w64_succ (show i ≤ 4611686018427387904 by omega), hsl, hfd, fresh_take hi]
      unfold okSl inR
      rw [getD_at hi]
      cases hs : (xs[i].State == 0) with
      | true =>
        have hs0 : xs[i].State = 0 := by simpa using hs
        simp only [cond_true, hs, Bool.true_and, Bool.and_true, hs0]
        cases h1 : (xs[i].Irq == 0) with
        | false => simp
        | true => cases h2 : (xs[i].Priority == 0) with
          | false => simp
          | true =>
            have h1 : xs[i].Irq = 0 := by simpa using h1
            have h2 : xs[i].Priority = 0 := by simpa using h2
            simp [h1, h2]
      | false =>
        have hs0 : xs[i].State ≠ 0 := by simpa using hs
        have e1 : (decide (1 ≤ xs[i].State) && decide (xs[i].State ≤ 3)) = (decide (0 ≤ xs[i].State) && decide (xs[i].State ≤ 3)) := by
          rw [Bool.eq_iff_iff]
          simp only [Bool.and_eq_true, decide_eq_true_eq]
          omega
        simp only [cond_false, e1]
        cases (decide (0 ≤ xs[i].State) && decide (xs[i].State ≤ 3)) with
        | false => rfl
        | true => cases (decide (0 ≤ xs[i].Irq) && decide (xs[i].Irq ≤ 7)) with
          | false => rfl
          | true => cases (decide (0 ≤ xs[i].Priority) && decide (xs[i].Priority ≤ 15)) with
            | false => rfl
            | true =>
              simp only [Bool.not_true, cond_false, Option.bind_some, Bool.true_and]
              cases freshS xs i <;> rfl
    · simp
/-! ### Urgency -/
def lessU (p q r s : Int) : Bool := decide (p < r) || (p == r && decide (q < s))
theorem s_less (p q r s : Int) : M.s_l8Less p q r s = some (lessU p q r s) := by
  unfold M.s_l8Less lessU
  by_cases h : p < r
  · simp [h]
  · simp only [h, decide_false, cond_false, Bool.false_or]
    cases (p == r) <;> rfl
def cmpI (a b : Int) : Int := if a < b then -1 else if a > b then 1 else 0
theorem i_cmp (a b : Int) : M.cmp_Compare_170 a b = some (cmpI a b) := by
  unfold M.cmp_Compare_170 M.cmp_isNaN_222 cmpI
  simp only [bne_self_eq_false, Option.bind_some, cond_false]
  by_cases h : a < b
  · simp [h]
  · by_cases h2 : a > b
    · simp [h, h2]
    · simp [h, h2]
def cmpU (a b : Waiter) : Int := if cmpI a.Priority b.Priority ≠ 0 then cmpI a.Priority b.Priority else cmpI a.Irq b.Irq
theorem i_cmpU (a b : Waiter) : M.i_compareUrgency a b = some (cmpU a b) := by
  unfold M.i_compareUrgency M.cmp_Or_169 cmpU
  simp only [i_cmp, Option.bind_some]
  by_cases h1 : cmpI a.Priority b.Priority = 0
  · by_cases h2 : cmpI a.Irq b.Irq = 0
    · rw [while_run (fun i => (i : Int)) (Sum.inl ()) 2 (by simp) (by omega)]
      · simp [h1, h2]
      · intro i hi
        have hi' : i = 0 ∨ i = 1 := by omega
        rcases hi' with rfl | rfl <;> simp [gxIdx, h1, h2] <;> rfl
      · rfl
    · rw [while_run (fun i => (i : Int)) (Sum.inr (cmpI a.Irq b.Irq)) 1 (by simp) (by omega)]
      · simp [h1]
      · intro i hi
        have hi' : i = 0 := by omega
        subst hi'
        simp [gxIdx, h1]
        rfl
      · simp [gxIdx, bne_iff_ne.2 h2]
  · rw [while_run (fun i => (i : Int)) (Sum.inr (cmpI a.Priority b.Priority)) 0 (by simp) (by omega)]
    · simp [h1]
    · intro i hi; omega
    · simp [gxIdx, bne_iff_ne.2 h1]
theorem cmpU_lt (a b : Waiter) : decide (cmpU a b < 0) = lessU a.Priority a.Irq b.Priority b.Irq := by
  unfold cmpU cmpI lessU
  rw [Bool.eq_iff_iff]
  simp only [decide_eq_true_eq, Bool.or_eq_true, Bool.and_eq_true, beq_iff_eq]
  by_cases h1 : a.Priority < b.Priority <;> by_cases h2 : a.Priority > b.Priority <;> by_cases h3 : a.Irq < b.Irq <;> by_cases h4 : a.Irq > b.Irq <;> simp [h1, h2, h3, h4] <;> omega
theorem cmpU_gt (a b : Waiter) : decide (cmpU a b > 0) = lessU b.Priority b.Irq a.Priority a.Irq := by
  unfold cmpU cmpI lessU
  rw [Bool.eq_iff_iff]
  simp only [decide_eq_true_eq, Bool.or_eq_true, Bool.and_eq_true, beq_iff_eq]
  by_cases h1 : a.Priority < b.Priority <;> by_cases h2 : a.Priority > b.Priority <;> by_cases h3 : a.Irq < b.Irq <;> by_cases h4 : a.Irq > b.Irq <;> simp [h1, h2, h3, h4] <;> omega
theorem cmpU_ge (a b : Waiter) : decide (cmpU a b ≥ 0) = !(lessU a.Priority a.Irq b.Priority b.Irq) := by
  rw [← cmpU_lt, ← decide_not]
  congr 1
  rw [eq_iff_iff]
  omega

end Go.Proofs.YtllhajkgkghhdaaGreat
