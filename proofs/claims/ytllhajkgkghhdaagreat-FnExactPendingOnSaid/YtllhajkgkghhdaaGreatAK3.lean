/- Plain laws of the models: no program in sight. -/
import Derived.Test.YtllhajkgkghhdaaGreatAM
import Derived.Test.YtllhajkgkghhdaaGreatAK2
set_option linter.unusedVariables false
set_option linter.unusedSimpArgs false
set_option maxHeartbeats 4000000
namespace Go.Proofs.YtllhajkgkghhdaaGreat
open Go.Gx
/-! ### Those that wait -/
def gW : Waiter := ⟨0, 0⟩
def freshW (ws : List Waiter) (i : Nat) : Bool := (List.range i).all fun j => !((ws.getD j gW).Irq == (ws.getD i gW).Irq)
def okW (xs : List Slot) (ws : List Waiter) (i : Nat) : Bool := inR (ws.getD i gW).Irq 0 7 && (inR (ws.getD i gW).Priority 0 15 && (decide (fndS xs (ws.getD i gW).Irq < 0) && (freshW ws i && (decide (i = 0) || lessU (ws.getD (i - 1) gW).Priority (ws.getD (i - 1) gW).Irq (ws.getD i gW).Priority (ws.getD i gW).Irq))))
def goodP (xs : List Slot) (ws : List Waiter) : Bool := goodS xs && (List.range ws.length).all (okW xs ws)
theorem okW_irq {xs : List Slot} {ws : List Waiter} {i : Nat} (h : okW xs ws i = true) : (0 ≤ (ws.getD i gW).Irq ∧ (ws.getD i gW).Irq ≤ 7) ∧ ∀ j, j < i → (ws.getD j gW).Irq ≠ (ws.getD i gW).Irq := by
  unfold okW inR freshW at h
  simp only [Bool.and_eq_true, decide_eq_true_eq, List.all_eq_true] at h
  refine ⟨h.1, fun j hj => ?_⟩
  have := h.2.2.2.1 j (List.mem_range.2 hj)
  simpa using this
theorem w_len {xs : List Slot} {ws : List Waiter} (h : ∀ i, i < 9 → i < ws.length → okW xs ws i = true) : ws.length ≤ 8 := by
  by_cases hl : ws.length ≤ 8
  · exact hl
  · exfalso
    have h9 : ∀ i, i < 9 → okW xs ws i = true := fun i hi => h i hi (by omega)
    have := nodup_bound 8 ((List.range 9).map fun i => (ws.getD i gW).Irq.toNat) (by
      rw [List.Nodup, List.pairwise_map]
      refine List.Pairwise.imp_of_mem (fun {a b} ha hb hab => ?_) List.pairwise_lt_range
      have h1 := okW_irq (h9 a (List.mem_range.1 ha))
      have h2 := okW_irq (h9 b (List.mem_range.1 hb))
      have h3 := h2.2 a hab
      omega) (fun x hx => by
      obtain ⟨i, hi, rfl⟩ := List.mem_map.1 hx
      have h1 := okW_irq (h9 i (List.mem_range.1 hi))
      omega)
    simp at this
theorem gxIdx_prevZ {α : Type} {xs : List α} {i : Nat} {z : α} (h : i < xs.length) (h0 : 0 < i) (hl : i ≤ 4611686018427387904) : gxIdx xs (w64 ((i : Int) - 1)) = some (xs.getD (i - 1) z) := by
  rw [w64_id (by omega) (by omega)]
  obtain ⟨k, rfl⟩ : ∃ k, i = k + 1 := ⟨i - 1, by omega⟩
  have e : ((k + 1 : Nat) : Int) - 1 = (k : Int) := by omega
  rw [e, gxIdx_nat (by omega), Nat.add_sub_cancel, getD_at (by omega)]
theorem s_waiting (xs : List Slot) (ws : List Waiter) (hx : xs.length ≤ 1048576) (hw : ws.length ≤ 1048576) : M.s_l9Waiting xs ws = some (goodP xs ws) := by
  unfold M.s_l9Waiting
  rw [while_all (fun i => (i : Int)) (okW xs ws) (Sum.inr false : Unit ⊕ Bool) (Sum.inl ()) (min ws.length 9) (by simp) (by omega)]
  · have hval : (bif (List.range (min ws.length 9)).all (okW xs ws) then (goodS xs && decide ((ws.length : Int) ≤ 8)) else false) = goodP xs ws := by
      unfold goodP
      cases ha : (List.range (min ws.length 9)).all (okW xs ws) with
      | true =>
        rw [List.all_eq_true] at ha
        have h8 := w_len (xs := xs) (ws := ws) fun i h9 hi => ha i (List.mem_range.2 (by omega))
        have hall : (List.range ws.length).all (okW xs ws) = true := List.all_eq_true.2 fun i hi => ha i (List.mem_range.2 (by have := List.mem_range.1 hi; omega))
        have h8' : ((ws.length : Int) ≤ 8) := by omega
        simp [hall, h8']
      | false =>
        rw [List.all_eq_false] at ha
        obtain ⟨i, hi, hf⟩ := ha
        have hall : (List.range ws.length).all (okW xs ws) = false := List.all_eq_false.2 ⟨i, List.mem_range.2 (by have := List.mem_range.1 hi; omega), hf⟩
        simp [hall]
    rw [← hval]
    cases (List.range (min ws.length 9)).all (okW xs ws) with
    | false => simp
    | true =>
      simp only [cond_true, Option.bind_some, Sum.elim_inl, s_goodS xs hx]
      cases goodS xs <;> rfl
  · intro i hi
    have hi' : i < ws.length := by omega
    have e0 : ((i : Int) < (ws.length : Int)) := by omega
    have e8 : ((i : Int) ≤ 8) := by omega
    simp only [e0, e8, decide_true, cond_true, gxIdx_nat hi', Option.bind_some, M.s_l6Irq, M.s_l6Prio, s_in, s_find xs _ hx, s_less]
    unfold okW inR
    rw [getD_at hi']
    cases (decide (0 ≤ ws[i].Irq) && decide (ws[i].Irq ≤ 7)) with
    | false => rfl
    | true => cases (decide (0 ≤ ws[i].Priority) && decide (ws[i].Priority ≤ 15)) with
      | false => rfl
      | true =>
        by_cases hf : fndS xs ws[i].Irq < 0
        · have hf2 : ¬ (fndS xs ws[i].Irq ≥ 0) := by omega
          simp only [hf, hf2, decide_true, decide_false, Bool.not_true, cond_false, Option.bind_some, Bool.true_and]
          have hin : whileM (σ := Int) (ρ := (Unit) ⊕ (Bool)) (fun s1770 =>
              bif decide (s1770 < (i : Int)) then (Option.bind (gxIdx ws s1770) fun y1782 =>
              bif y1782.Irq == ws[i].Irq then some (.inr (.inr false))
              else some (.inl (w64 (s1770 + 1))))
              else some (.inr (.inl ()))) gxFuel 0 = some (bif freshW ws i then .inl () else .inr false) := by
            unfold freshW
            refine while_all (fun j => (j : Int)) (fun j => !((ws.getD j gW).Irq == (ws.getD i gW).Irq)) (Sum.inr false : Unit ⊕ Bool) (Sum.inl ()) i (by simp) (by omega) (fun j hj => ?_) ?_
            · have e1 : ((j : Int) < (i : Int)) := by omega
              simp only [e1, decide_true, cond_true, gxIdx_nat (show j < ws.length by omega), Option.bind_some, getD_at hi', getD_at (show j < ws.length by omega), w64_succ (show j ≤ 4611686018427387904 by omega)]
              cases (ws[j].Irq == ws[i].Irq) <;> rfl
            · simp
          by_cases h0 : i = 0
          · subst h0
            have hz : ¬ (((0 : Nat) : Int) > 0) := by omega
            simp only [hz, decide_false, cond_false, Option.bind_some, decide_true, Bool.true_or, Bool.and_true]
            rw [hin]
            cases freshW ws 0 <;> rfl
          · have hz : ((i : Int) > 0) := by omega
            simp only [hz, h0, decide_true, decide_false, cond_true, Option.bind_some, Bool.false_or, gxIdx_prevZ (z := gW) hi' (show 0 < i by omega) (by omega)]
            cases lessU (ws.getD (i - 1) gW).Priority (ws.getD (i - 1) gW).Irq ws[i].Priority ws[i].Irq with
            | false => simp
            | true =>
              simp only [Bool.not_true, cond_false, Bool.and_true]
              rw [hin, Option.bind_some]
              cases freshW ws i with
              | false => rfl
              | true =>
                simp only [cond_true, Sum.elim_inl, w64_succ (show i ≤ 4611686018427387904 by omega)]
        · have hf2 : (fndS xs ws[i].Irq ≥ 0) := by omega
          simp [hf, hf2]
  · by_cases hl : ws.length ≤ 9
    · have e1 : min ws.length 9 = ws.length := by omega
      rw [e1]
      simp
    · have e1 : min ws.length 9 = 9 := by omega
      have e2 : (((9 : Nat) : Int) < (ws.length : Int)) := by omega
      rw [e1]
      simp only [e2, decide_true, cond_true]
      rfl
theorem i_windex (ws : List Waiter) (i : Nat) (hi : i < ws.length) (hw : ws.length ≤ 1048576) : ∃ r, M.i_waiterIndex (ws.take i) ws[i].Irq = some r ∧ decide (r ≥ 0) = !(freshW ws i) := by
  unfold M.i_waiterIndex M.slices_IndexFunc_166__i_waiterIndex_1
  have hl : (ws.take i).length = i := by simp; omega
  rw [while_first (fun j => (j : Int)) (fun j => (ws.getD j gW).Irq == (ws.getD i gW).Irq) (fun j => (Sum.inr (j : Int) : Unit ⊕ Int)) (Sum.inl ()) i (by simp) (by omega)]
  · unfold freshW
    cases hf : (List.range i).find? (fun j => (ws.getD j gW).Irq == (ws.getD i gW).Irq) with
    | none =>
      have hall : (List.range i).all (fun j => !((ws.getD j gW).Irq == (ws.getD i gW).Irq)) = true := List.all_eq_true.2 fun j hj => by
        have := List.find?_eq_none.1 hf j hj
        simpa using this
      rw [hall]
      exact ⟨_, rfl, rfl⟩
    | some j =>
      obtain ⟨h1, h2, _⟩ := List.find?_range_eq_some.1 hf
      have hall : (List.range i).all (fun j => !((ws.getD j gW).Irq == (ws.getD i gW).Irq)) = false := List.all_eq_false.2 ⟨j, h2, by simpa using h1⟩
      rw [hall]
      have : ((j : Int) ≥ 0) := by omega
      exact ⟨_, rfl, by simp [this]⟩
  · intro j hj
    have e0 : ((j : Int) < ((ws.take i).length : Int)) := by omega
    have hj' : j < (ws.take i).length := by omega
    simp only [e0, decide_true, cond_true, gxIdx_nat hj', List.getElem_take, Option.bind_some, M.i_waiterIndex_1, getD_at hi, getD_at (show j < ws.length by omega), w64_succ (show j ≤ 4611686018427387904 by omega)]
    cases (ws[j].Irq == ws[i].Irq) <;> rfl
  · rw [hl]
    simp
theorem i_parts (xs : List Slot) (ws : List Waiter) (hx : xs.length ≤ 1048576) (hw : ws.length ≤ 1048576) : M.i_areParts xs ws = some (goodP xs ws) := by
  unfold M.i_areParts goodP
  rw [i_goodS xs hx, Option.bind_some]
  cases goodS xs with
  | false => rfl
  | true =>
    simp only [Bool.not_true, cond_false, Bool.true_and]
    rw [while_all (fun i => (i : Int)) (okW xs ws) (Sum.inr false : Unit ⊕ Bool) (Sum.inl ()) ws.length (by simp) (by omega)]
    · cases (List.range ws.length).all (okW xs ws) <;> simp
    · intro i hi
      have e0 : ((i : Int) < (ws.length : Int)) := by omega
      have hsl : gxSlice ws 0 (i : Int) = some (ws.take i) := by
        unfold gxSlice
        rw [if_pos ⟨by omega, by omega, by omega⟩]
        simp
      obtain ⟨r, hr, hr2⟩ := i_windex ws i hi hw
      simp only [e0, decide_true, cond_true, gxIdx_nat hi, Option.bind_some, M.i_isIrq, M.i_isPriority, i_in, i_find xs _ hx, hsl, hr, hr2, i_cmpU, cmpU_ge, w64_succ (show i ≤ 4611686018427387904 by omega)]
      unfold okW inR
      rw [getD_at hi]
      cases (decide (0 ≤ ws[i].Irq) && decide (ws[i].Irq ≤ 7)) with
      | false => rfl
      | true => cases (decide (0 ≤ ws[i].Priority) && decide (ws[i].Priority ≤ 15)) with
        | false => rfl
        | true =>
          by_cases hf : fndS xs ws[i].Irq < 0
          · have hf2 : ¬ (fndS xs ws[i].Irq ≥ 0) := by omega
            simp only [hf, hf2, decide_true, decide_false, Bool.not_true, cond_false, Option.bind_some, Bool.true_and]
            cases freshW ws i with
            | false => rfl
            | true =>
              by_cases h0 : i = 0
              · subst h0
                have hz : ¬ (((0 : Nat) : Int) > 0) := by omega
                simp [hz]
              · have hz : ((i : Int) > 0) := by omega
                simp only [hz, h0, decide_true, decide_false, Bool.not_true, cond_false, cond_true, Option.bind_some, Bool.false_or, Bool.true_and, gxIdx_prevZ (z := gW) hi (show 0 < i by omega) (by omega)]
                cases lessU (ws.getD (i - 1) gW).Priority (ws.getD (i - 1) gW).Irq ws[i].Priority ws[i].Irq <;> rfl
          · have hf2 : (fndS xs ws[i].Irq ≥ 0) := by omega
            simp [hf, hf2]
    · simp
/-! ### Settled -/
def frS (xs : List Slot) : Int := match (List.range xs.length).find? (fun i => (xs.getD i gS).State == 0) with
  | some i => (i : Int)
  | none => -1
theorem s_free (xs : List Slot) (h : xs.length ≤ 1048576) : M.s_l8Free xs = some (frS xs) := by
  unfold M.s_l8Free frS
  rw [while_first (fun i => (i : Int)) (fun i => (xs.getD i gS).State == 0) (fun i => (Sum.inr (i : Int) : Unit ⊕ Int)) (Sum.inl ()) xs.length (by simp) (by omega)]
  · cases (List.range xs.length).find? (fun i => (xs.getD i gS).State == 0) <;> rfl
  · intro i hi
    have e0 : ((i : Int) < (xs.length : Int)) := by omega
    simp only [e0, decide_true, cond_true, gxIdx_nat hi, Option.bind_some, getD_at hi, w64_succ (show i ≤ 4611686018427387904 by omega)]
    cases (xs[i].State == 0) <;> rfl
  · simp
theorem i_free (xs : List Slot) (h : xs.length ≤ 1048576) : M.i_firstEmpty xs = some (frS xs) := by
  unfold M.i_firstEmpty M.slices_IndexFunc_210__i_firstEmpty_1 frS
  rw [while_first (fun i => (i : Int)) (fun i => (xs.getD i gS).State == 0) (fun i => (Sum.inr (i : Int) : Unit ⊕ Int)) (Sum.inl ()) xs.length (by simp) (by omega)]
  · cases (List.range xs.length).find? (fun i => (xs.getD i gS).State == 0) <;> rfl
  · intro i hi
    have e0 : ((i : Int) < (xs.length : Int)) := by omega
    simp only [e0, decide_true, cond_true, gxIdx_nat hi, Option.bind_some, M.i_firstEmpty_1, getD_at hi, w64_succ (show i ≤ 4611686018427387904 by omega)]
    cases (xs[i].State == 0) <;> rfl
  · simp
def bestF (xs : List Slot) : Nat → Int
  | 0 => -1
  | i + 1 => bif (xs.getD i gS).State == 1 then (bif decide (bestF xs i < 0) || lessU (xs.getD (bestF xs i).toNat gS).Priority (xs.getD (bestF xs i).toNat gS).Irq (xs.getD i gS).Priority (xs.getD i gS).Irq then (i : Int) else bestF xs i) else bestF xs i
theorem bestF_at (xs : List Slot) : ∀ i, bestF xs i < 0 ∨ ∃ k, k < i ∧ bestF xs i = (k : Int) ∧ (xs.getD k gS).State = 1
  | 0 => Or.inl (by simp [bestF])
  | i + 1 => by
    have ih := bestF_at xs i
    have hih : bestF xs i < 0 ∨ ∃ k, k < i + 1 ∧ bestF xs i = (k : Int) ∧ (xs.getD k gS).State = 1 := by
      rcases ih with h | ⟨k, h1, h2, h3⟩
      · exact Or.inl h
      · exact Or.inr ⟨k, by omega, h2, h3⟩
    unfold bestF
    cases hs : ((xs.getD i gS).State == 1) with
    | false => exact hih
    | true =>
      simp only [cond_true]
      cases (decide (bestF xs i < 0) || lessU (xs.getD (bestF xs i).toNat gS).Priority (xs.getD (bestF xs i).toNat gS).Irq (xs.getD i gS).Priority (xs.getD i gS).Irq) with
      | false => exact hih
      | true => exact Or.inr ⟨i, by omega, rfl, by simpa using hs⟩
theorem s_best (xs : List Slot) (h : xs.length ≤ 1048576) : M.s_l8Best xs false = some (bestF xs xs.length) := by
  unfold M.s_l8Best
  rw [while_run (fun i => (bestF xs i, (i : Int))) (bestF xs xs.length) xs.length (by simp [bestF]) (by omega)]
  · rfl
  · intro i hi
    have e0 : ((i : Int) < (xs.length : Int)) := by omega
    simp only [e0, decide_true, cond_true, gxIdx_nat hi, Option.bind_some, s_less, w64_succ (show i ≤ 4611686018427387904 by omega)]
    have hb : bestF xs (i + 1) = bif xs[i].State == 1 then (bif decide (bestF xs i < 0) || lessU (xs.getD (bestF xs i).toNat gS).Priority (xs.getD (bestF xs i).toNat gS).Irq xs[i].Priority xs[i].Irq then (i : Int) else bestF xs i) else bestF xs i := by
      rw [bestF, getD_at hi]
    rw [hb]
    cases hs : (xs[i].State == 1) with
    | false => simp [bne, hs]
    | true =>
      simp only [bne, hs, Bool.not_true, cond_false, cond_true]
      rcases bestF_at xs i with hn | ⟨k, hk, he, _⟩
      · simp [hn]
      · have hkl : k < xs.length := by omega
        have hnn : ¬ ((k : Int) < 0) := by omega
        simp only [he, hnn, decide_false, cond_false, Bool.not_false, cond_true, gxIdx_nat hkl, Option.bind_some, Int.toNat_natCast, getD_at hkl, Bool.false_or]
        cases lessU xs[k].Priority xs[k].Irq xs[i].Priority xs[i].Irq <;> rfl
  · simp
theorem lessU_not {p q r s : Int} (h : q ≠ s) : (!(lessU p q r s)) = lessU r s p q := by
  unfold lessU
  rw [Bool.eq_iff_iff]
  simp only [Bool.not_eq_true', Bool.or_eq_false_iff, Bool.and_eq_false_iff, decide_eq_false_iff_not, Bool.or_eq_true, Bool.and_eq_true, decide_eq_true_eq, beq_iff_eq, beq_eq_false_iff_ne]
  omega
theorem irq_ne {xs : List Slot} (hg : goodS xs = true) {k i : Nat} (hk : k < i) (hi : i < xs.length) (hs : (xs[i].State == 0) = false) (hs2 : ((xs[k]'(by omega)).State == 0) = false) : (xs[k]'(by omega)).Irq ≠ xs[i].Irq := by
  unfold goodS at hg
  rw [Bool.and_eq_true, List.all_eq_true] at hg
  have := hg.2 i (List.mem_range.2 hi)
  unfold okSl freshS at this
  rw [getD_at hi, hs] at this
  simp only [Bool.and_eq_true, cond_false, List.all_eq_true] at this
  have h2 := this.2.2.2 k (List.mem_range.2 hk)
  rw [getD_at (show k < xs.length by omega)] at h2
  unfold mtS at h2
  simp only [bne, hs2, Bool.not_false, Bool.true_and, Bool.not_eq_true', beq_eq_false_iff_ne] at h2
  exact h2
theorem i_best (xs : List Slot) (h : xs.length ≤ 1048576) (hg : goodS xs = true) : M.i_pendingSlot xs false = some (bestF xs xs.length) := by
  unfold M.i_pendingSlot
  rw [while_run (fun i => (bestF xs i, (i : Int))) (bestF xs xs.length) xs.length (by simp [bestF]) (by omega)]
  · rfl
  · intro i hi
    have e0 : ((i : Int) < (xs.length : Int)) := by omega
    simp only [e0, decide_true, cond_true, gxIdx_nat hi, Option.bind_some, M.i_waiterOf, i_cmpU, w64_succ (show i ≤ 4611686018427387904 by omega)]
    have hb : bestF xs (i + 1) = bif xs[i].State == 1 then (bif decide (bestF xs i < 0) || lessU (xs.getD (bestF xs i).toNat gS).Priority (xs.getD (bestF xs i).toNat gS).Irq xs[i].Priority xs[i].Irq then (i : Int) else bestF xs i) else bestF xs i := by
      rw [bestF, getD_at hi]
    rw [hb]
    cases hs : (xs[i].State == 1) with
    | false => simp
    | true =>
      simp only [cond_true]
      rcases bestF_at xs i with hn | ⟨k, hk, he, hk1⟩
      · simp [hn]
      · have hkl : k < xs.length := by omega
        have hnn : ¬ ((k : Int) < 0) := by omega
        rw [getD_at hkl] at hk1
        have hs1 : xs[i].State = 1 := by simpa using hs
        have hne := irq_ne hg hk hi (by simp [hs1]) (by simp [hk1])
        have hl := lessU_not (p := xs[i].Priority) (r := xs[k].Priority) (q := xs[i].Irq) (s := xs[k].Irq) (fun e => hne e.symm)
        simp only [he, hnn, decide_false, cond_false, gxIdx_nat hkl, Option.bind_some, Int.toNat_natCast, getD_at hkl, Bool.false_or, cmpU_lt, beq_false, hl]
        cases lessU xs[k].Priority xs[k].Irq xs[i].Priority xs[i].Irq <;> rfl
  · simp
def setQ (q : Queue) : Bool := bif (q.Waiting.length : Int) == 0 then true else (bif decide (frS q.Slots ≥ 0) then false else (bif decide (bestF q.Slots q.Slots.length < 0) then true else lessU (q.Slots.getD (bestF q.Slots q.Slots.length).toNat gS).Priority (q.Slots.getD (bestF q.Slots q.Slots.length).toNat gS).Irq (q.Waiting.getD 0 gW).Priority (q.Waiting.getD 0 gW).Irq))
theorem s_settled (q : Queue) (h : q.Slots.length ≤ 1048576) : M.s_l9Settled q = some (setQ q) := by
  unfold M.s_l9Settled setQ
  cases hw : ((q.Waiting.length : Int) == 0) with
  | true => rfl
  | false =>
    have hw' : 0 < q.Waiting.length := by
      have : ¬ ((q.Waiting.length : Int) = 0) := by simpa using hw
      omega
    have h0 : gxIdx q.Waiting 0 = some (q.Waiting.getD 0 gW) := by rw [getD_at hw']; exact gxIdx_nat hw'
    simp only [cond_false, s_free _ h, Option.bind_some, s_best _ h, s_less, h0]
    cases decide (frS q.Slots ≥ 0) with
    | true => rfl
    | false =>
      simp only [cond_false]
      rcases bestF_at q.Slots q.Slots.length with hn | ⟨k, hk, he, _⟩
      · simp [hn]
      · have hnn : ¬ ((k : Int) < 0) := by omega
        simp only [he, hnn, decide_false, cond_false, gxIdx_nat hk, Option.bind_some, Int.toNat_natCast, getD_at hk]
theorem i_settled (q : Queue) (h : q.Slots.length ≤ 1048576) (hg : goodS q.Slots = true) : M.i_isSettled q = some (setQ q) := by
  unfold M.i_isSettled setQ
  cases hw : ((q.Waiting.length : Int) == 0) with
  | true => rfl
  | false =>
    have hw' : 0 < q.Waiting.length := by
      have : ¬ ((q.Waiting.length : Int) = 0) := by simpa using hw
      omega
    have h0 : gxIdx q.Waiting 0 = some (q.Waiting.getD 0 gW) := by rw [getD_at hw']; exact gxIdx_nat hw'
    simp only [cond_false, i_free _ h, Option.bind_some, i_best _ h hg, i_cmpU, h0, M.i_waiterOf, cmpU_gt]
    by_cases hf : frS q.Slots < 0
    · have hf2 : ¬ (frS q.Slots ≥ 0) := by omega
      simp only [hf, hf2, decide_true, decide_false, cond_true, cond_false]
      rcases bestF_at q.Slots q.Slots.length with hn | ⟨k, hk, he, _⟩
      · simp [hn]
      · have hnn : ¬ ((k : Int) < 0) := by omega
        simp only [he, hnn, decide_false, cond_false, gxIdx_nat hk, Option.bind_some, Int.toNat_natCast, getD_at hk]
    · have hf2 : (frS q.Slots ≥ 0) := by omega
      simp [hf, hf2]
def goodQ (q : Queue) : Bool := goodP q.Slots q.Waiting && setQ q
theorem s_goodQ (q : Queue) (h : q.Slots.length ≤ 1048576 ∧ q.Waiting.length ≤ 1048576) : M.s_l9Good q = some (goodQ q) := by
  unfold M.s_l9Good goodQ
  rw [s_waiting _ _ h.1 h.2, Option.bind_some, s_settled q h.1]
  cases goodP q.Slots q.Waiting <;> rfl
theorem i_goodQ (q : Queue) (h : q.Slots.length ≤ 1048576 ∧ q.Waiting.length ≤ 1048576) : M.i_IsQueue q = some (goodQ q) := by
  unfold M.i_IsQueue goodQ
  rw [i_parts _ _ h.1 h.2, Option.bind_some]
  cases hg : goodP q.Slots q.Waiting with
  | false => rfl
  | true =>
    unfold goodP at hg
    rw [Bool.and_eq_true] at hg
    rw [cond_true, i_settled q h.1 hg.1]
    rfl

end Go.Proofs.YtllhajkgkghhdaaGreat
