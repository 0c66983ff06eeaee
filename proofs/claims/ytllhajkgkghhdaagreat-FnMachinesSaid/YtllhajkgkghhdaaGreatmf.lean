/- Part of a proof: what its last text rests on. -/
import Derived.Lib.SmallJoins
import Derived.Below
import Derived.Carry
import Derived.ChangeOld
import Derived.Test.YtllhajkgkghhdaaGreatRows
import Derived.WalkKit
import Derived.ProofKit
import Derived.OpenShut
import Derived.ShutString
import Derived.Test.YtllhajkgkghhdaaGreatme
set_option linter.unusedVariables false
set_option linter.unusedSimpArgs false
set_option maxHeartbeats 4000000
namespace Go.Proofs.YtllhajkgkghhdaaGreat
open Go.Gx
def setSt (s : Slot) (st : Int) : Slot := ⟨st, s.Irq, s.Priority⟩
theorem gs_state {xs : List Slot} (h : GS xs) {i : Nat} (hi : i < xs.length) (h0 : xs[i].State ≠ 0) {st : Int} (hst : 1 ≤ st ∧ st ≤ 3) : GS (xs.set i (setSt xs[i] st)) := by
  have ho := h.ok _ (List.getElem_mem hi)
  refine gs_set h hi ⟨⟨by simp only [setSt]; omega, by simp only [setSt]; omega⟩, ho.2.1, fun e => by simp only [setSt] at e; omega⟩ fun j hj hji => ?_
  rcases sep_at h.sep hi hj hji with g | g | g
  · exact Or.inl g
  · exact absurd g h0
  · exact Or.inr (Or.inr g)
theorem gs_empty {xs : List Slot} (h : GS xs) {i : Nat} (hi : i < xs.length) : GS (xs.set i gS) := by
  refine gs_set h hi ⟨by simp [gS], by simp [okWt, wOf, gS], fun _ => by simp [gS]⟩ fun j hj hji => Or.inr (Or.inl rfl)
theorem fnd_at {xs : List Slot} {q : Int} (h : ¬ fndS xs q < 0) : ∃ i : Nat, ∃ hi : i < xs.length, fndS xs q = (i : Int) ∧ xs[i].State ≠ 0 ∧ xs[i].Irq = q := by
  obtain ⟨i, hi, he, hm, _⟩ := fndS_at h
  unfold mtS at hm
  rw [Bool.and_eq_true, bne_iff_ne, beq_iff_eq] at hm
  exact ⟨i, hi, he, hm.1, hm.2⟩
theorem fnd_is {xs : List Slot} (h : GS xs) {i : Nat} (hi : i < xs.length) (h0 : xs[i].State ≠ 0) : fndS xs xs[i].Irq = (i : Int) := by
  have hn : ¬ fndS xs xs[i].Irq < 0 := fun hn => by
    rcases fndS_none.1 hn _ (List.getElem_mem hi) with g | g
    · exact h0 g
    · exact g rfl
  obtain ⟨k, hk, he, hk0, hk1⟩ := fnd_at hn
  by_cases e : k = i
  · rw [he, e]
  · rcases sep_at h.sep hi hk e with g | g | g
    · exact absurd g hk0
    · exact absurd g h0
    · exact absurd hk1 g
def putF (s : Slot) : Slot := bif s.State == 2 then setSt s 3 else s
def putL (xs : List Slot) (w : Waiter) : Option (List Slot) :=
  bif decide (fndS xs w.Irq ≥ 0) then some (xs.set (fndS xs w.Irq).toNat (putF (xs.getD (fndS xs w.Irq).toNat gS)))
  else (bif decide (frS xs ≥ 0) then some (xs.set (frS xs).toNat (pendS w)) else none)
theorem putF_st (s : Slot) : (putF s).Irq = s.Irq ∧ (putF s).Priority = s.Priority ∧ (s.State = 2 ∧ (putF s).State = 3 ∨ s.State ≠ 2 ∧ putF s = s) := by
  unfold putF
  by_cases h : s.State = 2
  · have e : (s.State == 2) = true := by simp [h]
    rw [e]
    exact ⟨rfl, rfl, Or.inl ⟨h, rfl⟩⟩
  · have e : (s.State == 2) = false := by simp [h]
    rw [e]
    exact ⟨rfl, rfl, Or.inr ⟨h, rfl⟩⟩
theorem putF_gs {xs : List Slot} (h : GS xs) {i : Nat} (hi : i < xs.length) (h0 : xs[i].State ≠ 0) : GS (xs.set i (putF xs[i])) := by
  obtain ⟨_, _, ⟨e1, e2⟩ | ⟨e1, e2⟩⟩ := putF_st xs[i]
  · have : putF xs[i] = setSt xs[i] 3 := by unfold putF; simp [e1]
    rw [this]
    exact gs_state h hi h0 (by omega)
  · rw [e2, List.set_getElem_self]
    exact h
def topF (xs : List Slot) : Nat → Int
  | 0 => -1
  | i + 1 => bif (xs.getD i gS).State == 1 then (bif decide (topF xs i < 0) || lessU (xs.getD i gS).Priority (xs.getD i gS).Irq (xs.getD (topF xs i).toNat gS).Priority (xs.getD (topF xs i).toNat gS).Irq then (i : Int) else topF xs i) else topF xs i
theorem topF_at (xs : List Slot) : ∀ i, topF xs i < 0 ∨ ∃ k, k < i ∧ topF xs i = (k : Int) ∧ (xs.getD k gS).State = 1
  | 0 => Or.inl (by simp [topF])
  | i + 1 => by
    have ih := topF_at xs i
    have hih : topF xs i < 0 ∨ ∃ k, k < i + 1 ∧ topF xs i = (k : Int) ∧ (xs.getD k gS).State = 1 := by
      rcases ih with h | ⟨k, h1, h2, h3⟩
      · exact Or.inl h
      · exact Or.inr ⟨k, by omega, h2, h3⟩
    unfold topF
    cases hs : ((xs.getD i gS).State == 1) with
    | false => exact hih
    | true =>
      simp only [cond_true]
      cases (decide (topF xs i < 0) || lessU (xs.getD i gS).Priority (xs.getD i gS).Irq (xs.getD (topF xs i).toNat gS).Priority (xs.getD (topF xs i).toNat gS).Irq) with
      | false => exact hih
      | true => exact Or.inr ⟨i, by omega, rfl, by simpa using hs⟩
theorem topF_most {xs : List Slot} (hg : ∀ s ∈ xs, okSlt s) : ∀ n, n ≤ xs.length → (topF xs n < 0 ∧ ∀ i, (hi : i < xs.length) → i < n → xs[i].State ≠ 1) ∨ ∃ k, ∃ hk : k < xs.length, k < n ∧ topF xs n = (k : Int) ∧ xs[k].State = 1 ∧ ∀ i, (hi : i < xs.length) → i < n → xs[i].State = 1 → keyW (wOf xs[k]) ≤ keyW (wOf xs[i])
  | 0, _ => Or.inl ⟨by simp [topF], fun i hi h => by omega⟩
  | n + 1, hn => by
    have ih := topF_most hg n (by omega)
    have hnl : n < xs.length := by omega
    have hb : topF xs (n + 1) = bif xs[n].State == 1 then (bif decide (topF xs n < 0) || lessU xs[n].Priority xs[n].Irq (xs.getD (topF xs n).toNat gS).Priority (xs.getD (topF xs n).toNat gS).Irq then (n : Int) else topF xs n) else topF xs n := by
      rw [topF, getD_at hnl]
    rw [hb]
    by_cases h1 : xs[n].State = 1
    · have e1 : (xs[n].State == 1) = true := by simp [h1]
      rw [e1, cond_true]
      rcases ih with ⟨h2, h3⟩ | ⟨k, hk, hkn, h2, h3, h4⟩
      · have e2 : decide (topF xs n < 0) = true := by simp [h2]
        rw [e2, Bool.true_or, cond_true]
        refine Or.inr ⟨n, hnl, by omega, rfl, h1, fun i hi hin hs => ?_⟩
        by_cases e : i = n
        · subst e; exact Int.le_refl _
        · exact absurd hs (h3 i hi (by omega))
      · have e2 : decide (topF xs n < 0) = false := by rw [h2]; simp
        rw [e2, Bool.false_or, h2, Int.toNat_natCast, getD_at hk]
        have hl := less_key (a := wOf xs[n]) (b := wOf xs[k]) (hg _ (List.getElem_mem hnl)).2.1 (hg _ (List.getElem_mem hk)).2.1
        simp only [wOf] at hl
        rw [hl]
        by_cases hlt : keyW (wOf xs[n]) < keyW (wOf xs[k])
        · have hlt' := hlt
          simp only [wOf] at hlt'
          simp only [hlt', decide_true, cond_true]
          refine Or.inr ⟨n, hnl, by omega, rfl, h1, fun i hi hin hs => ?_⟩
          by_cases e : i = n
          · subst e; exact Int.le_refl _
          · have := h4 i hi (by omega) hs
            omega
        · have hlt' := hlt
          simp only [wOf] at hlt'
          simp only [hlt', decide_false, cond_false]
          refine Or.inr ⟨k, hk, by omega, rfl, h3, fun i hi hin hs => ?_⟩
          by_cases e : i = n
          · subst e; omega
          · exact h4 i hi (by omega) hs
    · have e1 : (xs[n].State == 1) = false := by simp [h1]
      rw [e1, cond_false]
      rcases ih with ⟨h2, h3⟩ | ⟨k, hk, hkn, h2, h3, h4⟩
      · refine Or.inl ⟨h2, fun i hi hin => ?_⟩
        by_cases e : i = n
        · subst e; exact h1
        · exact h3 i hi (by omega)
      · refine Or.inr ⟨k, hk, by omega, h2, h3, fun i hi hin hs => ?_⟩
        by_cases e : i = n
        · subst e; exact absurd hs h1
        · exact h4 i hi (by omega) hs
def topS (xs : List Slot) : Int := topF xs xs.length
def topX (xs : List Slot) : Slot := xs.getD (topS xs).toNat gS
def canT (xs : List Slot) (limit : Int) : Bool := decide (topS xs ≥ 0) && decide ((topX xs).Priority < limit)
def takL (xs : List Slot) : List Slot := xs.set (topS xs).toNat (setSt (topX xs) 2)
theorem canT_at {xs : List Slot} {limit : Int} (h : GS xs) (hc : canT xs limit = true) : ∃ k, ∃ hk : k < xs.length, topS xs = (k : Int) ∧ topX xs = xs[k] ∧ takL xs = xs.set k (setSt xs[k] 2) ∧ xs[k].State = 1 ∧ xs[k].Priority < limit ∧ ∀ i, (hi : i < xs.length) → xs[i].State = 1 → keyW (wOf xs[k]) ≤ keyW (wOf xs[i]) := by
  unfold canT at hc
  rw [Bool.and_eq_true, decide_eq_true_eq, decide_eq_true_eq] at hc
  rcases topF_most h.ok xs.length (Nat.le_refl _) with ⟨h2, _⟩ | ⟨k, hk, _, h2, h3, h4⟩
  · have := hc.1
    unfold topS at this
    omega
  · have e1 : topS xs = (k : Int) := h2
    have e2 : topX xs = xs[k] := by unfold topX; rw [e1, Int.toNat_natCast, getD_at hk]
    refine ⟨k, hk, e1, e2, by unfold takL; rw [e1, e2, Int.toNat_natCast], h3, by rw [← e2]; exact hc.2, fun i hi hs => h4 i hi hi hs⟩
theorem takL_gs {xs : List Slot} {limit : Int} (h : GS xs) (hc : canT xs limit = true) : GS (takL xs) := by
  obtain ⟨k, hk, _, _, e, h1, _⟩ := canT_at h hc
  rw [e]
  exact gs_state h hk (by omega) (by omega)
def endF (s : Slot) : Slot := bif s.State == 2 then gS else setSt s 1
def canE (xs : List Slot) (irq : Int) : Bool := decide (fndS xs irq ≥ 0) && !((xs.getD (fndS xs irq).toNat gS).State == 1)
def endL (xs : List Slot) (irq : Int) : List Slot := xs.set (fndS xs irq).toNat (endF (xs.getD (fndS xs irq).toNat gS))
theorem canE_at {xs : List Slot} {irq : Int} (h : GS xs) (hc : canE xs irq = true) : ∃ k, ∃ hk : k < xs.length, fndS xs irq = (k : Int) ∧ (xs[k].State = 2 ∨ xs[k].State = 3) ∧ xs[k].Irq = irq ∧ endL xs irq = xs.set k (endF xs[k]) := by
  unfold canE at hc
  rw [Bool.and_eq_true, decide_eq_true_eq] at hc
  obtain ⟨k, hk, h2, h3, h4⟩ := fnd_at (show ¬ fndS xs irq < 0 by omega)
  have h5 := hc.2
  rw [h2, Int.toNat_natCast, getD_at hk] at h5
  have h6 : xs[k].State ≠ 1 := by simpa using h5
  have h7 := (h.ok _ (List.getElem_mem hk)).1
  exact ⟨k, hk, h2, by omega, h4, by unfold endL; rw [h2, Int.toNat_natCast, getD_at hk]⟩
theorem endL_gs {xs : List Slot} {irq : Int} (h : GS xs) (hc : canE xs irq = true) : GS (endL xs irq) := by
  obtain ⟨k, hk, _, hs, _, e⟩ := canE_at h hc
  rw [e]
  unfold endF
  rcases hs with hs | hs
  · have : (xs[k].State == 2) = true := by simp [hs]
    rw [this]
    exact gs_empty h hk
  · have : (xs[k].State == 2) = false := by simp [hs]
    rw [this]
    exact gs_state h hk (by omega) (by omega)
def hasW (ws : List Waiter) (irq : Int) : Bool := ws.any fun w => w.Irq == irq
def offQ (q : Queue) (w : Waiter) : Queue :=
  bif decide (fndS q.Slots w.Irq ≥ 0) then settleQ ⟨q.Slots.set (fndS q.Slots w.Irq).toNat (putF (q.Slots.getD (fndS q.Slots w.Irq).toNat gS)), q.Waiting⟩
  else (bif hasW q.Waiting w.Irq then settleQ q else settleQ ⟨q.Slots, insU q.Waiting w⟩)
theorem gp_slots {q : Queue} (h : GP q) {ys : List Slot} (hg : GS ys) (hs : ∀ s ∈ ys, s.State = 0 ∨ ∃ t ∈ q.Slots, t.State ≠ 0 ∧ t.Irq = s.Irq) : GP ⟨ys, q.Waiting⟩ := by
  refine ⟨hg, h.ok, h.ord, h.dist, fun w hw s hsm => ?_⟩
  rcases hs s hsm with e | ⟨t, ht, ht0, hti⟩
  · exact Or.inl e
  · rcases h.apart w hw t ht with g | g
    · exact absurd g ht0
    · exact Or.inr (fun e => g (hti.trans e))
theorem gp_ins {q : Queue} (h : GP q) {w : Waiter} (hw : okWt w) (h1 : fndS q.Slots w.Irq < 0) (h2 : hasW q.Waiting w.Irq = false) : GP ⟨q.Slots, insU q.Waiting w⟩ := by
  have hins := insU_perm q.Waiting w
  have hno : ∀ x ∈ q.Waiting, x.Irq ≠ w.Irq := fun x hx e => by
    unfold hasW at h2
    rw [List.any_eq_false] at h2
    exact h2 x hx (by simp [e])
  refine ⟨h.s, fun x hx => ?_, insU_ord h.ord fun x hx => irq_key (h.ok x hx) hw (hno x hx), ?_, fun x hx s hs => ?_⟩
  · rcases List.mem_cons.1 (hins.mem_iff.1 hx) with rfl | hx
    · exact hw
    · exact h.ok x hx
  · rw [(hins.map Waiter.Irq).nodup_iff, List.map_cons, List.nodup_cons]
    refine ⟨fun hm => ?_, h.dist⟩
    obtain ⟨x, hx, e⟩ := List.mem_map.1 hm
    exact hno x hx e
  · rcases List.mem_cons.1 (hins.mem_iff.1 hx) with rfl | hx
    · exact fndS_none.1 h1 s hs
    · exact h.apart x hx s hs
theorem gp_put {q : Queue} (h : GP q) {k : Nat} (hk : k < q.Slots.length) (h0 : q.Slots[k].State ≠ 0) : GP ⟨q.Slots.set k (putF q.Slots[k]), q.Waiting⟩ := by
  refine gp_slots h (putF_gs h.s hk h0) fun s hs => ?_
  rcases mem_set_iff hk hs with rfl | ⟨j, hj, _, rfl⟩
  · exact Or.inr ⟨_, List.getElem_mem hk, h0, (putF_st _).1.symm⟩
  · by_cases hz : q.Slots[j].State = 0
    · exact Or.inl hz
    · exact Or.inr ⟨_, List.getElem_mem hj, hz, rfl⟩
theorem offQ_ok {q : Queue} (h : GP q) {w : Waiter} (hw : okWt w) : GP (offQ q w) ∧ calm (offQ q w) := by
  unfold offQ
  by_cases hf : fndS q.Slots w.Irq < 0
  · have e : decide (fndS q.Slots w.Irq ≥ 0) = false := by simp; omega
    rw [e, cond_false]
    cases hh : hasW q.Waiting w.Irq with
    | true =>
      obtain ⟨h1, h2⟩ := settleQ_ok h
      exact ⟨h1.p, h2⟩
    | false =>
      obtain ⟨h1, h2⟩ := settleQ_ok (gp_ins h hw hf hh)
      exact ⟨h1.p, h2⟩
  · have e : decide (fndS q.Slots w.Irq ≥ 0) = true := by simp; omega
    rw [e, cond_true]
    obtain ⟨k, hk, h2, h3, h4⟩ := fnd_at hf
    rw [h2, Int.toNat_natCast, getD_at hk]
    obtain ⟨h1, h2⟩ := settleQ_ok (gp_put h hk h3)
    exact ⟨h1.p, h2⟩
theorem gp_take {q : Queue} (h : GP q) {limit : Int} (hc : canT q.Slots limit = true) : GP ⟨takL q.Slots, q.Waiting⟩ := by
  refine gp_slots h (takL_gs h.s hc) fun s hs => ?_
  obtain ⟨k, hk, _, _, e, h1, _⟩ := canT_at h.s hc
  rw [e] at hs
  rcases mem_set_iff hk hs with rfl | ⟨j, hj, _, rfl⟩
  · exact Or.inr ⟨_, List.getElem_mem hk, by omega, rfl⟩
  · by_cases hz : q.Slots[j].State = 0
    · exact Or.inl hz
    · exact Or.inr ⟨_, List.getElem_mem hj, hz, rfl⟩
theorem calm_take {q : Queue} (h : GQ q) {limit : Int} (hc : canT q.Slots limit = true) : calm ⟨takL q.Slots, q.Waiting⟩ := by
  rcases h.2 with e | ⟨h1, h2⟩
  · exact Or.inl e
  · obtain ⟨k, hk, _, _, e, hs1, _⟩ := canT_at h.1.s hc
    refine Or.inr ⟨fun s hs => ?_, fun s hs h5 => ?_⟩
    · rw [e] at hs
      rcases mem_set_iff hk hs with rfl | ⟨j, hj, _, rfl⟩
      · simp [setSt]
      · exact h1 _ (List.getElem_mem hj)
    · rw [e] at hs
      rcases mem_set_iff hk hs with rfl | ⟨j, hj, _, rfl⟩
      · simp [setSt] at h5
      · exact h2 _ (List.getElem_mem hj) h5
theorem gp_end {q : Queue} (h : GP q) {irq : Int} (hc : canE q.Slots irq = true) : GP ⟨endL q.Slots irq, q.Waiting⟩ := by
  refine gp_slots h (endL_gs h.s hc) fun s hs => ?_
  obtain ⟨k, hk, _, hst, _, e⟩ := canE_at h.s hc
  rw [e] at hs
  rcases mem_set_iff hk hs with rfl | ⟨j, hj, _, rfl⟩
  · unfold endF
    cases hz : (q.Slots[k].State == 2) with
    | true => exact Or.inl rfl
    | false => exact Or.inr ⟨_, List.getElem_mem hk, by omega, rfl⟩
  · by_cases hz : q.Slots[j].State = 0
    · exact Or.inl hz
    · exact Or.inr ⟨_, List.getElem_mem hj, hz, rfl⟩
def endQ (q : Queue) (irq : Int) : Queue := settleQ ⟨endL q.Slots irq, q.Waiting⟩
theorem endQ_ok {q : Queue} (h : GP q) {irq : Int} (hc : canE q.Slots irq = true) : GQ (endQ q irq) := by
  obtain ⟨h1, h2⟩ := settleQ_ok (gp_end h hc)
  exact ⟨h1.p, h2⟩
end Go.Proofs.YtllhajkgkghhdaaGreat
set_option linter.unusedVariables false
set_option linter.unusedSimpArgs false
set_option maxHeartbeats 4000000
namespace Go.Proofs.YtllhajkgkghhdaaGreat
open Go.Gx
def actW (xs : List Slot) : List Waiter := (xs.filter isAct).map wOf
theorem actS_W (xs : List Slot) : actS xs = (actW xs).map Waiter.Irq := by
  unfold actS actW
  rw [List.map_map]
  rfl
theorem actM_W {xs ys : List Slot} (h : actM xs = actM ys) : xs.filter isAct = ys.filter isAct := by
  have key : ∀ l : List Slot, (actM l).filterMap id = l.filter isAct := by
    intro l
    induction l with
    | nil => rfl
    | cons s r ih =>
      unfold actM at ih ⊢
      rw [List.map_cons]
      cases hs : isAct s with
      | true => rw [cond_true, List.filter_cons_of_pos hs, List.filterMap_cons_some (f := id) (a := some s) (b := s) rfl, ih]
      | false => rw [cond_false, List.filter_cons_of_neg (by simp [hs]), List.filterMap_cons_none (f := id) (a := (none : Option Slot)) rfl, ih]
  rw [← key, ← key, h]
theorem isAct_st {s : Slot} (h : isAct s = true) : s.State ≠ 0 ∧ (s.State = 2 ∨ s.State = 3) := by
  unfold isAct at h
  rw [Bool.or_eq_true, beq_iff_eq, beq_iff_eq] at h
  omega
theorem lev_act {xs : List Slot} (h : GS xs) {w : Waiter} (hw : w ∈ actW xs) : levS xs w.Irq = w.Priority := by
  obtain ⟨s, hs, rfl⟩ := List.mem_map.1 hw
  obtain ⟨hs1, hs2⟩ := List.mem_filter.1 hs
  obtain ⟨i, hi, rfl⟩ := List.getElem_of_mem hs1
  have := fnd_is h hi (isAct_st hs2).1
  unfold levS
  simp only [wOf]
  rw [this, Int.toNat_natCast, getD_at hi]
theorem act_mem {xs : List Slot} {q : Int} (h : q ∈ (actW xs).map Waiter.Irq) : ∃ w ∈ actW xs, w.Irq = q := by
  obtain ⟨w, hw, rfl⟩ := List.mem_map.1 h
  exact ⟨w, hw, rfl⟩
theorem actW_dist {xs : List Slot} (h : GS xs) : ((actW xs).map Waiter.Irq).Nodup := by
  have := sep_irqs h.sep isAct (fun s hs => (isAct_st hs).1)
  unfold actW
  rw [List.map_map]
  exact this
structure GI (x : Interface) : Prop where
  mask : 0 ≤ x.Mask ∧ x.Mask ≤ 16
  q : GQ x.Queue
  stk : x.Stack.Perm ((actW x.Queue.Slots).map Waiter.Irq)
  lev : x.Stack.Pairwise fun a b => levS x.Queue.Slots b < levS x.Queue.Slots a
theorem goodI_iff (x : Interface) : goodI x = true ↔ GI x := by
  unfold goodI inR
  simp only [Bool.and_eq_true, decide_eq_true_eq, goodQ_iff, sort_eq_iff, actS_W]
  have hl : levsOk x.Queue.Slots x.Stack = true ↔ x.Stack.Pairwise fun a b => levS x.Queue.Slots b < levS x.Queue.Slots a := by
    unfold levsOk
    rw [List.all_eq_true, List.pairwise_iff_getElem]
    constructor
    · intro h
      have hb : ∀ i, (hi : i + 1 < x.Stack.length) → levS x.Queue.Slots x.Stack[i + 1] < levS x.Queue.Slots (x.Stack[i]'(by omega)) := fun i hi => by
        have := h (i + 1) (List.mem_range.2 hi)
        rw [Nat.add_sub_cancel, getD_at hi, getD_at (show i < x.Stack.length by omega)] at this
        simpa using this
      have key : ∀ d i, (hj : i + d + 1 < x.Stack.length) → levS x.Queue.Slots x.Stack[i + d + 1] < levS x.Queue.Slots (x.Stack[i]'(by omega)) := by
        intro d
        induction d with
        | zero => intro i hj; exact hb i hj
        | succ d ih =>
          intro i hj
          have h3 := ih i (by omega)
          have h4 := hb (i + (d + 1)) hj
          simp only [show i + (d + 1) = i + d + 1 by omega] at h4 ⊢
          omega
      intro i j hi hj hij
      have := key (j - i - 1) i (by omega)
      simp only [show i + (j - i - 1) + 1 = j by omega] at this
      exact this
    · intro h i hi
      have hi := List.mem_range.1 hi
      by_cases h0 : i = 0
      · simp [h0]
      · rw [getD_at hi, getD_at (show i - 1 < x.Stack.length by omega)]
        have := h (i - 1) i (by omega) hi (by omega)
        simp [this]
  rw [hl]
  constructor
  · rintro ⟨h1, h2, h3, h4⟩
    exact ⟨h1, h2, h3, h4⟩
  · rintro ⟨h1, h2, h3, h4⟩
    exact ⟨h1, h2, h3, h4⟩
theorem gi_slots {x : Interface} (h : GI x) : GS x.Queue.Slots := h.q.1.s
theorem gi_stack {x : Interface} (h : GI x) {q : Int} (hq : q ∈ x.Stack) : ∃ w ∈ actW x.Queue.Slots, w.Irq = q := act_mem (h.stk.mem_iff.1 hq)
theorem gi_len {x : Interface} (h : GI x) : x.Stack.length ≤ 4 := by
  rw [h.stk.length_eq, List.length_map]
  unfold actW
  rw [List.length_map]
  have := List.length_filter_le isAct x.Queue.Slots
  rw [(gi_slots h).len] at this
  exact this
theorem gi_fit {x : Interface} (h : GI x) : fitIf x := by
  refine ⟨by have := gi_len h; omega, by rw [(gi_slots h).len]; omega, by have := gp_waiting h.q.1; omega⟩
theorem lev_same {xs ys : List Slot} (hx : GS xs) (hy : GS ys) {q : Int} (h1 : ∃ w ∈ actW xs, w.Irq = q) (h2 : ∀ w ∈ actW xs, w.Irq = q → w ∈ actW ys) : levS ys q = levS xs q := by
  obtain ⟨w, hw, rfl⟩ := h1
  rw [lev_act hx hw, lev_act hy (h2 w hw rfl)]
theorem actW_kept {q r : Queue} (h : kept q r) : actW r.Slots = actW q.Slots := by
  unfold actW
  rw [actM_W h.act]
theorem actW_cut (A B : List Slot) (x : Slot) : (actW (A ++ x :: B)).Perm ((bif isAct x then [wOf x] else []) ++ (actW A ++ actW B)) := by
  unfold actW
  rw [List.filter_append, List.map_append]
  cases hx : isAct x with
  | true =>
    rw [List.filter_cons_of_pos hx, List.map_cons]
    exact List.perm_middle
  | false =>
    rw [List.filter_cons_of_neg (by simp [hx])]
    exact List.Perm.refl _
theorem actW_set {xs : List Slot} {k : Nat} (hk : k < xs.length) (y : Slot) : ((bif isAct xs[k] then [wOf xs[k]] else []) ++ actW (xs.set k y)).Perm ((bif isAct y then [wOf y] else []) ++ actW xs) := by
  obtain ⟨c1, c2⟩ := set_cut hk y
  have p1 := actW_cut (xs.take k) (xs.drop (k + 1)) xs[k]
  have p2 := actW_cut (xs.take k) (xs.drop (k + 1)) y
  rw [← c1] at p1
  rw [← c2] at p2
  refine (List.Perm.append_left _ p2).trans ?_
  refine List.Perm.trans ?_ (List.Perm.append_left _ p1).symm
  have h := (List.perm_append_comm (l₁ := bif isAct xs[k] then [wOf xs[k]] else []) (l₂ := bif isAct y then [wOf y] else [])).append_right (actW (xs.take k) ++ actW (xs.drop (k + 1)))
  rw [List.append_assoc, List.append_assoc] at h
  exact h
theorem gi_over {x : Interface} (h : GI x) {r : Queue} (hr : GQ r) (ha : (actW r.Slots).Perm (actW x.Queue.Slots)) : GI ⟨x.Mask, x.Stack, r⟩ := by
  refine ⟨h.mask, hr, h.stk.trans (ha.symm.map Waiter.Irq), ?_⟩
  refine h.lev.imp_of_mem fun {a b} hma hmb hab => ?_
  have e1 := lev_same (gi_slots h) hr.1.s (gi_stack h hma) fun w hw _ => ha.mem_iff.2 hw
  have e2 := lev_same (gi_slots h) hr.1.s (gi_stack h hmb) fun w hw _ => ha.mem_iff.2 hw
  simp only
  rw [e1, e2]
  exact hab
def raiI (x : Interface) (w : Waiter) : Interface := ⟨x.Mask, x.Stack, offQ x.Queue w⟩
theorem offQ_act {q : Queue} (h : GP q) {w : Waiter} (hw : okWt w) : (actW (offQ q w).Slots).Perm (actW q.Slots) := by
  unfold offQ
  by_cases hf : fndS q.Slots w.Irq < 0
  · have e : decide (fndS q.Slots w.Irq ≥ 0) = false := by simp; omega
    rw [e, cond_false]
    cases hh : hasW q.Waiting w.Irq with
    | true =>
      rw [cond_true, actW_kept (settleQ_ok h).1]
    | false =>
      rw [cond_false, actW_kept (settleQ_ok (gp_ins h hw hf hh)).1]
  · have e : decide (fndS q.Slots w.Irq ≥ 0) = true := by simp; omega
    rw [e, cond_true]
    obtain ⟨k, hk, h2, h3, h4⟩ := fnd_at hf
    rw [h2, Int.toNat_natCast, getD_at hk, actW_kept (settleQ_ok (gp_put h hk h3)).1]
    have p := actW_set hk (putF q.Slots[k])
    have ew : wOf (putF q.Slots[k]) = wOf q.Slots[k] := by unfold wOf; rw [(putF_st _).1, (putF_st _).2.1]
    have ea : isAct (putF q.Slots[k]) = isAct q.Slots[k] := by
      rcases (putF_st q.Slots[k]).2.2 with ⟨g1, g2⟩ | ⟨_, g2⟩
      · unfold isAct
        simp [g1, g2]
      · rw [g2]
    rw [ew, ea] at p
    exact (List.perm_append_left_iff _).1 p
theorem raiI_ok {x : Interface} (h : GI x) {w : Waiter} (hw : okWt w) : GI (raiI x w) := gi_over h (offQ_ok h.q.1 hw) (offQ_act h.q.1 hw)
def runP (x : Interface) : Int := bif decide (x.Stack.length = 0) then 16 else levS x.Queue.Slots (x.Stack.getD (x.Stack.length - 1) 0)
def limI (x : Interface) : Int := bif decide (x.Mask < runP x) then x.Mask else runP x
def canTI (x : Interface) : Bool := canT x.Queue.Slots (limI x)
def takI (x : Interface) : Interface := ⟨x.Mask, x.Stack ++ [(topX x.Queue.Slots).Irq], ⟨takL x.Queue.Slots, x.Queue.Waiting⟩⟩
theorem limI_le (x : Interface) : limI x ≤ x.Mask ∧ limI x ≤ runP x := by
  unfold limI
  by_cases h : x.Mask < runP x
  · simp only [h, decide_true, cond_true]; omega
  · simp only [h, decide_false, cond_false]; omega
theorem run_lt {x : Interface} (h : GI x) {q : Int} (hq : q ∈ x.Stack) : runP x ≤ levS x.Queue.Slots q := by
  obtain ⟨i, hi, rfl⟩ := List.getElem_of_mem hq
  have h0 : ¬ x.Stack.length = 0 := by omega
  unfold runP
  simp only [h0, decide_false, cond_false]
  rw [getD_at (show x.Stack.length - 1 < x.Stack.length by omega)]
  by_cases e : i = x.Stack.length - 1
  · have : x.Stack[x.Stack.length - 1]'(by omega) = x.Stack[i] := by congr 1; exact e.symm
    rw [this]
    exact Int.le_refl _
  · have := List.pairwise_iff_getElem.1 h.lev i (x.Stack.length - 1) hi (by omega) (by omega)
    omega
theorem takI_ok {x : Interface} (h : GI x) (hc : canTI x = true) : GI (takI x) := by
  have hs := gi_slots h
  obtain ⟨k, hk, e1, e2, e3, h1, h2, h3⟩ := canT_at hs hc
  have hg : GS (takL x.Queue.Slots) := takL_gs hs hc
  have hp := actW_set hk (setSt x.Queue.Slots[k] 2)
  have a1 : isAct x.Queue.Slots[k] = false := by unfold isAct; simp [h1]
  have a2 : isAct (setSt x.Queue.Slots[k] 2) = true := by simp [isAct, setSt]
  rw [a1, a2, ← e3] at hp
  simp only [cond_false, cond_true, List.nil_append, List.cons_append] at hp
  have ew : wOf (setSt x.Queue.Slots[k] 2) = wOf x.Queue.Slots[k] := rfl
  rw [ew] at hp
  have hlev : ∀ q ∈ x.Stack, levS (takL x.Queue.Slots) q = levS x.Queue.Slots q := fun q hq => lev_same hs hg (gi_stack h hq) fun w hw _ => hp.mem_iff.2 (by simp [hw])
  have hnew : levS (takL x.Queue.Slots) x.Queue.Slots[k].Irq = x.Queue.Slots[k].Priority := lev_act hg (w := wOf x.Queue.Slots[k]) (hp.mem_iff.2 (by simp))
  unfold takI
  refine ⟨h.mask, ⟨gp_take h.q.1 hc, calm_take h.q hc⟩, ?_, ?_⟩
  · simp only
    rw [e2]
    refine List.Perm.trans ?_ (hp.symm.map Waiter.Irq)
    rw [List.map_cons]
    refine List.perm_append_comm.trans ?_
    exact h.stk.cons _
  · simp only
    rw [e2, List.pairwise_append]
    refine ⟨h.lev.imp_of_mem fun {a b} ha hb hab => by rw [hlev a ha, hlev b hb]; exact hab, by simp, fun a ha b hb => ?_⟩
    rw [List.mem_singleton] at hb
    subst hb
    rw [hlev a ha, hnew]
    have g1 := run_lt h ha
    have g2 := (limI_le x).2
    omega
def lastI (x : Interface) : Int := x.Stack.getD (x.Stack.length - 1) 0
def leaI (x : Interface) : Interface := ⟨x.Mask, x.Stack.take (x.Stack.length - 1), endQ x.Queue (lastI x)⟩
theorem stack_last {x : Interface} (h : x.Stack.length ≠ 0) : x.Stack = x.Stack.take (x.Stack.length - 1) ++ [lastI x] := by
  have hl : x.Stack.length - 1 < x.Stack.length := by omega
  conv => lhs; rw [← List.take_append_drop (x.Stack.length - 1) x.Stack]
  rw [List.drop_eq_getElem_cons hl, List.drop_eq_nil_of_le (by omega)]
  unfold lastI
  rw [getD_at hl]
theorem last_can {x : Interface} (h : GI x) (h0 : x.Stack.length ≠ 0) : canE x.Queue.Slots (lastI x) = true ∧ ∃ k, ∃ hk : k < x.Queue.Slots.length, fndS x.Queue.Slots (lastI x) = (k : Int) ∧ isAct x.Queue.Slots[k] = true ∧ x.Queue.Slots[k].Irq = lastI x := by
  have hm : lastI x ∈ x.Stack := by rw [stack_last h0]; simp
  obtain ⟨w, hw, he⟩ := gi_stack h hm
  obtain ⟨s, hs, rfl⟩ := List.mem_map.1 hw
  obtain ⟨hs1, hs2⟩ := List.mem_filter.1 hs
  obtain ⟨i, hi, rfl⟩ := List.getElem_of_mem hs1
  have hst := isAct_st hs2
  have hf := fnd_is (gi_slots h) hi hst.1
  simp only [wOf] at he
  rw [he] at hf
  refine ⟨?_, i, hi, hf, hs2, he⟩
  unfold canE
  rw [hf, Int.toNat_natCast, getD_at hi]
  have h1 : x.Queue.Slots[i].State ≠ 1 := by omega
  simp [h1]
theorem leaI_ok {x : Interface} (h : GI x) (h0 : x.Stack.length ≠ 0) : GI (leaI x) := by
  have hs := gi_slots h
  obtain ⟨hc, k, hk, hf, ha, hi⟩ := last_can h h0
  obtain ⟨k', hk', hf', hst, _, he⟩ := canE_at hs hc
  have hkk : k' = k := by omega
  subst hkk
  have hg := endL_gs hs hc
  obtain ⟨hkp, hcalm⟩ := settleQ_ok (gp_end h.q.1 hc)
  have hp := actW_set hk (endF x.Queue.Slots[k'])
  have a2 : isAct (endF x.Queue.Slots[k']) = false := by
    unfold endF
    cases (x.Queue.Slots[k'].State == 2) <;> rfl
  rw [ha, a2, ← he] at hp
  simp only [cond_false, cond_true, List.nil_append, List.cons_append] at hp
  have hact : actW (endQ x.Queue (lastI x)).Slots = actW (endL x.Queue.Slots (lastI x)) := actW_kept hkp
  have hg2 : GS (endQ x.Queue (lastI x)).Slots := hkp.p.s
  have hl := stack_last h0
  have hlev : ∀ q ∈ x.Stack.take (x.Stack.length - 1), levS (endQ x.Queue (lastI x)).Slots q = levS x.Queue.Slots q := fun q hq => by
    have hq' : q ∈ x.Stack := List.mem_of_mem_take hq
    refine lev_same hs hg2 (gi_stack h hq') fun w hw hwq => ?_
    rw [hact]
    rcases List.mem_cons.1 (hp.mem_iff.2 hw) with e | e
    · exfalso
      have hnd : x.Stack.Nodup := (h.stk.nodup_iff).2 (actW_dist hs)
      rw [hl, List.nodup_append] at hnd
      have e3 : w.Irq = lastI x := by rw [e]; exact hi
      exact hnd.2.2 q hq (lastI x) (by simp) (by rw [← hwq, e3])
    · exact e
  unfold leaI
  refine ⟨h.mask, ⟨hkp.p, hcalm⟩, ?_, ?_⟩
  · simp only
    rw [hact]
    have h1 := h.stk
    have h2 := (hp.map Waiter.Irq).symm
    have h3 := h1.trans h2
    rw [hl, List.map_cons] at h3
    have e4 : (wOf x.Queue.Slots[k']).Irq = lastI x := hi
    rw [e4] at h3
    have h4 := List.perm_append_comm.trans h3
    rw [List.cons_append, List.nil_append] at h4
    have h5 := h4.cons_inv
    have e5 : (x.Stack.take (x.Stack.length - 1) ++ [lastI x]).length = x.Stack.length := by rw [← hl]
    simpa using h5
  · simp only
    have h1 := h.lev
    rw [hl, List.pairwise_append] at h1
    have h2 := h1.1
    refine List.Pairwise.imp_of_mem ?_ (show (x.Stack.take (x.Stack.length - 1)).Pairwise fun a b => levS x.Queue.Slots b < levS x.Queue.Slots a from by
      have := h.lev
      rw [hl, List.pairwise_append] at this
      exact this.1)
    intro a b ha hb hab
    rw [hlev a ha, hlev b hb]
    exact hab
end Go.Proofs.YtllhajkgkghhdaaGreat
set_option linter.unusedVariables false
set_option linter.unusedSimpArgs false
set_option maxHeartbeats 4000000
namespace Go.Proofs.YtllhajkgkghhdaaGreat
open Go.Gx
def ltU (a b : Waiter) : Bool := lessU a.Priority a.Irq b.Priority b.Irq
theorem sort_insU (xs : List Waiter) (h : xs.length ≤ 1048576) : M.slices_insertionSortCmpFunc_214__i_compareUrgency xs 0 (xs.length : Int) = some (isortL ltU xs) := by
  unfold M.slices_insertionSortCmpFunc_214__i_compareUrgency
  rw [show w64 (0 + 1) = 1 from rfl, outer_run ltU (xs := xs) (by omega)]
  · rfl
  · intro i pre post x hp hi
    have e0 : ((i : Int) < (xs.length : Int)) := by omega
    subst hp
    have hin := inner_run (α := Waiter) ltU (body := fun s4678 =>
      Option.bind (α := Bool) (bif decide (s4678.1 > 0) then (Option.bind (gxIdx s4678.2 s4678.1) fun y4710 =>
      Option.bind (gxIdx s4678.2 (w64 (s4678.1 - 1))) fun y4711 =>
      Option.bind (M.i_compareUrgency y4710 y4711) fun r4712 =>
      some (decide (r4712 < 0)))
      else some false) fun o4706 =>
      bif o4706 then (Option.bind (gxIdx s4678.2 (w64 (s4678.1 - 1))) fun y4727 =>
      Option.bind (gxIdx s4678.2 s4678.1) fun y4728 =>
      Option.bind (gxIdx s4678.2 s4678.1) fun y4729 =>
      Option.bind (gxIdx (s4678.2.set s4678.1.toNat y4727) (w64 (s4678.1 - 1))) fun y4801 =>
      some (.inl (w64 (s4678.1 - 1), ((s4678.2.set s4678.1.toNat y4727).set (w64 (s4678.1 - 1)).toNat y4728))))
      else some (.inr s4678.2)) (by
        intro j L h1 hj
        have e1 : (((j + 1 : Nat) : Int) > 0) := by omega
        have e2 : w64 (((j + 1 : Nat) : Int) - 1) = (j : Int) := by rw [w64_id (by omega) (by omega)]; omega
        have h3 : j < (L.set (j + 1) (L[j]'(by omega))).length := by simp; omega
        have hz := i_cmpU L[j + 1] (L[j]'(by omega))
        have hz2 := cmpU_lt L[j + 1] (L[j]'(by omega))
        simp only [e1, e2, decide_true, cond_true, gxIdx_nat h1, gxIdx_nat (show j < L.length by omega), hz, hz2, Option.bind_some, Int.toNat_natCast, gxIdx_nat h3]
        unfold ltU
        cases lessU L[j + 1].Priority L[j + 1].Irq (L[j]'(by omega)).Priority (L[j]'(by omega)).Irq <;> rfl) (by intro L; rfl) x pre.reverse post gxFuel (by simp; unfold gxFuel; omega) (by simp; omega)
    rw [List.length_reverse, List.reverse_reverse] at hin
    simp only [e0, decide_true, cond_true]
    rw [hin]
    rfl
  · intro i L hi
    have e0 : ¬ (i < (xs.length : Int)) := by omega
    simp only [e0, decide_false, cond_false]
theorem insRev_congr {α : Type} {lt lt' : α → α → Bool} {x : α} : ∀ {l : List α}, (∀ y ∈ l, lt x y = lt' x y) → insRev lt x l = insRev lt' x l
  | [], _ => rfl
  | y :: r, h => by
    unfold insRev
    rw [h y (by simp), insRev_congr fun z hz => h z (by simp [hz])]
theorem isortL_congr {α : Type} {lt lt' : α → α → Bool} {xs : List α} (h : ∀ x ∈ xs, ∀ y ∈ xs, lt x y = lt' x y) : isortL lt xs = isortL lt' xs := by
  have key : ∀ (ys acc : List α), (∀ y ∈ ys, y ∈ xs) → (∀ y ∈ acc, y ∈ xs) → ys.foldl (insR lt) acc = ys.foldl (insR lt') acc := by
    intro ys
    induction ys with
    | nil => intro acc _ _; rfl
    | cons y r ih =>
      intro acc h1 h2
      have e : insR lt acc y = insR lt' acc y := by
        unfold insR
        rw [insRev_congr fun z hz => h y (h1 y (by simp)) z (h2 z (by simpa using hz))]
      rw [List.foldl_cons, List.foldl_cons, e]
      refine ih _ (fun z hz => h1 z (by simp [hz])) fun z hz => ?_
      rcases List.mem_cons.1 ((insR_perm lt' acc y).mem_iff.1 hz) with rfl | hz
      · exact h1 z (by simp)
      · exact h2 z hz
  exact key xs [] (fun y hy => hy) (by simp)
theorem i_sortU (xs : List Waiter) (h : xs.length ≤ 12) (hok : ∀ w ∈ xs, okWt w) : M.slices_SortFunc_128__i_compareUrgency xs = some (isortL (ltK keyW) xs) := by
  unfold M.slices_SortFunc_128__i_compareUrgency M.math_bits_Len M.slices_pdqsortCmpFunc_168__i_compareUrgency
  have e1 : IntKind.u64.wrap (xs.length : Int) = (xs.length : Int) := by
    simp [IntKind.wrap, IntKind.bits, IntKind.signed]
    omega
  have h1 : (0 : Int) ≤ (xs.length : Int) := by omega
  have h2 : (xs.length : Int) ≤ 18446744073709551615 := by omega
  have e2 : w64 ((xs.length : Int) - 0) = (xs.length : Int) := by rw [w64_id (by omega) (by omega)]; omega
  have h3 : (xs.length : Int) ≤ 12 := by omega
  have e3 : isortL ltU xs = isortL (ltK keyW) xs := isortL_congr fun x hx y hy => less_key (hok x hx) (hok y hy)
  simp only [e1, h1, h2, decide_true, Bool.and_self, cond_true, Option.bind_some]
  rw [while_small (r := isortL (ltK keyW) xs) 1 (by omega) (by simp only [whileM, e2, h3, decide_true, cond_true, sort_insU xs (by omega), Option.bind_some, e3])]
  rfl
theorem pendW_len {q : Queue} (h : GP q) : (pendW q).length ≤ 12 := by
  have h1 := gp_waiting h
  unfold pendW
  rw [List.length_append, List.length_map]
  have := List.length_filter_le isPd q.Slots
  rw [h.s.len] at this
  omega
def pendI (q : Queue) : List Int := (sortW q).map Waiter.Irq
theorem pendI_len {q : Queue} (h : GP q) : (pendI q).length ≤ 12 := by
  unfold pendI sortW
  rw [List.length_map, isortL_len]
  exact pendW_len h
theorem i_pending {q : Queue} (h : GP q) : M.i_pendingIrqs q = some (pendI q) := by
  have hw := gp_waiting h
  have hs := h.s.len
  unfold M.i_pendingIrqs
  have p0 : gxApp 16 ([] : List Waiter) q.Waiting = some q.Waiting := by rw [gxApp_ok (by simp; omega)]; rfl
  rw [p0, Option.bind_some, while_run (fun i => (q.Waiting ++ ((q.Slots.take i).filter isPd).map wOf, (i : Int))) (pendW q) q.Slots.length (by simp) (by omega)]
  · have hsl : (isortL (ltK keyW) (pendW q)).length ≤ 12 := by rw [isortL_len]; exact pendW_len h
    rw [Option.bind_some, i_sortU _ (pendW_len h) (pend_ok h), Option.bind_some]
    rw [while_run (fun i => (((sortW q).take i).map Waiter.Irq, (i : Int))) (pendI q) (sortW q).length (by simp) (by unfold sortW; omega)]
    · rfl
    · intro i hi
      have hi' : i < (isortL (ltK keyW) (pendW q)).length := hi
      have e0 : ((i : Int) < ((isortL (ltK keyW) (pendW q)).length : Int)) := by omega
      simp only [e0, decide_true, cond_true, gxIdx_nat hi', Option.bind_some, w64_succ (show i ≤ 4611686018427387904 by omega)]
      rw [gxApp_ok (by simp; omega), Option.bind_some, List.take_add_one, List.getElem?_eq_getElem hi, Option.toList_some, List.map_append]
      rfl
    · have e0 : ¬ (((sortW q).length : Int) < ((isortL (ltK keyW) (pendW q)).length : Int)) := by unfold sortW; omega
      simp only [e0, decide_false, cond_false, List.take_length]
      rfl
  · intro i hi
    have e0 : ((i : Int) < (q.Slots.length : Int)) := by omega
    have htk : ((q.Slots.take (i + 1)).filter isPd).map wOf = ((q.Slots.take i).filter isPd).map wOf ++ (bif isPd q.Slots[i] then [wOf q.Slots[i]] else []) := by
      rw [List.take_add_one, List.getElem?_eq_getElem hi, Option.toList_some, List.filter_append, List.map_append]
      cases hz : isPd q.Slots[i] <;> simp [hz]
    have hll : (((q.Slots.take i).filter isPd).map wOf).length ≤ 4 := by
      rw [List.length_map]
      have := List.length_filter_le isPd (q.Slots.take i)
      have h2 : (q.Slots.take i).length ≤ i := by simp; omega
      omega
    have hpd : (Option.bind (α := Bool) (bif q.Slots[i].State == 1 then some true else some (q.Slots[i].State == 3)) fun o => (Option.bind (α := List Waiter) (bif o then (Option.bind (M.i_waiterOf q.Slots[i]) fun r9749 =>
        Option.bind (gxApp 16 (q.Waiting ++ ((q.Slots.take i).filter isPd).map wOf) [r9749]) fun ap9760 =>
        some ap9760)
        else some (q.Waiting ++ ((q.Slots.take i).filter isPd).map wOf)) fun o9740 =>
        (some (Sum.inl (o9740, w64 ((i : Int) + 1))) : Option ((List Waiter × Int) ⊕ (List Waiter))))) = some (Sum.inl (q.Waiting ++ ((q.Slots.take (i + 1)).filter isPd).map wOf, ((i + 1 : Nat) : Int))) := by
      rw [htk, w64_succ (show i ≤ 4611686018427387904 by omega)]
      have p1 : gxApp 16 (q.Waiting ++ ((q.Slots.take i).filter isPd).map wOf) [wOf q.Slots[i]] = some (q.Waiting ++ ((q.Slots.take i).filter isPd).map wOf ++ [wOf q.Slots[i]]) := gxApp_ok (by simp only [List.length_append, List.length_cons, List.length_nil]; omega)
      unfold M.i_waiterOf
      rw [show isPd q.Slots[i] = (q.Slots[i].State == 1 || q.Slots[i].State == 3) from rfl]
      have ew : (⟨q.Slots[i].Irq, q.Slots[i].Priority⟩ : Waiter) = wOf q.Slots[i] := rfl
      cases h1 : (q.Slots[i].State == 1) with
      | true => simp only [cond_true, Option.bind_some, ew, p1, Bool.true_or, List.append_assoc]
      | false => cases h3 : (q.Slots[i].State == 3) with
        | true => simp only [cond_true, cond_false, Option.bind_some, ew, p1, Bool.false_or, List.append_assoc]
        | false => simp only [cond_false, Option.bind_some, Bool.false_or, List.append_nil]
    simp only [e0, decide_true, cond_true, gxIdx_nat hi, Option.bind_some]
    exact hpd
  · simp only [Int.lt_irrefl, decide_false, cond_false, List.take_length]
    rfl
theorem take_tw {α : Type} (p : α → Bool) (ws : List α) : ws.take (ws.takeWhile p).length = ws.takeWhile p ∧ ws.drop (ws.takeWhile p).length = ws.dropWhile p ∧ (ws.takeWhile p).length ≤ ws.length := by
  have h1 := List.take_left (l₁ := ws.takeWhile p) (l₂ := ws.dropWhile p)
  have h2 := List.drop_left (l₁ := ws.takeWhile p) (l₂ := ws.dropWhile p)
  rw [List.takeWhile_append_dropWhile] at h1 h2
  exact ⟨h1, h2, (List.takeWhile_prefix p).length_le⟩
theorem s_wait (ws : List Waiter) (w : Waiter) (hl : ws.length ≤ 1048576) (hok : ∀ x ∈ ws, okWt x) (hw : okWt w) : M.s_l9Wait ws w = some (insU ws w) := by
  unfold M.s_l9Wait
  rw [while_place (fun x => decide (keyW x < keyW w)) (xs := ws) (by omega)]
  · obtain ⟨t1, t2, t3⟩ := take_tw (fun x => decide (keyW x < keyW w)) ws
    have p1 : gxApp 16 ([] : List Waiter) (ws.takeWhile fun x => decide (keyW x < keyW w)) = some (ws.takeWhile fun x => decide (keyW x < keyW w)) := by rw [gxApp_ok (by simp only [List.length_nil]; omega)]; rfl
    have t4 : (ws.dropWhile fun x => decide (keyW x < keyW w)).length ≤ ws.length := by rw [← t2]; simp
    simp only [Option.bind_some, gxSlice_take t3, gxSlice_drop t3, t1, t2, p1]
    rw [gxApp_ok (by simp only [List.length_cons, List.length_nil]; omega), Option.bind_some, gxApp_ok (by simp only [List.length_append, List.length_cons, List.length_nil]; omega)]
    simp only [Option.bind_some, insU, List.append_assoc, List.cons_append, List.nil_append]
  · intro i hi
    have e0 : ((i : Int) < (ws.length : Int)) := by omega
    have hlk := less_key (hok _ (List.getElem_mem hi)) hw
    simp only [e0, decide_true, cond_true, gxIdx_nat hi, Option.bind_some, s_less, hlk]
    cases decide (keyW ws[i] < keyW w) <;> rfl
  · simp only [Int.lt_irrefl, decide_false, cond_false, Option.bind_some]
theorem s_pending {q : Queue} (h : GP q) : M.s_l9Pending q = some (pendI q) := by
  have hw := gp_waiting h
  have hs := h.s.len
  unfold M.s_l9Pending
  have p0 : gxApp 16 ([] : List Waiter) q.Waiting = some q.Waiting := by rw [gxApp_ok (by simp; omega)]; rfl
  rw [p0, Option.bind_some]
  obtain ⟨L, hL, hL1, hL2⟩ := while_inv (body := fun s8992 : List Waiter × Int =>
    bif decide (s8992.2 < (q.Slots.length : Int)) then (Option.bind (gxIdx q.Slots s8992.2) fun y9014 =>
    Option.bind (α := Bool) (bif y9014.State == 1 then some true
    else some (y9014.State == 3)) fun o9022 =>
    Option.bind (α := List Waiter) (bif o9022 then (Option.bind (M.s_l9Wait s8992.1 (⟨y9014.Irq, y9014.Priority⟩ : Waiter)) fun r9049 =>
    some r9049)
    else some s8992.1) fun o9040 =>
    some (Sum.inl (β := List Waiter) (o9040, w64 (s8992.2 + 1))))
    else some (.inr s8992.1)) (s0 := (q.Waiting, 0)) (fun i s => s.2 = (i : Int) ∧ ordered keyW s.1 ∧ s.1.Perm (q.Waiting ++ ((q.Slots.take i).filter isPd).map wOf)) (fun L => ordered keyW L ∧ L.Perm (pendW q)) q.Slots.length (by omega) ⟨rfl, h.ord.imp fun hab => by omega, by simp⟩ (fun i s hi hR => by
      obtain ⟨X, j⟩ := s
      obtain ⟨h1, h2, h3⟩ := hR
      simp only at h1 h2 h3
      subst h1
      have e0 : ((i : Int) < (q.Slots.length : Int)) := by omega
      have htk : ((q.Slots.take (i + 1)).filter isPd).map wOf = ((q.Slots.take i).filter isPd).map wOf ++ (bif isPd q.Slots[i] then [wOf q.Slots[i]] else []) := by
        rw [List.take_add_one, List.getElem?_eq_getElem hi, Option.toList_some, List.filter_append, List.map_append]
        cases hz : isPd q.Slots[i] <;> simp [hz]
      have hXl : X.length ≤ 12 := by
        rw [h3.length_eq, List.length_append, List.length_map]
        have := List.length_filter_le isPd (q.Slots.take i)
        have h2 : (q.Slots.take i).length ≤ i := by simp; omega
        omega
      have hXok : ∀ w ∈ X, okWt w := fun w hw => by
        rcases List.mem_append.1 (h3.mem_iff.1 hw) with hw | hw
        · exact h.ok w hw
        · obtain ⟨s, hs, rfl⟩ := List.mem_map.1 hw
          exact (h.s.ok s (List.mem_of_mem_take (List.mem_filter.1 hs).1)).2.1
      have hsok := (h.s.ok _ (List.getElem_mem hi)).2.1
      have hwt := s_wait X (wOf q.Slots[i]) (by omega) hXok hsok
      have ew : (⟨q.Slots[i].Irq, q.Slots[i].Priority⟩ : Waiter) = wOf q.Slots[i] := rfl
      have hperm : (insU X (wOf q.Slots[i])).Perm (q.Waiting ++ (((q.Slots.take i).filter isPd).map wOf ++ [wOf q.Slots[i]])) := by
        refine (insU_perm _ _).trans ((h3.cons _).trans ?_)
        rw [← List.append_assoc]
        exact (List.perm_append_comm (l₁ := [wOf q.Slots[i]])).trans (List.Perm.refl _)
      simp only [e0, decide_true, cond_true, gxIdx_nat hi, Option.bind_some, ew, hwt, w64_succ (show i ≤ 4611686018427387904 by omega)]
      left
      rw [htk]
      unfold isPd
      cases g1 : (q.Slots[i].State == 1) with
      | true =>
        simp only [cond_true, Option.bind_some, Bool.true_or]
        exact ⟨_, rfl, rfl, insU_ordered h2, hperm⟩
      | false => cases g3 : (q.Slots[i].State == 3) with
        | true =>
          simp only [cond_true, cond_false, Option.bind_some, Bool.false_or]
          exact ⟨_, rfl, rfl, insU_ordered h2, hperm⟩
        | false =>
          simp only [cond_false, Option.bind_some, Bool.false_or, List.append_nil]
          exact ⟨_, rfl, rfl, h2, h3⟩) (fun s hR => by
      obtain ⟨X, j⟩ := s
      obtain ⟨h1, h2, h3⟩ := hR
      simp only at h1 h2 h3
      subst h1
      rw [List.take_length] at h3
      simp only [Int.lt_irrefl, decide_false, cond_false]
      exact ⟨_, rfl, h2, h3⟩)
  rw [hL, Option.bind_some, sortW_is h hL1 hL2]
  have hsl : (sortW q).length ≤ 12 := by unfold sortW; rw [isortL_len]; exact pendW_len h
  rw [while_run (fun i => (((sortW q).take i).map Waiter.Irq, (i : Int))) (pendI q) (sortW q).length (by simp) (by omega)]
  · rfl
  · intro i hi
    have e0 : ((i : Int) < ((sortW q).length : Int)) := by omega
    simp only [e0, decide_true, cond_true, gxIdx_nat hi, Option.bind_some, w64_succ (show i ≤ 4611686018427387904 by omega)]
    rw [gxApp_ok (by simp; omega), Option.bind_some, List.take_add_one, List.getElem?_eq_getElem hi, Option.toList_some, List.map_append]
    rfl
  · simp only [Int.lt_irrefl, decide_false, cond_false, List.take_length]
    rfl
def gIf : Interface := ⟨0, [], ⟨[], []⟩⟩
structure GM (m : Machine) : Prop where
  rts : okRts m.Routes (m.Cpus.length : Int) = true
  en : m.Enabled.length = 8
  ra : m.Raised.length = 8
  cpu : ∀ k, (hk : k < m.Cpus.length) → GI m.Cpus[k] ∧ fitOk m.Routes (k : Int) m.Cpus[k] = true
theorem goodMc_iff (m : Machine) : goodMc m = true ↔ GM m := by
  unfold goodMc
  simp only [Bool.and_eq_true, beq_iff_eq, List.all_eq_true]
  constructor
  · rintro ⟨h1, h2, h3, h4⟩
    refine ⟨h1, by omega, by omega, fun k hk => ?_⟩
    have := h4 k (List.mem_range.2 hk)
    rw [getD_at hk] at this
    exact ⟨(goodI_iff _).1 this.1, this.2⟩
  · rintro ⟨h1, h2, h3, h4⟩
    refine ⟨h1, by omega, by omega, fun k hk => ?_⟩
    have hk := List.mem_range.1 hk
    rw [getD_at hk]
    exact ⟨(goodI_iff _).2 (h4 k hk).1, (h4 k hk).2⟩
theorem gm_cpus {m : Machine} (h : GM m) : 1 ≤ m.Cpus.length ∧ m.Cpus.length ≤ 2 ∧ m.Routes.length = 8 := by
  have := h.rts
  unfold okRts at this
  simp only [Bool.and_eq_true, decide_eq_true_eq, beq_iff_eq] at this
  omega
def busyI (x : Interface) : Bool := decide ((x.Stack.length : Int) > 0) || decide (((pendI x.Queue).length : Int) > 0)
def idleM (m : Machine) : Bool := (List.range 8).all (fun i => !(m.Enabled.getD i false && m.Raised.getD i false)) && (List.range m.Cpus.length).all (fun k => !(busyI (m.Cpus.getD k gIf)))
theorem s_idle {m : Machine} (h : GM m) : M.s_l21Idle m = some (idleM m) := by
  have hc := gm_cpus h
  have he := h.en
  have hr := h.ra
  unfold M.s_l21Idle idleM
  rw [while_all (fun i => (i : Int)) (fun i => !(m.Enabled.getD i false && m.Raised.getD i false)) (Sum.inr false : Unit ⊕ Bool) (Sum.inl ()) 8 (by simp) (by omega)]
  · cases (List.range 8).all (fun i => !(m.Enabled.getD i false && m.Raised.getD i false)) with
    | false => rfl
    | true =>
      simp only [cond_true, Option.bind_some, Sum.elim_inl, Bool.true_and]
      rw [while_all (fun i => (i : Int)) (fun k => !(busyI (m.Cpus.getD k gIf))) (Sum.inr false : Unit ⊕ Bool) (Sum.inl ()) m.Cpus.length (by simp) (by omega)]
      · cases (List.range m.Cpus.length).all (fun k => !(busyI (m.Cpus.getD k gIf))) <;> rfl
      · intro k hk
        have e0 : ((k : Int) < (m.Cpus.length : Int)) := by omega
        have e1 : M.s_l9Pending (⟨m.Cpus[k].Queue.Slots, m.Cpus[k].Queue.Waiting⟩ : Queue) = some (pendI m.Cpus[k].Queue) := s_pending (h.cpu k hk).1.q.1
        simp only [e0, decide_true, cond_true, gxIdx_nat hk, Option.bind_some, getD_at hk, e1, w64_succ (show k ≤ 4611686018427387904 by omega), busyI]
        cases decide ((m.Cpus[k].Stack.length : Int) > 0) with
        | true => rfl
        | false => cases decide (((pendI m.Cpus[k].Queue).length : Int) > 0) <;> rfl
      · simp
  · intro i hi
    have e0 : ((i : Int) < 8) := by omega
    simp only [e0, decide_true, cond_true, gxIdx_nat (show i < m.Enabled.length by omega), gxIdx_nat (show i < m.Raised.length by omega), Option.bind_some, getD_at (show i < m.Enabled.length by omega), getD_at (show i < m.Raised.length by omega), w64_succ (show i ≤ 4611686018427387904 by omega)]
    cases m.Enabled[i]'(by omega) with
    | false => rfl
    | true => cases m.Raised[i]'(by omega) <;> rfl
  · simp
theorem i_idle {m : Machine} (h : GM m) : (Option.bind (whileM (σ := Int) (ρ := (Unit) ⊕ (Bool × Bool)) (fun s9431 =>
    bif decide (s9431 < (m.Raised.length : Int)) then (Option.bind (gxIdx m.Raised s9431) fun y9443 =>
    Option.bind (α := Bool) (bif y9443 then (Option.bind (gxIdx m.Enabled s9431) fun y9450 =>
    some y9450)
    else some false) fun o9446 =>
    bif o9446 then some (.inr (.inr (false, true)))
    else some (.inl (w64 (s9431 + 1))))
    else some (.inr (.inl ()))) gxFuel 0) fun out9438 => Sum.elim (fun (o9441 : Unit) =>
  Option.bind (M.slices_ContainsFunc_72__i_IsIdle_1 m.Cpus) fun r11201 =>
  some (!r11201, true)) (fun r => some r) out9438) = some (idleM m, true) := by
  have hc := gm_cpus h
  have he := h.en
  have hr := h.ra
  unfold idleM
  rw [while_all (fun i => (i : Int)) (fun i => !(m.Enabled.getD i false && m.Raised.getD i false)) (Sum.inr (false, true) : Unit ⊕ (Bool × Bool)) (Sum.inl ()) 8 (by simp) (by omega)]
  · cases (List.range 8).all (fun i => !(m.Enabled.getD i false && m.Raised.getD i false)) with
    | false => rfl
    | true =>
      simp only [cond_true, Option.bind_some, Sum.elim_inl, Bool.true_and]
      unfold M.slices_ContainsFunc_72__i_IsIdle_1 M.slices_IndexFunc_127__i_IsIdle_1
      rw [while_first (fun i => (i : Int)) (fun k => busyI (m.Cpus.getD k gIf)) (fun i => (Sum.inr (i : Int) : Unit ⊕ Int)) (Sum.inl ()) m.Cpus.length (by simp) (by omega)]
      · cases hf : (List.range m.Cpus.length).find? (fun k => busyI (m.Cpus.getD k gIf)) with
        | none =>
          have : (List.range m.Cpus.length).all (fun k => !(busyI (m.Cpus.getD k gIf))) = true := by
            rw [List.all_eq_true]
            intro i hi
            have := List.find?_eq_none.1 hf i hi
            simpa using this
          rw [this]
          rfl
        | some i =>
          have h1 := List.find?_some hf
          have h2 := List.mem_of_find?_eq_some hf
          have : (List.range m.Cpus.length).all (fun k => !(busyI (m.Cpus.getD k gIf))) = false := by
            rw [List.all_eq_false]
            exact ⟨i, h2, by simpa using h1⟩
          have hge : ((i : Int) ≥ 0) := by omega
          rw [this]
          simp only [Option.bind_some, Sum.elim_inr, hge, decide_true, Bool.not_true]
      · intro k hk
        have e0 : ((k : Int) < (m.Cpus.length : Int)) := by omega
        have e1 : M.i_pendingIrqs (⟨m.Cpus[k].Queue.Slots, m.Cpus[k].Queue.Waiting⟩ : Queue) = some (pendI m.Cpus[k].Queue) := i_pending (h.cpu k hk).1.q.1
        simp only [e0, decide_true, cond_true, gxIdx_nat hk, Option.bind_some, getD_at hk, M.i_IsIdle_1, e1, w64_succ (show k ≤ 4611686018427387904 by omega), busyI]
        cases decide ((m.Cpus[k].Stack.length : Int) > 0) with
        | true => rfl
        | false => cases decide (((pendI m.Cpus[k].Queue).length : Int) > 0) <;> rfl
      · simp
  · intro i hi
    have e0 : ((i : Int) < (m.Raised.length : Int)) := by omega
    simp only [e0, decide_true, cond_true, gxIdx_nat (show i < m.Enabled.length by omega), gxIdx_nat (show i < m.Raised.length by omega), Option.bind_some, getD_at (show i < m.Enabled.length by omega), getD_at (show i < m.Raised.length by omega), w64_succ (show i ≤ 4611686018427387904 by omega)]
    cases m.Raised[i]'(by omega) with
    | false => cases m.Enabled[i]'(by omega) <;> rfl
    | true => cases m.Enabled[i]'(by omega) <;> rfl
  · have e0 : ¬ (((8 : Nat) : Int) < (m.Raised.length : Int)) := by omega
    simp only [e0, decide_false, cond_false]
end Go.Proofs.YtllhajkgkghhdaaGreat
set_option linter.unusedVariables false
set_option linter.unusedSimpArgs false
set_option maxHeartbeats 4000000
namespace Go.Proofs.YtllhajkgkghhdaaGreat
open Go.Gx
theorem s_withK {xs : List Slot} {i : Nat} (hi : i < xs.length) (hl : xs.length ≤ 1048576) (y : Slot) : M.s_l8With xs (i : Int) y = some (xs.set i y) := by
  unfold M.s_l8With
  have p0 : gxApp 24 ([] : List Slot) xs = some xs := by rw [gxApp_ok (by simp; omega)]; rfl
  simp only [p0, Option.bind_some, gxIdx_nat hi, Int.toNat_natCast]
theorem i_withK {xs : List Slot} {i : Nat} (hi : i < xs.length) (hl : xs.length ≤ 1048576) (y : Slot) : M.i_withSlot xs (i : Int) y = some (xs.set i y) := by
  unfold M.i_withSlot
  have p0 : gxApp 24 ([] : List Slot) xs = some xs := by rw [gxApp_ok (by simp; omega)]; rfl
  simp only [p0, Option.bind_some, gxIdx_nat hi, Int.toNat_natCast]
theorem app_own {α : Type} {B : Nat} {xs : List α} (h : xs.length * B ≤ 140737488355328) : gxApp B ([] : List α) xs = some xs := by
  rw [gxApp_ok (by simpa using h)]
  rfl
theorem s_ownQ {q : Queue} (hs : q.Slots.length ≤ 1048576) (hw : q.Waiting.length ≤ 1048576) : M.s_l9Own q = some q := by
  unfold M.s_l9Own
  rw [app_own (by omega), Option.bind_some, app_own (by omega)]
  rfl
theorem i_ownQ {q : Queue} (hs : q.Slots.length ≤ 1048576) (hw : q.Waiting.length ≤ 1048576) : M.i_newQueue q = some q := by
  unfold M.i_newQueue
  rw [app_own (by omega), Option.bind_some, app_own (by omega)]
  rfl
theorem i_waitK (ws : List Waiter) (w : Waiter) (hl : ws.length ≤ 1048576) (hok : ∀ x ∈ ws, okWt x) (hw : okWt w) : M.i_withWaiter ws w = some (insU ws w) := by
  unfold M.i_withWaiter
  rw [while_place (fun x => decide (keyW x < keyW w)) (xs := ws) (by omega)]
  · obtain ⟨t1, t2, t3⟩ := take_tw (fun x => decide (keyW x < keyW w)) ws
    rw [Option.bind_some, app_own (by omega), Option.bind_some]
    unfold M.slices_Insert_252
    have h0 : (0 : Int) ≤ (((ws.takeWhile fun x => decide (keyW x < keyW w)).length : Nat) : Int) := by omega
    have h1 : ((((ws.takeWhile fun x => decide (keyW x < keyW w)).length : Nat) : Int) ≤ (ws.length : Int)) := by omega
    have h2 : ([w] : List Waiter).length = 1 := rfl
    have h3 : (ws.length + 1) * 16 ≤ 140737488355328 := by omega
    simp only [h0, h1, h2, h3, decide_true, Bool.and_self, cond_true, Option.bind_some, Int.toNat_natCast, t1, t2, insU, List.append_assoc, List.cons_append, List.nil_append]
  · intro i hi
    have e0 : ((i : Int) < (ws.length : Int)) := by omega
    have hlk := less_key (hok _ (List.getElem_mem hi)) hw
    simp only [e0, decide_true, cond_true, gxIdx_nat hi, Option.bind_some, i_cmpU, cmpU_lt, hlk]
    cases decide (keyW ws[i] < keyW w) <;> rfl
  · simp only [Int.lt_irrefl, decide_false, cond_false, Option.bind_some]
theorem not_set {q : Queue} (hc : setQ q = false) : (∃ w r, q.Waiting = w :: r) ∧ (frS q.Slots < 0 → ∃ k, ∃ hk : k < q.Slots.length, bestF q.Slots q.Slots.length = (k : Int)) := by
  unfold setQ at hc
  cases hw : q.Waiting with
  | nil => rw [hw] at hc; cases hc
  | cons w r =>
    refine ⟨⟨w, r, rfl⟩, fun hf => ?_⟩
    rw [hw] at hc
    have e1 : (((w :: r).length : Int) == 0) = false := by
      rw [beq_eq_false_iff_ne, List.length_cons]
      omega
    have e2 : decide (frS q.Slots ≥ 0) = false := by simp; omega
    rw [e1, e2] at hc
    simp only [cond_false] at hc
    rcases bestF_at q.Slots q.Slots.length with h | ⟨k, h1, h2, _⟩
    · have e3 : decide (bestF q.Slots q.Slots.length < 0) = true := by simp [h]
      rw [e3] at hc
      cases hc
    · exact ⟨k, h1, h2⟩
theorem fr_at {xs : List Slot} (h : ¬ frS xs < 0) : ∃ k, ∃ hk : k < xs.length, frS xs = (k : Int) := by
  obtain ⟨k, hk, h1, _⟩ := frS_at h
  exact ⟨k, hk, h1⟩
theorem s_settleQ {q : Queue} (h : GP q) : M.s_l9Settle q = some (settleQ q) := by
  have hs := h.s.len
  have hw := gp_waiting h
  unfold M.s_l9Settle
  rw [s_ownQ (by omega) (by omega), Option.bind_some]
  have key := settle_run (body := fun s13293 : List Slot × List Waiter =>
    Option.bind (M.s_l9Settled (⟨s13293.1, s13293.2⟩ : Queue)) fun r13324 =>
    bif !r13324 then (Option.bind (gxIdx s13293.2 0) fun y13329 =>
    Option.bind (gxSlice s13293.2 1 (s13293.2.length : Int)) fun ys13343 =>
    Option.bind (gxApp 16 ([] : List Waiter) ys13343) fun ap13345 =>
    Option.bind (M.s_l8Free s13293.1) fun r13353 =>
    Option.bind (α := List Waiter × Int) (bif decide (r13353 < 0) then (Option.bind (M.s_l8Best s13293.1 false) fun r13443 =>
    Option.bind (gxIdx s13293.1 r13443) fun y13449 =>
    Option.bind (gxIdx s13293.1 r13443) fun y13450 =>
    Option.bind (M.s_l9Wait ap13345 (⟨y13449.Irq, y13450.Priority⟩ : Waiter)) fun r13510 =>
    some (r13510, r13443))
    else some (ap13345, r13353)) fun o13434 =>
    Option.bind (M.s_l8With s13293.1 o13434.2 (⟨1, y13329.Irq, y13329.Priority⟩ : Slot)) fun r13523 =>
    some (Sum.inl (β := List Slot × List Waiter) (r13523, o13434.1)))
    else some (.inr (s13293.1, s13293.2))) (fun q => (q.Slots, q.Waiting)) (fun q => (q.Slots, q.Waiting)) (fun q hq => by
      have hsl := hq.s.len
      have hwl := gp_waiting hq
      obtain ⟨S, W⟩ := q
      simp only at hsl hwl
      rw [s_settled ⟨S, W⟩ (by simp only; omega), Option.bind_some]
      cases hc : setQ ⟨S, W⟩ with
      | true => rfl
      | false =>
        obtain ⟨⟨w, r, hwr⟩, hbest⟩ := not_set hc
        simp only at hwr
        subst hwr
        have hok := hq.ok
        simp only at hok
        have i0 : gxIdx (w :: r) 0 = some w := rfl
        have i1 : gxSlice (w :: r) 1 ((w :: r).length : Int) = some r := gxSlice_drop (xs := w :: r) (k := 1) (by simp)
        have i2 : gxApp 16 ([] : List Waiter) r = some r := app_own (by simp at hwl; omega)
        have hh : headW ⟨S, w :: r⟩ = w := rfl
        simp only [Bool.not_false, cond_true, cond_false, i0, i1, i2, Option.bind_some, s_free S (by omega)]
        unfold stepQ
        by_cases hf : frS S < 0
        · obtain ⟨k, hk, hb⟩ := hbest hf
          simp only at hk hb
          simp only [hf, decide_true, cond_true, s_best S (by omega), hb, Option.bind_some, gxIdx_nat hk, hh, Int.toNat_natCast, getD_at hk]
          have ew : (⟨S[k].Irq, S[k].Priority⟩ : Waiter) = wOf S[k] := rfl
          rw [ew, s_wait r (wOf S[k]) (by simp at hwl; omega) (fun x hx => hok x (by simp [hx])) (hq.s.ok _ (List.getElem_mem hk)).2.1]
          simp only [Option.bind_some, s_withK hk (show S.length ≤ 1048576 by omega)]
          rfl
        · obtain ⟨k, hk, hb⟩ := fr_at hf
          simp only [hf, decide_false, cond_false, Option.bind_some]
          rw [hb]
          simp only [Option.bind_some, s_withK hk (show S.length ≤ 1048576 by omega), Int.toNat_natCast, hh]
          rfl) (mu q.Slots + 1) gxFuel h (Nat.lt_succ_self _) (by have := mu_le h.s; unfold gxFuel; omega)
  rw [key, Option.bind_some]
  rfl
theorem i_settleQ {q : Queue} (h : GP q) : M.i_settled q = some (settleQ q) := by
  have hs := h.s.len
  have hw := gp_waiting h
  unfold M.i_settled
  rw [i_ownQ (by omega) (by omega), Option.bind_some]
  have key := settle_run (body := fun s18724 : List Waiter × List Slot =>
    Option.bind (M.i_isSettled (⟨s18724.2, s18724.1⟩ : Queue)) fun r18749 =>
    bif !r18749 then (Option.bind (gxIdx s18724.1 0) fun y18756 =>
    Option.bind (M.i_firstEmpty s18724.2) fun r18757 =>
    Option.bind (gxSlice s18724.1 1 (s18724.1.length : Int)) fun ys18798 =>
    Option.bind (α := Int × List Waiter) (bif decide (r18757 < 0) then (Option.bind (M.i_pendingSlot s18724.2 false) fun r18867 =>
    Option.bind (gxIdx s18724.2 r18867) fun y18873 =>
    Option.bind (M.i_waiterOf y18873) fun r18874 =>
    Option.bind (M.i_withWaiter ys18798 r18874) fun r18911 =>
    some (r18867, r18911))
    else some (r18757, ys18798)) fun o18858 =>
    Option.bind (gxIdx s18724.2 o18858.1) fun y18926 =>
    some (Sum.inl (β := List Waiter × List Slot) (o18858.2, (s18724.2.set o18858.1.toNat (⟨1, y18756.Irq, y18756.Priority⟩ : Slot)))))
    else some (.inr (s18724.1, s18724.2))) (fun q => (q.Waiting, q.Slots)) (fun q => (q.Waiting, q.Slots)) (fun q hq => by
      have hsl := hq.s.len
      have hwl := gp_waiting hq
      have hgs := (goodS_iff _).2 hq.s
      obtain ⟨S, W⟩ := q
      simp only at hsl hwl hgs
      rw [i_settled ⟨S, W⟩ (by simp only; omega) hgs, Option.bind_some]
      cases hc : setQ ⟨S, W⟩ with
      | true => rfl
      | false =>
        obtain ⟨⟨w, r, hwr⟩, hbest⟩ := not_set hc
        simp only at hwr
        subst hwr
        have hok := hq.ok
        simp only at hok
        have i0 : gxIdx (w :: r) 0 = some w := rfl
        have i1 : gxSlice (w :: r) 1 ((w :: r).length : Int) = some r := gxSlice_drop (xs := w :: r) (k := 1) (by simp)
        have hh : headW ⟨S, w :: r⟩ = w := rfl
        simp only [Bool.not_false, cond_true, cond_false, i0, i1, Option.bind_some, i_free S (by omega)]
        unfold stepQ
        by_cases hf : frS S < 0
        · obtain ⟨k, hk, hb⟩ := hbest hf
          simp only at hk hb
          simp only [hf, decide_true, cond_true, i_best S (by omega) hgs, hb, Option.bind_some, gxIdx_nat hk, hh, Int.toNat_natCast, getD_at hk, M.i_waiterOf]
          have ew : (⟨S[k].Irq, S[k].Priority⟩ : Waiter) = wOf S[k] := rfl
          rw [ew, i_waitK r (wOf S[k]) (by simp at hwl; omega) (fun x hx => hok x (by simp [hx])) (hq.s.ok _ (List.getElem_mem hk)).2.1]
          simp only [Option.bind_some, gxIdx_nat hk, Int.toNat_natCast]
          rfl
        · obtain ⟨k, hk, hb⟩ := fr_at hf
          simp only [hf, decide_false, cond_false, Option.bind_some]
          rw [hb]
          simp only [Option.bind_some, gxIdx_nat hk, Int.toNat_natCast, hh]
          rfl) (mu q.Slots + 1) gxFuel h (Nat.lt_succ_self _) (by have := mu_le h.s; unfold gxFuel; omega)
  rw [key, Option.bind_some]
  rfl
theorem s_putK {xs : List Slot} (hl : xs.length ≤ 1048576) {irq p : Int} (hf : ¬ fndS xs irq < 0) : M.s_l8Put xs irq p = some (xs.set (fndS xs irq).toNat (putF (xs.getD (fndS xs irq).toNat gS)), true) := by
  obtain ⟨k, hk, h2, _, _⟩ := fnd_at hf
  unfold M.s_l8Put
  have e : decide (fndS xs irq ≥ 0) = true := by simp; omega
  rw [s_find xs irq hl, Option.bind_some, e, cond_true, h2]
  simp only [gxIdx_nat hk, Option.bind_some, Int.toNat_natCast, getD_at hk]
  unfold putF setSt
  cases (xs[k].State == 2) <;> simp only [cond_true, cond_false, Option.bind_some, s_withK hk hl]
theorem i_putK {xs : List Slot} (hl : xs.length ≤ 1048576) {irq p : Int} (hf : ¬ fndS xs irq < 0) : M.i_putIrq xs irq p = some (xs.set (fndS xs irq).toNat (putF (xs.getD (fndS xs irq).toNat gS)), true) := by
  obtain ⟨k, hk, h2, _, _⟩ := fnd_at hf
  unfold M.i_putIrq
  have e : decide (fndS xs irq ≥ 0) = true := by simp; omega
  rw [i_find xs irq hl, Option.bind_some, e, cond_true, h2]
  simp only [gxIdx_nat hk, Option.bind_some, Int.toNat_natCast, getD_at hk]
  unfold putF setSt
  cases (xs[k].State == 2) <;> simp only [cond_true, cond_false, Option.bind_some, i_withK hk hl]
theorem has_find (ws : List Waiter) (q : Int) : decide ((match (List.range ws.length).find? (fun i => (ws.getD i gW).Irq == q) with | some i => (i : Int) | none => -1) ≥ 0) = hasW ws q := by
  unfold hasW
  cases hf : (List.range ws.length).find? (fun i => (ws.getD i gW).Irq == q) with
  | some i =>
    have hi : i < ws.length := List.mem_range.1 (List.mem_of_find?_eq_some hf)
    have hp := List.find?_some hf
    rw [getD_at hi] at hp
    have : (ws.any fun w => w.Irq == q) = true := List.any_eq_true.2 ⟨_, List.getElem_mem hi, hp⟩
    rw [this]
    simp
  | none =>
    rw [List.find?_eq_none] at hf
    have : (ws.any fun w => w.Irq == q) = false := by
      rw [List.any_eq_false]
      intro w hw
      obtain ⟨i, hi, rfl⟩ := List.getElem_of_mem hw
      have := hf i (List.mem_range.2 hi)
      rw [getD_at hi] at this
      exact this
    rw [this]
    rfl
theorem s_hasK (ws : List Waiter) (q : Int) (hl : ws.length ≤ 1048576) : ∃ r, M.s_l9Has ws q = some r ∧ decide (r ≥ 0) = hasW ws q := by
  refine ⟨_, ?_, has_find ws q⟩
  unfold M.s_l9Has
  rw [while_first (fun i => (i : Int)) (fun i => (ws.getD i gW).Irq == q) (fun i => (Sum.inr (i : Int) : Unit ⊕ Int)) (Sum.inl ()) ws.length (by simp) (by omega)]
  · cases (List.range ws.length).find? (fun i => (ws.getD i gW).Irq == q) <;> rfl
  · intro i hi
    have e0 : ((i : Int) < (ws.length : Int)) := by omega
    simp only [e0, decide_true, cond_true, gxIdx_nat hi, Option.bind_some, getD_at hi, w64_succ (show i ≤ 4611686018427387904 by omega)]
    cases (ws[i].Irq == q) <;> rfl
  · simp only [Int.lt_irrefl, decide_false, cond_false]
theorem i_hasK (ws : List Waiter) (q : Int) (hl : ws.length ≤ 1048576) : ∃ r, M.i_waiterIndex ws q = some r ∧ decide (r ≥ 0) = hasW ws q := by
  refine ⟨_, ?_, has_find ws q⟩
  unfold M.i_waiterIndex M.slices_IndexFunc_166__i_waiterIndex_1 M.i_waiterIndex_1
  rw [while_first (fun i => (i : Int)) (fun i => (ws.getD i gW).Irq == q) (fun i => (Sum.inr (i : Int) : Unit ⊕ Int)) (Sum.inl ()) ws.length (by simp) (by omega)]
  · cases (List.range ws.length).find? (fun i => (ws.getD i gW).Irq == q) <;> rfl
  · intro i hi
    have e0 : ((i : Int) < (ws.length : Int)) := by omega
    simp only [e0, decide_true, cond_true, gxIdx_nat hi, Option.bind_some, getD_at hi, w64_succ (show i ≤ 4611686018427387904 by omega)]
    cases (ws[i].Irq == q) <;> rfl
  · simp only [Int.lt_irrefl, decide_false, cond_false]
theorem neg_ge {r : Int} {b : Bool} (h : decide (r ≥ 0) = b) : decide (r < 0) = !b := by
  rw [← h]
  by_cases h0 : r < 0
  · have : ¬ (r ≥ 0) := by omega
    simp [h0]
  · have : r ≥ 0 := by omega
    simp [this]
theorem s_offQ {q : Queue} (h : GP q) {w : Waiter} (hw : okWt w) : M.s_l9Offer q w.Irq w.Priority = some (offQ q w) := by
  have hs := h.s.len
  have hwl := gp_waiting h
  unfold M.s_l9Offer offQ
  rw [s_find _ _ (by omega), Option.bind_some]
  by_cases hf : fndS q.Slots w.Irq < 0
  · have e : decide (fndS q.Slots w.Irq ≥ 0) = false := by simp; omega
    obtain ⟨r, hr, hr2⟩ := s_hasK q.Waiting w.Irq (by omega)
    rw [e, cond_false, cond_false, hr, Option.bind_some, hr2]
    cases hh : hasW q.Waiting w.Irq with
    | true => rw [cond_true, cond_true, s_settleQ h]; rfl
    | false =>
      rw [cond_false, cond_false, s_wait q.Waiting w (by omega) h.ok hw, Option.bind_some, s_settleQ (gp_ins h hw hf hh)]
      rfl
  · have e : decide (fndS q.Slots w.Irq ≥ 0) = true := by simp; omega
    obtain ⟨k, hk, h2, h3, _⟩ := fnd_at hf
    have hgp := gp_put h hk h3
    rw [e, cond_true, cond_true, s_putK (by omega) hf, Option.bind_some]
    rw [h2, Int.toNat_natCast, getD_at hk]
    rw [s_settleQ hgp]
    rfl
theorem i_offQ {q : Queue} (h : GP q) {w : Waiter} (hw : okWt w) : M.i_offerIrq q w.Irq w.Priority = some (offQ q w) := by
  have hs := h.s.len
  have hwl := gp_waiting h
  unfold M.i_offerIrq offQ
  rw [i_ownQ (by omega) (by omega), Option.bind_some, i_find _ _ (by omega), Option.bind_some]
  by_cases hf : fndS q.Slots w.Irq < 0
  · have e : decide (fndS q.Slots w.Irq ≥ 0) = false := by simp; omega
    obtain ⟨r, hr, hr2⟩ := i_hasK q.Waiting w.Irq (by omega)
    rw [e, cond_false, cond_false, hr, Option.bind_some, neg_ge hr2]
    cases hh : hasW q.Waiting w.Irq with
    | true =>
      simp only [Bool.not_true, cond_false, cond_true, Option.bind_some]
      rw [i_settleQ h]
      rfl
    | false =>
      simp only [Bool.not_false, cond_false, cond_true]
      rw [i_waitK q.Waiting w (by omega) h.ok hw]
      simp only [Option.bind_some]
      rw [i_settleQ (gp_ins h hw hf hh)]
      rfl
  · have e : decide (fndS q.Slots w.Irq ≥ 0) = true := by simp; omega
    obtain ⟨k, hk, h2, h3, _⟩ := fnd_at hf
    have hgp := gp_put h hk h3
    rw [e, cond_true, cond_true, i_putK (by omega) hf, Option.bind_some]
    rw [h2, Int.toNat_natCast, getD_at hk]
    simp only [Option.bind_some]
    rw [i_settleQ hgp]
    rfl
end Go.Proofs.YtllhajkgkghhdaaGreat
set_option linter.unusedVariables false
set_option linter.unusedSimpArgs false
set_option maxHeartbeats 4000000
namespace Go.Proofs.YtllhajkgkghhdaaGreat
open Go.Gx
theorem s_bestT (xs : List Slot) (h : xs.length ≤ 1048576) : M.s_l8Best xs true = some (topS xs) := by
  unfold M.s_l8Best topS
  rw [while_run (fun i => (topF xs i, (i : Int))) (topF xs xs.length) xs.length (by simp [topF]) (by omega)]
  · rfl
  · intro i hi
    have e0 : ((i : Int) < (xs.length : Int)) := by omega
    simp only [e0, decide_true, cond_true, gxIdx_nat hi, Option.bind_some, s_less, w64_succ (show i ≤ 4611686018427387904 by omega)]
    have hb : topF xs (i + 1) = bif xs[i].State == 1 then (bif decide (topF xs i < 0) || lessU xs[i].Priority xs[i].Irq (xs.getD (topF xs i).toNat gS).Priority (xs.getD (topF xs i).toNat gS).Irq then (i : Int) else topF xs i) else topF xs i := by
      rw [topF, getD_at hi]
    rw [hb]
    cases hs : (xs[i].State == 1) with
    | false => simp [bne, hs]
    | true =>
      simp only [bne, hs, Bool.not_true, cond_false, cond_true]
      rcases topF_at xs i with hn | ⟨k, hk, he, _⟩
      · simp [hn]
      · have hkl : k < xs.length := by omega
        have hnn : ¬ ((k : Int) < 0) := by omega
        simp only [he, hnn, decide_false, cond_false, cond_true, gxIdx_nat hkl, Option.bind_some, Int.toNat_natCast, getD_at hkl, Bool.false_or]
        cases lessU xs[i].Priority xs[i].Irq xs[k].Priority xs[k].Irq <;> rfl
  · simp
theorem i_bestT (xs : List Slot) (h : xs.length ≤ 1048576) : M.i_pendingSlot xs true = some (topS xs) := by
  unfold M.i_pendingSlot topS
  rw [while_run (fun i => (topF xs i, (i : Int))) (topF xs xs.length) xs.length (by simp [topF]) (by omega)]
  · rfl
  · intro i hi
    have e0 : ((i : Int) < (xs.length : Int)) := by omega
    simp only [e0, decide_true, cond_true, gxIdx_nat hi, Option.bind_some, M.i_waiterOf, i_cmpU, w64_succ (show i ≤ 4611686018427387904 by omega)]
    have hb : topF xs (i + 1) = bif xs[i].State == 1 then (bif decide (topF xs i < 0) || lessU xs[i].Priority xs[i].Irq (xs.getD (topF xs i).toNat gS).Priority (xs.getD (topF xs i).toNat gS).Irq then (i : Int) else topF xs i) else topF xs i := by
      rw [topF, getD_at hi]
    rw [hb]
    cases hs : (xs[i].State == 1) with
    | false => simp
    | true =>
      simp only [cond_true]
      rcases topF_at xs i with hn | ⟨k, hk, he, hk1⟩
      · simp [hn]
      · have hkl : k < xs.length := by omega
        have hnn : ¬ ((k : Int) < 0) := by omega
        simp only [he, hnn, decide_false, cond_false, gxIdx_nat hkl, Option.bind_some, Int.toNat_natCast, getD_at hkl, Bool.false_or, cmpU_lt, beq_true]
        cases lessU xs[i].Priority xs[i].Irq xs[k].Priority xs[k].Irq <;> rfl
  · simp
theorem last_idx {l : List Int} (h0 : l.length ≠ 0) (hl : l.length ≤ 1048576) : gxIdx l (w64 ((l.length : Int) - 1)) = some (l.getD (l.length - 1) 0) := by
  have hk : l.length - 1 < l.length := by omega
  rw [w64_id (by omega) (by omega), show ((l.length : Int) - 1) = ((l.length - 1 : Nat) : Int) by omega, gxIdx_nat hk, getD_at hk]
theorem last_found {x : Interface} (h : GI x) (h0 : x.Stack.length ≠ 0) : ¬ fndS x.Queue.Slots (lastI x) < 0 := by
  refine act_find ?_
  rw [actS_W]
  exact h.stk.mem_iff.1 (by rw [stack_last h0]; simp)
theorem s_run {x : Interface} (h : GI x) : M.s_l10Running x = some (runP x) := by
  have hl := gi_len h
  have hs := (gi_slots h).len
  unfold M.s_l10Running runP
  by_cases h0 : x.Stack.length = 0
  · have e : ¬ ((x.Stack.length : Int) > 0) := by omega
    simp only [h0, e, decide_false, decide_true, cond_false, cond_true, Int.ofNat_zero, Int.lt_irrefl, gt_iff_lt]
  · have e : ((x.Stack.length : Int) > 0) := by omega
    have := s_level ⟨x.Queue.Slots, x.Queue.Waiting⟩ (lastI x) (by simp only; omega) (last_found h h0)
    unfold lastI at this
    simp only [h0, e, decide_false, decide_true, cond_false, cond_true, last_idx h0 (show x.Stack.length ≤ 1048576 by omega), Option.bind_some, this]
theorem i_run {x : Interface} (h : GI x) : M.i_runningPriority x = some (runP x) := by
  have hl := gi_len h
  have hs := (gi_slots h).len
  unfold M.i_runningPriority runP
  by_cases h0 : x.Stack.length = 0
  · have e : ((x.Stack.length : Int) == 0) = true := by simp [h0]
    rw [e]
    simp only [h0, decide_true, cond_true]
  · have e : ((x.Stack.length : Int) == 0) = false := by rw [beq_eq_false_iff_ne]; omega
    have := i_level x.Queue.Slots (lastI x) (by omega) (last_found h h0)
    unfold lastI at this
    rw [e]
    simp only [h0, decide_false, cond_false, last_idx h0 (show x.Stack.length ≤ 1048576 by omega), Option.bind_some, this]
theorem s_lim {x : Interface} : M.s_l1Least x.Mask (runP x) = some (limI x) := by
  unfold M.s_l1Least limI
  cases decide (x.Mask < runP x) <;> rfl
theorem i_lim (x : Interface) : gxMin x.Mask (runP x) = limI x := by
  unfold gxMin limI
  by_cases h : x.Mask < runP x
  · have h2 : ¬ (runP x < x.Mask) := by omega
    simp only [h, h2, decide_true, cond_true, if_false]
  · simp only [h, decide_false, cond_false]
    split
    · rfl
    · omega
theorem top_cond (xs : List Slot) (limit : Int) : (Option.bind (α := Bool) (bif decide (topS xs < 0) then some true else (Option.bind (gxIdx xs (topS xs)) fun y => some (decide (y.Priority ≥ limit)))) fun o => some o) = some (!(canT xs limit)) := by
  unfold canT topX
  rcases topF_at xs xs.length with h | ⟨k, hk, h1, h2⟩
  · have h' : topS xs < 0 := h
    have h3 : ¬ (topS xs ≥ 0) := by omega
    simp [h']
  · have h' : topS xs = (k : Int) := h1
    have e1 : ¬ ((k : Int) < 0) := by omega
    have e2 : ((k : Int) ≥ 0) := by omega
    rw [h']
    simp only [e1, e2, decide_false, decide_true, cond_false, gxIdx_nat hk, Option.bind_some, Int.toNat_natCast, getD_at hk, Bool.true_and]
    congr 1
    by_cases hp : xs[k].Priority < limit
    · have : ¬ (xs[k].Priority ≥ limit) := by omega
      simp [hp]
    · have : xs[k].Priority ≥ limit := by omega
      simp [this]
theorem top_known {xs : List Slot} {limit : Int} : (bif decide (topS xs < 0) then some true else (Option.bind (gxIdx xs (topS xs)) fun y => some (decide (y.Priority ≥ limit)))) = some (!(canT xs limit)) := by
  have h := top_cond xs limit
  cases hc : (bif decide (topS xs < 0) then some true else (Option.bind (gxIdx xs (topS xs)) fun y => some (decide (y.Priority ≥ limit)))) with
  | none => rw [hc] at h; cases h
  | some b => rw [hc] at h; exact h
theorem tak_with {xs : List Slot} {limit : Int} (hc : canT xs limit = true) : ∃ k, ∃ hk : k < xs.length, topS xs = (k : Int) ∧ topX xs = xs[k] ∧ takL xs = xs.set k ⟨2, xs[k].Irq, xs[k].Priority⟩ := by
  rcases topF_at xs xs.length with h | ⟨k, hk, h1, h2⟩
  · have h' : topS xs < 0 := h
    have h3 : ¬ (topS xs ≥ 0) := by omega
    unfold canT at hc
    simp [h3] at hc
  · have h' : topS xs = (k : Int) := h1
    have e : topX xs = xs[k] := by unfold topX; rw [h', Int.toNat_natCast, getD_at hk]
    refine ⟨k, hk, h', e, ?_⟩
    unfold takL setSt
    rw [e, h', Int.toNat_natCast]
theorem s_takeK (xs : List Slot) (limit : Int) (hl : xs.length ≤ 1048576) : M.s_l8Take__k xs limit = bif canT xs limit then none else some (xs, -1) := by
  unfold M.s_l8Take__k
  rw [s_bestT xs hl, Option.bind_some, top_known, Option.bind_some]
  cases hc : canT xs limit with
  | false => rfl
  | true =>
    obtain ⟨k, hk, h1, _⟩ := tak_with hc
    simp only [Bool.not_true, cond_false, cond_true, h1, gxIdx_nat hk, Option.bind_some, s_withK hk hl]
theorem s_takeO {xs : List Slot} {limit : Int} (hl : xs.length ≤ 1048576) (hc : canT xs limit = true) : M.s_l8Take xs limit = some (takL xs, (topX xs).Irq) := by
  unfold M.s_l8Take
  obtain ⟨k, hk, h1, h2, h3⟩ := tak_with hc
  rw [s_bestT xs hl, Option.bind_some, top_known, Option.bind_some, hc, h2, h3]
  simp only [Bool.not_true, cond_false, h1, gxIdx_nat hk, Option.bind_some, s_withK hk hl]
theorem s_takeQ {q : Queue} (h : GP q) (limit : Int) : M.s_l9Take q limit = some (bif canT q.Slots limit then (⟨takL q.Slots, q.Waiting⟩, (topX q.Slots).Irq) else (q, -1)) := by
  have hs := h.s.len
  have hw := gp_waiting h
  unfold M.s_l9Take
  rw [s_takeK _ _ (by omega)]
  cases hc : canT q.Slots limit with
  | false =>
    simp only [cond_false, gxAlt_some]
    rw [app_own (by omega), Option.bind_some, app_own (by omega)]
    rfl
  | true =>
    have hl : (takL q.Slots).length = 4 := by unfold takL; rw [List.length_set]; exact hs
    simp only [cond_true, gxAlt_none]
    rw [s_takeO (by omega) hc, Option.bind_some]
    rw [app_own (xs := takL q.Slots) (by omega), Option.bind_some, app_own (by omega)]
    rfl
theorem i_takeS (xs : List Slot) (limit : Int) (hl : xs.length ≤ 1048576) : M.i_takeSlot xs limit = some (bif canT xs limit then (takL xs, (topX xs).Irq, true) else ([], 0, false)) := by
  unfold M.i_takeSlot
  rw [i_bestT xs hl, Option.bind_some, top_known, Option.bind_some]
  cases hc : canT xs limit with
  | false => rfl
  | true =>
    obtain ⟨k, hk, h1, h2, h3⟩ := tak_with hc
    rw [h2, h3]
    simp only [Bool.not_true, cond_false, cond_true, h1, gxIdx_nat hk, Option.bind_some, i_withK hk hl]
theorem i_takeQ {q : Queue} (h : GP q) (limit : Int) : M.i_takeQueue q limit = some (bif canT q.Slots limit then (⟨takL q.Slots, q.Waiting⟩, (topX q.Slots).Irq, true) else (⟨[], []⟩, 0, false)) := by
  have hs := h.s.len
  have hw := gp_waiting h
  unfold M.i_takeQueue
  rw [i_takeS _ _ (by omega), Option.bind_some]
  cases hc : canT q.Slots limit with
  | false => rfl
  | true =>
    simp only [cond_true, Bool.not_true, cond_false]
    rw [i_ownQ (by omega) (by omega)]
    rfl
theorem top_irq {x : Interface} (h : GI x) (hc : canTI x = true) : 0 ≤ (topX x.Queue.Slots).Irq ∧ (topX x.Queue.Slots).Irq ≤ 7 := by
  obtain ⟨k, hk, _, e, _⟩ := canT_at (gi_slots h) hc
  rw [e]
  exact ((gi_slots h).ok _ (List.getElem_mem hk)).2.1.1
def zI : Interface := ⟨0, [], ⟨[], []⟩⟩
theorem s_takI {x : Interface} (h : GI x) : M.s_l10Take x = some (bif canTI x then (takI x, (topX x.Queue.Slots).Irq) else (x, -1)) := by
  have hl := gi_len h
  obtain ⟨Mk, St, Qu⟩ := x
  unfold M.s_l10Take
  rw [s_run h, Option.bind_some, s_lim, Option.bind_some, s_takeQ h.q.1, Option.bind_some]
  unfold M.s_l1Own
  simp only at hl
  simp only [app_own (xs := St) (B := 8) (by omega), Option.bind_some]
  cases hc : canTI ⟨Mk, St, Qu⟩ with
  | false =>
    have hc' := hc
    unfold canTI at hc'
    simp only at hc'
    rw [hc']
    rfl
  | true =>
    have hq := top_irq h hc
    have hc' := hc
    unfold canTI at hc'
    simp only at hc' hq
    rw [hc']
    have hq1 := hq.1
    simp only [cond_true, ge_iff_le, hq1, decide_true]
    rw [gxApp_ok (show (St.length + 1) * 8 ≤ 140737488355328 by omega)]
    rfl
theorem i_takI {x : Interface} (h : GI x) : M.i_takeIrq x = some (bif canTI x then (takI x, (topX x.Queue.Slots).Irq, true) else (zI, 0, false)) := by
  have hl := gi_len h
  obtain ⟨Mk, St, Qu⟩ := x
  unfold M.i_takeIrq
  rw [i_run h, Option.bind_some, i_lim ⟨Mk, St, Qu⟩, i_takeQ h.q.1, Option.bind_some]
  simp only at hl
  cases hc : canTI ⟨Mk, St, Qu⟩ with
  | false =>
    have hc' := hc
    unfold canTI at hc'
    simp only at hc'
    rw [hc']
    rfl
  | true =>
    have hc' := hc
    unfold canTI at hc'
    simp only at hc'
    rw [hc']
    simp only [cond_true, Bool.not_true, cond_false]
    unfold M.i_copyInts
    rw [app_own (xs := St) (by omega), Option.bind_some, Option.bind_some, gxApp_ok (show (St.length + 1) * 8 ≤ 140737488355328 by omega)]
    rfl
theorem s_raiI {x : Interface} (h : GI x) {w : Waiter} (hw : okWt w) : M.s_l10Raise x w.Irq w.Priority = some (raiI x w) := by
  have hl := gi_len h
  unfold M.s_l10Raise M.s_l1Own
  rw [app_own (by omega), Option.bind_some, Option.bind_some, s_offQ h.q.1 hw]
  rfl
theorem i_ownI {x : Interface} (h : fitIf x) : M.i_newInterface x = some x := by
  obtain ⟨h1, h2, h3⟩ := h
  unfold M.i_newInterface M.i_copyInts
  rw [app_own (by omega), Option.bind_some, Option.bind_some, i_ownQ h2 h3]
  rfl
theorem s_ownI {x : Interface} (h : fitIf x) : M.s_l10Own x = some x := by
  obtain ⟨h1, h2, h3⟩ := h
  unfold M.s_l10Own M.s_l1Own
  rw [app_own (by omega), Option.bind_some, Option.bind_some, s_ownQ h2 h3]
  rfl
theorem i_raiI {x : Interface} (h : GI x) {w : Waiter} (hw : okWt w) : M.i_raiseIrq x w.Irq w.Priority = some (raiI x w) := by
  unfold M.i_raiseIrq
  rw [i_ownI (gi_fit h), Option.bind_some, i_offQ h.q.1 hw]
  rfl
theorem s_endK {xs : List Slot} (h : GS xs) {irq : Int} (hc : canE xs irq = true) : M.s_l8End xs irq = some (endL xs irq, true) := by
  have hl := h.len
  obtain ⟨k, hk, e1, hst, hi, e2⟩ := canE_at h hc
  unfold M.s_l8End
  rw [s_find xs irq (by omega), Option.bind_some, e1, e2]
  have n0 : ¬ ((k : Int) < 0) := by omega
  have n1 : (xs[k].State == 1) = false := by rw [beq_eq_false_iff_ne]; omega
  simp only [n0, decide_false, cond_false, gxIdx_nat hk, Option.bind_some, n1]
  unfold endF setSt
  cases hs : (xs[k].State == 2) with
  | true => simp only [cond_true, s_withK hk (show xs.length ≤ 1048576 by omega), Option.bind_some]; rfl
  | false => simp only [cond_false, s_withK hk (show xs.length ≤ 1048576 by omega), Option.bind_some]
theorem i_endK {xs : List Slot} (h : GS xs) {irq : Int} (hc : canE xs irq = true) : M.i_endSlot xs irq = some (endL xs irq, true) := by
  have hl := h.len
  obtain ⟨k, hk, e1, hst, hi, e2⟩ := canE_at h hc
  unfold M.i_endSlot
  rw [i_find xs irq (by omega), Option.bind_some, e1, e2]
  have n0 : ¬ ((k : Int) < 0) := by omega
  simp only [n0, decide_false, cond_false, gxIdx_nat hk, Option.bind_some]
  unfold M.i_isActive endF setSt
  rcases hst with hs | hs
  · have b2 : (xs[k].State == 2) = true := by simp [hs]
    have b3 : (xs[k].State == 3) = false := by simp [hs]
    simp only [b2, b3, cond_true, cond_false, Option.bind_some, Bool.not_true, i_withK hk (show xs.length ≤ 1048576 by omega)]
    rfl
  · have b2 : (xs[k].State == 2) = false := by simp [hs]
    have b3 : (xs[k].State == 3) = true := by simp [hs]
    simp only [b2, b3, cond_true, cond_false, Option.bind_some, Bool.not_true, i_withK hk (show xs.length ≤ 1048576 by omega), hi]
theorem s_endQ {q : Queue} (h : GP q) {irq : Int} (hc : canE q.Slots irq = true) : M.s_l9End q irq = some (endQ q irq, true) := by
  unfold M.s_l9End
  rw [s_endK h.s hc, Option.bind_some]
  simp only [Bool.not_true, cond_false]
  rw [s_settleQ (gp_end h hc)]
  rfl
theorem i_endQ {q : Queue} (h : GP q) {irq : Int} (hc : canE q.Slots irq = true) : M.i_endQueue q irq = some (endQ q irq, true) := by
  unfold M.i_endQueue
  rw [i_endK h.s hc, Option.bind_some]
  simp only [Bool.not_true, cond_false]
  rw [i_settleQ (gp_end h hc)]
  rfl
theorem slice_last {l : List Int} (h0 : l.length ≠ 0) (hl : l.length ≤ 1048576) : gxSlice l 0 (w64 ((l.length : Int) - 1)) = some (l.take (l.length - 1)) := by
  rw [w64_id (by omega) (by omega), show ((l.length : Int) - 1) = ((l.length - 1 : Nat) : Int) by omega]
  exact gxSlice_take (by omega)
theorem s_leaE {x : Interface} (h0 : x.Stack.length = 0) : M.s_l10Leave__k x = some (x, -1) := by
  unfold M.s_l10Leave__k
  have e : ((x.Stack.length : Int) == 0) = true := by simp [h0]
  rw [e]
  rfl
theorem s_leaK {x : Interface} (h : GI x) (h0 : x.Stack.length ≠ 0) : M.s_l10Leave__k x = none ∧ M.s_l10Leave x = some (leaI x, lastI x) := by
  have hl := gi_len h
  obtain ⟨hc, _⟩ := last_can h h0
  have e : ((x.Stack.length : Int) == 0) = false := by rw [beq_eq_false_iff_ne]; omega
  have e1 := last_idx (l := x.Stack) h0 (by omega)
  have e2 := slice_last (l := x.Stack) h0 (by omega)
  have e3 : x.Stack.getD (x.Stack.length - 1) 0 = lastI x := rfl
  rw [e3] at e1
  have e4 := s_endQ h.q.1 hc
  have e5 : gxApp 8 ([] : List Int) (x.Stack.take (x.Stack.length - 1)) = some (x.Stack.take (x.Stack.length - 1)) := app_own (by rw [List.length_take]; omega)
  have e6 : (⟨x.Queue.Slots, x.Queue.Waiting⟩ : Queue) = x.Queue := rfl
  unfold M.s_l10Leave__k M.s_l10Leave M.s_l1Own
  rw [e, e6]
  simp only [cond_false, e1, Option.bind_some, e4, e2, e5]
  exact ⟨trivial, rfl⟩
theorem i_leaK {x : Interface} (h : GI x) : M.i_leaveIrq x = some (bif decide (x.Stack.length = 0) then (zI, 0, false) else (leaI x, lastI x, true)) := by
  have hl := gi_len h
  unfold M.i_leaveIrq
  by_cases h0 : x.Stack.length = 0
  · have e : decide (w64 ((x.Stack.length : Int) - 1) < 0) = true := by
      rw [h0]
      rfl
    simp only [e, h0, cond_true, decide_true]
    rfl
  · obtain ⟨hc, _⟩ := last_can h h0
    have e : decide (w64 ((x.Stack.length : Int) - 1) < 0) = false := by
      rw [w64_id (by omega) (by omega)]
      simp
      omega
    have e1 := last_idx (l := x.Stack) h0 (by omega)
    have e2 := slice_last (l := x.Stack) h0 (by omega)
    have e3 : x.Stack.getD (x.Stack.length - 1) 0 = lastI x := rfl
    rw [e3] at e1
    have e4 := i_endQ h.q.1 hc
    have e5 : gxApp 8 ([] : List Int) (x.Stack.take (x.Stack.length - 1)) = some (x.Stack.take (x.Stack.length - 1)) := app_own (by rw [List.length_take]; omega)
    have e6 : (⟨x.Queue.Slots, x.Queue.Waiting⟩ : Queue) = x.Queue := rfl
    unfold M.i_copyInts
    rw [e, e6]
    simp only [h0, decide_false, cond_false, e1, Option.bind_some, e4, e2, e5]
    rfl
end Go.Proofs.YtllhajkgkghhdaaGreat
set_option linter.unusedVariables false
set_option linter.unusedSimpArgs false
set_option maxHeartbeats 4000000
namespace Go.Proofs.YtllhajkgkghhdaaGreat
open Go.Gx
def FT (rs : List Route) (k : Int) (q : Queue) : Prop := (∀ s ∈ q.Slots, s.State ≠ 3 ∧ (s.State = 0 ∨ rtOk rs k s.Irq s.Priority = true)) ∧ ∀ w ∈ q.Waiting, rtOk rs k w.Irq w.Priority = true
theorem fit_iff {rs : List Route} {k : Int} {x : Interface} : fitOk rs k x = true ↔ FT rs k x.Queue := by
  unfold fitOk FT
  simp only [Bool.and_eq_true, List.all_eq_true, Bool.not_eq_true', beq_eq_false_iff_ne, Bool.or_eq_true, beq_iff_eq]
  constructor
  · rintro ⟨h1, h2, h3⟩
    exact ⟨fun s hs => ⟨h1 s hs, h2 s hs⟩, h3⟩
  · rintro ⟨h1, h3⟩
    exact ⟨fun s hs => (h1 s hs).1, fun s hs => (h1 s hs).2, h3⟩
theorem ft_pend {rs : List Route} {k : Int} {q : Queue} (f : FT rs k q) {w : Waiter} (hw : w ∈ pendW q) : rtOk rs k w.Irq w.Priority = true := by
  unfold pendW at hw
  rcases List.mem_append.1 hw with hw | hw
  · exact f.2 w hw
  · obtain ⟨s, hs, rfl⟩ := List.mem_map.1 hw
    obtain ⟨h1, h2⟩ := List.mem_filter.1 hs
    rcases (f.1 s h1).2 with h | h
    · exact absurd h (isPd_ne h2)
    · exact h
theorem actM_mem {xs : List Slot} {s : Slot} (hs : isAct s = true) : some s ∈ actM xs ↔ s ∈ xs := by
  unfold actM
  rw [List.mem_map]
  constructor
  · rintro ⟨t, ht, he⟩
    cases hta : isAct t with
    | false => rw [hta] at he; cases he
    | true =>
      rw [hta] at he
      obtain rfl := Option.some.inj he
      exact ht
  · intro h
    exact ⟨s, h, by rw [hs]; rfl⟩
theorem ft_kept {rs : List Route} {k : Int} {q r : Queue} (h : kept q r) (f : FT rs k q) : FT rs k r := by
  refine ⟨fun s hs => ?_, fun w hw => ft_pend f (h.pend.mem_iff.1 (List.mem_append_left _ hw))⟩
  have hok := (h.p.s.ok s hs).1
  cases ha : isAct s with
  | true =>
    have h1 : s ∈ q.Slots := (actM_mem ha).1 (h.act ▸ (actM_mem ha).2 hs)
    exact f.1 s h1
  | false =>
    unfold isAct at ha
    simp only [Bool.or_eq_false_iff, beq_eq_false_iff_ne] at ha
    refine ⟨ha.2, ?_⟩
    by_cases h0 : s.State = 0
    · exact Or.inl h0
    · have hp : isPd s = true := by
        unfold isPd
        have : s.State = 1 := by omega
        simp [this]
      have hm : wOf s ∈ pendW r := List.mem_append_right _ (List.mem_map.2 ⟨s, List.mem_filter.2 ⟨hs, hp⟩, rfl⟩)
      exact Or.inr (ft_pend f (h.pend.mem_iff.1 hm))
theorem ft_settle {rs : List Route} {k : Int} {q : Queue} (h : GP q) (f : FT rs k q) : FT rs k (settleQ q) := ft_kept (settleQ_ok h).1 f
theorem ft_off {rs : List Route} {k : Int} {q : Queue} (h : GP q) {w : Waiter} (hw : okWt w) (f : FT rs k q) (hr : rtOk rs k w.Irq w.Priority = true) (hn : w.Irq ∉ (actW q.Slots).map Waiter.Irq) : FT rs k (offQ q w) := by
  unfold offQ
  by_cases hf : fndS q.Slots w.Irq < 0
  · have e : decide (fndS q.Slots w.Irq ≥ 0) = false := by simp; omega
    rw [e, cond_false]
    cases hh : hasW q.Waiting w.Irq with
    | true => rw [cond_true]; exact ft_settle h f
    | false =>
      rw [cond_false]
      refine ft_settle (gp_ins h hw hf hh) ⟨f.1, fun x hx => ?_⟩
      rcases List.mem_cons.1 ((insU_perm q.Waiting w).mem_iff.1 hx) with rfl | hx
      · exact hr
      · exact f.2 x hx
  · have e : decide (fndS q.Slots w.Irq ≥ 0) = true := by simp; omega
    obtain ⟨j, hj, h2, h3, h4⟩ := fnd_at hf
    rw [e, cond_true, h2, Int.toNat_natCast, getD_at hj]
    have hs := f.1 _ (List.getElem_mem hj)
    have h22 : q.Slots[j].State ≠ 2 := fun h22 => hn (by
      rw [← h4]
      exact List.mem_map.2 ⟨wOf q.Slots[j], List.mem_map.2 ⟨_, List.mem_filter.2 ⟨List.getElem_mem hj, by simp [isAct, h22]⟩, rfl⟩, rfl⟩)
    obtain ⟨_, _, ⟨e1, _⟩ | ⟨_, e2⟩⟩ := putF_st q.Slots[j]
    · exact absurd e1 h22
    · rw [e2, List.set_getElem_self]
      exact ft_settle h f
theorem fit_rai {rs : List Route} {k : Int} {x : Interface} (h : GI x) (f : fitOk rs k x = true) {w : Waiter} (hw : okWt w) (hr : rtOk rs k w.Irq w.Priority = true) (hn : w.Irq ∉ x.Stack) : fitOk rs k (raiI x w) = true :=
  fit_iff.2 (ft_off h.q.1 hw (fit_iff.1 f) hr fun hm => hn (h.stk.mem_iff.2 hm))
theorem fit_tak {rs : List Route} {k : Int} {x : Interface} (h : GI x) (f : fitOk rs k x = true) (hc : canTI x = true) : fitOk rs k (takI x) = true := by
  have f := fit_iff.1 f
  refine fit_iff.2 ?_
  obtain ⟨j, hj, _, _, e, h1, _, _⟩ := canT_at (gi_slots h) hc
  unfold takI
  refine ⟨fun s hs => ?_, f.2⟩
  simp only at hs
  rw [e] at hs
  rcases mem_set_iff hj hs with rfl | ⟨i, hi, _, rfl⟩
  · refine ⟨by simp [setSt], ?_⟩
    rcases (f.1 _ (List.getElem_mem hj)).2 with h0 | h0
    · rw [h1] at h0
      cases h0
    · exact Or.inr h0
  · exact f.1 _ (List.getElem_mem hi)
theorem fit_lea {rs : List Route} {k : Int} {x : Interface} (h : GI x) (f : fitOk rs k x = true) (h0 : x.Stack.length ≠ 0) : fitOk rs k (leaI x) = true := by
  have f := fit_iff.1 f
  refine fit_iff.2 ?_
  obtain ⟨hc, _⟩ := last_can h h0
  obtain ⟨j, hj, _, hst, _, e⟩ := canE_at (gi_slots h) hc
  unfold leaI endQ
  refine ft_settle (gp_end h.q.1 hc) ⟨fun s hs => ?_, f.2⟩
  simp only at hs
  rw [e] at hs
  rcases mem_set_iff hj hs with rfl | ⟨i, hi, _, rfl⟩
  · have h3 := (f.1 _ (List.getElem_mem hj)).1
    have h2 : (x.Queue.Slots[j].State == 2) = true := by
      rw [beq_iff_eq]
      omega
    unfold endF
    rw [h2]
    exact ⟨by simp [gS], Or.inl rfl⟩
  · exact f.1 _ (List.getElem_mem hi)
def nPd (s : Slot) : Nat := bif isPd s then 1 else 0
theorem pend_set {xs : List Slot} {W : List Waiter} {i : Nat} (hi : i < xs.length) (y : Slot) : (pendW ⟨xs.set i y, W⟩).length + nPd xs[i] = (pendW ⟨xs, W⟩).length + nPd y := by
  obtain ⟨c1, c2⟩ := set_cut hi y
  have p1 := (pend_cut (xs.take i) (xs.drop (i + 1)) xs[i] W).length_eq
  have p2 := (pend_cut (xs.take i) (xs.drop (i + 1)) y W).length_eq
  rw [← c1] at p1
  rw [← c2] at p2
  rw [p1, p2]
  unfold nPd
  simp only [List.length_append]
  cases isPd xs[i] <;> cases isPd y <;> simp only [cond_true, cond_false, List.length_cons, List.length_nil] <;> omega
theorem pend_tak {x : Interface} (h : GI x) (hc : canTI x = true) : (pendW (takI x).Queue).length + 1 = (pendW x.Queue).length := by
  obtain ⟨j, hj, _, _, e, h1, _, _⟩ := canT_at (gi_slots h) hc
  have := pend_set (W := x.Queue.Waiting) hj (setSt x.Queue.Slots[j] 2)
  have n1 : nPd x.Queue.Slots[j] = 1 := by unfold nPd isPd; simp [h1]
  have n2 : nPd (setSt x.Queue.Slots[j] 2) = 0 := rfl
  rw [n1, n2] at this
  unfold takI
  rw [e]
  exact this
theorem pend_lea {x : Interface} (h : GI x) (h0 : x.Stack.length ≠ 0) : (pendW (leaI x).Queue).length = (pendW x.Queue).length := by
  obtain ⟨hc, _⟩ := last_can h h0
  obtain ⟨j, hj, _, hst, _, e⟩ := canE_at (gi_slots h) hc
  have hk := (settleQ_ok (gp_end h.q.1 hc)).1.pend.length_eq
  unfold leaI endQ
  simp only
  rw [hk]
  have := pend_set (W := x.Queue.Waiting) hj (endF x.Queue.Slots[j])
  rw [e]
  have n : nPd x.Queue.Slots[j] = nPd (endF x.Queue.Slots[j]) := by
    unfold endF nPd isPd setSt
    rcases hst with hs | hs
    · simp [hs, gS]
    · simp [hs]
  have e2 : (⟨x.Queue.Slots, x.Queue.Waiting⟩ : Queue) = x.Queue := rfl
  rw [n, e2] at this
  omega
end Go.Proofs.YtllhajkgkghhdaaGreat
set_option linter.unusedVariables false
set_option linter.unusedSimpArgs false
set_option maxHeartbeats 4000000
namespace Go.Proofs.YtllhajkgkghhdaaGreat
open Go.Gx
theorem wIfs_le2 {n : Nat} : ∀ {xs : List Interface}, (∀ x ∈ xs, wIf x ≤ n) → wIfs xs ≤ n * xs.length
  | [], _ => by simp [wIfs]
  | x :: r, h => by
    have h1 := wIfs_le2 (xs := r) fun y hy => h y (by simp [hy])
    have h2 := h x (by simp)
    have e : wIfs (x :: r) = wIf x + wIfs r := by simp [wIfs]
    rw [e, List.length_cons, Nat.mul_add, Nat.mul_one]
    omega
theorem gm_fit {m : Machine} (h : GM m) : fitM m := by
  obtain ⟨h1, h2, h3⟩ := gm_cpus h
  have h4 := h.en
  have h5 := h.ra
  have hb : ∀ x ∈ m.Cpus, GI x := fun x hx => by
    obtain ⟨k, hk, rfl⟩ := List.getElem_of_mem hx
    exact (h.cpu k hk).1
  refine ⟨by omega, by omega, by omega, by omega, fun x hx => gi_fit (hb x hx), ?_⟩
  have := wIfs_le2 (n := 100) (xs := m.Cpus) fun x hx => by
    have g := hb x hx
    have a1 := gi_len g
    have a2 := (gi_slots g).len
    have a3 := gp_waiting g.q.1
    unfold wIf
    omega
  omega
theorem app_one {α : Type} {B : Nat} {xs : List α} {i : Nat} (hi : i < xs.length) (hb : xs.length * B ≤ 140737488355328) : gxApp B (xs.take i) [xs[i]] = some (xs.take (i + 1)) := by
  have hl : (xs.take i).length = i := by rw [List.length_take]; omega
  rw [gxApp_ok (by
    rw [hl]
    have : (i + 1) * B ≤ xs.length * B := Nat.mul_le_mul_right _ hi
    show (i + 1) * B ≤ 140737488355328
    omega), List.take_add_one, List.getElem?_eq_getElem hi]
  rfl
theorem s_ownM {m : Machine} (h : fitM m) : M.s_l21Own m = some m := by
  obtain ⟨h1, h2, h3, h4, h5, _⟩ := h
  unfold M.s_l21Own
  rw [app_own (by omega), Option.bind_some, app_own (by omega), Option.bind_some, app_own (by omega), Option.bind_some]
  rw [while_run (fun i => ((i : Int), m.Cpus.take i)) m.Cpus m.Cpus.length (by simp) (by omega)]
  · rfl
  · intro i hi
    have e0 : ((i : Int) < (m.Cpus.length : Int)) := by omega
    have e1 := s_ownI (h5 _ (List.getElem_mem hi))
    simp only [e0, decide_true, cond_true, gxIdx_nat hi, Option.bind_some]
    rw [e1]
    simp only [Option.bind_some]
    rw [app_one hi (by omega)]
    simp only [Option.bind_some, w64_succ (show i ≤ 4611686018427387904 by omega)]
  · simp only [Int.lt_irrefl, decide_false, cond_false, List.take_length]
theorem i_ownM {m : Machine} (h : fitM m) : M.i_newMachine m = some m := by
  obtain ⟨h1, h2, h3, h4, h5, _⟩ := h
  unfold M.i_newMachine
  rw [app_own (by omega), Option.bind_some, app_own (by omega), Option.bind_some, app_own (by omega), Option.bind_some]
  rw [while_run (fun i => ((i : Int), m.Cpus.take i)) m.Cpus m.Cpus.length (by simp) (by omega)]
  · rfl
  · intro i hi
    have e0 : ((i : Int) < (m.Cpus.length : Int)) := by omega
    have e1 := i_ownI (h5 _ (List.getElem_mem hi))
    simp only [e0, decide_true, cond_true, gxIdx_nat hi, Option.bind_some]
    rw [e1]
    simp only [Option.bind_some]
    rw [app_one hi (by omega)]
    simp only [Option.bind_some, w64_succ (show i ≤ 4611686018427387904 by omega)]
  · simp only [Int.lt_irrefl, decide_false, cond_false, List.take_length]
def tgt (m : Machine) (i : Nat) : Nat := (m.Routes.getD i gR).Target.toNat
def rwt (m : Machine) (i : Nat) : Waiter := ⟨(i : Int), (m.Routes.getD i gR).Priority⟩
theorem route_at {m : Machine} (h : GM m) {i : Nat} (hi : i < 8) : (m.Routes.getD i gR).Target = (tgt m i : Int) ∧ tgt m i < m.Cpus.length ∧ okWt (rwt m i) ∧ rtOk m.Routes (tgt m i : Int) (rwt m i).Irq (rwt m i).Priority = true := by
  have hr := h.rts
  unfold okRts at hr
  simp only [Bool.and_eq_true, decide_eq_true_eq, beq_iff_eq, List.all_eq_true] at hr
  obtain ⟨_, hl, ha⟩ := hr
  have := ha i (List.mem_range.2 (by omega))
  unfold okRt at this
  have hz : (m.Routes.getD i ⟨0, 0⟩) = m.Routes.getD i gR := rfl
  rw [hz] at this
  simp only [Bool.and_eq_true, decide_eq_true_eq, w64_id (z := (m.Cpus.length : Int) - 1) (by omega) (by omega)] at this
  have ht : (m.Routes.getD i gR).Target = (tgt m i : Int) := by unfold tgt; omega
  refine ⟨ht, by unfold tgt; omega, ?_, ?_⟩
  · unfold okWt rwt
    simp only
    omega
  · unfold rtOk rwt
    simp only [Int.toNat_natCast, beq_self_eq_true, Bool.and_true, ht]
def dueM (m : Machine) (i : Nat) : Bool := m.Enabled.getD i false && (m.Raised.getD i false && !(decide ((i : Int) ∈ (m.Cpus.getD (tgt m i) gIf).Stack)))
def syncF (m : Machine) : Nat → List Bool × List Interface
  | 0 => (m.Raised, m.Cpus)
  | i + 1 => bif dueM m i then ((syncF m i).1.set i false, (syncF m i).2.set (tgt m i) (raiI ((syncF m i).2.getD (tgt m i) gIf) (rwt m i))) else syncF m i
def syncM (m : Machine) : Machine := ⟨m.Routes, m.Enabled, (syncF m 8).1, (syncF m 8).2⟩
structure SY (m : Machine) (i : Nat) : Prop where
  ra : (syncF m i).1.length = 8
  cl : (syncF m i).2.length = m.Cpus.length
  later : ∀ j, i ≤ j → (syncF m i).1.getD j false = m.Raised.getD j false
  cpu : ∀ k, k < m.Cpus.length → GI ((syncF m i).2.getD k gIf) ∧ fitOk m.Routes (k : Int) ((syncF m i).2.getD k gIf) = true ∧ ((syncF m i).2.getD k gIf).Stack = (m.Cpus.getD k gIf).Stack
theorem getD_setX {α : Type} {xs : List α} {i j : Nat} {y z : α} (hi : i < xs.length) : (xs.set i y).getD j z = if j = i then y else xs.getD j z := by
  rw [List.getD_eq_getElem?_getD, List.getD_eq_getElem?_getD, List.getElem?_set]
  by_cases h : i = j
  · subst h
    simp [hi]
  · have h2 : ¬ (j = i) := fun e => h e.symm
    simp [h, h2]
theorem sync_ok {m : Machine} (h : GM m) : ∀ i, i ≤ 8 → SY m i
  | 0, _ => ⟨h.ra, rfl, fun _ _ => rfl, fun k hk => by
      have := h.cpu k hk
      have e : (syncF m 0).2.getD k gIf = m.Cpus[k] := getD_at hk
      rw [e]
      exact ⟨this.1, this.2, by rw [getD_at hk]⟩⟩
  | i + 1, hi => by
    obtain ⟨h1, h2, h3, h4⟩ := sync_ok h i (by omega)
    obtain ⟨r1, r2, r3, r4⟩ := route_at h (show i < 8 by omega)
    cases hd : dueM m i with
    | false =>
      have e : syncF m (i + 1) = syncF m i := by rw [syncF, hd]; rfl
      exact ⟨by rw [e]; exact h1, by rw [e]; exact h2, fun j hj => by rw [e]; exact h3 j (by omega), fun k hk => by rw [e]; exact h4 k hk⟩
    | true =>
      have e : syncF m (i + 1) = ((syncF m i).1.set i false, (syncF m i).2.set (tgt m i) (raiI ((syncF m i).2.getD (tgt m i) gIf) (rwt m i))) := by rw [syncF, hd]; rfl
      obtain ⟨c1, c2, c3⟩ := h4 (tgt m i) r2
      refine ⟨by rw [e]; simp only [List.length_set]; exact h1, by rw [e]; simp only [List.length_set]; exact h2, fun j hj => ?_, fun k hk => ?_⟩
      · rw [e]
        simp only
        rw [getD_setX (by omega), if_neg (by omega)]
        exact h3 j (by omega)
      · rw [e]
        simp only
        rw [getD_setX (by omega)]
        by_cases hkt : k = tgt m i
        · rw [if_pos hkt, hkt]
          refine ⟨raiI_ok c1 r3, fit_rai c1 c2 r3 r4 ?_, c3⟩
          rw [c3]
          unfold dueM at hd
          simp only [Bool.and_eq_true, Bool.not_eq_true', decide_eq_false_iff_not] at hd
          exact hd.2.2
        · rw [if_neg hkt]
          exact h4 k hk
theorem syncM_ok {m : Machine} (h : GM m) : GM (syncM m) := by
  obtain ⟨h1, h2, _, h4⟩ := sync_ok h 8 (Nat.le_refl _)
  refine ⟨?_, h.en, h1, fun k hk => ?_⟩
  · unfold syncM
    simp only
    rw [h2]
    exact h.rts
  · unfold syncM at hk ⊢
    simp only at hk ⊢
    have := h4 k (by omega)
    rw [getD_at hk] at this
    exact ⟨this.1, this.2.1⟩
theorem idx_getD {α : Type} {xs : List α} {i : Nat} (z : α) (hi : i < xs.length) : gxIdx xs (i : Int) = some (xs.getD i z) := by
  rw [gxIdx_nat hi, getD_at hi]
theorem s_syncM {m : Machine} (h : GM m) : M.s_l21Sync m = some (syncM m) := by
  obtain ⟨g1, g2, g3⟩ := gm_cpus h
  have g4 := h.en
  have g5 := h.ra
  unfold M.s_l21Sync
  rw [s_ownM (gm_fit h), Option.bind_some]
  rw [while_run (fun i => ((i : Int), (syncF m i).1, (syncF m i).2)) ((syncF m 8).1, (syncF m 8).2) 8 (by simp [syncF]) (by omega)]
  · rfl
  · intro i hi
    obtain ⟨h1, h2, h3, h4⟩ := sync_ok h i (by omega)
    obtain ⟨r1, r2, r3, r4⟩ := route_at h hi
    obtain ⟨c1, c2, c3⟩ := h4 (tgt m i) r2
    have e0 : ((i : Int) < 8) := by omega
    have l0 : ((m.Cpus.getD (tgt m i) gIf).Stack).length ≤ 1048576 := by
      rw [getD_at r2]
      have := gi_len (h.cpu _ r2).1
      omega
    simp only [e0, decide_true, cond_true, idx_getD gR (show i < m.Routes.length by omega), idx_getD false (show i < m.Enabled.length by omega), idx_getD false (show i < m.Raised.length by omega), idx_getD false (show i < (syncF m i).1.length by omega), Option.bind_some, r1, idx_getD gIf r2, idx_getD gIf (show tgt m i < (syncF m i).2.length by omega), s_has _ _ l0, w64_succ (show i ≤ 4611686018427387904 by omega), Int.toNat_natCast]
    have hdue : (bif m.Enabled.getD i false then (bif m.Raised.getD i false then some (!(decide ((i : Int) ∈ (m.Cpus.getD (tgt m i) gIf).Stack))) else some false) else some false) = some (dueM m i) := by
      unfold dueM
      cases m.Enabled.getD i false <;> cases m.Raised.getD i false <;> rfl
    rw [hdue, Option.bind_some]
    cases hd : dueM m i with
    | false =>
      have e : syncF m (i + 1) = syncF m i := by rw [syncF, hd]; rfl
      rw [e]
      rfl
    | true =>
      have e : syncF m (i + 1) = ((syncF m i).1.set i false, (syncF m i).2.set (tgt m i) (raiI ((syncF m i).2.getD (tgt m i) gIf) (rwt m i))) := by rw [syncF, hd]; rfl
      have hr := s_raiI c1 r3
      have er : (rwt m i).Irq = (i : Int) ∧ (rwt m i).Priority = (m.Routes.getD i gR).Priority := ⟨rfl, rfl⟩
      rw [er.1, er.2] at hr
      have e2 : (⟨((syncF m i).2.getD (tgt m i) gIf).Mask, ((syncF m i).2.getD (tgt m i) gIf).Stack, (⟨((syncF m i).2.getD (tgt m i) gIf).Queue.Slots, ((syncF m i).2.getD (tgt m i) gIf).Queue.Waiting⟩ : Queue)⟩ : Interface) = (syncF m i).2.getD (tgt m i) gIf := rfl
      simp only [cond_true, e2, hr, Option.bind_some]
      rw [e]
  · simp only [Int.lt_irrefl, decide_false, cond_false]
    rfl
theorem i_has (l : List Int) (x : Int) (h : l.length ≤ 1048576) : M.slices_Contains_136 l x = some (decide (x ∈ l)) := by
  unfold M.slices_Contains_136 M.slices_Index_178
  rw [while_first (fun i => (i : Int)) (fun i => x == l.getD i 0) (fun i => (Sum.inr (i : Int) : Unit ⊕ Int)) (Sum.inl ()) l.length (by simp) (by omega)]
  · cases hf : (List.range l.length).find? (fun i => x == l.getD i 0) with
    | none =>
      have : x ∉ l := fun hx => by
        obtain ⟨i, hi, rfl⟩ := List.getElem_of_mem hx
        have := List.find?_eq_none.1 hf i (List.mem_range.2 hi)
        rw [getD_at hi] at this
        simp at this
      simp [this]
    | some i =>
      have hi : i < l.length := List.mem_range.1 (List.mem_of_find?_eq_some hf)
      have hp := List.find?_some hf
      rw [getD_at hi, beq_iff_eq] at hp
      have : x ∈ l := by rw [hp]; exact List.getElem_mem hi
      simp [this]
  · intro i hi
    have e0 : ((i : Int) < (l.length : Int)) := by omega
    simp only [e0, decide_true, cond_true, gxIdx_nat hi, Option.bind_some, getD_at hi, w64_succ (show i ≤ 4611686018427387904 by omega)]
    cases (x == l[i]) <;> rfl
  · simp only [Int.lt_irrefl, decide_false, cond_false]
theorem i_syncM {m : Machine} (h : GM m) : M.i_Machine_sync m = some (m.Routes, m.Enabled, (syncF m 8).1, (syncF m 8).2) := by
  obtain ⟨g1, g2, g3⟩ := gm_cpus h
  have g4 := h.en
  have g5 := h.ra
  unfold M.i_Machine_sync
  rw [while_run (fun i => ((i : Int), (syncF m i).1, (syncF m i).2)) ((syncF m 8).1, (syncF m 8).2) 8 (by simp [syncF]) (by omega)]
  · rfl
  · intro i hi
    obtain ⟨h1, h2, h3, h4⟩ := sync_ok h i (by omega)
    obtain ⟨r1, r2, r3, r4⟩ := route_at h hi
    obtain ⟨c1, c2, c3⟩ := h4 (tgt m i) r2
    have e0 : ((i : Int) < (m.Routes.length : Int)) := by omega
    have l0 : ((m.Cpus.getD (tgt m i) gIf).Stack).length ≤ 1048576 := by
      rw [← c3]
      have := gi_len c1
      omega
    simp only [e0, decide_true, cond_true, idx_getD gR (show i < m.Routes.length by omega), idx_getD false (show i < m.Enabled.length by omega), idx_getD false (show i < (syncF m i).1.length by omega), Option.bind_some, r1, idx_getD gIf (show tgt m i < (syncF m i).2.length by omega), i_has _ _ l0, w64_succ (show i ≤ 4611686018427387904 by omega), Int.toNat_natCast, h3 i (Nat.le_refl _), c3]
    have hdue : (bif m.Enabled.getD i false then (bif m.Raised.getD i false then some (!(decide ((i : Int) ∈ (m.Cpus.getD (tgt m i) gIf).Stack))) else some false) else some false) = some (dueM m i) := by
      unfold dueM
      cases m.Enabled.getD i false <;> cases m.Raised.getD i false <;> rfl
    rw [hdue, Option.bind_some]
    cases hd : dueM m i with
    | false =>
      have e : syncF m (i + 1) = syncF m i := by rw [syncF, hd]; rfl
      rw [e]
      rfl
    | true =>
      have e : syncF m (i + 1) = ((syncF m i).1.set i false, (syncF m i).2.set (tgt m i) (raiI ((syncF m i).2.getD (tgt m i) gIf) (rwt m i))) := by rw [syncF, hd]; rfl
      have hr := i_raiI c1 r3
      have er : (rwt m i).Irq = (i : Int) ∧ (rwt m i).Priority = (m.Routes.getD i gR).Priority := ⟨rfl, rfl⟩
      rw [er.1, er.2] at hr
      have e2 : (⟨((syncF m i).2.getD (tgt m i) gIf).Mask, (m.Cpus.getD (tgt m i) gIf).Stack, (⟨((syncF m i).2.getD (tgt m i) gIf).Queue.Slots, ((syncF m i).2.getD (tgt m i) gIf).Queue.Waiting⟩ : Queue)⟩ : Interface) = (syncF m i).2.getD (tgt m i) gIf := by rw [← c3]
      simp only [cond_true, e2, hr, Option.bind_some]
      rw [e]
  · rw [g3]
    rfl
end Go.Proofs.YtllhajkgkghhdaaGreat
set_option linter.unusedVariables false
set_option linter.unusedSimpArgs false
set_option maxHeartbeats 4000000
namespace Go.Proofs.YtllhajkgkghhdaaGreat
open Go.Gx
def okSt (m : Machine) (s : MachStep) : Bool :=
  bif s.Kind == 1 then (inR s.Irq 0 7 && ((s.Cpu == 0) && (s.Value == 0)))
  else (bif s.Kind == 2 then ((s.Irq == 0) && ((s.Cpu == 0) && (s.Value == 0)))
  else (bif (s.Kind == 3) || (s.Kind == 4) then ((s.Irq == 0) && (inR s.Cpu 0 ((m.Cpus.length : Int) - 1) && (s.Value == 0)))
  else (bif s.Kind == 5 then ((s.Irq == 0) && (inR s.Cpu 0 ((m.Cpus.length : Int) - 1) && inR s.Value 0 16))
  else ((s.Kind == 6) && (inR s.Irq 0 7 && ((s.Cpu == 0) && inR s.Value 0 1))))))
theorem s_okSt {m : Machine} (hl : m.Cpus.length ≤ 1048576) (s : MachStep) : M.s_l21Step m s = some (okSt m s) := by
  unfold M.s_l21Step M.s_l6Irq okSt
  simp only [s_in, Option.bind_some, w64_id (z := (m.Cpus.length : Int) - 1) (by omega) (by omega)]
  unfold inR
  cases (s.Kind == 1) <;> cases (s.Kind == 2) <;> cases (s.Kind == 3) <;> cases (s.Kind == 4) <;> cases (s.Kind == 5) <;> cases (s.Kind == 6) <;> cases (s.Irq == 0) <;> cases (s.Cpu == 0) <;> cases (s.Value == 0) <;> cases (decide (0 ≤ s.Irq) && decide (s.Irq ≤ 7)) <;> cases (decide (0 ≤ s.Cpu) && decide (s.Cpu ≤ (m.Cpus.length : Int) - 1)) <;> rfl
theorem i_okSt {m : Machine} (hl : m.Cpus.length ≤ 1048576) (s : MachStep) : M.i_isMachStep m s = some (okSt m s) := by
  unfold M.i_isMachStep M.i_isIrq M.i_isMask M.i_Machine_hasCpu okSt
  simp only [i_in, Option.bind_some, w64_id (z := (m.Cpus.length : Int) - 1) (by omega) (by omega)]
  unfold inR
  cases (s.Kind == 1) <;> cases (s.Kind == 2) <;> cases (s.Kind == 3) <;> cases (s.Kind == 4) <;> cases (s.Kind == 5) <;> cases (s.Kind == 6) <;> cases (s.Irq == 0) <;> cases (s.Cpu == 0) <;> cases (s.Value == 0) <;> cases (decide (0 ≤ s.Irq) && decide (s.Irq ≤ 7)) <;> cases (decide (0 ≤ s.Cpu) && decide (s.Cpu ≤ (m.Cpus.length : Int) - 1)) <;> rfl
def setC (m : Machine) (c : Int) (x : Interface) : Machine := ⟨m.Routes, m.Enabled, m.Raised, m.Cpus.set c.toNat x⟩
def atC (m : Machine) (c : Int) : Interface := m.Cpus.getD c.toNat gIf
def makeF (m : Machine) (s : MachStep) : Option (Machine × Int) :=
  bif s.Kind == 1 then (bif m.Raised.getD s.Irq.toNat false then none else some (⟨m.Routes, m.Enabled, m.Raised.set s.Irq.toNat true, m.Cpus⟩, -1))
  else (bif s.Kind == 2 then some (syncM m, -1)
  else (bif s.Kind == 3 then (bif canTI (atC m s.Cpu) then some (setC m s.Cpu (takI (atC m s.Cpu)), (topX (atC m s.Cpu).Queue.Slots).Irq) else none)
  else (bif s.Kind == 4 then (bif decide ((atC m s.Cpu).Stack.length = 0) then none else some (setC m s.Cpu (leaI (atC m s.Cpu)), lastI (atC m s.Cpu)))
  else (bif s.Kind == 5 then some (setC m s.Cpu ⟨s.Value, (atC m s.Cpu).Stack, (atC m s.Cpu).Queue⟩, -1)
  else some (⟨m.Routes, m.Enabled.set s.Irq.toNat (s.Value == 1), m.Raised, m.Cpus⟩, -1)))))
def agree (r : Machine × Int × Bool) (z : Option (Machine × Int)) : Prop := r.2.2 = z.isSome ∧ ∀ p, z = some p → r.1 = p.1 ∧ r.2.1 = p.2
theorem irq_at {xs : List Bool} (hl : xs.length = 8) {q : Int} (h : inR q 0 7 = true) : gxIdx xs q = some (xs.getD q.toNat false) := by
  unfold inR at h
  simp only [Bool.and_eq_true, decide_eq_true_eq] at h
  obtain ⟨n, rfl⟩ : ∃ n : Nat, q = n := ⟨q.toNat, by omega⟩
  rw [Int.toNat_natCast]
  exact idx_getD false (by omega)
theorem cpu_at {m : Machine} (h : GM m) {c : Int} (hc : inR c 0 ((m.Cpus.length : Int) - 1) = true) : gxIdx m.Cpus c = some (atC m c) ∧ GI (atC m c) ∧ fitOk m.Routes c (atC m c) = true ∧ c.toNat < m.Cpus.length ∧ ((c.toNat : Nat) : Int) = c := by
  unfold inR at hc
  simp only [Bool.and_eq_true, decide_eq_true_eq] at hc
  obtain ⟨n, rfl⟩ : ∃ n : Nat, c = n := ⟨c.toNat, by omega⟩
  have hn : n < m.Cpus.length := by omega
  have e : atC m (n : Int) = m.Cpus[n] := by unfold atC; rw [Int.toNat_natCast, getD_at hn]
  rw [e, Int.toNat_natCast]
  exact ⟨gxIdx_nat hn, (h.cpu n hn).1, (h.cpu n hn).2, hn, rfl⟩
theorem last_irq {x : Interface} (h : GI x) (h0 : x.Stack.length ≠ 0) : 0 ≤ lastI x := by
  obtain ⟨hc, k, hk, _, _, he⟩ := last_can h h0
  have := ((gi_slots h).ok _ (List.getElem_mem hk)).2.1.1
  rw [← he]
  exact this.1
end Go.Proofs.YtllhajkgkghhdaaGreat
set_option linter.unusedVariables false
set_option linter.unusedSimpArgs false
set_option maxHeartbeats 4000000
namespace Go.Proofs.YtllhajkgkghhdaaGreat
open Go.Gx
theorem s_make {m : Machine} (h : GM m) {s : MachStep} (hs : okSt m s = true) : ∃ r, M.s_l21Make m s = some r ∧ agree r (makeF m s) := by
  have hen := h.en
  have hra := h.ra
  unfold M.s_l21Make makeF
  unfold okSt at hs
  rw [s_ownM (gm_fit h), Option.bind_some]
  cases k1 : (s.Kind == 1) with
  | true =>
    rw [k1] at hs
    simp only [cond_true, Bool.and_eq_true] at hs
    simp only [cond_true, irq_at hra hs.1, Option.bind_some]
    cases hb : m.Raised.getD s.Irq.toNat false with
    | true => exact ⟨_, rfl, rfl, fun p hp => by cases hp⟩
    | false => exact ⟨_, rfl, rfl, fun p hp => by obtain rfl := Option.some.inj hp; exact ⟨rfl, rfl⟩⟩
  | false => cases k2 : (s.Kind == 2) with
    | true =>
      simp only [cond_false, cond_true, s_syncM h, Option.bind_some]
      exact ⟨_, rfl, rfl, fun p hp => by obtain rfl := Option.some.inj hp; exact ⟨rfl, rfl⟩⟩
    | false =>
      rw [k1, k2] at hs
      simp only [cond_false] at hs
      cases k3 : (s.Kind == 3) with
      | true =>
        rw [k3] at hs
        simp only [Bool.true_or, cond_true, Bool.and_eq_true] at hs
        obtain ⟨e1, g, f, hc, hcc⟩ := cpu_at h hs.2.1
        simp only [cond_false, cond_true, e1, Option.bind_some]
        have e2 : (⟨(atC m s.Cpu).Mask, (atC m s.Cpu).Stack, (⟨(atC m s.Cpu).Queue.Slots, (atC m s.Cpu).Queue.Waiting⟩ : Queue)⟩ : Interface) = atC m s.Cpu := rfl
        rw [e2, s_takI g, Option.bind_some]
        cases hcan : canTI (atC m s.Cpu) with
        | false => exact ⟨_, rfl, rfl, fun p hp => by cases hp⟩
        | true =>
          have hq := (top_irq g hcan).1
          refine ⟨_, rfl, ?_, fun p hp => by obtain rfl := Option.some.inj hp; exact ⟨rfl, rfl⟩⟩
          simp only [cond_true, ge_iff_le, hq, decide_true, Option.isSome_some]
      | false => cases k4 : (s.Kind == 4) with
        | true =>
          rw [k3, k4] at hs
          simp only [Bool.false_or, cond_true, Bool.and_eq_true] at hs
          obtain ⟨e1, g, f, hc, hcc⟩ := cpu_at h hs.2.1
          simp only [cond_false, cond_true, e1, Option.bind_some]
          have e2 : (⟨(atC m s.Cpu).Mask, (atC m s.Cpu).Stack, (⟨(atC m s.Cpu).Queue.Slots, (atC m s.Cpu).Queue.Waiting⟩ : Queue)⟩ : Interface) = atC m s.Cpu := rfl
          rw [e2]
          by_cases h0 : (atC m s.Cpu).Stack.length = 0
          · rw [s_leaE h0, gxAlt_some]
            simp only [h0, decide_true, cond_true]
            exact ⟨_, rfl, rfl, fun p hp => by cases hp⟩
          · obtain ⟨l1, l2⟩ := s_leaK g h0
            have hq := last_irq g h0
            rw [l1, l2, gxAlt_none, Option.bind_some]
            simp only [h0, decide_false, cond_false]
            refine ⟨_, rfl, ?_, fun p hp => by obtain rfl := Option.some.inj hp; exact ⟨rfl, rfl⟩⟩
            simp only [ge_iff_le, hq, decide_true, Option.isSome_some]
        | false => cases k5 : (s.Kind == 5) with
          | true =>
            rw [k3, k4, k5] at hs
            simp only [Bool.false_or, cond_false, cond_true, Bool.and_eq_true] at hs
            obtain ⟨e1, g, f, hc, hcc⟩ := cpu_at h hs.2.1
            simp only [cond_false, cond_true, e1, Option.bind_some]
            exact ⟨_, rfl, rfl, fun p hp => by obtain rfl := Option.some.inj hp; exact ⟨rfl, rfl⟩⟩
          | false =>
            rw [k3, k4, k5] at hs
            simp only [Bool.false_or, cond_false, Bool.and_eq_true] at hs
            simp only [cond_false, irq_at hen hs.2.1, Option.bind_some]
            exact ⟨_, rfl, rfl, fun p hp => by obtain rfl := Option.some.inj hp; exact ⟨rfl, rfl⟩⟩
theorem i_make {m : Machine} (h : GM m) {s : MachStep} (hs : okSt m s = true) : ∃ r, M.i_stepMachine m s = some r ∧ agree r (makeF m s) := by
  have hen := h.en
  have hra := h.ra
  unfold M.i_stepMachine makeF
  unfold okSt at hs
  rw [i_ownM (gm_fit h), Option.bind_some]
  cases k1 : (s.Kind == 1) with
  | true =>
    rw [k1] at hs
    simp only [cond_true, Bool.and_eq_true] at hs
    simp only [cond_true, irq_at hra hs.1, Option.bind_some]
    cases hb : m.Raised.getD s.Irq.toNat false with
    | true => exact ⟨_, rfl, rfl, fun p hp => by cases hp⟩
    | false => exact ⟨_, rfl, rfl, fun p hp => by obtain rfl := Option.some.inj hp; exact ⟨rfl, rfl⟩⟩
  | false => cases k2 : (s.Kind == 2) with
    | true =>
      simp only [cond_false, cond_true, i_syncM h, Option.bind_some]
      exact ⟨_, rfl, rfl, fun p hp => by obtain rfl := Option.some.inj hp; exact ⟨rfl, rfl⟩⟩
    | false =>
      rw [k1, k2] at hs
      simp only [cond_false] at hs
      cases k3 : (s.Kind == 3) with
      | true =>
        rw [k3] at hs
        simp only [Bool.true_or, cond_true, Bool.and_eq_true] at hs
        obtain ⟨e1, g, f, hc, hcc⟩ := cpu_at h hs.2.1
        simp only [cond_false, cond_true, e1, Option.bind_some]
        have e2 : (⟨(atC m s.Cpu).Mask, (atC m s.Cpu).Stack, (⟨(atC m s.Cpu).Queue.Slots, (atC m s.Cpu).Queue.Waiting⟩ : Queue)⟩ : Interface) = atC m s.Cpu := rfl
        rw [e2, i_takI g, Option.bind_some]
        cases hcan : canTI (atC m s.Cpu) with
        | false => exact ⟨_, rfl, rfl, fun p hp => by cases hp⟩
        | true => exact ⟨_, rfl, rfl, fun p hp => by obtain rfl := Option.some.inj hp; exact ⟨rfl, rfl⟩⟩
      | false => cases k4 : (s.Kind == 4) with
        | true =>
          rw [k3, k4] at hs
          simp only [Bool.false_or, cond_true, Bool.and_eq_true] at hs
          obtain ⟨e1, g, f, hc, hcc⟩ := cpu_at h hs.2.1
          simp only [cond_false, cond_true, e1, Option.bind_some]
          have e2 : (⟨(atC m s.Cpu).Mask, (atC m s.Cpu).Stack, (⟨(atC m s.Cpu).Queue.Slots, (atC m s.Cpu).Queue.Waiting⟩ : Queue)⟩ : Interface) = atC m s.Cpu := rfl
          rw [e2, i_leaK g, Option.bind_some]
          by_cases h0 : (atC m s.Cpu).Stack.length = 0
          · simp only [h0, decide_true, cond_true]
            exact ⟨_, rfl, rfl, fun p hp => by cases hp⟩
          · simp only [h0, decide_false, cond_false]
            exact ⟨_, rfl, rfl, fun p hp => by obtain rfl := Option.some.inj hp; exact ⟨rfl, rfl⟩⟩
        | false => cases k5 : (s.Kind == 5) with
          | true =>
            rw [k3, k4, k5] at hs
            simp only [Bool.false_or, cond_false, cond_true, Bool.and_eq_true] at hs
            obtain ⟨e1, g, f, hc, hcc⟩ := cpu_at h hs.2.1
            simp only [cond_false, cond_true, e1, Option.bind_some]
            exact ⟨_, rfl, rfl, fun p hp => by obtain rfl := Option.some.inj hp; exact ⟨rfl, rfl⟩⟩
          | false =>
            rw [k3, k4, k5] at hs
            simp only [Bool.false_or, cond_false, Bool.and_eq_true] at hs
            have k6 := hs.1
            simp only [cond_false, cond_true, k6, irq_at hen hs.2.1, Option.bind_some]
            exact ⟨_, rfl, rfl, fun p hp => by obtain rfl := Option.some.inj hp; exact ⟨rfl, rfl⟩⟩
theorem setC_ok {m : Machine} (h : GM m) {c : Int} (hc : inR c 0 ((m.Cpus.length : Int) - 1) = true) {x : Interface} (hx : GI x) (hf : fitOk m.Routes c x = true) : GM (setC m c x) := by
  obtain ⟨_, _, _, hl, hcc⟩ := cpu_at h hc
  refine ⟨?_, h.en, h.ra, fun k hk => ?_⟩
  · unfold setC
    simp only [List.length_set]
    exact h.rts
  · unfold setC at hk ⊢
    simp only [List.length_set] at hk
    simp only [List.getElem_set]
    by_cases e : c.toNat = k
    · rw [if_pos e]
      refine ⟨hx, ?_⟩
      rw [← e, hcc]
      exact hf
    · rw [if_neg e]
      exact h.cpu k hk
theorem make_ok {m : Machine} (h : GM m) {s : MachStep} (hs : okSt m s = true) {p : Machine × Int} (hp : makeF m s = some p) : GM p.1 := by
  unfold makeF at hp
  unfold okSt at hs
  cases k1 : (s.Kind == 1) with
  | true =>
    rw [k1] at hp
    simp only [cond_true] at hp
    cases hb : m.Raised.getD s.Irq.toNat false with
    | true => rw [hb] at hp; cases hp
    | false =>
      rw [hb] at hp
      obtain rfl := Option.some.inj hp
      exact ⟨h.rts, h.en, by simp only [List.length_set]; exact h.ra, h.cpu⟩
  | false => cases k2 : (s.Kind == 2) with
    | true =>
      rw [k1, k2] at hp
      obtain rfl := Option.some.inj hp
      exact syncM_ok h
    | false =>
      rw [k1, k2] at hp hs
      simp only [cond_false] at hp hs
      cases k3 : (s.Kind == 3) with
      | true =>
        rw [k3] at hp hs
        simp only [Bool.true_or, cond_true, Bool.and_eq_true] at hp hs
        obtain ⟨_, g, f, _, _⟩ := cpu_at h hs.2.1
        cases hcan : canTI (atC m s.Cpu) with
        | false => rw [hcan] at hp; cases hp
        | true =>
          rw [hcan] at hp
          obtain rfl := Option.some.inj hp
          exact setC_ok h hs.2.1 (takI_ok g hcan) (fit_tak g f hcan)
      | false => cases k4 : (s.Kind == 4) with
        | true =>
          rw [k3, k4] at hp hs
          simp only [Bool.false_or, cond_true, cond_false, Bool.and_eq_true] at hp hs
          obtain ⟨_, g, f, _, _⟩ := cpu_at h hs.2.1
          by_cases h0 : (atC m s.Cpu).Stack.length = 0
          · simp only [h0, decide_true, cond_true] at hp
            cases hp
          · simp only [h0, decide_false, cond_false] at hp
            obtain rfl := Option.some.inj hp
            exact setC_ok h hs.2.1 (leaI_ok g h0) (fit_lea g f h0)
        | false => cases k5 : (s.Kind == 5) with
          | true =>
            rw [k3, k4, k5] at hp hs
            simp only [Bool.false_or, cond_false, cond_true, Bool.and_eq_true] at hp hs
            obtain ⟨_, g, f, _, _⟩ := cpu_at h hs.2.1
            obtain rfl := Option.some.inj hp
            refine setC_ok h hs.2.1 ⟨?_, g.q, g.stk, g.lev⟩ (fit_iff.2 (fit_iff.1 f))
            have := hs.2.2
            unfold inR at this
            simp only [Bool.and_eq_true, decide_eq_true_eq] at this
            exact this
          | false =>
            rw [k3, k4, k5] at hp
            obtain rfl := Option.some.inj hp
            exact ⟨h.rts, by simp only [List.length_set]; exact h.en, h.ra, h.cpu⟩
end Go.Proofs.YtllhajkgkghhdaaGreat
set_option linter.unusedVariables false
set_option linter.unusedSimpArgs false
set_option maxHeartbeats 4000000
namespace Go.Proofs.YtllhajkgkghhdaaGreat
open Go.Gx
def zM : Machine := ⟨[], [], [], []⟩
theorem zM_fit : fitM zM := by
  unfold fitM zM wIfs
  simp
end Go.Proofs.YtllhajkgkghhdaaGreat
set_option linter.unusedVariables false
set_option linter.unusedSimpArgs false
set_option maxHeartbeats 4000000
namespace Go.Proofs.YtllhajkgkghhdaaGreat
open Go.Gx
theorem sync_len (m : Machine) : ∀ i, (syncF m i).2.length = m.Cpus.length
  | 0 => rfl
  | i + 1 => by
    rw [syncF]
    cases dueM m i with
    | false => exact sync_len m i
    | true => simp only [cond_true, List.length_set]; exact sync_len m i
end Go.Proofs.YtllhajkgkghhdaaGreat
set_option linter.unusedVariables false
set_option linter.unusedSimpArgs false
set_option maxHeartbeats 4000000
namespace Go.Proofs.YtllhajkgkghhdaaGreat
open Go.Gx
def rndC (m : Machine) (c : Int) : Machine := setC m c (leaI (takI (atC m c)))
def drainF (c : Int) : Nat → Machine → List Int → Machine × List Int
  | 0, m, t => (m, t)
  | n + 1, m, t => bif canTI (atC m c) then drainF c n (rndC m c) (t ++ [(topX (atC m c).Queue.Slots).Irq]) else (m, t)
theorem at_setC {m : Machine} (h : GM m) {c : Int} (hc : inR c 0 ((m.Cpus.length : Int) - 1) = true) (x : Interface) : atC (setC m c x) c = x := by
  obtain ⟨_, _, _, hl, _⟩ := cpu_at h hc
  unfold atC setC
  simp only
  rw [getD_setX hl, if_pos rfl]
theorem set_setC (m : Machine) (c : Int) (x y : Interface) : setC (setC m c x) c y = setC m c y := by
  unfold setC
  simp only [List.set_set]
theorem tak_stack (x : Interface) : (takI x).Stack.length ≠ 0 := by
  unfold takI
  simp
theorem rnd_ok {m : Machine} (h : GM m) {c : Int} (hc : inR c 0 ((m.Cpus.length : Int) - 1) = true) (ht : canTI (atC m c) = true) : GM (rndC m c) ∧ inR c 0 (((rndC m c).Cpus.length : Int) - 1) = true ∧ (pendW (atC (rndC m c) c).Queue).length + 1 = (pendW (atC m c).Queue).length := by
  obtain ⟨_, g, f, hl, hcc⟩ := cpu_at h hc
  have g1 := takI_ok g ht
  have f1 := fit_tak g f ht
  have h0 := tak_stack (atC m c)
  refine ⟨setC_ok h hc (leaI_ok g1 h0) (fit_lea g1 f1 h0), ?_, ?_⟩
  · unfold rndC setC
    simp only [List.length_set]
    exact hc
  · unfold rndC
    rw [at_setC h hc, pend_lea g1 h0]
    exact pend_tak g ht
theorem drainF_ok (c : Int) : ∀ (n : Nat) {m : Machine} {t : List Int}, GM m → inR c 0 ((m.Cpus.length : Int) - 1) = true → GM (drainF c n m t).1 ∧ (drainF c n m t).2.length ≤ t.length + n
  | 0, m, t, h, _ => ⟨h, Nat.le_refl _⟩
  | n + 1, m, t, h, hc => by
    unfold drainF
    cases ht : canTI (atC m c) with
    | false => exact ⟨h, by simp only [cond_false]; omega⟩
    | true =>
      obtain ⟨h1, h2, _⟩ := rnd_ok h hc ht
      obtain ⟨h3, h4⟩ := drainF_ok c n (t := t ++ [(topX (atC m c).Queue.Slots).Irq]) h1 h2
      refine ⟨h3, ?_⟩
      simp only [List.length_append, List.length_cons, List.length_nil] at h4
      simp only [cond_true]
      omega
theorem okTake {m : Machine} {c : Int} (hc : inR c 0 ((m.Cpus.length : Int) - 1) = true) : okSt m ⟨3, 0, c, 0⟩ = true ∧ okSt m ⟨4, 0, c, 0⟩ = true := by
  unfold okSt
  simp only [hc]
  exact ⟨rfl, rfl⟩
theorem drain_s (c : Int) : ∀ (n fuel : Nat) {m : Machine} {t : List Int}, GM m → inR c 0 ((m.Cpus.length : Int) - 1) = true → (pendW (atC m c).Queue).length < n → n ≤ fuel → t.length + n ≤ 1000 →
    whileM (σ := List Int × List Route × List Bool × List Bool × List Interface) (ρ := Machine × (List Int) × Bool) (fun s16665 =>
      Option.bind (M.s_l21Make (⟨s16665.2.1, s16665.2.2.1, s16665.2.2.2.1, s16665.2.2.2.2⟩ : Machine) (⟨3, 0, c, 0⟩ : MachStep)) fun r16701 =>
      bif !r16701.2.2 then some (.inr ((⟨s16665.2.1, s16665.2.2.1, s16665.2.2.2.1, s16665.2.2.2.2⟩ : Machine), s16665.1, true))
      else (Option.bind (gxApp 8 s16665.1 [r16701.2.1]) fun ap16746 =>
      Option.bind (M.s_l21Make r16701.1 (⟨4, 0, c, 0⟩ : MachStep)) fun r16754 =>
      Option.bind (gxAssert r16754.2.2) fun as16779 =>
      some (.inl (ap16746, r16754.1.Routes, r16754.1.Enabled, r16754.1.Raised, r16754.1.Cpus)))) fuel (t, m.Routes, m.Enabled, m.Raised, m.Cpus) = some ((drainF c n m t).1, (drainF c n m t).2, true)
  | 0, _, _, _, _, _, h, _, _ => by omega
  | n + 1, fuel, m, t, h, hc, hn, hf, htl => by
    obtain ⟨f, rfl⟩ : ∃ f, fuel = f + 1 := ⟨fuel - 1, by omega⟩
    obtain ⟨k3, k4⟩ := okTake hc
    obtain ⟨r, a1, a2, a3⟩ := s_make h k3
    have em : (⟨m.Routes, m.Enabled, m.Raised, m.Cpus⟩ : Machine) = m := rfl
    have ez : makeF m ⟨3, 0, c, 0⟩ = bif canTI (atC m c) then some (setC m c (takI (atC m c)), (topX (atC m c).Queue.Slots).Irq) else none := rfl
    simp only [whileM, em, a1, Option.bind_some, a2]
    unfold drainF
    cases ht : canTI (atC m c) with
    | false =>
      rw [ht] at ez
      rw [ez]
      rfl
    | true =>
      rw [ht] at ez
      obtain ⟨c1, c2⟩ := a3 _ ez
      obtain ⟨_, g, fi, hl, hcc⟩ := cpu_at h hc
      have gt := takI_ok g ht
      have ft := fit_tak g fi ht
      have h0 := tak_stack (atC m c)
      have h1 : GM (setC m c (takI (atC m c))) := setC_ok h hc gt ft
      have hc1 : inR c 0 (((setC m c (takI (atC m c))).Cpus.length : Int) - 1) = true := by
        unfold setC
        simp only [List.length_set]
        exact hc
      obtain ⟨_, k4'⟩ := okTake hc1
      obtain ⟨r2, b1, b2, b3⟩ := s_make h1 k4'
      have ez2 : makeF (setC m c (takI (atC m c))) ⟨4, 0, c, 0⟩ = some (setC (setC m c (takI (atC m c))) c (leaI (takI (atC m c))), lastI (takI (atC m c))) := by
        have e1 : makeF (setC m c (takI (atC m c))) ⟨4, 0, c, 0⟩ = bif decide ((atC (setC m c (takI (atC m c))) c).Stack.length = 0) then none else some (setC (setC m c (takI (atC m c))) c (leaI (atC (setC m c (takI (atC m c))) c)), lastI (atC (setC m c (takI (atC m c))) c)) := rfl
        rw [e1, at_setC h hc]
        simp only [h0, decide_false, cond_false]
      obtain ⟨d1, d2⟩ := b3 _ ez2
      rw [ez2] at b2
      rw [set_setC] at d1
      obtain ⟨q1, q2, q3⟩ := rnd_ok h hc ht
      have ih := drain_s c n f (t := t ++ [(topX (atC m c).Queue.Slots).Irq]) q1 q2 (by omega) (by omega) (by simp only [List.length_append, List.length_cons, List.length_nil]; omega)
      rw [ez]
      simp only [cond_true, Option.isSome_some, Bool.not_true, cond_false, c1, c2, gxApp_ok (show (t.length + [(topX (atC m c).Queue.Slots).Irq].length) * 8 ≤ 140737488355328 by simp only [List.length_cons, List.length_nil]; omega), Option.bind_some, b1, b2, gxAssert, d1]
      exact ih
end Go.Proofs.YtllhajkgkghhdaaGreat
set_option linter.unusedVariables false
set_option linter.unusedSimpArgs false
set_option maxHeartbeats 4000000
namespace Go.Proofs.YtllhajkgkghhdaaGreat
open Go.Gx
theorem drain_i (c : Int) (R : List Route) (E A : List Bool) : ∀ (n fuel : Nat) {m : Machine} {t : List Int}, m.Routes = R → m.Enabled = E → m.Raised = A → GM m → inR c 0 ((m.Cpus.length : Int) - 1) = true → (pendW (atC m c).Queue).length < n → n ≤ fuel → t.length + n ≤ 1000 →
    whileM (σ := List Int × List Interface) (ρ := Machine × (List Int) × Bool) (fun s20649 =>
      Option.bind (gxIdx s20649.2 c) fun y20667 =>
      Option.bind (M.i_takeIrq (⟨y20667.Mask, y20667.Stack, (⟨y20667.Queue.Slots, y20667.Queue.Waiting⟩ : Queue)⟩ : Interface)) fun r20677 =>
      bif !r20677.2.2 then some (.inr ((⟨R, E, A, s20649.2⟩ : Machine), s20649.1, true))
      else (Option.bind (gxApp 8 s20649.1 [r20677.2.1]) fun ap20715 =>
      Option.bind (M.i_leaveIrq (⟨r20677.1.Mask, r20677.1.Stack, (⟨r20677.1.Queue.Slots, r20677.1.Queue.Waiting⟩ : Queue)⟩ : Interface)) fun r20725 =>
      Option.bind (gxIdx s20649.2 c) fun y20741 =>
      some (.inl (ap20715, (s20649.2.set c.toNat (⟨r20725.1.Mask, r20725.1.Stack, (⟨r20725.1.Queue.Slots, r20725.1.Queue.Waiting⟩ : Queue)⟩ : Interface)))))) fuel (t, m.Cpus) = some ((drainF c n m t).1, (drainF c n m t).2, true)
  | 0, _, _, _, _, _, _, _, _, h, _, _ => by omega
  | n + 1, fuel, m, t, hR, hE, hA, h, hc, hn, hf, htl => by
    obtain ⟨f, rfl⟩ : ∃ f, fuel = f + 1 := ⟨fuel - 1, by omega⟩
    obtain ⟨e1, g, fi, hl, hcc⟩ := cpu_at h hc
    have e2 : ∀ x : Interface, (⟨x.Mask, x.Stack, (⟨x.Queue.Slots, x.Queue.Waiting⟩ : Queue)⟩ : Interface) = x := fun _ => rfl
    simp only [whileM, e1, Option.bind_some, e2, i_takI g]
    unfold drainF
    cases ht : canTI (atC m c) with
    | false =>
      subst hR hE hA
      rfl
    | true =>
      have gt := takI_ok g ht
      have h0 := tak_stack (atC m c)
      have hlv := i_leaK gt
      simp only [h0, decide_false, cond_false] at hlv
      obtain ⟨q1, q2, q3⟩ := rnd_ok h hc ht
      have ih := drain_i c R E A n f (m := rndC m c) (t := t ++ [(topX (atC m c).Queue.Slots).Irq]) hR hE hA q1 q2 (by omega) (by omega) (by simp only [List.length_append, List.length_cons, List.length_nil]; omega)
      simp only [cond_true, Bool.not_true, cond_false, gxApp_ok (show (t.length + [(topX (atC m c).Queue.Slots).Irq].length) * 8 ≤ 140737488355328 by simp only [List.length_cons, List.length_nil]; omega), Option.bind_some, hlv]
      exact ih
end Go.Proofs.YtllhajkgkghhdaaGreat
set_option linter.unusedVariables false
set_option linter.unusedSimpArgs false
set_option maxHeartbeats 4000000
namespace Go.Proofs.YtllhajkgkghhdaaGreat
open Go.Gx
def curI (c : l1Cur) (n : Nat) : Prop := okL okU c.code ∧ 0 ≤ c.at_ ∧ c.at_ ≤ n
theorem u8_range {x : Int} (h : okU x) : 0 ≤ x ∧ x ≤ 255 := by
  unfold okU at h
  simp [Lit.wf, IntKind.min, IntKind.max, IntKind.bits, IntKind.signed] at h
  omega
theorem and255 (x : Int) : 0 ≤ gxAnd .u64 x 255 ∧ gxAnd .u64 x 255 ≤ 255 := by
  unfold gxAnd
  have h1 : (BitVec.ofInt 64 x &&& BitVec.ofInt 64 255).toNat ≤ 255 := by
    rw [BitVec.toNat_and]
    have : (BitVec.ofInt 64 255).toNat = 255 := rfl
    rw [this]
    exact Nat.and_le_right
  show 0 ≤ IntKind.u64.wrap ((BitVec.ofInt 64 x &&& BitVec.ofInt 64 255).toNat : Int) ∧ IntKind.u64.wrap ((BitVec.ofInt 64 x &&& BitVec.ofInt 64 255).toNat : Int) ≤ 255
  generalize (BitVec.ofInt 64 x &&& BitVec.ofInt 64 255).toNat = n at h1
  have h2 : IntKind.u64.wrap (n : Int) = n := by
    simp [IntKind.wrap, IntKind.bits, IntKind.signed]
    omega
  rw [h2]
  omega
theorem next_ok (c : l1Cur) (n : Nat) (h : curI c n) (hn : n ≤ 1099511627776) : ∃ r, M.s_l1Cur_next c = some r ∧ (0 ≤ r.1 ∧ r.1 ≤ 255) ∧ 0 ≤ r.2.1 ∧ r.2.1 ≤ ((n + 1 : Nat) : Int) := by
  obtain ⟨hc, h0, h1⟩ := h
  unfold M.s_l1Cur_next
  rw [w64_id (z := c.at_ + 1) (by omega) (by omega)]
  have hfst : ∃ b, (bif decide (c.at_ < (c.code.length : Int)) then (Option.bind (gxIdx c.code c.at_) fun y7680 => some (w64 y7680)) else some 0) = some b ∧ 0 ≤ b ∧ b ≤ 255 := by
    by_cases hlt : c.at_ < (c.code.length : Int)
    · obtain ⟨i, hi⟩ : ∃ i : Nat, c.at_ = i := ⟨c.at_.toNat, by omega⟩
      rw [hi] at hlt ⊢
      have hil : i < c.code.length := by omega
      have hb := u8_range (hc.2 _ (List.getElem_mem hil))
      simp only [hlt, decide_true, cond_true, gxIdx_nat hil, Option.bind_some, w64_id (z := c.code[i]) (by omega) (by omega)]
      exact ⟨_, rfl, hb.1, hb.2⟩
    · simp only [hlt, decide_false, cond_false]
      exact ⟨0, rfl, by omega, by omega⟩
  obtain ⟨b, hb, hb1⟩ := hfst
  rw [hb, Option.bind_some]
  by_cases hle : c.at_ + 1 ≤ (c.code.length : Int)
  · simp only [hle, decide_true, cond_true]
    exact ⟨_, rfl, hb1, by simp only; omega, by simp only; omega⟩
  · simp only [hle, decide_false, cond_false]
    refine ⟨_, rfl, ?_, by simp only; omega, by simp only; omega⟩
    have := and255 ((IntKind.u64.wrap ((IntKind.u64.wrap ((IntKind.u64.wrap (c.seed * 6364136223846793005)) + (IntKind.u64.wrap b))) + 843843)).fdiv (2 ^ 40))
    simp only
    rw [w64_id (by omega) (by omega)]
    exact this
theorem pick_ok (c : l1Cur) (k : Int) (n : Nat) (h : curI c n) (hn : n ≤ 1099511000000) (hk : k ≤ 9223372036854775807) : ∃ r, M.s_l1Cur_pick c k = some r ∧ 0 ≤ r.1 ∧ (r.1 < k ∨ r.1 = 0) ∧ (k ≥ 1 → r.1 < k) ∧ curI ⟨c.code, r.2.1, r.2.2⟩ (n + 2) := by
  unfold M.s_l1Cur_pick
  by_cases h1 : k ≤ 1
  · simp only [h1, decide_true, cond_true]
    exact ⟨_, rfl, by simp, Or.inr rfl, fun h => by simp only; omega, h.1, h.2.1, by have := h.2.2; simp only; omega⟩
  · simp only [h1, decide_false, cond_false]
    obtain ⟨r, hr, hb, ha0, ha1⟩ := next_ok c n h (by omega)
    rw [hr, Option.bind_some]
    have hrem : ∀ v : Int, 0 ≤ v → gxRem v k = some (v % k) := by
      intro v hv
      unfold gxRem
      rw [if_neg (by omega), Int.tmod_eq_emod_of_nonneg hv]
    by_cases h2 : k > 200
    · simp only [h2, decide_true, cond_true]
      obtain ⟨r2, hr2, hb2, ha2, ha3⟩ := next_ok ⟨c.code, r.2.1, r.2.2⟩ (n + 1) ⟨h.1, ha0, ha1⟩ (by omega)
      rw [hr2, Option.bind_some, Option.bind_some]
      have e : w64 ((w64 (r.1 * 256)) + r2.1) = r.1 * 256 + r2.1 := by
        rw [w64_id (z := r.1 * 256) (by omega) (by omega), w64_id (by omega) (by omega)]
      simp only [e, hrem (r.1 * 256 + r2.1) (by omega), Option.bind_some]
      have p1 := Int.emod_nonneg (r.1 * 256 + r2.1) (show k ≠ 0 by omega)
      have p2 := Int.emod_lt_of_pos (r.1 * 256 + r2.1) (show 0 < k by omega)
      exact ⟨_, rfl, p1, Or.inl p2, fun _ => p2, h.1, ha2, by simp only; omega⟩
    · simp only [h2, decide_false, cond_false, Option.bind_some, hrem r.1 hb.1]
      have p1 := Int.emod_nonneg r.1 (show k ≠ 0 by omega)
      have p2 := Int.emod_lt_of_pos r.1 (show 0 < k by omega)
      exact ⟨_, rfl, p1, Or.inl p2, fun _ => p2, h.1, ha0, by simp only; omega⟩
theorem among_ok (c : l1Cur) (l : List Int) (n : Nat) (h : curI c n) (hn : n ≤ 1099511000000) (hl : 0 < l.length ∧ l.length ≤ 1000) : ∃ r, M.s_l1Cur_among c l = some r ∧ r.1 ∈ l ∧ curI ⟨c.code, r.2.1, r.2.2⟩ (n + 2) := by
  unfold M.s_l1Cur_among
  obtain ⟨r, hr, h0, _, h1, hc⟩ := pick_ok c (l.length : Int) n h hn (by omega)
  have h1 := h1 (by omega)
  rw [hr, Option.bind_some]
  obtain ⟨i, hi⟩ : ∃ i : Nat, r.1 = i := ⟨r.1.toNat, by omega⟩
  have hil : i < l.length := by omega
  rw [hi, gxIdx_nat hil, Option.bind_some]
  exact ⟨_, rfl, List.getElem_mem hil, hc⟩
theorem one_ok (c : l1Cur) (k : Int) (n : Nat) (h : curI c n) (hn : n ≤ 1099511000000) (hk : k ≤ 9223372036854775807) : ∃ r, M.s_l1Cur_one c k = some r ∧ curI ⟨c.code, r.2.1, r.2.2⟩ (n + 2) := by
  unfold M.s_l1Cur_one
  obtain ⟨r, hr, _, _, _, hc⟩ := pick_ok c k n h hn hk
  rw [hr, Option.bind_some]
  exact ⟨_, rfl, hc⟩
theorem curI.mono {c : l1Cur} {n m : Nat} (h : curI c n) (hm : n ≤ m) : curI c m := ⟨h.1, h.2.1, by have := h.2.2; omega⟩
theorem ex_bind {α β : Type} {x : Option α} {f : α → Option β} {P : α → Prop} {Q : β → Prop} (h : ∃ a, x = some a ∧ P a) (k : ∀ a, P a → ∃ b, f a = some b ∧ Q b) : ∃ b, Option.bind x f = some b ∧ Q b := by
  obtain ⟨a, rfl, ha⟩ := h
  exact k a ha
theorem ex_bif {α : Type} {b : Bool} {x y : Option α} {P : α → Prop} (h1 : b = true → ∃ r, x = some r ∧ P r) (h2 : b = false → ∃ r, y = some r ∧ P r) : ∃ r, (bif b then x else y) = some r ∧ P r := by
  cases b with
  | true => exact h1 rfl
  | false => exact h2 rfl
theorem ex_some {α : Type} {a : α} {P : α → Prop} (h : P a) : ∃ r, some a = some r ∧ P r := ⟨a, rfl, h⟩
theorem ex_any {x : Option Bool} (h : ∃ r, x = some r) : ∃ r, x = some r ∧ True := by
  obtain ⟨r, h⟩ := h
  exact ⟨r, h, trivial⟩
theorem while_down {σ ρ : Type} {body : σ → Option (σ ⊕ ρ)} {s0 : σ} (cnt : σ → Int) (R : Nat → σ → Prop) (Q : ρ → Prop) (k : Int) (hk : k ≤ 1000) (hc : cnt s0 = k) (h0 : R 0 s0)
    (step : ∀ (i : Nat) s, (i : Int) < k → cnt s = k - i → R i s → ∃ z, body s = some z ∧ ∃ s', z = .inl s' ∧ cnt s' = k - i - 1 ∧ R (i + 1) s')
    (fin : ∀ (i : Nat) s, i ≤ k.toNat → cnt s ≤ 0 → R i s → ∃ r, body s = some (.inr r) ∧ Q r) : ∃ r, whileM body gxFuel s0 = some r ∧ Q r := by
  refine while_inv (fun i s => i ≤ k.toNat ∧ cnt s = k - i ∧ R i s) Q k.toNat (by omega) ⟨by omega, by rw [hc]; simp, h0⟩ (fun i s hi hR => ?_) (fun s hR => ?_)
  · obtain ⟨h1, h2, h3⟩ := hR
    by_cases hlt : (i : Int) < k
    · obtain ⟨z, e, s', rfl, h4, h5⟩ := step i s hlt h2 h3
      exact Or.inl ⟨s', e, by omega, by rw [h4]; omega, h5⟩
    · exact Or.inr (fin i s h1 (by omega) h3)
  · obtain ⟨h1, h2, h3⟩ := hR
    exact fin _ s h1 (by omega) h3
theorem s_put_ex {xs : List Slot} (hl : xs.length ≤ 1048576) (irq p : Int) : ∃ r, M.s_l8Put xs irq p = some r ∧ (r.2 = true → r.1.length = xs.length) := by
  by_cases hf : fndS xs irq < 0
  · unfold M.s_l8Put
    have e : decide (fndS xs irq ≥ 0) = false := by simp; omega
    rw [s_find xs irq hl, Option.bind_some, e, cond_false, s_free xs hl, Option.bind_some]
    by_cases h0 : frS xs < 0
    · simp only [h0, decide_true, cond_true]
      exact ⟨_, rfl, fun h => by cases h⟩
    · obtain ⟨k, hk, e1, _⟩ := frS_at h0
      have n0 : ¬ ((k : Int) < 0) := by omega
      rw [e1]
      simp only [n0, decide_false, cond_false, s_withK hk hl, Option.bind_some]
      exact ⟨_, rfl, fun _ => by simp⟩
  · rw [s_putK hl hf]
    exact ⟨_, rfl, fun _ => by simp⟩
theorem s_end_ex {xs : List Slot} (hl : xs.length ≤ 1048576) (irq : Int) : ∃ r, M.s_l8End xs irq = some r ∧ (r.2 = true → r.1.length = xs.length) := by
  unfold M.s_l8End
  rw [s_find xs irq hl, Option.bind_some]
  by_cases hf : fndS xs irq < 0
  · simp only [hf, decide_true, cond_true, Option.bind_some]
    exact ⟨_, rfl, fun h => by cases h⟩
  · obtain ⟨k, hk, e1, _⟩ := fnd_at hf
    have n0 : ¬ ((k : Int) < 0) := by omega
    rw [e1]
    simp only [n0, decide_false, cond_false, gxIdx_nat hk, Option.bind_some]
    cases (xs[k].State == 1) with
    | true => exact ⟨_, rfl, fun h => by cases h⟩
    | false =>
      simp only [cond_false]
      cases (xs[k].State == 2) with
      | true =>
        simp only [cond_true, s_withK hk hl, Option.bind_some]
        exact ⟨_, rfl, fun _ => by simp⟩
      | false =>
        simp only [cond_false, s_withK hk hl, Option.bind_some]
        exact ⟨_, rfl, fun _ => by simp⟩
theorem s_end_no {xs : List Slot} (hl : xs.length ≤ 1048576) {irq : Int} (hc : canE xs irq = false) : M.s_l8End xs irq = some ([], false) := by
  unfold M.s_l8End
  rw [s_find xs irq hl, Option.bind_some]
  by_cases hf : fndS xs irq < 0
  · simp only [hf, decide_true, cond_true, Option.bind_some]
  · obtain ⟨k, hk, e1, _⟩ := fnd_at hf
    have n0 : ¬ ((k : Int) < 0) := by omega
    have n1 : decide ((k : Int) ≥ 0) = true := by simp
    unfold canE at hc
    rw [e1, n1, Int.toNat_natCast, getD_at hk, Bool.true_and, Bool.not_eq_false'] at hc
    rw [e1]
    simp only [n0, decide_false, cond_false, gxIdx_nat hk, Option.bind_some, hc, cond_true]
theorem s_endQ_ex {q : Queue} (h : GP q) (irq : Int) : ∃ r, M.s_l9End q irq = some r ∧ (r.2 = true → GP r.1) := by
  cases hc : canE q.Slots irq with
  | true => exact ⟨_, s_endQ h hc, fun _ => (endQ_ok h hc).1⟩
  | false =>
    unfold M.s_l9End
    rw [s_end_no (by have := h.s.len; omega) hc]
    exact ⟨_, rfl, fun h => by cases h⟩
theorem gp_small {q : Queue} (h : GP q) : q.Slots.length = 4 ∧ q.Waiting.length ≤ 8 := ⟨h.s.len, gp_waiting h⟩
theorem wt_ok {a b : Int} (h1 : 0 ≤ a) (h2 : a ≤ 7) (h3 : 0 ≤ b) (h4 : b ≤ 15) : okWt ⟨a, b⟩ := ⟨⟨h1, h2⟩, h3, h4⟩
theorem gp_mt : GP ⟨[⟨0, 0, 0⟩, ⟨0, 0, 0⟩, ⟨0, 0, 0⟩, ⟨0, 0, 0⟩], []⟩ := (goodP_iff _).1 (by decide)
theorem gi_mt : GI ⟨16, [], ⟨[⟨0, 0, 0⟩, ⟨0, 0, 0⟩, ⟨0, 0, 0⟩, ⟨0, 0, 0⟩], []⟩⟩ := by
  refine ⟨by simp, ⟨gp_mt, Or.inl rfl⟩, ?_, by simp⟩
  exact List.Perm.refl _
theorem irq_ok (c : l1Cur) (n : Nat) (h : curI c n) (hn : n ≤ 1000000000) : ∃ r, M.s_l1Cur_irq c = some r ∧ curI ⟨c.code, r.2.1, r.2.2⟩ (n + 10) := by
  unfold M.s_l1Cur_irq
  refine ex_bind (one_ok c 20 n h (by omega) (by omega)) fun a ha => ?_
  refine ex_bif (fun _ => ?_) (fun _ => ?_)
  · exact ex_bind (among_ok ⟨c.code, a.2.1, a.2.2⟩ _ _ ha (by omega) (by simp)) fun b hb => ex_some (hb.2.mono (by omega))
  · exact ex_bind (pick_ok ⟨c.code, a.2.1, a.2.2⟩ 8 _ ha (by omega) (by omega)) fun b hb => ex_some (hb.2.2.2.mono (by omega))
theorem prio_ok (c : l1Cur) (n : Nat) (h : curI c n) (hn : n ≤ 1000000000) : ∃ r, M.s_l1Cur_prio c = some r ∧ curI ⟨c.code, r.2.1, r.2.2⟩ (n + 10) := by
  unfold M.s_l1Cur_prio
  exact ex_bind (among_ok c _ n h (by omega) (by simp)) fun b hb => ex_some (hb.2.mono (by omega))
theorem slots_ok (c : l1Cur) (n : Nat) (h : curI c n) (hn : n ≤ 100000000) : ∃ r, M.s_l1Cur_slots c = some r ∧ r.1.length ≤ 5 ∧ curI ⟨c.code, r.2.1, r.2.2⟩ (n + 1000) := by
  unfold M.s_l1Cur_slots
  refine ex_bind (pick_ok c 9 n h (by omega) (by omega)) fun a ⟨a0, _, a1, ac⟩ => ?_
  have a1 := a1 (by omega)
  refine ex_bind (P := fun r : List Slot × Int × Int => r.1.length = 4 ∧ curI ⟨c.code, r.2.1, r.2.2⟩ (n + 500)) (while_down (fun s => s.2.1) (fun i s => s.1.length = 4 ∧ curI ⟨c.code, s.2.2.1, s.2.2.2⟩ (n + 2 + 20 * i)) _ a.1 (by omega) rfl ⟨rfl, ac⟩ (fun i s hi hs hR => ?_) (fun i s hi hs hR => ?_)) fun b hb => ?_
  · obtain ⟨xs, k, u, v⟩ := s
    obtain ⟨hx, hc⟩ := hR
    simp only at hx hc hs
    have e0 : k > 0 := by omega
    simp only [e0, decide_true, cond_true]
    refine ex_bind (pick_ok ⟨c.code, u, v⟩ 4 _ hc (by omega) (by omega)) fun p ⟨_, _, _, pc⟩ => ?_
    refine ex_bind (ex_any (by cases (p.1 == 0) <;> exact ⟨_, rfl⟩)) fun o _ => ?_
    refine ex_bind (P := fun r : List Slot × Int × Int => r.1.length = 4 ∧ curI ⟨c.code, r.2.1, r.2.2⟩ (n + 2 + 20 * i + 20)) ?_ fun r hr => ex_some ⟨_, rfl, by simp only [w64_id (z := k - 1) (by omega) (by omega)]; omega, hr.1, hr.2.mono (by omega)⟩
    refine ex_bif (fun _ => ?_) (fun _ => ?_)
    · refine ex_bind (pick_ok ⟨c.code, p.2.1, p.2.2⟩ 8 _ pc (by omega) (by omega)) fun p2 ⟨_, _, _, pc2⟩ => ?_
      refine ex_bind (pick_ok ⟨c.code, p2.2.1, p2.2.2⟩ 8 _ pc2 (by omega) (by omega)) fun p3 ⟨_, _, _, pc3⟩ => ?_
      refine ex_bind (s_put_ex (by omega) _ _) fun r hr => ?_
      refine ex_bind (P := fun y : List Slot => y.length = 4) (ex_bif (fun e => ex_some (by rw [hr e]; exact hx)) (fun _ => ex_some hx)) fun y hy => ex_some ⟨hy, pc3.mono (by omega)⟩
    · refine ex_bind (P := fun r : List Slot × Int × Int => r.1.length = 4 ∧ curI ⟨c.code, r.2.1, r.2.2⟩ (n + 2 + 20 * i + 20)) ?_ fun r hr => ex_some hr
      refine ex_bif (fun _ => ?_) (fun _ => ?_)
      · rw [s_takeK xs 16 (by omega)]
        cases hcan : canT xs 16 with
        | false =>
          simp only [cond_false, gxAlt_some]
          exact ex_some ⟨hx, pc.mono (by omega)⟩
        | true =>
          simp only [cond_true, gxAlt_none]
          rw [s_takeO (by omega) hcan, Option.bind_some]
          refine ex_some ⟨?_, pc.mono (by omega)⟩
          unfold takL
          simp only [List.length_set]
          exact hx
      · refine ex_bind (P := fun r : List Slot × Int × Int => r.1.length = 4 ∧ curI ⟨c.code, r.2.1, r.2.2⟩ (n + 2 + 20 * i + 20)) ?_ fun r hr => ex_some hr
        refine ex_bif (fun _ => ?_) (fun _ => ex_some ⟨hx, pc.mono (by omega)⟩)
        refine ex_bind (pick_ok ⟨c.code, p.2.1, p.2.2⟩ 8 _ pc (by omega) (by omega)) fun p2 ⟨_, _, _, pc2⟩ => ?_
        refine ex_bind (s_end_ex (by omega) _) fun r hr => ?_
        refine ex_bind (P := fun z : Bool × Int × Int => (z.1 = true → r.2 = true) ∧ curI ⟨c.code, z.2.1, z.2.2⟩ (n + 2 + 20 * i + 20)) (ex_bif (fun e => ?_) (fun _ => ex_some ⟨fun h => (by cases h), pc2.mono (by omega)⟩)) fun z hz => ?_
        · exact ex_bind (one_ok ⟨c.code, p2.2.1, p2.2.2⟩ 2 _ pc2 (by omega) (by omega)) fun z hz => ex_some ⟨fun _ => e, hz.mono (by omega)⟩
        · exact ex_bind (P := fun y : List Slot => y.length = 4) (ex_bif (fun e => ex_some (by rw [hr (hz.1 e)]; exact hx)) (fun _ => ex_some hx)) fun y hy => ex_some ⟨hy, hz.2⟩
  · obtain ⟨xs, k, u, v⟩ := s
    obtain ⟨hx, hc⟩ := hR
    simp only at hx hc hs
    have e0 : ¬ (k > 0) := by omega
    simp only [e0, decide_false, cond_false]
    exact ⟨_, rfl, hx, hc.mono (by omega)⟩
  · obtain ⟨hx, hc⟩ := hb
    refine ex_bind (pick_ok ⟨c.code, b.2.1, b.2.2⟩ 24 _ hc (by omega) (by omega)) fun p ⟨_, _, _, pc⟩ => ?_
    refine ex_bind (P := fun r : List Slot × Int × Int × List Slot => r.1.length ≤ 5 ∧ curI ⟨c.code, r.2.1, r.2.2.1⟩ (n + 1000)) ?_ fun r hr => ex_some hr
    refine ex_bif (fun _ => ?_) (fun _ => ?_)
    · refine ex_bind (pick_ok ⟨c.code, p.2.1, p.2.2⟩ 4 _ pc (by omega) (by omega)) fun p2 ⟨q0, _, q1, pc2⟩ => ?_
      have q1 := q1 (by omega)
      refine ex_bind (among_ok ⟨c.code, p2.2.1, p2.2.2⟩ _ _ pc2 (by omega) (by simp)) fun p3 ⟨_, pc3⟩ => ?_
      refine ex_bind (among_ok ⟨c.code, p3.2.1, p3.2.2⟩ _ _ pc3 (by omega) (by simp)) fun p4 ⟨_, pc4⟩ => ?_
      refine ex_bind (among_ok ⟨c.code, p4.2.1, p4.2.2⟩ _ _ pc4 (by omega) (by simp)) fun p5 ⟨_, pc5⟩ => ?_
      obtain ⟨k, hk⟩ : ∃ k : Nat, p2.1 = k := ⟨p2.1.toNat, by omega⟩
      rw [hk, gxIdx_nat (show k < b.1.length by omega), Option.bind_some]
      exact ex_some ⟨by simp only [List.length_set]; omega, pc5.mono (by omega)⟩
    · refine ex_bind (P := fun y : List Slot => y.length ≤ 5) ?_ fun y hy => ex_some ⟨hy, pc.mono (by omega)⟩
      refine ex_bif (fun _ => ?_) (fun _ => ?_)
      · rw [gxApp_ok (by simp; omega), Option.bind_some]
        exact ex_some (by simp; omega)
      · refine ex_bind (P := fun y : List Slot => y.length ≤ 5) (ex_bif (fun _ => ?_) (fun _ => ex_some (by omega))) fun y hy => ex_some hy
        have e3 : gxIdx b.1 3 = some (b.1[3]'(by omega)) := gxIdx_nat (i := 3) (by omega)
        rw [e3, Option.bind_some]
        exact ex_some (by simp; omega)
theorem queue_ok (c : l1Cur) (n : Nat) (h : curI c n) (hn : n ≤ 10000000) : ∃ r, M.s_l1Cur_queue c = some r ∧ (r.1.Slots.length ≤ 5 ∧ r.1.Waiting.length ≤ 9) ∧ curI ⟨c.code, r.2.1, r.2.2⟩ (n + 3000) := by
  unfold M.s_l1Cur_queue
  refine ex_bind (pick_ok c 14 n h (by omega) (by omega)) fun a ⟨a0, _, a1, ac⟩ => ?_
  have a1 := a1 (by omega)
  refine ex_bind (P := fun r : Int × Int × List Slot × List Waiter => GP ⟨r.2.2.1, r.2.2.2⟩ ∧ curI ⟨c.code, r.1, r.2.1⟩ (n + 1000)) (while_down (fun s => s.1) (fun i s => GP ⟨s.2.2.2.1, s.2.2.2.2⟩ ∧ curI ⟨c.code, s.2.1, s.2.2.1⟩ (n + 2 + 20 * i)) _ a.1 (by omega) rfl ⟨gp_mt, ac⟩ (fun i s hi hs hR => ?_) (fun i s hi hs hR => ?_)) fun b hb => ?_
  · obtain ⟨k, u, v, xs, ws⟩ := s
    obtain ⟨hx, hc⟩ := hR
    simp only at hx hc hs
    have e0 : k > 0 := by omega
    simp only [e0, decide_true, cond_true]
    refine ex_bind (pick_ok ⟨c.code, u, v⟩ 5 _ hc (by omega) (by omega)) fun p ⟨_, _, _, pc⟩ => ?_
    refine ex_bind (ex_any (by cases (p.1 == 0) <;> cases (p.1 == 1) <;> exact ⟨_, rfl⟩)) fun o _ => ?_
    refine ex_bind (P := fun r : Int × Int × List Slot × List Waiter => GP ⟨r.2.2.1, r.2.2.2⟩ ∧ curI ⟨c.code, r.1, r.2.1⟩ (n + 2 + 20 * i + 20)) ?_ fun r hr => ex_some ⟨_, rfl, by simp only [w64_id (z := k - 1) (by omega) (by omega)]; omega, hr.1, hr.2.mono (by omega)⟩
    refine ex_bif (fun _ => ?_) (fun _ => ?_)
    · refine ex_bind (pick_ok ⟨c.code, p.2.1, p.2.2⟩ 8 _ pc (by omega) (by omega)) fun p2 ⟨x0, _, x1, pc2⟩ => ?_
      refine ex_bind (pick_ok ⟨c.code, p2.2.1, p2.2.2⟩ 8 _ pc2 (by omega) (by omega)) fun p3 ⟨y0, _, y1, pc3⟩ => ?_
      have x1 := x1 (by omega)
      have y1 := y1 (by omega)
      have hw := wt_ok (a := p2.1) (b := p3.1) x0 (by omega) y0 (by omega)
      have e1 : M.s_l9Offer (⟨xs, ws⟩ : Queue) p2.1 p3.1 = some (offQ ⟨xs, ws⟩ ⟨p2.1, p3.1⟩) := s_offQ hx hw
      rw [e1, Option.bind_some]
      exact ex_some ⟨(offQ_ok hx hw).1, pc3.mono (by omega)⟩
    · refine ex_bind (P := fun r : Int × Int × List Slot × List Waiter => GP ⟨r.2.2.1, r.2.2.2⟩ ∧ curI ⟨c.code, r.1, r.2.1⟩ (n + 2 + 20 * i + 20)) ?_ fun r hr => ex_some hr
      refine ex_bif (fun _ => ?_) (fun _ => ?_)
      · rw [s_takeQ hx 16, Option.bind_some]
        cases hcan : canT xs 16 with
        | false => exact ex_some ⟨hx, pc.mono (by omega)⟩
        | true => exact ex_some ⟨gp_take hx hcan, pc.mono (by omega)⟩
      · refine ex_bind (P := fun r : Int × Int × List Slot × List Waiter => GP ⟨r.2.2.1, r.2.2.2⟩ ∧ curI ⟨c.code, r.1, r.2.1⟩ (n + 2 + 20 * i + 20)) ?_ fun r hr => ex_some hr
        refine ex_bif (fun _ => ?_) (fun _ => ex_some ⟨hx, pc.mono (by omega)⟩)
        refine ex_bind (pick_ok ⟨c.code, p.2.1, p.2.2⟩ 8 _ pc (by omega) (by omega)) fun p2 ⟨_, _, _, pc2⟩ => ?_
        refine ex_bind (s_endQ_ex hx p2.1) fun r hr => ?_
        exact ex_bind (P := fun y : List Slot × List Waiter => GP ⟨y.1, y.2⟩) (ex_bif (fun e => ex_some (hr e)) (fun _ => ex_some hx)) fun y hy => ex_some ⟨hy, pc2.mono (by omega)⟩
  · obtain ⟨k, u, v, xs, ws⟩ := s
    obtain ⟨hx, hc⟩ := hR
    simp only at hx hc hs
    have e0 : ¬ (k > 0) := by omega
    simp only [e0, decide_false, cond_false]
    exact ⟨_, rfl, hx, hc.mono (by omega)⟩
  · obtain ⟨hx, hc⟩ := hb
    obtain ⟨l1, l2⟩ := gp_small hx
    simp only at l1 l2
    refine ex_bind (pick_ok ⟨c.code, b.1, b.2.1⟩ 24 _ hc (by omega) (by omega)) fun p ⟨_, _, _, pc⟩ => ?_
    refine ex_bind (P := fun r : Int × Int × List Slot × List Waiter × List Slot => (r.2.2.1.length ≤ 5 ∧ r.2.2.2.1.length ≤ 9) ∧ curI ⟨c.code, r.1, r.2.1⟩ (n + 3000)) ?_ fun r hr => ex_some hr
    refine ex_bif (fun _ => ?_) (fun _ => ?_)
    · exact ex_bind (slots_ok ⟨c.code, p.2.1, p.2.2⟩ _ pc (by omega)) fun r hr => ex_some ⟨⟨hr.1, by simp only; omega⟩, hr.2.mono (by omega)⟩
    · refine ex_bind (P := fun r : Int × Int × List Waiter × List Slot => (r.2.2.2.length ≤ 5 ∧ r.2.2.1.length ≤ 9) ∧ curI ⟨c.code, r.1, r.2.1⟩ (n + 3000)) ?_ fun r hr => ex_some hr
      refine ex_bif (fun _ => ?_) (fun _ => ?_)
      · refine ex_bind (irq_ok ⟨c.code, p.2.1, p.2.2⟩ _ pc (by omega)) fun p2 pc2 => ?_
        refine ex_bind (prio_ok ⟨c.code, p2.2.1, p2.2.2⟩ _ pc2 (by omega)) fun p3 pc3 => ?_
        rw [gxApp_ok (by simp; omega), Option.bind_some]
        exact ex_some ⟨⟨by simp only; omega, by simp; omega⟩, pc3.mono (by omega)⟩
      · refine ex_bind (P := fun r : Int × Int × List Slot => r.2.2.length ≤ 5 ∧ curI ⟨c.code, r.1, r.2.1⟩ (n + 3000)) ?_ fun r hr => ex_some ⟨⟨hr.1, by simp only; omega⟩, hr.2⟩
        refine ex_bif (fun _ => ?_) (fun _ => ex_some ⟨by simp only; omega, pc.mono (by omega)⟩)
        refine ex_bind (P := fun r : Int × Int × List Slot => r.2.2.length ≤ 5 ∧ curI ⟨c.code, r.1, r.2.1⟩ (n + 3000)) ?_ fun r hr => ex_some hr
        refine ex_bif (fun _ => ?_) (fun _ => ex_some ⟨by simp only; omega, pc.mono (by omega)⟩)
        refine ex_bind (pick_ok ⟨c.code, p.2.1, p.2.2⟩ 4 _ pc (by omega) (by omega)) fun p2 ⟨q0, _, q1, pc2⟩ => ?_
        have q1 := q1 (by omega)
        obtain ⟨k, hk⟩ : ∃ k : Nat, p2.1 = k := ⟨p2.1.toNat, by omega⟩
        rw [hk, gxIdx_nat (show k < b.2.2.1.length by omega), Option.bind_some]
        exact ex_some ⟨by simp only [List.length_set]; omega, pc2.mono (by omega)⟩
def smallI (x : Interface) : Prop := x.Stack.length ≤ 5 ∧ x.Queue.Slots.length ≤ 5 ∧ x.Queue.Waiting.length ≤ 9
theorem gi_small {x : Interface} (h : GI x) : x.Stack.length ≤ 4 ∧ x.Queue.Slots.length ≤ 4 ∧ x.Queue.Waiting.length ≤ 8 := ⟨gi_len h, by rw [h.q.1.s.len]; omega, gp_waiting h.q.1⟩
theorem iface_ok (c : l1Cur) (n : Nat) (h : curI c n) (hn : n ≤ 1000000) : ∃ r, M.s_l1Cur_iface c = some r ∧ smallI r.1 ∧ curI ⟨c.code, r.2.1, r.2.2⟩ (n + 10000) := by
  unfold M.s_l1Cur_iface
  refine ex_bind (pick_ok c 14 n h (by omega) (by omega)) fun a ⟨a0, _, a1, ac⟩ => ?_
  have a1 := a1 (by omega)
  refine ex_bind (P := fun r : Int × Int × Int × List Int × List Slot × List Waiter => GI ⟨r.2.2.1, r.2.2.2.1, ⟨r.2.2.2.2.1, r.2.2.2.2.2⟩⟩ ∧ curI ⟨c.code, r.1, r.2.1⟩ (n + 1000)) (while_down (fun s => s.1) (fun i s => GI ⟨s.2.2.2.1, s.2.2.2.2.1, ⟨s.2.2.2.2.2.1, s.2.2.2.2.2.2⟩⟩ ∧ curI ⟨c.code, s.2.1, s.2.2.1⟩ (n + 2 + 20 * i)) _ a.1 (by omega) rfl ⟨gi_mt, ac⟩ (fun i s hi hs hR => ?_) (fun i s hi hs hR => ?_)) fun b hb => ?_
  · obtain ⟨k, u, v, mk, st, xs, ws⟩ := s
    obtain ⟨hx, hc⟩ := hR
    simp only at hx hc hs
    have e0 : k > 0 := by omega
    simp only [e0, decide_true, cond_true]
    refine ex_bind (pick_ok ⟨c.code, u, v⟩ 6 _ hc (by omega) (by omega)) fun p ⟨_, _, _, pc⟩ => ?_
    refine ex_bind (ex_any (by cases (p.1 == 0) <;> cases (p.1 == 1) <;> exact ⟨_, rfl⟩)) fun o _ => ?_
    refine ex_bind (P := fun r : Int × Int × Int × List Int × List Slot × List Waiter => GI ⟨r.2.2.1, r.2.2.2.1, ⟨r.2.2.2.2.1, r.2.2.2.2.2⟩⟩ ∧ curI ⟨c.code, r.1, r.2.1⟩ (n + 2 + 20 * i + 20)) ?_ fun r hr => ex_some ⟨_, rfl, by simp only [w64_id (z := k - 1) (by omega) (by omega)]; omega, hr.1, hr.2.mono (by omega)⟩
    refine ex_bif (fun _ => ?_) (fun _ => ?_)
    · refine ex_bind (pick_ok ⟨c.code, p.2.1, p.2.2⟩ 8 _ pc (by omega) (by omega)) fun p2 ⟨x0, _, x1, pc2⟩ => ?_
      refine ex_bind (pick_ok ⟨c.code, p2.2.1, p2.2.2⟩ 12 _ pc2 (by omega) (by omega)) fun p3 ⟨y0, _, y1, pc3⟩ => ?_
      have x1 := x1 (by omega)
      have y1 := y1 (by omega)
      have hw := wt_ok (a := p2.1) (b := p3.1) x0 (by omega) y0 (by omega)
      have e1 : M.s_l10Raise (⟨mk, st, ⟨xs, ws⟩⟩ : Interface) p2.1 p3.1 = some (raiI ⟨mk, st, ⟨xs, ws⟩⟩ ⟨p2.1, p3.1⟩) := s_raiI hx hw
      rw [e1, Option.bind_some]
      exact ex_some ⟨raiI_ok hx hw, pc3.mono (by omega)⟩
    · refine ex_bind (ex_any (by cases (p.1 == 3) <;> exact ⟨_, rfl⟩)) fun o2 _ => ?_
      refine ex_bind (P := fun r : Int × List Int × List Slot × List Waiter => GI ⟨r.1, r.2.1, ⟨r.2.2.1, r.2.2.2⟩⟩) ?_ fun r hr => ex_some ⟨hr, pc.mono (by omega)⟩
      refine ex_bif (fun _ => ?_) (fun _ => ?_)
      · rw [s_takI hx, Option.bind_some]
        cases hcan : canTI ⟨mk, st, ⟨xs, ws⟩⟩ with
        | false => exact ex_some hx
        | true => exact ex_some (takI_ok hx hcan)
      · refine ex_bind (P := fun r : Int × List Int × List Slot × List Waiter => GI ⟨r.1, r.2.1, ⟨r.2.2.1, r.2.2.2⟩⟩) ?_ fun r hr => ex_some hr
        refine ex_bif (fun _ => ?_) (fun _ => ex_some hx)
        by_cases h0 : st.length = 0
        · rw [s_leaE (x := ⟨mk, st, ⟨xs, ws⟩⟩) h0, gxAlt_some]
          exact ex_some hx
        · obtain ⟨l1, l2⟩ := s_leaK hx h0
          rw [l1, l2, gxAlt_none, Option.bind_some]
          exact ex_some (leaI_ok hx h0)
  · obtain ⟨k, u, v, mk, st, xs, ws⟩ := s
    obtain ⟨hx, hc⟩ := hR
    simp only at hx hc hs
    have e0 : ¬ (k > 0) := by omega
    simp only [e0, decide_false, cond_false]
    exact ⟨_, rfl, hx, hc.mono (by omega)⟩
  · obtain ⟨hx, hc⟩ := hb
    obtain ⟨l1, l2, l3⟩ := gi_small hx
    simp only at l1 l2 l3
    refine ex_bind (one_ok ⟨c.code, b.1, b.2.1⟩ 3 _ hc (by omega) (by omega)) fun p pc => ?_
    refine ex_bind (P := fun r : Int × Int × Int => curI ⟨c.code, r.1, r.2.1⟩ (n + 1010)) (ex_bif (fun _ => ?_) (fun _ => ex_some (pc.mono (by omega)))) fun q qc => ?_
    · exact ex_bind (among_ok ⟨c.code, p.2.1, p.2.2⟩ _ _ pc (by omega) (by simp)) fun q hq => ex_some (hq.2.mono (by omega))
    refine ex_bind (pick_ok ⟨c.code, q.1, q.2.1⟩ 24 _ qc (by omega) (by omega)) fun p2 ⟨_, _, _, pc2⟩ => ?_
    refine ex_bind (P := fun r : Int × Int × Int × List Int × List Slot × List Waiter => (r.2.2.2.1.length ≤ 5 ∧ r.2.2.2.2.1.length ≤ 5 ∧ r.2.2.2.2.2.length ≤ 9) ∧ curI ⟨c.code, r.1, r.2.1⟩ (n + 10000)) ?_ fun r hr => ex_some hr
    refine ex_bif (fun _ => ?_) (fun _ => ?_)
    · exact ex_bind (among_ok ⟨c.code, p2.2.1, p2.2.2⟩ _ _ pc2 (by omega) (by simp)) fun q hq => ex_some ⟨⟨by simp only; omega, by simp only; omega, by simp only; omega⟩, hq.2.mono (by omega)⟩
    · refine ex_bind (P := fun r : Int × Int × List Int × List Slot × List Waiter => (r.2.2.1.length ≤ 5 ∧ r.2.2.2.1.length ≤ 5 ∧ r.2.2.2.2.length ≤ 9) ∧ curI ⟨c.code, r.1, r.2.1⟩ (n + 10000)) ?_ fun r hr => ex_some hr
      refine ex_bif (fun _ => ?_) (fun _ => ?_)
      · refine ex_bind (pick_ok ⟨c.code, p2.2.1, p2.2.2⟩ 8 _ pc2 (by omega) (by omega)) fun p3 ⟨_, _, _, pc3⟩ => ?_
        rw [gxApp_ok (by simp; omega), Option.bind_some]
        exact ex_some ⟨⟨by simp; omega, by simp only; omega, by simp only; omega⟩, pc3.mono (by omega)⟩
      · refine ex_bind (P := fun r : Int × Int × List Slot × List Waiter => (r.2.2.1.length ≤ 5 ∧ r.2.2.2.length ≤ 9) ∧ curI ⟨c.code, r.1, r.2.1⟩ (n + 10000)) (ex_bif (fun _ => ?_) (fun _ => ex_some ⟨⟨by simp only; omega, by simp only; omega⟩, pc2.mono (by omega)⟩)) fun r hr => ex_some ⟨⟨by simp only; omega, hr.1⟩, hr.2⟩
        exact ex_bind (queue_ok ⟨c.code, p2.2.1, p2.2.2⟩ _ pc2 (by omega)) fun r hr => ex_some ⟨hr.1, hr.2.mono (by omega)⟩
end Go.Proofs.YtllhajkgkghhdaaGreat
set_option linter.unusedVariables false
set_option linter.unusedSimpArgs false
set_option maxHeartbeats 4000000
namespace Go.Proofs.YtllhajkgkghhdaaGreat
open Go.Gx
theorem smallI_fit {x : Interface} (h : smallI x) : fitIf x := by
  obtain ⟨h1, h2, h3⟩ := h
  exact ⟨by omega, by omega, by omega⟩
def smM (m : Machine) : Prop := (m.Routes.length ≤ 8 ∧ m.Enabled.length ≤ 8 ∧ m.Raised.length ≤ 9 ∧ m.Cpus.length ≤ 3) ∧ ∀ x ∈ m.Cpus, smallI x
theorem sm_fit {m : Machine} (h : smM m) : fitM m := by
  obtain ⟨⟨h1, h2, h3, h4⟩, h5⟩ := h
  refine ⟨by omega, by omega, by omega, by omega, fun x hx => smallI_fit (h5 x hx), ?_⟩
  have := wIfs_le2 (n := 100) (xs := m.Cpus) fun x hx => by
    obtain ⟨a1, a2, a3⟩ := h5 x hx
    unfold wIf
    omega
  omega
theorem gm_sm {m : Machine} (h : GM m) : smM m := by
  obtain ⟨h1, h2, h3⟩ := gm_cpus h
  have h4 := h.en
  have h5 := h.ra
  refine ⟨⟨by omega, by omega, by omega, by omega⟩, fun x hx => ?_⟩
  obtain ⟨k, hk, rfl⟩ := List.getElem_of_mem hx
  obtain ⟨a1, a2, a3⟩ := gi_small (h.cpu k hk).1
  exact ⟨by omega, by omega, by omega⟩
def newM (xs : List Route) (n : Nat) : Machine := ⟨xs, List.replicate 8 false, List.replicate 8 false, List.replicate n freshIf⟩
theorem okRts_c {xs : List Route} {c : Int} (h : okRts xs c = true) : (1 ≤ c ∧ c ≤ 2) ∧ xs.length = 8 := by
  unfold okRts at h
  simp only [Bool.and_eq_true, decide_eq_true_eq, beq_iff_eq] at h
  omega
theorem new_gm {xs : List Route} {n : Nat} (h : okRts xs (n : Int) = true) : GM (newM xs n) := by
  refine ⟨?_, by simp [newM], by simp [newM], fun k hk => ?_⟩
  · unfold newM
    simp only [List.length_replicate]
    exact h
  · unfold newM at hk ⊢
    simp only [List.getElem_replicate]
    exact ⟨gi_mt, by unfold fitOk freshIf; simp⟩
theorem NewMachine_is (xs : List Route) (c : Int) (h : xs.length ≤ 1048576) : M.s_NewMachine xs c = some (bif okRts xs c then (newM xs c.toNat, true) else (zM, false)) ∧ M.i_NewMachine xs c = some (bif okRts xs c then (newM xs c.toNat, true) else (zM, false)) := by
  unfold M.s_NewMachine M.i_NewMachine
  simp only [s_routes xs c (by omega), i_routesZ xs c (by omega), Option.bind_some]
  cases hg : okRts xs c with
  | false => exact ⟨rfl, rfl⟩
  | true =>
    have hc := okRts_c hg
    obtain ⟨n, rfl⟩ : ∃ n : Nat, c = n := ⟨c.toNat, by omega⟩
    have hmk : gxMake 1 8 (false : Bool) = some (List.replicate 8 false) := rfl
    have hap : gxApp 16 ([] : List Route) xs = some xs := by rw [gxApp_ok (by simp; omega)]; rfl
    have hs4 : gxMake 24 4 (⟨0, 0, 0⟩ : Slot) = some [⟨0, 0, 0⟩, ⟨0, 0, 0⟩, ⟨0, 0, 0⟩, ⟨0, 0, 0⟩] := rfl
    simp only [Bool.not_true, cond_false, hmk, hap, hs4, Option.bind_some, Int.toNat_natCast]
    rw [while_run (fun j => ((j : Int), List.replicate j freshIf)) (List.replicate n freshIf) n (by simp) (by omega)]
    · exact ⟨rfl, rfl⟩
    · intro j hj
      have e0 : ((j : Int) < (n : Int)) := by omega
      simp only [e0, decide_true, cond_true, Option.bind_some]
      rw [gxApp_ok (by simp; omega), Option.bind_some, w64_succ (show j ≤ 4611686018427387904 by omega), List.replicate_succ']
      rfl
    · simp
theorem most_is (x : Int) : M.s_l1Most 1 x = some (if 1 > x then 1 else x) := by
  unfold M.s_l1Most
  by_cases h : (1 : Int) > x
  · simp only [h, decide_true, cond_true, if_true]
  · simp only [h, decide_false, cond_false, if_false]
theorem machStep_ok (c : l1Cur) (m : Machine) (n : Nat) (h : curI c n) (hn : n ≤ 10000000) (hm : m.Cpus.length ≤ 1048576) : ∃ r, M.s_l1Cur_machStep c m = some r ∧ curI ⟨c.code, r.2.1, r.2.2⟩ (n + 20) := by
  unfold M.s_l1Cur_machStep
  rw [most_is, Option.bind_some]
  refine ex_bind (pick_ok c _ n h (by omega) (by split <;> omega)) fun a ⟨_, _, _, ac⟩ => ?_
  refine ex_bind (pick_ok ⟨c.code, a.2.1, a.2.2⟩ 12 _ ac (by omega) (by omega)) fun b ⟨_, _, _, bc⟩ => ?_
  refine ex_bind (ex_any (by cases (b.1 == 0) <;> cases (b.1 == 1) <;> exact ⟨_, rfl⟩)) fun o _ => ?_
  refine ex_bif (fun _ => ?_) (fun _ => ?_)
  · exact ex_bind (pick_ok ⟨c.code, b.2.1, b.2.2⟩ 8 _ bc (by omega) (by omega)) fun d ⟨_, _, _, dc⟩ => ex_some (dc.mono (by omega))
  refine ex_bind (ex_any (by cases (b.1 == 3) <;> exact ⟨_, rfl⟩)) fun o _ => ?_
  refine ex_bif (fun _ => ex_some (bc.mono (by omega))) (fun _ => ?_)
  refine ex_bind (ex_any (by cases (b.1 == 5) <;> cases (b.1 == 6) <;> exact ⟨_, rfl⟩)) fun o _ => ?_
  refine ex_bif (fun _ => ex_some (bc.mono (by omega))) (fun _ => ?_)
  refine ex_bif (fun _ => ex_some (bc.mono (by omega))) (fun _ => ?_)
  refine ex_bif (fun _ => ?_) (fun _ => ?_)
  · exact ex_bind (among_ok ⟨c.code, b.2.1, b.2.2⟩ _ _ bc (by omega) (by simp)) fun d ⟨_, dc⟩ => ex_some (dc.mono (by omega))
  refine ex_bif (fun _ => ?_) (fun _ => ?_)
  · refine ex_bind (pick_ok ⟨c.code, b.2.1, b.2.2⟩ 8 _ bc (by omega) (by omega)) fun d ⟨_, _, _, dc⟩ => ?_
    exact ex_bind (among_ok ⟨c.code, d.2.1, d.2.2⟩ _ _ dc (by omega) (by simp)) fun e ⟨_, ec⟩ => ex_some (ec.mono (by omega))
  refine ex_bind (one_ok ⟨c.code, b.2.1, b.2.2⟩ 4 _ bc (by omega) (by omega)) fun d dc => ?_
  refine ex_bif (fun _ => ?_) (fun _ => ex_some (dc.mono (by omega)))
  refine ex_bind (among_ok ⟨c.code, d.2.1, d.2.2⟩ _ _ dc (by omega) (by simp)) fun e ⟨_, ec⟩ => ?_
  refine ex_bind (among_ok ⟨c.code, e.2.1, e.2.2⟩ _ _ ec (by omega) (by simp)) fun f ⟨_, fc⟩ => ?_
  refine ex_bind (among_ok ⟨c.code, f.2.1, f.2.2⟩ _ _ fc (by omega) (by simp)) fun g ⟨_, gc⟩ => ?_
  exact ex_bind (among_ok ⟨c.code, g.2.1, g.2.2⟩ _ _ gc (by omega) (by simp)) fun e ⟨_, ec⟩ => ex_some (ec.mono (by omega))
def okR (n : Int) (r : Route) : Prop := (0 ≤ r.Priority ∧ r.Priority ≤ 9) ∧ (0 ≤ r.Target ∧ r.Target < n)
theorem okRts_of {xs : List Route} {n : Int} (hn : n = 1 ∨ n = 2) (hl : xs.length = 8) (h : ∀ r ∈ xs, okR n r) : okRts xs n = true := by
  unfold okRts
  simp only [Bool.and_eq_true, decide_eq_true_eq, beq_iff_eq, List.all_eq_true]
  refine ⟨by omega, by omega, fun i hi => ?_⟩
  have hi := List.mem_range.1 hi
  rw [getD_at hi]
  obtain ⟨h1, h2⟩ := h _ (List.getElem_mem hi)
  unfold okRt
  simp only [Bool.and_eq_true, decide_eq_true_eq]
  rw [w64_id (by omega) (by omega)]
  omega
theorem machine_ok (c : l1Cur) (n : Nat) (h : curI c n) (hn : n ≤ 100000) : ∃ r, M.s_l1Cur_machine c = some r ∧ smM r.1 ∧ curI ⟨c.code, r.2.1, r.2.2⟩ (n + 100000) := by
  unfold M.s_l1Cur_machine
  refine ex_bind (pick_ok c 2 n h (by omega) (by omega)) fun a ⟨a0, _, a1, ac⟩ => ?_
  have a1 := a1 (by omega)
  obtain ⟨N, hN, hN2⟩ : ∃ N : Nat, w64 (1 + a.1) = (N : Int) ∧ (N = 1 ∨ N = 2) := by
    rw [w64_id (by omega) (by omega)]
    exact ⟨(1 + a.1).toNat, by omega, by omega⟩
  rw [hN]
  refine ex_bind (P := fun r : List Route × Int × Int => okRts r.1 (N : Int) = true ∧ curI ⟨c.code, r.2.1, r.2.2⟩ (n + 100)) (while_inv (fun i s => s.1.length = i ∧ s.2.1 = (i : Int) ∧ (∀ r ∈ s.1, okR (N : Int) r) ∧ curI ⟨c.code, s.2.2.1, s.2.2.2⟩ (n + 2 + 4 * i)) _ 8 (by omega) ⟨rfl, rfl, by simp, ac⟩ (fun i s hi hR => ?_) (fun s hR => ?_)) fun b ⟨hb, bc⟩ => ?_
  · obtain ⟨xs, k, u, v⟩ := s
    obtain ⟨h1, h2, h3, hc⟩ := hR
    simp only at h1 h2 h3 hc
    have e0 : k < 8 := by omega
    simp only [e0, decide_true, cond_true]
    left
    obtain ⟨p, hp, p0, _, p1, pc⟩ := pick_ok ⟨c.code, u, v⟩ 10 _ hc (by omega) (by omega)
    have p1 := p1 (by omega)
    obtain ⟨q, hq, q0, _, q1, qc⟩ := pick_ok ⟨c.code, p.2.1, p.2.2⟩ (N : Int) _ pc (by omega) (by omega)
    have q1 := q1 (by omega)
    rw [hp, Option.bind_some, hq, Option.bind_some, gxApp_ok (by simp; omega), Option.bind_some]
    refine ⟨_, rfl, by simp; omega, by simp only [w64_id (z := k + 1) (by omega) (by omega)]; omega, fun r hr => ?_, qc.mono (by omega)⟩
    simp only [List.mem_append, List.mem_singleton] at hr
    rcases hr with hr | rfl
    · exact h3 r hr
    · exact ⟨⟨p0, by simp only; omega⟩, q0, q1⟩
  · obtain ⟨xs, k, u, v⟩ := s
    obtain ⟨h1, h2, h3, hc⟩ := hR
    simp only at h1 h2 h3 hc
    have e0 : ¬ (k < 8) := by omega
    simp only [e0, decide_false, cond_false]
    exact ⟨_, rfl, okRts_of (by omega) h1 h3, hc.mono (by omega)⟩
  have hl8 := (okRts_c hb).2
  rw [(NewMachine_is b.1 (N : Int) (by omega)).1, hb, Option.bind_some, cond_true, Int.toNat_natCast]
  have g0 := new_gm hb
  refine ex_bind (P := fun r : Int × Int × List Bool × List Bool => r.2.2.1.length = 8 ∧ r.2.2.2.length = 8 ∧ curI ⟨c.code, r.1, r.2.1⟩ (n + 200)) (while_inv (fun i s => s.1 = (i : Int) ∧ s.2.2.2.1.length = 8 ∧ s.2.2.2.2.length = 8 ∧ curI ⟨c.code, s.2.1, s.2.2.1⟩ (n + 100 + 4 * i)) _ 8 (by omega) ⟨rfl, by simp [newM], by simp [newM], bc⟩ (fun i s hi hR => ?_) (fun s hR => ?_)) fun d ⟨d1, d2, dc⟩ => ?_
  · obtain ⟨k, u, v, E, A⟩ := s
    obtain ⟨h1, h2, h3, hc⟩ := hR
    simp only at h1 h2 h3 hc
    subst h1
    have e0 : (i : Int) < 8 := by omega
    simp only [e0, decide_true, cond_true]
    left
    obtain ⟨p, hp, pc⟩ := one_ok ⟨c.code, u, v⟩ 4 _ hc (by omega) (by omega)
    obtain ⟨q, hq, qc⟩ := one_ok ⟨c.code, p.2.1, p.2.2⟩ 2 _ pc (by omega) (by omega)
    rw [hp, Option.bind_some, gxIdx_nat (show i < E.length by omega), Option.bind_some, hq, Option.bind_some, gxIdx_nat (show i < A.length by omega), Option.bind_some]
    exact ⟨_, rfl, by simp only [w64_id (z := (i : Int) + 1) (by omega) (by omega)]; omega, by simp; omega, by simp; omega, qc.mono (by omega)⟩
  · obtain ⟨k, u, v, E, A⟩ := s
    obtain ⟨h1, h2, h3, hc⟩ := hR
    simp only at h1 h2 h3 hc
    have e0 : ¬ (k < 8) := by omega
    simp only [e0, decide_false, cond_false]
    exact ⟨_, rfl, h2, h3, hc.mono (by omega)⟩
  have g1 : GM ⟨(newM b.1 N).Routes, d.2.2.1, d.2.2.2, (newM b.1 N).Cpus⟩ := ⟨g0.rts, d1, d2, g0.cpu⟩
  refine ex_bind (pick_ok ⟨c.code, d.1, d.2.1⟩ 14 _ dc (by omega) (by omega)) fun e ⟨e0, _, e1, ec⟩ => ?_
  have e1 := e1 (by omega)
  refine ex_bind (P := fun r : Int × Int × List Route × List Bool × List Bool × List Interface => GM ⟨r.2.2.1, r.2.2.2.1, r.2.2.2.2.1, r.2.2.2.2.2⟩ ∧ curI ⟨c.code, r.1, r.2.1⟩ (n + 1000)) (while_down (fun s => s.1) (fun i s => GM ⟨s.2.2.2.1, s.2.2.2.2.1, s.2.2.2.2.2.1, s.2.2.2.2.2.2⟩ ∧ curI ⟨c.code, s.2.1, s.2.2.1⟩ (n + 202 + 20 * i)) _ e.1 (by omega) rfl ⟨g1, ec⟩ (fun i s hi hs hR => ?_) (fun i s hi hs hR => ?_)) fun f ⟨hf, fc⟩ => ?_
  · obtain ⟨k, u, v, R, E, A, C⟩ := s
    obtain ⟨hx, hc⟩ := hR
    simp only at hx hc hs
    have e0 : k > 0 := by omega
    simp only [e0, decide_true, cond_true]
    have hcl := (gm_cpus hx).2.1
    refine ex_bind (machStep_ok ⟨c.code, u, v⟩ _ _ hc (by omega) (by omega)) fun p pc => ?_
    rw [s_okSt (m := ⟨R, E, A, C⟩) (by omega), Option.bind_some]
    refine ex_bind (P := fun r : List Route × List Bool × List Bool × List Interface => GM ⟨r.1, r.2.1, r.2.2.1, r.2.2.2⟩) (ex_bif (fun hok => ?_) (fun _ => ex_some hx)) fun r hr => ex_some ⟨_, rfl, by simp only [w64_id (z := k - 1) (by omega) (by omega)]; omega, hr, pc.mono (by omega)⟩
    obtain ⟨r, b1, b2, b3⟩ := s_make hx hok
    rw [b1, Option.bind_some]
    refine ex_bind (P := fun r : List Route × List Bool × List Bool × List Interface => GM ⟨r.1, r.2.1, r.2.2.1, r.2.2.2⟩) (ex_bif (fun ht => ?_) (fun _ => ex_some hx)) fun r hr => ex_some hr
    rw [b2] at ht
    obtain ⟨p2, hp2⟩ := Option.isSome_iff_exists.1 ht
    refine ex_some ?_
    have := make_ok hx hok hp2
    rw [← (b3 p2 hp2).1] at this
    exact this
  · obtain ⟨k, u, v, R, E, A, C⟩ := s
    obtain ⟨hx, hc⟩ := hR
    simp only at hx hc hs
    have e0 : ¬ (k > 0) := by omega
    simp only [e0, decide_false, cond_false]
    exact ⟨_, rfl, hx, hc.mono (by omega)⟩
  obtain ⟨⟨l1, l2, l3, l4⟩, l5⟩ := gm_sm hf
  have hcl := gm_cpus hf
  have hra := hf.ra
  simp only at l1 l2 l3 l4 l5 hcl hra
  refine ex_bind (pick_ok ⟨c.code, f.1, f.2.1⟩ 24 _ fc (by omega) (by omega)) fun p ⟨_, _, _, pc⟩ => ?_
  refine ex_bind (P := fun r : Int × Int × List Bool × List Interface × List Route × List Interface => (r.2.2.1.length ≤ 9 ∧ r.2.2.2.2.1.length ≤ 8 ∧ r.2.2.2.1.length ≤ 3 ∧ ∀ x ∈ r.2.2.2.1, smallI x) ∧ curI ⟨c.code, r.1, r.2.1⟩ (n + 100000)) ?_ fun r ⟨⟨r1, r2, r3, r4⟩, rc⟩ => ex_some ⟨⟨⟨r2, l2, r1, r3⟩, r4⟩, rc⟩
  refine ex_bif (fun _ => ?_) (fun _ => ?_)
  · refine ex_bind (pick_ok ⟨c.code, p.2.1, p.2.2⟩ 8 _ pc (by omega) (by omega)) fun q ⟨q0, _, q1, qc⟩ => ?_
    have q1 := q1 (by omega)
    refine ex_bind (among_ok ⟨c.code, q.2.1, q.2.2⟩ _ _ qc (by omega) (by simp)) fun q2 ⟨_, qc2⟩ => ?_
    refine ex_bind (pick_ok ⟨c.code, q2.2.1, q2.2.2⟩ 3 _ qc2 (by omega) (by omega)) fun q3 ⟨_, _, _, qc3⟩ => ?_
    obtain ⟨k, hk⟩ : ∃ k : Nat, q.1 = k := ⟨q.1.toNat, by omega⟩
    rw [hk, gxIdx_nat (show k < f.2.2.1.length by omega), Option.bind_some]
    exact ex_some ⟨⟨l3, by simp only [List.length_set]; exact l1, l4, l5⟩, qc3.mono (by omega)⟩
  refine ex_bind (P := fun r : Int × Int × List Bool × List Interface × List Interface => (r.2.2.1.length ≤ 9 ∧ r.2.2.2.1.length ≤ 3 ∧ ∀ x ∈ r.2.2.2.1, smallI x) ∧ curI ⟨c.code, r.1, r.2.1⟩ (n + 100000)) ?_ fun r ⟨⟨r1, r2, r3⟩, rc⟩ => ex_some ⟨⟨r1, l1, r2, r3⟩, rc⟩
  refine ex_bif (fun _ => ?_) (fun _ => ?_)
  · rw [gxApp_ok (by simp; omega), Option.bind_some]
    exact ex_some ⟨⟨by simp; omega, l4, l5⟩, pc.mono (by omega)⟩
  refine ex_bind (P := fun r : Int × Int × List Interface × List Interface => (r.2.2.1.length ≤ 3 ∧ ∀ x ∈ r.2.2.1, smallI x) ∧ curI ⟨c.code, r.1, r.2.1⟩ (n + 100000)) ?_ fun r ⟨⟨r2, r3⟩, rc⟩ => ex_some ⟨⟨l3, r2, r3⟩, rc⟩
  refine ex_bif (fun _ => ?_) (fun _ => ?_)
  · refine ex_bind (iface_ok ⟨c.code, p.2.1, p.2.2⟩ _ pc (by omega)) fun q ⟨qs, qc⟩ => ?_
    have e0 : gxIdx f.2.2.2.2.2 0 = some (f.2.2.2.2.2[0]'(by omega)) := gxIdx_nat (i := 0) (by omega)
    rw [e0, Option.bind_some]
    refine ex_some ⟨⟨by simp only [List.length_set]; exact l4, fun x hx => ?_⟩, qc.mono (by omega)⟩
    rcases List.mem_or_eq_of_mem_set hx with hx | rfl
    · exact l5 x hx
    · exact qs
  refine ex_bind (P := fun r : Int × Int × List Interface => (r.2.2.length ≤ 3 ∧ ∀ x ∈ r.2.2, smallI x) ∧ curI ⟨c.code, r.1, r.2.1⟩ (n + 100000)) (ex_bif (fun _ => ?_) (fun _ => ex_some ⟨⟨l4, l5⟩, pc.mono (by omega)⟩)) fun r hr => ex_some hr
  refine ex_bind (iface_ok ⟨c.code, p.2.1, p.2.2⟩ _ pc (by omega)) fun q ⟨qs, qc⟩ => ?_
  rw [gxApp_ok (by simp; omega), Option.bind_some]
  refine ex_some ⟨⟨by simp; omega, fun x hx => ?_⟩, qc.mono (by omega)⟩
  simp only [List.mem_append, List.mem_singleton] at hx
  rcases hx with hx | rfl
  · exact l5 x hx
  · exact qs
theorem cpuOf_ok (c : l1Cur) (m : Machine) (n : Nat) (h : curI c n) (hn : n ≤ 10000000) (hm : m.Cpus.length ≤ 1048576) : ∃ r, M.s_l1Cur_cpuOf c m = some r ∧ curI ⟨c.code, r.2.1, r.2.2⟩ (n + 10) := by
  unfold M.s_l1Cur_cpuOf
  refine ex_bind (one_ok c 20 n h (by omega) (by omega)) fun a ac => ?_
  refine ex_bif (fun _ => ?_) (fun _ => ?_)
  · exact ex_bind (among_ok ⟨c.code, a.2.1, a.2.2⟩ _ _ ac (by omega) (by simp)) fun b ⟨_, bc⟩ => ex_some (bc.mono (by omega))
  rw [most_is, Option.bind_some]
  exact ex_bind (pick_ok ⟨c.code, a.2.1, a.2.2⟩ _ _ ac (by omega) (by split <;> omega)) fun b ⟨_, _, _, bc⟩ => ex_some (bc.mono (by omega))
theorem cur0M {code : List Int} (h : okL okU code) : curI (⟨code, 0, 0⟩ : l1Cur) 0 := ⟨h, by simp, by simp⟩
theorem drawStep_ok (code : List Int) (h : okL okU code) : ∃ r, M.s_DrawStepMachine code = some r ∧ smM r.1 := by
  unfold M.s_DrawStepMachine
  refine ex_bind (machine_ok ⟨code, 0, 0⟩ 0 (cur0M h) (by omega)) fun a ⟨a1, ac⟩ => ?_
  exact ex_bind (machStep_ok ⟨code, a.2.1, a.2.2⟩ _ _ ac (by omega) (by have := a1.1; omega)) fun b _ => ex_some a1
theorem drawPend_ok (code : List Int) (h : okL okU code) : ∃ r, M.s_DrawPendingOn code = some r ∧ smM r.1 := by
  unfold M.s_DrawPendingOn
  refine ex_bind (machine_ok ⟨code, 0, 0⟩ 0 (cur0M h) (by omega)) fun a ⟨a1, ac⟩ => ?_
  exact ex_bind (cpuOf_ok ⟨code, a.2.1, a.2.2⟩ _ _ ac (by omega) (by have := a1.1; omega)) fun b _ => ex_some a1
theorem drawDrain_ok (code : List Int) (h : okL okU code) : ∃ r, M.s_DrawDrainCpu code = some r ∧ smM r.1 := by
  unfold M.s_DrawDrainCpu
  exact ex_bind (drawPend_ok code h) fun a a1 => ex_some a1
theorem routes_ok (c : l1Cur) (x : Int) (n : Nat) (h : curI c n) (hn : n ≤ 100000) (hx : x ≤ 1000) : ∃ r, M.s_l1Cur_routes c x = some r ∧ r.1.length ≤ 8 := by
  unfold M.s_l1Cur_routes
  refine ex_bind (P := fun r : List Route × Int × Int => r.1.length = 8 ∧ curI ⟨c.code, r.2.1, r.2.2⟩ (n + 100)) (while_inv (fun i s => s.1.length = i ∧ s.2.1 = (i : Int) ∧ curI ⟨c.code, s.2.2.1, s.2.2.2⟩ (n + 4 * i)) _ 8 (by omega) ⟨rfl, rfl, h⟩ (fun i s hi hR => ?_) (fun s hR => ?_)) fun b ⟨hb, bc⟩ => ?_
  · obtain ⟨xs, k, u, v⟩ := s
    obtain ⟨h1, h2, hc⟩ := hR
    simp only at h1 h2 hc
    have e0 : k < 8 := by omega
    simp only [e0, decide_true, cond_true]
    left
    obtain ⟨p, hp, p0, _, p1, pc⟩ := pick_ok ⟨c.code, u, v⟩ 10 _ hc (by omega) (by omega)
    obtain ⟨q, hq, q0, _, q1, qc⟩ := pick_ok ⟨c.code, p.2.1, p.2.2⟩ (if 1 > x then 1 else x) _ pc (by omega) (by split <;> omega)
    rw [hp, Option.bind_some, most_is, Option.bind_some, hq, Option.bind_some, gxApp_ok (by simp; omega), Option.bind_some]
    exact ⟨_, rfl, by simp; omega, by simp only [w64_id (z := k + 1) (by omega) (by omega)]; omega, qc.mono (by omega)⟩
  · obtain ⟨xs, k, u, v⟩ := s
    obtain ⟨h1, h2, hc⟩ := hR
    simp only at h1 h2 hc
    have e0 : ¬ (k < 8) := by omega
    simp only [e0, decide_false, cond_false]
    exact ⟨_, rfl, h1, hc.mono (by omega)⟩
  refine ex_bind (pick_ok ⟨c.code, b.2.1, b.2.2⟩ 32 _ bc (by omega) (by omega)) fun p ⟨_, _, _, pc⟩ => ?_
  refine ex_bind (P := fun r : List Route × Int × Int × List Route => r.1.length ≤ 8) ?_ fun r hr => ex_some hr
  refine ex_bif (fun _ => ?_) (fun _ => ?_)
  · have e7 : gxSlice b.1 0 7 = some (b.1.take 7) := gxSlice_take (k := 7) (by omega)
    rw [e7, Option.bind_some]
    exact ex_some (by simp; omega)
  refine ex_bind (P := fun r : Int × Int × List Route => r.2.2.length ≤ 8) (ex_bif (fun _ => ?_) (fun _ => ex_some (by simp only; omega))) fun r hr => ex_some hr
  refine ex_bind (among_ok ⟨c.code, p.2.1, p.2.2⟩ _ _ pc (by omega) (by simp)) fun q ⟨_, qc⟩ => ?_
  refine ex_bind (among_ok ⟨c.code, q.2.1, q.2.2⟩ _ _ qc (by omega) (by simp)) fun q2 ⟨_, qc2⟩ => ?_
  have e0 : gxIdx b.1 0 = some (b.1[0]'(by omega)) := gxIdx_nat (i := 0) (by omega)
  rw [e0, Option.bind_some]
  exact ex_some (by simp; omega)
theorem drawNew_ok (code : List Int) (h : okL okU code) : ∃ r, M.s_DrawNewMachine code = some r ∧ r.1.length ≤ 8 := by
  unfold M.s_DrawNewMachine
  refine ex_bind (among_ok ⟨code, 0, 0⟩ [1, 2, 2, 1, 0, 3, 2] 0 (cur0M h) (by omega) (by simp)) fun a ⟨a1, ac⟩ => ?_
  refine ex_bind (routes_ok ⟨code, a.2.1, a.2.2⟩ a.1 _ ac (by omega) ?_) fun b hb => ex_some hb
  simp only [List.mem_cons, List.not_mem_nil, or_false] at a1
  omega
end Go.Proofs.YtllhajkgkghhdaaGreat
set_option linter.unusedVariables false
set_option linter.unusedSimpArgs false
set_option maxHeartbeats 4000000
namespace Go.Proofs.YtllhajkgkghhdaaGreat
open Go.Gx
theorem sortW_cons {q r : Queue} (h : GP q) {w : Waiter} (hp : (w :: pendW r).Perm (pendW q)) (hle : ∀ v ∈ pendW q, keyW w ≤ keyW v) : sortW q = w :: sortW r := by
  refine (sortW_is h (L := w :: sortW r) ?_ (((isortL_perm _ _).cons _).trans hp)).symm
  have ho : ordered keyW (sortW r) := isortL_ord keyW _
  unfold ordered at ho ⊢
  refine List.pairwise_cons.2 ⟨fun v hv => hle v (hp.mem_iff.1 (List.mem_cons_of_mem _ ((isortL_perm _ _).mem_iff.1 hv))), ho⟩
theorem tak_perm {x : Interface} (h : GI x) (hc : canTI x = true) : (wOf (topX x.Queue.Slots) :: pendW (takI x).Queue).Perm (pendW x.Queue) := by
  obtain ⟨j, hj, _, e0, e, h1, _, _⟩ := canT_at (gi_slots h) hc
  obtain ⟨c1, c2⟩ := set_cut hj (setSt x.Queue.Slots[j] 2)
  have p1 := pend_cut (x.Queue.Slots.take j) (x.Queue.Slots.drop (j + 1)) x.Queue.Slots[j] x.Queue.Waiting
  have p2 := pend_cut (x.Queue.Slots.take j) (x.Queue.Slots.drop (j + 1)) (setSt x.Queue.Slots[j] 2) x.Queue.Waiting
  rw [← c1] at p1
  rw [← c2] at p2
  have n1 : isPd x.Queue.Slots[j] = true := by unfold isPd; simp [h1]
  have n2 : isPd (setSt x.Queue.Slots[j] 2) = false := rfl
  rw [n1] at p1
  rw [n2] at p2
  simp only [cond_true, cond_false, List.nil_append, List.cons_append] at p1 p2
  unfold takI
  rw [e, e0]
  exact (p2.cons _).trans p1.symm
theorem top_least {rs : List Route} {k : Int} {x : Interface} (h : GI x) (f : fitOk rs k x = true) (hc : canTI x = true) : ∀ v ∈ pendW x.Queue, keyW (wOf (topX x.Queue.Slots)) ≤ keyW v := by
  obtain ⟨j, hj, _, e0, _, h1, _, h3⟩ := canT_at (gi_slots h) hc
  have f := (fit_iff.1 f).1
  intro v hv
  rw [e0]
  unfold pendW at hv
  rcases List.mem_append.1 hv with hv | hv
  · rcases h.q.2 with hn | ⟨_, hl⟩
    · rw [hn] at hv
      cases hv
    · have := hl _ (List.getElem_mem hj) h1 v hv
      omega
  · obtain ⟨s, hs, rfl⟩ := List.mem_map.1 hv
    obtain ⟨s1, s2⟩ := List.mem_filter.1 hs
    obtain ⟨i, hi, rfl⟩ := List.getElem_of_mem s1
    refine h3 i hi ?_
    have := (f _ (List.getElem_mem hi)).1
    unfold isPd at s2
    simp only [Bool.or_eq_true, beq_iff_eq] at s2
    omega
theorem pendI_take {rs : List Route} {k : Int} {x : Interface} (h : GI x) (f : fitOk rs k x = true) (hc : canTI x = true) : pendI x.Queue = (topX x.Queue.Slots).Irq :: pendI (takI x).Queue := by
  unfold pendI
  rw [sortW_cons h.q.1 (tak_perm h hc) (top_least h f hc)]
  rfl
theorem lea_perm {x : Interface} (h : GI x) (h0 : x.Stack.length ≠ 0) : (pendW (leaI x).Queue).Perm (pendW x.Queue) := by
  obtain ⟨hc, _⟩ := last_can h h0
  obtain ⟨j, hj, _, hst, _, e⟩ := canE_at (gi_slots h) hc
  have hk := (settleQ_ok (gp_end h.q.1 hc)).1.pend
  unfold leaI endQ
  refine hk.trans ?_
  obtain ⟨c1, c2⟩ := set_cut hj (endF x.Queue.Slots[j])
  have p1 := pend_cut (x.Queue.Slots.take j) (x.Queue.Slots.drop (j + 1)) x.Queue.Slots[j] x.Queue.Waiting
  have p2 := pend_cut (x.Queue.Slots.take j) (x.Queue.Slots.drop (j + 1)) (endF x.Queue.Slots[j]) x.Queue.Waiting
  rw [← c1] at p1
  rw [← c2] at p2
  rw [e]
  refine p2.trans (List.Perm.trans ?_ p1.symm)
  have hb : (bif isPd (endF x.Queue.Slots[j]) then [wOf (endF x.Queue.Slots[j])] else []) = (bif isPd x.Queue.Slots[j] then [wOf x.Queue.Slots[j]] else []) := by
    unfold endF isPd setSt
    rcases hst with hs | hs
    · simp [hs, gS]
    · simp [hs, wOf]
  rw [hb]
theorem pendI_lea {x : Interface} (h : GI x) (h0 : x.Stack.length ≠ 0) : pendI (leaI x).Queue = pendI x.Queue := by
  unfold pendI
  rw [sortW_perm h.q.1 (lea_perm h h0)]
theorem lea_tak_stack (x : Interface) : (leaI (takI x)).Stack = x.Stack := by
  unfold leaI takI
  simp
theorem drain_pend (c : Int) : ∀ (n : Nat) {m : Machine} {t : List Int}, GM m → inR c 0 ((m.Cpus.length : Int) - 1) = true →
    (drainF c n m t).2 ++ pendI (atC (drainF c n m t).1 c).Queue = t ++ pendI (atC m c).Queue ∧ (atC (drainF c n m t).1 c).Stack = (atC m c).Stack ∧ (drainF c n m t).1.Cpus.length = m.Cpus.length
  | 0, m, t, h, hc => ⟨rfl, rfl, rfl⟩
  | n + 1, m, t, h, hc => by
    unfold drainF
    cases ht : canTI (atC m c) with
    | false => exact ⟨rfl, rfl, rfl⟩
    | true =>
      obtain ⟨_, g, f, hl, hcc⟩ := cpu_at h hc
      obtain ⟨q1, q2, q3⟩ := rnd_ok h hc ht
      obtain ⟨i1, i2, i3⟩ := drain_pend c n (t := t ++ [(topX (atC m c).Queue.Slots).Irq]) q1 q2
      have ea : atC (rndC m c) c = leaI (takI (atC m c)) := at_setC h hc _
      have h0 := tak_stack (atC m c)
      simp only [cond_true]
      refine ⟨?_, ?_, ?_⟩
      · rw [i1, ea, pendI_lea (takI_ok g ht) h0, pendI_take g f ht]
        simp only [List.append_assoc, List.cons_append, List.nil_append]
      · rw [i2, ea, lea_tak_stack]
      · rw [i3]
        unfold rndC setC
        simp only [List.length_set]
theorem sync_stack {m : Machine} (h : GM m) {c : Int} (hc : inR c 0 ((m.Cpus.length : Int) - 1) = true) : (atC (syncM m) c).Stack = (atC m c).Stack := by
  obtain ⟨_, _, _, hl, _⟩ := cpu_at h hc
  exact ((sync_ok h 8 (Nat.le_refl _)).cpu _ hl).2.2
theorem sync_in {m : Machine} {c : Int} (hc : inR c 0 ((m.Cpus.length : Int) - 1) = true) : inR c 0 (((syncM m).Cpus.length : Int) - 1) = true := by
  have : (syncM m).Cpus.length = m.Cpus.length := sync_len m 8
  rw [this]
  exact hc
def stepF (m : Machine) (s : MachStep) : Machine × Int × Bool := bif goodMc m && okSt m s then (match makeF m s with | none => (zM, 0, false) | some p => (p.1, p.2, true)) else (zM, 0, false)
theorem StepMachine_is (m : Machine) (s : MachStep) (h : fitM m) : M.s_StepMachine m s = some (stepF m s) ∧ M.i_StepMachine m s = some (stepF m s) := by
  have h4 := h.2.2.2.1
  unfold M.s_StepMachine M.i_StepMachine stepF
  rw [s_goodMc m h, i_goodMc m h, Option.bind_some, Option.bind_some]
  cases hg : goodMc m with
  | false => exact ⟨rfl, rfl⟩
  | true =>
    have g := (goodMc_iff m).1 hg
    simp only [Bool.not_true, cond_false]
    rw [s_okSt h4, i_okSt h4, Option.bind_some, Option.bind_some]
    cases hs : okSt m s with
    | false => exact ⟨rfl, rfl⟩
    | true =>
      obtain ⟨r1, a1, a2, a3⟩ := s_make g hs
      obtain ⟨r2, b1, b2, b3⟩ := i_make g hs
      simp only [Bool.not_true, Option.bind_some, cond_false, a1, b1, a2, b2, Bool.and_true, cond_true]
      cases hz : makeF m s with
      | none => exact ⟨rfl, rfl⟩
      | some p =>
        obtain ⟨c1, c2⟩ := a3 p hz
        obtain ⟨d1, d2⟩ := b3 p hz
        simp only [Option.isSome_some, Bool.not_true, cond_false, c1, c2, d1, d2]
        constructor <;> first | rfl | trivial
theorem step_cases (m : Machine) (s : MachStep) : stepF m s = (zM, 0, false) ∨ ∃ p, GM m ∧ okSt m s = true ∧ makeF m s = some p ∧ stepF m s = (p.1, p.2, true) := by
  unfold stepF
  cases hg : goodMc m with
  | false => exact Or.inl rfl
  | true => cases hs : okSt m s with
    | false => exact Or.inl rfl
    | true => cases hz : makeF m s with
      | none => exact Or.inl rfl
      | some p => exact Or.inr ⟨p, (goodMc_iff m).1 hg, rfl, rfl, rfl⟩
def inC (m : Machine) (c : Int) : Bool := inR c 0 ((m.Cpus.length : Int) - 1)
def pndF (m : Machine) (c : Int) : List Int × Bool := bif goodMc m && inC m c then (pendI (atC m c).Queue, true) else ([], false)
theorem PendingOn_is (m : Machine) (c : Int) (h : fitM m) : M.s_PendingOn m c = some (pndF m c) ∧ M.i_PendingOn m c = some (pndF m c) := by
  unfold M.s_PendingOn M.i_PendingOn M.s_l21Cpu M.i_Machine_hasCpu pndF
  have h4 := h.2.2.2.1
  rw [s_goodMc m h, i_goodMc m h]
  simp only [s_in, i_in, Option.bind_some, w64_id (z := (m.Cpus.length : Int) - 1) (by omega) (by omega)]
  cases hg : goodMc m with
  | false => exact ⟨rfl, rfl⟩
  | true =>
    have hG := (goodMc_iff m).1 hg
    have ei : (decide (0 ≤ c) && decide (c ≤ (m.Cpus.length : Int) - 1)) = inC m c := rfl
    rw [ei]
    cases hc : inC m c with
    | false => exact ⟨rfl, rfl⟩
    | true =>
      obtain ⟨e, g, _, _, _⟩ := cpu_at hG hc
      have e1 : M.s_l9Pending (⟨(atC m c).Queue.Slots, (atC m c).Queue.Waiting⟩ : Queue) = some (pendI (atC m c).Queue) := s_pending g.q.1
      have e2 : M.i_pendingIrqs (⟨(atC m c).Queue.Slots, (atC m c).Queue.Waiting⟩ : Queue) = some (pendI (atC m c).Queue) := i_pending g.q.1
      simp only [Bool.not_true, cond_true, cond_false, Option.bind_some, e, e1, e2, Bool.and_true]
      constructor <;> first | rfl | trivial
def runnF (m : Machine) (c : Int) : List Int × Bool := bif goodMc m && inC m c then ((atC m c).Stack, true) else ([], false)
theorem RunningOn_is (m : Machine) (c : Int) (h : fitM m) : M.s_RunningOn m c = some (runnF m c) ∧ M.i_RunningOn m c = some (runnF m c) := by
  unfold M.s_RunningOn M.i_RunningOn M.s_l21Cpu M.i_Machine_hasCpu runnF
  have h4 := h.2.2.2.1
  rw [s_goodMc m h, i_goodMc m h]
  simp only [s_in, i_in, Option.bind_some, w64_id (z := (m.Cpus.length : Int) - 1) (by omega) (by omega)]
  cases hg : goodMc m with
  | false => exact ⟨rfl, rfl⟩
  | true =>
    have hG := (goodMc_iff m).1 hg
    have ei : (decide (0 ≤ c) && decide (c ≤ (m.Cpus.length : Int) - 1)) = inC m c := rfl
    rw [ei]
    cases hc : inC m c with
    | false => exact ⟨rfl, rfl⟩
    | true =>
      obtain ⟨e, g, _, _, _⟩ := cpu_at hG hc
      have hst := gi_len g
      have ho : M.s_l1Own (atC m c).Stack = some (atC m c).Stack := by
        unfold M.s_l1Own
        rw [gxApp_ok (by simp; omega)]
        rfl
      have hcp : M.i_copyInts (atC m c).Stack = some (atC m c).Stack := by
        unfold M.i_copyInts
        rw [gxApp_ok (by simp; omega)]
        rfl
      simp only [Bool.not_true, cond_true, cond_false, Option.bind_some, e, ho, hcp, Bool.and_true]
      constructor <;> first | rfl | trivial
def drnF (m : Machine) (c : Int) : Machine × List Int × Bool := bif goodMc m && inC m c then ((drainF c 13 (syncM m) []).1, (drainF c 13 (syncM m) []).2, true) else (zM, [], false)
theorem DrainCpu_is (m : Machine) (c : Int) (h : fitM m) : M.s_DrainCpu m c = some (drnF m c) ∧ M.i_DrainCpu m c = some (drnF m c) := by
  have h4 := h.2.2.2.1
  unfold M.s_DrainCpu M.i_DrainCpu M.s_l21Cpu M.i_Machine_hasCpu drnF
  rw [s_goodMc m h, i_goodMc m h]
  simp only [s_in, i_in, Option.bind_some, w64_id (z := (m.Cpus.length : Int) - 1) (by omega) (by omega)]
  cases hg : goodMc m with
  | false => exact ⟨rfl, rfl⟩
  | true =>
    have g := (goodMc_iff m).1 hg
    have ei : (decide (0 ≤ c) && decide (c ≤ (m.Cpus.length : Int) - 1)) = inC m c := rfl
    rw [ei]
    cases hc : inC m c with
    | false => exact ⟨rfl, rfl⟩
    | true =>
      have hs := syncM_ok g
      have hc2 := sync_in hc
      obtain ⟨_, gx, _, _, _⟩ := cpu_at hs hc2
      have hp := pendW_len gx.q.1
      have d1 := drain_s c 13 gxFuel (m := syncM m) (t := []) hs hc2 (by omega) (by unfold gxFuel; omega) (by simp)
      have d2 := drain_i c (syncM m).Routes (syncM m).Enabled (syncM m).Raised 13 gxFuel (m := syncM m) (t := []) rfl rfl rfl hs hc2 (by omega) (by unfold gxFuel; omega) (by simp)
      simp only [Bool.not_true, cond_false, cond_true, Option.bind_some, s_syncM g, i_ownM h, i_syncM g, Bool.and_true]
      refine ⟨?_, ?_⟩
      · rw [d1]
        rfl
      · have d3 := d2
        unfold syncM at d3
        simp only at d3
        rw [d3]
        rfl
theorem pnd_at {m : Machine} (h : GM m) {c : Int} (hc : inC m c = true) : pndF m c = (pendI (atC m c).Queue, true) := by
  unfold pndF
  rw [(goodMc_iff m).2 h, hc]
  rfl
theorem runn_at {m : Machine} (h : GM m) {c : Int} (hc : inC m c = true) : runnF m c = ((atC m c).Stack, true) := by
  unfold runnF
  rw [(goodMc_iff m).2 h, hc]
  rfl
theorem drn_at {m : Machine} (h : GM m) {c : Int} (hc : inC m c = true) : drnF m c = ((drainF c 13 (syncM m) []).1, (drainF c 13 (syncM m) []).2, true) := by
  unfold drnF
  rw [(goodMc_iff m).2 h, hc]
  rfl
theorem drn_cases (m : Machine) (c : Int) : drnF m c = (zM, [], false) ∨ (GM m ∧ inC m c = true) := by
  unfold drnF
  cases hg : goodMc m with
  | false => exact Or.inl rfl
  | true => cases hc : inC m c with
    | false => exact Or.inl rfl
    | true => exact Or.inr ⟨(goodMc_iff m).1 hg, rfl⟩
theorem IsIdle_is (m : Machine) (h : fitM m) : M.s_IsIdle m = some (bif goodMc m then (idleM m, true) else (false, false)) ∧ M.i_IsIdle m = some (bif goodMc m then (idleM m, true) else (false, false)) := by
  unfold M.s_IsIdle M.i_IsIdle
  rw [s_goodMc m h, i_goodMc m h, Option.bind_some, Option.bind_some]
  cases hg : goodMc m with
  | false => exact ⟨rfl, rfl⟩
  | true =>
    have hG := (goodMc_iff m).1 hg
    simp only [Bool.not_true, cond_false, s_idle hG, i_idle hG, Option.bind_some]
    exact ⟨rfl, rfl⟩
theorem vInts_refl (xs : List Int) (h : xs.length ≤ 1048576) : M.l_vInts xs xs = some true := by
  unfold M.l_vInts
  rw [while_run (fun i => (i : Int)) (Sum.inl ()) xs.length (by simp) (by omega)]
  · simp
  · intro i hi
    have h1 : ((i : Int) < (xs.length : Int)) := by omega
    simp [h1, gxIdx_nat hi, w64_succ (show i ≤ 4611686018427387904 by omega)]
  · simp
theorem vBools_refl (xs : List Bool) (h : xs.length ≤ 1048576) : M.l_vBools xs xs = some true := by
  unfold M.l_vBools
  rw [while_run (fun i => (i : Int)) (Sum.inl ()) xs.length (by simp) (by omega)]
  · simp
  · intro i hi
    have h1 : ((i : Int) < (xs.length : Int)) := by omega
    simp [h1, gxIdx_nat hi, w64_succ (show i ≤ 4611686018427387904 by omega)]
  · simp
theorem vRoutes_refl (xs : List Route) (h : xs.length ≤ 1048576) : M.l_vRoutes xs xs = some true := by
  unfold M.l_vRoutes
  rw [while_run (fun i => (i : Int)) (Sum.inl ()) xs.length (by simp) (by omega)]
  · simp
  · intro i hi
    have h1 : ((i : Int) < (xs.length : Int)) := by omega
    simp [h1, gxIdx_nat hi, w64_succ (show i ≤ 4611686018427387904 by omega)]
  · simp
theorem vSlots_refl (xs : List Slot) (h : xs.length ≤ 1048576) : M.l_vSlots xs xs = some true := by
  unfold M.l_vSlots
  rw [while_run (fun i => (i : Int)) (Sum.inl ()) xs.length (by simp) (by omega)]
  · simp
  · intro i hi
    have h1 : ((i : Int) < (xs.length : Int)) := by omega
    simp [h1, gxIdx_nat hi, w64_succ (show i ≤ 4611686018427387904 by omega)]
  · simp
theorem vWaiters_refl (xs : List Waiter) (h : xs.length ≤ 1048576) : M.l_vWaiters xs xs = some true := by
  unfold M.l_vWaiters
  rw [while_run (fun i => (i : Int)) (Sum.inl ()) xs.length (by simp) (by omega)]
  · simp
  · intro i hi
    have h1 : ((i : Int) < (xs.length : Int)) := by omega
    simp [h1, gxIdx_nat hi, w64_succ (show i ≤ 4611686018427387904 by omega)]
  · simp
theorem vFace_refl (x : Interface) (h : fitIf x) : M.l_vFace x x = some true := by
  obtain ⟨h1, h2, h3⟩ := h
  unfold M.l_vFace M.l_vQueue
  simp only [vInts_refl _ h1, vSlots_refl _ h2, vWaiters_refl _ h3, Option.bind_some, beq_self_eq_true, cond_true]
theorem vMachine_refl (m : Machine) (h : fitM m) : M.l_vMachine m m = some true := by
  obtain ⟨h1, h2, h3, h4, h5, _⟩ := h
  unfold M.l_vMachine
  simp only [vRoutes_refl _ h1, vBools_refl _ h2, vBools_refl _ h3, Option.bind_some, bne_self_eq_false, Bool.not_true, cond_false]
  rw [while_run (fun i => (i : Int)) (Sum.inl ()) m.Cpus.length (by simp) (by omega)]
  · simp
  · intro i hi
    have e0 : ((i : Int) < (m.Cpus.length : Int)) := by omega
    have e1 : M.l_vFace (⟨m.Cpus[i].Mask, m.Cpus[i].Stack, (⟨m.Cpus[i].Queue.Slots, m.Cpus[i].Queue.Waiting⟩ : Queue)⟩ : Interface) (⟨m.Cpus[i].Mask, m.Cpus[i].Stack, (⟨m.Cpus[i].Queue.Slots, m.Cpus[i].Queue.Waiting⟩ : Queue)⟩ : Interface) = some true := vFace_refl m.Cpus[i] (h5 _ (List.getElem_mem hi))
    simp only [e0, decide_true, cond_true, gxIdx_nat hi, Option.bind_some, e1, Bool.not_true, cond_false, w64_succ (show i ≤ 4611686018427387904 by omega)]
  · simp
end Go.Proofs.YtllhajkgkghhdaaGreat
set_option linter.unusedVariables false
set_option linter.unusedSimpArgs false
set_option maxHeartbeats 4000000
namespace Go.Proofs.YtllhajkgkghhdaaGreat
open Go.Gx
theorem i_good {m : Machine} (h : GM m) : M.i_IsMachine m = some true := by
  rw [i_goodMc m (gm_fit h), (goodMc_iff m).2 h]
theorem step_fit {m : Machine} (s : MachStep) (h : fitM m) : fitM (stepF m s).1 := by
  rcases step_cases m s with e | ⟨p, g, hs, hz, e⟩
  · rw [e]
    exact zM_fit
  · rw [e]
    exact gm_fit (make_ok g hs hz)
theorem take_is {m : Machine} {s : MachStep} {p : Machine × Int} (g : GM m) (hs : okSt m s = true) (hz : makeF m s = some p) (hk : (s.Kind == 3) = true) : inC m s.Cpu = true ∧ canTI (atC m s.Cpu) = true ∧ p = (setC m s.Cpu (takI (atC m s.Cpu)), (topX (atC m s.Cpu).Queue.Slots).Irq) := by
  have hk : s.Kind = 3 := by simpa using hk
  unfold okSt at hs
  unfold makeF at hz
  rw [hk] at hs hz
  have k1 : ((3 : Int) == 1) = false := rfl
  have k2 : ((3 : Int) == 2) = false := rfl
  have k3 : ((3 : Int) == 3) = true := rfl
  simp only [k1, k2, k3, cond_false, cond_true, Bool.true_or, Bool.and_eq_true] at hs hz
  refine ⟨hs.2.1, ?_⟩
  cases hc : canTI (atC m s.Cpu) with
  | false => rw [hc] at hz; cases hz
  | true =>
    rw [hc] at hz
    exact ⟨rfl, (Option.some.inj hz).symm⟩
theorem setC_in {m : Machine} {c : Int} (hc : inC m c = true) (x : Interface) : inC (setC m c x) c = true := by
  unfold inC setC at *
  simp only [List.length_set]
  exact hc
theorem new_idle {xs : List Route} {n : Nat} : idleM (newM xs n) = true := by
  unfold idleM
  rw [Bool.and_eq_true, List.all_eq_true, List.all_eq_true]
  refine ⟨fun i hi => ?_, fun k hk => ?_⟩
  · have hi := List.mem_range.1 hi
    have : (newM xs n).Enabled.getD i false = false := by
      unfold newM
      rw [getD_at (by simpa using hi)]
      exact List.getElem_replicate _
    rw [this]
    rfl
  · have hk := List.mem_range.1 hk
    have e : (newM xs n).Cpus.getD k gIf = freshIf := by
      rw [getD_at hk]
      unfold newM
      exact List.getElem_replicate _
    rw [e]
    decide
theorem rest_new (code : List Int) (h : okL okU code) : (Option.bind (M.s_DrawNewMachine code) fun r45268 =>
  Option.bind (M.i_NewMachine r45268.1 r45268.2) fun r45693 =>
  Option.bind (M.s_NewMachine r45268.1 r45268.2) fun r45728 =>
  Option.bind (α := Bool) (bif !(r45693.2 == r45728.2) then some true
  else (Option.bind (M.l_vMachine r45693.1 r45728.1) fun r45772 =>
  some (!r45772))) fun o45768 =>
  bif o45768 then some false
  else (bif r45693.2 then (Option.bind (M.i_IsIdle r45693.1) fun r45782 =>
  Option.bind (α := Bool) (bif r45782.2 then some r45782.1
  else some false) fun o45787 =>
  some o45787)
  else some true)) = some true := by
  obtain ⟨⟨xs, c⟩, hd, hl⟩ := drawNew_ok code h
  have hl : xs.length ≤ 8 := hl
  obtain ⟨e1, e2⟩ := NewMachine_is xs c (by omega)
  simp only [hd, e1, e2, Option.bind_some, beq_self_eq_true, Bool.not_true, cond_false]
  cases hg : okRts xs c with
  | false =>
    have := vMachine_refl zM zM_fit
    simp only [cond_false, this, Option.bind_some, Bool.not_true]
  | true =>
    obtain ⟨n, rfl⟩ : ∃ n : Nat, c = n := ⟨c.toNat, by have := okRts_c hg; omega⟩
    have g := new_gm hg
    have := vMachine_refl _ (gm_fit g)
    simp only [cond_true, Int.toNat_natCast, this, Option.bind_some, Bool.not_true, cond_false, (IsIdle_is _ (gm_fit g)).2, (goodMc_iff _).2 g, new_idle]
theorem rest_drain (code : List Int) (h : okL okU code) : (Option.bind (M.s_DrawDrainCpu code) fun r44485 =>
  Option.bind (M.i_DrainCpu r44485.1 r44485.2) fun r44520 =>
  Option.bind (M.s_DrainCpu r44485.1 r44485.2) fun r44560 =>
  Option.bind (α := Bool) (bif !(r44520.2.2 == r44560.2.2) then some true
  else (Option.bind (M.l_vInts r44520.2.1 r44560.2.1) fun r44614 =>
  bif !r44614 then some true
  else (Option.bind (M.l_vMachine r44520.1 r44560.1) fun r44619 =>
  some (!r44619)))) fun o44610 =>
  bif o44610 then some false
  else (Option.bind (α := (Unit) ⊕ (Bool)) (bif r44520.2.2 then (Option.bind (M.i_StepMachine r44485.1 (⟨2, 0, 0, 0⟩ : MachStep)) fun r44787 =>
  Option.bind (M.i_PendingOn r44787.1 r44485.2) fun r44822 =>
  Option.bind (M.i_PendingOn r44520.1 r44485.2) fun r44831 =>
  Option.bind (M.i_RunningOn r44485.1 r44485.2) fun r44840 =>
  Option.bind (M.i_RunningOn r44520.1 r44485.2) fun r44849 =>
  Option.bind (α := Bool) (bif !r44787.2.2 then some true
  else (bif !r44822.2 then some true
  else (bif !r44831.2 then some true
  else (bif !r44840.2 then some true
  else (bif !r44849.2 then some true
  else (Option.bind (M.l_vInts r44840.1 r44849.1) fun r44903 =>
  bif !r44903 then some true
  else (Option.bind (gxApp 8 ([] : List Int) r44520.2.1) fun ap44915 =>
  Option.bind (gxApp 8 ap44915 r44831.1) fun ap44923 =>
  Option.bind (M.l_vInts ap44923 r44822.1) fun r44931 =>
  some (!r44931)))))))) fun o44895 =>
  bif o44895 then some (.inr false)
  else some (.inl ()))
  else some (.inl ())) fun out44785 => Sum.elim (fun (o44782 : Unit) =>
  Option.bind (M.s_DrawNewMachine code) fun r45268 =>
  Option.bind (M.i_NewMachine r45268.1 r45268.2) fun r45693 =>
  Option.bind (M.s_NewMachine r45268.1 r45268.2) fun r45728 =>
  Option.bind (α := Bool) (bif !(r45693.2 == r45728.2) then some true
  else (Option.bind (M.l_vMachine r45693.1 r45728.1) fun r45772 =>
  some (!r45772))) fun o45768 =>
  bif o45768 then some false
  else (bif r45693.2 then (Option.bind (M.i_IsIdle r45693.1) fun r45782 =>
  Option.bind (α := Bool) (bif r45782.2 then some r45782.1
  else some false) fun o45787 =>
  some o45787)
  else some true)) (fun r => some r) out44785)) = some true := by
  obtain ⟨⟨x, c⟩, hd, hx⟩ := drawDrain_ok code h
  have hf : fitM x := sm_fit hx
  obtain ⟨e1, e2⟩ := DrainCpu_is x c hf
  rcases drn_cases x c with e | ⟨g, hc⟩
  · have v1 := vInts_refl [] (by simp)
    have v2 := vMachine_refl zM zM_fit
    simp only [hd, e1, e2, e, Option.bind_some, beq_self_eq_true, Bool.not_true, cond_false, v1, v2, Sum.elim_inl]
    exact rest_new code h
  · have hc2 : inC (syncM x) c = true := sync_in hc
    have gs := syncM_ok g
    have dp := drain_pend c 13 (t := []) gs hc2
    obtain ⟨gd, dl⟩ := drainF_ok c 13 (t := []) gs hc2
    have ss := sync_stack g hc
    have eS := (StepMachine_is x ⟨2, 0, 0, 0⟩ hf).2
    have eS2 : stepF x ⟨2, 0, 0, 0⟩ = (syncM x, -1, true) := by
      unfold stepF
      rw [(goodMc_iff x).2 g]
      rfl
    generalize hY : (drainF c 13 (syncM x) []).1 = Y at *
    generalize hT : (drainF c 13 (syncM x) []).2 = T at *
    obtain ⟨p1, p2, p3⟩ := dp
    have hcY : inC Y c = true := by unfold inC at hc2 ⊢; rw [p3]; exact hc2
    have eD := drn_at g hc
    rw [hY, hT] at eD
    have lY := (cpu_at gd hcY).2.1
    have lP := pendI_len lY.q.1
    have lS := gi_len (cpu_at g hc).2.1
    simp only [List.length_nil, Nat.zero_add] at dl
    simp only [List.nil_append] at p1
    have v1 := vInts_refl T (by omega)
    have v2 := vMachine_refl Y (gm_fit gd)
    have v3 := vInts_refl (atC x c).Stack (by omega)
    have v4 := vInts_refl (T ++ pendI (atC Y c).Queue) (by simp; omega)
    have a1 : gxApp 8 ([] : List Int) T = some T := app_own (by omega)
    have a2 : gxApp 8 T (pendI (atC Y c).Queue) = some (T ++ pendI (atC Y c).Queue) := gxApp_ok (by omega)
    have n1 := (PendingOn_is (syncM x) c (gm_fit gs)).2
    have n2 := (PendingOn_is Y c (gm_fit gd)).2
    have n3 := (RunningOn_is x c hf).2
    have n4 := (RunningOn_is Y c (gm_fit gd)).2
    rw [pnd_at gs hc2] at n1
    rw [pnd_at gd hcY] at n2
    rw [runn_at g hc] at n3
    rw [runn_at gd hcY, p2, ss] at n4
    rw [← p1] at n1
    simp only [hd, e1, e2, eD, Option.bind_some, beq_self_eq_true, Bool.not_true, cond_false, cond_true, v1, v2, eS, eS2, n1, n2, n3, n4, v3, a1, a2, v4, Sum.elim_inl]
    exact rest_new code h
theorem plain_FnMachines (code : List Int) (h : okL okU code) : M.l_FnMachines code = some true := by
  unfold M.l_FnMachines M.l_vBig
  rw [Option.bind_some]
  cases decide ((code.length : Int) > 65536) with
  | true => rfl
  | false =>
    obtain ⟨⟨m, s⟩, hd, hm⟩ := drawStep_ok code h
    have hf : fitM m := sm_fit hm
    obtain ⟨e1, e2⟩ := StepMachine_is m s hf
    have v1 := vMachine_refl _ (step_fit s hf)
    have iM := i_goodMc m hf
    have sM : M.s_IsMachine m = some (goodMc m) := by
      unfold M.s_IsMachine
      rw [s_goodMc m hf]
      rfl
    simp only [cond_false, hd, Option.bind_some, e1, e2, beq_self_eq_true, bne_self_eq_false, Bool.not_true, v1, iM, sM]
    rcases step_cases m s with e | ⟨p, g, hs, hz, e⟩
    · simp only [e, cond_false, Option.bind_some, Sum.elim_inl]
      exact rest_drain code h
    · have gp := make_ok g hs hz
      simp only [e, cond_true, i_good gp, Option.bind_some, Bool.not_true, cond_false]
      cases hk : (s.Kind == 3) with
      | false =>
        simp only [cond_false, Option.bind_some, Sum.elim_inl]
        exact rest_drain code h
      | true =>
        obtain ⟨hc, hcan, rfl⟩ := take_is g hs hz hk
        obtain ⟨_, gi, fi, _, _⟩ := cpu_at g hc
        have hc2 := setC_in hc (takI (atC m s.Cpu))
        have ea : atC (setC m s.Cpu (takI (atC m s.Cpu))) s.Cpu = takI (atC m s.Cpu) := at_setC g hc _
        have n1 := (PendingOn_is m s.Cpu hf).2
        have n2 := (PendingOn_is _ s.Cpu (gm_fit gp)).2
        have n3 := (RunningOn_is _ s.Cpu (gm_fit gp)).2
        rw [pnd_at g hc, pendI_take gi fi hcan] at n1
        rw [pnd_at gp hc2, ea] at n2
        rw [runn_at gp hc2, ea] at n3
        have lP := pendI_len (takI_ok gi hcan).q.1
        have lS := gi_len (takI_ok gi hcan)
        have h0 := tak_stack (atC m s.Cpu)
        have v3 := vInts_refl (pendI (takI (atC m s.Cpu)).Queue) (by omega)
        have x1 : ∀ (a : Int) (l : List Int), gxIdx (a :: l) 0 = some a := fun a l => rfl
        have x2 : gxSlice ((topX (atC m s.Cpu).Queue.Slots).Irq :: pendI (takI (atC m s.Cpu)).Queue) 1 (((topX (atC m s.Cpu).Queue.Slots).Irq :: pendI (takI (atC m s.Cpu)).Queue).length : Int) = some (pendI (takI (atC m s.Cpu)).Queue) := gxSlice_drop (k := 1) (by simp)
        have x3 : (((takI (atC m s.Cpu)).Stack.length : Int) == 0) = false := by rw [beq_eq_false_iff_ne]; omega
        have x4 : ∀ (a : Int) (l : List Int), (((a :: l).length : Int) == 0) = false := fun a l => by rw [beq_eq_false_iff_ne, List.length_cons]; omega
        have x5 := last_idx h0 (by omega)
        have x6 : (takI (atC m s.Cpu)).Stack.getD ((takI (atC m s.Cpu)).Stack.length - 1) 0 = (topX (atC m s.Cpu).Queue.Slots).Irq := by
          unfold takI
          simp
        rw [x6] at x5
        simp only [cond_true, n1, n2, n3, Option.bind_some, Bool.not_true, cond_false, x1, x2, x3, x4, x5, v3, bne_self_eq_false, Sum.elim_inl]
        exact rest_drain code h
end Go.Proofs.YtllhajkgkghhdaaGreat
set_option linter.unusedVariables false
set_option linter.unusedSimpArgs false
namespace Go.Gx
section
variable {P : Program} {α : Type} {E : Enc α} {w0 w : World} {Ls : List Seg}
theorem Mem.below (h : Mem [] w0 w Ls) : Go.RowKit.Below w0.heap.size w0 w := ⟨h.os, h.tape, h.output, h.size, fun k hk => h.old k hk (by simp)⟩
def ReadsAs (P : Program) (t : TypeId) (E : Enc α) (ok : α → Prop) : Prop :=
  P.cellsOf t = E.k ∧ ∀ (H : Type) (enc : TypeId × Value → H) (w : World) (base : Nat) (spare : Nat → Bool) (held : Bool) (fuel : Nat) (cs : List Value) (y : DataW H × List MemPlace), DataW.trod enc P w base spare held fuel t cs = some y → ∃ x, cs = E.cells x ∧ ok x
theorem readsU8 {t : TypeId} (ht : P.underlying t = some (.int .u8)) (hc : P.cellsOf t = 1) : ReadsAs P t encU8 okU :=
  ⟨hc, fun _ _ _ _ _ _ _ _ _ h => by obtain ⟨n, rfl, _, hw⟩ := DataW.trod_int ht h; exact ⟨n, rfl, hw⟩⟩
theorem cell_block {a : Addr} {v : Value} (h : w.cell? a = some v) : ∃ cs e fr, a = ⟨a.block, a.off, none⟩ ∧ w.heap[a.block]? = some (.cells cs e fr) ∧ cs[a.off]? = some v := by
  have hs := World.cell?_spot h
  unfold World.cell? at h
  split at h
  · rename_i c t fr hb
    rw [hs] at h
    refine ⟨c, t, fr, ?_, hb, by simpa using h⟩
    cases a; simp at hs; subst hs; rfl
  · cases h
theorem add_plain {b o n : Nat} : (⟨b, o, none⟩ : Addr).add n = ⟨b, o + n, none⟩ := by
  unfold Addr.add
  split
  · rename_i h; subst h; rfl
  · rfl
theorem list_of {γ : Type} {n : Nat} {R : Nat → γ → Prop} (h : ∀ i, i < n → ∃ x, R i x) : ∃ xs : List γ, xs.length = n ∧ ∀ i x, xs[i]? = some x → R i x := by
  induction n with
  | zero => exact ⟨[], rfl, by simp⟩
  | succ n ih =>
    obtain ⟨xs, hl, hx⟩ := ih (fun i hi => h i (by omega))
    obtain ⟨x, hR⟩ := h n (by omega)
    refine ⟨xs ++ [x], by simp [hl], fun i y hy => ?_⟩
    rw [List.getElem?_append] at hy
    split at hy
    · exact hx i y hy
    · rename_i hge
      have : i < n + 1 := by
        have := (List.getElem?_eq_some_iff.1 hy).1
        simp at this; omega
      have hi : i = n := by omega
      subst hi
      simp [hl] at hy
      subst hy
      exact hR
theorem open_slice {t e : TypeId} {ok : α → Prop} (hE : ReadsAs P e E ok) (hpos : 0 < E.k) (ht : P.underlying t = some (.slice e)) {H : Type} {enc : TypeId × Value → H} {base : Nat} {spare : Nat → Bool} {held : Bool} {fuel : Nat} {cs : List Value} {y : DataW H × List MemPlace}
    (h : DataW.trod enc P w base spare held fuel t cs = some y) : ∃ (p : Option Addr) (c : Nat) (xs : List α), cs = [.slice p xs.length c] ∧ rdS E w xs p c ∧ xs.length ≤ 9223372036854775807 ∧ ∀ x ∈ xs, ok x := by
  rcases DataW.trod_slice ht h with ⟨rfl, _⟩ | ⟨a, len, cap, elems, rest, n, _, rfl, _, _, hl, hm, hlen, hel, _⟩
  · exact ⟨none, 0, [], rfl, rdS_nil, by simp, by simp⟩
  · have each : ∀ i, i < len → ∃ x : α, ok x ∧ ∀ j, j < E.k → w.cell? ((a.add (i * E.k)).add j) = (E.cells x)[j]? := by
      intro i hi
      have h1 := hel i hi
      rw [List.getElem?_eq_getElem (by omega)] at h1
      obtain ⟨ci, hc, hr⟩ := Option.bind_eq_some_iff.1 h1
      obtain ⟨x, rfl, hx⟩ := hE.2 _ _ _ _ _ _ _ _ _ hr
      obtain ⟨_, _, hc3⟩ := World.cells?_some hc
      rw [hE.1] at hc3
      exact ⟨x, hx, hc3⟩
    obtain ⟨xs, hxl, hxs⟩ := list_of each
    refine ⟨some a, cap, xs, by rw [hxl], ⟨by omega, ?_⟩, by have : cap ≤ 9223372036854775807 := hm; omega, fun x hx => ?_⟩
    · cases xs with
      | nil => exact Or.inl rfl
      | cons x0 r =>
        right
        have h0 := (hxs 0 x0 rfl).2 0 hpos
        rw [List.getElem?_eq_getElem (by rw [E.len]; exact hpos)] at h0
        have h1 : w.cell? a = some ((E.cells x0)[0]'(by rw [E.len]; exact hpos)) := by simpa [Addr.add] using h0
        obtain ⟨C, e', fr, ha, hb, _⟩ := cell_block h1
        refine ⟨a.block, a.off, C, e', fr, by rw [← ha], hb, fun i x hx j v hj => ?_⟩
        have hjk : j < E.k := by
          have := (List.getElem?_eq_some_iff.1 hj).1
          rw [E.len] at this; exact this
        have hcell := (hxs i x hx).2 j hjk
        rw [hj, ha, add_plain, add_plain] at hcell
        simpa [World.cell?, hb] using hcell
    · obtain ⟨i, hi, rfl⟩ := List.mem_iff_getElem.1 hx
      exact (hxs i _ (List.getElem?_eq_getElem hi)).1
end
end Go.Gx
