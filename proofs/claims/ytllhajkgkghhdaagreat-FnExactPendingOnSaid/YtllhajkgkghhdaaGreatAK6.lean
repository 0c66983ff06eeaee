/- Plain laws of the models: no program in sight. -/
import Derived.Test.YtllhajkgkghhdaaGreatAM
import Derived.Test.YtllhajkgkghhdaaGreatAK5
set_option linter.unusedVariables false
set_option linter.unusedSimpArgs false
set_option maxHeartbeats 4000000
namespace Go.Proofs.YtllhajkgkghhdaaGreat
open Go.Gx
def ltK {α : Type} (key : α → Int) (a b : α) : Bool := decide (key a < key b)

/-! ### Queues as plain facts -/
def keyW (w : Waiter) : Int := 8 * w.Priority + w.Irq
def wOf (s : Slot) : Waiter := ⟨s.Irq, s.Priority⟩
def okWt (w : Waiter) : Prop := (0 ≤ w.Irq ∧ w.Irq ≤ 7) ∧ (0 ≤ w.Priority ∧ w.Priority ≤ 15)
def okSlt (s : Slot) : Prop := (0 ≤ s.State ∧ s.State ≤ 3) ∧ okWt (wOf s) ∧ (s.State = 0 → s.Irq = 0 ∧ s.Priority = 0)
def sepS (a b : Slot) : Prop := a.State = 0 ∨ b.State = 0 ∨ a.Irq ≠ b.Irq
theorem less_key {a b : Waiter} (ha : okWt a) (hb : okWt b) : lessU a.Priority a.Irq b.Priority b.Irq = decide (keyW a < keyW b) := by
  unfold okWt at ha hb
  unfold lessU keyW
  rw [Bool.eq_iff_iff]
  simp only [Bool.or_eq_true, Bool.and_eq_true, decide_eq_true_eq, beq_iff_eq]
  omega
/-- Slots as they should be. -/
structure GS (xs : List Slot) : Prop where
  len : xs.length = 4
  ok : ∀ s ∈ xs, okSlt s
  sep : xs.Pairwise sepS
theorem goodS_iff (xs : List Slot) : goodS xs = true ↔ GS xs := by
  unfold goodS
  rw [Bool.and_eq_true, beq_iff_eq, List.all_eq_true]
  constructor
  · rintro ⟨hl, h⟩
    have hb : ∀ i, (hi : i < xs.length) → okSlt xs[i] ∧ ∀ j, (hj : j < i) → sepS (xs[j]'(by omega)) xs[i] := fun i hi => by
      have := h i (List.mem_range.2 hi)
      unfold okSl inR freshS at this
      rw [getD_at hi] at this
      simp only [Bool.and_eq_true, decide_eq_true_eq] at this
      obtain ⟨h1, h2, h3, h4⟩ := this
      by_cases h0 : xs[i].State = 0
      · have e0 : (xs[i].State == 0) = true := by simp [h0]
        rw [e0, cond_true, Bool.and_eq_true, beq_iff_eq, beq_iff_eq] at h4
        exact ⟨⟨h1, ⟨h2, h3⟩, fun _ => h4⟩, fun j hj => Or.inr (Or.inl h0)⟩
      · have e0 : (xs[i].State == 0) = false := by simp [h0]
        rw [e0, cond_false, List.all_eq_true] at h4
        refine ⟨⟨h1, ⟨h2, h3⟩, fun h => absurd h h0⟩, fun j hj => ?_⟩
        have := h4 j (List.mem_range.2 hj)
        rw [getD_at (show j < xs.length by omega)] at this
        unfold mtS at this
        by_cases hz : (xs[j]'(by omega)).State = 0
        · exact Or.inl hz
        · refine Or.inr (Or.inr fun e => ?_)
          simp [hz, e] at this
    refine ⟨by omega, fun s hs => ?_, ?_⟩
    · obtain ⟨i, hi, rfl⟩ := List.getElem_of_mem hs
      exact (hb i hi).1
    · rw [List.pairwise_iff_getElem]
      intro i j hi hj hij
      exact (hb j hj).2 i hij
  · rintro ⟨hl, h1, h2⟩
    refine ⟨by omega, fun i hi => ?_⟩
    have hi := List.mem_range.1 hi
    obtain ⟨g1, ⟨g2, g3⟩, g4⟩ := h1 _ (List.getElem_mem hi)
    unfold okSl inR freshS
    rw [getD_at hi]
    simp only [wOf] at g2 g3
    simp only [Bool.and_eq_true, decide_eq_true_eq]
    refine ⟨g1, g2, g3, ?_⟩
    by_cases h0 : xs[i].State = 0
    · have e0 : (xs[i].State == 0) = true := by simp [h0]
      rw [e0, cond_true, Bool.and_eq_true, beq_iff_eq, beq_iff_eq]
      exact g4 h0
    · have e0 : (xs[i].State == 0) = false := by simp [h0]
      rw [e0, cond_false, List.all_eq_true]
      intro j hj
      have hj := List.mem_range.1 hj
      rw [getD_at (show j < xs.length by omega)]
      unfold mtS
      rcases List.pairwise_iff_getElem.1 h2 j i (by omega) hi hj with h | h | h
      · simp [h]
      · exact absurd h h0
      · simp [h]
/-- Those that wait, beside slots. -/
structure GP (q : Queue) : Prop where
  s : GS q.Slots
  ok : ∀ w ∈ q.Waiting, okWt w
  ord : q.Waiting.Pairwise fun a b => keyW a < keyW b
  dist : (q.Waiting.map Waiter.Irq).Nodup
  apart : ∀ w ∈ q.Waiting, ∀ s ∈ q.Slots, s.State = 0 ∨ s.Irq ≠ w.Irq
theorem fndS_none {xs : List Slot} {q : Int} : fndS xs q < 0 ↔ ∀ s ∈ xs, s.State = 0 ∨ s.Irq ≠ q := by
  rw [fndS_neg]
  constructor
  · intro h s hs
    obtain ⟨i, hi, rfl⟩ := List.getElem_of_mem hs
    have := h i hi
    unfold mtS at this
    by_cases hz : xs[i].State = 0
    · exact Or.inl hz
    · refine Or.inr fun e => ?_
      simp [hz, e] at this
  · intro h i hi
    unfold mtS
    rcases h _ (List.getElem_mem hi) with h | h <;> simp [h]
theorem goodP_iff (q : Queue) : goodP q.Slots q.Waiting = true ↔ GP q := by
  unfold goodP
  rw [Bool.and_eq_true, goodS_iff, List.all_eq_true]
  constructor
  · rintro ⟨hs, h⟩
    have hb : ∀ i, (hi : i < q.Waiting.length) → okWt q.Waiting[i] ∧ fndS q.Slots q.Waiting[i].Irq < 0 ∧ (∀ j, (hj : j < i) → (q.Waiting[j]'(by omega)).Irq ≠ q.Waiting[i].Irq) ∧ (0 < i → lessU (q.Waiting[i - 1]'(by omega)).Priority (q.Waiting[i - 1]'(by omega)).Irq q.Waiting[i].Priority q.Waiting[i].Irq = true) := fun i hi => by
      have := h i (List.mem_range.2 hi)
      unfold okW inR freshW at this
      rw [getD_at hi, getD_at (show i - 1 < q.Waiting.length by omega)] at this
      simp only [Bool.and_eq_true, decide_eq_true_eq, List.all_eq_true, Bool.or_eq_true] at this
      obtain ⟨h1, h2, h3, h4, h5⟩ := this
      refine ⟨⟨h1, h2⟩, h3, fun j hj => ?_, fun h0 => ?_⟩
      · have := h4 j (List.mem_range.2 hj)
        rw [getD_at (show j < q.Waiting.length by omega)] at this
        simpa using this
      · rcases h5 with h5 | h5
        · omega
        · exact h5
    have hok : ∀ w ∈ q.Waiting, okWt w := fun w hw => by
      obtain ⟨i, hi, rfl⟩ := List.getElem_of_mem hw
      exact (hb i hi).1
    refine ⟨hs, hok, ?_, ?_, fun w hw s hsm => ?_⟩
    · rw [List.pairwise_iff_getElem]
      have key : ∀ d i, (hj : i + d + 1 < q.Waiting.length) → keyW (q.Waiting[i]'(by omega)) < keyW q.Waiting[i + d + 1] := by
        intro d
        induction d with
        | zero =>
          intro i hj
          have h4 := (hb (i + 1) hj).2.2.2 (by omega)
          have e : i + 1 - 1 = i := by omega
          simp only [e] at h4
          rw [less_key (hok _ (List.getElem_mem _)) (hok _ (List.getElem_mem _)), decide_eq_true_eq] at h4
          exact h4
        | succ d ih =>
          intro i hj
          have h3 := ih i (by omega)
          have h4 := (hb (i + (d + 1) + 1) hj).2.2.2 (by omega)
          have e : i + (d + 1) + 1 - 1 = i + d + 1 := by omega
          simp only [e] at h4
          rw [less_key (hok _ (List.getElem_mem _)) (hok _ (List.getElem_mem _)), decide_eq_true_eq] at h4
          omega
      intro i j hi hj hij
      have := key (j - i - 1) i (by omega)
      simp only [show i + (j - i - 1) + 1 = j by omega] at this
      exact this
    · rw [List.Nodup, List.pairwise_map, List.pairwise_iff_getElem]
      intro i j hi hj hij
      exact (hb j hj).2.2.1 i hij
    · obtain ⟨i, hi, rfl⟩ := List.getElem_of_mem hw
      exact fndS_none.1 (hb i hi).2.1 s hsm
  · rintro ⟨hs, hok, ho, hd, ha⟩
    refine ⟨hs, fun i hi => ?_⟩
    have hi := List.mem_range.1 hi
    obtain ⟨g1, g2⟩ := hok _ (List.getElem_mem hi)
    unfold okW inR freshW
    rw [getD_at hi, getD_at (show i - 1 < q.Waiting.length by omega)]
    simp only [Bool.and_eq_true, decide_eq_true_eq, List.all_eq_true, Bool.or_eq_true]
    refine ⟨g1, g2, fndS_none.2 (ha _ (List.getElem_mem hi)), fun j hj => ?_, ?_⟩
    · have hj := List.mem_range.1 hj
      rw [getD_at (show j < q.Waiting.length by omega)]
      rw [List.Nodup, List.pairwise_map, List.pairwise_iff_getElem] at hd
      have := hd j i (by omega) hi hj
      simpa using this
    · by_cases h0 : i = 0
      · exact Or.inl h0
      · refine Or.inr ?_
        rw [less_key (hok _ (List.getElem_mem _)) (hok _ (List.getElem_mem _)), decide_eq_true_eq]
        exact List.pairwise_iff_getElem.1 ho (i - 1) i (by omega) hi (by omega)
theorem frS_neg {xs : List Slot} : frS xs < 0 ↔ ∀ s ∈ xs, s.State ≠ 0 := by
  unfold frS
  refine Iff.trans (first_lt (n := xs.length) (p := fun i => (xs.getD i gS).State == 0)) ?_
  constructor
  · intro h s hs
    obtain ⟨i, hi, rfl⟩ := List.getElem_of_mem hs
    have := h i hi
    rw [getD_at hi] at this
    simpa using this
  · intro h i hi
    rw [getD_at hi]
    simpa using h _ (List.getElem_mem hi)
theorem frS_at {xs : List Slot} (h : ¬ frS xs < 0) : ∃ i : Nat, ∃ hi : i < xs.length, frS xs = (i : Int) ∧ xs[i].State = 0 := by
  unfold frS at h ⊢
  cases hf : (List.range xs.length).find? (fun i => (xs.getD i gS).State == 0) with
  | none => rw [hf] at h; simp at h
  | some i =>
    obtain ⟨h1, h2, _⟩ := List.find?_range_eq_some.1 hf
    have h2 := List.mem_range.1 h2
    rw [getD_at h2] at h1
    exact ⟨i, h2, rfl, by simpa using h1⟩
/-- The least urgent one that pends. -/
theorem bestF_least {xs : List Slot} (hg : ∀ s ∈ xs, okSlt s) : ∀ n, n ≤ xs.length → (bestF xs n < 0 ∧ ∀ i, (hi : i < xs.length) → i < n → xs[i].State ≠ 1) ∨ ∃ k, ∃ hk : k < xs.length, k < n ∧ bestF xs n = (k : Int) ∧ xs[k].State = 1 ∧ ∀ i, (hi : i < xs.length) → i < n → xs[i].State = 1 → keyW (wOf xs[i]) ≤ keyW (wOf xs[k])
  | 0, _ => Or.inl ⟨by simp [bestF], fun i hi h => by omega⟩
  | n + 1, hn => by
    have ih := bestF_least hg n (by omega)
    have hnl : n < xs.length := by omega
    have hb : bestF xs (n + 1) = bif xs[n].State == 1 then (bif decide (bestF xs n < 0) || lessU (xs.getD (bestF xs n).toNat gS).Priority (xs.getD (bestF xs n).toNat gS).Irq xs[n].Priority xs[n].Irq then (n : Int) else bestF xs n) else bestF xs n := by
      rw [bestF, getD_at hnl]
    rw [hb]
    by_cases h1 : xs[n].State = 1
    · have e1 : (xs[n].State == 1) = true := by simp [h1]
      rw [e1, cond_true]
      rcases ih with ⟨h2, h3⟩ | ⟨k, hk, hkn, h2, h3, h4⟩
      · have e2 : decide (bestF xs n < 0) = true := by simp [h2]
        rw [e2, Bool.true_or, cond_true]
        refine Or.inr ⟨n, hnl, by omega, rfl, h1, fun i hi hin hs => ?_⟩
        by_cases e : i = n
        · subst e; exact Int.le_refl _
        · exact absurd hs (h3 i hi (by omega))
      · have e2 : decide (bestF xs n < 0) = false := by rw [h2]; simp
        rw [e2, Bool.false_or, h2, Int.toNat_natCast, getD_at hk]
        have hl := less_key (a := wOf xs[k]) (b := wOf xs[n]) (hg _ (List.getElem_mem hk)).2.1 (hg _ (List.getElem_mem hnl)).2.1
        simp only [wOf] at hl
        rw [hl]
        by_cases hlt : keyW (wOf xs[k]) < keyW (wOf xs[n])
        · simp only [wOf] at hlt
          simp only [hlt, decide_true, cond_true]
          refine Or.inr ⟨n, hnl, by omega, rfl, h1, fun i hi hin hs => ?_⟩
          by_cases e : i = n
          · subst e; exact Int.le_refl _
          · have := h4 i hi (by omega) hs
            simp only [wOf] at this ⊢
            omega
        · have hlt' := hlt
          simp only [wOf] at hlt'
          simp only [hlt', decide_false, cond_false]
          refine Or.inr ⟨k, hk, by omega, rfl, h3, fun i hi hin hs => ?_⟩
          by_cases e : i = n
          · subst e; omega
          · exact h4 i hi (by omega) hs
    · have e1 : (xs[n].State == 1) = false := by simp [h1]
      rw [e1, cond_false]
      rcases ih with ⟨h2, h3⟩ | ⟨k, hk, hkn, h2, h3, h4⟩
      · refine Or.inl ⟨h2, fun i hi hin => ?_⟩
        by_cases e : i = n
        · subst e; exact h1
        · exact h3 i hi (by omega)
      · refine Or.inr ⟨k, hk, by omega, h2, h3, fun i hi hin hs => ?_⟩
        by_cases e : i = n
        · subst e; exact absurd hs h1
        · exact h4 i hi (by omega) hs
def calm (q : Queue) : Prop := q.Waiting = [] ∨ ((∀ s ∈ q.Slots, s.State ≠ 0) ∧ ∀ s ∈ q.Slots, s.State = 1 → ∀ w ∈ q.Waiting, keyW (wOf s) < keyW w)
theorem setQ_iff {q : Queue} (h : GP q) : setQ q = true ↔ calm q := by
  unfold setQ calm
  cases hw : q.Waiting with
  | nil => simp
  | cons w0 r =>
    have e0 : (((w0 :: r).length : Int) == 0) = false := by simp; omega
    rw [e0, cond_false]
    have hok := h.ok
    have hord := h.ord
    rw [hw] at hok hord
    rw [List.pairwise_cons] at hord
    by_cases hf : frS q.Slots < 0
    · have e1 : decide (frS q.Slots ≥ 0) = false := by simp; omega
      rw [e1, cond_false]
      have hf' := frS_neg.1 hf
      rcases bestF_least h.s.ok q.Slots.length (Nat.le_refl _) with ⟨h2, h3⟩ | ⟨k, hk, hkn, h2, h3, h4⟩
      · have e2 : decide (bestF q.Slots q.Slots.length < 0) = true := by simp [h2]
        rw [e2, cond_true]
        refine ⟨fun _ => Or.inr ⟨hf', fun s hs h1 => ?_⟩, fun _ => rfl⟩
        obtain ⟨i, hi, rfl⟩ := List.getElem_of_mem hs
        exact absurd h1 (h3 i hi hi)
      · have e2 : decide (bestF q.Slots q.Slots.length < 0) = false := by rw [h2]; simp
        rw [e2, cond_false, h2, Int.toNat_natCast, getD_at hk]
        have hl := less_key (a := wOf q.Slots[k]) (b := w0) (h.s.ok _ (List.getElem_mem hk)).2.1 (hok w0 (by simp))
        simp only [wOf] at hl
        simp only [List.getD_cons_zero]
        rw [hl]
        refine Iff.trans decide_eq_true_iff ?_
        constructor
        · intro hlt
          refine Or.inr ⟨hf', fun s hs h1 w hwm => ?_⟩
          obtain ⟨i, hi, rfl⟩ := List.getElem_of_mem hs
          have h5 := h4 i hi hi h1
          have h6 : keyW w0 ≤ keyW w := by
            rcases List.mem_cons.1 hwm with rfl | hwm
            · exact Int.le_refl _
            · have := hord.1 w hwm; omega
          simp only [wOf] at h5 ⊢
          omega
        · rintro (h5 | ⟨_, h5⟩)
          · cases h5
          · exact h5 _ (List.getElem_mem hk) h3 w0 (by simp)
    · have e1 : decide (frS q.Slots ≥ 0) = true := by simp; omega
      rw [e1, cond_true]
      constructor
      · intro h5; cases h5
      · rintro (h5 | ⟨h5, _⟩)
        · cases h5
        · exact absurd (frS_neg.2 h5) hf
/-- A queue as it should be. -/
def GQ (q : Queue) : Prop := GP q ∧ calm q
theorem goodQ_iff (q : Queue) : goodQ q = true ↔ GQ q := by
  unfold goodQ GQ
  rw [Bool.and_eq_true]
  constructor
  · rintro ⟨h1, h2⟩
    have h1 := (goodP_iff q).1 h1
    exact ⟨h1, (setQ_iff h1).1 h2⟩
  · rintro ⟨h1, h2⟩
    exact ⟨(goodP_iff q).2 h1, (setQ_iff h1).2 h2⟩
/-! ### What pends, in order -/
def isPd (s : Slot) : Bool := s.State == 1 || s.State == 3
def pendW (q : Queue) : List Waiter := q.Waiting ++ (q.Slots.filter isPd).map wOf
theorem pend_ok {q : Queue} (h : GP q) : ∀ w ∈ pendW q, okWt w := fun w hw => by
  unfold pendW at hw
  rcases List.mem_append.1 hw with hw | hw
  · exact h.ok w hw
  · obtain ⟨s, hs, rfl⟩ := List.mem_map.1 hw
    exact (h.s.ok s (List.mem_filter.1 hs).1).2.1
theorem sep_irqs : ∀ {xs : List Slot}, xs.Pairwise sepS → ∀ p : Slot → Bool, (∀ s, p s = true → s.State ≠ 0) → ((xs.filter p).map Slot.Irq).Nodup
  | [], _, _, _ => by simp
  | x :: r, h, p, hp => by
    rw [List.pairwise_cons] at h
    have ih := sep_irqs h.2 p hp
    by_cases hx : p x = true
    · rw [List.filter_cons_of_pos hx, List.map_cons, List.nodup_cons]
      refine ⟨fun hm => ?_, ih⟩
      obtain ⟨s, hs, he⟩ := List.mem_map.1 hm
      obtain ⟨hs1, hs2⟩ := List.mem_filter.1 hs
      rcases h.1 s hs1 with h1 | h1 | h1
      · exact hp x hx h1
      · exact hp s hs2 h1
      · exact h1 he.symm
    · rw [List.filter_cons_of_neg hx]
      exact ih
theorem isPd_ne {s : Slot} (h : isPd s = true) : s.State ≠ 0 := by
  unfold isPd at h
  intro e
  rw [e] at h
  simp at h
theorem pend_dist {q : Queue} (h : GP q) : ((pendW q).map Waiter.Irq).Nodup := by
  unfold pendW
  rw [List.map_append, List.nodup_append]
  refine ⟨h.dist, ?_, fun a ha b hb hab => ?_⟩
  · have := sep_irqs h.s.sep isPd (fun s hs => isPd_ne hs)
    rw [List.map_map]
    exact this
  · obtain ⟨w, hw, rfl⟩ := List.mem_map.1 ha
    obtain ⟨u, hu, rfl⟩ := List.mem_map.1 hb
    obtain ⟨s, hs, rfl⟩ := List.mem_map.1 hu
    obtain ⟨hs1, hs2⟩ := List.mem_filter.1 hs
    rcases h.apart w hw s hs1 with h1 | h1
    · exact isPd_ne hs2 h1
    · exact h1 hab.symm
/-- Lists of the same waiters in the order of urgency are the same. -/
theorem urg_uniq {A B : List Waiter} (hA : ordered keyW A) (hB : ordered keyW B) (hp : A.Perm B) (hok : ∀ w ∈ A, okWt w) (hd : (A.map Waiter.Irq).Nodup) : A = B := by
  refine ordered_uniq keyW ?_ hB hp
  have h1 : A.Pairwise fun a b => a.Irq ≠ b.Irq := by
    rw [List.Nodup, List.pairwise_map] at hd
    exact hd
  unfold ordered at hA
  rw [List.pairwise_iff_getElem] at hA h1 ⊢
  intro i j hi hj hij
  have g1 := hA i j hi hj hij
  have g2 := h1 i j hi hj hij
  have g3 := hok _ (List.getElem_mem hi)
  have g4 := hok _ (List.getElem_mem hj)
  unfold okWt at g3 g4
  unfold keyW at g1 ⊢
  omega
def sortW (q : Queue) : List Waiter := isortL (ltK keyW) (pendW q)
theorem sortW_is {q : Queue} (h : GP q) {L : List Waiter} (ho : ordered keyW L) (hp : L.Perm (pendW q)) : L = sortW q := by
  have h1 := isortL_perm (ltK keyW) (pendW q)
  refine (urg_uniq (isortL_ord keyW _) ho (h1.trans hp.symm) (fun w hw => pend_ok h w (h1.mem_iff.1 hw)) ?_).symm
  exact ((h1.map Waiter.Irq).nodup_iff).2 (pend_dist h)
theorem sortW_perm {q r : Queue} (h : GP q) (hp : (pendW r).Perm (pendW q)) : sortW r = sortW q :=
  sortW_is h (isortL_ord keyW _) ((isortL_perm _ _).trans hp)

end Go.Proofs.YtllhajkgkghhdaaGreat
