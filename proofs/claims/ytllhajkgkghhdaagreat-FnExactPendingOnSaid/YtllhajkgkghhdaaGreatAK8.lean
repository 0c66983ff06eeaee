/- Plain laws of the models: no program in sight. -/
import Derived.Test.YtllhajkgkghhdaaGreatAM
import Derived.Test.YtllhajkgkghhdaaGreatAK7
set_option linter.unusedVariables false
set_option linter.unusedSimpArgs false
set_option maxHeartbeats 4000000
namespace Go.Proofs.YtllhajkgkghhdaaGreat
open Go.Gx
/-! ### Slots: put, taken, ended -/
def setSt (s : Slot) (st : Int) : Slot := ⟨st, s.Irq, s.Priority⟩
theorem gs_state {xs : List Slot} (h : GS xs) {i : Nat} (hi : i < xs.length) (h0 : xs[i].State ≠ 0) {st : Int} (hst : 1 ≤ st ∧ st ≤ 3) : GS (xs.set i (setSt xs[i] st)) := by
  have ho := h.ok _ (List.getElem_mem hi)
  refine gs_set h hi ⟨⟨by simp only [setSt]; omega, by simp only [setSt]; omega⟩, ho.2.1, fun e => by simp only [setSt] at e; omega⟩ fun j hj hji => ?_
  rcases sep_at h.sep hi hj hji with g | g | g
  · exact Or.inl g
  · exact absurd g h0
  · exact Or.inr (Or.inr g)
theorem gs_empty {xs : List Slot} (h : GS xs) {i : Nat} (hi : i < xs.length) : GS (xs.set i gS) := by
  refine gs_set h hi ⟨by simp [gS], by simp [okWt, wOf, gS], fun _ => by simp [gS]⟩ fun j hj hji => Or.inr (Or.inl rfl)
/-- The slot with an interrupt, found. -/
theorem fnd_at {xs : List Slot} {q : Int} (h : ¬ fndS xs q < 0) : ∃ i : Nat, ∃ hi : i < xs.length, fndS xs q = (i : Int) ∧ xs[i].State ≠ 0 ∧ xs[i].Irq = q := by
  obtain ⟨i, hi, he, hm, _⟩ := fndS_at h
  unfold mtS at hm
  rw [Bool.and_eq_true, bne_iff_ne, beq_iff_eq] at hm
  exact ⟨i, hi, he, hm.1, hm.2⟩
theorem fnd_is {xs : List Slot} (h : GS xs) {i : Nat} (hi : i < xs.length) (h0 : xs[i].State ≠ 0) : fndS xs xs[i].Irq = (i : Int) := by
  have hn : ¬ fndS xs xs[i].Irq < 0 := fun hn => by
    rcases fndS_none.1 hn _ (List.getElem_mem hi) with g | g
    · exact h0 g
    · exact g rfl
  obtain ⟨k, hk, he, hk0, hk1⟩ := fnd_at hn
  by_cases e : k = i
  · rw [he, e]
  · rcases sep_at h.sep hi hk e with g | g | g
    · exact absurd g hk0
    · exact absurd g h0
    · exact absurd hk1 g
def putF (s : Slot) : Slot := bif s.State == 2 then setSt s 3 else s
def putL (xs : List Slot) (w : Waiter) : Option (List Slot) :=
  bif decide (fndS xs w.Irq ≥ 0) then some (xs.set (fndS xs w.Irq).toNat (putF (xs.getD (fndS xs w.Irq).toNat gS)))
  else (bif decide (frS xs ≥ 0) then some (xs.set (frS xs).toNat (pendS w)) else none)
theorem putF_st (s : Slot) : (putF s).Irq = s.Irq ∧ (putF s).Priority = s.Priority ∧ (s.State = 2 ∧ (putF s).State = 3 ∨ s.State ≠ 2 ∧ putF s = s) := by
  unfold putF
  by_cases h : s.State = 2
  · have e : (s.State == 2) = true := by simp [h]
    rw [e]
    exact ⟨rfl, rfl, Or.inl ⟨h, rfl⟩⟩
  · have e : (s.State == 2) = false := by simp [h]
    rw [e]
    exact ⟨rfl, rfl, Or.inr ⟨h, rfl⟩⟩
theorem putF_gs {xs : List Slot} (h : GS xs) {i : Nat} (hi : i < xs.length) (h0 : xs[i].State ≠ 0) : GS (xs.set i (putF xs[i])) := by
  obtain ⟨_, _, ⟨e1, e2⟩ | ⟨e1, e2⟩⟩ := putF_st xs[i]
  · have : putF xs[i] = setSt xs[i] 3 := by unfold putF; simp [e1]
    rw [this]
    exact gs_state h hi h0 (by omega)
  · rw [e2, List.set_getElem_self]
    exact h
theorem putL_gs {xs ys : List Slot} {w : Waiter} (h : GS xs) (hw : okWt w) (hp : putL xs w = some ys) : GS ys := by
  unfold putL at hp
  by_cases hf : fndS xs w.Irq < 0
  · have e : decide (fndS xs w.Irq ≥ 0) = false := by simp; omega
    rw [e, cond_false] at hp
    by_cases hr : frS xs < 0
    · have e : decide (frS xs ≥ 0) = false := by simp; omega
      rw [e, cond_false] at hp
      cases hp
    · have e : decide (frS xs ≥ 0) = true := by simp; omega
      rw [e, cond_true] at hp
      obtain ⟨k, hk, h2, h3⟩ := frS_at hr
      rw [h2, Int.toNat_natCast] at hp
      obtain rfl := Option.some.inj hp
      refine gs_set h hk (okSlt_pend hw) fun j hj _ => ?_
      rcases fndS_none.1 hf _ (List.getElem_mem hj) with g | g
      · exact Or.inl g
      · exact Or.inr (Or.inr g)
  · have e : decide (fndS xs w.Irq ≥ 0) = true := by simp; omega
    rw [e, cond_true] at hp
    obtain ⟨k, hk, h2, h3, h4⟩ := fnd_at hf
    rw [h2, Int.toNat_natCast, getD_at hk] at hp
    obtain rfl := Option.some.inj hp
    exact putF_gs h hk h3
def topF (xs : List Slot) : Nat → Int
  | 0 => -1
  | i + 1 => bif (xs.getD i gS).State == 1 then (bif decide (topF xs i < 0) || lessU (xs.getD i gS).Priority (xs.getD i gS).Irq (xs.getD (topF xs i).toNat gS).Priority (xs.getD (topF xs i).toNat gS).Irq then (i : Int) else topF xs i) else topF xs i
theorem topF_at (xs : List Slot) : ∀ i, topF xs i < 0 ∨ ∃ k, k < i ∧ topF xs i = (k : Int) ∧ (xs.getD k gS).State = 1
  | 0 => Or.inl (by simp [topF])
  | i + 1 => by
    have ih := topF_at xs i
    have hih : topF xs i < 0 ∨ ∃ k, k < i + 1 ∧ topF xs i = (k : Int) ∧ (xs.getD k gS).State = 1 := by
      rcases ih with h | ⟨k, h1, h2, h3⟩
      · exact Or.inl h
      · exact Or.inr ⟨k, by omega, h2, h3⟩
    unfold topF
    cases hs : ((xs.getD i gS).State == 1) with
    | false => exact hih
    | true =>
      simp only [cond_true]
      cases (decide (topF xs i < 0) || lessU (xs.getD i gS).Priority (xs.getD i gS).Irq (xs.getD (topF xs i).toNat gS).Priority (xs.getD (topF xs i).toNat gS).Irq) with
      | false => exact hih
      | true => exact Or.inr ⟨i, by omega, rfl, by simpa using hs⟩
theorem topF_most {xs : List Slot} (hg : ∀ s ∈ xs, okSlt s) : ∀ n, n ≤ xs.length → (topF xs n < 0 ∧ ∀ i, (hi : i < xs.length) → i < n → xs[i].State ≠ 1) ∨ ∃ k, ∃ hk : k < xs.length, k < n ∧ topF xs n = (k : Int) ∧ xs[k].State = 1 ∧ ∀ i, (hi : i < xs.length) → i < n → xs[i].State = 1 → keyW (wOf xs[k]) ≤ keyW (wOf xs[i])
  | 0, _ => Or.inl ⟨by simp [topF], fun i hi h => by omega⟩
  | n + 1, hn => by
    have ih := topF_most hg n (by omega)
    have hnl : n < xs.length := by omega
    have hb : topF xs (n + 1) = bif xs[n].State == 1 then (bif decide (topF xs n < 0) || lessU xs[n].Priority xs[n].Irq (xs.getD (topF xs n).toNat gS).Priority (xs.getD (topF xs n).toNat gS).Irq then (n : Int) else topF xs n) else topF xs n := by
      rw [topF, getD_at hnl]
    rw [hb]
    by_cases h1 : xs[n].State = 1
    · have e1 : (xs[n].State == 1) = true := by simp [h1]
      rw [e1, cond_true]
      rcases ih with ⟨h2, h3⟩ | ⟨k, hk, hkn, h2, h3, h4⟩
      · have e2 : decide (topF xs n < 0) = true := by simp [h2]
        rw [e2, Bool.true_or, cond_true]
        refine Or.inr ⟨n, hnl, by omega, rfl, h1, fun i hi hin hs => ?_⟩
        by_cases e : i = n
        · subst e; exact Int.le_refl _
        · exact absurd hs (h3 i hi (by omega))
      · have e2 : decide (topF xs n < 0) = false := by rw [h2]; simp
        rw [e2, Bool.false_or, h2, Int.toNat_natCast, getD_at hk]
        have hl := less_key (a := wOf xs[n]) (b := wOf xs[k]) (hg _ (List.getElem_mem hnl)).2.1 (hg _ (List.getElem_mem hk)).2.1
        simp only [wOf] at hl
        rw [hl]
        by_cases hlt : keyW (wOf xs[n]) < keyW (wOf xs[k])
        · have hlt' := hlt
          simp only [wOf] at hlt'
          simp only [hlt', decide_true, cond_true]
          refine Or.inr ⟨n, hnl, by omega, rfl, h1, fun i hi hin hs => ?_⟩
          by_cases e : i = n
          · subst e; exact Int.le_refl _
          · have := h4 i hi (by omega) hs
            omega
        · have hlt' := hlt
          simp only [wOf] at hlt'
          simp only [hlt', decide_false, cond_false]
          refine Or.inr ⟨k, hk, by omega, rfl, h3, fun i hi hin hs => ?_⟩
          by_cases e : i = n
          · subst e; omega
          · exact h4 i hi (by omega) hs
    · have e1 : (xs[n].State == 1) = false := by simp [h1]
      rw [e1, cond_false]
      rcases ih with ⟨h2, h3⟩ | ⟨k, hk, hkn, h2, h3, h4⟩
      · refine Or.inl ⟨h2, fun i hi hin => ?_⟩
        by_cases e : i = n
        · subst e; exact h1
        · exact h3 i hi (by omega)
      · refine Or.inr ⟨k, hk, by omega, h2, h3, fun i hi hin hs => ?_⟩
        by_cases e : i = n
        · subst e; exact absurd hs h1
        · exact h4 i hi (by omega) hs
def topS (xs : List Slot) : Int := topF xs xs.length
def topX (xs : List Slot) : Slot := xs.getD (topS xs).toNat gS
def canT (xs : List Slot) (limit : Int) : Bool := decide (topS xs ≥ 0) && decide ((topX xs).Priority < limit)
def takL (xs : List Slot) : List Slot := xs.set (topS xs).toNat (setSt (topX xs) 2)
theorem canT_at {xs : List Slot} {limit : Int} (h : GS xs) (hc : canT xs limit = true) : ∃ k, ∃ hk : k < xs.length, topS xs = (k : Int) ∧ topX xs = xs[k] ∧ takL xs = xs.set k (setSt xs[k] 2) ∧ xs[k].State = 1 ∧ xs[k].Priority < limit ∧ ∀ i, (hi : i < xs.length) → xs[i].State = 1 → keyW (wOf xs[k]) ≤ keyW (wOf xs[i]) := by
  unfold canT at hc
  rw [Bool.and_eq_true, decide_eq_true_eq, decide_eq_true_eq] at hc
  rcases topF_most h.ok xs.length (Nat.le_refl _) with ⟨h2, _⟩ | ⟨k, hk, _, h2, h3, h4⟩
  · have := hc.1
    unfold topS at this
    omega
  · have e1 : topS xs = (k : Int) := h2
    have e2 : topX xs = xs[k] := by unfold topX; rw [e1, Int.toNat_natCast, getD_at hk]
    refine ⟨k, hk, e1, e2, by unfold takL; rw [e1, e2, Int.toNat_natCast], h3, by rw [← e2]; exact hc.2, fun i hi hs => h4 i hi hi hs⟩
theorem takL_gs {xs : List Slot} {limit : Int} (h : GS xs) (hc : canT xs limit = true) : GS (takL xs) := by
  obtain ⟨k, hk, _, _, e, h1, _⟩ := canT_at h hc
  rw [e]
  exact gs_state h hk (by omega) (by omega)
def endF (s : Slot) : Slot := bif s.State == 2 then gS else setSt s 1
def canE (xs : List Slot) (irq : Int) : Bool := decide (fndS xs irq ≥ 0) && !((xs.getD (fndS xs irq).toNat gS).State == 1)
def endL (xs : List Slot) (irq : Int) : List Slot := xs.set (fndS xs irq).toNat (endF (xs.getD (fndS xs irq).toNat gS))
theorem canE_at {xs : List Slot} {irq : Int} (h : GS xs) (hc : canE xs irq = true) : ∃ k, ∃ hk : k < xs.length, fndS xs irq = (k : Int) ∧ (xs[k].State = 2 ∨ xs[k].State = 3) ∧ xs[k].Irq = irq ∧ endL xs irq = xs.set k (endF xs[k]) := by
  unfold canE at hc
  rw [Bool.and_eq_true, decide_eq_true_eq] at hc
  obtain ⟨k, hk, h2, h3, h4⟩ := fnd_at (show ¬ fndS xs irq < 0 by omega)
  have h5 := hc.2
  rw [h2, Int.toNat_natCast, getD_at hk] at h5
  have h6 : xs[k].State ≠ 1 := by simpa using h5
  have h7 := (h.ok _ (List.getElem_mem hk)).1
  exact ⟨k, hk, h2, by omega, h4, by unfold endL; rw [h2, Int.toNat_natCast, getD_at hk]⟩
theorem endL_gs {xs : List Slot} {irq : Int} (h : GS xs) (hc : canE xs irq = true) : GS (endL xs irq) := by
  obtain ⟨k, hk, _, hs, _, e⟩ := canE_at h hc
  rw [e]
  unfold endF
  rcases hs with hs | hs
  · have : (xs[k].State == 2) = true := by simp [hs]
    rw [this]
    exact gs_empty h hk
  · have : (xs[k].State == 2) = false := by simp [hs]
    rw [this]
    exact gs_state h hk (by omega) (by omega)
/-! ### Queues: offered, taken, ended -/
def hasW (ws : List Waiter) (irq : Int) : Bool := ws.any fun w => w.Irq == irq
def offQ (q : Queue) (w : Waiter) : Queue :=
  bif decide (fndS q.Slots w.Irq ≥ 0) then settleQ ⟨q.Slots.set (fndS q.Slots w.Irq).toNat (putF (q.Slots.getD (fndS q.Slots w.Irq).toNat gS)), q.Waiting⟩
  else (bif hasW q.Waiting w.Irq then settleQ q else settleQ ⟨q.Slots, insU q.Waiting w⟩)
theorem gp_slots {q : Queue} (h : GP q) {ys : List Slot} (hg : GS ys) (hs : ∀ s ∈ ys, s.State = 0 ∨ ∃ t ∈ q.Slots, t.State ≠ 0 ∧ t.Irq = s.Irq) : GP ⟨ys, q.Waiting⟩ := by
  refine ⟨hg, h.ok, h.ord, h.dist, fun w hw s hsm => ?_⟩
  rcases hs s hsm with e | ⟨t, ht, ht0, hti⟩
  · exact Or.inl e
  · rcases h.apart w hw t ht with g | g
    · exact absurd g ht0
    · exact Or.inr (fun e => g (hti.trans e))
theorem gp_ins {q : Queue} (h : GP q) {w : Waiter} (hw : okWt w) (h1 : fndS q.Slots w.Irq < 0) (h2 : hasW q.Waiting w.Irq = false) : GP ⟨q.Slots, insU q.Waiting w⟩ := by
  have hins := insU_perm q.Waiting w
  have hno : ∀ x ∈ q.Waiting, x.Irq ≠ w.Irq := fun x hx e => by
    unfold hasW at h2
    rw [List.any_eq_false] at h2
    exact h2 x hx (by simp [e])
  refine ⟨h.s, fun x hx => ?_, insU_ord h.ord fun x hx => irq_key (h.ok x hx) hw (hno x hx), ?_, fun x hx s hs => ?_⟩
  · rcases List.mem_cons.1 (hins.mem_iff.1 hx) with rfl | hx
    · exact hw
    · exact h.ok x hx
  · rw [(hins.map Waiter.Irq).nodup_iff, List.map_cons, List.nodup_cons]
    refine ⟨fun hm => ?_, h.dist⟩
    obtain ⟨x, hx, e⟩ := List.mem_map.1 hm
    exact hno x hx e
  · rcases List.mem_cons.1 (hins.mem_iff.1 hx) with rfl | hx
    · exact fndS_none.1 h1 s hs
    · exact h.apart x hx s hs
theorem gp_put {q : Queue} (h : GP q) {k : Nat} (hk : k < q.Slots.length) (h0 : q.Slots[k].State ≠ 0) : GP ⟨q.Slots.set k (putF q.Slots[k]), q.Waiting⟩ := by
  refine gp_slots h (putF_gs h.s hk h0) fun s hs => ?_
  rcases mem_set_iff hk hs with rfl | ⟨j, hj, _, rfl⟩
  · exact Or.inr ⟨_, List.getElem_mem hk, h0, (putF_st _).1.symm⟩
  · by_cases hz : q.Slots[j].State = 0
    · exact Or.inl hz
    · exact Or.inr ⟨_, List.getElem_mem hj, hz, rfl⟩
theorem offQ_ok {q : Queue} (h : GP q) {w : Waiter} (hw : okWt w) : GP (offQ q w) ∧ calm (offQ q w) := by
  unfold offQ
  by_cases hf : fndS q.Slots w.Irq < 0
  · have e : decide (fndS q.Slots w.Irq ≥ 0) = false := by simp; omega
    rw [e, cond_false]
    cases hh : hasW q.Waiting w.Irq with
    | true =>
      obtain ⟨h1, h2⟩ := settleQ_ok h
      exact ⟨h1.p, h2⟩
    | false =>
      obtain ⟨h1, h2⟩ := settleQ_ok (gp_ins h hw hf hh)
      exact ⟨h1.p, h2⟩
  · have e : decide (fndS q.Slots w.Irq ≥ 0) = true := by simp; omega
    rw [e, cond_true]
    obtain ⟨k, hk, h2, h3, h4⟩ := fnd_at hf
    rw [h2, Int.toNat_natCast, getD_at hk]
    obtain ⟨h1, h2⟩ := settleQ_ok (gp_put h hk h3)
    exact ⟨h1.p, h2⟩
theorem gp_take {q : Queue} (h : GP q) {limit : Int} (hc : canT q.Slots limit = true) : GP ⟨takL q.Slots, q.Waiting⟩ := by
  refine gp_slots h (takL_gs h.s hc) fun s hs => ?_
  obtain ⟨k, hk, _, _, e, h1, _⟩ := canT_at h.s hc
  rw [e] at hs
  rcases mem_set_iff hk hs with rfl | ⟨j, hj, _, rfl⟩
  · exact Or.inr ⟨_, List.getElem_mem hk, by omega, rfl⟩
  · by_cases hz : q.Slots[j].State = 0
    · exact Or.inl hz
    · exact Or.inr ⟨_, List.getElem_mem hj, hz, rfl⟩
theorem calm_take {q : Queue} (h : GQ q) {limit : Int} (hc : canT q.Slots limit = true) : calm ⟨takL q.Slots, q.Waiting⟩ := by
  rcases h.2 with e | ⟨h1, h2⟩
  · exact Or.inl e
  · obtain ⟨k, hk, _, _, e, hs1, _⟩ := canT_at h.1.s hc
    refine Or.inr ⟨fun s hs => ?_, fun s hs h5 => ?_⟩
    · rw [e] at hs
      rcases mem_set_iff hk hs with rfl | ⟨j, hj, _, rfl⟩
      · simp [setSt]
      · exact h1 _ (List.getElem_mem hj)
    · rw [e] at hs
      rcases mem_set_iff hk hs with rfl | ⟨j, hj, _, rfl⟩
      · simp [setSt] at h5
      · exact h2 _ (List.getElem_mem hj) h5
theorem gp_end {q : Queue} (h : GP q) {irq : Int} (hc : canE q.Slots irq = true) : GP ⟨endL q.Slots irq, q.Waiting⟩ := by
  refine gp_slots h (endL_gs h.s hc) fun s hs => ?_
  obtain ⟨k, hk, _, hst, _, e⟩ := canE_at h.s hc
  rw [e] at hs
  rcases mem_set_iff hk hs with rfl | ⟨j, hj, _, rfl⟩
  · unfold endF
    cases hz : (q.Slots[k].State == 2) with
    | true => exact Or.inl rfl
    | false => exact Or.inr ⟨_, List.getElem_mem hk, by omega, rfl⟩
  · by_cases hz : q.Slots[j].State = 0
    · exact Or.inl hz
    · exact Or.inr ⟨_, List.getElem_mem hj, hz, rfl⟩
def endQ (q : Queue) (irq : Int) : Queue := settleQ ⟨endL q.Slots irq, q.Waiting⟩
theorem endQ_ok {q : Queue} (h : GP q) {irq : Int} (hc : canE q.Slots irq = true) : GQ (endQ q irq) := by
  obtain ⟨h1, h2⟩ := settleQ_ok (gp_end h hc)
  exact ⟨h1.p, h2⟩

end Go.Proofs.YtllhajkgkghhdaaGreat
