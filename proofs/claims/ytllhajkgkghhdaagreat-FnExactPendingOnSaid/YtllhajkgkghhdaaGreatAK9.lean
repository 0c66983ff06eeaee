/- Plain laws of the models: no program in sight. -/
import Derived.Test.YtllhajkgkghhdaaGreatAM
import Derived.Test.YtllhajkgkghhdaaGreatAK8
set_option linter.unusedVariables false
set_option linter.unusedSimpArgs false
set_option maxHeartbeats 4000000
namespace Go.Proofs.YtllhajkgkghhdaaGreat
open Go.Gx
/-! ### Interfaces as plain facts -/
def actW (xs : List Slot) : List Waiter := (xs.filter isAct).map wOf
theorem actS_W (xs : List Slot) : actS xs = (actW xs).map Waiter.Irq := by
  unfold actS actW
  rw [List.map_map]
  rfl
theorem actM_W {xs ys : List Slot} (h : actM xs = actM ys) : xs.filter isAct = ys.filter isAct := by
  have key : ∀ l : List Slot, (actM l).filterMap id = l.filter isAct := by
    intro l
    induction l with
    | nil => rfl
    | cons s r ih =>
      unfold actM at ih ⊢
      rw [List.map_cons]
      cases hs : isAct s with
      | true => rw [cond_true, List.filter_cons_of_pos hs, List.filterMap_cons_some (f := id) (a := some s) (b := s) rfl, ih]
      | false => rw [cond_false, List.filter_cons_of_neg (by simp [hs]), List.filterMap_cons_none (f := id) (a := (none : Option Slot)) rfl, ih]
  rw [← key, ← key, h]
theorem isAct_st {s : Slot} (h : isAct s = true) : s.State ≠ 0 ∧ (s.State = 2 ∨ s.State = 3) := by
  unfold isAct at h
  rw [Bool.or_eq_true, beq_iff_eq, beq_iff_eq] at h
  omega
theorem lev_act {xs : List Slot} (h : GS xs) {w : Waiter} (hw : w ∈ actW xs) : levS xs w.Irq = w.Priority := by
  obtain ⟨s, hs, rfl⟩ := List.mem_map.1 hw
  obtain ⟨hs1, hs2⟩ := List.mem_filter.1 hs
  obtain ⟨i, hi, rfl⟩ := List.getElem_of_mem hs1
  have := fnd_is h hi (isAct_st hs2).1
  unfold levS
  simp only [wOf]
  rw [this, Int.toNat_natCast, getD_at hi]
theorem act_mem {xs : List Slot} {q : Int} (h : q ∈ (actW xs).map Waiter.Irq) : ∃ w ∈ actW xs, w.Irq = q := by
  obtain ⟨w, hw, rfl⟩ := List.mem_map.1 h
  exact ⟨w, hw, rfl⟩
theorem actW_dist {xs : List Slot} (h : GS xs) : ((actW xs).map Waiter.Irq).Nodup := by
  have := sep_irqs h.sep isAct (fun s hs => (isAct_st hs).1)
  unfold actW
  rw [List.map_map]
  exact this
/-- An interface as it should be. -/
structure GI (x : Interface) : Prop where
  mask : 0 ≤ x.Mask ∧ x.Mask ≤ 16
  q : GQ x.Queue
  stk : x.Stack.Perm ((actW x.Queue.Slots).map Waiter.Irq)
  lev : x.Stack.Pairwise fun a b => levS x.Queue.Slots b < levS x.Queue.Slots a
theorem goodI_iff (x : Interface) : goodI x = true ↔ GI x := by
  unfold goodI inR
  simp only [Bool.and_eq_true, decide_eq_true_eq, goodQ_iff, sort_eq_iff, actS_W]
  have hl : levsOk x.Queue.Slots x.Stack = true ↔ x.Stack.Pairwise fun a b => levS x.Queue.Slots b < levS x.Queue.Slots a := by
    unfold levsOk
    rw [List.all_eq_true, List.pairwise_iff_getElem]
    constructor
    · intro h
      have hb : ∀ i, (hi : i + 1 < x.Stack.length) → levS x.Queue.Slots x.Stack[i + 1] < levS x.Queue.Slots (x.Stack[i]'(by omega)) := fun i hi => by
        have := h (i + 1) (List.mem_range.2 hi)
        rw [Nat.add_sub_cancel, getD_at hi, getD_at (show i < x.Stack.length by omega)] at this
        simpa using this
      have key : ∀ d i, (hj : i + d + 1 < x.Stack.length) → levS x.Queue.Slots x.Stack[i + d + 1] < levS x.Queue.Slots (x.Stack[i]'(by omega)) := by
        intro d
        induction d with
        | zero => intro i hj; exact hb i hj
        | succ d ih =>
          intro i hj
          have h3 := ih i (by omega)
          have h4 := hb (i + (d + 1)) hj
          simp only [show i + (d + 1) = i + d + 1 by omega] at h4 ⊢
          omega
      intro i j hi hj hij
      have := key (j - i - 1) i (by omega)
      simp only [show i + (j - i - 1) + 1 = j by omega] at this
      exact this
    · intro h i hi
      have hi := List.mem_range.1 hi
      by_cases h0 : i = 0
      · simp [h0]
      · rw [getD_at hi, getD_at (show i - 1 < x.Stack.length by omega)]
        have := h (i - 1) i (by omega) hi (by omega)
        simp [this]
  rw [hl]
  constructor
  · rintro ⟨h1, h2, h3, h4⟩
    exact ⟨h1, h2, h3, h4⟩
  · rintro ⟨h1, h2, h3, h4⟩
    exact ⟨h1, h2, h3, h4⟩
theorem gi_slots {x : Interface} (h : GI x) : GS x.Queue.Slots := h.q.1.s
theorem gi_stack {x : Interface} (h : GI x) {q : Int} (hq : q ∈ x.Stack) : ∃ w ∈ actW x.Queue.Slots, w.Irq = q := act_mem (h.stk.mem_iff.1 hq)
theorem gi_len {x : Interface} (h : GI x) : x.Stack.length ≤ 4 := by
  rw [h.stk.length_eq, List.length_map]
  unfold actW
  rw [List.length_map]
  have := List.length_filter_le isAct x.Queue.Slots
  rw [(gi_slots h).len] at this
  exact this
theorem gi_fit {x : Interface} (h : GI x) : fitIf x := by
  refine ⟨by have := gi_len h; omega, by rw [(gi_slots h).len]; omega, by have := gp_waiting h.q.1; omega⟩
/-- Other slots with the same that are active, in another order. -/
theorem lev_same {xs ys : List Slot} (hx : GS xs) (hy : GS ys) {q : Int} (h1 : ∃ w ∈ actW xs, w.Irq = q) (h2 : ∀ w ∈ actW xs, w.Irq = q → w ∈ actW ys) : levS ys q = levS xs q := by
  obtain ⟨w, hw, rfl⟩ := h1
  rw [lev_act hx hw, lev_act hy (h2 w hw rfl)]
theorem actW_kept {q r : Queue} (h : kept q r) : actW r.Slots = actW q.Slots := by
  unfold actW
  rw [actM_W h.act]
theorem actW_cut (A B : List Slot) (x : Slot) : (actW (A ++ x :: B)).Perm ((bif isAct x then [wOf x] else []) ++ (actW A ++ actW B)) := by
  unfold actW
  rw [List.filter_append, List.map_append]
  cases hx : isAct x with
  | true =>
    rw [List.filter_cons_of_pos hx, List.map_cons]
    exact List.perm_middle
  | false =>
    rw [List.filter_cons_of_neg (by simp [hx])]
    exact List.Perm.refl _
theorem actW_set {xs : List Slot} {k : Nat} (hk : k < xs.length) (y : Slot) : ((bif isAct xs[k] then [wOf xs[k]] else []) ++ actW (xs.set k y)).Perm ((bif isAct y then [wOf y] else []) ++ actW xs) := by
  obtain ⟨c1, c2⟩ := set_cut hk y
  have p1 := actW_cut (xs.take k) (xs.drop (k + 1)) xs[k]
  have p2 := actW_cut (xs.take k) (xs.drop (k + 1)) y
  rw [← c1] at p1
  rw [← c2] at p2
  refine (List.Perm.append_left _ p2).trans ?_
  refine List.Perm.trans ?_ (List.Perm.append_left _ p1).symm
  have h := (List.perm_append_comm (l₁ := bif isAct xs[k] then [wOf xs[k]] else []) (l₂ := bif isAct y then [wOf y] else [])).append_right (actW (xs.take k) ++ actW (xs.drop (k + 1)))
  rw [List.append_assoc, List.append_assoc] at h
  exact h
/-- The same interface over slots with the same that are active. -/
theorem gi_over {x : Interface} (h : GI x) {r : Queue} (hr : GQ r) (ha : (actW r.Slots).Perm (actW x.Queue.Slots)) : GI ⟨x.Mask, x.Stack, r⟩ := by
  refine ⟨h.mask, hr, h.stk.trans (ha.symm.map Waiter.Irq), ?_⟩
  refine h.lev.imp_of_mem fun {a b} hma hmb hab => ?_
  have e1 := lev_same (gi_slots h) hr.1.s (gi_stack h hma) fun w hw _ => ha.mem_iff.2 hw
  have e2 := lev_same (gi_slots h) hr.1.s (gi_stack h hmb) fun w hw _ => ha.mem_iff.2 hw
  simp only
  rw [e1, e2]
  exact hab
/-! ### Raised, taken, left -/
def raiI (x : Interface) (w : Waiter) : Interface := ⟨x.Mask, x.Stack, offQ x.Queue w⟩
theorem offQ_act {q : Queue} (h : GP q) {w : Waiter} (hw : okWt w) : (actW (offQ q w).Slots).Perm (actW q.Slots) := by
  unfold offQ
  by_cases hf : fndS q.Slots w.Irq < 0
  · have e : decide (fndS q.Slots w.Irq ≥ 0) = false := by simp; omega
    rw [e, cond_false]
    cases hh : hasW q.Waiting w.Irq with
    | true =>
      rw [cond_true, actW_kept (settleQ_ok h).1]
    | false =>
      rw [cond_false, actW_kept (settleQ_ok (gp_ins h hw hf hh)).1]
  · have e : decide (fndS q.Slots w.Irq ≥ 0) = true := by simp; omega
    rw [e, cond_true]
    obtain ⟨k, hk, h2, h3, h4⟩ := fnd_at hf
    rw [h2, Int.toNat_natCast, getD_at hk, actW_kept (settleQ_ok (gp_put h hk h3)).1]
    have p := actW_set hk (putF q.Slots[k])
    have ew : wOf (putF q.Slots[k]) = wOf q.Slots[k] := by unfold wOf; rw [(putF_st _).1, (putF_st _).2.1]
    have ea : isAct (putF q.Slots[k]) = isAct q.Slots[k] := by
      rcases (putF_st q.Slots[k]).2.2 with ⟨g1, g2⟩ | ⟨_, g2⟩
      · unfold isAct
        simp [g1, g2]
      · rw [g2]
    rw [ew, ea] at p
    exact (List.perm_append_left_iff _).1 p
theorem raiI_ok {x : Interface} (h : GI x) {w : Waiter} (hw : okWt w) : GI (raiI x w) := gi_over h (offQ_ok h.q.1 hw) (offQ_act h.q.1 hw)
def runP (x : Interface) : Int := bif decide (x.Stack.length = 0) then 16 else levS x.Queue.Slots (x.Stack.getD (x.Stack.length - 1) 0)
def limI (x : Interface) : Int := bif decide (x.Mask < runP x) then x.Mask else runP x
def canTI (x : Interface) : Bool := canT x.Queue.Slots (limI x)
def takI (x : Interface) : Interface := ⟨x.Mask, x.Stack ++ [(topX x.Queue.Slots).Irq], ⟨takL x.Queue.Slots, x.Queue.Waiting⟩⟩
theorem limI_le (x : Interface) : limI x ≤ x.Mask ∧ limI x ≤ runP x := by
  unfold limI
  by_cases h : x.Mask < runP x
  · simp only [h, decide_true, cond_true]; omega
  · simp only [h, decide_false, cond_false]; omega
theorem run_lt {x : Interface} (h : GI x) {q : Int} (hq : q ∈ x.Stack) : runP x ≤ levS x.Queue.Slots q := by
  obtain ⟨i, hi, rfl⟩ := List.getElem_of_mem hq
  have h0 : ¬ x.Stack.length = 0 := by omega
  unfold runP
  simp only [h0, decide_false, cond_false]
  rw [getD_at (show x.Stack.length - 1 < x.Stack.length by omega)]
  by_cases e : i = x.Stack.length - 1
  · have : x.Stack[x.Stack.length - 1]'(by omega) = x.Stack[i] := by congr 1; exact e.symm
    rw [this]
    exact Int.le_refl _
  · have := List.pairwise_iff_getElem.1 h.lev i (x.Stack.length - 1) hi (by omega) (by omega)
    omega
theorem takI_ok {x : Interface} (h : GI x) (hc : canTI x = true) : GI (takI x) := by
  have hs := gi_slots h
  obtain ⟨k, hk, e1, e2, e3, h1, h2, h3⟩ := canT_at hs hc
  have hg : GS (takL x.Queue.Slots) := takL_gs hs hc
  have hp := actW_set hk (setSt x.Queue.Slots[k] 2)
  have a1 : isAct x.Queue.Slots[k] = false := by unfold isAct; simp [h1]
  have a2 : isAct (setSt x.Queue.Slots[k] 2) = true := by simp [isAct, setSt]
  rw [a1, a2, ← e3] at hp
  simp only [cond_false, cond_true, List.nil_append, List.cons_append] at hp
  have ew : wOf (setSt x.Queue.Slots[k] 2) = wOf x.Queue.Slots[k] := rfl
  rw [ew] at hp
  have hlev : ∀ q ∈ x.Stack, levS (takL x.Queue.Slots) q = levS x.Queue.Slots q := fun q hq => lev_same hs hg (gi_stack h hq) fun w hw _ => hp.mem_iff.2 (by simp [hw])
  have hnew : levS (takL x.Queue.Slots) x.Queue.Slots[k].Irq = x.Queue.Slots[k].Priority := lev_act hg (w := wOf x.Queue.Slots[k]) (hp.mem_iff.2 (by simp))
  unfold takI
  refine ⟨h.mask, ⟨gp_take h.q.1 hc, calm_take h.q hc⟩, ?_, ?_⟩
  · simp only
    rw [e2]
    refine List.Perm.trans ?_ (hp.symm.map Waiter.Irq)
    rw [List.map_cons]
    refine List.perm_append_comm.trans ?_
    exact h.stk.cons _
  · simp only
    rw [e2, List.pairwise_append]
    refine ⟨h.lev.imp_of_mem fun {a b} ha hb hab => by rw [hlev a ha, hlev b hb]; exact hab, by simp, fun a ha b hb => ?_⟩
    rw [List.mem_singleton] at hb
    subst hb
    rw [hlev a ha, hnew]
    have g1 := run_lt h ha
    have g2 := (limI_le x).2
    omega
def lastI (x : Interface) : Int := x.Stack.getD (x.Stack.length - 1) 0
def leaI (x : Interface) : Interface := ⟨x.Mask, x.Stack.take (x.Stack.length - 1), endQ x.Queue (lastI x)⟩
theorem stack_last {x : Interface} (h : x.Stack.length ≠ 0) : x.Stack = x.Stack.take (x.Stack.length - 1) ++ [lastI x] := by
  have hl : x.Stack.length - 1 < x.Stack.length := by omega
  conv => lhs; rw [← List.take_append_drop (x.Stack.length - 1) x.Stack]
  rw [List.drop_eq_getElem_cons hl, List.drop_eq_nil_of_le (by omega)]
  unfold lastI
  rw [getD_at hl]
theorem last_can {x : Interface} (h : GI x) (h0 : x.Stack.length ≠ 0) : canE x.Queue.Slots (lastI x) = true ∧ ∃ k, ∃ hk : k < x.Queue.Slots.length, fndS x.Queue.Slots (lastI x) = (k : Int) ∧ isAct x.Queue.Slots[k] = true ∧ x.Queue.Slots[k].Irq = lastI x := by
  have hm : lastI x ∈ x.Stack := by rw [stack_last h0]; simp
  obtain ⟨w, hw, he⟩ := gi_stack h hm
  obtain ⟨s, hs, rfl⟩ := List.mem_map.1 hw
  obtain ⟨hs1, hs2⟩ := List.mem_filter.1 hs
  obtain ⟨i, hi, rfl⟩ := List.getElem_of_mem hs1
  have hst := isAct_st hs2
  have hf := fnd_is (gi_slots h) hi hst.1
  simp only [wOf] at he
  rw [he] at hf
  refine ⟨?_, i, hi, hf, hs2, he⟩
  unfold canE
  rw [hf, Int.toNat_natCast, getD_at hi]
  have h1 : x.Queue.Slots[i].State ≠ 1 := by omega
  simp [h1]
theorem leaI_ok {x : Interface} (h : GI x) (h0 : x.Stack.length ≠ 0) : GI (leaI x) := by
  have hs := gi_slots h
  obtain ⟨hc, k, hk, hf, ha, hi⟩ := last_can h h0
  obtain ⟨k', hk', hf', hst, _, he⟩ := canE_at hs hc
  have hkk : k' = k := by omega
  subst hkk
  have hg := endL_gs hs hc
  obtain ⟨hkp, hcalm⟩ := settleQ_ok (gp_end h.q.1 hc)
  have hp := actW_set hk (endF x.Queue.Slots[k'])
  have a2 : isAct (endF x.Queue.Slots[k']) = false := by
    unfold endF
    cases (x.Queue.Slots[k'].State == 2) <;> rfl
  rw [ha, a2, ← he] at hp
  simp only [cond_false, cond_true, List.nil_append, List.cons_append] at hp
  have hact : actW (endQ x.Queue (lastI x)).Slots = actW (endL x.Queue.Slots (lastI x)) := actW_kept hkp
  have hg2 : GS (endQ x.Queue (lastI x)).Slots := hkp.p.s
  have hl := stack_last h0
  have hlev : ∀ q ∈ x.Stack.take (x.Stack.length - 1), levS (endQ x.Queue (lastI x)).Slots q = levS x.Queue.Slots q := fun q hq => by
    have hq' : q ∈ x.Stack := List.mem_of_mem_take hq
    refine lev_same hs hg2 (gi_stack h hq') fun w hw hwq => ?_
    rw [hact]
    rcases List.mem_cons.1 (hp.mem_iff.2 hw) with e | e
    · exfalso
      have hnd : x.Stack.Nodup := (h.stk.nodup_iff).2 (actW_dist hs)
      rw [hl, List.nodup_append] at hnd
      have e3 : w.Irq = lastI x := by rw [e]; exact hi
      exact hnd.2.2 q hq (lastI x) (by simp) (by rw [← hwq, e3])
    · exact e
  unfold leaI
  refine ⟨h.mask, ⟨hkp.p, hcalm⟩, ?_, ?_⟩
  · simp only
    rw [hact]
    have h1 := h.stk
    have h2 := (hp.map Waiter.Irq).symm
    have h3 := h1.trans h2
    rw [hl, List.map_cons] at h3
    have e4 : (wOf x.Queue.Slots[k']).Irq = lastI x := hi
    rw [e4] at h3
    have h4 := List.perm_append_comm.trans h3
    rw [List.cons_append, List.nil_append] at h4
    have h5 := h4.cons_inv
    have e5 : (x.Stack.take (x.Stack.length - 1) ++ [lastI x]).length = x.Stack.length := by rw [← hl]
    simpa using h5
  · simp only
    have h1 := h.lev
    rw [hl, List.pairwise_append] at h1
    have h2 := h1.1
    refine List.Pairwise.imp_of_mem ?_ (show (x.Stack.take (x.Stack.length - 1)).Pairwise fun a b => levS x.Queue.Slots b < levS x.Queue.Slots a from by
      have := h.lev
      rw [hl, List.pairwise_append] at this
      exact this.1)
    intro a b ha hb hab
    rw [hlev a ha, hlev b hb]
    exact hab

end Go.Proofs.YtllhajkgkghhdaaGreat
