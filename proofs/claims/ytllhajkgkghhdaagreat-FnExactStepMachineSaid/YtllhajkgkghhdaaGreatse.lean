/- Part of a proof: what its last text rests on. -/
import Derived.Lib.SmallJoins
import Derived.Below
import Derived.Carry
import Derived.ChangeOld
import Derived.Test.YtllhajkgkghhdaaGreatRows
import Derived.WalkKit
import Derived.ProofKit
import Derived.OpenShut
import Derived.ShutString
import Derived.Test.YtllhajkgkghhdaaGreatsd
set_option linter.unusedVariables false
set_option linter.unusedSimpArgs false
set_option maxHeartbeats 4000000
namespace Go.Proofs.YtllhajkgkghhdaaGreat
open Go.Gx
def actW (xs : List Slot) : List Waiter := (xs.filter isAct).map wOf
theorem actS_W (xs : List Slot) : actS xs = (actW xs).map Waiter.Irq := by
  unfold actS actW
  rw [List.map_map]
  rfl
theorem actM_W {xs ys : List Slot} (h : actM xs = actM ys) : xs.filter isAct = ys.filter isAct := by
  have key : ∀ l : List Slot, (actM l).filterMap id = l.filter isAct := by
    intro l
    induction l with
    | nil => rfl
    | cons s r ih =>
      unfold actM at ih ⊢
      rw [List.map_cons]
      cases hs : isAct s with
      | true => rw [cond_true, List.filter_cons_of_pos hs, List.filterMap_cons_some (f := id) (a := some s) (b := s) rfl, ih]
      | false => rw [cond_false, List.filter_cons_of_neg (by simp [hs]), List.filterMap_cons_none (f := id) (a := (none : Option Slot)) rfl, ih]
  rw [← key, ← key, h]
theorem isAct_st {s : Slot} (h : isAct s = true) : s.State ≠ 0 ∧ (s.State = 2 ∨ s.State = 3) := by
  unfold isAct at h
  rw [Bool.or_eq_true, beq_iff_eq, beq_iff_eq] at h
  omega
theorem lev_act {xs : List Slot} (h : GS xs) {w : Waiter} (hw : w ∈ actW xs) : levS xs w.Irq = w.Priority := by
  obtain ⟨s, hs, rfl⟩ := List.mem_map.1 hw
  obtain ⟨hs1, hs2⟩ := List.mem_filter.1 hs
  obtain ⟨i, hi, rfl⟩ := List.getElem_of_mem hs1
  have := fnd_is h hi (isAct_st hs2).1
  unfold levS
  simp only [wOf]
  rw [this, Int.toNat_natCast, getD_at hi]
theorem act_mem {xs : List Slot} {q : Int} (h : q ∈ (actW xs).map Waiter.Irq) : ∃ w ∈ actW xs, w.Irq = q := by
  obtain ⟨w, hw, rfl⟩ := List.mem_map.1 h
  exact ⟨w, hw, rfl⟩
theorem actW_dist {xs : List Slot} (h : GS xs) : ((actW xs).map Waiter.Irq).Nodup := by
  have := sep_irqs h.sep isAct (fun s hs => (isAct_st hs).1)
  unfold actW
  rw [List.map_map]
  exact this
structure GI (x : Interface) : Prop where
  mask : 0 ≤ x.Mask ∧ x.Mask ≤ 16
  q : GQ x.Queue
  stk : x.Stack.Perm ((actW x.Queue.Slots).map Waiter.Irq)
  lev : x.Stack.Pairwise fun a b => levS x.Queue.Slots b < levS x.Queue.Slots a
theorem goodI_iff (x : Interface) : goodI x = true ↔ GI x := by
  unfold goodI inR
  simp only [Bool.and_eq_true, decide_eq_true_eq, goodQ_iff, sort_eq_iff, actS_W]
  have hl : levsOk x.Queue.Slots x.Stack = true ↔ x.Stack.Pairwise fun a b => levS x.Queue.Slots b < levS x.Queue.Slots a := by
    unfold levsOk
    rw [List.all_eq_true, List.pairwise_iff_getElem]
    constructor
    · intro h
      have hb : ∀ i, (hi : i + 1 < x.Stack.length) → levS x.Queue.Slots x.Stack[i + 1] < levS x.Queue.Slots (x.Stack[i]'(by omega)) := fun i hi => by
        have := h (i + 1) (List.mem_range.2 hi)
        rw [Nat.add_sub_cancel, getD_at hi, getD_at (show i < x.Stack.length by omega)] at this
        simpa using this
      have key : ∀ d i, (hj : i + d + 1 < x.Stack.length) → levS x.Queue.Slots x.Stack[i + d + 1] < levS x.Queue.Slots (x.Stack[i]'(by omega)) := by
        intro d
        induction d with
        | zero => intro i hj; exact hb i hj
        | succ d ih =>
          intro i hj
          have h3 := ih i (by omega)
          have h4 := hb (i + (d + 1)) hj
          simp only [show i + (d + 1) = i + d + 1 by omega] at h4 ⊢
          omega
      intro i j hi hj hij
      have := key (j - i - 1) i (by omega)
      simp only [show i + (j - i - 1) + 1 = j by omega] at this
      exact this
    · intro h i hi
      have hi := List.mem_range.1 hi
      by_cases h0 : i = 0
      · simp [h0]
      · rw [getD_at hi, getD_at (show i - 1 < x.Stack.length by omega)]
        have := h (i - 1) i (by omega) hi (by omega)
        simp [this]
  rw [hl]
  constructor
  · rintro ⟨h1, h2, h3, h4⟩
    exact ⟨h1, h2, h3, h4⟩
  · rintro ⟨h1, h2, h3, h4⟩
    exact ⟨h1, h2, h3, h4⟩
theorem gi_slots {x : Interface} (h : GI x) : GS x.Queue.Slots := h.q.1.s
theorem gi_stack {x : Interface} (h : GI x) {q : Int} (hq : q ∈ x.Stack) : ∃ w ∈ actW x.Queue.Slots, w.Irq = q := act_mem (h.stk.mem_iff.1 hq)
theorem gi_len {x : Interface} (h : GI x) : x.Stack.length ≤ 4 := by
  rw [h.stk.length_eq, List.length_map]
  unfold actW
  rw [List.length_map]
  have := List.length_filter_le isAct x.Queue.Slots
  rw [(gi_slots h).len] at this
  exact this
theorem gi_fit {x : Interface} (h : GI x) : fitIf x := by
  refine ⟨by have := gi_len h; omega, by rw [(gi_slots h).len]; omega, by have := gp_waiting h.q.1; omega⟩
theorem lev_same {xs ys : List Slot} (hx : GS xs) (hy : GS ys) {q : Int} (h1 : ∃ w ∈ actW xs, w.Irq = q) (h2 : ∀ w ∈ actW xs, w.Irq = q → w ∈ actW ys) : levS ys q = levS xs q := by
  obtain ⟨w, hw, rfl⟩ := h1
  rw [lev_act hx hw, lev_act hy (h2 w hw rfl)]
theorem actW_kept {q r : Queue} (h : kept q r) : actW r.Slots = actW q.Slots := by
  unfold actW
  rw [actM_W h.act]
theorem actW_cut (A B : List Slot) (x : Slot) : (actW (A ++ x :: B)).Perm ((bif isAct x then [wOf x] else []) ++ (actW A ++ actW B)) := by
  unfold actW
  rw [List.filter_append, List.map_append]
  cases hx : isAct x with
  | true =>
    rw [List.filter_cons_of_pos hx, List.map_cons]
    exact List.perm_middle
  | false =>
    rw [List.filter_cons_of_neg (by simp [hx])]
    exact List.Perm.refl _
theorem actW_set {xs : List Slot} {k : Nat} (hk : k < xs.length) (y : Slot) : ((bif isAct xs[k] then [wOf xs[k]] else []) ++ actW (xs.set k y)).Perm ((bif isAct y then [wOf y] else []) ++ actW xs) := by
  obtain ⟨c1, c2⟩ := set_cut hk y
  have p1 := actW_cut (xs.take k) (xs.drop (k + 1)) xs[k]
  have p2 := actW_cut (xs.take k) (xs.drop (k + 1)) y
  rw [← c1] at p1
  rw [← c2] at p2
  refine (List.Perm.append_left _ p2).trans ?_
  refine List.Perm.trans ?_ (List.Perm.append_left _ p1).symm
  have h := (List.perm_append_comm (l₁ := bif isAct xs[k] then [wOf xs[k]] else []) (l₂ := bif isAct y then [wOf y] else [])).append_right (actW (xs.take k) ++ actW (xs.drop (k + 1)))
  rw [List.append_assoc, List.append_assoc] at h
  exact h
theorem gi_over {x : Interface} (h : GI x) {r : Queue} (hr : GQ r) (ha : (actW r.Slots).Perm (actW x.Queue.Slots)) : GI ⟨x.Mask, x.Stack, r⟩ := by
  refine ⟨h.mask, hr, h.stk.trans (ha.symm.map Waiter.Irq), ?_⟩
  refine h.lev.imp_of_mem fun {a b} hma hmb hab => ?_
  have e1 := lev_same (gi_slots h) hr.1.s (gi_stack h hma) fun w hw _ => ha.mem_iff.2 hw
  have e2 := lev_same (gi_slots h) hr.1.s (gi_stack h hmb) fun w hw _ => ha.mem_iff.2 hw
  simp only
  rw [e1, e2]
  exact hab
def raiI (x : Interface) (w : Waiter) : Interface := ⟨x.Mask, x.Stack, offQ x.Queue w⟩
theorem offQ_act {q : Queue} (h : GP q) {w : Waiter} (hw : okWt w) : (actW (offQ q w).Slots).Perm (actW q.Slots) := by
  unfold offQ
  by_cases hf : fndS q.Slots w.Irq < 0
  · have e : decide (fndS q.Slots w.Irq ≥ 0) = false := by simp; omega
    rw [e, cond_false]
    cases hh : hasW q.Waiting w.Irq with
    | true =>
      rw [cond_true, actW_kept (settleQ_ok h).1]
    | false =>
      rw [cond_false, actW_kept (settleQ_ok (gp_ins h hw hf hh)).1]
  · have e : decide (fndS q.Slots w.Irq ≥ 0) = true := by simp; omega
    rw [e, cond_true]
    obtain ⟨k, hk, h2, h3, h4⟩ := fnd_at hf
    rw [h2, Int.toNat_natCast, getD_at hk, actW_kept (settleQ_ok (gp_put h hk h3)).1]
    have p := actW_set hk (putF q.Slots[k])
    have ew : wOf (putF q.Slots[k]) = wOf q.Slots[k] := by unfold wOf; rw [(putF_st _).1, (putF_st _).2.1]
    have ea : isAct (putF q.Slots[k]) = isAct q.Slots[k] := by
      rcases (putF_st q.Slots[k]).2.2 with ⟨g1, g2⟩ | ⟨_, g2⟩
      · unfold isAct
        simp [g1, g2]
      · rw [g2]
    rw [ew, ea] at p
    exact (List.perm_append_left_iff _).1 p
theorem raiI_ok {x : Interface} (h : GI x) {w : Waiter} (hw : okWt w) : GI (raiI x w) := gi_over h (offQ_ok h.q.1 hw) (offQ_act h.q.1 hw)
def runP (x : Interface) : Int := bif decide (x.Stack.length = 0) then 16 else levS x.Queue.Slots (x.Stack.getD (x.Stack.length - 1) 0)
def limI (x : Interface) : Int := bif decide (x.Mask < runP x) then x.Mask else runP x
def canTI (x : Interface) : Bool := canT x.Queue.Slots (limI x)
def takI (x : Interface) : Interface := ⟨x.Mask, x.Stack ++ [(topX x.Queue.Slots).Irq], ⟨takL x.Queue.Slots, x.Queue.Waiting⟩⟩
theorem limI_le (x : Interface) : limI x ≤ x.Mask ∧ limI x ≤ runP x := by
  unfold limI
  by_cases h : x.Mask < runP x
  · simp only [h, decide_true, cond_true]; omega
  · simp only [h, decide_false, cond_false]; omega
theorem run_lt {x : Interface} (h : GI x) {q : Int} (hq : q ∈ x.Stack) : runP x ≤ levS x.Queue.Slots q := by
  obtain ⟨i, hi, rfl⟩ := List.getElem_of_mem hq
  have h0 : ¬ x.Stack.length = 0 := by omega
  unfold runP
  simp only [h0, decide_false, cond_false]
  rw [getD_at (show x.Stack.length - 1 < x.Stack.length by omega)]
  by_cases e : i = x.Stack.length - 1
  · have : x.Stack[x.Stack.length - 1]'(by omega) = x.Stack[i] := by congr 1; exact e.symm
    rw [this]
    exact Int.le_refl _
  · have := List.pairwise_iff_getElem.1 h.lev i (x.Stack.length - 1) hi (by omega) (by omega)
    omega
theorem takI_ok {x : Interface} (h : GI x) (hc : canTI x = true) : GI (takI x) := by
  have hs := gi_slots h
  obtain ⟨k, hk, e1, e2, e3, h1, h2, h3⟩ := canT_at hs hc
  have hg : GS (takL x.Queue.Slots) := takL_gs hs hc
  have hp := actW_set hk (setSt x.Queue.Slots[k] 2)
  have a1 : isAct x.Queue.Slots[k] = false := by unfold isAct; simp [h1]
  have a2 : isAct (setSt x.Queue.Slots[k] 2) = true := by simp [isAct, setSt]
  rw [a1, a2, ← e3] at hp
  simp only [cond_false, cond_true, List.nil_append, List.cons_append] at hp
  have ew : wOf (setSt x.Queue.Slots[k] 2) = wOf x.Queue.Slots[k] := rfl
  rw [ew] at hp
  have hlev : ∀ q ∈ x.Stack, levS (takL x.Queue.Slots) q = levS x.Queue.Slots q := fun q hq => lev_same hs hg (gi_stack h hq) fun w hw _ => hp.mem_iff.2 (by simp [hw])
  have hnew : levS (takL x.Queue.Slots) x.Queue.Slots[k].Irq = x.Queue.Slots[k].Priority := lev_act hg (w := wOf x.Queue.Slots[k]) (hp.mem_iff.2 (by simp))
  unfold takI
  refine ⟨h.mask, ⟨gp_take h.q.1 hc, calm_take h.q hc⟩, ?_, ?_⟩
  · simp only
    rw [e2]
    refine List.Perm.trans ?_ (hp.symm.map Waiter.Irq)
    rw [List.map_cons]
    refine List.perm_append_comm.trans ?_
    exact h.stk.cons _
  · simp only
    rw [e2, List.pairwise_append]
    refine ⟨h.lev.imp_of_mem fun {a b} ha hb hab => by rw [hlev a ha, hlev b hb]; exact hab, by simp, fun a ha b hb => ?_⟩
    rw [List.mem_singleton] at hb
    subst hb
    rw [hlev a ha, hnew]
    have g1 := run_lt h ha
    have g2 := (limI_le x).2
    omega
def lastI (x : Interface) : Int := x.Stack.getD (x.Stack.length - 1) 0
def leaI (x : Interface) : Interface := ⟨x.Mask, x.Stack.take (x.Stack.length - 1), endQ x.Queue (lastI x)⟩
theorem stack_last {x : Interface} (h : x.Stack.length ≠ 0) : x.Stack = x.Stack.take (x.Stack.length - 1) ++ [lastI x] := by
  have hl : x.Stack.length - 1 < x.Stack.length := by omega
  conv => lhs; rw [← List.take_append_drop (x.Stack.length - 1) x.Stack]
  rw [List.drop_eq_getElem_cons hl, List.drop_eq_nil_of_le (by omega)]
  unfold lastI
  rw [getD_at hl]
theorem last_can {x : Interface} (h : GI x) (h0 : x.Stack.length ≠ 0) : canE x.Queue.Slots (lastI x) = true ∧ ∃ k, ∃ hk : k < x.Queue.Slots.length, fndS x.Queue.Slots (lastI x) = (k : Int) ∧ isAct x.Queue.Slots[k] = true ∧ x.Queue.Slots[k].Irq = lastI x := by
  have hm : lastI x ∈ x.Stack := by rw [stack_last h0]; simp
  obtain ⟨w, hw, he⟩ := gi_stack h hm
  obtain ⟨s, hs, rfl⟩ := List.mem_map.1 hw
  obtain ⟨hs1, hs2⟩ := List.mem_filter.1 hs
  obtain ⟨i, hi, rfl⟩ := List.getElem_of_mem hs1
  have hst := isAct_st hs2
  have hf := fnd_is (gi_slots h) hi hst.1
  simp only [wOf] at he
  rw [he] at hf
  refine ⟨?_, i, hi, hf, hs2, he⟩
  unfold canE
  rw [hf, Int.toNat_natCast, getD_at hi]
  have h1 : x.Queue.Slots[i].State ≠ 1 := by omega
  simp [h1]
theorem leaI_ok {x : Interface} (h : GI x) (h0 : x.Stack.length ≠ 0) : GI (leaI x) := by
  have hs := gi_slots h
  obtain ⟨hc, k, hk, hf, ha, hi⟩ := last_can h h0
  obtain ⟨k', hk', hf', hst, _, he⟩ := canE_at hs hc
  have hkk : k' = k := by omega
  subst hkk
  have hg := endL_gs hs hc
  obtain ⟨hkp, hcalm⟩ := settleQ_ok (gp_end h.q.1 hc)
  have hp := actW_set hk (endF x.Queue.Slots[k'])
  have a2 : isAct (endF x.Queue.Slots[k']) = false := by
    unfold endF
    cases (x.Queue.Slots[k'].State == 2) <;> rfl
  rw [ha, a2, ← he] at hp
  simp only [cond_false, cond_true, List.nil_append, List.cons_append] at hp
  have hact : actW (endQ x.Queue (lastI x)).Slots = actW (endL x.Queue.Slots (lastI x)) := actW_kept hkp
  have hg2 : GS (endQ x.Queue (lastI x)).Slots := hkp.p.s
  have hl := stack_last h0
  have hlev : ∀ q ∈ x.Stack.take (x.Stack.length - 1), levS (endQ x.Queue (lastI x)).Slots q = levS x.Queue.Slots q := fun q hq => by
    have hq' : q ∈ x.Stack := List.mem_of_mem_take hq
    refine lev_same hs hg2 (gi_stack h hq') fun w hw hwq => ?_
    rw [hact]
    rcases List.mem_cons.1 (hp.mem_iff.2 hw) with e | e
    · exfalso
      have hnd : x.Stack.Nodup := (h.stk.nodup_iff).2 (actW_dist hs)
      rw [hl, List.nodup_append] at hnd
      have e3 : w.Irq = lastI x := by rw [e]; exact hi
      exact hnd.2.2 q hq (lastI x) (by simp) (by rw [← hwq, e3])
    · exact e
  unfold leaI
  refine ⟨h.mask, ⟨hkp.p, hcalm⟩, ?_, ?_⟩
  · simp only
    rw [hact]
    have h1 := h.stk
    have h2 := (hp.map Waiter.Irq).symm
    have h3 := h1.trans h2
    rw [hl, List.map_cons] at h3
    have e4 : (wOf x.Queue.Slots[k']).Irq = lastI x := hi
    rw [e4] at h3
    have h4 := List.perm_append_comm.trans h3
    rw [List.cons_append, List.nil_append] at h4
    have h5 := h4.cons_inv
    have e5 : (x.Stack.take (x.Stack.length - 1) ++ [lastI x]).length = x.Stack.length := by rw [← hl]
    simpa using h5
  · simp only
    have h1 := h.lev
    rw [hl, List.pairwise_append] at h1
    have h2 := h1.1
    refine List.Pairwise.imp_of_mem ?_ (show (x.Stack.take (x.Stack.length - 1)).Pairwise fun a b => levS x.Queue.Slots b < levS x.Queue.Slots a from by
      have := h.lev
      rw [hl, List.pairwise_append] at this
      exact this.1)
    intro a b ha hb hab
    rw [hlev a ha, hlev b hb]
    exact hab
end Go.Proofs.YtllhajkgkghhdaaGreat
set_option linter.unusedVariables false
set_option linter.unusedSimpArgs false
set_option maxHeartbeats 4000000
namespace Go.Proofs.YtllhajkgkghhdaaGreat
open Go.Gx
theorem take_tw {α : Type} (p : α → Bool) (ws : List α) : ws.take (ws.takeWhile p).length = ws.takeWhile p ∧ ws.drop (ws.takeWhile p).length = ws.dropWhile p ∧ (ws.takeWhile p).length ≤ ws.length := by
  have h1 := List.take_left (l₁ := ws.takeWhile p) (l₂ := ws.dropWhile p)
  have h2 := List.drop_left (l₁ := ws.takeWhile p) (l₂ := ws.dropWhile p)
  rw [List.takeWhile_append_dropWhile] at h1 h2
  exact ⟨h1, h2, (List.takeWhile_prefix p).length_le⟩
theorem s_wait (ws : List Waiter) (w : Waiter) (hl : ws.length ≤ 1048576) (hok : ∀ x ∈ ws, okWt x) (hw : okWt w) : M.s_l9Wait ws w = some (insU ws w) := by
  unfold M.s_l9Wait
  rw [while_place (fun x => decide (keyW x < keyW w)) (xs := ws) (by omega)]
  · obtain ⟨t1, t2, t3⟩ := take_tw (fun x => decide (keyW x < keyW w)) ws
    have p1 : gxApp 16 ([] : List Waiter) (ws.takeWhile fun x => decide (keyW x < keyW w)) = some (ws.takeWhile fun x => decide (keyW x < keyW w)) := by rw [gxApp_ok (by simp only [List.length_nil]; omega)]; rfl
    have t4 : (ws.dropWhile fun x => decide (keyW x < keyW w)).length ≤ ws.length := by rw [← t2]; simp
    simp only [Option.bind_some, gxSlice_take t3, gxSlice_drop t3, t1, t2, p1]
    rw [gxApp_ok (by simp only [List.length_cons, List.length_nil]; omega), Option.bind_some, gxApp_ok (by simp only [List.length_append, List.length_cons, List.length_nil]; omega)]
    simp only [Option.bind_some, insU, List.append_assoc, List.cons_append, List.nil_append]
  · intro i hi
    have e0 : ((i : Int) < (ws.length : Int)) := by omega
    have hlk := less_key (hok _ (List.getElem_mem hi)) hw
    simp only [e0, decide_true, cond_true, gxIdx_nat hi, Option.bind_some, s_less, hlk]
    cases decide (keyW ws[i] < keyW w) <;> rfl
  · simp only [Int.lt_irrefl, decide_false, cond_false, Option.bind_some]
def gIf : Interface := ⟨0, [], ⟨[], []⟩⟩
structure GM (m : Machine) : Prop where
  rts : okRts m.Routes (m.Cpus.length : Int) = true
  en : m.Enabled.length = 8
  ra : m.Raised.length = 8
  cpu : ∀ k, (hk : k < m.Cpus.length) → GI m.Cpus[k] ∧ fitOk m.Routes (k : Int) m.Cpus[k] = true
theorem goodMc_iff (m : Machine) : goodMc m = true ↔ GM m := by
  unfold goodMc
  simp only [Bool.and_eq_true, beq_iff_eq, List.all_eq_true]
  constructor
  · rintro ⟨h1, h2, h3, h4⟩
    refine ⟨h1, by omega, by omega, fun k hk => ?_⟩
    have := h4 k (List.mem_range.2 hk)
    rw [getD_at hk] at this
    exact ⟨(goodI_iff _).1 this.1, this.2⟩
  · rintro ⟨h1, h2, h3, h4⟩
    refine ⟨h1, by omega, by omega, fun k hk => ?_⟩
    have hk := List.mem_range.1 hk
    rw [getD_at hk]
    exact ⟨(goodI_iff _).2 (h4 k hk).1, (h4 k hk).2⟩
theorem gm_cpus {m : Machine} (h : GM m) : 1 ≤ m.Cpus.length ∧ m.Cpus.length ≤ 2 ∧ m.Routes.length = 8 := by
  have := h.rts
  unfold okRts at this
  simp only [Bool.and_eq_true, decide_eq_true_eq, beq_iff_eq] at this
  omega
end Go.Proofs.YtllhajkgkghhdaaGreat
set_option linter.unusedVariables false
set_option linter.unusedSimpArgs false
set_option maxHeartbeats 4000000
namespace Go.Proofs.YtllhajkgkghhdaaGreat
open Go.Gx
theorem s_withK {xs : List Slot} {i : Nat} (hi : i < xs.length) (hl : xs.length ≤ 1048576) (y : Slot) : M.s_l8With xs (i : Int) y = some (xs.set i y) := by
  unfold M.s_l8With
  have p0 : gxApp 24 ([] : List Slot) xs = some xs := by rw [gxApp_ok (by simp; omega)]; rfl
  simp only [p0, Option.bind_some, gxIdx_nat hi, Int.toNat_natCast]
theorem i_withK {xs : List Slot} {i : Nat} (hi : i < xs.length) (hl : xs.length ≤ 1048576) (y : Slot) : M.i_withSlot xs (i : Int) y = some (xs.set i y) := by
  unfold M.i_withSlot
  have p0 : gxApp 24 ([] : List Slot) xs = some xs := by rw [gxApp_ok (by simp; omega)]; rfl
  simp only [p0, Option.bind_some, gxIdx_nat hi, Int.toNat_natCast]
theorem app_own {α : Type} {B : Nat} {xs : List α} (h : xs.length * B ≤ 140737488355328) : gxApp B ([] : List α) xs = some xs := by
  rw [gxApp_ok (by simpa using h)]
  rfl
theorem s_ownQ {q : Queue} (hs : q.Slots.length ≤ 1048576) (hw : q.Waiting.length ≤ 1048576) : M.s_l9Own q = some q := by
  unfold M.s_l9Own
  rw [app_own (by omega), Option.bind_some, app_own (by omega)]
  rfl
theorem i_ownQ {q : Queue} (hs : q.Slots.length ≤ 1048576) (hw : q.Waiting.length ≤ 1048576) : M.i_newQueue q = some q := by
  unfold M.i_newQueue
  rw [app_own (by omega), Option.bind_some, app_own (by omega)]
  rfl
theorem i_waitK (ws : List Waiter) (w : Waiter) (hl : ws.length ≤ 1048576) (hok : ∀ x ∈ ws, okWt x) (hw : okWt w) : M.i_withWaiter ws w = some (insU ws w) := by
  unfold M.i_withWaiter
  rw [while_place (fun x => decide (keyW x < keyW w)) (xs := ws) (by omega)]
  · obtain ⟨t1, t2, t3⟩ := take_tw (fun x => decide (keyW x < keyW w)) ws
    rw [Option.bind_some, app_own (by omega), Option.bind_some]
    unfold M.slices_Insert_252
    have h0 : (0 : Int) ≤ (((ws.takeWhile fun x => decide (keyW x < keyW w)).length : Nat) : Int) := by omega
    have h1 : ((((ws.takeWhile fun x => decide (keyW x < keyW w)).length : Nat) : Int) ≤ (ws.length : Int)) := by omega
    have h2 : ([w] : List Waiter).length = 1 := rfl
    have h3 : (ws.length + 1) * 16 ≤ 140737488355328 := by omega
    simp only [h0, h1, h2, h3, decide_true, Bool.and_self, cond_true, Option.bind_some, Int.toNat_natCast, t1, t2, insU, List.append_assoc, List.cons_append, List.nil_append]
  · intro i hi
    have e0 : ((i : Int) < (ws.length : Int)) := by omega
    have hlk := less_key (hok _ (List.getElem_mem hi)) hw
    simp only [e0, decide_true, cond_true, gxIdx_nat hi, Option.bind_some, i_cmpU, cmpU_lt, hlk]
    cases decide (keyW ws[i] < keyW w) <;> rfl
  · simp only [Int.lt_irrefl, decide_false, cond_false, Option.bind_some]
theorem not_set {q : Queue} (hc : setQ q = false) : (∃ w r, q.Waiting = w :: r) ∧ (frS q.Slots < 0 → ∃ k, ∃ hk : k < q.Slots.length, bestF q.Slots q.Slots.length = (k : Int)) := by
  unfold setQ at hc
  cases hw : q.Waiting with
  | nil => rw [hw] at hc; cases hc
  | cons w r =>
    refine ⟨⟨w, r, rfl⟩, fun hf => ?_⟩
    rw [hw] at hc
    have e1 : (((w :: r).length : Int) == 0) = false := by
      rw [beq_eq_false_iff_ne, List.length_cons]
      omega
    have e2 : decide (frS q.Slots ≥ 0) = false := by simp; omega
    rw [e1, e2] at hc
    simp only [cond_false] at hc
    rcases bestF_at q.Slots q.Slots.length with h | ⟨k, h1, h2, _⟩
    · have e3 : decide (bestF q.Slots q.Slots.length < 0) = true := by simp [h]
      rw [e3] at hc
      cases hc
    · exact ⟨k, h1, h2⟩
theorem fr_at {xs : List Slot} (h : ¬ frS xs < 0) : ∃ k, ∃ hk : k < xs.length, frS xs = (k : Int) := by
  obtain ⟨k, hk, h1, _⟩ := frS_at h
  exact ⟨k, hk, h1⟩
theorem s_settleQ {q : Queue} (h : GP q) : M.s_l9Settle q = some (settleQ q) := by
  have hs := h.s.len
  have hw := gp_waiting h
  unfold M.s_l9Settle
  rw [s_ownQ (by omega) (by omega), Option.bind_some]
  have key := settle_run (body := fun s13293 : List Slot × List Waiter =>
    Option.bind (M.s_l9Settled (⟨s13293.1, s13293.2⟩ : Queue)) fun r13324 =>
    bif !r13324 then (Option.bind (gxIdx s13293.2 0) fun y13329 =>
    Option.bind (gxSlice s13293.2 1 (s13293.2.length : Int)) fun ys13343 =>
    Option.bind (gxApp 16 ([] : List Waiter) ys13343) fun ap13345 =>
    Option.bind (M.s_l8Free s13293.1) fun r13353 =>
    Option.bind (α := List Waiter × Int) (bif decide (r13353 < 0) then (Option.bind (M.s_l8Best s13293.1 false) fun r13443 =>
    Option.bind (gxIdx s13293.1 r13443) fun y13449 =>
    Option.bind (gxIdx s13293.1 r13443) fun y13450 =>
    Option.bind (M.s_l9Wait ap13345 (⟨y13449.Irq, y13450.Priority⟩ : Waiter)) fun r13510 =>
    some (r13510, r13443))
    else some (ap13345, r13353)) fun o13434 =>
    Option.bind (M.s_l8With s13293.1 o13434.2 (⟨1, y13329.Irq, y13329.Priority⟩ : Slot)) fun r13523 =>
    some (Sum.inl (β := List Slot × List Waiter) (r13523, o13434.1)))
    else some (.inr (s13293.1, s13293.2))) (fun q => (q.Slots, q.Waiting)) (fun q => (q.Slots, q.Waiting)) (fun q hq => by
      have hsl := hq.s.len
      have hwl := gp_waiting hq
      obtain ⟨S, W⟩ := q
      simp only at hsl hwl
      rw [s_settled ⟨S, W⟩ (by simp only; omega), Option.bind_some]
      cases hc : setQ ⟨S, W⟩ with
      | true => rfl
      | false =>
        obtain ⟨⟨w, r, hwr⟩, hbest⟩ := not_set hc
        simp only at hwr
        subst hwr
        have hok := hq.ok
        simp only at hok
        have i0 : gxIdx (w :: r) 0 = some w := rfl
        have i1 : gxSlice (w :: r) 1 ((w :: r).length : Int) = some r := gxSlice_drop (xs := w :: r) (k := 1) (by simp)
        have i2 : gxApp 16 ([] : List Waiter) r = some r := app_own (by simp at hwl; omega)
        have hh : headW ⟨S, w :: r⟩ = w := rfl
        simp only [Bool.not_false, cond_true, cond_false, i0, i1, i2, Option.bind_some, s_free S (by omega)]
        unfold stepQ
        by_cases hf : frS S < 0
        · obtain ⟨k, hk, hb⟩ := hbest hf
          simp only at hk hb
          simp only [hf, decide_true, cond_true, s_best S (by omega), hb, Option.bind_some, gxIdx_nat hk, hh, Int.toNat_natCast, getD_at hk]
          have ew : (⟨S[k].Irq, S[k].Priority⟩ : Waiter) = wOf S[k] := rfl
          rw [ew, s_wait r (wOf S[k]) (by simp at hwl; omega) (fun x hx => hok x (by simp [hx])) (hq.s.ok _ (List.getElem_mem hk)).2.1]
          simp only [Option.bind_some, s_withK hk (show S.length ≤ 1048576 by omega)]
          rfl
        · obtain ⟨k, hk, hb⟩ := fr_at hf
          simp only [hf, decide_false, cond_false, Option.bind_some]
          rw [hb]
          simp only [Option.bind_some, s_withK hk (show S.length ≤ 1048576 by omega), Int.toNat_natCast, hh]
          rfl) (mu q.Slots + 1) gxFuel h (Nat.lt_succ_self _) (by have := mu_le h.s; unfold gxFuel; omega)
  rw [key, Option.bind_some]
  rfl
theorem i_settleQ {q : Queue} (h : GP q) : M.i_settled q = some (settleQ q) := by
  have hs := h.s.len
  have hw := gp_waiting h
  unfold M.i_settled
  rw [i_ownQ (by omega) (by omega), Option.bind_some]
  have key := settle_run (body := fun s18724 : List Waiter × List Slot =>
    Option.bind (M.i_isSettled (⟨s18724.2, s18724.1⟩ : Queue)) fun r18749 =>
    bif !r18749 then (Option.bind (gxIdx s18724.1 0) fun y18756 =>
    Option.bind (M.i_firstEmpty s18724.2) fun r18757 =>
    Option.bind (gxSlice s18724.1 1 (s18724.1.length : Int)) fun ys18798 =>
    Option.bind (α := Int × List Waiter) (bif decide (r18757 < 0) then (Option.bind (M.i_pendingSlot s18724.2 false) fun r18867 =>
    Option.bind (gxIdx s18724.2 r18867) fun y18873 =>
    Option.bind (M.i_waiterOf y18873) fun r18874 =>
    Option.bind (M.i_withWaiter ys18798 r18874) fun r18911 =>
    some (r18867, r18911))
    else some (r18757, ys18798)) fun o18858 =>
    Option.bind (gxIdx s18724.2 o18858.1) fun y18926 =>
    some (Sum.inl (β := List Waiter × List Slot) (o18858.2, (s18724.2.set o18858.1.toNat (⟨1, y18756.Irq, y18756.Priority⟩ : Slot)))))
    else some (.inr (s18724.1, s18724.2))) (fun q => (q.Waiting, q.Slots)) (fun q => (q.Waiting, q.Slots)) (fun q hq => by
      have hsl := hq.s.len
      have hwl := gp_waiting hq
      have hgs := (goodS_iff _).2 hq.s
      obtain ⟨S, W⟩ := q
      simp only at hsl hwl hgs
      rw [i_settled ⟨S, W⟩ (by simp only; omega) hgs, Option.bind_some]
      cases hc : setQ ⟨S, W⟩ with
      | true => rfl
      | false =>
        obtain ⟨⟨w, r, hwr⟩, hbest⟩ := not_set hc
        simp only at hwr
        subst hwr
        have hok := hq.ok
        simp only at hok
        have i0 : gxIdx (w :: r) 0 = some w := rfl
        have i1 : gxSlice (w :: r) 1 ((w :: r).length : Int) = some r := gxSlice_drop (xs := w :: r) (k := 1) (by simp)
        have hh : headW ⟨S, w :: r⟩ = w := rfl
        simp only [Bool.not_false, cond_true, cond_false, i0, i1, Option.bind_some, i_free S (by omega)]
        unfold stepQ
        by_cases hf : frS S < 0
        · obtain ⟨k, hk, hb⟩ := hbest hf
          simp only at hk hb
          simp only [hf, decide_true, cond_true, i_best S (by omega) hgs, hb, Option.bind_some, gxIdx_nat hk, hh, Int.toNat_natCast, getD_at hk, M.i_waiterOf]
          have ew : (⟨S[k].Irq, S[k].Priority⟩ : Waiter) = wOf S[k] := rfl
          rw [ew, i_waitK r (wOf S[k]) (by simp at hwl; omega) (fun x hx => hok x (by simp [hx])) (hq.s.ok _ (List.getElem_mem hk)).2.1]
          simp only [Option.bind_some, gxIdx_nat hk, Int.toNat_natCast]
          rfl
        · obtain ⟨k, hk, hb⟩ := fr_at hf
          simp only [hf, decide_false, cond_false, Option.bind_some]
          rw [hb]
          simp only [Option.bind_some, gxIdx_nat hk, Int.toNat_natCast, hh]
          rfl) (mu q.Slots + 1) gxFuel h (Nat.lt_succ_self _) (by have := mu_le h.s; unfold gxFuel; omega)
  rw [key, Option.bind_some]
  rfl
theorem s_putK {xs : List Slot} (hl : xs.length ≤ 1048576) {irq p : Int} (hf : ¬ fndS xs irq < 0) : M.s_l8Put xs irq p = some (xs.set (fndS xs irq).toNat (putF (xs.getD (fndS xs irq).toNat gS)), true) := by
  obtain ⟨k, hk, h2, _, _⟩ := fnd_at hf
  unfold M.s_l8Put
  have e : decide (fndS xs irq ≥ 0) = true := by simp; omega
  rw [s_find xs irq hl, Option.bind_some, e, cond_true, h2]
  simp only [gxIdx_nat hk, Option.bind_some, Int.toNat_natCast, getD_at hk]
  unfold putF setSt
  cases (xs[k].State == 2) <;> simp only [cond_true, cond_false, Option.bind_some, s_withK hk hl]
theorem i_putK {xs : List Slot} (hl : xs.length ≤ 1048576) {irq p : Int} (hf : ¬ fndS xs irq < 0) : M.i_putIrq xs irq p = some (xs.set (fndS xs irq).toNat (putF (xs.getD (fndS xs irq).toNat gS)), true) := by
  obtain ⟨k, hk, h2, _, _⟩ := fnd_at hf
  unfold M.i_putIrq
  have e : decide (fndS xs irq ≥ 0) = true := by simp; omega
  rw [i_find xs irq hl, Option.bind_some, e, cond_true, h2]
  simp only [gxIdx_nat hk, Option.bind_some, Int.toNat_natCast, getD_at hk]
  unfold putF setSt
  cases (xs[k].State == 2) <;> simp only [cond_true, cond_false, Option.bind_some, i_withK hk hl]
theorem has_find (ws : List Waiter) (q : Int) : decide ((match (List.range ws.length).find? (fun i => (ws.getD i gW).Irq == q) with | some i => (i : Int) | none => -1) ≥ 0) = hasW ws q := by
  unfold hasW
  cases hf : (List.range ws.length).find? (fun i => (ws.getD i gW).Irq == q) with
  | some i =>
    have hi : i < ws.length := List.mem_range.1 (List.mem_of_find?_eq_some hf)
    have hp := List.find?_some hf
    rw [getD_at hi] at hp
    have : (ws.any fun w => w.Irq == q) = true := List.any_eq_true.2 ⟨_, List.getElem_mem hi, hp⟩
    rw [this]
    simp
  | none =>
    rw [List.find?_eq_none] at hf
    have : (ws.any fun w => w.Irq == q) = false := by
      rw [List.any_eq_false]
      intro w hw
      obtain ⟨i, hi, rfl⟩ := List.getElem_of_mem hw
      have := hf i (List.mem_range.2 hi)
      rw [getD_at hi] at this
      exact this
    rw [this]
    rfl
theorem s_hasK (ws : List Waiter) (q : Int) (hl : ws.length ≤ 1048576) : ∃ r, M.s_l9Has ws q = some r ∧ decide (r ≥ 0) = hasW ws q := by
  refine ⟨_, ?_, has_find ws q⟩
  unfold M.s_l9Has
  rw [while_first (fun i => (i : Int)) (fun i => (ws.getD i gW).Irq == q) (fun i => (Sum.inr (i : Int) : Unit ⊕ Int)) (Sum.inl ()) ws.length (by simp) (by omega)]
  · cases (List.range ws.length).find? (fun i => (ws.getD i gW).Irq == q) <;> rfl
  · intro i hi
    have e0 : ((i : Int) < (ws.length : Int)) := by omega
    simp only [e0, decide_true, cond_true, gxIdx_nat hi, Option.bind_some, getD_at hi, w64_succ (show i ≤ 4611686018427387904 by omega)]
    cases (ws[i].Irq == q) <;> rfl
  · simp only [Int.lt_irrefl, decide_false, cond_false]
theorem i_hasK (ws : List Waiter) (q : Int) (hl : ws.length ≤ 1048576) : ∃ r, M.i_waiterIndex ws q = some r ∧ decide (r ≥ 0) = hasW ws q := by
  refine ⟨_, ?_, has_find ws q⟩
  unfold M.i_waiterIndex M.slices_IndexFunc_166__i_waiterIndex_1 M.i_waiterIndex_1
  rw [while_first (fun i => (i : Int)) (fun i => (ws.getD i gW).Irq == q) (fun i => (Sum.inr (i : Int) : Unit ⊕ Int)) (Sum.inl ()) ws.length (by simp) (by omega)]
  · cases (List.range ws.length).find? (fun i => (ws.getD i gW).Irq == q) <;> rfl
  · intro i hi
    have e0 : ((i : Int) < (ws.length : Int)) := by omega
    simp only [e0, decide_true, cond_true, gxIdx_nat hi, Option.bind_some, getD_at hi, w64_succ (show i ≤ 4611686018427387904 by omega)]
    cases (ws[i].Irq == q) <;> rfl
  · simp only [Int.lt_irrefl, decide_false, cond_false]
theorem neg_ge {r : Int} {b : Bool} (h : decide (r ≥ 0) = b) : decide (r < 0) = !b := by
  rw [← h]
  by_cases h0 : r < 0
  · have : ¬ (r ≥ 0) := by omega
    simp [h0]
  · have : r ≥ 0 := by omega
    simp [this]
theorem s_offQ {q : Queue} (h : GP q) {w : Waiter} (hw : okWt w) : M.s_l9Offer q w.Irq w.Priority = some (offQ q w) := by
  have hs := h.s.len
  have hwl := gp_waiting h
  unfold M.s_l9Offer offQ
  rw [s_find _ _ (by omega), Option.bind_some]
  by_cases hf : fndS q.Slots w.Irq < 0
  · have e : decide (fndS q.Slots w.Irq ≥ 0) = false := by simp; omega
    obtain ⟨r, hr, hr2⟩ := s_hasK q.Waiting w.Irq (by omega)
    rw [e, cond_false, cond_false, hr, Option.bind_some, hr2]
    cases hh : hasW q.Waiting w.Irq with
    | true => rw [cond_true, cond_true, s_settleQ h]; rfl
    | false =>
      rw [cond_false, cond_false, s_wait q.Waiting w (by omega) h.ok hw, Option.bind_some, s_settleQ (gp_ins h hw hf hh)]
      rfl
  · have e : decide (fndS q.Slots w.Irq ≥ 0) = true := by simp; omega
    obtain ⟨k, hk, h2, h3, _⟩ := fnd_at hf
    have hgp := gp_put h hk h3
    rw [e, cond_true, cond_true, s_putK (by omega) hf, Option.bind_some]
    rw [h2, Int.toNat_natCast, getD_at hk]
    rw [s_settleQ hgp]
    rfl
theorem i_offQ {q : Queue} (h : GP q) {w : Waiter} (hw : okWt w) : M.i_offerIrq q w.Irq w.Priority = some (offQ q w) := by
  have hs := h.s.len
  have hwl := gp_waiting h
  unfold M.i_offerIrq offQ
  rw [i_ownQ (by omega) (by omega), Option.bind_some, i_find _ _ (by omega), Option.bind_some]
  by_cases hf : fndS q.Slots w.Irq < 0
  · have e : decide (fndS q.Slots w.Irq ≥ 0) = false := by simp; omega
    obtain ⟨r, hr, hr2⟩ := i_hasK q.Waiting w.Irq (by omega)
    rw [e, cond_false, cond_false, hr, Option.bind_some, neg_ge hr2]
    cases hh : hasW q.Waiting w.Irq with
    | true =>
      simp only [Bool.not_true, cond_false, cond_true, Option.bind_some]
      rw [i_settleQ h]
      rfl
    | false =>
      simp only [Bool.not_false, cond_false, cond_true]
      rw [i_waitK q.Waiting w (by omega) h.ok hw]
      simp only [Option.bind_some]
      rw [i_settleQ (gp_ins h hw hf hh)]
      rfl
  · have e : decide (fndS q.Slots w.Irq ≥ 0) = true := by simp; omega
    obtain ⟨k, hk, h2, h3, _⟩ := fnd_at hf
    have hgp := gp_put h hk h3
    rw [e, cond_true, cond_true, i_putK (by omega) hf, Option.bind_some]
    rw [h2, Int.toNat_natCast, getD_at hk]
    simp only [Option.bind_some]
    rw [i_settleQ hgp]
    rfl
end Go.Proofs.YtllhajkgkghhdaaGreat
set_option linter.unusedVariables false
set_option linter.unusedSimpArgs false
set_option maxHeartbeats 4000000
namespace Go.Proofs.YtllhajkgkghhdaaGreat
open Go.Gx
theorem s_bestT (xs : List Slot) (h : xs.length ≤ 1048576) : M.s_l8Best xs true = some (topS xs) := by
  unfold M.s_l8Best topS
  rw [while_run (fun i => (topF xs i, (i : Int))) (topF xs xs.length) xs.length (by simp [topF]) (by omega)]
  · rfl
  · intro i hi
    have e0 : ((i : Int) < (xs.length : Int)) := by omega
    simp only [e0, decide_true, cond_true, gxIdx_nat hi, Option.bind_some, s_less, w64_succ (show i ≤ 4611686018427387904 by omega)]
    have hb : topF xs (i + 1) = bif xs[i].State == 1 then (bif decide (topF xs i < 0) || lessU xs[i].Priority xs[i].Irq (xs.getD (topF xs i).toNat gS).Priority (xs.getD (topF xs i).toNat gS).Irq then (i : Int) else topF xs i) else topF xs i := by
      rw [topF, getD_at hi]
    rw [hb]
    cases hs : (xs[i].State == 1) with
    | false => simp [bne, hs]
    | true =>
      simp only [bne, hs, Bool.not_true, cond_false, cond_true]
      rcases topF_at xs i with hn | ⟨k, hk, he, _⟩
      · simp [hn]
      · have hkl : k < xs.length := by omega
        have hnn : ¬ ((k : Int) < 0) := by omega
        simp only [he, hnn, decide_false, cond_false, cond_true, gxIdx_nat hkl, Option.bind_some, Int.toNat_natCast, getD_at hkl, Bool.false_or]
        cases lessU xs[i].Priority xs[i].Irq xs[k].Priority xs[k].Irq <;> rfl
  · simp
theorem i_bestT (xs : List Slot) (h : xs.length ≤ 1048576) : M.i_pendingSlot xs true = some (topS xs) := by
  unfold M.i_pendingSlot topS
  rw [while_run (fun i => (topF xs i, (i : Int))) (topF xs xs.length) xs.length (by simp [topF]) (by omega)]
  · rfl
  · intro i hi
    have e0 : ((i : Int) < (xs.length : Int)) := by omega
    simp only [e0, decide_true, cond_true, gxIdx_nat hi, Option.bind_some, M.i_waiterOf, i_cmpU, w64_succ (show i ≤ 4611686018427387904 by omega)]
    have hb : topF xs (i + 1) = bif xs[i].State == 1 then (bif decide (topF xs i < 0) || lessU xs[i].Priority xs[i].Irq (xs.getD (topF xs i).toNat gS).Priority (xs.getD (topF xs i).toNat gS).Irq then (i : Int) else topF xs i) else topF xs i := by
      rw [topF, getD_at hi]
    rw [hb]
    cases hs : (xs[i].State == 1) with
    | false => simp
    | true =>
      simp only [cond_true]
      rcases topF_at xs i with hn | ⟨k, hk, he, hk1⟩
      · simp [hn]
      · have hkl : k < xs.length := by omega
        have hnn : ¬ ((k : Int) < 0) := by omega
        simp only [he, hnn, decide_false, cond_false, gxIdx_nat hkl, Option.bind_some, Int.toNat_natCast, getD_at hkl, Bool.false_or, cmpU_lt, beq_true]
        cases lessU xs[i].Priority xs[i].Irq xs[k].Priority xs[k].Irq <;> rfl
  · simp
theorem last_idx {l : List Int} (h0 : l.length ≠ 0) (hl : l.length ≤ 1048576) : gxIdx l (w64 ((l.length : Int) - 1)) = some (l.getD (l.length - 1) 0) := by
  have hk : l.length - 1 < l.length := by omega
  rw [w64_id (by omega) (by omega), show ((l.length : Int) - 1) = ((l.length - 1 : Nat) : Int) by omega, gxIdx_nat hk, getD_at hk]
theorem last_found {x : Interface} (h : GI x) (h0 : x.Stack.length ≠ 0) : ¬ fndS x.Queue.Slots (lastI x) < 0 := by
  refine act_find ?_
  rw [actS_W]
  exact h.stk.mem_iff.1 (by rw [stack_last h0]; simp)
theorem s_run {x : Interface} (h : GI x) : M.s_l10Running x = some (runP x) := by
  have hl := gi_len h
  have hs := (gi_slots h).len
  unfold M.s_l10Running runP
  by_cases h0 : x.Stack.length = 0
  · have e : ¬ ((x.Stack.length : Int) > 0) := by omega
    simp only [h0, e, decide_false, decide_true, cond_false, cond_true, Int.ofNat_zero, Int.lt_irrefl, gt_iff_lt]
  · have e : ((x.Stack.length : Int) > 0) := by omega
    have := s_level ⟨x.Queue.Slots, x.Queue.Waiting⟩ (lastI x) (by simp only; omega) (last_found h h0)
    unfold lastI at this
    simp only [h0, e, decide_false, decide_true, cond_false, cond_true, last_idx h0 (show x.Stack.length ≤ 1048576 by omega), Option.bind_some, this]
theorem i_run {x : Interface} (h : GI x) : M.i_runningPriority x = some (runP x) := by
  have hl := gi_len h
  have hs := (gi_slots h).len
  unfold M.i_runningPriority runP
  by_cases h0 : x.Stack.length = 0
  · have e : ((x.Stack.length : Int) == 0) = true := by simp [h0]
    rw [e]
    simp only [h0, decide_true, cond_true]
  · have e : ((x.Stack.length : Int) == 0) = false := by rw [beq_eq_false_iff_ne]; omega
    have := i_level x.Queue.Slots (lastI x) (by omega) (last_found h h0)
    unfold lastI at this
    rw [e]
    simp only [h0, decide_false, cond_false, last_idx h0 (show x.Stack.length ≤ 1048576 by omega), Option.bind_some, this]
theorem s_lim {x : Interface} : M.s_l1Least x.Mask (runP x) = some (limI x) := by
  unfold M.s_l1Least limI
  cases decide (x.Mask < runP x) <;> rfl
theorem i_lim (x : Interface) : gxMin x.Mask (runP x) = limI x := by
  unfold gxMin limI
  by_cases h : x.Mask < runP x
  · have h2 : ¬ (runP x < x.Mask) := by omega
    simp only [h, h2, decide_true, cond_true, if_false]
  · simp only [h, decide_false, cond_false]
    split
    · rfl
    · omega
theorem top_cond (xs : List Slot) (limit : Int) : (Option.bind (α := Bool) (bif decide (topS xs < 0) then some true else (Option.bind (gxIdx xs (topS xs)) fun y => some (decide (y.Priority ≥ limit)))) fun o => some o) = some (!(canT xs limit)) := by
  unfold canT topX
  rcases topF_at xs xs.length with h | ⟨k, hk, h1, h2⟩
  · have h' : topS xs < 0 := h
    have h3 : ¬ (topS xs ≥ 0) := by omega
    simp [h']
  · have h' : topS xs = (k : Int) := h1
    have e1 : ¬ ((k : Int) < 0) := by omega
    have e2 : ((k : Int) ≥ 0) := by omega
    rw [h']
    simp only [e1, e2, decide_false, decide_true, cond_false, gxIdx_nat hk, Option.bind_some, Int.toNat_natCast, getD_at hk, Bool.true_and]
    congr 1
    by_cases hp : xs[k].Priority < limit
    · have : ¬ (xs[k].Priority ≥ limit) := by omega
      simp [hp]
    · have : xs[k].Priority ≥ limit := by omega
      simp [this]
theorem top_known {xs : List Slot} {limit : Int} : (bif decide (topS xs < 0) then some true else (Option.bind (gxIdx xs (topS xs)) fun y => some (decide (y.Priority ≥ limit)))) = some (!(canT xs limit)) := by
  have h := top_cond xs limit
  cases hc : (bif decide (topS xs < 0) then some true else (Option.bind (gxIdx xs (topS xs)) fun y => some (decide (y.Priority ≥ limit)))) with
  | none => rw [hc] at h; cases h
  | some b => rw [hc] at h; exact h
theorem tak_with {xs : List Slot} {limit : Int} (hc : canT xs limit = true) : ∃ k, ∃ hk : k < xs.length, topS xs = (k : Int) ∧ topX xs = xs[k] ∧ takL xs = xs.set k ⟨2, xs[k].Irq, xs[k].Priority⟩ := by
  rcases topF_at xs xs.length with h | ⟨k, hk, h1, h2⟩
  · have h' : topS xs < 0 := h
    have h3 : ¬ (topS xs ≥ 0) := by omega
    unfold canT at hc
    simp [h3] at hc
  · have h' : topS xs = (k : Int) := h1
    have e : topX xs = xs[k] := by unfold topX; rw [h', Int.toNat_natCast, getD_at hk]
    refine ⟨k, hk, h', e, ?_⟩
    unfold takL setSt
    rw [e, h', Int.toNat_natCast]
theorem s_takeK (xs : List Slot) (limit : Int) (hl : xs.length ≤ 1048576) : M.s_l8Take__k xs limit = bif canT xs limit then none else some (xs, -1) := by
  unfold M.s_l8Take__k
  rw [s_bestT xs hl, Option.bind_some, top_known, Option.bind_some]
  cases hc : canT xs limit with
  | false => rfl
  | true =>
    obtain ⟨k, hk, h1, _⟩ := tak_with hc
    simp only [Bool.not_true, cond_false, cond_true, h1, gxIdx_nat hk, Option.bind_some, s_withK hk hl]
theorem s_takeO {xs : List Slot} {limit : Int} (hl : xs.length ≤ 1048576) (hc : canT xs limit = true) : M.s_l8Take xs limit = some (takL xs, (topX xs).Irq) := by
  unfold M.s_l8Take
  obtain ⟨k, hk, h1, h2, h3⟩ := tak_with hc
  rw [s_bestT xs hl, Option.bind_some, top_known, Option.bind_some, hc, h2, h3]
  simp only [Bool.not_true, cond_false, h1, gxIdx_nat hk, Option.bind_some, s_withK hk hl]
theorem s_takeQ {q : Queue} (h : GP q) (limit : Int) : M.s_l9Take q limit = some (bif canT q.Slots limit then (⟨takL q.Slots, q.Waiting⟩, (topX q.Slots).Irq) else (q, -1)) := by
  have hs := h.s.len
  have hw := gp_waiting h
  unfold M.s_l9Take
  rw [s_takeK _ _ (by omega)]
  cases hc : canT q.Slots limit with
  | false =>
    simp only [cond_false, gxAlt_some]
    rw [app_own (by omega), Option.bind_some, app_own (by omega)]
    rfl
  | true =>
    have hl : (takL q.Slots).length = 4 := by unfold takL; rw [List.length_set]; exact hs
    simp only [cond_true, gxAlt_none]
    rw [s_takeO (by omega) hc, Option.bind_some]
    rw [app_own (xs := takL q.Slots) (by omega), Option.bind_some, app_own (by omega)]
    rfl
theorem i_takeS (xs : List Slot) (limit : Int) (hl : xs.length ≤ 1048576) : M.i_takeSlot xs limit = some (bif canT xs limit then (takL xs, (topX xs).Irq, true) else ([], 0, false)) := by
  unfold M.i_takeSlot
  rw [i_bestT xs hl, Option.bind_some, top_known, Option.bind_some]
  cases hc : canT xs limit with
  | false => rfl
  | true =>
    obtain ⟨k, hk, h1, h2, h3⟩ := tak_with hc
    rw [h2, h3]
    simp only [Bool.not_true, cond_false, cond_true, h1, gxIdx_nat hk, Option.bind_some, i_withK hk hl]
theorem i_takeQ {q : Queue} (h : GP q) (limit : Int) : M.i_takeQueue q limit = some (bif canT q.Slots limit then (⟨takL q.Slots, q.Waiting⟩, (topX q.Slots).Irq, true) else (⟨[], []⟩, 0, false)) := by
  have hs := h.s.len
  have hw := gp_waiting h
  unfold M.i_takeQueue
  rw [i_takeS _ _ (by omega), Option.bind_some]
  cases hc : canT q.Slots limit with
  | false => rfl
  | true =>
    simp only [cond_true, Bool.not_true, cond_false]
    rw [i_ownQ (by omega) (by omega)]
    rfl
theorem top_irq {x : Interface} (h : GI x) (hc : canTI x = true) : 0 ≤ (topX x.Queue.Slots).Irq ∧ (topX x.Queue.Slots).Irq ≤ 7 := by
  obtain ⟨k, hk, _, e, _⟩ := canT_at (gi_slots h) hc
  rw [e]
  exact ((gi_slots h).ok _ (List.getElem_mem hk)).2.1.1
def zI : Interface := ⟨0, [], ⟨[], []⟩⟩
theorem s_takI {x : Interface} (h : GI x) : M.s_l10Take x = some (bif canTI x then (takI x, (topX x.Queue.Slots).Irq) else (x, -1)) := by
  have hl := gi_len h
  obtain ⟨Mk, St, Qu⟩ := x
  unfold M.s_l10Take
  rw [s_run h, Option.bind_some, s_lim, Option.bind_some, s_takeQ h.q.1, Option.bind_some]
  unfold M.s_l1Own
  simp only at hl
  simp only [app_own (xs := St) (B := 8) (by omega), Option.bind_some]
  cases hc : canTI ⟨Mk, St, Qu⟩ with
  | false =>
    have hc' := hc
    unfold canTI at hc'
    simp only at hc'
    rw [hc']
    rfl
  | true =>
    have hq := top_irq h hc
    have hc' := hc
    unfold canTI at hc'
    simp only at hc' hq
    rw [hc']
    have hq1 := hq.1
    simp only [cond_true, ge_iff_le, hq1, decide_true]
    rw [gxApp_ok (show (St.length + 1) * 8 ≤ 140737488355328 by omega)]
    rfl
theorem i_takI {x : Interface} (h : GI x) : M.i_takeIrq x = some (bif canTI x then (takI x, (topX x.Queue.Slots).Irq, true) else (zI, 0, false)) := by
  have hl := gi_len h
  obtain ⟨Mk, St, Qu⟩ := x
  unfold M.i_takeIrq
  rw [i_run h, Option.bind_some, i_lim ⟨Mk, St, Qu⟩, i_takeQ h.q.1, Option.bind_some]
  simp only at hl
  cases hc : canTI ⟨Mk, St, Qu⟩ with
  | false =>
    have hc' := hc
    unfold canTI at hc'
    simp only at hc'
    rw [hc']
    rfl
  | true =>
    have hc' := hc
    unfold canTI at hc'
    simp only at hc'
    rw [hc']
    simp only [cond_true, Bool.not_true, cond_false]
    unfold M.i_copyInts
    rw [app_own (xs := St) (by omega), Option.bind_some, Option.bind_some, gxApp_ok (show (St.length + 1) * 8 ≤ 140737488355328 by omega)]
    rfl
theorem s_raiI {x : Interface} (h : GI x) {w : Waiter} (hw : okWt w) : M.s_l10Raise x w.Irq w.Priority = some (raiI x w) := by
  have hl := gi_len h
  unfold M.s_l10Raise M.s_l1Own
  rw [app_own (by omega), Option.bind_some, Option.bind_some, s_offQ h.q.1 hw]
  rfl
theorem i_ownI {x : Interface} (h : fitIf x) : M.i_newInterface x = some x := by
  obtain ⟨h1, h2, h3⟩ := h
  unfold M.i_newInterface M.i_copyInts
  rw [app_own (by omega), Option.bind_some, Option.bind_some, i_ownQ h2 h3]
  rfl
theorem s_ownI {x : Interface} (h : fitIf x) : M.s_l10Own x = some x := by
  obtain ⟨h1, h2, h3⟩ := h
  unfold M.s_l10Own M.s_l1Own
  rw [app_own (by omega), Option.bind_some, Option.bind_some, s_ownQ h2 h3]
  rfl
theorem i_raiI {x : Interface} (h : GI x) {w : Waiter} (hw : okWt w) : M.i_raiseIrq x w.Irq w.Priority = some (raiI x w) := by
  unfold M.i_raiseIrq
  rw [i_ownI (gi_fit h), Option.bind_some, i_offQ h.q.1 hw]
  rfl
theorem s_endK {xs : List Slot} (h : GS xs) {irq : Int} (hc : canE xs irq = true) : M.s_l8End xs irq = some (endL xs irq, true) := by
  have hl := h.len
  obtain ⟨k, hk, e1, hst, hi, e2⟩ := canE_at h hc
  unfold M.s_l8End
  rw [s_find xs irq (by omega), Option.bind_some, e1, e2]
  have n0 : ¬ ((k : Int) < 0) := by omega
  have n1 : (xs[k].State == 1) = false := by rw [beq_eq_false_iff_ne]; omega
  simp only [n0, decide_false, cond_false, gxIdx_nat hk, Option.bind_some, n1]
  unfold endF setSt
  cases hs : (xs[k].State == 2) with
  | true => simp only [cond_true, s_withK hk (show xs.length ≤ 1048576 by omega), Option.bind_some]; rfl
  | false => simp only [cond_false, s_withK hk (show xs.length ≤ 1048576 by omega), Option.bind_some]
theorem i_endK {xs : List Slot} (h : GS xs) {irq : Int} (hc : canE xs irq = true) : M.i_endSlot xs irq = some (endL xs irq, true) := by
  have hl := h.len
  obtain ⟨k, hk, e1, hst, hi, e2⟩ := canE_at h hc
  unfold M.i_endSlot
  rw [i_find xs irq (by omega), Option.bind_some, e1, e2]
  have n0 : ¬ ((k : Int) < 0) := by omega
  simp only [n0, decide_false, cond_false, gxIdx_nat hk, Option.bind_some]
  unfold M.i_isActive endF setSt
  rcases hst with hs | hs
  · have b2 : (xs[k].State == 2) = true := by simp [hs]
    have b3 : (xs[k].State == 3) = false := by simp [hs]
    simp only [b2, b3, cond_true, cond_false, Option.bind_some, Bool.not_true, i_withK hk (show xs.length ≤ 1048576 by omega)]
    rfl
  · have b2 : (xs[k].State == 2) = false := by simp [hs]
    have b3 : (xs[k].State == 3) = true := by simp [hs]
    simp only [b2, b3, cond_true, cond_false, Option.bind_some, Bool.not_true, i_withK hk (show xs.length ≤ 1048576 by omega), hi]
theorem s_endQ {q : Queue} (h : GP q) {irq : Int} (hc : canE q.Slots irq = true) : M.s_l9End q irq = some (endQ q irq, true) := by
  unfold M.s_l9End
  rw [s_endK h.s hc, Option.bind_some]
  simp only [Bool.not_true, cond_false]
  rw [s_settleQ (gp_end h hc)]
  rfl
theorem i_endQ {q : Queue} (h : GP q) {irq : Int} (hc : canE q.Slots irq = true) : M.i_endQueue q irq = some (endQ q irq, true) := by
  unfold M.i_endQueue
  rw [i_endK h.s hc, Option.bind_some]
  simp only [Bool.not_true, cond_false]
  rw [i_settleQ (gp_end h hc)]
  rfl
theorem slice_last {l : List Int} (h0 : l.length ≠ 0) (hl : l.length ≤ 1048576) : gxSlice l 0 (w64 ((l.length : Int) - 1)) = some (l.take (l.length - 1)) := by
  rw [w64_id (by omega) (by omega), show ((l.length : Int) - 1) = ((l.length - 1 : Nat) : Int) by omega]
  exact gxSlice_take (by omega)
theorem s_leaE {x : Interface} (h0 : x.Stack.length = 0) : M.s_l10Leave__k x = some (x, -1) := by
  unfold M.s_l10Leave__k
  have e : ((x.Stack.length : Int) == 0) = true := by simp [h0]
  rw [e]
  rfl
theorem s_leaK {x : Interface} (h : GI x) (h0 : x.Stack.length ≠ 0) : M.s_l10Leave__k x = none ∧ M.s_l10Leave x = some (leaI x, lastI x) := by
  have hl := gi_len h
  obtain ⟨hc, _⟩ := last_can h h0
  have e : ((x.Stack.length : Int) == 0) = false := by rw [beq_eq_false_iff_ne]; omega
  have e1 := last_idx (l := x.Stack) h0 (by omega)
  have e2 := slice_last (l := x.Stack) h0 (by omega)
  have e3 : x.Stack.getD (x.Stack.length - 1) 0 = lastI x := rfl
  rw [e3] at e1
  have e4 := s_endQ h.q.1 hc
  have e5 : gxApp 8 ([] : List Int) (x.Stack.take (x.Stack.length - 1)) = some (x.Stack.take (x.Stack.length - 1)) := app_own (by rw [List.length_take]; omega)
  have e6 : (⟨x.Queue.Slots, x.Queue.Waiting⟩ : Queue) = x.Queue := rfl
  unfold M.s_l10Leave__k M.s_l10Leave M.s_l1Own
  rw [e, e6]
  simp only [cond_false, e1, Option.bind_some, e4, e2, e5]
  exact ⟨trivial, rfl⟩
theorem i_leaK {x : Interface} (h : GI x) : M.i_leaveIrq x = some (bif decide (x.Stack.length = 0) then (zI, 0, false) else (leaI x, lastI x, true)) := by
  have hl := gi_len h
  unfold M.i_leaveIrq
  by_cases h0 : x.Stack.length = 0
  · have e : decide (w64 ((x.Stack.length : Int) - 1) < 0) = true := by
      rw [h0]
      rfl
    simp only [e, h0, cond_true, decide_true]
    rfl
  · obtain ⟨hc, _⟩ := last_can h h0
    have e : decide (w64 ((x.Stack.length : Int) - 1) < 0) = false := by
      rw [w64_id (by omega) (by omega)]
      simp
      omega
    have e1 := last_idx (l := x.Stack) h0 (by omega)
    have e2 := slice_last (l := x.Stack) h0 (by omega)
    have e3 : x.Stack.getD (x.Stack.length - 1) 0 = lastI x := rfl
    rw [e3] at e1
    have e4 := i_endQ h.q.1 hc
    have e5 : gxApp 8 ([] : List Int) (x.Stack.take (x.Stack.length - 1)) = some (x.Stack.take (x.Stack.length - 1)) := app_own (by rw [List.length_take]; omega)
    have e6 : (⟨x.Queue.Slots, x.Queue.Waiting⟩ : Queue) = x.Queue := rfl
    unfold M.i_copyInts
    rw [e, e6]
    simp only [h0, decide_false, cond_false, e1, Option.bind_some, e4, e2, e5]
    rfl
end Go.Proofs.YtllhajkgkghhdaaGreat
set_option linter.unusedVariables false
set_option linter.unusedSimpArgs false
set_option maxHeartbeats 4000000
namespace Go.Proofs.YtllhajkgkghhdaaGreat
open Go.Gx
def FT (rs : List Route) (k : Int) (q : Queue) : Prop := (∀ s ∈ q.Slots, s.State ≠ 3 ∧ (s.State = 0 ∨ rtOk rs k s.Irq s.Priority = true)) ∧ ∀ w ∈ q.Waiting, rtOk rs k w.Irq w.Priority = true
theorem fit_iff {rs : List Route} {k : Int} {x : Interface} : fitOk rs k x = true ↔ FT rs k x.Queue := by
  unfold fitOk FT
  simp only [Bool.and_eq_true, List.all_eq_true, Bool.not_eq_true', beq_eq_false_iff_ne, Bool.or_eq_true, beq_iff_eq]
  constructor
  · rintro ⟨h1, h2, h3⟩
    exact ⟨fun s hs => ⟨h1 s hs, h2 s hs⟩, h3⟩
  · rintro ⟨h1, h3⟩
    exact ⟨fun s hs => (h1 s hs).1, fun s hs => (h1 s hs).2, h3⟩
theorem ft_pend {rs : List Route} {k : Int} {q : Queue} (f : FT rs k q) {w : Waiter} (hw : w ∈ pendW q) : rtOk rs k w.Irq w.Priority = true := by
  unfold pendW at hw
  rcases List.mem_append.1 hw with hw | hw
  · exact f.2 w hw
  · obtain ⟨s, hs, rfl⟩ := List.mem_map.1 hw
    obtain ⟨h1, h2⟩ := List.mem_filter.1 hs
    rcases (f.1 s h1).2 with h | h
    · exact absurd h (isPd_ne h2)
    · exact h
theorem actM_mem {xs : List Slot} {s : Slot} (hs : isAct s = true) : some s ∈ actM xs ↔ s ∈ xs := by
  unfold actM
  rw [List.mem_map]
  constructor
  · rintro ⟨t, ht, he⟩
    cases hta : isAct t with
    | false => rw [hta] at he; cases he
    | true =>
      rw [hta] at he
      obtain rfl := Option.some.inj he
      exact ht
  · intro h
    exact ⟨s, h, by rw [hs]; rfl⟩
theorem ft_kept {rs : List Route} {k : Int} {q r : Queue} (h : kept q r) (f : FT rs k q) : FT rs k r := by
  refine ⟨fun s hs => ?_, fun w hw => ft_pend f (h.pend.mem_iff.1 (List.mem_append_left _ hw))⟩
  have hok := (h.p.s.ok s hs).1
  cases ha : isAct s with
  | true =>
    have h1 : s ∈ q.Slots := (actM_mem ha).1 (h.act ▸ (actM_mem ha).2 hs)
    exact f.1 s h1
  | false =>
    unfold isAct at ha
    simp only [Bool.or_eq_false_iff, beq_eq_false_iff_ne] at ha
    refine ⟨ha.2, ?_⟩
    by_cases h0 : s.State = 0
    · exact Or.inl h0
    · have hp : isPd s = true := by
        unfold isPd
        have : s.State = 1 := by omega
        simp [this]
      have hm : wOf s ∈ pendW r := List.mem_append_right _ (List.mem_map.2 ⟨s, List.mem_filter.2 ⟨hs, hp⟩, rfl⟩)
      exact Or.inr (ft_pend f (h.pend.mem_iff.1 hm))
theorem ft_settle {rs : List Route} {k : Int} {q : Queue} (h : GP q) (f : FT rs k q) : FT rs k (settleQ q) := ft_kept (settleQ_ok h).1 f
theorem ft_off {rs : List Route} {k : Int} {q : Queue} (h : GP q) {w : Waiter} (hw : okWt w) (f : FT rs k q) (hr : rtOk rs k w.Irq w.Priority = true) (hn : w.Irq ∉ (actW q.Slots).map Waiter.Irq) : FT rs k (offQ q w) := by
  unfold offQ
  by_cases hf : fndS q.Slots w.Irq < 0
  · have e : decide (fndS q.Slots w.Irq ≥ 0) = false := by simp; omega
    rw [e, cond_false]
    cases hh : hasW q.Waiting w.Irq with
    | true => rw [cond_true]; exact ft_settle h f
    | false =>
      rw [cond_false]
      refine ft_settle (gp_ins h hw hf hh) ⟨f.1, fun x hx => ?_⟩
      rcases List.mem_cons.1 ((insU_perm q.Waiting w).mem_iff.1 hx) with rfl | hx
      · exact hr
      · exact f.2 x hx
  · have e : decide (fndS q.Slots w.Irq ≥ 0) = true := by simp; omega
    obtain ⟨j, hj, h2, h3, h4⟩ := fnd_at hf
    rw [e, cond_true, h2, Int.toNat_natCast, getD_at hj]
    have hs := f.1 _ (List.getElem_mem hj)
    have h22 : q.Slots[j].State ≠ 2 := fun h22 => hn (by
      rw [← h4]
      exact List.mem_map.2 ⟨wOf q.Slots[j], List.mem_map.2 ⟨_, List.mem_filter.2 ⟨List.getElem_mem hj, by simp [isAct, h22]⟩, rfl⟩, rfl⟩)
    obtain ⟨_, _, ⟨e1, _⟩ | ⟨_, e2⟩⟩ := putF_st q.Slots[j]
    · exact absurd e1 h22
    · rw [e2, List.set_getElem_self]
      exact ft_settle h f
theorem fit_rai {rs : List Route} {k : Int} {x : Interface} (h : GI x) (f : fitOk rs k x = true) {w : Waiter} (hw : okWt w) (hr : rtOk rs k w.Irq w.Priority = true) (hn : w.Irq ∉ x.Stack) : fitOk rs k (raiI x w) = true :=
  fit_iff.2 (ft_off h.q.1 hw (fit_iff.1 f) hr fun hm => hn (h.stk.mem_iff.2 hm))
theorem fit_tak {rs : List Route} {k : Int} {x : Interface} (h : GI x) (f : fitOk rs k x = true) (hc : canTI x = true) : fitOk rs k (takI x) = true := by
  have f := fit_iff.1 f
  refine fit_iff.2 ?_
  obtain ⟨j, hj, _, _, e, h1, _, _⟩ := canT_at (gi_slots h) hc
  unfold takI
  refine ⟨fun s hs => ?_, f.2⟩
  simp only at hs
  rw [e] at hs
  rcases mem_set_iff hj hs with rfl | ⟨i, hi, _, rfl⟩
  · refine ⟨by simp [setSt], ?_⟩
    rcases (f.1 _ (List.getElem_mem hj)).2 with h0 | h0
    · rw [h1] at h0
      cases h0
    · exact Or.inr h0
  · exact f.1 _ (List.getElem_mem hi)
theorem fit_lea {rs : List Route} {k : Int} {x : Interface} (h : GI x) (f : fitOk rs k x = true) (h0 : x.Stack.length ≠ 0) : fitOk rs k (leaI x) = true := by
  have f := fit_iff.1 f
  refine fit_iff.2 ?_
  obtain ⟨hc, _⟩ := last_can h h0
  obtain ⟨j, hj, _, hst, _, e⟩ := canE_at (gi_slots h) hc
  unfold leaI endQ
  refine ft_settle (gp_end h.q.1 hc) ⟨fun s hs => ?_, f.2⟩
  simp only at hs
  rw [e] at hs
  rcases mem_set_iff hj hs with rfl | ⟨i, hi, _, rfl⟩
  · have h3 := (f.1 _ (List.getElem_mem hj)).1
    have h2 : (x.Queue.Slots[j].State == 2) = true := by
      rw [beq_iff_eq]
      omega
    unfold endF
    rw [h2]
    exact ⟨by simp [gS], Or.inl rfl⟩
  · exact f.1 _ (List.getElem_mem hi)
end Go.Proofs.YtllhajkgkghhdaaGreat
set_option linter.unusedVariables false
set_option linter.unusedSimpArgs false
set_option maxHeartbeats 4000000
namespace Go.Proofs.YtllhajkgkghhdaaGreat
open Go.Gx
theorem wIfs_le2 {n : Nat} : ∀ {xs : List Interface}, (∀ x ∈ xs, wIf x ≤ n) → wIfs xs ≤ n * xs.length
  | [], _ => by simp [wIfs]
  | x :: r, h => by
    have h1 := wIfs_le2 (xs := r) fun y hy => h y (by simp [hy])
    have h2 := h x (by simp)
    have e : wIfs (x :: r) = wIf x + wIfs r := by simp [wIfs]
    rw [e, List.length_cons, Nat.mul_add, Nat.mul_one]
    omega
theorem gm_fit {m : Machine} (h : GM m) : fitM m := by
  obtain ⟨h1, h2, h3⟩ := gm_cpus h
  have h4 := h.en
  have h5 := h.ra
  have hb : ∀ x ∈ m.Cpus, GI x := fun x hx => by
    obtain ⟨k, hk, rfl⟩ := List.getElem_of_mem hx
    exact (h.cpu k hk).1
  refine ⟨by omega, by omega, by omega, by omega, fun x hx => gi_fit (hb x hx), ?_⟩
  have := wIfs_le2 (n := 100) (xs := m.Cpus) fun x hx => by
    have g := hb x hx
    have a1 := gi_len g
    have a2 := (gi_slots g).len
    have a3 := gp_waiting g.q.1
    unfold wIf
    omega
  omega
theorem app_one {α : Type} {B : Nat} {xs : List α} {i : Nat} (hi : i < xs.length) (hb : xs.length * B ≤ 140737488355328) : gxApp B (xs.take i) [xs[i]] = some (xs.take (i + 1)) := by
  have hl : (xs.take i).length = i := by rw [List.length_take]; omega
  rw [gxApp_ok (by
    rw [hl]
    have : (i + 1) * B ≤ xs.length * B := Nat.mul_le_mul_right _ hi
    show (i + 1) * B ≤ 140737488355328
    omega), List.take_add_one, List.getElem?_eq_getElem hi]
  rfl
theorem s_ownM {m : Machine} (h : fitM m) : M.s_l21Own m = some m := by
  obtain ⟨h1, h2, h3, h4, h5, _⟩ := h
  unfold M.s_l21Own
  rw [app_own (by omega), Option.bind_some, app_own (by omega), Option.bind_some, app_own (by omega), Option.bind_some]
  rw [while_run (fun i => ((i : Int), m.Cpus.take i)) m.Cpus m.Cpus.length (by simp) (by omega)]
  · rfl
  · intro i hi
    have e0 : ((i : Int) < (m.Cpus.length : Int)) := by omega
    have e1 := s_ownI (h5 _ (List.getElem_mem hi))
    simp only [e0, decide_true, cond_true, gxIdx_nat hi, Option.bind_some]
    rw [e1]
    simp only [Option.bind_some]
    rw [app_one hi (by omega)]
    simp only [Option.bind_some, w64_succ (show i ≤ 4611686018427387904 by omega)]
  · simp only [Int.lt_irrefl, decide_false, cond_false, List.take_length]
theorem i_ownM {m : Machine} (h : fitM m) : M.i_newMachine m = some m := by
  obtain ⟨h1, h2, h3, h4, h5, _⟩ := h
  unfold M.i_newMachine
  rw [app_own (by omega), Option.bind_some, app_own (by omega), Option.bind_some, app_own (by omega), Option.bind_some]
  rw [while_run (fun i => ((i : Int), m.Cpus.take i)) m.Cpus m.Cpus.length (by simp) (by omega)]
  · rfl
  · intro i hi
    have e0 : ((i : Int) < (m.Cpus.length : Int)) := by omega
    have e1 := i_ownI (h5 _ (List.getElem_mem hi))
    simp only [e0, decide_true, cond_true, gxIdx_nat hi, Option.bind_some]
    rw [e1]
    simp only [Option.bind_some]
    rw [app_one hi (by omega)]
    simp only [Option.bind_some, w64_succ (show i ≤ 4611686018427387904 by omega)]
  · simp only [Int.lt_irrefl, decide_false, cond_false, List.take_length]
def tgt (m : Machine) (i : Nat) : Nat := (m.Routes.getD i gR).Target.toNat
def rwt (m : Machine) (i : Nat) : Waiter := ⟨(i : Int), (m.Routes.getD i gR).Priority⟩
theorem route_at {m : Machine} (h : GM m) {i : Nat} (hi : i < 8) : (m.Routes.getD i gR).Target = (tgt m i : Int) ∧ tgt m i < m.Cpus.length ∧ okWt (rwt m i) ∧ rtOk m.Routes (tgt m i : Int) (rwt m i).Irq (rwt m i).Priority = true := by
  have hr := h.rts
  unfold okRts at hr
  simp only [Bool.and_eq_true, decide_eq_true_eq, beq_iff_eq, List.all_eq_true] at hr
  obtain ⟨_, hl, ha⟩ := hr
  have := ha i (List.mem_range.2 (by omega))
  unfold okRt at this
  have hz : (m.Routes.getD i ⟨0, 0⟩) = m.Routes.getD i gR := rfl
  rw [hz] at this
  simp only [Bool.and_eq_true, decide_eq_true_eq, w64_id (z := (m.Cpus.length : Int) - 1) (by omega) (by omega)] at this
  have ht : (m.Routes.getD i gR).Target = (tgt m i : Int) := by unfold tgt; omega
  refine ⟨ht, by unfold tgt; omega, ?_, ?_⟩
  · unfold okWt rwt
    simp only
    omega
  · unfold rtOk rwt
    simp only [Int.toNat_natCast, beq_self_eq_true, Bool.and_true, ht]
def dueM (m : Machine) (i : Nat) : Bool := m.Enabled.getD i false && (m.Raised.getD i false && !(decide ((i : Int) ∈ (m.Cpus.getD (tgt m i) gIf).Stack)))
def syncF (m : Machine) : Nat → List Bool × List Interface
  | 0 => (m.Raised, m.Cpus)
  | i + 1 => bif dueM m i then ((syncF m i).1.set i false, (syncF m i).2.set (tgt m i) (raiI ((syncF m i).2.getD (tgt m i) gIf) (rwt m i))) else syncF m i
def syncM (m : Machine) : Machine := ⟨m.Routes, m.Enabled, (syncF m 8).1, (syncF m 8).2⟩
structure SY (m : Machine) (i : Nat) : Prop where
  ra : (syncF m i).1.length = 8
  cl : (syncF m i).2.length = m.Cpus.length
  later : ∀ j, i ≤ j → (syncF m i).1.getD j false = m.Raised.getD j false
  cpu : ∀ k, k < m.Cpus.length → GI ((syncF m i).2.getD k gIf) ∧ fitOk m.Routes (k : Int) ((syncF m i).2.getD k gIf) = true ∧ ((syncF m i).2.getD k gIf).Stack = (m.Cpus.getD k gIf).Stack
theorem getD_setX {α : Type} {xs : List α} {i j : Nat} {y z : α} (hi : i < xs.length) : (xs.set i y).getD j z = if j = i then y else xs.getD j z := by
  rw [List.getD_eq_getElem?_getD, List.getD_eq_getElem?_getD, List.getElem?_set]
  by_cases h : i = j
  · subst h
    simp [hi]
  · have h2 : ¬ (j = i) := fun e => h e.symm
    simp [h, h2]
theorem sync_ok {m : Machine} (h : GM m) : ∀ i, i ≤ 8 → SY m i
  | 0, _ => ⟨h.ra, rfl, fun _ _ => rfl, fun k hk => by
      have := h.cpu k hk
      have e : (syncF m 0).2.getD k gIf = m.Cpus[k] := getD_at hk
      rw [e]
      exact ⟨this.1, this.2, by rw [getD_at hk]⟩⟩
  | i + 1, hi => by
    obtain ⟨h1, h2, h3, h4⟩ := sync_ok h i (by omega)
    obtain ⟨r1, r2, r3, r4⟩ := route_at h (show i < 8 by omega)
    cases hd : dueM m i with
    | false =>
      have e : syncF m (i + 1) = syncF m i := by rw [syncF, hd]; rfl
      exact ⟨by rw [e]; exact h1, by rw [e]; exact h2, fun j hj => by rw [e]; exact h3 j (by omega), fun k hk => by rw [e]; exact h4 k hk⟩
    | true =>
      have e : syncF m (i + 1) = ((syncF m i).1.set i false, (syncF m i).2.set (tgt m i) (raiI ((syncF m i).2.getD (tgt m i) gIf) (rwt m i))) := by rw [syncF, hd]; rfl
      obtain ⟨c1, c2, c3⟩ := h4 (tgt m i) r2
      refine ⟨by rw [e]; simp only [List.length_set]; exact h1, by rw [e]; simp only [List.length_set]; exact h2, fun j hj => ?_, fun k hk => ?_⟩
      · rw [e]
        simp only
        rw [getD_setX (by omega), if_neg (by omega)]
        exact h3 j (by omega)
      · rw [e]
        simp only
        rw [getD_setX (by omega)]
        by_cases hkt : k = tgt m i
        · rw [if_pos hkt, hkt]
          refine ⟨raiI_ok c1 r3, fit_rai c1 c2 r3 r4 ?_, c3⟩
          rw [c3]
          unfold dueM at hd
          simp only [Bool.and_eq_true, Bool.not_eq_true', decide_eq_false_iff_not] at hd
          exact hd.2.2
        · rw [if_neg hkt]
          exact h4 k hk
theorem syncM_ok {m : Machine} (h : GM m) : GM (syncM m) := by
  obtain ⟨h1, h2, _, h4⟩ := sync_ok h 8 (Nat.le_refl _)
  refine ⟨?_, h.en, h1, fun k hk => ?_⟩
  · unfold syncM
    simp only
    rw [h2]
    exact h.rts
  · unfold syncM at hk ⊢
    simp only at hk ⊢
    have := h4 k (by omega)
    rw [getD_at hk] at this
    exact ⟨this.1, this.2.1⟩
theorem idx_getD {α : Type} {xs : List α} {i : Nat} (z : α) (hi : i < xs.length) : gxIdx xs (i : Int) = some (xs.getD i z) := by
  rw [gxIdx_nat hi, getD_at hi]
theorem s_syncM {m : Machine} (h : GM m) : M.s_l21Sync m = some (syncM m) := by
  obtain ⟨g1, g2, g3⟩ := gm_cpus h
  have g4 := h.en
  have g5 := h.ra
  unfold M.s_l21Sync
  rw [s_ownM (gm_fit h), Option.bind_some]
  rw [while_run (fun i => ((i : Int), (syncF m i).1, (syncF m i).2)) ((syncF m 8).1, (syncF m 8).2) 8 (by simp [syncF]) (by omega)]
  · rfl
  · intro i hi
    obtain ⟨h1, h2, h3, h4⟩ := sync_ok h i (by omega)
    obtain ⟨r1, r2, r3, r4⟩ := route_at h hi
    obtain ⟨c1, c2, c3⟩ := h4 (tgt m i) r2
    have e0 : ((i : Int) < 8) := by omega
    have l0 : ((m.Cpus.getD (tgt m i) gIf).Stack).length ≤ 1048576 := by
      rw [getD_at r2]
      have := gi_len (h.cpu _ r2).1
      omega
    simp only [e0, decide_true, cond_true, idx_getD gR (show i < m.Routes.length by omega), idx_getD false (show i < m.Enabled.length by omega), idx_getD false (show i < m.Raised.length by omega), idx_getD false (show i < (syncF m i).1.length by omega), Option.bind_some, r1, idx_getD gIf r2, idx_getD gIf (show tgt m i < (syncF m i).2.length by omega), s_has _ _ l0, w64_succ (show i ≤ 4611686018427387904 by omega), Int.toNat_natCast]
    have hdue : (bif m.Enabled.getD i false then (bif m.Raised.getD i false then some (!(decide ((i : Int) ∈ (m.Cpus.getD (tgt m i) gIf).Stack))) else some false) else some false) = some (dueM m i) := by
      unfold dueM
      cases m.Enabled.getD i false <;> cases m.Raised.getD i false <;> rfl
    rw [hdue, Option.bind_some]
    cases hd : dueM m i with
    | false =>
      have e : syncF m (i + 1) = syncF m i := by rw [syncF, hd]; rfl
      rw [e]
      rfl
    | true =>
      have e : syncF m (i + 1) = ((syncF m i).1.set i false, (syncF m i).2.set (tgt m i) (raiI ((syncF m i).2.getD (tgt m i) gIf) (rwt m i))) := by rw [syncF, hd]; rfl
      have hr := s_raiI c1 r3
      have er : (rwt m i).Irq = (i : Int) ∧ (rwt m i).Priority = (m.Routes.getD i gR).Priority := ⟨rfl, rfl⟩
      rw [er.1, er.2] at hr
      have e2 : (⟨((syncF m i).2.getD (tgt m i) gIf).Mask, ((syncF m i).2.getD (tgt m i) gIf).Stack, (⟨((syncF m i).2.getD (tgt m i) gIf).Queue.Slots, ((syncF m i).2.getD (tgt m i) gIf).Queue.Waiting⟩ : Queue)⟩ : Interface) = (syncF m i).2.getD (tgt m i) gIf := rfl
      simp only [cond_true, e2, hr, Option.bind_some]
      rw [e]
  · simp only [Int.lt_irrefl, decide_false, cond_false]
    rfl
theorem i_has (l : List Int) (x : Int) (h : l.length ≤ 1048576) : M.slices_Contains_136 l x = some (decide (x ∈ l)) := by
  unfold M.slices_Contains_136 M.slices_Index_178
  rw [while_first (fun i => (i : Int)) (fun i => x == l.getD i 0) (fun i => (Sum.inr (i : Int) : Unit ⊕ Int)) (Sum.inl ()) l.length (by simp) (by omega)]
  · cases hf : (List.range l.length).find? (fun i => x == l.getD i 0) with
    | none =>
      have : x ∉ l := fun hx => by
        obtain ⟨i, hi, rfl⟩ := List.getElem_of_mem hx
        have := List.find?_eq_none.1 hf i (List.mem_range.2 hi)
        rw [getD_at hi] at this
        simp at this
      simp [this]
    | some i =>
      have hi : i < l.length := List.mem_range.1 (List.mem_of_find?_eq_some hf)
      have hp := List.find?_some hf
      rw [getD_at hi, beq_iff_eq] at hp
      have : x ∈ l := by rw [hp]; exact List.getElem_mem hi
      simp [this]
  · intro i hi
    have e0 : ((i : Int) < (l.length : Int)) := by omega
    simp only [e0, decide_true, cond_true, gxIdx_nat hi, Option.bind_some, getD_at hi, w64_succ (show i ≤ 4611686018427387904 by omega)]
    cases (x == l[i]) <;> rfl
  · simp only [Int.lt_irrefl, decide_false, cond_false]
theorem i_syncM {m : Machine} (h : GM m) : M.i_Machine_sync m = some (m.Routes, m.Enabled, (syncF m 8).1, (syncF m 8).2) := by
  obtain ⟨g1, g2, g3⟩ := gm_cpus h
  have g4 := h.en
  have g5 := h.ra
  unfold M.i_Machine_sync
  rw [while_run (fun i => ((i : Int), (syncF m i).1, (syncF m i).2)) ((syncF m 8).1, (syncF m 8).2) 8 (by simp [syncF]) (by omega)]
  · rfl
  · intro i hi
    obtain ⟨h1, h2, h3, h4⟩ := sync_ok h i (by omega)
    obtain ⟨r1, r2, r3, r4⟩ := route_at h hi
    obtain ⟨c1, c2, c3⟩ := h4 (tgt m i) r2
    have e0 : ((i : Int) < (m.Routes.length : Int)) := by omega
    have l0 : ((m.Cpus.getD (tgt m i) gIf).Stack).length ≤ 1048576 := by
      rw [← c3]
      have := gi_len c1
      omega
    simp only [e0, decide_true, cond_true, idx_getD gR (show i < m.Routes.length by omega), idx_getD false (show i < m.Enabled.length by omega), idx_getD false (show i < (syncF m i).1.length by omega), Option.bind_some, r1, idx_getD gIf (show tgt m i < (syncF m i).2.length by omega), i_has _ _ l0, w64_succ (show i ≤ 4611686018427387904 by omega), Int.toNat_natCast, h3 i (Nat.le_refl _), c3]
    have hdue : (bif m.Enabled.getD i false then (bif m.Raised.getD i false then some (!(decide ((i : Int) ∈ (m.Cpus.getD (tgt m i) gIf).Stack))) else some false) else some false) = some (dueM m i) := by
      unfold dueM
      cases m.Enabled.getD i false <;> cases m.Raised.getD i false <;> rfl
    rw [hdue, Option.bind_some]
    cases hd : dueM m i with
    | false =>
      have e : syncF m (i + 1) = syncF m i := by rw [syncF, hd]; rfl
      rw [e]
      rfl
    | true =>
      have e : syncF m (i + 1) = ((syncF m i).1.set i false, (syncF m i).2.set (tgt m i) (raiI ((syncF m i).2.getD (tgt m i) gIf) (rwt m i))) := by rw [syncF, hd]; rfl
      have hr := i_raiI c1 r3
      have er : (rwt m i).Irq = (i : Int) ∧ (rwt m i).Priority = (m.Routes.getD i gR).Priority := ⟨rfl, rfl⟩
      rw [er.1, er.2] at hr
      have e2 : (⟨((syncF m i).2.getD (tgt m i) gIf).Mask, (m.Cpus.getD (tgt m i) gIf).Stack, (⟨((syncF m i).2.getD (tgt m i) gIf).Queue.Slots, ((syncF m i).2.getD (tgt m i) gIf).Queue.Waiting⟩ : Queue)⟩ : Interface) = (syncF m i).2.getD (tgt m i) gIf := by rw [← c3]
      simp only [cond_true, e2, hr, Option.bind_some]
      rw [e]
  · rw [g3]
    rfl
end Go.Proofs.YtllhajkgkghhdaaGreat
set_option linter.unusedVariables false
set_option linter.unusedSimpArgs false
set_option maxHeartbeats 4000000
namespace Go.Proofs.YtllhajkgkghhdaaGreat
open Go.Gx
def okSt (m : Machine) (s : MachStep) : Bool :=
  bif s.Kind == 1 then (inR s.Irq 0 7 && ((s.Cpu == 0) && (s.Value == 0)))
  else (bif s.Kind == 2 then ((s.Irq == 0) && ((s.Cpu == 0) && (s.Value == 0)))
  else (bif (s.Kind == 3) || (s.Kind == 4) then ((s.Irq == 0) && (inR s.Cpu 0 ((m.Cpus.length : Int) - 1) && (s.Value == 0)))
  else (bif s.Kind == 5 then ((s.Irq == 0) && (inR s.Cpu 0 ((m.Cpus.length : Int) - 1) && inR s.Value 0 16))
  else ((s.Kind == 6) && (inR s.Irq 0 7 && ((s.Cpu == 0) && inR s.Value 0 1))))))
theorem s_okSt {m : Machine} (hl : m.Cpus.length ≤ 1048576) (s : MachStep) : M.s_l21Step m s = some (okSt m s) := by
  unfold M.s_l21Step M.s_l6Irq okSt
  simp only [s_in, Option.bind_some, w64_id (z := (m.Cpus.length : Int) - 1) (by omega) (by omega)]
  unfold inR
  cases (s.Kind == 1) <;> cases (s.Kind == 2) <;> cases (s.Kind == 3) <;> cases (s.Kind == 4) <;> cases (s.Kind == 5) <;> cases (s.Kind == 6) <;> cases (s.Irq == 0) <;> cases (s.Cpu == 0) <;> cases (s.Value == 0) <;> cases (decide (0 ≤ s.Irq) && decide (s.Irq ≤ 7)) <;> cases (decide (0 ≤ s.Cpu) && decide (s.Cpu ≤ (m.Cpus.length : Int) - 1)) <;> rfl
theorem i_okSt {m : Machine} (hl : m.Cpus.length ≤ 1048576) (s : MachStep) : M.i_isMachStep m s = some (okSt m s) := by
  unfold M.i_isMachStep M.i_isIrq M.i_isMask M.i_Machine_hasCpu okSt
  simp only [i_in, Option.bind_some, w64_id (z := (m.Cpus.length : Int) - 1) (by omega) (by omega)]
  unfold inR
  cases (s.Kind == 1) <;> cases (s.Kind == 2) <;> cases (s.Kind == 3) <;> cases (s.Kind == 4) <;> cases (s.Kind == 5) <;> cases (s.Kind == 6) <;> cases (s.Irq == 0) <;> cases (s.Cpu == 0) <;> cases (s.Value == 0) <;> cases (decide (0 ≤ s.Irq) && decide (s.Irq ≤ 7)) <;> cases (decide (0 ≤ s.Cpu) && decide (s.Cpu ≤ (m.Cpus.length : Int) - 1)) <;> rfl
def setC (m : Machine) (c : Int) (x : Interface) : Machine := ⟨m.Routes, m.Enabled, m.Raised, m.Cpus.set c.toNat x⟩
def atC (m : Machine) (c : Int) : Interface := m.Cpus.getD c.toNat gIf
def makeF (m : Machine) (s : MachStep) : Option (Machine × Int) :=
  bif s.Kind == 1 then (bif m.Raised.getD s.Irq.toNat false then none else some (⟨m.Routes, m.Enabled, m.Raised.set s.Irq.toNat true, m.Cpus⟩, -1))
  else (bif s.Kind == 2 then some (syncM m, -1)
  else (bif s.Kind == 3 then (bif canTI (atC m s.Cpu) then some (setC m s.Cpu (takI (atC m s.Cpu)), (topX (atC m s.Cpu).Queue.Slots).Irq) else none)
  else (bif s.Kind == 4 then (bif decide ((atC m s.Cpu).Stack.length = 0) then none else some (setC m s.Cpu (leaI (atC m s.Cpu)), lastI (atC m s.Cpu)))
  else (bif s.Kind == 5 then some (setC m s.Cpu ⟨s.Value, (atC m s.Cpu).Stack, (atC m s.Cpu).Queue⟩, -1)
  else some (⟨m.Routes, m.Enabled.set s.Irq.toNat (s.Value == 1), m.Raised, m.Cpus⟩, -1)))))
def agree (r : Machine × Int × Bool) (z : Option (Machine × Int)) : Prop := r.2.2 = z.isSome ∧ ∀ p, z = some p → r.1 = p.1 ∧ r.2.1 = p.2
theorem irq_at {xs : List Bool} (hl : xs.length = 8) {q : Int} (h : inR q 0 7 = true) : gxIdx xs q = some (xs.getD q.toNat false) := by
  unfold inR at h
  simp only [Bool.and_eq_true, decide_eq_true_eq] at h
  obtain ⟨n, rfl⟩ : ∃ n : Nat, q = n := ⟨q.toNat, by omega⟩
  rw [Int.toNat_natCast]
  exact idx_getD false (by omega)
theorem cpu_at {m : Machine} (h : GM m) {c : Int} (hc : inR c 0 ((m.Cpus.length : Int) - 1) = true) : gxIdx m.Cpus c = some (atC m c) ∧ GI (atC m c) ∧ fitOk m.Routes c (atC m c) = true ∧ c.toNat < m.Cpus.length ∧ ((c.toNat : Nat) : Int) = c := by
  unfold inR at hc
  simp only [Bool.and_eq_true, decide_eq_true_eq] at hc
  obtain ⟨n, rfl⟩ : ∃ n : Nat, c = n := ⟨c.toNat, by omega⟩
  have hn : n < m.Cpus.length := by omega
  have e : atC m (n : Int) = m.Cpus[n] := by unfold atC; rw [Int.toNat_natCast, getD_at hn]
  rw [e, Int.toNat_natCast]
  exact ⟨gxIdx_nat hn, (h.cpu n hn).1, (h.cpu n hn).2, hn, rfl⟩
theorem last_irq {x : Interface} (h : GI x) (h0 : x.Stack.length ≠ 0) : 0 ≤ lastI x := by
  obtain ⟨hc, k, hk, _, _, he⟩ := last_can h h0
  have := ((gi_slots h).ok _ (List.getElem_mem hk)).2.1.1
  rw [← he]
  exact this.1
end Go.Proofs.YtllhajkgkghhdaaGreat
set_option linter.unusedVariables false
set_option linter.unusedSimpArgs false
set_option maxHeartbeats 4000000
namespace Go.Proofs.YtllhajkgkghhdaaGreat
open Go.Gx
theorem s_make {m : Machine} (h : GM m) {s : MachStep} (hs : okSt m s = true) : ∃ r, M.s_l21Make m s = some r ∧ agree r (makeF m s) := by
  have hen := h.en
  have hra := h.ra
  unfold M.s_l21Make makeF
  unfold okSt at hs
  rw [s_ownM (gm_fit h), Option.bind_some]
  cases k1 : (s.Kind == 1) with
  | true =>
    rw [k1] at hs
    simp only [cond_true, Bool.and_eq_true] at hs
    simp only [cond_true, irq_at hra hs.1, Option.bind_some]
    cases hb : m.Raised.getD s.Irq.toNat false with
    | true => exact ⟨_, rfl, rfl, fun p hp => by cases hp⟩
    | false => exact ⟨_, rfl, rfl, fun p hp => by obtain rfl := Option.some.inj hp; exact ⟨rfl, rfl⟩⟩
  | false => cases k2 : (s.Kind == 2) with
    | true =>
      simp only [cond_false, cond_true, s_syncM h, Option.bind_some]
      exact ⟨_, rfl, rfl, fun p hp => by obtain rfl := Option.some.inj hp; exact ⟨rfl, rfl⟩⟩
    | false =>
      rw [k1, k2] at hs
      simp only [cond_false] at hs
      cases k3 : (s.Kind == 3) with
      | true =>
        rw [k3] at hs
        simp only [Bool.true_or, cond_true, Bool.and_eq_true] at hs
        obtain ⟨e1, g, f, hc, hcc⟩ := cpu_at h hs.2.1
        simp only [cond_false, cond_true, e1, Option.bind_some]
        have e2 : (⟨(atC m s.Cpu).Mask, (atC m s.Cpu).Stack, (⟨(atC m s.Cpu).Queue.Slots, (atC m s.Cpu).Queue.Waiting⟩ : Queue)⟩ : Interface) = atC m s.Cpu := rfl
        rw [e2, s_takI g, Option.bind_some]
        cases hcan : canTI (atC m s.Cpu) with
        | false => exact ⟨_, rfl, rfl, fun p hp => by cases hp⟩
        | true =>
          have hq := (top_irq g hcan).1
          refine ⟨_, rfl, ?_, fun p hp => by obtain rfl := Option.some.inj hp; exact ⟨rfl, rfl⟩⟩
          simp only [cond_true, ge_iff_le, hq, decide_true, Option.isSome_some]
      | false => cases k4 : (s.Kind == 4) with
        | true =>
          rw [k3, k4] at hs
          simp only [Bool.false_or, cond_true, Bool.and_eq_true] at hs
          obtain ⟨e1, g, f, hc, hcc⟩ := cpu_at h hs.2.1
          simp only [cond_false, cond_true, e1, Option.bind_some]
          have e2 : (⟨(atC m s.Cpu).Mask, (atC m s.Cpu).Stack, (⟨(atC m s.Cpu).Queue.Slots, (atC m s.Cpu).Queue.Waiting⟩ : Queue)⟩ : Interface) = atC m s.Cpu := rfl
          rw [e2]
          by_cases h0 : (atC m s.Cpu).Stack.length = 0
          · rw [s_leaE h0, gxAlt_some]
            simp only [h0, decide_true, cond_true]
            exact ⟨_, rfl, rfl, fun p hp => by cases hp⟩
          · obtain ⟨l1, l2⟩ := s_leaK g h0
            have hq := last_irq g h0
            rw [l1, l2, gxAlt_none, Option.bind_some]
            simp only [h0, decide_false, cond_false]
            refine ⟨_, rfl, ?_, fun p hp => by obtain rfl := Option.some.inj hp; exact ⟨rfl, rfl⟩⟩
            simp only [ge_iff_le, hq, decide_true, Option.isSome_some]
        | false => cases k5 : (s.Kind == 5) with
          | true =>
            rw [k3, k4, k5] at hs
            simp only [Bool.false_or, cond_false, cond_true, Bool.and_eq_true] at hs
            obtain ⟨e1, g, f, hc, hcc⟩ := cpu_at h hs.2.1
            simp only [cond_false, cond_true, e1, Option.bind_some]
            exact ⟨_, rfl, rfl, fun p hp => by obtain rfl := Option.some.inj hp; exact ⟨rfl, rfl⟩⟩
          | false =>
            rw [k3, k4, k5] at hs
            simp only [Bool.false_or, cond_false, Bool.and_eq_true] at hs
            simp only [cond_false, irq_at hen hs.2.1, Option.bind_some]
            exact ⟨_, rfl, rfl, fun p hp => by obtain rfl := Option.some.inj hp; exact ⟨rfl, rfl⟩⟩
theorem i_make {m : Machine} (h : GM m) {s : MachStep} (hs : okSt m s = true) : ∃ r, M.i_stepMachine m s = some r ∧ agree r (makeF m s) := by
  have hen := h.en
  have hra := h.ra
  unfold M.i_stepMachine makeF
  unfold okSt at hs
  rw [i_ownM (gm_fit h), Option.bind_some]
  cases k1 : (s.Kind == 1) with
  | true =>
    rw [k1] at hs
    simp only [cond_true, Bool.and_eq_true] at hs
    simp only [cond_true, irq_at hra hs.1, Option.bind_some]
    cases hb : m.Raised.getD s.Irq.toNat false with
    | true => exact ⟨_, rfl, rfl, fun p hp => by cases hp⟩
    | false => exact ⟨_, rfl, rfl, fun p hp => by obtain rfl := Option.some.inj hp; exact ⟨rfl, rfl⟩⟩
  | false => cases k2 : (s.Kind == 2) with
    | true =>
      simp only [cond_false, cond_true, i_syncM h, Option.bind_some]
      exact ⟨_, rfl, rfl, fun p hp => by obtain rfl := Option.some.inj hp; exact ⟨rfl, rfl⟩⟩
    | false =>
      rw [k1, k2] at hs
      simp only [cond_false] at hs
      cases k3 : (s.Kind == 3) with
      | true =>
        rw [k3] at hs
        simp only [Bool.true_or, cond_true, Bool.and_eq_true] at hs
        obtain ⟨e1, g, f, hc, hcc⟩ := cpu_at h hs.2.1
        simp only [cond_false, cond_true, e1, Option.bind_some]
        have e2 : (⟨(atC m s.Cpu).Mask, (atC m s.Cpu).Stack, (⟨(atC m s.Cpu).Queue.Slots, (atC m s.Cpu).Queue.Waiting⟩ : Queue)⟩ : Interface) = atC m s.Cpu := rfl
        rw [e2, i_takI g, Option.bind_some]
        cases hcan : canTI (atC m s.Cpu) with
        | false => exact ⟨_, rfl, rfl, fun p hp => by cases hp⟩
        | true => exact ⟨_, rfl, rfl, fun p hp => by obtain rfl := Option.some.inj hp; exact ⟨rfl, rfl⟩⟩
      | false => cases k4 : (s.Kind == 4) with
        | true =>
          rw [k3, k4] at hs
          simp only [Bool.false_or, cond_true, Bool.and_eq_true] at hs
          obtain ⟨e1, g, f, hc, hcc⟩ := cpu_at h hs.2.1
          simp only [cond_false, cond_true, e1, Option.bind_some]
          have e2 : (⟨(atC m s.Cpu).Mask, (atC m s.Cpu).Stack, (⟨(atC m s.Cpu).Queue.Slots, (atC m s.Cpu).Queue.Waiting⟩ : Queue)⟩ : Interface) = atC m s.Cpu := rfl
          rw [e2, i_leaK g, Option.bind_some]
          by_cases h0 : (atC m s.Cpu).Stack.length = 0
          · simp only [h0, decide_true, cond_true]
            exact ⟨_, rfl, rfl, fun p hp => by cases hp⟩
          · simp only [h0, decide_false, cond_false]
            exact ⟨_, rfl, rfl, fun p hp => by obtain rfl := Option.some.inj hp; exact ⟨rfl, rfl⟩⟩
        | false => cases k5 : (s.Kind == 5) with
          | true =>
            rw [k3, k4, k5] at hs
            simp only [Bool.false_or, cond_false, cond_true, Bool.and_eq_true] at hs
            obtain ⟨e1, g, f, hc, hcc⟩ := cpu_at h hs.2.1
            simp only [cond_false, cond_true, e1, Option.bind_some]
            exact ⟨_, rfl, rfl, fun p hp => by obtain rfl := Option.some.inj hp; exact ⟨rfl, rfl⟩⟩
          | false =>
            rw [k3, k4, k5] at hs
            simp only [Bool.false_or, cond_false, Bool.and_eq_true] at hs
            have k6 := hs.1
            simp only [cond_false, cond_true, k6, irq_at hen hs.2.1, Option.bind_some]
            exact ⟨_, rfl, rfl, fun p hp => by obtain rfl := Option.some.inj hp; exact ⟨rfl, rfl⟩⟩
theorem setC_ok {m : Machine} (h : GM m) {c : Int} (hc : inR c 0 ((m.Cpus.length : Int) - 1) = true) {x : Interface} (hx : GI x) (hf : fitOk m.Routes c x = true) : GM (setC m c x) := by
  obtain ⟨_, _, _, hl, hcc⟩ := cpu_at h hc
  refine ⟨?_, h.en, h.ra, fun k hk => ?_⟩
  · unfold setC
    simp only [List.length_set]
    exact h.rts
  · unfold setC at hk ⊢
    simp only [List.length_set] at hk
    simp only [List.getElem_set]
    by_cases e : c.toNat = k
    · rw [if_pos e]
      refine ⟨hx, ?_⟩
      rw [← e, hcc]
      exact hf
    · rw [if_neg e]
      exact h.cpu k hk
theorem make_ok {m : Machine} (h : GM m) {s : MachStep} (hs : okSt m s = true) {p : Machine × Int} (hp : makeF m s = some p) : GM p.1 := by
  unfold makeF at hp
  unfold okSt at hs
  cases k1 : (s.Kind == 1) with
  | true =>
    rw [k1] at hp
    simp only [cond_true] at hp
    cases hb : m.Raised.getD s.Irq.toNat false with
    | true => rw [hb] at hp; cases hp
    | false =>
      rw [hb] at hp
      obtain rfl := Option.some.inj hp
      exact ⟨h.rts, h.en, by simp only [List.length_set]; exact h.ra, h.cpu⟩
  | false => cases k2 : (s.Kind == 2) with
    | true =>
      rw [k1, k2] at hp
      obtain rfl := Option.some.inj hp
      exact syncM_ok h
    | false =>
      rw [k1, k2] at hp hs
      simp only [cond_false] at hp hs
      cases k3 : (s.Kind == 3) with
      | true =>
        rw [k3] at hp hs
        simp only [Bool.true_or, cond_true, Bool.and_eq_true] at hp hs
        obtain ⟨_, g, f, _, _⟩ := cpu_at h hs.2.1
        cases hcan : canTI (atC m s.Cpu) with
        | false => rw [hcan] at hp; cases hp
        | true =>
          rw [hcan] at hp
          obtain rfl := Option.some.inj hp
          exact setC_ok h hs.2.1 (takI_ok g hcan) (fit_tak g f hcan)
      | false => cases k4 : (s.Kind == 4) with
        | true =>
          rw [k3, k4] at hp hs
          simp only [Bool.false_or, cond_true, cond_false, Bool.and_eq_true] at hp hs
          obtain ⟨_, g, f, _, _⟩ := cpu_at h hs.2.1
          by_cases h0 : (atC m s.Cpu).Stack.length = 0
          · simp only [h0, decide_true, cond_true] at hp
            cases hp
          · simp only [h0, decide_false, cond_false] at hp
            obtain rfl := Option.some.inj hp
            exact setC_ok h hs.2.1 (leaI_ok g h0) (fit_lea g f h0)
        | false => cases k5 : (s.Kind == 5) with
          | true =>
            rw [k3, k4, k5] at hp hs
            simp only [Bool.false_or, cond_false, cond_true, Bool.and_eq_true] at hp hs
            obtain ⟨_, g, f, _, _⟩ := cpu_at h hs.2.1
            obtain rfl := Option.some.inj hp
            refine setC_ok h hs.2.1 ⟨?_, g.q, g.stk, g.lev⟩ (fit_iff.2 (fit_iff.1 f))
            have := hs.2.2
            unfold inR at this
            simp only [Bool.and_eq_true, decide_eq_true_eq] at this
            exact this
          | false =>
            rw [k3, k4, k5] at hp
            obtain rfl := Option.some.inj hp
            exact ⟨h.rts, by simp only [List.length_set]; exact h.en, h.ra, h.cpu⟩
end Go.Proofs.YtllhajkgkghhdaaGreat
set_option linter.unusedVariables false
set_option linter.unusedSimpArgs false
set_option maxHeartbeats 4000000
namespace Go.Proofs.YtllhajkgkghhdaaGreat
open Go.Gx
def zM : Machine := ⟨[], [], [], []⟩
theorem zM_fit : fitM zM := by
  unfold fitM zM wIfs
  simp
theorem StepMachine_eq (m : Machine) (s : MachStep) (h : fitM m) : ∃ r, M.s_StepMachine m s = some r ∧ M.i_StepMachine m s = some r ∧ fitM r.1 := by
  have h4 := h.2.2.2.1
  unfold M.s_StepMachine M.i_StepMachine
  rw [s_goodMc m h, i_goodMc m h, Option.bind_some, Option.bind_some]
  cases hg : goodMc m with
  | false => exact ⟨_, rfl, rfl, zM_fit⟩
  | true =>
    have g := (goodMc_iff m).1 hg
    simp only [Bool.not_true, cond_false]
    rw [s_okSt h4, i_okSt h4, Option.bind_some, Option.bind_some]
    cases hs : okSt m s with
    | false => exact ⟨_, rfl, rfl, zM_fit⟩
    | true =>
      obtain ⟨r1, a1, a2, a3⟩ := s_make g hs
      obtain ⟨r2, b1, b2, b3⟩ := i_make g hs
      simp only [Bool.not_true, Option.bind_some, cond_false, a1, b1, a2, b2]
      cases hz : makeF m s with
      | none => exact ⟨_, rfl, rfl, zM_fit⟩
      | some p =>
        obtain ⟨c1, c2⟩ := a3 p hz
        obtain ⟨d1, d2⟩ := b3 p hz
        simp only [Option.isSome_some, Bool.not_true, cond_false, c1, c2, d1, d2]
        exact ⟨_, rfl, rfl, gm_fit (make_ok g hs hz)⟩
end Go.Proofs.YtllhajkgkghhdaaGreat
set_option linter.unusedVariables false
set_option linter.unusedSimpArgs false
set_option maxHeartbeats 4000000
namespace Go.Proofs.YtllhajkgkghhdaaGreat
open Go.Gx
theorem fit_sum {m : Machine} (h : fitM m) : 2 * m.Routes.length + m.Enabled.length + m.Raised.length + wIfs m.Cpus ≤ 1099505000000 := by
  obtain ⟨h1, h2, h3, h4, _, h5⟩ := h
  omega
end Go.Proofs.YtllhajkgkghhdaaGreat
set_option linter.unusedVariables false
set_option linter.unusedSimpArgs false
set_option maxHeartbeats 4000000
namespace Go.Proofs.YtllhajkgkghhdaaGreat
open Go.Gx
def okMachStep (x : MachStep) : Prop := okI x.Kind ∧ okI x.Irq ∧ okI x.Cpu ∧ okI x.Value
theorem toMachStep_id (x : MachStep) : M.l_toMachStep x = some x := rfl
theorem plain_StepMachine (a0 : Machine) (a1 : MachStep) (k0 : okMachine a0) (k1 : okMachStep a1) : M.l_FnExactStepMachine a0 a1 = some true := by
  unfold M.l_FnExactStepMachine
  obtain ⟨q0, hq0, hf0⟩ := szMachine_ex a0 1048576 k0 (by omega)
  rw [hq0, Option.bind_some]
  rcases hf0 with hf0 | hf0
  · simp only [hf0, decide_true, cond_true]
  have hn0 : ¬ (q0 < 0) := by omega
  simp only [hn0, decide_false, cond_false]
  have hz0 := hf0.2.2
  have hx0 := fit_sum hz0
  obtain ⟨r, hs, hi, hr0⟩ := StepMachine_eq a0 a1 hz0
  have hy0 := fit_sum hr0
  have ht0 := toMachine_id a0 hz0
  have he0 := eqMachine_refl a0 hz0
  have ht1 := toMachStep_id a1
  obtain ⟨na0, ma0, hma0, _, hla0, hua0⟩ := markMachine_held a0 1 hz0 (by omega)
  have hma0 : M.l_markMachine a0 1 = _ := hma0
  obtain ⟨nr0, mr0, hmr0, hhr0, hlr0, hur0⟩ := markMachine_held r.1 1 hr0 (by omega)
  have hmr0 : M.l_markMachine r.1 1 = _ := hmr0
  have hhr0 : M.l_heldMachine ⟨mr0.1, mr0.2.1, mr0.2.2.1, mr0.2.2.2⟩ 1 = _ := hhr0
  have her0 := eqMachine_refl r.1 hr0
  simp only [hs, hi, ht0, he0, ht1, hma0, hmr0, hhr0, her0, nat_nlt, Option.bind_some, Bool.not_true, cond_false, cond_true, beq_self_eq_true, bne_self_eq_false, decide_false]
end Go.Proofs.YtllhajkgkghhdaaGreat
set_option linter.unusedVariables false
set_option linter.unusedSimpArgs false
namespace Go.Gx
section
variable {P : Program} {α : Type} {E : Enc α} {w0 w : World} {Ls : List Seg}
theorem Mem.below (h : Mem [] w0 w Ls) : Go.RowKit.Below w0.heap.size w0 w := ⟨h.os, h.tape, h.output, h.size, fun k hk => h.old k hk (by simp)⟩
def ReadsAs (P : Program) (t : TypeId) (E : Enc α) (ok : α → Prop) : Prop :=
  P.cellsOf t = E.k ∧ ∀ (H : Type) (enc : TypeId × Value → H) (w : World) (base : Nat) (spare : Nat → Bool) (held : Bool) (fuel : Nat) (cs : List Value) (y : DataW H × List MemPlace), DataW.trod enc P w base spare held fuel t cs = some y → ∃ x, cs = E.cells x ∧ ok x
theorem wf_i64 {n : Int} (h : (Lit.int .i64 n).wf = true) : okI n := by
  simp [Lit.wf, IntKind.min, IntKind.max, IntKind.bits, IntKind.signed] at h
  unfold okI
  omega
theorem readsInt {t : TypeId} (ht : P.underlying t = some (.int .i64)) (hc : P.cellsOf t = 1) : ReadsAs P t encI okI :=
  ⟨hc, fun _ _ _ _ _ _ _ _ _ h => by obtain ⟨n, rfl, _, hw⟩ := DataW.trod_int ht h; exact ⟨n, rfl, wf_i64 hw⟩⟩
theorem readsB {t : TypeId} (ht : P.underlying t = some .bool) (hc : P.cellsOf t = 1) : ReadsAs P t encB okB :=
  ⟨hc, fun _ _ _ _ _ _ _ _ _ h => by obtain ⟨n, rfl, _⟩ := DataW.trod_bool ht h; exact ⟨n, rfl, trivial⟩⟩
theorem cell_block {a : Addr} {v : Value} (h : w.cell? a = some v) : ∃ cs e fr, a = ⟨a.block, a.off, none⟩ ∧ w.heap[a.block]? = some (.cells cs e fr) ∧ cs[a.off]? = some v := by
  have hs := World.cell?_spot h
  unfold World.cell? at h
  split at h
  · rename_i c t fr hb
    rw [hs] at h
    refine ⟨c, t, fr, ?_, hb, by simpa using h⟩
    cases a; simp at hs; subst hs; rfl
  · cases h
theorem add_plain {b o n : Nat} : (⟨b, o, none⟩ : Addr).add n = ⟨b, o + n, none⟩ := by
  unfold Addr.add
  split
  · rename_i h; subst h; rfl
  · rfl
theorem list_of {γ : Type} {n : Nat} {R : Nat → γ → Prop} (h : ∀ i, i < n → ∃ x, R i x) : ∃ xs : List γ, xs.length = n ∧ ∀ i x, xs[i]? = some x → R i x := by
  induction n with
  | zero => exact ⟨[], rfl, by simp⟩
  | succ n ih =>
    obtain ⟨xs, hl, hx⟩ := ih (fun i hi => h i (by omega))
    obtain ⟨x, hR⟩ := h n (by omega)
    refine ⟨xs ++ [x], by simp [hl], fun i y hy => ?_⟩
    rw [List.getElem?_append] at hy
    split at hy
    · exact hx i y hy
    · rename_i hge
      have : i < n + 1 := by
        have := (List.getElem?_eq_some_iff.1 hy).1
        simp at this; omega
      have hi : i = n := by omega
      subst hi
      simp [hl] at hy
      subst hy
      exact hR
theorem open_slice {t e : TypeId} {ok : α → Prop} (hE : ReadsAs P e E ok) (hpos : 0 < E.k) (ht : P.underlying t = some (.slice e)) {H : Type} {enc : TypeId × Value → H} {base : Nat} {spare : Nat → Bool} {held : Bool} {fuel : Nat} {cs : List Value} {y : DataW H × List MemPlace}
    (h : DataW.trod enc P w base spare held fuel t cs = some y) : ∃ (p : Option Addr) (c : Nat) (xs : List α), cs = [.slice p xs.length c] ∧ rdS E w xs p c ∧ xs.length ≤ 9223372036854775807 ∧ ∀ x ∈ xs, ok x := by
  rcases DataW.trod_slice ht h with ⟨rfl, _⟩ | ⟨a, len, cap, elems, rest, n, _, rfl, _, _, hl, hm, hlen, hel, _⟩
  · exact ⟨none, 0, [], rfl, rdS_nil, by simp, by simp⟩
  · have each : ∀ i, i < len → ∃ x : α, ok x ∧ ∀ j, j < E.k → w.cell? ((a.add (i * E.k)).add j) = (E.cells x)[j]? := by
      intro i hi
      have h1 := hel i hi
      rw [List.getElem?_eq_getElem (by omega)] at h1
      obtain ⟨ci, hc, hr⟩ := Option.bind_eq_some_iff.1 h1
      obtain ⟨x, rfl, hx⟩ := hE.2 _ _ _ _ _ _ _ _ _ hr
      obtain ⟨_, _, hc3⟩ := World.cells?_some hc
      rw [hE.1] at hc3
      exact ⟨x, hx, hc3⟩
    obtain ⟨xs, hxl, hxs⟩ := list_of each
    refine ⟨some a, cap, xs, by rw [hxl], ⟨by omega, ?_⟩, by have : cap ≤ 9223372036854775807 := hm; omega, fun x hx => ?_⟩
    · cases xs with
      | nil => exact Or.inl rfl
      | cons x0 r =>
        right
        have h0 := (hxs 0 x0 rfl).2 0 hpos
        rw [List.getElem?_eq_getElem (by rw [E.len]; exact hpos)] at h0
        have h1 : w.cell? a = some ((E.cells x0)[0]'(by rw [E.len]; exact hpos)) := by simpa [Addr.add] using h0
        obtain ⟨C, e', fr, ha, hb, _⟩ := cell_block h1
        refine ⟨a.block, a.off, C, e', fr, by rw [← ha], hb, fun i x hx j v hj => ?_⟩
        have hjk : j < E.k := by
          have := (List.getElem?_eq_some_iff.1 hj).1
          rw [E.len] at this; exact this
        have hcell := (hxs i x hx).2 j hjk
        rw [hj, ha, add_plain, add_plain] at hcell
        simpa [World.cell?, hb] using hcell
    · obtain ⟨i, hi, rfl⟩ := List.mem_iff_getElem.1 hx
      exact (hxs i _ (List.getElem?_eq_getElem hi)).1
theorem open_fields {t : TypeId} {fs : Array Field} (hs : P.underlying t = some (.struct fs)) {H : Type} {enc : TypeId × Value → H} {base : Nat} {spare : Nat → Bool} {held : Bool} {fuel : Nat} {cs : List Value} {y : DataW H × List MemPlace}
    (h : DataW.trod enc P w base spare held fuel t cs = some y) : ∃ n, ∀ (i : Nat) (f : Field), fs[i]? = some f → ∃ z, DataW.trod enc P w base spare held n f.type ((cs.drop f.offset).take (P.cellsOf f.type)) = some z := by
  obtain ⟨xs, n, _, _, _, hl, hf⟩ := DataW.trod_struct hs h
  refine ⟨n, fun i f hi => ?_⟩
  have hlt : i < xs.length := by rw [hl]; exact (Array.getElem?_eq_some_iff.1 hi).1
  exact ⟨xs[i], by rw [hf i f hi, List.getElem?_eq_getElem hlt]⟩
theorem trod_len {t : TypeId} {fs : Array Field} (hs : P.underlying t = some (.struct fs)) {H : Type} {enc : TypeId × Value → H} {base : Nat} {spare : Nat → Bool} {held : Bool} {fuel : Nat} {cs : List Value} {y : DataW H × List MemPlace}
    (h : DataW.trod enc P w base spare held fuel t cs = some y) : cs.length = P.cellsOf t := by
  obtain ⟨_, _, _, _, hl, _⟩ := DataW.trod_struct hs h
  exact hl
theorem field_of {H : Type} {enc : TypeId × Value → H} {base : Nat} {spare : Nat → Bool} {held : Bool} {n : Nat} {fs : Array Field} {cs : List Value}
    (h : ∀ (i : Nat) (f : Field), fs[i]? = some f → ∃ z, DataW.trod enc P w base spare held n f.type ((cs.drop f.offset).take (P.cellsOf f.type)) = some z) (i : Nat) (f : Field) (hf : fs[i]? = some f) (T : TypeId) (sub : List Value) (hT : f.type = T) (hs : (cs.drop f.offset).take (P.cellsOf f.type) = sub) :
    ∃ z, DataW.trod enc P w base spare held n T sub = some z := by
  subst hT hs
  exact h i f hf
end
end Go.Gx
set_option linter.unusedVariables false
set_option linter.unusedSimpArgs false
namespace Go.Gx
section
variable {P : Program} {α : Type} {D : Deep α} {w : World}
def ReadsDeep (P : Program) (t : TypeId) (D : Deep α) (ok : α → Prop) : Prop :=
  P.cellsOf t = D.E.k ∧ ∀ (H : Type) (enc : TypeId × Value → H) (w : World) (base : Nat) (spare : Nat → Bool) (held : Bool) (fuel : Nat) (cs : List Value) (y : DataW H × List MemPlace), DataW.trod enc P w base spare held fuel t cs = some y → ∃ z, cs = D.E.cells z ∧ rdI w (D.inner z) ∧ ok z.1
theorem rdJ_nil : rdI w [] := fun i hi => by cases hi
theorem rdJ_cons {i : Inn} {l : List Inn} (h : rdS i.E w i.xs i.p i.c) (h2 : rdI w l) : rdI w (i :: l) := fun j hj => by
  rcases List.mem_cons.1 hj with rfl | hj
  · exact h
  · exact h2 j hj
theorem open_deep {t e : TypeId} {ok : α → Prop} (hE : ReadsDeep P e D ok) (hpos : 0 < D.E.k) (ht : P.underlying t = some (.slice e)) {H : Type} {enc : TypeId × Value → H} {base : Nat} {spare : Nat → Bool} {held : Bool} {fuel : Nat} {cs : List Value} {y : DataW H × List MemPlace}
    (h : DataW.trod enc P w base spare held fuel t cs = some y) : ∃ (p : Option Addr) (c : Nat) (xs : List α), cs = [.slice p xs.length c] ∧ rdD D w xs p c ∧ xs.length ≤ 9223372036854775807 ∧ ∀ x ∈ xs, ok x := by
  rcases DataW.trod_slice ht h with ⟨rfl, _⟩ | ⟨a, len, cap, elems, rest, n, _, rfl, _, _, hl, hm, hlen, hel, _⟩
  · exact ⟨none, 0, [], rfl, rdD_nil, by simp, by simp⟩
  · have each : ∀ i, i < len → ∃ z : α × Pl, (rdI w (D.inner z) ∧ ok z.1) ∧ ∀ j, j < D.E.k → w.cell? ((a.add (i * D.E.k)).add j) = (D.E.cells z)[j]? := by
      intro i hi
      have h1 := hel i hi
      rw [List.getElem?_eq_getElem (by omega)] at h1
      obtain ⟨ci, hc, hr⟩ := Option.bind_eq_some_iff.1 h1
      obtain ⟨x, rfl, hx⟩ := hE.2 _ _ _ _ _ _ _ _ _ hr
      obtain ⟨_, _, hc3⟩ := World.cells?_some hc
      rw [hE.1] at hc3
      exact ⟨x, hx, hc3⟩
    obtain ⟨zs, hxl, hxs⟩ := list_of each
    refine ⟨some a, cap, zs.map Prod.fst, by rw [List.length_map, hxl], ⟨zs, rfl, ⟨by omega, ?_⟩, fun i hi => ?_⟩, by rw [List.length_map]; have : cap ≤ 9223372036854775807 := hm; omega, fun x hx => ?_⟩
    · cases zs with
      | nil => exact Or.inl rfl
      | cons x0 r =>
        right
        have h0 := (hxs 0 x0 rfl).2 0 hpos
        rw [List.getElem?_eq_getElem (by rw [D.E.len]; exact hpos)] at h0
        have h1 : w.cell? a = some ((D.E.cells x0)[0]'(by rw [D.E.len]; exact hpos)) := by simpa [Addr.add] using h0
        obtain ⟨C, e', fr, ha, hb, _⟩ := cell_block h1
        refine ⟨a.block, a.off, C, e', fr, by rw [← ha], hb, fun i x hx j v hj => ?_⟩
        have hjk : j < D.E.k := by
          have := (List.getElem?_eq_some_iff.1 hj).1
          rw [D.E.len] at this; exact this
        have hcell := (hxs i x hx).2 j hjk
        rw [hj, ha, add_plain, add_plain] at hcell
        simpa [World.cell?, hb] using hcell
    · obtain ⟨z, hz, hi⟩ := List.mem_flatMap.1 hi
      obtain ⟨k, hk, rfl⟩ := List.mem_iff_getElem.1 hz
      exact (hxs k _ (List.getElem?_eq_getElem hk)).1.1 i hi
    · obtain ⟨z, hz, rfl⟩ := List.mem_map.1 hx
      obtain ⟨k, hk, rfl⟩ := List.mem_iff_getElem.1 hz
      exact (hxs k _ (List.getElem?_eq_getElem hk)).1.2
end
end Go.Gx
