/- Plain laws of the models: no program in sight. -/
import Derived.Test.YtllhajkgkghhdaaGreatAM
import Derived.Test.YtllhajkgkghhdaaGreatAK9
set_option linter.unusedVariables false
set_option linter.unusedSimpArgs false
set_option maxHeartbeats 4000000
namespace Go.Proofs.YtllhajkgkghhdaaGreat
open Go.Gx
/-! ### The pending ones, computed -/
theorem gxIdx_less {α : Type} {L : List α} {j : Nat} (h : j + 1 < L.length) (hj : j ≤ 1099511627776) : gxIdx L (w64 (((j + 1 : Nat) : Int) - 1)) = some (L[j]'(by omega)) := by
  rw [w64_id (by omega) (by omega), show (((j + 1 : Nat) : Int) - 1) = ((j : Nat) : Int) by omega]
  exact gxIdx_nat (by omega)
def ltU (a b : Waiter) : Bool := lessU a.Priority a.Irq b.Priority b.Irq
theorem sort_insU (xs : List Waiter) (h : xs.length ≤ 1048576) : M.slices_insertionSortCmpFunc_214__i_compareUrgency xs 0 (xs.length : Int) = some (isortL ltU xs) := by
  unfold M.slices_insertionSortCmpFunc_214__i_compareUrgency
  rw [show w64 (0 + 1) = 1 from rfl, outer_run ltU (xs := xs) (by omega)]
  · rfl
  · intro i pre post x hp hi
    have e0 : ((i : Int) < (xs.length : Int)) := by omega
    subst hp
    have hin := inner_run (α := Waiter) ltU (body := fun s4678 =>
      Option.bind (α := Bool) (bif decide (s4678.1 > 0) then (Option.bind (gxIdx s4678.2 s4678.1) fun y4710 =>
      Option.bind (gxIdx s4678.2 (w64 (s4678.1 - 1))) fun y4711 =>
      Option.bind (M.i_compareUrgency y4710 y4711) fun r4712 =>
      some (decide (r4712 < 0)))
      else some false) fun o4706 =>
      bif o4706 then (Option.bind (gxIdx s4678.2 (w64 (s4678.1 - 1))) fun y4727 =>
      Option.bind (gxIdx s4678.2 s4678.1) fun y4728 =>
      Option.bind (gxIdx s4678.2 s4678.1) fun y4729 =>
      Option.bind (gxIdx (s4678.2.set s4678.1.toNat y4727) (w64 (s4678.1 - 1))) fun y4801 =>
      some (.inl (w64 (s4678.1 - 1), ((s4678.2.set s4678.1.toNat y4727).set (w64 (s4678.1 - 1)).toNat y4728))))
      else some (.inr s4678.2)) (by
        intro j L h1 hj
        have e1 : (((j + 1 : Nat) : Int) > 0) := by omega
        have e2 : w64 (((j + 1 : Nat) : Int) - 1) = (j : Int) := by rw [w64_id (by omega) (by omega)]; omega
        have h3 : j < (L.set (j + 1) (L[j]'(by omega))).length := by simp; omega
        have hz := i_cmpU L[j + 1] (L[j]'(by omega))
        have hz2 := cmpU_lt L[j + 1] (L[j]'(by omega))
        simp only [e1, e2, decide_true, cond_true, gxIdx_nat h1, gxIdx_nat (show j < L.length by omega), hz, hz2, Option.bind_some, Int.toNat_natCast, gxIdx_nat h3]
        unfold ltU
        cases lessU L[j + 1].Priority L[j + 1].Irq (L[j]'(by omega)).Priority (L[j]'(by omega)).Irq <;> rfl) (by intro L; rfl) x pre.reverse post gxFuel (by simp; unfold gxFuel; omega) (by simp; omega)
    rw [List.length_reverse, List.reverse_reverse] at hin
    simp only [e0, decide_true, cond_true]
    rw [hin]
    rfl
  · intro i L hi
    have e0 : ¬ (i < (xs.length : Int)) := by omega
    simp only [e0, decide_false, cond_false]
theorem insRev_congr {α : Type} {lt lt' : α → α → Bool} {x : α} : ∀ {l : List α}, (∀ y ∈ l, lt x y = lt' x y) → insRev lt x l = insRev lt' x l
  | [], _ => rfl
  | y :: r, h => by
    unfold insRev
    rw [h y (by simp), insRev_congr fun z hz => h z (by simp [hz])]
theorem isortL_congr {α : Type} {lt lt' : α → α → Bool} {xs : List α} (h : ∀ x ∈ xs, ∀ y ∈ xs, lt x y = lt' x y) : isortL lt xs = isortL lt' xs := by
  have key : ∀ (ys acc : List α), (∀ y ∈ ys, y ∈ xs) → (∀ y ∈ acc, y ∈ xs) → ys.foldl (insR lt) acc = ys.foldl (insR lt') acc := by
    intro ys
    induction ys with
    | nil => intro acc _ _; rfl
    | cons y r ih =>
      intro acc h1 h2
      have e : insR lt acc y = insR lt' acc y := by
        unfold insR
        rw [insRev_congr fun z hz => h y (h1 y (by simp)) z (h2 z (by simpa using hz))]
      rw [List.foldl_cons, List.foldl_cons, e]
      refine ih _ (fun z hz => h1 z (by simp [hz])) fun z hz => ?_
      rcases List.mem_cons.1 ((insR_perm lt' acc y).mem_iff.1 hz) with rfl | hz
      · exact h1 z (by simp)
      · exact h2 z hz
  exact key xs [] (fun y hy => hy) (by simp)
theorem i_sortU (xs : List Waiter) (h : xs.length ≤ 12) (hok : ∀ w ∈ xs, okWt w) : M.slices_SortFunc_128__i_compareUrgency xs = some (isortL (ltK keyW) xs) := by
  unfold M.slices_SortFunc_128__i_compareUrgency M.math_bits_Len M.slices_pdqsortCmpFunc_168__i_compareUrgency
  have e1 : IntKind.u64.wrap (xs.length : Int) = (xs.length : Int) := by
    simp [IntKind.wrap, IntKind.bits, IntKind.signed]
    omega
  have h1 : (0 : Int) ≤ (xs.length : Int) := by omega
  have h2 : (xs.length : Int) ≤ 18446744073709551615 := by omega
  have e2 : w64 ((xs.length : Int) - 0) = (xs.length : Int) := by rw [w64_id (by omega) (by omega)]; omega
  have h3 : (xs.length : Int) ≤ 12 := by omega
  have e3 : isortL ltU xs = isortL (ltK keyW) xs := isortL_congr fun x hx y hy => less_key (hok x hx) (hok y hy)
  simp only [e1, h1, h2, decide_true, Bool.and_self, cond_true, Option.bind_some]
  rw [while_small (r := isortL (ltK keyW) xs) 1 (by omega) (by simp only [whileM, e2, h3, decide_true, cond_true, sort_insU xs (by omega), Option.bind_some, e3])]
  rfl
theorem pendW_len {q : Queue} (h : GP q) : (pendW q).length ≤ 12 := by
  have h1 := gp_waiting h
  unfold pendW
  rw [List.length_append, List.length_map]
  have := List.length_filter_le isPd q.Slots
  rw [h.s.len] at this
  omega
def pendI (q : Queue) : List Int := (sortW q).map Waiter.Irq
theorem pendI_len {q : Queue} (h : GP q) : (pendI q).length ≤ 12 := by
  unfold pendI sortW
  rw [List.length_map, isortL_len]
  exact pendW_len h
theorem i_pending {q : Queue} (h : GP q) : M.i_pendingIrqs q = some (pendI q) := by
  have hw := gp_waiting h
  have hs := h.s.len
  unfold M.i_pendingIrqs
  have p0 : gxApp 16 ([] : List Waiter) q.Waiting = some q.Waiting := by rw [gxApp_ok (by simp; omega)]; rfl
  rw [p0, Option.bind_some, while_run (fun i => (q.Waiting ++ ((q.Slots.take i).filter isPd).map wOf, (i : Int))) (pendW q) q.Slots.length (by simp) (by omega)]
  · have hsl : (isortL (ltK keyW) (pendW q)).length ≤ 12 := by rw [isortL_len]; exact pendW_len h
    rw [Option.bind_some, i_sortU _ (pendW_len h) (pend_ok h), Option.bind_some]
    rw [while_run (fun i => (((sortW q).take i).map Waiter.Irq, (i : Int))) (pendI q) (sortW q).length (by simp) (by unfold sortW; omega)]
    · rfl
    · intro i hi
      have hi' : i < (isortL (ltK keyW) (pendW q)).length := hi
      have e0 : ((i : Int) < ((isortL (ltK keyW) (pendW q)).length : Int)) := by omega
      simp only [e0, decide_true, cond_true, gxIdx_nat hi', Option.bind_some, w64_succ (show i ≤ 4611686018427387904 by omega)]
      rw [gxApp_ok (by simp; omega), Option.bind_some, List.take_add_one, List.getElem?_eq_getElem hi, Option.toList_some, List.map_append]
      rfl
    · have e0 : ¬ (((sortW q).length : Int) < ((isortL (ltK keyW) (pendW q)).length : Int)) := by unfold sortW; omega
      simp only [e0, decide_false, cond_false, List.take_length]
      rfl
  · intro i hi
    have e0 : ((i : Int) < (q.Slots.length : Int)) := by omega
    have htk : ((q.Slots.take (i + 1)).filter isPd).map wOf = ((q.Slots.take i).filter isPd).map wOf ++ (bif isPd q.Slots[i] then [wOf q.Slots[i]] else []) := by
      rw [List.take_add_one, List.getElem?_eq_getElem hi, Option.toList_some, List.filter_append, List.map_append]
      cases hz : isPd q.Slots[i] <;> simp [hz]
    have hll : (((q.Slots.take i).filter isPd).map wOf).length ≤ 4 := by
      rw [List.length_map]
      have := List.length_filter_le isPd (q.Slots.take i)
      have h2 : (q.Slots.take i).length ≤ i := by simp; omega
      omega
    have hpd : (Option.bind (α := Bool) (bif q.Slots[i].State == 1 then some true else some (q.Slots[i].State == 3)) fun o => (Option.bind (α := List Waiter) (bif o then (Option.bind (M.i_waiterOf q.Slots[i]) fun r9749 =>
        Option.bind (gxApp 16 (q.Waiting ++ ((q.Slots.take i).filter isPd).map wOf) [r9749]) fun ap9760 =>
        some ap9760)
        else some (q.Waiting ++ ((q.Slots.take i).filter isPd).map wOf)) fun o9740 =>
        (some (Sum.inl (o9740, w64 ((i : Int) + 1))) : Option ((List Waiter × Int) ⊕ (List Waiter))))) = some (Sum.inl (q.Waiting ++ ((q.Slots.take (i + 1)).filter isPd).map wOf, ((i + 1 : Nat) : Int))) := by
      rw [htk, w64_succ (show i ≤ 4611686018427387904 by omega)]
      have p1 : gxApp 16 (q.Waiting ++ ((q.Slots.take i).filter isPd).map wOf) [wOf q.Slots[i]] = some (q.Waiting ++ ((q.Slots.take i).filter isPd).map wOf ++ [wOf q.Slots[i]]) := gxApp_ok (by simp only [List.length_append, List.length_cons, List.length_nil]; omega)
      unfold M.i_waiterOf
      rw [show isPd q.Slots[i] = (q.Slots[i].State == 1 || q.Slots[i].State == 3) from rfl]
      have ew : (⟨q.Slots[i].Irq, q.Slots[i].Priority⟩ : Waiter) = wOf q.Slots[i] := rfl
      cases h1 : (q.Slots[i].State == 1) with
      | true => simp only [cond_true, Option.bind_some, ew, p1, Bool.true_or, List.append_assoc]
      | false => cases h3 : (q.Slots[i].State == 3) with
        | true => simp only [cond_true, cond_false, Option.bind_some, ew, p1, Bool.false_or, List.append_assoc]
        | false => simp only [cond_false, Option.bind_some, Bool.false_or, List.append_nil]
    simp only [e0, decide_true, cond_true, gxIdx_nat hi, Option.bind_some]
    exact hpd
  · simp only [Int.lt_irrefl, decide_false, cond_false, List.take_length]
    rfl
theorem take_tw {α : Type} (p : α → Bool) (ws : List α) : ws.take (ws.takeWhile p).length = ws.takeWhile p ∧ ws.drop (ws.takeWhile p).length = ws.dropWhile p ∧ (ws.takeWhile p).length ≤ ws.length := by
  have h1 := List.take_left (l₁ := ws.takeWhile p) (l₂ := ws.dropWhile p)
  have h2 := List.drop_left (l₁ := ws.takeWhile p) (l₂ := ws.dropWhile p)
  rw [List.takeWhile_append_dropWhile] at h1 h2
  exact ⟨h1, h2, (List.takeWhile_prefix p).length_le⟩
theorem s_wait (ws : List Waiter) (w : Waiter) (hl : ws.length ≤ 1048576) (hok : ∀ x ∈ ws, okWt x) (hw : okWt w) : M.s_l9Wait ws w = some (insU ws w) := by
  unfold M.s_l9Wait
  rw [while_place (fun x => decide (keyW x < keyW w)) (xs := ws) (by omega)]
  · obtain ⟨t1, t2, t3⟩ := take_tw (fun x => decide (keyW x < keyW w)) ws
    have p1 : gxApp 16 ([] : List Waiter) (ws.takeWhile fun x => decide (keyW x < keyW w)) = some (ws.takeWhile fun x => decide (keyW x < keyW w)) := by rw [gxApp_ok (by simp only [List.length_nil]; omega)]; rfl
    have t4 : (ws.dropWhile fun x => decide (keyW x < keyW w)).length ≤ ws.length := by rw [← t2]; simp
    simp only [Option.bind_some, gxSlice_take t3, gxSlice_drop t3, t1, t2, p1]
    rw [gxApp_ok (by simp only [List.length_cons, List.length_nil]; omega), Option.bind_some, gxApp_ok (by simp only [List.length_append, List.length_cons, List.length_nil]; omega)]
    simp only [Option.bind_some, insU, List.append_assoc, List.cons_append, List.nil_append]
  · intro i hi
    have e0 : ((i : Int) < (ws.length : Int)) := by omega
    have hlk := less_key (hok _ (List.getElem_mem hi)) hw
    simp only [e0, decide_true, cond_true, gxIdx_nat hi, Option.bind_some, s_less, hlk]
    cases decide (keyW ws[i] < keyW w) <;> rfl
  · simp only [Int.lt_irrefl, decide_false, cond_false, Option.bind_some]
theorem s_pending {q : Queue} (h : GP q) : M.s_l9Pending q = some (pendI q) := by
  have hw := gp_waiting h
  have hs := h.s.len
  unfold M.s_l9Pending
  have p0 : gxApp 16 ([] : List Waiter) q.Waiting = some q.Waiting := by rw [gxApp_ok (by simp; omega)]; rfl
  rw [p0, Option.bind_some]
  obtain ⟨L, hL, hL1, hL2⟩ := while_inv (body := fun s8992 : List Waiter × Int =>
    bif decide (s8992.2 < (q.Slots.length : Int)) then (Option.bind (gxIdx q.Slots s8992.2) fun y9014 =>
    Option.bind (α := Bool) (bif y9014.State == 1 then some true
    else some (y9014.State == 3)) fun o9022 =>
    Option.bind (α := List Waiter) (bif o9022 then (Option.bind (M.s_l9Wait s8992.1 (⟨y9014.Irq, y9014.Priority⟩ : Waiter)) fun r9049 =>
    some r9049)
    else some s8992.1) fun o9040 =>
    some (Sum.inl (β := List Waiter) (o9040, w64 (s8992.2 + 1))))
    else some (.inr s8992.1)) (s0 := (q.Waiting, 0)) (fun i s => s.2 = (i : Int) ∧ ordered keyW s.1 ∧ s.1.Perm (q.Waiting ++ ((q.Slots.take i).filter isPd).map wOf)) (fun L => ordered keyW L ∧ L.Perm (pendW q)) q.Slots.length (by omega) ⟨rfl, h.ord.imp fun hab => by omega, by simp⟩ (fun i s hi hR => by
      obtain ⟨X, j⟩ := s
      obtain ⟨h1, h2, h3⟩ := hR
      simp only at h1 h2 h3
      subst h1
      have e0 : ((i : Int) < (q.Slots.length : Int)) := by omega
      have htk : ((q.Slots.take (i + 1)).filter isPd).map wOf = ((q.Slots.take i).filter isPd).map wOf ++ (bif isPd q.Slots[i] then [wOf q.Slots[i]] else []) := by
        rw [List.take_add_one, List.getElem?_eq_getElem hi, Option.toList_some, List.filter_append, List.map_append]
        cases hz : isPd q.Slots[i] <;> simp [hz]
      have hXl : X.length ≤ 12 := by
        rw [h3.length_eq, List.length_append, List.length_map]
        have := List.length_filter_le isPd (q.Slots.take i)
        have h2 : (q.Slots.take i).length ≤ i := by simp; omega
        omega
      have hXok : ∀ w ∈ X, okWt w := fun w hw => by
        rcases List.mem_append.1 (h3.mem_iff.1 hw) with hw | hw
        · exact h.ok w hw
        · obtain ⟨s, hs, rfl⟩ := List.mem_map.1 hw
          exact (h.s.ok s (List.mem_of_mem_take (List.mem_filter.1 hs).1)).2.1
      have hsok := (h.s.ok _ (List.getElem_mem hi)).2.1
      have hwt := s_wait X (wOf q.Slots[i]) (by omega) hXok hsok
      have ew : (⟨q.Slots[i].Irq, q.Slots[i].Priority⟩ : Waiter) = wOf q.Slots[i] := rfl
      have hperm : (insU X (wOf q.Slots[i])).Perm (q.Waiting ++ (((q.Slots.take i).filter isPd).map wOf ++ [wOf q.Slots[i]])) := by
        refine (insU_perm _ _).trans ((h3.cons _).trans ?_)
        rw [← List.append_assoc]
        exact (List.perm_append_comm (l₁ := [wOf q.Slots[i]])).trans (List.Perm.refl _)
      simp only [e0, decide_true, cond_true, gxIdx_nat hi, Option.bind_some, ew, hwt, w64_succ (show i ≤ 4611686018427387904 by omega)]
      left
      rw [htk]
      unfold isPd
      cases g1 : (q.Slots[i].State == 1) with
      | true =>
        simp only [cond_true, Option.bind_some, Bool.true_or]
        exact ⟨_, rfl, rfl, insU_ordered h2, hperm⟩
      | false => cases g3 : (q.Slots[i].State == 3) with
        | true =>
          simp only [cond_true, cond_false, Option.bind_some, Bool.false_or]
          exact ⟨_, rfl, rfl, insU_ordered h2, hperm⟩
        | false =>
          simp only [cond_false, Option.bind_some, Bool.false_or, List.append_nil]
          exact ⟨_, rfl, rfl, h2, h3⟩) (fun s hR => by
      obtain ⟨X, j⟩ := s
      obtain ⟨h1, h2, h3⟩ := hR
      simp only at h1 h2 h3
      subst h1
      rw [List.take_length] at h3
      simp only [Int.lt_irrefl, decide_false, cond_false]
      exact ⟨_, rfl, h2, h3⟩)
  rw [hL, Option.bind_some, sortW_is h hL1 hL2]
  have hsl : (sortW q).length ≤ 12 := by unfold sortW; rw [isortL_len]; exact pendW_len h
  rw [while_run (fun i => (((sortW q).take i).map Waiter.Irq, (i : Int))) (pendI q) (sortW q).length (by simp) (by omega)]
  · rfl
  · intro i hi
    have e0 : ((i : Int) < ((sortW q).length : Int)) := by omega
    simp only [e0, decide_true, cond_true, gxIdx_nat hi, Option.bind_some, w64_succ (show i ≤ 4611686018427387904 by omega)]
    rw [gxApp_ok (by simp; omega), Option.bind_some, List.take_add_one, List.getElem?_eq_getElem hi, Option.toList_some, List.map_append]
    rfl
  · simp only [Int.lt_irrefl, decide_false, cond_false, List.take_length]
    rfl
/-! ### Machines as plain facts -/
def gIf : Interface := ⟨0, [], ⟨[], []⟩⟩
/-- A machine as it should be. -/
structure GM (m : Machine) : Prop where
  rts : okRts m.Routes (m.Cpus.length : Int) = true
  en : m.Enabled.length = 8
  ra : m.Raised.length = 8
  cpu : ∀ k, (hk : k < m.Cpus.length) → GI m.Cpus[k] ∧ fitOk m.Routes (k : Int) m.Cpus[k] = true
theorem goodMc_iff (m : Machine) : goodMc m = true ↔ GM m := by
  unfold goodMc
  simp only [Bool.and_eq_true, beq_iff_eq, List.all_eq_true]
  constructor
  · rintro ⟨h1, h2, h3, h4⟩
    refine ⟨h1, by omega, by omega, fun k hk => ?_⟩
    have := h4 k (List.mem_range.2 hk)
    rw [getD_at hk] at this
    exact ⟨(goodI_iff _).1 this.1, this.2⟩
  · rintro ⟨h1, h2, h3, h4⟩
    refine ⟨h1, by omega, by omega, fun k hk => ?_⟩
    have hk := List.mem_range.1 hk
    rw [getD_at hk]
    exact ⟨(goodI_iff _).2 (h4 k hk).1, (h4 k hk).2⟩
theorem gm_cpus {m : Machine} (h : GM m) : 1 ≤ m.Cpus.length ∧ m.Cpus.length ≤ 2 ∧ m.Routes.length = 8 := by
  have := h.rts
  unfold okRts at this
  simp only [Bool.and_eq_true, decide_eq_true_eq, beq_iff_eq] at this
  omega
theorem PendingOn_eq (m : Machine) (c : Int) (h : fitM m) : ∃ r, M.s_PendingOn m c = some r ∧ M.i_PendingOn m c = some r ∧ r.1.length ≤ 1048576 := by
  unfold M.s_PendingOn M.i_PendingOn M.s_l21Cpu M.i_Machine_hasCpu
  have h4 := h.2.2.2.1
  rw [s_goodMc m h, i_goodMc m h]
  simp only [s_in, i_in, Option.bind_some, w64_id (z := (m.Cpus.length : Int) - 1) (by omega) (by omega)]
  cases hg : goodMc m with
  | false => exact ⟨_, rfl, rfl, by simp⟩
  | true =>
    have hG := (goodMc_iff m).1 hg
    by_cases hc : 0 ≤ c ∧ c ≤ (m.Cpus.length : Int) - 1
    · obtain ⟨k, rfl⟩ : ∃ k : Nat, c = k := ⟨c.toNat, by omega⟩
      have hk : k < m.Cpus.length := by omega
      have hd : (decide ((0 : Int) ≤ (k : Int)) && decide ((k : Int) ≤ (m.Cpus.length : Int) - 1)) = true := by simp; omega
      have hp := (hG.cpu k hk).1.q.1
      have e1 : M.s_l9Pending (⟨m.Cpus[k].Queue.Slots, m.Cpus[k].Queue.Waiting⟩ : Queue) = some (pendI m.Cpus[k].Queue) := s_pending hp
      have e2 : M.i_pendingIrqs (⟨m.Cpus[k].Queue.Slots, m.Cpus[k].Queue.Waiting⟩ : Queue) = some (pendI m.Cpus[k].Queue) := i_pending hp
      simp only [hd, Bool.not_true, cond_true, cond_false, Option.bind_some, gxIdx_nat hk, e1, e2]
      exact ⟨_, rfl, rfl, by have := pendI_len hp; simp only; omega⟩
    · have hd : (decide ((0 : Int) ≤ c) && decide (c ≤ (m.Cpus.length : Int) - 1)) = false := by
        rw [← Bool.decide_and]
        exact decide_eq_false hc
      simp only [hd, Bool.not_true, Bool.not_false, cond_true, cond_false, Option.bind_some]
      exact ⟨_, rfl, rfl, by simp⟩
def busyI (x : Interface) : Bool := decide ((x.Stack.length : Int) > 0) || decide (((pendI x.Queue).length : Int) > 0)
def idleM (m : Machine) : Bool := (List.range 8).all (fun i => !(m.Enabled.getD i false && m.Raised.getD i false)) && (List.range m.Cpus.length).all (fun k => !(busyI (m.Cpus.getD k gIf)))
theorem s_idle {m : Machine} (h : GM m) : M.s_l21Idle m = some (idleM m) := by
  have hc := gm_cpus h
  have he := h.en
  have hr := h.ra
  unfold M.s_l21Idle idleM
  rw [while_all (fun i => (i : Int)) (fun i => !(m.Enabled.getD i false && m.Raised.getD i false)) (Sum.inr false : Unit ⊕ Bool) (Sum.inl ()) 8 (by simp) (by omega)]
  · cases (List.range 8).all (fun i => !(m.Enabled.getD i false && m.Raised.getD i false)) with
    | false => rfl
    | true =>
      simp only [cond_true, Option.bind_some, Sum.elim_inl, Bool.true_and]
      rw [while_all (fun i => (i : Int)) (fun k => !(busyI (m.Cpus.getD k gIf))) (Sum.inr false : Unit ⊕ Bool) (Sum.inl ()) m.Cpus.length (by simp) (by omega)]
      · cases (List.range m.Cpus.length).all (fun k => !(busyI (m.Cpus.getD k gIf))) <;> rfl
      · intro k hk
        have e0 : ((k : Int) < (m.Cpus.length : Int)) := by omega
        have e1 : M.s_l9Pending (⟨m.Cpus[k].Queue.Slots, m.Cpus[k].Queue.Waiting⟩ : Queue) = some (pendI m.Cpus[k].Queue) := s_pending (h.cpu k hk).1.q.1
        simp only [e0, decide_true, cond_true, gxIdx_nat hk, Option.bind_some, getD_at hk, e1, w64_succ (show k ≤ 4611686018427387904 by omega), busyI]
        cases decide ((m.Cpus[k].Stack.length : Int) > 0) with
        | true => rfl
        | false => cases decide (((pendI m.Cpus[k].Queue).length : Int) > 0) <;> rfl
      · simp
  · intro i hi
    have e0 : ((i : Int) < 8) := by omega
    simp only [e0, decide_true, cond_true, gxIdx_nat (show i < m.Enabled.length by omega), gxIdx_nat (show i < m.Raised.length by omega), Option.bind_some, getD_at (show i < m.Enabled.length by omega), getD_at (show i < m.Raised.length by omega), w64_succ (show i ≤ 4611686018427387904 by omega)]
    cases m.Enabled[i]'(by omega) with
    | false => rfl
    | true => cases m.Raised[i]'(by omega) <;> rfl
  · simp
theorem i_idle {m : Machine} (h : GM m) : (Option.bind (whileM (σ := Int) (ρ := (Unit) ⊕ (Bool × Bool)) (fun s9431 =>
    bif decide (s9431 < (m.Raised.length : Int)) then (Option.bind (gxIdx m.Raised s9431) fun y9443 =>
    Option.bind (α := Bool) (bif y9443 then (Option.bind (gxIdx m.Enabled s9431) fun y9450 =>
    some y9450)
    else some false) fun o9446 =>
    bif o9446 then some (.inr (.inr (false, true)))
    else some (.inl (w64 (s9431 + 1))))
    else some (.inr (.inl ()))) gxFuel 0) fun out9438 => Sum.elim (fun (o9441 : Unit) =>
  Option.bind (M.slices_ContainsFunc_72__i_IsIdle_1 m.Cpus) fun r11201 =>
  some (!r11201, true)) (fun r => some r) out9438) = some (idleM m, true) := by
  have hc := gm_cpus h
  have he := h.en
  have hr := h.ra
  unfold idleM
  rw [while_all (fun i => (i : Int)) (fun i => !(m.Enabled.getD i false && m.Raised.getD i false)) (Sum.inr (false, true) : Unit ⊕ (Bool × Bool)) (Sum.inl ()) 8 (by simp) (by omega)]
  · cases (List.range 8).all (fun i => !(m.Enabled.getD i false && m.Raised.getD i false)) with
    | false => rfl
    | true =>
      simp only [cond_true, Option.bind_some, Sum.elim_inl, Bool.true_and]
      unfold M.slices_ContainsFunc_72__i_IsIdle_1 M.slices_IndexFunc_127__i_IsIdle_1
      rw [while_first (fun i => (i : Int)) (fun k => busyI (m.Cpus.getD k gIf)) (fun i => (Sum.inr (i : Int) : Unit ⊕ Int)) (Sum.inl ()) m.Cpus.length (by simp) (by omega)]
      · cases hf : (List.range m.Cpus.length).find? (fun k => busyI (m.Cpus.getD k gIf)) with
        | none =>
          have : (List.range m.Cpus.length).all (fun k => !(busyI (m.Cpus.getD k gIf))) = true := by
            rw [List.all_eq_true]
            intro i hi
            have := List.find?_eq_none.1 hf i hi
            simpa using this
          rw [this]
          rfl
        | some i =>
          have h1 := List.find?_some hf
          have h2 := List.mem_of_find?_eq_some hf
          have : (List.range m.Cpus.length).all (fun k => !(busyI (m.Cpus.getD k gIf))) = false := by
            rw [List.all_eq_false]
            exact ⟨i, h2, by simpa using h1⟩
          have hge : ((i : Int) ≥ 0) := by omega
          rw [this]
          simp only [Option.bind_some, Sum.elim_inr, hge, decide_true, Bool.not_true]
      · intro k hk
        have e0 : ((k : Int) < (m.Cpus.length : Int)) := by omega
        have e1 : M.i_pendingIrqs (⟨m.Cpus[k].Queue.Slots, m.Cpus[k].Queue.Waiting⟩ : Queue) = some (pendI m.Cpus[k].Queue) := i_pending (h.cpu k hk).1.q.1
        simp only [e0, decide_true, cond_true, gxIdx_nat hk, Option.bind_some, getD_at hk, M.i_IsIdle_1, e1, w64_succ (show k ≤ 4611686018427387904 by omega), busyI]
        cases decide ((m.Cpus[k].Stack.length : Int) > 0) with
        | true => rfl
        | false => cases decide (((pendI m.Cpus[k].Queue).length : Int) > 0) <;> rfl
      · simp
  · intro i hi
    have e0 : ((i : Int) < (m.Raised.length : Int)) := by omega
    simp only [e0, decide_true, cond_true, gxIdx_nat (show i < m.Enabled.length by omega), gxIdx_nat (show i < m.Raised.length by omega), Option.bind_some, getD_at (show i < m.Enabled.length by omega), getD_at (show i < m.Raised.length by omega), w64_succ (show i ≤ 4611686018427387904 by omega)]
    cases m.Raised[i]'(by omega) with
    | false => cases m.Enabled[i]'(by omega) <;> rfl
    | true => cases m.Enabled[i]'(by omega) <;> rfl
  · have e0 : ¬ (((8 : Nat) : Int) < (m.Raised.length : Int)) := by omega
    simp only [e0, decide_false, cond_false]
theorem IsIdle_eq (m : Machine) (h : fitM m) : ∃ r, M.s_IsIdle m = some r ∧ M.i_IsIdle m = some r := by
  unfold M.s_IsIdle M.i_IsIdle
  rw [s_goodMc m h, i_goodMc m h, Option.bind_some, Option.bind_some]
  cases hg : goodMc m with
  | false => exact ⟨_, rfl, rfl⟩
  | true =>
    have hG := (goodMc_iff m).1 hg
    simp only [Bool.not_true, cond_false, s_idle hG, i_idle hG, Option.bind_some]
    exact ⟨_, rfl, rfl⟩

end Go.Proofs.YtllhajkgkghhdaaGreat
