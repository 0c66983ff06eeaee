/- Plain laws of the models: no program in sight. -/
import Derived.Test.YtllhajkgkghhdaaGreatAM
import Derived.Test.YtllhajkgkghhdaaGreatAK6
set_option linter.unusedVariables false
set_option linter.unusedSimpArgs false
set_option maxHeartbeats 4000000
namespace Go.Proofs.YtllhajkgkghhdaaGreat
open Go.Gx
/-! ### One slot replaced -/
theorem set_cut {α : Type} {xs : List α} {i : Nat} (hi : i < xs.length) (y : α) : xs = xs.take i ++ xs[i] :: xs.drop (i + 1) ∧ xs.set i y = xs.take i ++ y :: xs.drop (i + 1) := by
  refine ⟨?_, ?_⟩
  · conv => lhs; rw [← List.take_append_drop i xs, List.drop_eq_getElem_cons hi]
  · rw [List.set_eq_take_append_cons_drop, if_pos hi]
theorem sepS_symm {a b : Slot} (h : sepS a b) : sepS b a := by
  rcases h with h | h | h
  · exact Or.inr (Or.inl h)
  · exact Or.inl h
  · exact Or.inr (Or.inr fun e => h e.symm)
theorem pw_set {α : Type} {R : α → α → Prop} (hR : ∀ {a b}, R a b → R b a) {xs : List α} (h : xs.Pairwise R) {i : Nat} (hi : i < xs.length) {y : α} (hy : ∀ j, (hj : j < xs.length) → j ≠ i → R xs[j] y) : (xs.set i y).Pairwise R := by
  rw [List.pairwise_iff_getElem] at h ⊢
  intro a b ha hb hab
  rw [List.length_set] at ha hb
  rw [List.getElem_set, List.getElem_set]
  by_cases e1 : i = a
  · rw [if_pos e1, if_neg (by omega)]
    exact hR (hy b hb (by omega))
  · rw [if_neg e1]
    by_cases e2 : i = b
    · rw [if_pos e2]
      exact hy a ha (by omega)
    · rw [if_neg e2]
      exact h a b ha hb hab
theorem gs_set {xs : List Slot} (h : GS xs) {i : Nat} (hi : i < xs.length) {y : Slot} (hy : okSlt y) (hs : ∀ j, (hj : j < xs.length) → j ≠ i → sepS xs[j] y) : GS (xs.set i y) := by
  refine ⟨by rw [List.length_set]; exact h.len, fun s hsm => ?_, pw_set sepS_symm h.sep hi hs⟩
  obtain ⟨j, hj, rfl⟩ := List.getElem_of_mem hsm
  rw [List.length_set] at hj
  rw [List.getElem_set]
  split
  · exact hy
  · exact h.ok _ (List.getElem_mem hj)
theorem sep_at {xs : List Slot} (h : xs.Pairwise sepS) {i j : Nat} (hi : i < xs.length) (hj : j < xs.length) (hij : j ≠ i) : sepS xs[j] xs[i] := by
  rw [List.pairwise_iff_getElem] at h
  rcases Nat.lt_or_gt_of_ne hij with g | g
  · exact h j i hj hi g
  · exact sepS_symm (h i j hi hj g)
theorem mem_set_iff {xs : List Slot} {i : Nat} (hi : i < xs.length) {y s : Slot} (h : s ∈ xs.set i y) : s = y ∨ ∃ j, ∃ hj : j < xs.length, j ≠ i ∧ s = xs[j] := by
  obtain ⟨j, hj, rfl⟩ := List.getElem_of_mem h
  rw [List.length_set] at hj
  rw [List.getElem_set]
  split
  · exact Or.inl rfl
  · rename_i hne
    exact Or.inr ⟨j, hj, fun e => hne e.symm, rfl⟩
/-! ### Those that wait, with one more -/
def insU (ws : List Waiter) (w : Waiter) : List Waiter := ws.takeWhile (fun x => decide (keyW x < keyW w)) ++ w :: ws.dropWhile (fun x => decide (keyW x < keyW w))
theorem insU_perm (ws : List Waiter) (w : Waiter) : (insU ws w).Perm (w :: ws) := by
  unfold insU
  refine List.perm_middle.trans ?_
  rw [List.takeWhile_append_dropWhile]
theorem insU_ord {w : Waiter} : ∀ {ws : List Waiter}, (ws.Pairwise fun a b => keyW a < keyW b) → (∀ x ∈ ws, keyW x ≠ keyW w) → (insU ws w).Pairwise fun a b => keyW a < keyW b
  | [], _, _ => by simp [insU]
  | x :: r, h, hne => by
    rw [List.pairwise_cons] at h
    unfold insU
    by_cases hx : keyW x < keyW w
    · rw [List.takeWhile_cons_of_pos (by simpa using hx), List.dropWhile_cons_of_pos (by simpa using hx), List.cons_append, List.pairwise_cons]
      have ih := insU_ord h.2 fun y hy => hne y (by simp [hy])
      refine ⟨fun y hy => ?_, ih⟩
      have hm : y ∈ w :: r := (insU_perm r w).mem_iff.1 hy
      rcases List.mem_cons.1 hm with rfl | hm
      · exact hx
      · exact h.1 y hm
    · rw [List.takeWhile_cons_of_neg (by simpa using hx), List.dropWhile_cons_of_neg (by simpa using hx), List.nil_append, List.pairwise_cons]
      have hxw := hne x (by simp)
      refine ⟨fun y hy => ?_, ?_⟩
      · rcases List.mem_cons.1 hy with rfl | hy
        · omega
        · have := h.1 y hy
          omega
      · rw [List.pairwise_cons]
        exact h
theorem irq_key {a b : Waiter} (ha : okWt a) (hb : okWt b) (h : a.Irq ≠ b.Irq) : keyW a ≠ keyW b := by
  unfold okWt at ha hb
  unfold keyW
  omega
theorem insU_ordered {w : Waiter} {ws : List Waiter} (h : ordered keyW ws) : ordered keyW (insU ws w) := by
  induction ws with
  | nil => simp [insU, ordered]
  | cons x r ih =>
    unfold ordered at h ⊢
    rw [List.pairwise_cons] at h
    unfold insU
    by_cases hx : keyW x < keyW w
    · rw [List.takeWhile_cons_of_pos (by simpa using hx), List.dropWhile_cons_of_pos (by simpa using hx), List.cons_append, List.pairwise_cons]
      refine ⟨fun y hy => ?_, ih h.2⟩
      have hm : y ∈ w :: r := (insU_perm r w).mem_iff.1 hy
      rcases List.mem_cons.1 hm with rfl | hm
      · omega
      · exact h.1 y hm
    · rw [List.takeWhile_cons_of_neg (by simpa using hx), List.dropWhile_cons_of_neg (by simpa using hx), List.nil_append, List.pairwise_cons]
      refine ⟨fun y hy => ?_, ?_⟩
      · rcases List.mem_cons.1 hy with rfl | hy
        · omega
        · have := h.1 y hy
          omega
      · rw [List.pairwise_cons]
        exact h
/-! ### Settling -/
def actM (xs : List Slot) : List (Option Slot) := xs.map fun s => bif isAct s then some s else none
theorem actM_set {xs : List Slot} {i : Nat} (hi : i < xs.length) {y : Slot} (h1 : isAct xs[i] = false) (h2 : isAct y = false) : actM (xs.set i y) = actM xs := by
  unfold actM
  rw [List.map_set, h2, cond_false]
  apply List.ext_getElem (by simp)
  intro j hj1 hj2
  rw [List.getElem_set]
  split
  · rename_i e
    subst e
    rw [List.getElem_map, h1, cond_false]
  · rfl
def headW (q : Queue) : Waiter := q.Waiting.getD 0 gW
def pendS (w : Waiter) : Slot := ⟨1, w.Irq, w.Priority⟩
def stepQ (q : Queue) : Queue :=
  bif decide (frS q.Slots < 0) then ⟨q.Slots.set (bestF q.Slots q.Slots.length).toNat (pendS (headW q)), insU (q.Waiting.drop 1) (wOf (q.Slots.getD (bestF q.Slots q.Slots.length).toNat gS))⟩
  else ⟨q.Slots.set (frS q.Slots).toNat (pendS (headW q)), q.Waiting.drop 1⟩
def muS (s : Slot) : Nat := bif s.State == 0 then 1000 else (bif s.State == 1 then (keyW (wOf s)).toNat else 0)
def mu (xs : List Slot) : Nat := (xs.map muS).sum
theorem mu_set {xs : List Slot} {i : Nat} (hi : i < xs.length) (y : Slot) : mu (xs.set i y) + muS xs[i] = mu xs + muS y := by
  obtain ⟨h1, h2⟩ := set_cut hi y
  have e1 : mu xs = ((xs.take i).map muS).sum + (muS xs[i] + ((xs.drop (i + 1)).map muS).sum) := by
    unfold mu
    conv => lhs; rw [h1]
    simp only [List.map_append, List.map_cons, List.sum_append, List.sum_cons]
  have e2 : mu (xs.set i y) = ((xs.take i).map muS).sum + (muS y + ((xs.drop (i + 1)).map muS).sum) := by
    unfold mu
    rw [h2]
    simp
  omega
theorem key_range {w : Waiter} (h : okWt w) : 0 ≤ keyW w ∧ keyW w ≤ 127 := by
  unfold okWt at h
  unfold keyW
  omega
theorem mu_le {xs : List Slot} (h : GS xs) : mu xs ≤ 4000 := by
  have key : ∀ l : List Slot, (∀ s ∈ l, okSlt s) → mu l ≤ 1000 * l.length := by
    intro l
    induction l with
    | nil => intro _; simp [mu]
    | cons s r ih =>
      intro hl
      have h1 := ih fun x hx => hl x (by simp [hx])
      have h2 : muS s ≤ 1000 := by
        have := key_range (hl s (by simp)).2.1
        unfold muS
        cases (s.State == 0) with
        | true => simp
        | false => cases (s.State == 1) with
          | true => simp only [cond_false, cond_true]; omega
          | false => simp
      simp only [mu, List.map_cons, List.sum_cons, List.length_cons] at h1 ⊢
      omega
  have := key xs h.ok
  rw [h.len] at this
  omega
/-- What one settling step keeps. -/
structure kept (q r : Queue) : Prop where
  p : GP r
  pend : (pendW r).Perm (pendW q)
  act : actM r.Slots = actM q.Slots
theorem pend_cut (A B : List Slot) (x : Slot) (W : List Waiter) : (pendW ⟨A ++ x :: B, W⟩).Perm ((bif isPd x then [wOf x] else []) ++ (W ++ ((A.filter isPd).map wOf ++ (B.filter isPd).map wOf))) := by
  unfold pendW
  simp only [List.filter_append, List.map_append]
  cases hx : isPd x with
  | true =>
    rw [List.filter_cons_of_pos hx]
    simp only [List.map_cons, cond_true, List.cons_append, List.nil_append]
    refine (List.Perm.append_left W List.perm_middle).trans ?_
    exact List.perm_middle
  | false =>
    rw [List.filter_cons_of_neg (by simp [hx])]
    simp only [cond_false, List.nil_append]
    exact List.Perm.refl _
theorem okSlt_pend {w : Waiter} (h : okWt w) : okSlt (pendS w) := ⟨by simp [pendS], h, fun e => by simp [pendS] at e⟩
theorem headW_cons {q : Queue} {w : Waiter} {r : List Waiter} (h : q.Waiting = w :: r) : headW q = w ∧ q.Waiting.drop 1 = r := by
  unfold headW
  rw [h]
  simp
theorem step_kept {q : Queue} (h : GP q) (hc : setQ q = false) : kept q (stepQ q) ∧ mu (stepQ q).Slots < mu q.Slots := by
  have hn : ¬ calm q := fun e => by rw [(setQ_iff h).2 e] at hc; cases hc
  unfold calm at hn
  have hne : q.Waiting ≠ [] := fun e => hn (Or.inl e)
  obtain ⟨w, r, hw⟩ := List.exists_cons_of_ne_nil hne
  obtain ⟨e1, e2⟩ := headW_cons hw
  have hok := h.ok
  have hord := h.ord
  have hdist := h.dist
  have hap := h.apart
  rw [hw] at hok hord hdist hap
  rw [List.pairwise_cons] at hord
  rw [List.map_cons, List.nodup_cons] at hdist
  have okw := hok w (by simp)
  have hq : q = ⟨q.Slots, w :: r⟩ := by rw [← hw]
  have hr : ∀ x ∈ r, x.Irq ≠ w.Irq := fun x hx e => hdist.1 (by rw [← e]; exact List.mem_map_of_mem hx)
  unfold stepQ
  rw [e1, e2]
  by_cases hf : frS q.Slots < 0
  · have hf' := frS_neg.1 hf
    simp only [hf, decide_true, cond_true]
    rcases bestF_least h.s.ok q.Slots.length (Nat.le_refl _) with ⟨h2, h3⟩ | ⟨k, hk, hkn, h2, h3, h4⟩
    · exact absurd (Or.inr ⟨hf', fun s hs h1 => by
        obtain ⟨i, hi, rfl⟩ := List.getElem_of_mem hs
        exact absurd h1 (h3 i hi hi)⟩) hn
    · rw [h2, Int.toNat_natCast, getD_at hk]
      have hxk := h.s.ok _ (List.getElem_mem hk)
      have hne2 : q.Slots[k].Irq ≠ w.Irq := by
        rcases hap w (by simp) _ (List.getElem_mem hk) with g | g
        · exact absurd g (hf' _ (List.getElem_mem hk))
        · exact g
      have hlt : keyW w < keyW (wOf q.Slots[k]) := by
        have h5 := irq_key (a := wOf q.Slots[k]) (b := w) hxk.2.1 okw hne2
        by_cases h6 : keyW (wOf q.Slots[k]) < keyW w
        · exfalso
          refine hn (Or.inr ⟨hf', fun s hs h1 x hx => ?_⟩)
          obtain ⟨i, hi, rfl⟩ := List.getElem_of_mem hs
          have h7 := h4 i hi hi h1
          rw [hw] at hx
          rcases List.mem_cons.1 hx with rfl | hx
          · omega
          · have := hord.1 x hx
            omega
        · omega
      have hs1 : (q.Slots[k].State == 1) = true := by simp [h3]
      have hs0 : (q.Slots[k].State == 0) = false := by simp [h3]
      have na : isAct q.Slots[k] = false := by unfold isAct; simp [h3]
      have pk : isPd q.Slots[k] = true := by unfold isPd; simp [h3]
      have okS : okSlt (pendS w) := okSlt_pend okw
      obtain ⟨c1, c2⟩ := set_cut hk (pendS w)
      have hins := insU_perm r (wOf q.Slots[k])
      refine ⟨⟨⟨gs_set h.s hk okS fun j hj hjk => ?_, fun x hx => ?_, insU_ord hord.2 fun x hx => ?_, ?_, fun x hx s hs => ?_⟩, ?_, actM_set hk na (by simp [isAct, pendS])⟩, ?_⟩
      · rcases hap w (by simp) _ (List.getElem_mem hj) with g | g
        · exact Or.inl g
        · exact Or.inr (Or.inr g)
      · rcases List.mem_cons.1 (hins.mem_iff.1 hx) with rfl | hx
        · exact hxk.2.1
        · exact hok x (by simp [hx])
      · refine irq_key (hok x (by simp [hx])) hxk.2.1 fun e => ?_
        rcases hap x (by simp [hx]) _ (List.getElem_mem hk) with g | g
        · exact hf' _ (List.getElem_mem hk) g
        · exact g e.symm
      · rw [(hins.map Waiter.Irq).nodup_iff, List.map_cons, List.nodup_cons]
        refine ⟨fun hm => ?_, hdist.2⟩
        obtain ⟨x, hx, e⟩ := List.mem_map.1 hm
        rcases hap x (by simp [hx]) _ (List.getElem_mem hk) with g | g
        · exact hf' _ (List.getElem_mem hk) g
        · exact g e.symm
      · rcases mem_set_iff hk hs with rfl | ⟨j, hj, hjk, rfl⟩
        · rcases List.mem_cons.1 (hins.mem_iff.1 hx) with rfl | hx
          · exact Or.inr (fun e => hne2 e.symm)
          · exact Or.inr (fun e => hr x hx e.symm)
        · rcases List.mem_cons.1 (hins.mem_iff.1 hx) with rfl | hx
          · rcases sep_at h.s.sep hk hj hjk with g | g | g
            · exact Or.inl g
            · exact absurd g (hf' _ (List.getElem_mem hk))
            · exact Or.inr g
          · exact hap x (by simp [hx]) _ (List.getElem_mem hj)
      · have p1 := pend_cut (q.Slots.take k) (q.Slots.drop (k + 1)) (pendS w) (insU r (wOf q.Slots[k]))
        have p2 := pend_cut (q.Slots.take k) (q.Slots.drop (k + 1)) q.Slots[k] (w :: r)
        rw [← c2] at p1
        rw [← c1, ← hq, pk] at p2
        have pp : isPd (pendS w) = true := by simp [isPd, pendS]
        rw [pp] at p1
        refine p1.trans (List.Perm.trans ?_ p2.symm)
        simp only [cond_true, List.cons_append, List.nil_append]
        have e3 : wOf (pendS w) = w := rfl
        rw [e3]
        refine ((hins.append_right _).cons w).trans ?_
        exact List.Perm.swap _ _ _
      · have hm := mu_set hk (pendS w)
        have m1 : muS q.Slots[k] = (keyW (wOf q.Slots[k])).toNat := by unfold muS; rw [hs0, hs1]; rfl
        have m2 : muS (pendS w) = (keyW w).toNat := rfl
        have g1 := key_range okw
        omega
  · have hf2 : decide (frS q.Slots < 0) = false := by simp [hf]
    simp only [hf2, cond_false]
    obtain ⟨k, hk, h2, h3⟩ := frS_at hf
    rw [h2, Int.toNat_natCast]
    have hs0 : (q.Slots[k].State == 0) = true := by simp [h3]
    have na : isAct q.Slots[k] = false := by unfold isAct; simp [h3]
    have pk : isPd q.Slots[k] = false := by unfold isPd; simp [h3]
    obtain ⟨c1, c2⟩ := set_cut hk (pendS w)
    refine ⟨⟨⟨gs_set h.s hk (okSlt_pend okw) fun j hj hjk => ?_, fun x hx => hok x (by simp [hx]), hord.2, hdist.2, fun x hx s hs => ?_⟩, ?_, actM_set hk na (by simp [isAct, pendS])⟩, ?_⟩
    · rcases hap w (by simp) _ (List.getElem_mem hj) with g | g
      · exact Or.inl g
      · exact Or.inr (Or.inr g)
    · rcases mem_set_iff hk hs with rfl | ⟨j, hj, hjk, rfl⟩
      · exact Or.inr (fun e => hr x hx e.symm)
      · exact hap x (by simp [hx]) _ (List.getElem_mem hj)
    · have p1 := pend_cut (q.Slots.take k) (q.Slots.drop (k + 1)) (pendS w) r
      have p2 := pend_cut (q.Slots.take k) (q.Slots.drop (k + 1)) q.Slots[k] (w :: r)
      rw [← c2] at p1
      rw [← c1, ← hq, pk] at p2
      have pp : isPd (pendS w) = true := by simp [isPd, pendS]
      rw [pp] at p1
      refine p1.trans (List.Perm.trans ?_ p2.symm)
      simp only [cond_true, cond_false, List.cons_append, List.nil_append]
      exact List.Perm.refl _
    · have hm := mu_set hk (pendS w)
      have m1 : muS q.Slots[k] = 1000 := by unfold muS; rw [hs0]; rfl
      have m2 : muS (pendS w) = (keyW w).toNat := rfl
      have g1 := key_range okw
      omega
def settleF : Nat → Queue → Queue
  | 0, q => q
  | n + 1, q => bif setQ q then q else settleF n (stepQ q)
def settleQ (q : Queue) : Queue := settleF (mu q.Slots + 1) q
theorem kept_refl {q : Queue} (h : GP q) : kept q q := ⟨h, List.Perm.refl _, rfl⟩
theorem kept_trans {q r s : Queue} (h : kept q r) (g : kept r s) : kept q s := ⟨g.p, g.pend.trans h.pend, g.act.trans h.act⟩
theorem settleF_ok : ∀ (n : Nat) {q : Queue}, GP q → mu q.Slots < n → kept q (settleF n q) ∧ calm (settleF n q)
  | 0, q, _, h => by omega
  | n + 1, q, h, hm => by
    unfold settleF
    cases hs : setQ q with
    | true => exact ⟨kept_refl h, (setQ_iff h).1 hs⟩
    | false =>
      simp only [cond_false]
      obtain ⟨h1, h2⟩ := step_kept h hs
      obtain ⟨h3, h4⟩ := settleF_ok n h1.p (by omega)
      exact ⟨kept_trans h1 h3, h4⟩
theorem settleQ_ok {q : Queue} (h : GP q) : kept q (settleQ q) ∧ calm (settleQ q) := settleF_ok (mu q.Slots + 1) h (Nat.lt_succ_self _)
theorem settle_calm {q : Queue} (h : GP q) (hc : calm q) : settleQ q = q := by
  have := (setQ_iff h).2 hc
  unfold settleQ
  rw [settleF, this]
  rfl
theorem settle_run {σ ρ : Type} {body : σ → Option (σ ⊕ ρ)} (st : Queue → σ) (out : Queue → ρ) (hb : ∀ q, GP q → body (st q) = some (bif setQ q then .inr (out q) else .inl (st (stepQ q)))) : ∀ (n fuel : Nat) {q : Queue}, GP q → mu q.Slots < n → n ≤ fuel → whileM body fuel (st q) = some (out (settleF n q))
  | 0, _, _, _, h, _ => by omega
  | n + 1, fuel, q, h, hm, hf => by
    obtain ⟨f, rfl⟩ : ∃ f, fuel = f + 1 := ⟨fuel - 1, by omega⟩
    unfold settleF
    simp only [whileM, hb q h]
    cases hs : setQ q with
    | true => rfl
    | false =>
      simp only [cond_false]
      obtain ⟨h1, h2⟩ := step_kept h hs
      exact settle_run st out hb n f h1.p (by omega) (by omega)
theorem gp_waiting {q : Queue} (h : GP q) : q.Waiting.length ≤ 8 := by
  have := nodup_bound 8 (q.Waiting.map fun w => w.Irq.toNat) (by
    have hd := h.dist
    rw [List.Nodup, List.pairwise_map] at hd ⊢
    refine hd.imp_of_mem fun {a b} ha hb hab => ?_
    have h1 := h.ok a ha
    have h2 := h.ok b hb
    unfold okWt at h1 h2
    omega) (fun x hx => by
    obtain ⟨w, hw, rfl⟩ := List.mem_map.1 hx
    have h1 := h.ok w hw
    unfold okWt at h1
    omega)
  simpa using this

end Go.Proofs.YtllhajkgkghhdaaGreat
