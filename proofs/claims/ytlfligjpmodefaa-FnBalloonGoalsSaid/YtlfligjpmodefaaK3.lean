/- Plain laws of the models: no program in sight. -/
import Derived.Test.YtlfligjpmodefaaM
import Derived.Test.YtlfligjpmodefaaK2
set_option linter.unusedVariables false
set_option linter.unusedSimpArgs false
set_option maxHeartbeats 4000000
namespace Go.Proofs.Ytlfligjpmodefaa
open Go.Gx
/-! ### The laws of balloons -/
theorem rInts_refl (xs : List Int) (h : xs.length ≤ 4611686018427387904) : M.l_rInts xs xs = some true := by
  unfold M.l_rInts
  rw [while_run (fun i => (i : Int)) (Sum.inl ()) xs.length (by simp) h]
  · simp
  · intro i hi
    have h1 : ((i : Int) < (xs.length : Int)) := by omega
    simp [h1, gxIdx_nat hi, w64_succ (show i ≤ 4611686018427387904 by omega)]
  · simp
theorem rBalloons_refl (xs : List Balloon) (hf : fitB xs) : M.l_rBalloons xs xs = some true := by
  have hl := hf.1
  unfold M.l_rBalloons
  rw [while_run (fun i => (i : Int)) (Sum.inl ()) xs.length (by simp) (by omega)]
  · simp
  · intro i hi
    have h1 : ((i : Int) < (xs.length : Int)) := by omega
    have hg := gave_len hf hi
    simp only [h1, decide_true, cond_true, gxIdx_nat hi, Option.bind_some, bne_self_eq_false, cond_false, rInts_refl xs[i].Gave (by omega), Bool.not_true, w64_succ (show i ≤ 4611686018427387904 by omega)]
  · simp
theorem i_given (os : List Int) (xs : List Balloon) (ho : os.length ≤ 1048576) (hf : fitB xs) (hg : goodB os xs = true) : ∃ st, M.i_GivenFrames os xs = some ((tot xs : Int), st, true) := by
  have hl := hf.1
  have ht := hf.2
  unfold M.i_GivenFrames
  rw [i_goodB os xs ho hf, hg]
  simp only [Option.bind_some, Bool.not_true, cond_false]
  obtain ⟨r, hr, hr2⟩ := while_inv (body := fun s2642 : Int × Int × Int =>
    bif decide (s2642.2.2 < (xs.length : Int)) then (Option.bind (gxIdx xs s2642.2.2) fun y2654 =>
    some (Sum.inl (β := Int × Int) (w64 (s2642.1 + (y2654.Gave.length : Int)), w64 (s2642.2.1 + (gxMax (w64 (y2654.Goal - (y2654.Gave.length : Int))) 0)), w64 (s2642.2.2 + 1))))
    else some (.inr (s2642.1, s2642.2.1))) (s0 := (0, 0, 0)) (fun i s => s.2.2 = (i : Int) ∧ s.1 = (tot (xs.take i) : Int)) (fun r => r.1 = (tot xs : Int)) xs.length (by omega) ⟨rfl, by simp [tot]⟩ (fun i s hi hR => by
      obtain ⟨a, b, c⟩ := s
      obtain ⟨h1, h2⟩ := hR
      simp only at h1 h2
      subst h1
      have e0 : ((i : Int) < (xs.length : Int)) := by omega
      have htk : tot (xs.take (i + 1)) = tot (xs.take i) + xs[i].Gave.length := by
        rw [List.take_add_one, List.getElem?_eq_getElem hi, Option.toList_some, tot_app]
        simp [tot]
      have hle : tot (xs.take (i + 1)) ≤ tot xs := by
        have := tot_app (xs.take (i + 1)) (xs.drop (i + 1))
        rw [List.take_append_drop] at this
        omega
      simp only [e0, decide_true, cond_true, gxIdx_nat hi, Option.bind_some, w64_succ (show i ≤ 4611686018427387904 by omega)]
      refine Or.inl ⟨_, rfl, rfl, ?_⟩
      simp only
      rw [w64_id (by omega) (by omega)]
      omega) (fun s hR => by
      obtain ⟨a, b, c⟩ := s
      obtain ⟨h1, h2⟩ := hR
      simp only at h1 h2
      subst h1
      rw [List.take_length] at h2
      simp only [Int.lt_irrefl, decide_false, cond_false]
      exact ⟨_, rfl, h2⟩)
  rw [hr, Option.bind_some, hr2]
  exact ⟨_, rfl⟩
theorem good_small {os : List Int} {xs : List Balloon} (h : GoodB os xs) : os.length ≤ 1048576 ∧ fitB xs ∧ goodB os xs = true := by
  have := (owners_iff.1 h.own).1
  exact ⟨by omega, good_fit h, good_iff.2 h⟩
theorem tot_infX {os : List Int} {xs : List Balloon} {i : Nat} (hi : i < xs.length) : tot (infX os xs i) = tot xs + 1 := by
  have h1 := tot_set hi ⟨(xs.getD i gB).Guest, (xs.getD i gB).Goal, putI (xs.getD i gB).Gave (lastF os (xs.getD i gB).Guest)⟩
  have h2 := (putI_perm (xs.getD i gB).Gave (lastF os (xs.getD i gB).Guest)).length_eq
  unfold infX
  rw [getD_at hi] at h1 h2 ⊢
  simp only [List.length_cons] at h2
  simp only at h1
  omega
theorem tot_defX {xs : List Balloon} {i : Nat} (hi : i < xs.length) (h0 : 0 < xs[i].Gave.length) : tot (defX xs i) + 1 = tot xs := by
  have h1 := tot_set hi ⟨(xs.getD i gB).Guest, (xs.getD i gB).Goal, (xs.getD i gB).Gave.drop 1⟩
  unfold defX
  rw [getD_at hi] at h1 ⊢
  simp only [List.length_drop] at h1
  omega
theorem plain_FnBalloons (code : List Int) (h : okL okU code) : M.l_FnBalloons code = some true := by
  unfold M.l_FnBalloons M.l_rBig
  rw [Option.bind_some]
  cases decide ((code.length : Int) > 65536) with
  | true => rfl
  | false =>
    obtain ⟨os, xs, g, hd, hol, hf⟩ := drawB_ok code h
    have ho : os.length ≤ 1048576 := by omega
    have i1 := i_inflB os xs g ho hf
    have s1 := s_inflB os xs g ho hf
    have i2 := i_deflB os xs g ho hf
    have s2 := s_deflB os xs g ho hf
    have f1 := inflB_fit os xs g
    have f2 := deflB_fit os xs g
    have r1 := rInts_refl (inflB os xs g).1 (by omega)
    have r2 := rInts_refl (deflB os xs g).1 (by omega)
    have b1 := rBalloons_refl (inflB os xs g).2.1 f1.2
    have b2 := rBalloons_refl (deflB os xs g).2.1 f2.2
    have iA := i_goodB os xs ho hf
    have sA : M.s_AreBalloons os xs = some (goodB os xs) := by
      unfold M.s_AreBalloons
      rw [s_goodB os xs ho hf]
      rfl
    simp only [cond_false, hd, i1, s1, i2, s2, r1, r2, b1, b2, iA, sA, Option.bind_some, beq_self_eq_true, bne_self_eq_false, Bool.not_true]
    -- a frame given
    have hin : (bif (inflB os xs g).2.2 then (Option.bind (M.i_GivenFrames os xs) fun r24005 =>
        Option.bind (M.i_GivenFrames (inflB os xs g).1 (inflB os xs g).2.1) fun r24009 =>
        Option.bind (α := Bool) (bif !r24005.2.2 then some true
        else (bif !r24009.2.2 then some true
        else (bif r24009.1 != (w64 (r24005.1 + 1)) then some true
        else (Option.bind (M.i_AreBalloons (inflB os xs g).1 (inflB os xs g).2.1) fun r24026 =>
        some (!r24026))))) fun o24020 =>
        bif o24020 then some (.inr false)
        else some (.inl ()))
        else some (.inl ())) = some (Sum.inl () : Unit ⊕ Bool) := by
      unfold inflB
      cases hc : (offB os xs g && canI os xs (findB xs g).toNat) with
      | false => rfl
      | true =>
        rw [Bool.and_eq_true] at hc
        obtain ⟨hG, i, hi, hlt⟩ := off_at hc.1
        have hc2 := hc.2
        rw [hi, Int.toNat_natCast] at hc2 ⊢
        obtain ⟨q1, q2, q3⟩ := good_small hG
        have hG2 := good_up hG hlt hc2
        obtain ⟨p1, p2, p3⟩ := good_small hG2
        obtain ⟨st, e1⟩ := i_given os xs q1 q2 q3
        obtain ⟨st2, e2⟩ := i_given _ _ p1 p2 p3
        have ht := tot_infX (os := os) hlt
        have hb := q2.2
        have e3 : w64 ((tot xs : Int) + 1) = (tot (infX os xs i) : Int) := by
          rw [w64_id (by omega) (by omega)]
          omega
        simp only [cond_true, e1, e2, Option.bind_some, Bool.not_true, cond_false, e3, bne_self_eq_false, i_goodB _ _ p1 p2, p3]
    rw [hin]
    simp only [Option.bind_some, Sum.elim_inl]
    -- a frame had again
    have hde : (bif (inflB os xs g).2.2 then (bif (deflB os xs g).2.2 then some true
        else (bif (deflB os xs g).2.2 then (Option.bind (M.i_AreBalloons (deflB os xs g).1 (deflB os xs g).2.1) fun r24109 =>
        some (!r24109))
        else some false))
        else (bif (deflB os xs g).2.2 then (Option.bind (M.i_AreBalloons (deflB os xs g).1 (deflB os xs g).2.1) fun r24114 =>
        some (!r24114))
        else some false)) = some false := by
      cases hd2 : (offB os xs g && canD xs (findB xs g).toNat) with
      | false =>
        have e : (deflB os xs g).2.2 = false := by unfold deflB; rw [hd2]; rfl
        rw [e]
        cases (inflB os xs g).2.2 <;> rfl
      | true =>
        have e : deflB os xs g = (defO os xs (findB xs g).toNat, defX xs (findB xs g).toNat, true) := by unfold deflB; rw [hd2]; rfl
        rw [Bool.and_eq_true] at hd2
        obtain ⟨hG, i, hi, hlt⟩ := off_at hd2.1
        have hc2 := hd2.2
        have hno : (inflB os xs g).2.2 = false := by
          unfold inflB
          rw [canI_not_canD hc2, Bool.and_false]
          rfl
        rw [e, hno]
        rw [hi, Int.toNat_natCast] at hc2 ⊢
        obtain ⟨p1, p2, p3⟩ := good_small (good_down hG hlt hc2)
        simp only [cond_true, cond_false, i_goodB _ _ p1 p2, p3, Option.bind_some, Bool.not_true]
    rw [hde]
    simp only [Option.bind_some, cond_false]
    -- a frame taken
    rcases take_is os xs g ho hf with ⟨t1, t2⟩ | ⟨hG, hg, i, hl, t1, t2⟩
    · have e1 := rInts_refl ([] : List Int) (by simp)
      have e2 := rBalloons_refl ([] : List Balloon) fit_nil
      simp only [t1, t2, e1, e2, Option.bind_some, beq_self_eq_true, bne_self_eq_false, Bool.not_true, cond_false, Sum.elim_inl]
    · have hl' := hl
      obtain ⟨hi, h0, _⟩ := hl
      obtain ⟨q1, q2, q3⟩ := good_small hG
      obtain ⟨p1, p2, p3⟩ := good_small (good_take hG hl' hg)
      obtain ⟨st, e1⟩ := i_given os xs q1 q2 q3
      obtain ⟨st2, e2⟩ := i_given _ _ p1 p2 p3
      have ht := tot_defX hi h0
      have hb := q2.2
      have e3 : w64 ((tot xs : Int) - 1) = (tot (defX xs i) : Int) := by
        rw [w64_id (by omega) (by omega)]
        omega
      have e4 := rInts_refl (takO os xs i g) (by omega)
      have e5 := rBalloons_refl (defX xs i) p2
      have hei := hG.each _ (List.getElem_mem hi)
      have hbd := (rise_iff.1 hei.2.1).2 _ (List.getElem_mem h0)
      have e6 : gxIdx (takO os xs i g) (headB (xs.getD i gB)) = some g := by
        unfold takO headB
        rw [getD_at hi, getD_at h0]
        obtain ⟨k, hk⟩ : ∃ k : Nat, xs[i].Gave[0] = k := ⟨xs[i].Gave[0].toNat, by omega⟩
        rw [hk, Int.toNat_natCast, gxIdx_nat (by simp; omega)]
        simp
      simp only [t1, t2, e4, e5, Option.bind_some, beq_self_eq_true, bne_self_eq_false, Bool.not_true, cond_false, cond_true, e1, e2, e3, e6, i_goodB _ _ p1 p2, p3, Sum.elim_inl]
/-! ### Goals -/
def sumG (xs : List Balloon) : Int := (xs.map Balloon.Goal).sum
theorem sumG_set {xs : List Balloon} {i : Nat} (hi : i < xs.length) (b : Balloon) : sumG (xs.set i b) + xs[i].Goal = sumG xs + b.Goal := by
  have h1 : xs = xs.take i ++ xs[i] :: xs.drop (i + 1) := by
    conv => lhs; rw [← List.take_append_drop i xs, List.drop_eq_getElem_cons hi]
  have h2 : xs.set i b = xs.take i ++ b :: xs.drop (i + 1) := by rw [List.set_eq_take_append_cons_drop, if_pos hi]
  have e1 : sumG xs = ((xs.take i).map Balloon.Goal).sum + (xs[i].Goal + ((xs.drop (i + 1)).map Balloon.Goal).sum) := by
    unfold sumG
    conv => lhs; rw [h1]
    simp only [List.map_append, List.map_cons, List.sum_append, List.sum_cons]
  have e2 : sumG (xs.set i b) = ((xs.take i).map Balloon.Goal).sum + (b.Goal + ((xs.drop (i + 1)).map Balloon.Goal).sum) := by
    unfold sumG
    rw [h2]
    simp
  omega
theorem w64_addL (a b : Int) : w64 (w64 a + b) = w64 (a + b) := by
  unfold w64
  simp only [IntKind.wrap, IntKind.bits, IntKind.signed]
  simp
  repeat' split
  all_goals omega
theorem gxIdx_some {α : Type} {xs : List α} {i : Int} {y : α} (h : gxIdx xs i = some y) : 0 ≤ i ∧ ∃ hi : i.toNat < xs.length, xs[i.toNat] = y := by
  unfold gxIdx at h
  split at h
  · rename_i h0
    obtain ⟨h1, h2⟩ := List.getElem?_eq_some_iff.1 h
    exact ⟨h0, h1, h2⟩
  · cases h
theorem zero_sum : ∀ {xs : List Balloon}, (∀ b ∈ xs, b.Goal = 0) → sumG xs = 0
  | [], _ => rfl
  | b :: r, h => by
    have h1 := zero_sum (xs := r) fun x hx => h x (by simp [hx])
    have h2 := h b (by simp)
    unfold sumG at h1 ⊢
    rw [List.map_cons, List.sum_cons, h1, h2]
    rfl
theorem opt_bind {α β : Type} {x : Option α} {f : α → Option β} {r : β} (h : Option.bind x f = some r) : ∃ a, x = some a ∧ f a = some r := Option.bind_eq_some_iff.1 h
theorem share_sum (os : List Int) (xs : List Balloon) (need : Int) (hf : fitB xs) {r : List Balloon × Bool} (h : M.i_ShareGoals os xs need = some r) (hr : r.2 = true) : sumG r.1 = need := by
  unfold M.i_ShareGoals M.i_isGoal at h
  rw [i_newB xs hf] at h
  obtain ⟨o1, ho1, h⟩ := opt_bind h
  cases o1 with
  | true =>
    simp only [cond_true, Option.some.injEq] at h
    rw [← h] at hr
    cases hr
  | false =>
    have hneed : 0 ≤ need ∧ need ≤ 16 := by
      obtain ⟨g, _, ho1⟩ := opt_bind ho1
      cases g with
      | false => simp at ho1
      | true =>
        simp only [Bool.not_true, cond_false, i_in, Option.bind_some, Option.some.injEq, Bool.not_eq_false', Bool.and_eq_true, decide_eq_true_eq] at ho1
        exact ho1
    simp only [cond_false, Option.bind_some] at h
    obtain ⟨q, hq, h⟩ := opt_bind h
    have hq2 : ∀ b ∈ q.2, b.Goal = 0 := by
      refine while_post (R := fun s : List Int × Int × List Balloon => 0 ≤ s.2.1 ∧ s.2.2.length = xs.length ∧ ∀ j, (hj : j < s.2.2.length) → (j : Int) < s.2.1 → s.2.2[j].Goal = 0) (Q := fun r : List Int × List Balloon => ∀ b ∈ r.2, b.Goal = 0) (fun s s' hR hb => ?_) (fun s r hR hb => ?_) gxFuel _ _ ⟨by simp, rfl, fun j hj hj2 => by simp at hj2; omega⟩ hq
      · obtain ⟨l, i, L⟩ := s
        obtain ⟨h1, h2, h3⟩ := hR
        simp only at h1 h2 h3 hb
        by_cases hlt : i < (xs.length : Int)
        · simp only [hlt, decide_true, cond_true] at hb
          obtain ⟨y1, hy1, hb⟩ := opt_bind hb
          obtain ⟨y2, hy2, hb⟩ := opt_bind hb
          obtain ⟨y3, hy3, hb⟩ := opt_bind hb
          obtain ⟨y4, hy4, hb⟩ := opt_bind hb
          simp only [Option.some.injEq, Sum.inl.injEq] at hb
          subst hb
          have hl := hf.1
          have hw : w64 (i + 1) = i + 1 := w64_id (by omega) (by omega)
          refine ⟨by simp only; omega, by simp only [List.length_set]; exact h2, fun j hj hj2 => ?_⟩
          simp only [hw] at hj2
          simp only [List.length_set] at hj
          simp only [List.getElem_set]
          split
          · rfl
          · rename_i hne
            exact h3 j hj (by omega)
        · simp only [hlt, decide_false, cond_false] at hb
          cases hb
      · obtain ⟨l, i, L⟩ := s
        obtain ⟨h1, h2, h3⟩ := hR
        simp only at h1 h2 h3 hb
        by_cases hlt : i < (xs.length : Int)
        · simp only [hlt, decide_true, cond_true] at hb
          obtain ⟨y1, hy1, hb⟩ := opt_bind hb
          obtain ⟨y2, hy2, hb⟩ := opt_bind hb
          obtain ⟨y3, hy3, hb⟩ := opt_bind hb
          obtain ⟨y4, hy4, hb⟩ := opt_bind hb
          simp at hb
        · simp only [hlt, decide_false, cond_false, Option.some.injEq, Sum.inr.injEq] at hb
          subst hb
          intro b hbm
          obtain ⟨j, hj, rfl⟩ := List.getElem_of_mem hbm
          exact h3 j hj (by simp only at hj; omega)
    obtain ⟨v, hv, h⟩ := opt_bind h
    have hv2 : ∀ w, v = Sum.inl w → sumG w.1 = need := by
      refine while_post (R := fun s : Int × List Balloon × List Int => 0 ≤ s.1 ∧ s.1 ≤ need ∧ sumG s.2.1 = s.1 ∧ ∀ b ∈ s.2.1, 0 ≤ b.Goal ∧ b.Goal ≤ s.1) (Q := fun r : (List Balloon × List Int) ⊕ ((List Balloon) × Bool) => ∀ w, r = Sum.inl w → sumG w.1 = need) (fun s s' hR hb => ?_) (fun s r hR hb => ?_) gxFuel _ _ ⟨by simp, hneed.1, zero_sum hq2, fun b hb => by rw [hq2 b hb]; simp⟩ hv
      · obtain ⟨k, L, l⟩ := s
        obtain ⟨h1, h2, h3, h4⟩ := hR
        simp only at h1 h2 h3 h4 hb
        by_cases hlt : k < need
        · simp only [hlt, decide_true, cond_true] at hb
          obtain ⟨o, _, hb⟩ := opt_bind hb
          cases o with
          | true => simp at hb
          | false =>
            simp only [cond_false] at hb
            obtain ⟨y1, hy1, hb⟩ := opt_bind hb
            obtain ⟨y2, hy2, hb⟩ := opt_bind hb
            obtain ⟨y3, hy3, hb⟩ := opt_bind hb
            obtain ⟨y4, hy4, hb⟩ := opt_bind hb
            obtain ⟨y5, hy5, hb⟩ := opt_bind hb
            obtain ⟨y6, hy6, hb⟩ := opt_bind hb
            simp only [Option.some.injEq, Sum.inl.injEq] at hb
            subst hb
            obtain ⟨_, hi, he5⟩ := gxIdx_some hy5
            have hG := h4 y5 (by rw [← he5]; exact List.getElem_mem hi)
            have hw : w64 (k + 1) = k + 1 := w64_id (by omega) (by omega)
            have hw2 : w64 (y5.Goal + 1) = y5.Goal + 1 := w64_id (by omega) (by omega)
            have hs := sumG_set hi (⟨y6.Guest, w64 (y5.Goal + 1), y6.Gave⟩ : Balloon)
            simp only [he5, hw2] at hs
            simp only [hw, hw2]
            refine ⟨by omega, by omega, by omega, fun b hbm => ?_⟩
            obtain ⟨j, hj, rfl⟩ := List.getElem_of_mem hbm
            rw [List.length_set] at hj
            rw [List.getElem_set]
            split
            · simp only
              omega
            · have := h4 _ (List.getElem_mem hj)
              omega
        · simp only [hlt, decide_false, cond_false] at hb
          cases hb
      · obtain ⟨k, L, l⟩ := s
        obtain ⟨h1, h2, h3, h4⟩ := hR
        simp only at h1 h2 h3 h4 hb
        intro w hw
        by_cases hlt : k < need
        · simp only [hlt, decide_true, cond_true] at hb
          obtain ⟨o, _, hb⟩ := opt_bind hb
          cases o with
          | true =>
            simp only [cond_true, Option.some.injEq, Sum.inr.injEq] at hb
            rw [← hb] at hw
            cases hw
          | false =>
            simp only [cond_false] at hb
            obtain ⟨y1, hy1, hb⟩ := opt_bind hb
            obtain ⟨y2, hy2, hb⟩ := opt_bind hb
            obtain ⟨y3, hy3, hb⟩ := opt_bind hb
            obtain ⟨y4, hy4, hb⟩ := opt_bind hb
            obtain ⟨y5, hy5, hb⟩ := opt_bind hb
            obtain ⟨y6, hy6, hb⟩ := opt_bind hb
            simp at hb
        · simp only [hlt, decide_false, cond_false, Option.some.injEq, Sum.inr.injEq] at hb
          rw [← hb] at hw
          obtain rfl := Sum.inl.inj hw
          simp only
          omega
    cases v with
    | inl w =>
      simp only [Sum.elim_inl, Option.some.injEq] at h
      rw [← h]
      exact hv2 w rfl
    | inr w =>
      -- a result 'not shared' is false
      have hw2 : ∀ u, (Sum.inr w : (List Balloon × List Int) ⊕ ((List Balloon) × Bool)) = Sum.inr u → u.2 = false := by
        refine while_post (R := fun _ : Int × List Balloon × List Int => True) (Q := fun r : (List Balloon × List Int) ⊕ ((List Balloon) × Bool) => ∀ u, r = Sum.inr u → u.2 = false) (fun s s' _ _ => trivial) (fun s r _ hb => ?_) gxFuel _ _ trivial hv
        obtain ⟨k, L, l⟩ := s
        intro u hu
        by_cases hlt : k < need
        · simp only [hlt, decide_true, cond_true] at hb
          obtain ⟨o, _, hb⟩ := opt_bind hb
          cases o with
          | true =>
            simp only [cond_true, Option.some.injEq, Sum.inr.injEq] at hb
            rw [← hb] at hu
            obtain rfl := Sum.inr.inj hu
            rfl
          | false =>
            simp only [cond_false] at hb
            obtain ⟨y1, hy1, hb⟩ := opt_bind hb
            obtain ⟨y2, hy2, hb⟩ := opt_bind hb
            obtain ⟨y3, hy3, hb⟩ := opt_bind hb
            obtain ⟨y4, hy4, hb⟩ := opt_bind hb
            obtain ⟨y5, hy5, hb⟩ := opt_bind hb
            obtain ⟨y6, hy6, hb⟩ := opt_bind hb
            simp at hb
        · simp only [hlt, decide_false, cond_false, Option.some.injEq, Sum.inr.injEq] at hb
          rw [← hb] at hu
          cases hu
      simp only [Sum.elim_inr, Option.some.injEq] at h
      rw [← h, hw2 w rfl] at hr
      cases hr
theorem goal_set (os : List Int) (xs : List Balloon) (g v : Int) (ho : os.length ≤ 1048576) (hf : fitB xs) {r : List Balloon × Bool} (h : M.i_SetGoal os xs g v = some r) : ∀ b ∈ r.1, b.Guest = g → b.Goal = v := by
  unfold M.i_SetGoal M.i_isGoal at h
  rw [i_balloonOf_ok os xs g ho hf, Option.bind_some] at h
  obtain ⟨o, ho1, h⟩ := opt_bind h
  cases o with
  | true =>
    simp only [cond_true, Option.some.injEq] at h
    rw [← h]
    intro b hb
    cases hb
  | false =>
    cases hg : goodB os xs with
    | false =>
      rw [hg] at ho1
      simp at ho1
    | true =>
      by_cases hn : findB xs g < 0
      · have hn2 : ¬ (findB xs g ≥ 0) := by omega
        rw [hg] at ho1
        simp [hn2] at ho1
      · obtain ⟨i, hi, hlt⟩ := findB_lt hn
        have hG := good_iff.1 hg
        simp only [cond_false, i_newB xs hf, Option.bind_some, hi, gxIdx_nat hlt, Int.toNat_natCast, Option.some.injEq] at h
        rw [← h]
        intro b hb hbg
        obtain ⟨j, hj, rfl⟩ := List.getElem_of_mem hb
        simp only [List.length_set] at hj
        simp only [List.getElem_set] at hbg ⊢
        split
        · rfl
        · rename_i hne
          exfalso
          rw [if_neg hne] at hbg
          have hgi : xs[i].Guest = g := by
            unfold findB at hi
            cases hfd : (List.range xs.length).find? (fun i => (xs.getD i gB).Guest == g) with
            | none => rw [hfd] at hi; simp only at hi; omega
            | some k =>
              rw [hfd] at hi
              simp only at hi
              have hki : k = i := by omega
              subst hki
              have := List.find?_some hfd
              rw [getD_at hlt] at this
              simpa using this
          have hpw := hG.inc
          rw [List.pairwise_iff_getElem] at hpw
          rcases Nat.lt_or_gt_of_ne hne with hlt2 | hlt2
          · have := hpw i j hlt hj hlt2
            omega
          · have := hpw j i hj hlt hlt2
            omega
theorem settle_none {os : List Int} {xs : List Balloon} {g : Int} (hG : GoodB os xs) {i : Nat} (hi : findB xs g = (i : Int)) (hlt : i < xs.length) (h1 : canI os xs i = false) (h2 : canD xs i = false) : M.i_SettleGuest os xs g = some (os, xs, 0, true) := by
  obtain ⟨q1, q2, q3⟩ := good_small hG
  unfold M.i_SettleGuest
  rw [i_balloonOf_ok os xs g q1 q2, q3, hi]
  have h0 : ((i : Int) ≥ 0) := by omega
  have u1 := i_up hG hlt
  have u2 := i_down hG hlt
  rw [h1, cond_false] at u1
  rw [h2, cond_false] at u2
  simp only [h0, decide_true, Bool.and_self, Option.bind_some, Bool.not_true, cond_false, i_copy os q1, i_newB xs q2]
  rw [while_small (r := ((0 : Int), os, xs)) 1 (by omega) (by simp only [whileM, gxIdx_nat hlt, u1, u2, Option.bind_some, cond_false])]
  rfl
theorem find_guests {xs ys : List Balloon} (h : ys.map Balloon.Guest = xs.map Balloon.Guest) (g : Int) : findB ys g = findB xs g := by
  have hl : ys.length = xs.length := by
    have := congrArg List.length h
    simpa using this
  unfold findB
  rw [hl]
  have : (fun i => (ys.getD i gB).Guest == g) = (fun i => (xs.getD i gB).Guest == g) := by
    funext i
    have h1 : (ys.getD i gB).Guest = (ys.map Balloon.Guest).getD i 0 := by
      by_cases hi : i < ys.length
      · rw [getD_at hi, getD_at (by simpa using hi), List.getElem_map]
      · rw [List.getD_eq_getElem?_getD, List.getD_eq_getElem?_getD, List.getElem?_eq_none (by omega), List.getElem?_eq_none (by simp; omega)]
        rfl
    have h2 : (xs.getD i gB).Guest = (xs.map Balloon.Guest).getD i 0 := by
      by_cases hi : i < xs.length
      · rw [getD_at hi, getD_at (by simpa using hi), List.getElem_map]
      · rw [List.getD_eq_getElem?_getD, List.getD_eq_getElem?_getD, List.getElem?_eq_none (by omega), List.getElem?_eq_none (by simp; omega)]
        rfl
    rw [h1, h2, h]
  rw [this]
theorem plain_FnBalloonGoals (code : List Int) (h : okL okU code) : M.l_FnBalloonGoals code = some true := by
  unfold M.l_FnBalloonGoals M.l_rBig
  rw [Option.bind_some]
  cases decide ((code.length : Int) > 65536) with
  | true => rfl
  | false =>
    obtain ⟨os, xs, g, hd, hol, hf⟩ := drawB_ok code h
    obtain ⟨os2, xs2, need, hd2, hol2, hf2⟩ := drawShare_ok code h
    obtain ⟨os3, xs3, g3, v3, hd3, hol3, hf3⟩ := drawGoal_ok code h
    obtain ⟨os4, xs4, hd4, hol4, hf4⟩ := drawA_ok code h
    have hdS : M.s_DrawSettleGuest code = some (os, xs, g) := by
      unfold M.s_DrawSettleGuest
      rw [hd]
      rfl
    simp only [cond_false, hdS, hd2, hd3, hd4, Option.bind_some]
    -- settled
    have hset : ∃ r, M.i_SettleGuest os xs g = some r ∧ M.s_SettleGuest os xs g = some r ∧ r.1.length ≤ 1048576 ∧ fitB r.2.1 ∧ (bif r.2.2.2 then (Option.bind (M.i_Inflate r.1 r.2.1 g) fun r24450 =>
        Option.bind (M.i_Deflate r.1 r.2.1 g) fun r24465 =>
        Option.bind (M.i_SettleGuest r.1 r.2.1 g) fun r24480 =>
        Option.bind (α := Bool) (bif r24450.2.2 then some true
        else (bif r24465.2.2 then some true
        else (bif !r24480.2.2.2 then some true
        else some (r24480.2.2.1 != 0)))) fun o24498 =>
        bif o24498 then some (.inr false)
        else some (.inl ()))
        else some (.inl ())) = some (Sum.inl () : Unit ⊕ Bool) := by
      rcases settle_is os xs g (by omega) hf with ⟨_, h1, h2⟩ | ⟨_, i, r, n, hi, hlt, hs, hgu, h1, h2⟩
      · exact ⟨_, h2, h1, by simp, fit_nil, rfl⟩
      · obtain ⟨_, hG, hlt2, c1, c2, _⟩ := hs
        obtain ⟨p1, p2, p3⟩ := good_small hG
        refine ⟨_, h2, h1, p1, p2, ?_⟩
        have hfi : findB r.2 g = (i : Int) := by rw [find_guests hgu, hi]
        have a1 : inflB r.1 r.2 g = ([], [], false) := by
          unfold inflB
          rw [hfi, Int.toNat_natCast, c2, Bool.and_false]
          rfl
        have a2 : deflB r.1 r.2 g = ([], [], false) := by
          unfold deflB
          rw [hfi, Int.toNat_natCast, c1, Bool.and_false]
          rfl
        simp only [cond_true, i_inflB _ _ _ p1 p2, i_deflB _ _ _ p1 p2, a1, a2, settle_none hG hfi hlt2 c2 c1, Option.bind_some, cond_false, Bool.not_true, bne_self_eq_false]
    obtain ⟨r, e1, e2, e3, e4, e5⟩ := hset
    have q1 := rInts_refl r.1 (by omega)
    have q2 := rBalloons_refl r.2.1 e4
    simp only [e1, e2, q1, q2, Option.bind_some, beq_self_eq_true, bne_self_eq_false, Bool.not_true, cond_false]
    rw [e5]
    simp only [Option.bind_some, Sum.elim_inl]
    -- shared goals
    obtain ⟨t, t1, t2, t3⟩ := ShareGoals_eq os2 xs2 need (by omega) hf2
    have q3 := rBalloons_refl t.1 t3
    have hsum := share_sum os2 xs2 need hf2 t2
    have htl := t3.1
    simp only [t1, t2, q3, Option.bind_some, beq_self_eq_true, Bool.not_true, cond_false]
    have hloop : ∃ z, whileM (σ := Int × Int) (ρ := Int) (fun s24641 =>
        bif decide (s24641.2 < (t.1.length : Int)) then (Option.bind (gxIdx t.1 s24641.2) fun y24653 =>
        some (.inl (w64 (s24641.1 + y24653.Goal), w64 (s24641.2 + 1))))
        else some (.inr s24641.1)) gxFuel (0, 0) = some z ∧ (t.2 = true → z = need) := by
      obtain ⟨z, hz, hz2⟩ := while_inv (body := fun s24641 : Int × Int =>
        bif decide (s24641.2 < (t.1.length : Int)) then (Option.bind (gxIdx t.1 s24641.2) fun y24653 =>
        some (Sum.inl (β := Int) (w64 (s24641.1 + y24653.Goal), w64 (s24641.2 + 1))))
        else some (.inr s24641.1)) (s0 := (0, 0)) (fun i s => s.2 = (i : Int) ∧ s.1 = w64 (sumG (t.1.take i))) (fun z => z = w64 (sumG t.1)) t.1.length (by omega) ⟨rfl, by simp [sumG]; rfl⟩ (fun i s hi hR => by
          obtain ⟨a, b⟩ := s
          obtain ⟨h1, h2⟩ := hR
          simp only at h1 h2
          subst h1
          have e0 : ((i : Int) < (t.1.length : Int)) := by omega
          simp only [e0, decide_true, cond_true, gxIdx_nat hi, Option.bind_some, w64_succ (show i ≤ 4611686018427387904 by omega)]
          refine Or.inl ⟨_, rfl, rfl, ?_⟩
          simp only
          have : sumG (t.1.take (i + 1)) = sumG (t.1.take i) + t.1[i].Goal := by
            unfold sumG
            rw [List.take_add_one, List.getElem?_eq_getElem hi, Option.toList_some, List.map_append, List.sum_append]
            simp
          rw [this, h2, w64_addL]) (fun s hR => by
          obtain ⟨a, b⟩ := s
          obtain ⟨h1, h2⟩ := hR
          simp only at h1 h2
          subst h1
          rw [List.take_length] at h2
          simp only [Int.lt_irrefl, decide_false, cond_false]
          exact ⟨_, rfl, h2⟩)
      refine ⟨z, hz, fun ht => ?_⟩
      rw [hz2, hsum ht]
      have : 0 ≤ need ∧ need ≤ 16 := by
        have h5 := t2
        unfold M.i_ShareGoals M.i_isGoal at h5
        obtain ⟨o1, ho1, h5⟩ := opt_bind h5
        cases o1 with
        | true =>
          simp only [cond_true, Option.some.injEq] at h5
          rw [← h5] at ht
          cases ht
        | false =>
          obtain ⟨g', _, ho1⟩ := opt_bind ho1
          cases g' with
          | false => simp at ho1
          | true =>
            simp only [Bool.not_true, cond_false, i_in, Option.bind_some, Option.some.injEq, Bool.not_eq_false', Bool.and_eq_true, decide_eq_true_eq] at ho1
            exact ho1
      exact w64_id (by omega) (by omega)
    obtain ⟨z, hz, hz2⟩ := hloop
    rw [hz]
    have hcmp : (bif t.2 then some (z != need) else some false) = some false := by
      cases ht : t.2 with
      | false => rfl
      | true => rw [hz2 ht]; simp
    simp only [Option.bind_some, hcmp, cond_false]
    -- a goal set
    obtain ⟨u, u1, u2, u3⟩ := SetGoal_eq os3 xs3 g3 v3 (by omega) hf3
    have q4 := rBalloons_refl u.1 u3
    have hgs := goal_set os3 xs3 g3 v3 (by omega) hf3 u2
    have hul := u3.1
    simp only [u1, u2, q4, Option.bind_some, beq_self_eq_true, Bool.not_true, cond_false]
    rw [while_run (fun i => (i : Int)) (Sum.inl ()) u.1.length (by simp) (by omega)]
    · obtain ⟨x, x1, x2⟩ := GivenFrames_eq os4 xs4 (by omega) hf4
      simp only [Option.bind_some, Sum.elim_inl, x1, x2, beq_self_eq_true, cond_true]
    · intro i hi
      have e0 : ((i : Int) < (u.1.length : Int)) := by omega
      have hg := hgs _ (List.getElem_mem hi)
      simp only [e0, decide_true, cond_true, gxIdx_nat hi, Option.bind_some, w64_succ (show i ≤ 4611686018427387904 by omega)]
      by_cases hgg : u.1[i].Guest = g3
      · have e1 : (u.1[i].Guest == g3) = true := by simp [hgg]
        have e2 : (u.1[i].Goal != v3) = false := by simp [hg hgg]
        simp only [e1, e2, cond_true, cond_false, Option.bind_some]
      · have e1 : (u.1[i].Guest == g3) = false := by simp [hgg]
        simp only [e1, cond_false, Option.bind_some]
    · simp
end Go.Proofs.Ytlfligjpmodefaa
