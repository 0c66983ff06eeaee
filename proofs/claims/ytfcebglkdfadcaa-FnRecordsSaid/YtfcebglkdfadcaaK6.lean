/- Plain laws of the models: no program in sight. -/
import Derived.Test.YtfcebglkdfadcaaM
import Derived.Test.YtfcebglkdfadcaaK5
set_option linter.unusedVariables false
set_option linter.unusedSimpArgs false
set_option maxHeartbeats 4000000
namespace Go.Proofs.Ytfcebglkdfadcaa
open Go.Gx
/-! ### The law of records -/
theorem rEvents_refl (xs : List Event) (h : xs.length ≤ 4611686018427387904) : M.l_rEvents xs xs = some true := by
  unfold M.l_rEvents
  simp only [bne_self_eq_false, cond_false]
  rw [while_run (fun i => (i : Int)) (Sum.inl ()) xs.length (by simp) h]
  · rfl
  · intro i hi
    have h1 : ((i : Int) < (xs.length : Int)) := by omega
    simp only [h1, decide_true, cond_true, gxIdx_nat hi, Option.bind_some, beq_self_eq_true, Bool.and_self, Bool.not_true, cond_false, w64_succ (show i ≤ 4611686018427387904 by omega)]
  · simp only [Int.lt_irrefl, decide_false, cond_false]
theorem sec1 (a b : List Event) (fa : fitE a) (fb : fitE b) : ∃ R, M.i_MergeRecords a b = some R ∧ M.s_MergeRecords a b = some R ∧ R.1.length ≤ 1048576 ∧ (R.2 = true → (R.1.length : Int) = w64 ((a.length : Int) + (b.length : Int)) ∧ M.i_IsRecord R.1 = some true) := by
  obtain ⟨L, h1, h2, h3, h4⟩ := MergeRecords_is a b (fit_small fa) (fit_small fb)
  have la := fa.1
  have lb := fb.1
  refine ⟨_, h4, h3, ?_⟩
  cases hga : goodE a with
  | false => exact ⟨by simp, fun h => by simp at h⟩
  | true => cases hgb : goodE b with
    | false => exact ⟨by simp, fun h => by simp at h⟩
    | true =>
      obtain ⟨h5, h6⟩ := h2 hga hgb
      by_cases hl : a.length + b.length ≤ 30
      · simp only [hl, decide_true, Bool.and_self, cond_true]
        refine ⟨by omega, fun _ => ⟨?_, ?_⟩⟩
        · rw [w64_id (by omega) (by omega)]
          omega
        · have hs : smallE L := ⟨by omega, fun y hy => by
            rcases List.mem_append.1 (steq_mem h5 hy) with hy | hy
            · have := fa.2 y hy; omega
            · have := fb.2 y hy; omega⟩
          rw [i_goodE L hs]
          congr 1
          rw [goodE_iff]
          refine ⟨fun y hy => ?_, h1, by omega⟩
          rcases List.mem_append.1 (steq_mem h5 hy) with hy | hy
          · exact ((goodE_iff a).1 hga).1 y hy
          · exact ((goodE_iff b).1 hgb).1 y hy
      · simp only [hl, decide_false, Bool.and_false, cond_false]
        exact ⟨by simp, fun h => by cases h⟩
theorem within_is (L : List Event) (a b : Int) (hs : smallE L) (hg : goodE L = true) (ha : 0 ≤ a ∧ a ≤ 100000) (hb : 0 ≤ b ∧ b ≤ 100000) (hab : a ≤ b) : M.i_EventsWithin L a b = some (L.filter fun e => decide (a ≤ e.Tick) && decide (e.Tick ≤ b), true) := by
  have hl := hs.1
  have h3 : ¬ (a > b) := by omega
  unfold M.i_EventsWithin M.i_isTick
  simp only [i_goodE L hs, hg, i_in, ha.1, ha.2, hb.1, hb.2, h3, decide_true, decide_false, Bool.and_self, Option.bind_some, Bool.not_true, cond_false, i_whereIn L a b (show L.length ≤ 1048576 by omega)]
theorem sec2 (xs : List Event) (e : Event) (fx : fitE xs) (fe : e.Kind.size ≤ 16) : ∃ R, M.i_AddEvent xs e = some R ∧ M.s_AddEvent xs e = some R ∧ R.1.length ≤ 1048576 ∧ (R.2 = true → ∃ W, M.i_EventsWithin R.1 e.Tick e.Tick = some (W ++ [e], true) ∧ W.length ≤ 1048576 ∧ M.i_EventsWithin R.1 0 100000 = some (R.1, true)) := by
  obtain ⟨L, h1, h2, h3, h4⟩ := AddEvent_is xs e (fit_small fx) (by omega)
  have lx := fx.1
  refine ⟨_, h4, h3, ?_⟩
  cases hg : goodE xs with
  | false => exact ⟨by simp, fun h => by simp at h⟩
  | true => cases ho : oneE e with
    | false => exact ⟨by simp, fun h => by simp at h⟩
    | true =>
      obtain ⟨h5, h6⟩ := h2 hg
      by_cases hl : xs.length + 1 ≤ 30
      · simp only [hl, decide_true, Bool.and_self, cond_true]
        refine ⟨by omega, fun _ => ?_⟩
        have hone : ∀ y ∈ L, oneE y = true := fun y hy => by
          rcases List.mem_append.1 (steq_mem h5 hy) with hy | hy
          · exact ((goodE_iff xs).1 hg).1 y hy
          · rw [List.mem_singleton] at hy
            rw [hy]
            exact ho
        have hs : smallE L := ⟨by omega, fun y hy => by have := oneE_small (hone y hy); omega⟩
        have hgl : goodE L = true := (goodE_iff L).2 ⟨hone, h1, by omega⟩
        have htick : ∀ y : Event, oneE y = true → 0 ≤ y.Tick ∧ y.Tick ≤ 100000 := fun y hy => by
          unfold oneE at hy
          simp only [Bool.and_eq_true, decide_eq_true_eq] at hy
          exact hy.1
        have ht := htick e ho
        refine ⟨xs.filter (fun y => keyE y == e.Tick), ?_, ?_, ?_⟩
        · rw [within_is L e.Tick e.Tick hs hgl ht ht (by omega)]
          congr 2
          have e1 : (fun y : Event => decide (e.Tick ≤ y.Tick) && decide (y.Tick ≤ e.Tick)) = fun y => keyE y == e.Tick := by
            funext y
            unfold keyE
            rw [Bool.eq_iff_iff]
            simp only [Bool.and_eq_true, decide_eq_true_eq, beq_iff_eq]
            omega
          rw [e1, h5 e.Tick, List.filter_append]
          congr 1
          unfold keyE
          simp only [List.filter_cons, beq_self_eq_true, List.filter_nil, if_true]
        · exact Nat.le_trans (List.length_filter_le _ _) (by omega)
        · rw [within_is L 0 100000 hs hgl (by omega) (by omega) (by omega)]
          congr 2
          rw [List.filter_eq_self]
          intro y hy
          have := htick y (hone y hy)
          simp only [this.1, this.2, decide_true, Bool.and_self]
      · simp only [hl, decide_false, Bool.and_false, cond_false]
        exact ⟨by simp, fun h => by cases h⟩
theorem FirstWith_is (xs : List Event) (k : ByteArray) (v : Int) (h : smallE xs) : ∃ r, M.i_FirstWith xs k v = some r ∧ M.s_FirstWith xs k v = some r ∧ (r.2 = true → ∃ i, ∃ hi : i < xs.length, r.1 = ((i : Nat) : Int) ∧ (xs[i].Kind.toList == k.toList) = true ∧ ¬ (xs[i].Value < v)) := by
  have hl := h.1
  unfold M.s_FirstWith M.i_FirstWith M.slices_IndexFunc_59__i_FirstWith_1 M.i_FirstWith_1 M.i_isWord16
  simp only [s_goodE xs h, i_goodE xs h, s_in, i_in, Option.bind_some]
  cases goodE xs with
  | false => exact ⟨_, rfl, rfl, fun h => by cases h⟩
  | true => cases (decide (0 ≤ v) && decide (v ≤ 65535)) with
    | false => exact ⟨_, rfl, rfl, fun h => by cases h⟩
    | true =>
      simp only [Bool.not_true, cond_false, Option.bind_some]
      rw [while_first (fun i => (i : Int)) (withE xs k v) (fun i => (Sum.inr ((i : Int), true) : Unit ⊕ (Int × Bool))) (.inl ()) xs.length (by simp) (by omega) ?_ ?_, while_first (fun i => (i : Int)) (withE xs k v) (fun i => (Sum.inr (i : Int) : Unit ⊕ Int)) (.inl ()) xs.length (by simp) (by omega) ?_ ?_]
      · cases hf : (List.range xs.length).find? (withE xs k v) with
        | none => exact ⟨_, rfl, rfl, fun h => by cases h⟩
        | some i =>
          have : ¬ ((i : Int) < 0) := by omega
          simp only [Option.bind_some, Sum.elim_inr, this, decide_false, cond_false]
          have hi : i < xs.length := List.mem_range.1 (List.mem_of_find?_eq_some hf)
          have hw := List.find?_some hf
          unfold withE at hw
          rw [getD_at hi, Bool.and_eq_true, decide_eq_true_eq] at hw
          exact ⟨_, rfl, rfl, fun _ => ⟨i, hi, rfl, hw.1, by omega⟩⟩
      · intro i hi
        have e0 : ((i : Int) < (xs.length : Int)) := by omega
        unfold withE
        rw [getD_at hi]
        simp only [e0, decide_true, cond_true, gxIdx_nat hi, Option.bind_some, w64_succ (show i ≤ 4611686018427387904 by omega)]
        cases (xs[i].Kind.toList == k.toList) <;> cases decide (xs[i].Value ≥ v) <;> rfl
      · simp only [Int.lt_irrefl, decide_false, cond_false]
      · intro i hi
        have e0 : ((i : Int) < (xs.length : Int)) := by omega
        unfold withE
        rw [getD_at hi]
        simp only [e0, decide_true, cond_true, gxIdx_nat hi, Option.bind_some, w64_succ (show i ≤ 4611686018427387904 by omega)]
        cases (xs[i].Kind.toList == k.toList) <;> cases decide (xs[i].Value ≥ v) <;> rfl
      · simp only [Int.lt_irrefl, decide_false, cond_false]
theorem gap_total3 (r : Int × Int × Bool) : (bif r.1 == r.1 then (bif r.2.1 == r.2.1 then some (r.2.2 == r.2.2) else some false) else some false) = some true := by
  simp only [beq_self_eq_true, cond_true]
theorem plain_FnRecords (code : List Int) (h : okL okU code) : M.l_FnRecords code = some true := by
  unfold M.l_FnRecords M.l_rBig
  rw [Option.bind_some]
  cases decide ((code.length : Int) > 65536) with
  | true => rfl
  | false =>
    obtain ⟨ma, mb, hm, fa, fb⟩ := drawM_ok code h
    obtain ⟨ax, ae, had, fx, fe⟩ := drawAdd_ok code h
    obtain ⟨wx, w1, w2, hwd, fw⟩ := drawW_ok code h
    obtain ⟨fxs, fk, fv, hfd, ff, fk16⟩ := drawF_ok code h
    obtain ⟨gx, hgd, fg⟩ := drawG_ok code h
    obtain ⟨R1, i1, s1, l1, p1⟩ := sec1 ma mb fa fb
    obtain ⟨R2, i2, s2, l2, p2⟩ := sec2 ax ae fx fe
    obtain ⟨R3, s3, i3, l3⟩ := EventsWithin_eq wx w1 w2 (fit_small fw)
    obtain ⟨R4, i4, s4, p4⟩ := FirstWith_is fxs fk fv (fit_small ff)
    obtain ⟨R5, s5, i5⟩ := LongestGap_eq gx (fit_small fg)
    have e1 := rEvents_refl R1.1 (by omega)
    have e2 := rEvents_refl R2.1 (by omega)
    have e3 := rEvents_refl R3.1 (by omega)
    simp only [cond_false, hm, had, hwd, hfd, hgd, i1, s1, i2, s2, i3, s3, i4, s4, i5, s5, e1, e2, e3, Option.bind_some, beq_self_eq_true, bne_self_eq_false, Bool.not_true, cond_true]
    have q1 : (bif R1.2 then (bif (R1.1.length : Int) != (w64 ((ma.length : Int) + (mb.length : Int))) then some true
        else (Option.bind (M.i_IsRecord R1.1) fun r11732 =>
        some (!r11732)))
        else some false) = some false := by
      cases hr : R1.2 with
      | false => rfl
      | true =>
        obtain ⟨t1, t2⟩ := p1 hr
        simp only [cond_true, t2, Option.bind_some, ← t1, bne_self_eq_false, cond_false, Bool.not_true]
    rw [q1]
    simp only [Option.bind_some, cond_false]
    have q2 : (bif R2.2 then (Option.bind (M.i_EventsWithin R2.1 ae.Tick ae.Tick) fun r11905 =>
      Option.bind (α := Bool) (bif !r11905.2 then some true
      else (bif (r11905.1.length : Int) == 0 then some true
      else (Option.bind (gxIdx r11905.1 (w64 ((r11905.1.length : Int) - 1))) fun y11932 =>
      some (!((y11932.Tick == ae.Tick) && ((y11932.Guest == ae.Guest) && ((y11932.Kind.toList == ae.Kind.toList) && ((y11932.Value == ae.Value) && true)))))))) fun o11923 =>
      bif o11923 then some (.inr false)
      else (Option.bind (M.i_EventsWithin R2.1 0 100000) fun r11940 =>
      Option.bind (α := Bool) (bif !r11940.2 then some true
      else (Option.bind (M.l_rEvents r11940.1 R2.1) fun r11958 =>
      some (!r11958))) fun o11954 =>
      bif o11954 then some (.inr false)
      else some (.inl ())))
      else some (.inl ())) = some (Sum.inl () : Unit ⊕ Bool) := by
      cases hr : R2.2 with
      | false => rfl
      | true =>
        obtain ⟨W, t1, t2, t3⟩ := p2 hr
        have u1 : (((W ++ [ae]).length : Int) == 0) = false := by
          rw [beq_eq_false_iff_ne, List.length_append, List.length_cons, List.length_nil]
          omega
        have u2 : w64 (((W ++ [ae]).length : Int) - 1) = (W.length : Int) := by
          rw [List.length_append, List.length_cons, List.length_nil, w64_id (by omega) (by omega)]
          omega
        have u3 : gxIdx (W ++ [ae]) (W.length : Int) = some ae := by
          rw [gxIdx_nat (by simp)]
          simp
        simp only [cond_true, t1, Option.bind_some, Bool.not_true, cond_false, u1, u2, u3, beq_self_eq_true, Bool.and_self, t3, e2]
    rw [q2]
    simp only [Option.bind_some, Sum.elim_inl]
    have q4 : (bif R4.2 then (Option.bind (gxIdx fxs R4.1) fun y12143 =>
      bif !(y12143.Kind.toList == fk.toList) then some true
      else (Option.bind (gxIdx fxs R4.1) fun y12145 =>
      some (decide (y12145.Value < fv))))
      else some false) = some false := by
      cases hr : R4.2 with
      | false => rfl
      | true =>
        obtain ⟨i, hi, t1, t2, t3⟩ := p4 hr
        simp only [cond_true, t1, gxIdx_nat hi, Option.bind_some, t2, Bool.not_true, cond_false, t3, decide_false]
    rw [q4]
    simp only [Option.bind_some, cond_false]
end Go.Proofs.Ytfcebglkdfadcaa
