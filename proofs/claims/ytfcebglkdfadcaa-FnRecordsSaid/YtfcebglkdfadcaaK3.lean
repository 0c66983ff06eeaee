/- Plain laws of the models: no program in sight. -/
import Derived.Test.YtfcebglkdfadcaaM
import Derived.Test.YtfcebglkdfadcaaK2
set_option linter.unusedVariables false
set_option linter.unusedSimpArgs false
set_option maxHeartbeats 4000000
namespace Go.Proofs.Ytfcebglkdfadcaa
open Go.Gx
/-! ### Events in the order of their ticks -/
def keyE (e : Event) : Int := e.Tick
theorem goodE_iff (xs : List Event) : goodE xs = true ↔ (∀ e ∈ xs, oneE e = true) ∧ ordered keyE xs ∧ xs.length ≤ 30 := by
  unfold goodE
  rw [Bool.and_eq_true, List.all_eq_true, decide_eq_true_eq]
  constructor
  · rintro ⟨h1, h2⟩
    have hb : ∀ i, (hi : i < xs.length) → oneE xs[i] = true ∧ (0 < i → (xs[i - 1]'(by omega)).Tick ≤ xs[i].Tick) := fun i hi => by
      have := h1 i (List.mem_range.2 hi)
      unfold badE at this
      rw [getD_at hi, getD_at (show i - 1 < xs.length by omega)] at this
      simp only [Bool.not_eq_true', Bool.or_eq_false_iff, Bool.not_eq_false', Bool.and_eq_false_iff, decide_eq_false_iff_not] at this
      refine ⟨this.1, fun h0 => ?_⟩
      rcases this.2 with h | h <;> omega
    refine ⟨fun e he => ?_, ?_, by omega⟩
    · obtain ⟨i, hi, rfl⟩ := List.getElem_of_mem he
      exact (hb i hi).1
    · unfold ordered keyE
      rw [List.pairwise_iff_getElem]
      have key : ∀ d i, (hj : i + d < xs.length) → (xs[i]'(by omega)).Tick ≤ xs[i + d].Tick := by
        intro d
        induction d with
        | zero => intro i hj; exact Int.le_refl _
        | succ d ih =>
          intro i hj
          have h3 := ih i (by omega)
          have h4 := (hb (i + (d + 1)) hj).2 (by omega)
          have e : i + (d + 1) - 1 = i + d := by omega
          simp only [e] at h4
          omega
      intro i j hi hj hij
      have := key (j - i) i (by omega)
      simp only [show i + (j - i) = j by omega] at this
      exact this
  · rintro ⟨h1, h2, h3⟩
    refine ⟨fun i hi => ?_, by omega⟩
    have hi := List.mem_range.1 hi
    unfold badE
    rw [getD_at hi, getD_at (show i - 1 < xs.length by omega), h1 _ (List.getElem_mem hi)]
    by_cases h0 : (i : Int) > 0
    · have := ordered_get h2 (show i - 1 ≤ i by omega) hi
      have h4 : ¬ ((xs[i - 1]'(by omega)).Tick > xs[i].Tick) := by unfold keyE at this; omega
      simp [h4]
    · simp [h0]
      omega
theorem merged_keyed : keyed M.i_merged_1 keyE := fun x y => by
  unfold M.i_merged_1 M.cmp_Compare_86 M.cmp_isNaN_93 ltK keyE
  simp only [bne_self_eq_false, Option.bind_some, cond_false]
  by_cases h : x.Tick < y.Tick
  · simp [h]
  · by_cases h2 : x.Tick > y.Tick
    · simp [h, h2]
    · simp [h, h2]
theorem sym_is : ∀ (n : Nat) (x : List Event) (a m b : Int), M.slices_symMergeCmpFunc_106__i_merged_1 n x a m b = gSym M.i_merged_1 n x a m b := by
  intro n
  induction n with
  | zero => intro x a m b; rfl
  | succ n ih =>
    intro x a m b
    unfold M.slices_symMergeCmpFunc_106__i_merged_1 gSym
    simp only [ih]
    rfl
theorem sort_is (xs : List Event) : M.slices_SortStableFunc_84__i_merged_1 xs = gStable M.i_merged_1 xs (xs.length : Int) := by
  unfold M.slices_SortStableFunc_84__i_merged_1 M.slices_stableCmpFunc_92__i_merged_1
  simp only [sym_is]
  have h : ∀ x : Option (List Event), (Option.bind x fun r => some r) = x := fun x => by cases x <;> rfl
  rw [h]
  rfl
theorem gxIdx_list3 {α : Type} (a b c : α) : gxIdx [a, b, c] 0 = some a ∧ gxIdx [a, b, c] 1 = some b ∧ gxIdx [a, b, c] 2 = some c := ⟨rfl, rfl, rfl⟩
theorem concat_ok (a b : List Event) (h : a.length + b.length ≤ 1048576) : M.slices_Concat_83 [([] : List Event), a, b] = some (a ++ b) := by
  unfold M.slices_Concat_83 M.slices_Grow_91__n0
  have e1 : ¬ (w64 (0 + ((([] : List Event).length : Nat) : Int)) < 0) := by rw [w64_id (by simp) (by simp)]; simp
  have l0 : ((([] : List Event).length : Nat) : Int) = 0 := rfl
  have f1 : w64 ((0 : Int) + 0) = 0 := by rw [w64_id (by omega) (by omega)]; rfl
  have f2 : w64 ((0 : Int) + (a.length : Int)) = (a.length : Int) := by rw [w64_id (by omega) (by omega)]; omega
  have f3 : w64 ((a.length : Int) + (b.length : Int)) = ((a.length + b.length : Nat) : Int) := by rw [w64_id (by omega) (by omega)]; omega
  have g1 : w64 ((0 : Int) + 1) = 1 := by rw [w64_id (by omega) (by omega)]; rfl
  have g2 : w64 ((1 : Int) + 1) = 2 := by rw [w64_id (by omega) (by omega)]; rfl
  have g3 : w64 ((2 : Int) + 1) = 3 := by rw [w64_id (by omega) (by omega)]; rfl
  have n0 : ¬ ((0 : Int) < 0) := by omega
  have na : ¬ ((a.length : Int) < 0) := by omega
  have nb : ¬ (((a.length + b.length : Nat) : Int) < 0) := by omega
  obtain ⟨i0, i1, i2⟩ := gxIdx_list3 ([] : List Event) a b
  have l3 : ((([([] : List Event), a, b]).length : Nat) : Int) = 3 := rfl
  have c0 : ((0 : Int) < 3) := by omega
  have c1 : ((1 : Int) < 3) := by omega
  have c2 : ((2 : Int) < 3) := by omega
  have c3 : ¬ ((3 : Int) < 3) := by omega
  rw [while_small (r := ((a.length + b.length : Nat) : Int)) 5 (by omega) (by simp only [whileM, l3, c0, c1, c2, c3, i0, i1, i2, decide_true, decide_false, cond_true, cond_false, Option.bind_some, l0, f1, f2, f3, g1, g2, g3, n0, na, nb])]
  have hg : (gxGrow 40 ((a.length + b.length : Nat) : Int) : Option (List Event)) = some [] := by
    unfold gxGrow
    have h1 : (0 : Int) ≤ ((a.length + b.length : Nat) : Int) := by omega
    have h2 : ((a.length + b.length : Nat) : Int) * ((40 : Nat) : Int) ≤ 140737488355328 := by omega
    simp only [h1, h2, decide_true, Bool.and_self, cond_true]
  simp only [Option.bind_some, hg]
  have p0 : gxApp 40 ([] : List Event) ([] : List Event) = some [] := rfl
  have p1 : gxApp 40 ([] : List Event) a = some a := by rw [gxApp_ok (by simp; omega)]; rfl
  have p2 : gxApp 40 a b = some (a ++ b) := gxApp_ok (by omega)
  rw [while_small (r := a ++ b) 5 (by omega) (by simp only [whileM, l3, c0, c1, c2, c3, i0, i1, i2, decide_true, decide_false, cond_true, cond_false, Option.bind_some, p0, p1, p2, g1, g2, g3])]
  rfl
theorem merged_ok (a b : List Event) (h : a.length + b.length ≤ 60) (ho : ∀ e ∈ a ++ b, oneE e = true) (hk : ∀ e ∈ a ++ b, (e.Kind.size : Int) ≤ 1048576) : ∃ L, M.i_merged a b = some (bif decide (a.length + b.length ≤ 30) then (L, true) else ([], false)) ∧ ordered keyE L ∧ steq keyE L (a ++ b) ∧ L.length = a.length + b.length := by
  obtain ⟨L, h1, h2, h3, h4⟩ := stable_law merged_keyed (a ++ b) (by simp; omega)
  rw [List.length_append] at h4
  refine ⟨L, ?_, h2, h3, h4⟩
  unfold M.i_merged
  have hs : smallE L := ⟨by omega, fun e he => hk e (steq_mem h3 he)⟩
  rw [concat_ok a b (by omega), Option.bind_some, sort_is, h1, Option.bind_some, i_goodE L hs, Option.bind_some]
  by_cases hl : a.length + b.length ≤ 30
  · have : goodE L = true := (goodE_iff L).2 ⟨fun e he => ho e (steq_mem h3 he), h2, by omega⟩
    simp [this, hl]
  · have : goodE L = false := by
      cases hg : goodE L with
      | false => rfl
      | true => have := ((goodE_iff L).1 hg).2.2; omega
    simp [this, hl]
theorem s_add (xs : List Event) (e : Event) (ho : ordered keyE xs) (hl : xs.length ≤ 1048576) : ∃ L, M.s_l22Add xs e = some L ∧ ordered keyE L ∧ steq keyE L (xs ++ [e]) ∧ L.length = xs.length + 1 := by
  have key : ∀ (n fuel : Nat) (A B : List Event), A.length = n → n < fuel → xs = A ++ B → (∀ y ∈ B, keyE e < keyE y) →
      ∃ (k : Nat), whileM (σ := Int) (ρ := Int) (fun s3255 =>
        Option.bind (α := Bool) (bif decide (s3255 > 0) then (Option.bind (gxIdx xs (w64 (s3255 - 1))) fun y3276 =>
        some (decide (y3276.Tick > e.Tick)))
        else some false) fun o3272 =>
        bif o3272 then some (.inl (w64 (s3255 - 1)))
        else some (.inr s3255)) fuel (n : Int) = some (k : Int) ∧ k ≤ xs.length ∧ (∀ y ∈ xs.drop k, keyE e < keyE y) ∧ (∀ y ∈ xs.take k, keyE y ≤ keyE e) := by
    intro n
    induction n with
    | zero =>
      intro fuel A B hA hf hx hB
      obtain ⟨f, rfl⟩ : ∃ f, fuel = f + 1 := ⟨fuel - 1, by omega⟩
      obtain rfl := List.length_eq_zero_iff.1 hA
      refine ⟨0, ?_, by omega, ?_, by simp⟩
      · have : ¬ (((0 : Nat) : Int) > 0) := by omega
        simp only [whileM, this, decide_false, cond_false, Option.bind_some]
      · rw [hx]
        simpa using hB
    | succ n ih =>
      intro fuel A B hA hf hx hB
      obtain ⟨f, rfl⟩ : ∃ f, fuel = f + 1 := ⟨fuel - 1, by omega⟩
      have hnl : n < xs.length := by rw [hx, List.length_append]; omega
      have g0 : (((n + 1 : Nat) : Int) > 0) := by omega
      have g1 : w64 (((n + 1 : Nat) : Int) - 1) = (n : Int) := by rw [w64_id (by omega) (by omega)]; omega
      have hsp : A = A.take n ++ [xs[n]] := by
        have h1 : A.take (n + 1) = A := List.take_of_length_le (by omega)
        have h2 : A[n]'(by omega) = xs[n] := by
          simp only [hx]
          rw [List.getElem_append_left]
        conv => lhs; rw [← h1, List.take_add_one, List.getElem?_eq_getElem (show n < A.length by omega), h2]
        rfl
      by_cases hgt : xs[n].Tick > e.Tick
      · have hx' : xs = A.take n ++ (xs[n] :: B) := by
          have : A ++ B = A.take n ++ ([xs[n]] ++ B) := by rw [← List.append_assoc, ← hsp]
          rw [← hx] at this
          exact this
        obtain ⟨k, h1, h2⟩ := ih f (A.take n) (xs[n] :: B) (by simp; omega) (by omega) hx' (fun y hy => by
          rcases List.mem_cons.1 hy with rfl | hy
          · exact hgt
          · exact hB y hy)
        refine ⟨k, ?_, h2⟩
        simp only [whileM, g0, decide_true, cond_true, g1, gxIdx_nat hnl, Option.bind_some, hgt]
        exact h1
      · refine ⟨n + 1, ?_, by omega, ?_, fun y hy => ?_⟩
        · simp only [whileM, g0, decide_true, cond_true, g1, gxIdx_nat hnl, Option.bind_some, hgt, decide_false, cond_false]
        · have : xs.drop (n + 1) = B := by
            rw [hx, ← hA, List.drop_left]
          rw [this]
          exact hB
        · obtain ⟨i, hi, rfl⟩ := List.getElem_of_mem hy
          have hin : i < n + 1 := by simp at hi; omega
          rw [List.getElem_take]
          have := ordered_get ho (show i ≤ n by omega) hnl
          unfold keyE at this ⊢
          omega
  obtain ⟨k, h1, h2, h3, h4⟩ := key xs.length gxFuel xs [] rfl (by unfold gxFuel; omega) (by simp) (by simp)
  have hsp : xs.take k ++ xs.drop k = xs := List.take_append_drop _ _
  refine ⟨xs.take k ++ [e] ++ xs.drop k, ?_, ?_, ?_, ?_⟩
  · unfold M.s_l22Add
    rw [h1, Option.bind_some]
    have p1 : gxApp 40 ([] : List Event) (xs.take k) = some (xs.take k) := by rw [gxApp_ok (by simp; omega)]; rfl
    have p2 : gxApp 40 (xs.take k) [e] = some (xs.take k ++ [e]) := gxApp_ok (by simp; omega)
    have p3 : gxApp 40 (xs.take k ++ [e]) (xs.drop k) = some (xs.take k ++ [e] ++ xs.drop k) := gxApp_ok (by simp; omega)
    simp only [gxSlice_take h2, gxSlice_drop h2, p1, p2, p3, Option.bind_some]
  · have ho' := ho
    rw [← hsp, ordered_app] at ho'
    rw [ordered_app, ordered_app]
    refine ⟨⟨ho'.1, by simp [ordered], fun a ha b hb => ?_⟩, ho'.2.1, fun a ha b hb => ?_⟩
    · rw [List.mem_singleton] at hb
      subst hb
      exact h4 a ha
    · rcases List.mem_append.1 ha with ha | ha
      · exact ho'.2.2 a ha b hb
      · rw [List.mem_singleton] at ha
        subst ha
        have := h3 b hb
        omega
  · have h5 : steq keyE (xs.take k ++ ([e] ++ xs.drop k)) (xs.take k ++ (xs.drop k ++ [e])) := steq_app (steq_refl _ _) (steq_swap fun a ha b hb => by
      rw [List.mem_singleton] at ha
      subst ha
      have := h3 b hb
      omega)
    have e1 : xs.take k ++ ([e] ++ xs.drop k) = xs.take k ++ [e] ++ xs.drop k := by simp
    have e2 : xs.take k ++ (xs.drop k ++ [e]) = xs ++ [e] := by rw [← List.append_assoc, hsp]
    rw [e1, e2] at h5
    exact h5
  · simp
    omega
theorem oneE_small {e : Event} (h : oneE e = true) : (e.Kind.size : Int) ≤ 8 := by
  unfold oneE at h
  simp only [Bool.and_eq_true, decide_eq_true_eq] at h
  omega
theorem AddEvent_is (xs : List Event) (e : Event) (h : smallE xs) (he : (e.Kind.size : Int) ≤ 1048576) : ∃ L, ordered keyE L ∧ (goodE xs = true → steq keyE L (xs ++ [e]) ∧ L.length = xs.length + 1) ∧
    M.s_AddEvent xs e = some (bif goodE xs && (oneE e && decide (xs.length + 1 ≤ 30)) then (L, true) else ([], false)) ∧ M.i_AddEvent xs e = some (bif goodE xs && (oneE e && decide (xs.length + 1 ≤ 30)) then (L, true) else ([], false)) := by
  unfold M.s_AddEvent M.i_AddEvent
  rw [s_goodE xs h, i_goodE xs h]
  cases hg : goodE xs with
  | false => exact ⟨[], by simp [ordered], by simp, rfl, rfl⟩
  | true =>
    obtain ⟨g1, g2, g3⟩ := (goodE_iff xs).1 hg
    obtain ⟨L, a1, a2, a3, a4⟩ := s_add xs e g2 (by omega)
    have hsL : smallE L := ⟨by omega, fun y hy => by
      rcases List.mem_append.1 (steq_mem a3 hy) with hy | hy
      · exact h.2 y hy
      · rw [List.mem_singleton] at hy
        rw [hy]
        exact he⟩
    refine ⟨L, a2, fun _ => ⟨a3, a4⟩, ?_, ?_⟩
    · simp only [Option.bind_some, Bool.not_true, cond_false, a1, s_goodE L hsL, Bool.true_and]
      cases ho : oneE e with
      | false =>
        have : goodE L = false := by
          cases hgl : goodE L with
          | false => rfl
          | true =>
            have h1 := ((goodE_iff L).1 hgl).1 e (steq_mem (steq_symm a3) (by simp))
            rw [ho] at h1
            cases h1
        rw [this]
        rfl
      | true =>
        by_cases hl : xs.length + 1 ≤ 30
        · have : goodE L = true := (goodE_iff L).2 ⟨fun y hy => by
            rcases List.mem_append.1 (steq_mem a3 hy) with hy | hy
            · exact g1 y hy
            · rw [List.mem_singleton] at hy
              rw [hy]
              exact ho, a2, by omega⟩
          simp [this, hl]
        · have : goodE L = false := by
            cases hgl : goodE L with
            | false => rfl
            | true => have := ((goodE_iff L).1 hgl).2.2; omega
          simp [this, hl]
    · simp only [Option.bind_some, Bool.not_true, cond_false, Bool.true_and]
      cases ho : oneE e with
      | false =>
        -- the sorted list has an event that is not valid
        obtain ⟨S, s1, s2, s3, s4⟩ := stable_law merged_keyed (xs ++ [e]) (by simp; omega)
        rw [List.length_append] at s4
        have hsS : smallE S := ⟨by simp at s4; omega, fun y hy => by
          rcases List.mem_append.1 (steq_mem s3 hy) with hy | hy
          · exact h.2 y hy
          · rw [List.mem_singleton] at hy
            rw [hy]
            exact he⟩
        have : goodE S = false := by
          cases hgl : goodE S with
          | false => rfl
          | true =>
            have h1 := ((goodE_iff S).1 hgl).1 e (steq_mem (steq_symm s3) (by simp))
            rw [ho] at h1
            cases h1
        unfold M.i_merged
        rw [concat_ok xs [e] (by simp; omega), Option.bind_some, sort_is, s1, Option.bind_some, i_goodE S hsS, this]
        rfl
      | true =>
        obtain ⟨S, s1, s2, s3, s4⟩ := merged_ok xs [e] (by simp; omega) (fun y hy => by
          rcases List.mem_append.1 hy with hy | hy
          · exact g1 y hy
          · rw [List.mem_singleton] at hy
            rw [hy]
            exact ho) (fun y hy => by
          rcases List.mem_append.1 hy with hy | hy
          · exact h.2 y hy
          · rw [List.mem_singleton] at hy
            rw [hy]
            exact he)
        have hSL : S = L := steq_uniq s2 a2 (steq_trans s3 (steq_symm a3))
        rw [s1, hSL]
        have e1 : xs.length + [e].length = xs.length + 1 := rfl
        rw [e1]
        cases decide (xs.length + 1 ≤ 30) <;> rfl
theorem AddEvent_eq (xs : List Event) (e : Event) (h : smallE xs) (he : (e.Kind.size : Int) ≤ 1048576) : ∃ r, M.s_AddEvent xs e = some r ∧ M.i_AddEvent xs e = some r ∧ r.1.length ≤ 1048576 := by
  obtain ⟨L, _, h2, h3, h4⟩ := AddEvent_is xs e h he
  refine ⟨_, h3, h4, ?_⟩
  cases hg : goodE xs with
  | false => simp
  | true =>
    have h5 := (h2 hg).2
    have := h.1
    cases (oneE e && decide (xs.length + 1 ≤ 30)) with
    | false => simp
    | true =>
      simp only [Bool.true_and, cond_true]
      have := ((goodE_iff xs).1 hg).2.2
      omega
theorem MergeRecords_is (a b : List Event) (ha : smallE a) (hb : smallE b) : ∃ L, ordered keyE L ∧ (goodE a = true → goodE b = true → steq keyE L (a ++ b) ∧ L.length = a.length + b.length) ∧
    M.s_MergeRecords a b = some (bif goodE a && (goodE b && decide (a.length + b.length ≤ 30)) then (L, true) else ([], false)) ∧ M.i_MergeRecords a b = some (bif goodE a && (goodE b && decide (a.length + b.length ≤ 30)) then (L, true) else ([], false)) := by
  unfold M.s_MergeRecords M.i_MergeRecords
  rw [s_goodE a ha, i_goodE a ha, s_goodE b hb, i_goodE b hb]
  cases hga : goodE a with
  | false => exact ⟨[], by simp [ordered], by simp, rfl, rfl⟩
  | true => cases hgb : goodE b with
    | false => exact ⟨[], by simp [ordered], by simp, rfl, rfl⟩
    | true =>
      obtain ⟨a1, a2, a3⟩ := (goodE_iff a).1 hga
      obtain ⟨b1, b2, b3⟩ := (goodE_iff b).1 hgb
      obtain ⟨S, s1, s2, s3, s4⟩ := merged_ok a b (by omega) (fun y hy => by
        rcases List.mem_append.1 hy with hy | hy
        · exact a1 y hy
        · exact b1 y hy) (fun y hy => by
        rcases List.mem_append.1 hy with hy | hy
        · exact ha.2 y hy
        · exact hb.2 y hy)
      refine ⟨S, s2, fun _ _ => ⟨s3, s4⟩, ?_, ?_⟩
      · have hw : w64 ((a.length : Int) + (b.length : Int)) = ((a.length + b.length : Nat) : Int) := by rw [w64_id (by omega) (by omega)]; omega
        simp only [Option.bind_some, Bool.not_true, cond_false, hw, Bool.true_and]
        by_cases hl : a.length + b.length ≤ 30
        · have hl2 : ¬ (((a.length + b.length : Nat) : Int) > 30) := by omega
          have p1 : gxApp 40 ([] : List Event) a = some a := by rw [gxApp_ok (by simp; omega)]; rfl
          simp only [hl, hl2, decide_true, decide_false, cond_true, cond_false, Option.bind_some, p1]
          obtain ⟨r, hr, hr2⟩ := while_inv (body := fun s7042 : List Event × Int =>
            bif decide (s7042.2 < (b.length : Int)) then (Option.bind (gxIdx b s7042.2) fun y7064 =>
            Option.bind (M.s_l22Add s7042.1 y7064) fun r7065 =>
            some (Sum.inl (β := List Event) (r7065, w64 (s7042.2 + 1))))
            else some (.inr s7042.1)) (s0 := (a, 0)) (fun i s => s.2 = (i : Int) ∧ ordered keyE s.1 ∧ steq keyE s.1 (a ++ b.take i) ∧ s.1.length = a.length + i) (fun r => ordered keyE r ∧ steq keyE r (a ++ b)) b.length (by omega) ⟨rfl, a2, by simpa using steq_refl keyE a, rfl⟩ (fun i s hi hR => by
              obtain ⟨X, j⟩ := s
              obtain ⟨hj, hX, hq, hlX⟩ := hR
              simp only at hj hX hq hlX
              subst hj
              have e0 : ((i : Int) < (b.length : Int)) := by omega
              obtain ⟨Y, y1, y2, y3, y4⟩ := s_add X b[i] hX (by omega)
              simp only [e0, decide_true, cond_true, gxIdx_nat hi, Option.bind_some, y1, w64_succ (show i ≤ 4611686018427387904 by omega)]
              refine Or.inl ⟨_, rfl, rfl, y2, ?_, by simp only; omega⟩
              refine steq_trans y3 ?_
              have := steq_app hq (steq_refl keyE [b[i]])
              rw [List.append_assoc] at this
              rw [List.take_add_one, List.getElem?_eq_getElem hi]
              exact this) (fun s hR => by
              obtain ⟨X, j⟩ := s
              obtain ⟨hj, hX, hq, hlX⟩ := hR
              simp only at hj hX hq hlX
              subst hj
              rw [List.take_length] at hq
              simp only [Int.lt_irrefl, decide_false, cond_false]
              exact ⟨_, rfl, hX, hq⟩)
          rw [hr, Option.bind_some, steq_uniq hr2.1 s2 (steq_trans hr2.2 (steq_symm s3))]
        · have hl2 : (((a.length + b.length : Nat) : Int) > 30) := by omega
          simp only [hl, hl2, decide_true, decide_false, cond_true, cond_false]
      · simp only [Option.bind_some, Bool.not_true, cond_false, s1, Bool.true_and]
theorem MergeRecords_eq (a b : List Event) (ha : smallE a) (hb : smallE b) : ∃ r, M.s_MergeRecords a b = some r ∧ M.i_MergeRecords a b = some r ∧ r.1.length ≤ 1048576 := by
  obtain ⟨L, _, h2, h3, h4⟩ := MergeRecords_is a b ha hb
  refine ⟨_, h3, h4, ?_⟩
  cases hga : goodE a with
  | false => simp
  | true => cases hgb : goodE b with
    | false => simp
    | true =>
      have h5 := (h2 hga hgb).2
      have h6 := ((goodE_iff a).1 hga).2.2
      have h7 := ((goodE_iff b).1 hgb).2.2
      cases decide (a.length + b.length ≤ 30) with
      | false => simp
      | true =>
        simp only [Bool.true_and, cond_true]
        omega
end Go.Proofs.Ytfcebglkdfadcaa
