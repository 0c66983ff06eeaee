/- Plain laws of the models: no program in sight. -/
import Derived.Test.YtlfligjpmodefaaM
import Derived.Test.YtlfligjpmodefaaL5
set_option linter.unusedVariables false
set_option linter.unusedSimpArgs false
set_option maxHeartbeats 4000000
namespace Go.Proofs.Ytlfligjpmodefaa
open Go.Gx
theorem while_place {α : Type} {xs : List α} (p : α → Bool) {body : Int → Option (Int ⊕ Int)} (hl : xs.length ≤ 1099511627776)
    (h : ∀ (i : Nat) (hi : i < xs.length), body (i : Int) = some (bif p xs[i] then .inl (w64 ((i : Int) + 1)) else .inr (i : Int)))
    (he : body (xs.length : Int) = some (.inr (xs.length : Int))) : whileM body gxFuel 0 = some ((xs.takeWhile p).length : Int) := by
  have hk : (xs.takeWhile p).length ≤ xs.length := (List.takeWhile_prefix p).length_le
  refine while_run (fun i => (i : Int)) _ (xs.takeWhile p).length (by simp) (by omega) (fun i hi => ?_) ?_
  · have hi' : i < xs.length := by omega
    have hp : p xs[i] = true := by
      have h1 : (xs.takeWhile p)[i] = xs[i] := (List.takeWhile_prefix p).getElem hi
      have h2 := List.all_takeWhile (p := p) (l := xs)
      rw [List.all_eq_true] at h2
      rw [← h1]
      exact h2 _ (List.getElem_mem hi)
    rw [h i hi', hp, w64_succ (by omega)]
    rfl
  · by_cases hlt : (xs.takeWhile p).length < xs.length
    · have hp : p xs[(xs.takeWhile p).length] = false := by
        have h1 : xs = xs.takeWhile p ++ xs.dropWhile p := (List.takeWhile_append_dropWhile).symm
        cases hd : xs.dropWhile p with
        | nil => rw [hd, List.append_nil] at h1; rw [← h1] at hlt; omega
        | cons y r =>
          have h2 : p y = false := by
            have := List.head_dropWhile_not p (l := xs) (by rw [hd]; simp)
            simpa [hd] using this
          have h3 : xs[(xs.takeWhile p).length]? = some y := by
            conv => lhs; arg 1; rw [h1]
            rw [List.getElem?_append_right (Nat.le_refl _), Nat.sub_self, hd]
            rfl
          rw [List.getElem?_eq_getElem hlt] at h3
          rw [Option.some.inj h3]
          exact h2
      rw [h _ hlt, hp]
      rfl
    · rw [show (xs.takeWhile p).length = xs.length by omega, he]
theorem gxSlice_take {α : Type} {xs : List α} {k : Nat} (h : k ≤ xs.length) : gxSlice xs 0 (k : Int) = some (xs.take k) := by
  unfold gxSlice
  rw [if_pos ⟨by omega, by omega, by omega⟩]
  simp
theorem gxSlice_drop {α : Type} {xs : List α} {k : Nat} (h : k ≤ xs.length) : gxSlice xs (k : Int) (xs.length : Int) = some (xs.drop k) := by
  unfold gxSlice
  rw [if_pos ⟨by omega, by omega, by omega⟩]
  simp
/-! ### Insertion from the right -/
/-! ### Steps of one balloon -/
theorem rise_iff {xs : List Int} {a b : Int} : riseB xs a b = true ↔ xs.Pairwise (· < ·) ∧ ∀ x ∈ xs, a ≤ x ∧ x ≤ b := by
  constructor
  · intro h
    refine ⟨?_, fun x hx => ?_⟩
    · rw [List.pairwise_iff_getElem]
      intro i j hi hj hij
      exact rise_lt h i j hj hij
    · obtain ⟨i, hi, rfl⟩ := List.getElem_of_mem hx
      exact (rise_at h hi).1
  · rintro ⟨h1, h2⟩
    unfold riseB
    rw [List.all_eq_true]
    intro i hi
    have hi := List.mem_range.1 hi
    unfold riseOk inB
    rw [getD_at hi]
    have hb := h2 _ (List.getElem_mem hi)
    simp only [Bool.and_eq_true, decide_eq_true_eq, Bool.not_eq_true', Bool.and_eq_false_iff, decide_eq_false_iff_not]
    refine ⟨hb, ?_⟩
    by_cases h0 : (i : Int) > 0
    · right
      rw [getD_at (show i - 1 < xs.length by omega)]
      have := List.pairwise_iff_getElem.1 h1 (i - 1) i (by omega) hi (by omega)
      omega
    · exact Or.inl h0
theorem rise_len {xs : List Int} {n : Int} (h : riseB xs 0 (n - 1) = true) (hn : 0 ≤ n) : (xs.length : Int) ≤ n := by
  have key : ∀ i, (hi : i < xs.length) → (i : Int) ≤ xs[i] := by
    intro i
    induction i with
    | zero => intro hi; have := (rise_at h hi).1; omega
    | succ i ih =>
      intro hi
      have h1 := ih (by omega)
      have h2 := rise_lt h i (i + 1) hi (by omega)
      omega
  by_cases h0 : xs.length = 0
  · omega
  · have h1 := key (xs.length - 1) (by omega)
    have h2 := (rise_at h (show xs.length - 1 < xs.length by omega)).1
    omega
structure GoodB (os : List Int) (xs : List Balloon) : Prop where
  own : ownersB os = true
  each : ∀ b ∈ xs, ((1 ≤ b.Guest ∧ b.Guest ≤ 4) ∧ (0 ≤ b.Goal ∧ b.Goal ≤ 16)) ∧ riseB b.Gave 0 ((os.length : Int) - 1) = true ∧ ∀ f ∈ b.Gave, os.getD f.toNat 0 = 0
  inc : xs.Pairwise fun a b => a.Guest < b.Guest
  dis : xs.Pairwise fun a b => ∀ f ∈ a.Gave, f ∉ b.Gave
theorem owners_iff {os : List Int} : ownersB os = true ↔ (1 ≤ os.length ∧ os.length ≤ 16) ∧ ∀ o ∈ os, 0 ≤ o ∧ o ≤ 4 := by
  unfold ownersB inB
  simp only [Bool.and_eq_true, List.all_eq_true, decide_eq_true_eq, List.mem_range]
  constructor
  · rintro ⟨h1, h2⟩
    refine ⟨by omega, fun o ho => ?_⟩
    obtain ⟨i, hi, rfl⟩ := List.getElem_of_mem ho
    have := h1 i hi
    rwa [getD_at hi] at this
  · rintro ⟨h1, h2⟩
    refine ⟨fun i hi => ?_, by omega⟩
    rw [getD_at hi]
    exact h2 _ (List.getElem_mem hi)
theorem free_iff {os given gave : List Int} : freeB os given gave = true ↔ ∀ f ∈ gave, os.getD f.toNat 0 = 0 ∧ f ∉ given := by
  unfold freeB
  simp only [List.all_eq_true, List.mem_range, Bool.and_eq_true, beq_iff_eq, Bool.not_eq_true']
  have hh : ∀ x, hasB given x = false ↔ x ∉ given := fun x => by
    rw [← hasB_iff]
    cases hasB given x <;> simp
  constructor
  · intro h f hf
    obtain ⟨i, hi, rfl⟩ := List.getElem_of_mem hf
    have := h i hi
    rw [getD_at hi, hh] at this
    exact this
  · intro h i hi
    rw [getD_at hi, hh]
    exact h _ (List.getElem_mem hi)
theorem good_iff {os : List Int} {xs : List Balloon} : goodB os xs = true ↔ GoodB os xs := by
  unfold goodB
  rw [Bool.and_eq_true, List.all_eq_true]
  have hok : ∀ i, (hi : i < xs.length) → (okBal os xs i = true ↔ (((1 ≤ xs[i].Guest ∧ xs[i].Guest ≤ 4) ∧ (0 ≤ xs[i].Goal ∧ xs[i].Goal ≤ 16)) ∧ riseB xs[i].Gave 0 ((os.length : Int) - 1) = true) ∧ (∀ h0 : 0 < i, (xs[i - 1]'(by omega)).Guest < xs[i].Guest) ∧ ∀ f ∈ xs[i].Gave, os.getD f.toNat 0 = 0 ∧ f ∉ givenB xs i) := by
    intro i hi
    unfold okBal inB
    rw [getD_at hi]
    simp only [Bool.and_eq_true, decide_eq_true_eq, Bool.not_eq_true', Bool.and_eq_false_iff, decide_eq_false_iff_not, free_iff]
    constructor
    · rintro ⟨⟨h1, h2, h3, h4⟩, h5⟩
      refine ⟨⟨⟨h1, h2⟩, h4⟩, fun h0 => ?_, h5⟩
      rw [getD_at (show i - 1 < xs.length by omega)] at h3
      rcases h3 with h3 | h3 <;> omega
    · rintro ⟨⟨⟨h1, h2⟩, h4⟩, h3, h5⟩
      refine ⟨⟨h1, h2, ?_, h4⟩, h5⟩
      by_cases h0 : (i : Int) > 0
      · right
        rw [getD_at (show i - 1 < xs.length by omega)]
        have := h3 (by omega)
        omega
      · exact Or.inl h0
  constructor
  · rintro ⟨h1, h2⟩
    have hall : ∀ i, (hi : i < xs.length) → _ := fun i hi => (hok i hi).1 (h2 i (List.mem_range.2 hi))
    refine ⟨h1, fun b hb => ?_, ?_, ?_⟩
    · obtain ⟨i, hi, rfl⟩ := List.getElem_of_mem hb
      have := hall i hi
      exact ⟨this.1.1, this.1.2, fun f hf => (this.2.2 f hf).1⟩
    · rw [List.pairwise_iff_getElem]
      intro i j
      induction j with
      | zero => intro _ _ h; omega
      | succ j ih =>
        intro hi hj hij
        have h3 := (hall (j + 1) hj).2.1 (by omega)
        simp only [Nat.add_sub_cancel] at h3
        by_cases hji : i = j
        · subst hji; exact h3
        · have := ih hi (by omega) (by omega)
          omega
    · rw [List.pairwise_iff_getElem]
      intro i j hi hj hij f hf hc
      refine ((hall j hj).2.2 f hc).2 ?_
      unfold givenB
      rw [List.mem_flatMap]
      refine ⟨xs[i], ?_, hf⟩
      rw [List.mem_take_iff_getElem]
      exact ⟨i, by omega, rfl⟩
  · intro h
    refine ⟨h.own, fun i hi => ?_⟩
    have hi := List.mem_range.1 hi
    have he := h.each _ (List.getElem_mem hi)
    refine (hok i hi).2 ⟨⟨he.1, he.2.1⟩, fun h0 => List.pairwise_iff_getElem.1 h.inc (i - 1) i (by omega) hi (by omega), fun f hf => ⟨he.2.2 f hf, fun hc => ?_⟩⟩
    unfold givenB at hc
    rw [List.mem_flatMap] at hc
    obtain ⟨b, hb, hfb⟩ := hc
    rw [List.mem_take_iff_getElem] at hb
    obtain ⟨j, hj, rfl⟩ := hb
    exact List.pairwise_iff_getElem.1 h.dis j i (by omega) hi (by omega) f hfb hf
theorem good_gave {os : List Int} {xs : List Balloon} (h : GoodB os xs) {b : Balloon} (hb : b ∈ xs) : b.Gave.length ≤ 16 := by
  have h1 := (owners_iff.1 h.own).1
  have := rise_len (h.each b hb).2.1 (by omega)
  omega
theorem good_len {os : List Int} {xs : List Balloon} (h : GoodB os xs) : xs.length ≤ 4 := by
  have key : ∀ i, (hi : i < xs.length) → (i : Int) + 1 ≤ xs[i].Guest := by
    intro i
    induction i with
    | zero => intro hi; have := (h.each _ (List.getElem_mem hi)).1.1; omega
    | succ i ih =>
      intro hi
      have h1 := ih (by omega)
      have h2 := List.pairwise_iff_getElem.1 h.inc i (i + 1) (by omega) hi (by omega)
      omega
  by_cases h0 : xs.length = 0
  · omega
  · have h1 := key (xs.length - 1) (by omega)
    have h2 := (h.each _ (List.getElem_mem (show xs.length - 1 < xs.length by omega))).1.1
    omega
theorem tot_le : ∀ {xs : List Balloon}, (∀ b ∈ xs, b.Gave.length ≤ 16) → tot xs ≤ 16 * xs.length
  | [], _ => by simp [tot]
  | x :: r, h => by
    have h1 := h x (by simp)
    have h2 := tot_le (xs := r) fun b hb => h b (by simp [hb])
    simp only [tot, List.length_cons]
    omega
theorem good_fit {os : List Int} {xs : List Balloon} (h : GoodB os xs) : fitB xs := by
  have h1 := good_len h
  have h2 := tot_le fun b hb => good_gave h hb
  exact ⟨by omega, by omega⟩
/-- One balloon changed, and its owners. -/
theorem good_set {os : List Int} {xs : List Balloon} (h : GoodB os xs) {i : Nat} (hi : i < xs.length) {os' : List Int} {goal : Int} {gave : List Int} (hl : os'.length = os.length) (ho : ∀ o ∈ os', 0 ≤ o ∧ o ≤ 4) (hg : 0 ≤ goal ∧ goal ≤ 16)
    (hr : riseB gave 0 ((os.length : Int) - 1) = true) (hz : ∀ f ∈ gave, os'.getD f.toNat 0 = 0) (hother : ∀ j, (hj : j < xs.length) → j ≠ i → ∀ f ∈ xs[j].Gave, os'.getD f.toNat 0 = 0 ∧ f ∉ gave) : GoodB os' (xs.set i ⟨xs[i].Guest, goal, gave⟩) := by
  have hown := owners_iff.1 h.own
  refine ⟨owners_iff.2 ⟨by omega, ho⟩, fun b hb => ?_, ?_, ?_⟩
  · rw [hl]
    obtain ⟨j, hj, rfl⟩ := List.getElem_of_mem hb
    rw [List.length_set] at hj
    rw [List.getElem_set]
    split
    · exact ⟨⟨(h.each _ (List.getElem_mem hi)).1.1, hg⟩, hr, hz⟩
    · rename_i hne
      have he := h.each _ (List.getElem_mem hj)
      exact ⟨he.1, he.2.1, fun f hf => (hother j hj (fun e => hne e.symm) f hf).1⟩
  · rw [List.pairwise_iff_getElem]
    intro j k hj hk hjk
    rw [List.length_set] at hj hk
    have := List.pairwise_iff_getElem.1 h.inc j k hj hk hjk
    rw [List.getElem_set, List.getElem_set]
    split
    · rename_i e; subst e
      rw [if_neg (by omega)]
      exact this
    · split
      · rename_i e; subst e
        exact this
      · exact this
  · rw [List.pairwise_iff_getElem]
    intro j k hj hk hjk
    rw [List.length_set] at hj hk
    have := List.pairwise_iff_getElem.1 h.dis j k hj hk hjk
    rw [List.getElem_set, List.getElem_set]
    split
    · rename_i e; subst e
      rw [if_neg (by omega)]
      intro f hf hc
      exact (hother k hk (by omega) f hc).2 hf
    · rename_i hne
      split
      · rename_i e; subst e
        intro f hf
        exact (hother j hj (by omega) f hf).2
      · exact this
theorem getD_setI (l : List Int) (i j : Nat) (v : Int) : (l.set i v).getD j 0 = if i = j ∧ j < l.length then v else l.getD j 0 := by
  simp only [List.getD_eq_getElem?_getD, List.getElem?_set]
  by_cases h : i = j
  · subst h
    by_cases h2 : i < l.length
    · simp [h2]
    · simp [h2]
  · simp [h]
theorem set_own {os : List Int} (h : ownersB os = true) (i : Nat) {v : Int} (hv : 0 ≤ v ∧ v ≤ 4) : ∀ o ∈ os.set i v, 0 ≤ o ∧ o ≤ 4 := fun o ho => by
  rcases List.mem_or_eq_of_mem_set ho with ho | ho
  · exact (owners_iff.1 h).2 o ho
  · exact ho ▸ hv
/-! a frame given back, or taken for another guest -/
theorem cons_drop : ∀ {l : List Int} (h : 0 < l.length), l = l[0] :: l.drop 1
  | [], h => by simp at h
  | a :: r, _ => by simp
theorem good_tail {os : List Int} {xs : List Balloon} (h : GoodB os xs) {i : Nat} (hi : i < xs.length) (h0 : 0 < xs[i].Gave.length) {v : Int} (hv : 0 ≤ v ∧ v ≤ 4) : GoodB (os.set (xs[i].Gave.getD 0 0).toNat v) (xs.set i ⟨xs[i].Guest, xs[i].Goal, xs[i].Gave.drop 1⟩) := by
  have he := h.each _ (List.getElem_mem hi)
  have hr := rise_iff.1 he.2.1
  rw [getD_at h0]
  have h00 := hr.2 _ (List.getElem_mem h0)
  have hsplit := cons_drop h0
  have hpc : (xs[i].Gave[0] :: xs[i].Gave.drop 1).Pairwise (· < ·) := hsplit ▸ hr.1
  rw [List.pairwise_cons] at hpc
  have hmem : ∀ f ∈ xs[i].Gave.drop 1, f ∈ xs[i].Gave := fun f hf => List.mem_of_mem_drop hf
  have hne : ∀ f, 0 ≤ f → f ≠ xs[i].Gave[0] → os.getD f.toNat 0 = 0 → (os.set xs[i].Gave[0].toNat v).getD f.toNat 0 = 0 := fun f hf hne hz => by
    rw [getD_setI, if_neg (by omega)]
    exact hz
  refine good_set h hi (by simp) (set_own h.own _ hv) he.1.2 (rise_iff.2 ⟨hpc.2, fun f hf => hr.2 f (hmem f hf)⟩) (fun f hf => ?_) (fun j hj hji f hf => ?_)
  · have := hpc.1 f hf
    exact hne f (hr.2 f (hmem f hf)).1 (by omega) (he.2.2 f (hmem f hf))
  · have hej := h.each _ (List.getElem_mem hj)
    have hnot : f ∉ xs[i].Gave := by
      rcases Nat.lt_or_gt_of_ne hji with hlt | hlt
      · exact List.pairwise_iff_getElem.1 h.dis j i hj hi hlt f hf
      · exact fun hc => List.pairwise_iff_getElem.1 h.dis i j hi hj hlt f hc hf
    refine ⟨hne f ((rise_iff.1 hej.2.1).2 f hf).1 (fun e => hnot (e ▸ List.getElem_mem h0)) (hej.2.2 f hf), fun hc => hnot (hmem f hc)⟩
/-! numbers put to their place -/
def putI : List Int → Int → List Int
  | [], x => [x]
  | a :: r, x => if a < x then a :: putI r x else x :: a :: r
theorem putI_eq : ∀ (l : List Int) (x : Int), putI l x = l.take (l.takeWhile (fun y => decide (y < x))).length ++ [x] ++ l.drop (l.takeWhile (fun y => decide (y < x))).length
  | [], x => by simp [putI]
  | a :: r, x => by
    unfold putI
    by_cases h : a < x
    · simp only [h, if_true, List.takeWhile_cons, decide_true, List.length_cons, List.take_succ_cons, List.drop_succ_cons, List.cons_append]
      rw [putI_eq r x, List.append_assoc]
    · simp only [h, if_false, List.takeWhile_cons, decide_false]
      simp
theorem putI_perm : ∀ (l : List Int) (x : Int), (putI l x).Perm (x :: l)
  | [], x => List.Perm.refl _
  | a :: r, x => by
    unfold putI
    by_cases h : a < x
    · simp only [h, if_true]
      exact ((putI_perm r x).cons a).trans (List.Perm.swap x a r)
    · simp only [h, if_false]
      exact List.Perm.refl _
theorem putI_rise : ∀ {l : List Int} {x : Int}, l.Pairwise (· < ·) → x ∉ l → (putI l x).Pairwise (· < ·)
  | [], x, _, _ => by simp [putI]
  | a :: r, x, h, hx => by
    unfold putI
    rw [List.pairwise_cons] at h
    have hxa : x ≠ a := fun e => hx (by simp [e])
    by_cases ha : a < x
    · simp only [ha, if_true]
      rw [List.pairwise_cons]
      refine ⟨fun b hb => ?_, putI_rise h.2 fun hc => hx (by simp [hc])⟩
      rcases List.mem_cons.1 ((putI_perm r x).mem_iff.1 hb) with rfl | hb
      · exact ha
      · exact h.1 b hb
    · simp only [ha, if_false]
      rw [List.pairwise_cons, List.pairwise_cons]
      refine ⟨fun b hb => ?_, h.1, h.2⟩
      rcases List.mem_cons.1 hb with rfl | hb
      · omega
      · have := h.1 b hb
        omega
theorem sort_put {l : List Int} {x : Int} (h : l.Pairwise (· < ·)) (hx : x ∉ l) : gxSortI (l ++ [x]) = putI l x := by
  unfold gxSortI
  have hs : ((l ++ [x]).mergeSort fun x y => decide (x ≤ y)).Pairwise fun x y => decide (x ≤ y) = true := List.pairwise_mergeSort (fun a b c h1 h2 => by
    rw [decide_eq_true_eq] at *
    omega) (fun a b => by
    rw [Bool.or_eq_true, decide_eq_true_eq, decide_eq_true_eq]
    omega) _
  refine List.Perm.eq_of_pairwise (le := fun x y => decide (x ≤ y) = true) (fun x y _ _ h1 h2 => by
    rw [decide_eq_true_eq] at *
    omega) hs ((putI_rise h hx).imp fun h => by rw [decide_eq_true_eq]; omega) ?_
  exact (List.mergeSort_perm _ _).trans ((List.perm_append_comm (l₁ := l) (l₂ := [x])).trans (putI_perm l x).symm)
theorem s_putI (l : List Int) (x : Int) (hl : l.length ≤ 1048576) (hx : x ∉ l) : M.s_l1Put l x = some (putI l x) := by
  unfold M.s_l1Put
  have hk : (l.takeWhile (fun y => decide (y < x))).length ≤ l.length := (List.takeWhile_prefix _).length_le
  rw [while_place (xs := l) (fun y => decide (y < x)) (by omega)]
  · have hno : (bif decide (((l.takeWhile (fun y => decide (y < x))).length : Int) < (l.length : Int)) then (Option.bind (gxIdx l ((l.takeWhile (fun y => decide (y < x))).length : Int)) fun y2907 => some (y2907 == x)) else some false) = some false := by
      by_cases hlt : (l.takeWhile (fun y => decide (y < x))).length < l.length
      · have e1 : (((l.takeWhile (fun y => decide (y < x))).length : Int) < (l.length : Int)) := by omega
        simp only [e1, decide_true, cond_true, gxIdx_nat hlt, Option.bind_some]
        have : (l[(l.takeWhile (fun y => decide (y < x))).length] == x) = false := by
          rw [beq_eq_false_iff_ne]
          exact fun e => hx (e ▸ List.getElem_mem hlt)
        rw [this]
      · have e1 : ¬ (((l.takeWhile (fun y => decide (y < x))).length : Int) < (l.length : Int)) := by omega
        simp only [e1, decide_false, cond_false]
    simp only [Option.bind_some]
    rw [hno]
    simp only [Option.bind_some, cond_false, gxSlice_take hk, gxSlice_drop hk]
    rw [gxApp_ok (by simp; omega), Option.bind_some, gxApp_ok (by simp; omega), Option.bind_some, gxApp_ok (by simp; omega), Option.bind_some]
    rw [List.nil_append, putI_eq]
  · intro i hi
    have e0 : ((i : Int) < (l.length : Int)) := by omega
    simp only [e0, decide_true, cond_true, gxIdx_nat hi, Option.bind_some]
    cases decide (l[i] < x) <;> rfl
  · simp
/-! the frames of a guest, and the last of them -/
def frs (os : List Int) (g : Int) (n : Nat) : List Int := ((List.range n).filter fun i => os.getD i 0 == g).map fun (i : Nat) => (i : Int)
theorem frs_succ (os : List Int) (g : Int) (n : Nat) : frs os g (n + 1) = bif os.getD n 0 == g then frs os g n ++ [(n : Int)] else frs os g n := by
  unfold frs
  rw [List.range_succ, List.filter_append, List.map_append]
  cases h : (os.getD n 0 == g) with
  | false => rw [List.filter_cons_of_neg (by rw [h]; simp)]; simp
  | true => rw [List.filter_cons_of_pos (by exact h)]; simp
theorem frs_len (os : List Int) (g : Int) (n : Nat) : (frs os g n).length = cntN os g n := by simp [frs, cntN]
theorem i_framesL (os : List Int) (g : Int) (h : os.length ≤ 1048576) : M.i_framesOf os g = some (frs os g os.length) := by
  unfold M.i_framesOf
  rw [while_run (fun i => (frs os g i, (i : Int))) (frs os g os.length) os.length (by simp [frs]) (by omega)]
  · rfl
  · intro i hi
    have e0 : ((i : Int) < (os.length : Int)) := by omega
    have hle : (frs os g i).length ≤ i := by rw [frs_len]; exact cntN_le os g i
    simp only [e0, decide_true, cond_true, gxIdx_nat hi, Option.bind_some, frs_succ, getD_at hi, w64_succ (show i ≤ 4611686018427387904 by omega)]
    cases (os[i] == g) with
    | false => rfl
    | true =>
      simp only [cond_true]
      rw [gxApp_ok (by simp; omega)]
      rfl
  · simp
/-- The last frame of a guest. -/
theorem last_frame (os : List Int) (g : Int) : ∀ n, n ≤ os.length → 0 < cntN os g n → ∃ k, k < n ∧ gxIdx (frs os g n) ((cntN os g n : Int) - 1) = some (k : Int) ∧ os.getD k 0 = g ∧ ∀ j, k < j → j < n → os.getD j 0 ≠ g
  | 0, _, h => by simp [cntN] at h
  | n + 1, hn, h => by
    rw [cntN_succ] at h
    rw [frs_succ, cntN_succ]
    cases hc : (os.getD n 0 == g) with
    | true =>
      simp only [cond_true]
      have hl := frs_len os g n
      refine ⟨n, by omega, ?_, by simpa using hc, fun j h1 h2 => by omega⟩
      have e : (((cntN os g n + 1 : Nat) : Int) - 1) = ((cntN os g n : Nat) : Int) := by omega
      rw [e, gxIdx_nat (show cntN os g n < (frs os g n ++ [(n : Int)]).length by simp; omega), List.getElem_append_right (by omega)]
      simp
    | false =>
      rw [hc] at h
      simp only [cond_false, Nat.add_zero] at h ⊢
      obtain ⟨k, h1, h2, h3, h4⟩ := last_frame os g n (by omega) h
      refine ⟨k, by omega, h2, h3, fun j hj hjn => ?_⟩
      by_cases hjn2 : j = n
      · subst hjn2
        intro e
        rw [e] at hc
        simp at hc
      · exact h4 j hj (by omega)
def lastF (os : List Int) (g : Int) : Int := ((frs os g os.length).getD (cntN os g os.length - 1) 0)
theorem lastF_spec {os : List Int} {g : Int} (h : 0 < cntN os g os.length) : ∃ k, k < os.length ∧ lastF os g = (k : Int) ∧ gxIdx (frs os g os.length) ((cntN os g os.length : Int) - 1) = some (k : Int) ∧ os.getD k 0 = g ∧ ∀ j, k < j → j < os.length → os.getD j 0 ≠ g := by
  obtain ⟨k, h1, h2, h3, h4⟩ := last_frame os g os.length (Nat.le_refl _) h
  refine ⟨k, h1, ?_, h2, h3, h4⟩
  have hl := frs_len os g os.length
  have e : ((cntN os g os.length : Int) - 1) = ((cntN os g os.length - 1 : Nat) : Int) := by omega
  rw [e, gxIdx_nat (by omega)] at h2
  unfold lastF
  rw [getD_at (show cntN os g os.length - 1 < (frs os g os.length).length by omega)]
  exact Option.some.inj h2
theorem s_last {os : List Int} {g : Int} (h : 0 < cntN os g os.length) (hl : os.length ≤ 1048576) : whileM (σ := Int) (ρ := Int) (fun s8351 =>
    Option.bind (gxIdx os s8351) fun y8362 =>
    bif y8362 != g then some (.inl (w64 (s8351 - 1)))
    else some (.inr s8351)) gxFuel (w64 ((os.length : Int) - 1)) = some (lastF os g) := by
  obtain ⟨k, hk, he, _, h3, h4⟩ := lastF_spec h
  rw [he, w64_id (by omega) (by omega)]
  rw [while_run (fun j => ((os.length : Int) - 1 - (j : Int))) (k : Int) (os.length - 1 - k) (by simp) (by omega)]
  · intro j hj
    have e : ((os.length : Int) - 1 - (j : Int)) = ((os.length - 1 - j : Nat) : Int) := by omega
    have hlt : os.length - 1 - j < os.length := by omega
    have hne := h4 (os.length - 1 - j) (by omega) hlt
    rw [getD_at hlt] at hne
    have hb : (os[os.length - 1 - j] != g) = true := by simpa [bne] using hne
    simp only [e, gxIdx_nat hlt, Option.bind_some, hb, cond_true]
    rw [w64_id (by omega) (by omega)]
    congr 2
    omega
  · have e : ((os.length : Int) - 1 - ((os.length - 1 - k : Nat) : Int)) = (k : Int) := by omega
    have hb : (os[k] != g) = false := by
      rw [getD_at hk] at h3
      simp [h3]
    simp only [e, gxIdx_nat hk, Option.bind_some, hb, cond_false]
/-! the steps -/
theorem good_inflate {os : List Int} {xs : List Balloon} (h : GoodB os xs) {i : Nat} (hi : i < xs.length) (hc : 0 < cntN os xs[i].Guest os.length) : lastF os xs[i].Guest ∉ xs[i].Gave ∧ GoodB (os.set (lastF os xs[i].Guest).toNat 0) (xs.set i ⟨xs[i].Guest, xs[i].Goal, putI xs[i].Gave (lastF os xs[i].Guest)⟩) := by
  obtain ⟨k, hk, he, _, h3, _⟩ := lastF_spec hc
  have hei := h.each _ (List.getElem_mem hi)
  have hr := rise_iff.1 hei.2.1
  have hnz : ∀ b ∈ xs, (k : Int) ∉ b.Gave := fun b hb hm => by
    have := (h.each b hb).2.2 _ hm
    rw [Int.toNat_natCast, h3] at this
    have := hei.1.1
    omega
  have hz0 : ∀ f : Int, os.getD f.toNat 0 = 0 → (os.set k 0).getD f.toNat 0 = 0 := fun f hf => by
    rw [getD_setI]
    split
    · rfl
    · exact hf
  rw [he, Int.toNat_natCast]
  have hn := hnz _ (List.getElem_mem hi)
  have hm : ∀ f, f ∈ putI xs[i].Gave (k : Int) ↔ f = (k : Int) ∨ f ∈ xs[i].Gave := fun f => by rw [(putI_perm _ _).mem_iff]; simp
  refine ⟨hn, good_set h hi (by simp) (set_own h.own _ (by omega)) hei.1.2 (rise_iff.2 ⟨putI_rise hr.1 hn, fun f hf => ?_⟩) (fun f hf => ?_) (fun j hj hji f hf => ?_)⟩
  · rcases (hm f).1 hf with rfl | hf
    · omega
    · exact hr.2 f hf
  · rcases (hm f).1 hf with rfl | hf
    · rw [Int.toNat_natCast, getD_setI, if_pos ⟨rfl, hk⟩]
    · exact hz0 f (hei.2.2 f hf)
  · have hej := h.each _ (List.getElem_mem hj)
    refine ⟨hz0 f (hej.2.2 f hf), fun hc => ?_⟩
    rcases (hm f).1 hc with rfl | hc
    · exact hnz _ (List.getElem_mem hj) hf
    · rcases Nat.lt_or_gt_of_ne hji with hlt | hlt
      · exact List.pairwise_iff_getElem.1 h.dis j i hj hi hlt f hf hc
      · exact List.pairwise_iff_getElem.1 h.dis i j hi hj hlt f hc hf
theorem s_owner (os : List Int) (f v : Int) (ho : os.length ≤ 1048576) (h0 : 0 ≤ f) (h1 : f < os.length) : M.s_l18Owner os f v = some (os.set f.toNat v) := by
  unfold M.s_l18Owner
  obtain ⟨k, rfl⟩ : ∃ n : Nat, f = n := ⟨f.toNat, by omega⟩
  rw [s_own os ho, Option.bind_some, gxIdx_nat (by omega)]
  rfl
def canD (xs : List Balloon) (i : Nat) : Bool := decide (((xs.getD i gB).Gave.length : Int) > (xs.getD i gB).Goal)
def defO (os : List Int) (xs : List Balloon) (i : Nat) : List Int := os.set ((xs.getD i gB).Gave.getD 0 0).toNat (xs.getD i gB).Guest
def defX (xs : List Balloon) (i : Nat) : List Balloon := xs.set i ⟨(xs.getD i gB).Guest, (xs.getD i gB).Goal, (xs.getD i gB).Gave.drop 1⟩
def canI (os : List Int) (xs : List Balloon) (i : Nat) : Bool := decide (((xs.getD i gB).Gave.length : Int) < (xs.getD i gB).Goal) && decide (2 ≤ cntN os (xs.getD i gB).Guest os.length)
def infO (os : List Int) (xs : List Balloon) (i : Nat) : List Int := os.set (lastF os (xs.getD i gB).Guest).toNat 0
def infX (os : List Int) (xs : List Balloon) (i : Nat) : List Balloon := xs.set i ⟨(xs.getD i gB).Guest, (xs.getD i gB).Goal, putI (xs.getD i gB).Gave (lastF os (xs.getD i gB).Guest)⟩
theorem gxSlice_tail {α : Type} {xs : List α} (h : 0 < xs.length) : gxSlice xs 1 (xs.length : Int) = some (xs.drop 1) := gxSlice_drop (k := 1) h
theorem s_down {os : List Int} {xs : List Balloon} (h : GoodB os xs) {i : Nat} (hi : i < xs.length) : M.s_l18Step os xs (i : Int) (-1) = some (bif canD xs i then (defO os xs i, defX xs i, true) else (os, xs, false)) := by
  unfold M.s_l18Step canD defO defX
  rw [getD_at hi, gxIdx_nat hi, Option.bind_some]
  have he := h.each _ (List.getElem_mem hi)
  have hf := good_fit h
  have hol := (owners_iff.1 h.own).1
  have hgl := good_gave h (List.getElem_mem hi)
  have em : ((-1 : Int) < 0) := by omega
  simp only [em, decide_true, cond_true]
  by_cases hc : ((xs[i].Gave.length : Int) ≤ xs[i].Goal)
  · have : ¬ ((xs[i].Gave.length : Int) > xs[i].Goal) := by omega
    simp only [hc, this, decide_true, decide_false, cond_true, cond_false]
  · have hgt : ((xs[i].Gave.length : Int) > xs[i].Goal) := by omega
    have h0 : 0 < xs[i].Gave.length := by omega
    have hb := (rise_iff.1 he.2.1).2 _ (List.getElem_mem h0)
    have hg0 : gxIdx xs[i].Gave 0 = some xs[i].Gave[0] := gxIdx_nat h0
    simp only [hc, hgt, decide_true, decide_false, cond_true, cond_false, hg0, Option.bind_some, getD_at h0, s_owner os xs[i].Gave[0] xs[i].Guest (by omega) hb.1 (by omega), gxSlice_tail h0, s_with xs (i : Int) xs[i].Goal (xs[i].Gave.drop 1) hf (by simp; omega), with_set xs hi]
theorem i_down {os : List Int} {xs : List Balloon} (h : GoodB os xs) {i : Nat} (hi : i < xs.length) : M.i_deflate__e1 os xs (i : Int) = some (bif canD xs i then (true, defO os xs i, defX xs i) else (false, os, xs)) := by
  unfold M.i_deflate__e1 canD defO defX
  rw [getD_at hi, gxIdx_nat hi, Option.bind_some]
  have he := h.each _ (List.getElem_mem hi)
  have hol := (owners_iff.1 h.own).1
  by_cases hc : ((xs[i].Gave.length : Int) ≤ xs[i].Goal)
  · have : ¬ ((xs[i].Gave.length : Int) > xs[i].Goal) := by omega
    simp only [hc, this, decide_true, decide_false, cond_true, cond_false]
  · have hgt : ((xs[i].Gave.length : Int) > xs[i].Goal) := by omega
    have h0 : 0 < xs[i].Gave.length := by omega
    have hb := (rise_iff.1 he.2.1).2 _ (List.getElem_mem h0)
    have hg0 : gxIdx xs[i].Gave 0 = some xs[i].Gave[0] := gxIdx_nat h0
    obtain ⟨k, hk⟩ : ∃ n : Nat, xs[i].Gave[0] = n := ⟨xs[i].Gave[0].toNat, by omega⟩
    have hko : k < os.length := by omega
    simp only [hc, hgt, decide_true, decide_false, cond_true, cond_false, hg0, Option.bind_some, getD_at h0, hk, gxIdx_nat hko, Int.toNat_natCast, gxSlice_tail h0]
theorem s_up {os : List Int} {xs : List Balloon} (h : GoodB os xs) {i : Nat} (hi : i < xs.length) : M.s_l18Step os xs (i : Int) 1 = some (bif canI os xs i then (infO os xs i, infX os xs i, true) else (os, xs, false)) := by
  unfold M.s_l18Step canI infO infX
  rw [getD_at hi, gxIdx_nat hi, Option.bind_some]
  have he := h.each _ (List.getElem_mem hi)
  have hf := good_fit h
  have hol := (owners_iff.1 h.own).1
  have hgl := good_gave h (List.getElem_mem hi)
  have em : ¬ ((1 : Int) < 0) := by omega
  simp only [em, decide_false, cond_false, s_count os xs[i].Guest (show os.length ≤ 1048576 by omega), Option.bind_some]
  by_cases hc : ((xs[i].Gave.length : Int) ≥ xs[i].Goal)
  · have : ¬ ((xs[i].Gave.length : Int) < xs[i].Goal) := by omega
    simp only [hc, this, decide_true, decide_false, cond_true, cond_false, Option.bind_some, Bool.false_and]
  · have hlt : ((xs[i].Gave.length : Int) < xs[i].Goal) := by omega
    by_cases h2 : 2 ≤ cntN os xs[i].Guest os.length
    · have h2' : ¬ ((cntN os xs[i].Guest os.length : Int) < 2) := by omega
      have hcn : 0 < cntN os xs[i].Guest os.length := by omega
      obtain ⟨k, hk, hek, _⟩ := lastF_spec hcn
      have hn := (good_inflate h hi hcn).1
      have hso := s_owner os (lastF os xs[i].Guest) 0 (by omega) (by omega) (by omega)
      have hpl : (putI xs[i].Gave (lastF os xs[i].Guest)).length ≤ 1048576 := by
        rw [(putI_perm _ _).length_eq, List.length_cons]
        omega
      simp only [hc, hlt, h2, h2', decide_true, decide_false, cond_true, cond_false, Option.bind_some, Bool.true_and]
      rw [s_last hcn (by omega)]
      simp only [Option.bind_some, hso, s_own xs[i].Gave (by omega), s_putI xs[i].Gave _ (by omega) hn, s_with xs (i : Int) xs[i].Goal _ hf hpl, with_set xs hi]
    · have h2' : ((cntN os xs[i].Guest os.length : Int) < 2) := by omega
      simp only [hc, hlt, h2, h2', decide_true, decide_false, cond_true, cond_false, Option.bind_some, Bool.and_false]
theorem i_up {os : List Int} {xs : List Balloon} (h : GoodB os xs) {i : Nat} (hi : i < xs.length) : M.i_inflate__e1 os xs (i : Int) = some (bif canI os xs i then (true, infO os xs i, infX os xs i) else (false, os, xs)) := by
  unfold M.i_inflate__e1 canI infO infX
  rw [getD_at hi, gxIdx_nat hi, Option.bind_some]
  have he := h.each _ (List.getElem_mem hi)
  have hol := (owners_iff.1 h.own).1
  have hgl := good_gave h (List.getElem_mem hi)
  have hfl := frs_len os xs[i].Guest os.length
  simp only [i_framesL os xs[i].Guest (show os.length ≤ 1048576 by omega), Option.bind_some, hfl]
  by_cases hc : ((xs[i].Gave.length : Int) ≥ xs[i].Goal)
  · have : ¬ ((xs[i].Gave.length : Int) < xs[i].Goal) := by omega
    simp only [hc, this, decide_true, decide_false, cond_true, cond_false, Option.bind_some, Bool.false_and]
  · have hlt : ((xs[i].Gave.length : Int) < xs[i].Goal) := by omega
    by_cases h2 : 2 ≤ cntN os xs[i].Guest os.length
    · have h2' : ¬ ((cntN os xs[i].Guest os.length : Int) < 2) := by omega
      have hcn : 0 < cntN os xs[i].Guest os.length := by omega
      obtain ⟨k, hk, hek, hix, _⟩ := lastF_spec hcn
      have hn := (good_inflate h hi hcn).1
      have hcl := cntN_le os xs[i].Guest os.length
      have hw : w64 ((cntN os xs[i].Guest os.length : Int) - 1) = (cntN os xs[i].Guest os.length : Int) - 1 := w64_id (by omega) (by omega)
      have hr := (rise_iff.1 he.2.1).1
      rw [hek] at hn ⊢
      have hso : M.slices_Sort_88 (xs[i].Gave ++ [(k : Int)]) = some (putI xs[i].Gave (k : Int)) := by
        unfold M.slices_Sort_88
        rw [decide_eq_true (show (xs[i].Gave ++ [(k : Int)]).length < 4611686018427387904 by simp; omega), sort_put hr hn]
        rfl
      simp only [hc, hlt, h2, h2', decide_true, decide_false, cond_true, cond_false, Option.bind_some, Bool.true_and, hw, hix, gxIdx_nat hk]
      rw [gxApp_ok (by simp; omega), Option.bind_some]
      simp only [hso, Option.bind_some, Int.toNat_natCast, List.set_set]
    · have h2' : ((cntN os xs[i].Guest os.length : Int) < 2) := by omega
      simp only [hc, hlt, h2, h2', decide_true, decide_false, cond_true, cond_false, Option.bind_some, Bool.and_false]
theorem good_down {os : List Int} {xs : List Balloon} (h : GoodB os xs) {i : Nat} (hi : i < xs.length) (hc : canD xs i = true) : GoodB (defO os xs i) (defX xs i) := by
  unfold canD at hc
  unfold defO defX
  rw [getD_at hi] at hc ⊢
  have he := h.each _ (List.getElem_mem hi)
  rw [decide_eq_true_eq] at hc
  exact good_tail h hi (by omega) (by omega)
theorem good_up {os : List Int} {xs : List Balloon} (h : GoodB os xs) {i : Nat} (hi : i < xs.length) (hc : canI os xs i = true) : GoodB (infO os xs i) (infX os xs i) := by
  unfold canI at hc
  unfold infO infX
  rw [getD_at hi] at hc ⊢
  simp only [Bool.and_eq_true, decide_eq_true_eq] at hc
  exact (good_inflate h hi (by omega)).2
def offB (os : List Int) (xs : List Balloon) (g : Int) : Bool := goodB os xs && decide (findB xs g ≥ 0)
def inflB (os : List Int) (xs : List Balloon) (g : Int) : List Int × List Balloon × Bool := bif offB os xs g && canI os xs (findB xs g).toNat then (infO os xs (findB xs g).toNat, infX os xs (findB xs g).toNat, true) else ([], [], false)
def deflB (os : List Int) (xs : List Balloon) (g : Int) : List Int × List Balloon × Bool := bif offB os xs g && canD xs (findB xs g).toNat then (defO os xs (findB xs g).toNat, defX xs (findB xs g).toNat, true) else ([], [], false)
theorem off_at {os : List Int} {xs : List Balloon} {g : Int} (h : offB os xs g = true) : GoodB os xs ∧ ∃ i : Nat, findB xs g = (i : Int) ∧ i < xs.length := by
  unfold offB at h
  rw [Bool.and_eq_true, decide_eq_true_eq] at h
  exact ⟨good_iff.1 h.1, findB_lt (by omega)⟩
theorem s_inflB (os : List Int) (xs : List Balloon) (g : Int) (ho : os.length ≤ 1048576) (hf : fitB xs) : M.s_Inflate os xs g = some (inflB os xs g) := by
  unfold M.s_Inflate inflB
  simp only [s_findB xs g hf.1, s_goodB os xs ho hf, Option.bind_some]
  have hoff : (bif goodB os xs then some (decide (findB xs g ≥ 0)) else some false) = some (offB os xs g) := by
    unfold offB
    cases goodB os xs <;> rfl
  rw [hoff, Option.bind_some]
  cases h : offB os xs g with
  | false => rfl
  | true =>
    obtain ⟨hg, i, hi, hlt⟩ := off_at h
    simp only [cond_true, hi, s_up hg hlt, Option.bind_some, Int.toNat_natCast, Bool.true_and]
    cases canI os xs i <;> rfl
theorem s_deflB (os : List Int) (xs : List Balloon) (g : Int) (ho : os.length ≤ 1048576) (hf : fitB xs) : M.s_Deflate os xs g = some (deflB os xs g) := by
  unfold M.s_Deflate deflB
  simp only [s_findB xs g hf.1, s_goodB os xs ho hf, Option.bind_some]
  have hoff : (bif goodB os xs then some (decide (findB xs g ≥ 0)) else some false) = some (offB os xs g) := by
    unfold offB
    cases goodB os xs <;> rfl
  rw [hoff, Option.bind_some]
  cases h : offB os xs g with
  | false => rfl
  | true =>
    obtain ⟨hg, i, hi, hlt⟩ := off_at h
    simp only [cond_true, hi, s_down hg hlt, Option.bind_some, Int.toNat_natCast, Bool.true_and]
    cases canD xs i <;> rfl
theorem i_inflB (os : List Int) (xs : List Balloon) (g : Int) (ho : os.length ≤ 1048576) (hf : fitB xs) : M.i_Inflate os xs g = some (inflB os xs g) := by
  unfold M.i_Inflate inflB
  rw [i_balloonOf_ok os xs g ho hf, Option.bind_some]
  show (bif !(offB os xs g) then _ else _) = _
  cases h : offB os xs g with
  | false => rfl
  | true =>
    obtain ⟨hg, i, hi, hlt⟩ := off_at h
    simp only [Bool.not_true, cond_false, i_copy os ho, i_newB xs hf, hi, gxIdx_nat hlt, i_up hg hlt, Option.bind_some, Int.toNat_natCast, Bool.true_and]
    cases canI os xs i <;> rfl
theorem i_deflB (os : List Int) (xs : List Balloon) (g : Int) (ho : os.length ≤ 1048576) (hf : fitB xs) : M.i_Deflate os xs g = some (deflB os xs g) := by
  unfold M.i_Deflate deflB
  rw [i_balloonOf_ok os xs g ho hf, Option.bind_some]
  show (bif !(offB os xs g) then _ else _) = _
  cases h : offB os xs g with
  | false => rfl
  | true =>
    obtain ⟨hg, i, hi, hlt⟩ := off_at h
    simp only [Bool.not_true, cond_false, i_copy os ho, i_newB xs hf, hi, gxIdx_nat hlt, i_down hg hlt, Option.bind_some, Int.toNat_natCast, Bool.true_and]
    cases canD xs i <;> rfl
theorem fit_nil : fitB ([] : List Balloon) := by simp [fitB, tot]
theorem inflB_fit (os : List Int) (xs : List Balloon) (g : Int) : (inflB os xs g).1.length ≤ 1048576 ∧ fitB (inflB os xs g).2.1 := by
  unfold inflB
  cases h : offB os xs g && canI os xs (findB xs g).toNat with
  | false => exact ⟨by simp, fit_nil⟩
  | true =>
    rw [Bool.and_eq_true] at h
    obtain ⟨hg, i, hi, hlt⟩ := off_at h.1
    rw [hi, Int.toNat_natCast] at h ⊢
    have hu := good_up hg hlt h.2
    have := (owners_iff.1 hu.own).1
    exact ⟨by simp only [cond_true]; omega, good_fit hu⟩
theorem deflB_fit (os : List Int) (xs : List Balloon) (g : Int) : (deflB os xs g).1.length ≤ 1048576 ∧ fitB (deflB os xs g).2.1 := by
  unfold deflB
  cases h : offB os xs g && canD xs (findB xs g).toNat with
  | false => exact ⟨by simp, fit_nil⟩
  | true =>
    rw [Bool.and_eq_true] at h
    obtain ⟨hg, i, hi, hlt⟩ := off_at h.1
    rw [hi, Int.toNat_natCast] at h ⊢
    have hu := good_down hg hlt h.2
    have := (owners_iff.1 hu.own).1
    exact ⟨by simp only [cond_true]; omega, good_fit hu⟩
theorem Inflate_eq (os : List Int) (xs : List Balloon) (g : Int) (ho : (os.length : Int) ≤ 1048576) (hf : fitB xs) : ∃ r, M.s_Inflate os xs g = some r ∧ M.i_Inflate os xs g = some r ∧ r.1.length ≤ 1048576 ∧ fitB r.2.1 :=
  ⟨_, s_inflB os xs g (by omega) hf, i_inflB os xs g (by omega) hf, inflB_fit os xs g⟩
theorem Deflate_eq (os : List Int) (xs : List Balloon) (g : Int) (ho : (os.length : Int) ≤ 1048576) (hf : fitB xs) : ∃ r, M.s_Deflate os xs g = some r ∧ M.i_Deflate os xs g = some r ∧ r.1.length ≤ 1048576 ∧ fitB r.2.1 :=
  ⟨_, s_deflB os xs g (by omega) hf, i_deflB os xs g (by omega) hf, deflB_fit os xs g⟩
end Go.Proofs.Ytlfligjpmodefaa
