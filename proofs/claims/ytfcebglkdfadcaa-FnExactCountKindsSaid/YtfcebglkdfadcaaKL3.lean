/- Plain laws of the models: no program in sight. -/
import Derived.Test.YtfcebglkdfadcaaKM
import Derived.Test.YtfcebglkdfadcaaKL2
set_option linter.unusedVariables false
set_option linter.unusedSimpArgs false
set_option maxHeartbeats 4000000
namespace Go.Proofs.Ytfcebglkdfadcaa
open Go.Gx
/-! ### Texts in order -/
def ky (s : ByteArray) : List UInt8 := s.data.toList
theorem ky_toList (s : ByteArray) : s.toList = ky s := ByteArray.toList_eq s
theorem ky_inj {a b : ByteArray} (h : ky a = ky b) : a = b := by
  cases a with
  | mk a => cases b with
    | mk b =>
      unfold ky at h
      simp only at h
      rw [Array.toList_inj.1 h]
theorem ky_mk (l : List UInt8) : ky ⟨l.toArray⟩ = l := rfl
theorem bytesLess_lt : ∀ (x y : List UInt8), Op.bytesLess x y = decide (x < y)
  | [], [] => by simp [Op.bytesLess]
  | _ :: _, [] => by simp [Op.bytesLess]
  | [], _ :: _ => by simp [Op.bytesLess]
  | a :: x, b :: y => by
    rw [Op.bytesLess, bytesLess_lt x y]
    simp only [List.cons_lt_cons_iff]
    by_cases h1 : a < b <;> by_cases h2 : a = b <;> by_cases h3 : x < y <;> simp [h1, h2, h3]
def ltK (a b : ByteArray) : Prop := ky a < ky b
theorem ltK_irr (a : ByteArray) : ¬ ltK a a := List.lt_irrefl _
theorem ltK_trans {a b c : ByteArray} (h1 : ltK a b) (h2 : ltK b c) : ltK a c := List.lt_trans h1 h2
theorem ltK_tri {a b : ByteArray} (h1 : ¬ ltK a b) (h2 : a ≠ b) : ltK b a := by
  by_cases h3 : ltK b a
  · exact h3
  · exact absurd (ky_inj (List.le_antisymm (List.not_lt.1 h3) (List.not_lt.1 h1))) h2
theorem less_dec (a b : ByteArray) : Op.bytesLess a.toList b.toList = true ↔ ltK a b := by
  rw [ky_toList, ky_toList, bytesLess_lt, decide_eq_true_eq]
  rfl
theorem same_dec (a b : ByteArray) : (a.toList == b.toList) = true ↔ a = b := by
  rw [ky_toList, ky_toList, beq_iff_eq]
  exact ⟨ky_inj, fun h => by rw [h]⟩
theorem strict_uniq : ∀ {A B : List ByteArray}, A.Pairwise ltK → B.Pairwise ltK → (∀ x, x ∈ A ↔ x ∈ B) → A = B
  | [], [], _, _, _ => rfl
  | [], b :: B, _, _, h => absurd ((h b).2 List.mem_cons_self) List.not_mem_nil
  | a :: A, [], _, _, h => absurd ((h a).1 List.mem_cons_self) List.not_mem_nil
  | a :: A, b :: B, h1, h2, h => by
    rw [List.pairwise_cons] at h1 h2
    have hab : a = b := by
      rcases List.mem_cons.1 ((h a).1 List.mem_cons_self) with e | e
      · exact e
      · rcases List.mem_cons.1 ((h b).2 List.mem_cons_self) with e2 | e2
        · exact e2.symm
        · exact absurd (ltK_trans (h1.1 b e2) (h2.1 a e)) (ltK_irr a)
    subst hab
    congr 1
    refine strict_uniq h1.2 h2.2 fun x => ⟨fun hx => ?_, fun hx => ?_⟩
    · rcases List.mem_cons.1 ((h x).1 (List.mem_cons_of_mem _ hx)) with e | e
      · subst e; exact absurd (h1.1 x hx) (ltK_irr x)
      · exact e
    · rcases List.mem_cons.1 ((h x).2 (List.mem_cons_of_mem _ hx)) with e | e
      · subst e; exact absurd (h2.1 x hx) (ltK_irr x)
      · exact e
/-! ### Sort and Compact -/
theorem comp_inv (d : Array (List UInt8)) (hs : ∀ i j, i < j → j < d.size → ¬ d[j]! < d[i]!) : ∀ m, m ≤ d.size → (Lib.compactUpTo d m).Pairwise (· < ·) ∧ ∀ x, x ∈ Lib.compactUpTo d m ↔ ∃ j, j < m ∧ d[j]! = x := by
  intro m
  induction m with
  | zero => intro _; simp [Lib.compactUpTo]
  | succ m ih =>
    intro hm
    obtain ⟨h1, h2⟩ := ih (by omega)
    rw [Lib.compactUpTo_succ]
    cases hk : Lib.keeps d m with
    | true =>
      simp only [if_true]
      refine ⟨?_, fun x => ?_⟩
      · rw [List.pairwise_append]
        refine ⟨h1, by simp, fun a ha b hb => ?_⟩
        rw [List.mem_singleton.1 hb]
        obtain ⟨j, hj, rfl⟩ := (h2 a).1 ha
        have hne : d[m]! ≠ d[m - 1]! := by
          unfold Lib.keeps at hk
          rcases of_decide_eq_true hk with e | e
          · omega
          · exact e
        have hlt : d[m - 1]! < d[m]! := by
          by_cases h3 : d[m - 1]! < d[m]!
          · exact h3
          · exact absurd (List.le_antisymm (List.not_lt.1 h3) (List.not_lt.1 (hs (m - 1) m (by omega) (by omega)))) hne
        by_cases hjm : j = m - 1
        · rw [hjm]; exact hlt
        · have h4 := hs j (m - 1) (by omega) (by omega)
          exact List.lt_of_le_of_lt (List.not_lt.1 h4) hlt
      · rw [List.mem_append, h2, List.mem_singleton]
        constructor
        · rintro (⟨j, hj, e⟩ | e)
          · exact ⟨j, by omega, e⟩
          · exact ⟨m, by omega, e.symm⟩
        · rintro ⟨j, hj, e⟩
          by_cases hjm : j = m
          · subst hjm; exact Or.inr e.symm
          · exact Or.inl ⟨j, by omega, e⟩
    | false =>
      simp only [Bool.false_eq_true, if_false, List.append_nil]
      refine ⟨h1, fun x => ?_⟩
      rw [h2]
      have hm0 : m ≠ 0 ∧ d[m]! = d[m - 1]! := by
        unfold Lib.keeps at hk
        have := of_decide_eq_false hk
        simp only [not_or, ne_eq, Decidable.not_not] at this
        exact this
      constructor
      · rintro ⟨j, hj, e⟩
        exact ⟨j, by omega, e⟩
      · rintro ⟨j, hj, e⟩
        by_cases hjm : j = m
        · subst hjm; exact ⟨j - 1, by omega, by rw [← hm0.2]; exact e⟩
        · exact ⟨j, by omega, e⟩
theorem sort_comp (xs : List ByteArray) : (gxCompS (gxSortS xs)).Pairwise ltK ∧ ∀ k, k ∈ gxCompS (gxSortS xs) ↔ k ∈ xs := by
  have hle : ∀ x y : List UInt8, decide (x ≤ y) = true ↔ ¬ y < x := fun x y => by rw [decide_eq_true_eq, List.not_lt]
  have hp := List.mergeSort_perm (xs.map ky) fun x y => decide (x ≤ y)
  have hs := List.pairwise_mergeSort (le := fun x y : List UInt8 => decide (x ≤ y)) (fun a b c h1 h2 => by
    rw [decide_eq_true_eq] at *
    exact List.le_trans h1 h2) (fun a b => by
    rw [Bool.or_eq_true, decide_eq_true_eq, decide_eq_true_eq]
    by_cases h : a ≤ b
    · exact Or.inl h
    · exact Or.inr (List.le_of_lt (List.not_le.1 h))) (xs.map ky)
  have hback : (gxSortS xs).map (fun s => s.data.toList) = (xs.map ky).mergeSort fun x y => decide (x ≤ y) := by
    unfold gxSortS
    rw [List.map_map]
    simp [Function.comp_def]
    rfl
  generalize (xs.map ky).mergeSort (fun x y => decide (x ≤ y)) = S at hp hs hback
  have hinv := comp_inv S.toArray (fun i j hij hj => by
    have hj' : j < S.length := by simpa using hj
    have := (List.pairwise_iff_getElem.1 hs) i j (by omega) hj' hij
    rw [hle] at this
    rw [getElem!_pos _ j hj, getElem!_pos _ i (by simpa using (show i < S.length by omega))]
    simpa using this) S.length (by simp)
  unfold gxCompS
  rw [hback]
  unfold Lib.compact
  refine ⟨?_, fun k => ?_⟩
  · rw [List.pairwise_map]
    exact hinv.1
  · rw [List.mem_map]
    constructor
    · rintro ⟨l, hl, rfl⟩
      obtain ⟨j, hj, e⟩ := (hinv.2 l).1 hl
      rw [getElem!_pos _ j (by simpa using hj)] at e
      have hm : l ∈ S := by rw [← e]; simp
      obtain ⟨s, hs1, hs2⟩ := List.mem_map.1 (hp.mem_iff.1 hm)
      have : (⟨l.toArray⟩ : ByteArray) = s := ky_inj (by rw [ky_mk, hs2])
      rw [this]
      exact hs1
    · intro hk
      have hm : ky k ∈ S := hp.mem_iff.2 (List.mem_map_of_mem hk)
      obtain ⟨j, hj, e⟩ := List.getElem_of_mem hm
      refine ⟨ky k, (hinv.2 _).2 ⟨j, hj, ?_⟩, ky_inj rfl⟩
      rw [getElem!_pos _ j (by simpa using hj)]
      simpa using e
/-! ### Slices of texts -/
theorem eqStringS_refl (xs : List ByteArray) (h : xs.length ≤ 4611686018427387904) : M.l_eqStringS xs xs = some true := by
  unfold M.l_eqStringS
  rw [while_run (fun i => (i : Int)) (Sum.inl ()) xs.length (by simp) h]
  · simp
  · intro i hi
    have h1 : ((i : Int) < (xs.length : Int)) := by omega
    simp [h1, gxIdx_nat hi, w64_succ (show i ≤ 4611686018427387904 by omega)]
  · simp
def mkTxt (x : ByteArray) (k : Nat) : Nat × ByteArray := (k + 1, txt k)
theorem markStringS_held (xs : List ByteArray) (k : Nat) (h : k + 1 * xs.length ≤ 1099511627776) : ∃ (n : Nat) (m : List ByteArray), M.l_markStringS xs k = some ((n : Int), m) ∧ M.l_heldStringS m k = some (n : Int) ∧ k ≤ n ∧ n = k + 1 * xs.length := by
  have hf : ∀ (x : ByteArray) (k : Nat), k ≤ (mkTxt x k).1 := fun x k => by simp only [mkTxt]; omega
  have hc : (gmk mkTxt xs k).1 = k + 1 * xs.length := gmk_const (fun _ _ => rfl) xs k
  refine ⟨(gmk mkTxt xs k).1, (gmk mkTxt xs k).2, ?_, ?_, gmk_mono hf _ _, hc⟩
  · unfold M.l_markStringS
    rw [mark_run mkTxt hf (by omega) (by omega)]
    · rfl
    · intro i hi K L hL hK hLi hLl
      have h1 : ((i : Int) < (L.length : Int)) := by omega
      have hK : K + 1 ≤ 1099511627776 := hK
      simp only [h1, decide_true, cond_true, gxIdx_nat hL, Option.bind_some, Int.toNat_natCast, markText_ok K (by omega), w64_succ (show K ≤ 4611686018427387904 by omega), mkTxt]
      all_goals rfl
    · intro K L hL
      simp only [hL, Int.lt_irrefl, decide_false, cond_false]
  · unfold M.l_heldStringS
    rw [held_run mkTxt (xs := xs) hf (by omega) (by omega)]
    · rfl
    · intro i hi h2 K hK he
      have h1 : ((i : Int) < ((gmk mkTxt xs k).2.length : Int)) := by omega
      have hK : K + 1 ≤ 1099511627776 := hK
      simp only [h1, decide_true, cond_true, gxIdx_nat h2, he, mkTxt, Option.bind_some, markText_ok K (by omega), beq_self_eq_true, Bool.not_true, cond_false, w64_succ (show K ≤ 4611686018427387904 by omega)]
      all_goals rfl
    · intro K
      simp only [gmk_len, Int.lt_irrefl, decide_false, cond_false]
      all_goals rfl

end Go.Proofs.Ytfcebglkdfadcaa
