/- Plain laws of the models: no program in sight. -/
import Derived.Test.YtjbblcdajdpfkaaM
import Derived.Test.YtjbblcdajdpfkaaGxH
set_option linter.unusedVariables false
set_option linter.unusedSimpArgs false
set_option maxHeartbeats 4000000
namespace Go.Proofs.Ytjbblcdajdpfkaa
open Go.Gx
/-! ### Slices of integers -/
theorem eqIntS_refl (xs : List Int) (h : xs.length ≤ 4611686018427387904) : M.l_eqIntS xs xs = some true := by
  unfold M.l_eqIntS
  rw [while_run (fun i => (i : Int)) (Sum.inl ()) xs.length (by simp) h]
  · simp
  · intro i hi
    have h1 : ((i : Int) < (xs.length : Int)) := by omega
    simp [h1, gxIdx_nat hi, w64_succ (show i ≤ 4611686018427387904 by omega)]
  · simp
theorem toIntS_id (xs : List Int) (h : xs.length ≤ 1099511627776) : M.l_toIntS xs = some xs := by
  unfold M.l_toIntS
  rw [gxMake_nat (by omega), Option.bind_some, while_run (fun i => ((i : Int), taken xs 0 i)) xs xs.length (by simp [taken_zero]) (by omega)]
  · rfl
  · intro i hi
    have h1 : ((i : Int) < (xs.length : Int)) := by omega
    have h2 : i < (taken xs 0 i).length := by rw [taken_length (by omega)]; exact hi
    simp [h1, gxIdx_nat hi, gxIdx_nat h2, w64_succ (show i ≤ 4611686018427387904 by omega), taken_set hi]
  · simp [taken_all]
theorem markIntS_ok (xs : List Int) (k : Nat) (h : k + xs.length ≤ 1099511627776) : M.l_markIntS xs k = some (((k + xs.length : Nat) : Int), marks k xs.length) := by
  unfold M.l_markIntS
  rw [while_run (fun i => (((k + i : Nat) : Int), (i : Int), marked k xs i)) (((k + xs.length : Nat) : Int), marks k xs.length) xs.length (by simp [marked_zero]) (by omega)]
  · rfl
  · intro i hi
    have h0 : (marked k xs i).length = xs.length := marked_length (by omega)
    have h1 : ((i : Int) < (xs.length : Int)) := by omega
    have h2 : i < (marked k xs i).length := by omega
    simp only [h0, h1, gxIdx_nat h2, decide_true, cond_true, Option.bind_some, Int.toNat_natCast, marked_set hi, w64_succ (show i ≤ 4611686018427387904 by omega), w64_succ (show k + i ≤ 4611686018427387904 by omega)]
    rfl
  · have h0 : (marked k xs xs.length).length = xs.length := marked_length (by omega)
    simp [marked_all, marks_length]
theorem heldIntS_ok (k n : Nat) (h : k + n ≤ 1099511627776) : M.l_heldIntS (marks k n) k = some ((k + n : Nat) : Int) := by
  unfold M.l_heldIntS
  rw [while_run (fun i => (((k + i : Nat) : Int), (i : Int))) (Sum.inl ((k + n : Nat) : Int)) n (by simp) (by omega)]
  · rfl
  · intro i hi
    have h1 : ((i : Int) < (n : Int)) := by omega
    have h2 : i < (marks k n).length := by rw [marks_length]; exact hi
    simp only [marks_length, h1, gxIdx_nat h2, marks_get, decide_true, cond_true, Option.bind_some, bne_self_eq_false, cond_false, w64_succ (show i ≤ 4611686018427387904 by omega), w64_succ (show k + i ≤ 4611686018427387904 by omega)]
    rfl
  · simp [marks_length]
theorem szIntS_ok (xs : List Int) (left : Int) (h : xs.length ≤ 9223372036854775807) (hl : -1 ≤ left ∧ left ≤ 1048576) : M.l_szIntS xs left = some (if left < xs.length then -1 else left - xs.length) := by
  unfold M.l_szIntS
  rw [w64_id (by omega) (by omega)]
  by_cases hc : left < xs.length
  · have : left - (xs.length : Int) < 0 := by omega
    simp [hc, this]
  · have : ¬ (left - (xs.length : Int) < 0) := by omega
    simp [hc, this]
/-! ### Slices of Bools -/
def bmark (k : Nat) : Bool := ((k : Int).tmod 3) == 0
def bmarks (k n : Nat) : List Bool := (List.range n).map fun i => bmark (k + i)
theorem bmarks_length (k n : Nat) : (bmarks k n).length = n := by simp [bmarks]
theorem bmarks_get {k n i : Nat} (h : i < (bmarks k n).length) : (bmarks k n)[i] = bmark (k + i) := by simp [bmarks]
def bmarked (k : Nat) (xs : List Bool) (i : Nat) : List Bool := bmarks k i ++ xs.drop i
theorem bmarked_length {k : Nat} {xs : List Bool} {i : Nat} (h : i ≤ xs.length) : (bmarked k xs i).length = xs.length := by
  simp [bmarked, bmarks_length]; omega
theorem bmarked_set {k : Nat} {xs : List Bool} {i : Nat} (h : i < xs.length) : (bmarked k xs i).set i (bmark (k + i)) = bmarked k xs (i + 1) := by
  unfold bmarked
  rw [List.set_append_right _ _ (by simp [bmarks_length]), bmarks_length, Nat.sub_self, List.drop_eq_getElem_cons h, List.set_cons_zero]
  unfold bmarks
  rw [List.range_succ, List.map_append, List.append_assoc]
  rfl
theorem eqBoolS_refl (xs : List Bool) (h : xs.length ≤ 4611686018427387904) : M.l_eqBoolS xs xs = some true := by
  unfold M.l_eqBoolS
  rw [while_run (fun i => (i : Int)) (Sum.inl ()) xs.length (by simp) h]
  · simp
  · intro i hi
    have h1 : ((i : Int) < (xs.length : Int)) := by omega
    simp [h1, gxIdx_nat hi, w64_succ (show i ≤ 4611686018427387904 by omega)]
  · simp
theorem toBoolS_id (xs : List Bool) (h : xs.length ≤ 1099511627776) : M.l_toBoolS xs = some xs := by
  unfold M.l_toBoolS
  rw [gxMake_nat (by omega), Option.bind_some, while_run (fun i => ((i : Int), taken xs false i)) xs xs.length (by simp [taken_zero]) (by omega)]
  · rfl
  · intro i hi
    have h1 : ((i : Int) < (xs.length : Int)) := by omega
    have h2 : i < (taken xs false i).length := by rw [taken_length (by omega)]; exact hi
    simp [h1, gxIdx_nat hi, gxIdx_nat h2, w64_succ (show i ≤ 4611686018427387904 by omega), taken_set hi]
  · simp [taken_all]
theorem markBoolS_ok (xs : List Bool) (k : Nat) (h : k + xs.length ≤ 1099511627776) : M.l_markBoolS xs k = some (((k + xs.length : Nat) : Int), bmarks k xs.length) := by
  unfold M.l_markBoolS
  rw [while_run (fun i => (((k + i : Nat) : Int), (i : Int), bmarked k xs i)) (((k + xs.length : Nat) : Int), bmarks k xs.length) xs.length (by simp [bmarked, bmarks]) (by omega)]
  · rfl
  · intro i hi
    have h0 : (bmarked k xs i).length = xs.length := bmarked_length (by omega)
    have h1 : ((i : Int) < (xs.length : Int)) := by omega
    have h2 : i < (bmarked k xs i).length := by omega
    have h3 := bmarked_set (k := k) hi
    unfold bmark at h3
    simp only [h0, h1, gxIdx_nat h2, decide_true, cond_true, Option.bind_some, Int.toNat_natCast, h3, w64_succ (show i ≤ 4611686018427387904 by omega), w64_succ (show k + i ≤ 4611686018427387904 by omega)]
    rfl
  · simp [bmarked, bmarks_length]
theorem heldBoolS_ok (k n : Nat) (h : k + n ≤ 1099511627776) : M.l_heldBoolS (bmarks k n) k = some ((k + n : Nat) : Int) := by
  unfold M.l_heldBoolS
  rw [while_run (fun i => (((k + i : Nat) : Int), (i : Int))) (Sum.inl ((k + n : Nat) : Int)) n (by simp) (by omega)]
  · rfl
  · intro i hi
    have h1 : ((i : Int) < (n : Int)) := by omega
    have h2 : i < (bmarks k n).length := by rw [bmarks_length]; exact hi
    simp only [bmarks_length, h1, gxIdx_nat h2, bmarks_get, bmark, decide_true, cond_true, Option.bind_some, beq_self_eq_true, Bool.not_true, cond_false, w64_succ (show i ≤ 4611686018427387904 by omega), w64_succ (show k + i ≤ 4611686018427387904 by omega)]
    rfl
  · simp [bmarks_length]
theorem szBoolS_ok (xs : List Bool) (left : Int) (h : xs.length ≤ 9223372036854775807) (hl : -1 ≤ left ∧ left ≤ 1048576) : M.l_szBoolS xs left = some (if left < xs.length then -1 else left - xs.length) := by
  unfold M.l_szBoolS
  rw [w64_id (by omega) (by omega)]
  by_cases hc : left < xs.length
  · have : left - (xs.length : Int) < 0 := by omega
    simp [hc, this]
  · have : ¬ (left - (xs.length : Int) < 0) := by omega
    simp [hc, this]
/-! ### Copyings -/
def okCopying (x : Copying) : Prop := (okL okI) x.Memory ∧ (okL okI) x.Copy ∧ (okL okB) x.Dirty
def okStore (x : Store) : Prop := okI x.Word ∧ okI x.Value
def fits (x : Copying) (n : Nat) : Prop := x.Memory.length ≤ n ∧ x.Copy.length ≤ n ∧ x.Dirty.length ≤ n
theorem eqCopying_refl (x : Copying) (h : fits x 1099511627776) : M.l_eqCopying x x = some true := by
  unfold M.l_eqCopying
  obtain ⟨h1, h2, h3⟩ := h
  simp [eqIntS_refl x.Memory (by omega), eqIntS_refl x.Copy (by omega), eqBoolS_refl x.Dirty (by omega)]
theorem toCopying_id (x : Copying) (h : fits x 1099511627776) : M.l_toCopying x = some x := by
  unfold M.l_toCopying
  obtain ⟨h1, h2, h3⟩ := h
  simp [toIntS_id x.Memory (by omega), toIntS_id x.Copy (by omega), toBoolS_id x.Dirty (by omega)]
def total (x : Copying) : Nat := x.Memory.length + x.Copy.length + x.Dirty.length
def marksC (x : Copying) (k : Nat) : Copying := ⟨marks k x.Memory.length, marks (k + x.Memory.length) x.Copy.length, bmarks (k + x.Memory.length + x.Copy.length) x.Dirty.length⟩
theorem markCopying_ok (x : Copying) (k : Nat) (h : k + total x ≤ 1099511627776) : M.l_markCopying x k = some (((k + total x : Nat) : Int), (marksC x k).Memory, (marksC x k).Copy, (marksC x k).Dirty) := by
  unfold total at h
  unfold M.l_markCopying
  rw [markIntS_ok x.Memory k (by omega), Option.bind_some, markIntS_ok x.Copy (k + x.Memory.length) (by omega), Option.bind_some, markBoolS_ok x.Dirty (k + x.Memory.length + x.Copy.length) (by omega), Option.bind_some]
  simp only [marksC, total, ← Nat.add_assoc]
theorem heldCopying_ok (x : Copying) (k : Nat) (h : k + total x ≤ 1099511627776) : M.l_heldCopying ⟨(marksC x k).Memory, (marksC x k).Copy, (marksC x k).Dirty⟩ k = some ((k + total x : Nat) : Int) := by
  unfold total at h
  unfold M.l_heldCopying marksC
  have n1 : ¬ (((k + x.Memory.length : Nat) : Int) < 0) := by omega
  have n2 : ¬ (((k + x.Memory.length + x.Copy.length : Nat) : Int) < 0) := by omega
  have n3 : ¬ (((k + x.Memory.length + x.Copy.length + x.Dirty.length : Nat) : Int) < 0) := by omega
  simp only [heldIntS_ok k x.Memory.length (by omega), heldIntS_ok (k + x.Memory.length) x.Copy.length (by omega), heldBoolS_ok (k + x.Memory.length + x.Copy.length) x.Dirty.length (by omega), Option.bind_some, n1, n2, n3, decide_false, cond_false]
  simp only [total, ← Nat.add_assoc]
theorem szCopying_ok (x : Copying) (hx : okCopying x) : ∃ r : Int, M.l_szCopying x 1048576 = some r ∧ (0 ≤ r → fits x 1048576) := by
  obtain ⟨⟨h1, _⟩, ⟨h2, _⟩, ⟨h3, _⟩⟩ := hx
  unfold M.l_szCopying
  rw [szIntS_ok _ _ h1 (by omega), Option.bind_some]
  by_cases c1 : (1048576 : Int) < x.Memory.length
  · exact ⟨-1, by simp [c1], by omega⟩
  · have d1 : ¬ ((1048576 : Int) - x.Memory.length < 0) := by omega
    simp only [c1, if_false, d1, decide_false, cond_false]
    rw [szIntS_ok _ _ h2 (by omega), Option.bind_some]
    by_cases c2 : (1048576 : Int) - x.Memory.length < x.Copy.length
    · exact ⟨-1, by simp [c2], by omega⟩
    · have d2 : ¬ ((1048576 : Int) - x.Memory.length - x.Copy.length < 0) := by omega
      simp only [c2, if_false, d2, decide_false, cond_false]
      rw [szBoolS_ok _ _ h3 (by omega), Option.bind_some]
      by_cases c3 : (1048576 : Int) - x.Memory.length - x.Copy.length < x.Dirty.length
      · exact ⟨-1, by simp [c3], by omega⟩
      · have d3 : ¬ ((1048576 : Int) - x.Memory.length - x.Copy.length - x.Dirty.length < 0) := by omega
        simp only [c3, if_false, d3, decide_false, cond_false]
        exact ⟨_, rfl, fun _ => ⟨by omega, by omega, by omega⟩⟩
def word (x : Int) : Bool := decide (0 ≤ x) && decide (x ≤ 65535)
theorem word_spec {x : Int} : word x = true ↔ 0 ≤ x ∧ x ≤ 65535 := by simp [word]
theorem s_in (x a b : Int) : M.s_l1In x a b = some (decide (a ≤ x) && decide (x ≤ b)) := by
  unfold M.s_l1In
  by_cases h : x ≥ a <;> simp [h]
theorem i_in (x a b : Int) : M.i_inside x a b = some (decide (a ≤ x) && decide (x ≤ b)) := by
  unfold M.i_inside
  by_cases h : x ≥ a <;> simp [h]
theorem s_word (x : Int) : M.s_l2Word16 x = some (word x) := by unfold M.s_l2Word16; rw [s_in]; rfl
theorem i_word (x : Int) : M.i_isWord16 x = some (word x) := by unfold M.i_isWord16; rw [i_in]; rfl
theorem while_all {σ ρ : Type} {body : σ → Option (σ ⊕ ρ)} {s0 : σ} (st : Nat → σ) (ok : Nat → Bool) (bad r : ρ) (n : Nat) (h0 : s0 = st 0) (hn : n ≤ 4611686018427387904) (h : ∀ i, i < n → body (st i) = some (bif ok i then .inl (st (i + 1)) else .inr bad)) (he : body (st n) = some (.inr r)) :
    whileM body gxFuel s0 = some (bif (List.range n).all ok then r else bad) := by
  cases hall : (List.range n).all ok with
  | true =>
    refine while_run st r n h0 hn (fun i hi => ?_) he
    rw [h i hi, List.all_eq_true.1 hall i (List.mem_range.2 hi)]
    rfl
  | false =>
    have hex : ∃ i, i < n ∧ ok i = false := by
      rw [List.all_eq_false] at hall
      obtain ⟨i, hi, hf⟩ := hall
      exact ⟨i, List.mem_range.1 hi, by simpa using hf⟩
    obtain ⟨i, ⟨hi, hf⟩, hmin⟩ := exists_least hex
    refine while_run st bad i h0 (by omega) (fun j hj => ?_) (by rw [h i hi, hf]; rfl)
    have hj' : ok j = true := by
      cases hb : ok j with
      | true => rfl
      | false => have := hmin j ⟨by omega, hb⟩; omega
    rw [h j (by omega), hj']
    rfl
theorem range_all (V : List Int) : (List.range V.length).all (fun i => word (V.getD i 0)) = V.all word := by
  rw [Bool.eq_iff_iff, List.all_eq_true, List.all_eq_true]
  constructor
  · intro h v hv
    obtain ⟨i, hi, rfl⟩ := List.mem_iff_getElem.1 hv
    have := h i (List.mem_range.2 hi)
    rwa [List.getD_eq_getElem?_getD, List.getElem?_eq_getElem hi] at this
  · intro h i hi
    have hi := List.mem_range.1 hi
    rw [List.getD_eq_getElem?_getD, List.getElem?_eq_getElem hi]
    exact h _ (List.getElem_mem hi)
def memy (V : List Int) : Bool := V.all word && (decide (1 ≤ (V.length : Int)) && decide ((V.length : Int) ≤ 12))
theorem s_memory (V : List Int) (hV : V.length ≤ 1099511627776) : M.s_l19Memory V = some (memy V) := by
  unfold M.s_l19Memory memy
  rw [while_all (fun i => (i : Int)) (fun i => word (V.getD i 0)) (.inr false) (.inl ()) V.length (by simp) (by omega), range_all]
  · cases hw : V.all word with
    | false => simp
    | true => simp [s_in]
  · intro i hi
    have e0 : ((i : Int) < (V.length : Int)) := by omega
    simp only [e0, decide_true, cond_true, gxIdx_nat hi, s_word, Option.bind_some, List.getD_eq_getElem?_getD, List.getElem?_eq_getElem hi, Option.getD_some, w64_succ (show i ≤ 4611686018427387904 by omega)]
    cases word V[i] <;> rfl
  · simp only [Int.lt_irrefl, decide_false, cond_false]
theorem indexFunc_ok (V : List Int) (h : V.length ≤ 1099511627776) : ∃ r : Int, M.slices_IndexFunc_105__i_isMemory_1 V = some r ∧ (decide (r ≥ 0)) = !(V.all word) := by
  unfold M.slices_IndexFunc_105__i_isMemory_1
  have hb : ∀ (y : Int), M.i_isMemory_1 y = some (!(word y)) := fun y => by unfold M.i_isMemory_1; rw [i_word]; rfl
  cases hall : V.all word with
  | true =>
    refine ⟨-1, ?_, rfl⟩
    rw [while_run (fun i => (i : Int)) (Sum.inl ()) V.length (by simp) (by omega)]
    · rfl
    · intro i hi
      have e0 : ((i : Int) < (V.length : Int)) := by omega
      have hw : word V[i] = true := List.all_eq_true.1 hall _ (List.getElem_mem hi)
      simp only [e0, decide_true, cond_true, gxIdx_nat hi, Option.bind_some, hb, hw, Bool.not_true, cond_false, w64_succ (show i ≤ 4611686018427387904 by omega)]
    · simp only [Int.lt_irrefl, decide_false, cond_false]
  | false =>
    have hex : ∃ i, ∃ hi : i < V.length, word V[i] = false := by
      rw [List.all_eq_false] at hall
      obtain ⟨v, hv, hf⟩ := hall
      obtain ⟨i, hi, rfl⟩ := List.mem_iff_getElem.1 hv
      exact ⟨i, hi, by simpa using hf⟩
    obtain ⟨i, ⟨hi, hf⟩, hmin⟩ := exists_least hex
    refine ⟨(i : Int), ?_, by simp⟩
    rw [while_run (fun i => (i : Int)) (Sum.inr (i : Int)) i (by simp) (by omega)]
    · rfl
    · intro j hj
      have hj' : j < V.length := by omega
      have e0 : ((j : Int) < (V.length : Int)) := by omega
      have hw : word V[j] = true := by
        cases hb : word V[j] with
        | true => rfl
        | false => have := hmin j ⟨hj', hb⟩; omega
      simp only [e0, decide_true, cond_true, gxIdx_nat hj', Option.bind_some, hb, hw, Bool.not_true, cond_false, w64_succ (show j ≤ 4611686018427387904 by omega)]
    · have e0 : ((i : Int) < (V.length : Int)) := by omega
      simp only [e0, decide_true, cond_true, gxIdx_nat hi, Option.bind_some, hb, hf, Bool.not_false, cond_true]
theorem i_memory (V : List Int) (hV : V.length ≤ 1099511627776) : M.i_isMemory V = some (memy V) := by
  unfold M.i_isMemory M.slices_ContainsFunc_92__i_isMemory_1 memy
  obtain ⟨r, hr, hr2⟩ := indexFunc_ok V hV
  simp only [i_in, hr, hr2, Option.bind_some]
  cases V.all word <;> cases (decide (1 ≤ (V.length : Int)) && decide ((V.length : Int) ≤ 12)) <;> rfl
def okC (x : Copying) (i : Nat) : Bool := x.Memory.getD i 0 == x.Copy.getD i 0 || x.Dirty.getD i false
def isC (x : Copying) : Bool := memy x.Memory && (memy x.Copy && (((x.Copy.length : Int) == x.Memory.length) && (((x.Dirty.length : Int) == x.Memory.length) && (List.range x.Memory.length).all (okC x))))
theorem s_good (x : Copying) (h : fits x 1048576) : M.s_l19Good x = some (isC x) := by
  obtain ⟨h1, h2, h3⟩ := h
  unfold M.s_l19Good isC
  simp only [s_memory x.Memory (by omega), s_memory x.Copy (by omega), Option.bind_some]
  cases memy x.Memory with
  | false => simp
  | true => cases memy x.Copy with
    | false => simp
    | true =>
      by_cases e1 : (x.Copy.length : Int) = x.Memory.length
      · by_cases e2 : (x.Dirty.length : Int) = x.Memory.length
        · simp only [e1, e2, bne_self_eq_false, beq_self_eq_true, Bool.not_true, cond_false, Option.bind_some, Bool.true_and]
          rw [while_all (fun i => (i : Int)) (okC x) (.inr false) (.inl ()) x.Memory.length (by simp) (by omega)]
          · cases (List.range x.Memory.length).all (okC x) <;> rfl
          · intro i hi
            have e0 : ((i : Int) < (x.Memory.length : Int)) := by omega
            have i2 : i < x.Copy.length := by omega
            have i3 : i < x.Dirty.length := by omega
            unfold okC
            simp only [e0, decide_true, cond_true, gxIdx_nat hi, gxIdx_nat i2, gxIdx_nat i3, Option.bind_some, List.getD_eq_getElem?_getD, List.getElem?_eq_getElem hi, List.getElem?_eq_getElem i2, List.getElem?_eq_getElem i3, Option.getD_some, w64_succ (show i ≤ 4611686018427387904 by omega), bne]
            cases (x.Memory[i] == x.Copy[i]) <;> cases x.Dirty[i] <;> rfl
          · simp only [Int.lt_irrefl, decide_false, cond_false]
        · have b2 : ((x.Dirty.length : Int) == (x.Memory.length : Int)) = false := by simpa using e2
          simp only [e1, b2, bne, beq_self_eq_true, Bool.not_true, Bool.not_false, cond_true, cond_false, Option.bind_some, Bool.true_and, Bool.false_and]
      · have b1 : ((x.Copy.length : Int) == (x.Memory.length : Int)) = false := by simpa using e1
        simp only [b1, bne, Bool.not_true, Bool.not_false, cond_true, cond_false, Option.bind_some, Bool.true_and, Bool.false_and]
theorem i_good (x : Copying) (h : fits x 1048576) : M.i_IsCopying x = some (isC x) := by
  obtain ⟨h1, h2, h3⟩ := h
  unfold M.i_IsCopying isC
  simp only [i_memory x.Memory (by omega), i_memory x.Copy (by omega), Option.bind_some]
  cases memy x.Memory with
  | false => simp
  | true => cases memy x.Copy with
    | false => simp
    | true =>
      by_cases e1 : (x.Copy.length : Int) = x.Memory.length
      · by_cases e2 : (x.Dirty.length : Int) = x.Memory.length
        · simp only [e1, e2, bne_self_eq_false, beq_self_eq_true, Bool.not_true, cond_false, Option.bind_some, Bool.true_and]
          rw [while_all (fun i => (i : Int)) (okC x) (.inr false) (.inl ()) x.Memory.length (by simp) (by omega)]
          · cases (List.range x.Memory.length).all (okC x) <;> rfl
          · intro i hi
            have e0 : ((i : Int) < (x.Memory.length : Int)) := by omega
            have i2 : i < x.Copy.length := by omega
            have i3 : i < x.Dirty.length := by omega
            unfold okC
            rw [show (x.Memory.getD i 0 == x.Copy.getD i 0) = (x.Copy.getD i 0 == x.Memory.getD i 0) from Bool.beq_comm ..]
            simp only [e0, decide_true, cond_true, gxIdx_nat hi, gxIdx_nat i2, gxIdx_nat i3, Option.bind_some, List.getD_eq_getElem?_getD, List.getElem?_eq_getElem hi, List.getElem?_eq_getElem i2, List.getElem?_eq_getElem i3, Option.getD_some, w64_succ (show i ≤ 4611686018427387904 by omega), bne]
            cases (x.Copy[i] == x.Memory[i]) <;> cases x.Dirty[i] <;> rfl
          · simp only [Int.lt_irrefl, decide_false, cond_false]
        · have b2 : ((x.Dirty.length : Int) == (x.Memory.length : Int)) = false := by simpa using e2
          simp only [e1, b2, bne, beq_self_eq_true, Bool.not_true, Bool.not_false, cond_true, cond_false, Option.bind_some, Bool.true_and, Bool.false_and]
      · have b1 : ((x.Copy.length : Int) == (x.Memory.length : Int)) = false := by simpa using e1
        simp only [b1, bne, Bool.not_true, Bool.not_false, cond_true, cond_false, Option.bind_some, Bool.true_and, Bool.false_and]
theorem plain_IsCopying (x : Copying) (hx : okCopying x) : M.l_FnExactIsCopying x = some true := by
  obtain ⟨r, hr, hf⟩ := szCopying_ok x hx
  unfold M.l_FnExactIsCopying
  rw [hr, Option.bind_some]
  by_cases h : r < 0
  · simp [h]
  · have hfit := hf (by omega)
    have hfit2 : fits x 1099511627776 := by obtain ⟨a, b, c⟩ := hfit; exact ⟨by omega, by omega, by omega⟩
    have hs : M.s_IsCopying x = some (isC x) := by unfold M.s_IsCopying; rw [s_good x hfit]; rfl
    simp only [h, decide_false, cond_false, toCopying_id x hfit2, eqCopying_refl x hfit2, hs, i_good x hfit, Option.bind_some, beq_self_eq_true, Bool.not_true]
end Go.Proofs.Ytjbblcdajdpfkaa
