/- Plain laws of the models: no program in sight. -/
import Derived.Test.YtjbblcdajdpfkaaRM
import Derived.Test.YtjbblcdajdpfkaaGxH
set_option linter.unusedVariables false
set_option linter.unusedSimpArgs false
set_option maxHeartbeats 4000000
namespace Go.Proofs.Ytjbblcdajdpfkaa
open Go.Gx
/-! ### Slices of Bools -/
def bmark (k : Nat) : Bool := ((k : Int).tmod 3) == 0
def bmarks (k n : Nat) : List Bool := (List.range n).map fun i => bmark (k + i)
theorem bmarks_length (k n : Nat) : (bmarks k n).length = n := by simp [bmarks]
theorem bmarks_get {k n i : Nat} (h : i < (bmarks k n).length) : (bmarks k n)[i] = bmark (k + i) := by simp [bmarks]
def bmarked (k : Nat) (xs : List Bool) (i : Nat) : List Bool := bmarks k i ++ xs.drop i
theorem bmarked_length {k : Nat} {xs : List Bool} {i : Nat} (h : i ≤ xs.length) : (bmarked k xs i).length = xs.length := by
  simp [bmarked, bmarks_length]; omega
theorem bmarked_set {k : Nat} {xs : List Bool} {i : Nat} (h : i < xs.length) : (bmarked k xs i).set i (bmark (k + i)) = bmarked k xs (i + 1) := by
  unfold bmarked
  rw [List.set_append_right _ _ (by simp [bmarks_length]), bmarks_length, Nat.sub_self, List.drop_eq_getElem_cons h, List.set_cons_zero]
  unfold bmarks
  rw [List.range_succ, List.map_append, List.append_assoc]
  rfl
/-! ### Slices of integers -/
/-! ### Marks, in general -/
/-- Each element gets numbers from k on. -/
def gmk {α : Type} (f : α → Nat → Nat × α) : List α → Nat → Nat × List α
  | [], k => (k, [])
  | x :: r, k => ((gmk f r (f x k).1).1, (f x k).2 :: (gmk f r (f x k).1).2)
theorem gmk_app {α : Type} {f : α → Nat → Nat × α} : ∀ (a b : List α) (k : Nat), gmk f (a ++ b) k = ((gmk f b (gmk f a k).1).1, (gmk f a k).2 ++ (gmk f b (gmk f a k).1).2)
  | [], b, k => rfl
  | x :: r, b, k => by simp only [List.cons_append, gmk, gmk_app r b]
theorem gmk_len {α : Type} {f : α → Nat → Nat × α} : ∀ (a : List α) (k : Nat), (gmk f a k).2.length = a.length
  | [], k => rfl
  | x :: r, k => by simp only [gmk, List.length_cons, gmk_len r]
theorem gmk_succ {α : Type} {f : α → Nat → Nat × α} {xs : List α} {i : Nat} (h : i < xs.length) (k : Nat) : gmk f (xs.take (i + 1)) k = ((f xs[i] (gmk f (xs.take i) k).1).1, (gmk f (xs.take i) k).2 ++ [(f xs[i] (gmk f (xs.take i) k).1).2]) := by
  rw [List.take_add_one, List.getElem?_eq_getElem h, Option.toList_some, gmk_app]
  rfl
theorem gmk_mono {α : Type} {f : α → Nat → Nat × α} (hf : ∀ x k, k ≤ (f x k).1) : ∀ (a : List α) (k : Nat), k ≤ (gmk f a k).1
  | [], k => Nat.le_refl _
  | x :: r, k => Nat.le_trans (hf x k) (gmk_mono hf r _)
theorem gmk_take_le {α : Type} {f : α → Nat → Nat × α} (hf : ∀ x k, k ≤ (f x k).1) (xs : List α) (k i : Nat) : (gmk f (xs.take i) k).1 ≤ (gmk f xs k).1 := by
  have : gmk f xs k = gmk f (xs.take i ++ xs.drop i) k := by rw [List.take_append_drop]
  rw [this, gmk_app]
  exact gmk_mono hf _ _
theorem gmk_get {α : Type} {f : α → Nat → Nat × α} {xs : List α} {i : Nat} (h : i < xs.length) (k : Nat) (h2 : i < (gmk f xs k).2.length) : (gmk f xs k).2[i] = (f xs[i] (gmk f (xs.take i) k).1).2 := by
  have e : gmk f xs k = gmk f (xs.take (i + 1) ++ xs.drop (i + 1)) k := by rw [List.take_append_drop]
  have h3 : (gmk f xs k).2 = (gmk f (xs.take i) k).2 ++ ([(f xs[i] (gmk f (xs.take i) k).1).2] ++ (gmk f (xs.drop (i + 1)) (gmk f (xs.take (i + 1)) k).1).2) := by
    rw [e, gmk_app, gmk_succ h]
    simp
  have hl : (gmk f (xs.take i) k).2.length = i := by rw [gmk_len]; simp; omega
  have : (gmk f xs k).2[i]? = some (f xs[i] (gmk f (xs.take i) k).1).2 := by
    rw [h3, List.getElem?_append_right (by omega), hl, Nat.sub_self]
    rfl
  rw [List.getElem?_eq_getElem h2] at this
  exact Option.some.inj this
theorem mark_run {α : Type} (f : α → Nat → Nat × α) {xs : List α} {k : Nat} {body : Int × Int × List α → Option ((Int × Int × List α) ⊕ (Int × List α))} (hf : ∀ x k, k ≤ (f x k).1) (hb : (gmk f xs k).1 ≤ 1099511627776) (hl : xs.length ≤ 1099511627776)
    (h : ∀ (i : Nat) (hi : i < xs.length) (K : Nat) (L : List α) (hL : i < L.length), (f xs[i] K).1 ≤ 1099511627776 → L[i] = xs[i] → L.length = xs.length → body ((K : Int), (i : Int), L) = some (.inl (((f xs[i] K).1 : Int), w64 ((i : Int) + 1), L.set i (f xs[i] K).2)))
    (he : ∀ (K : Int) (L : List α), L.length = xs.length → body (K, (xs.length : Int), L) = some (.inr (K, L))) : whileM body gxFuel ((k : Int), 0, xs) = some (((gmk f xs k).1 : Int), (gmk f xs k).2) := by
  refine while_run (fun i => (((gmk f (xs.take i) k).1 : Int), (i : Int), (gmk f (xs.take i) k).2 ++ xs.drop i)) _ xs.length (by simp [gmk]) (by omega) (fun i hi => ?_) ?_
  · have hll : (gmk f (xs.take i) k).2.length = i := by rw [gmk_len]; simp; omega
    have hL : i < ((gmk f (xs.take i) k).2 ++ xs.drop i).length := by simp [hll]; omega
    have hs := gmk_succ (f := f) hi k
    have hle := gmk_take_le hf xs k (i + 1)
    rw [hs] at hle
    rw [h i hi _ _ hL (by simp only at hle; omega) (by rw [List.getElem_append_right (by omega)]; simp [hll]) (by simp [hll]; omega), hs, w64_succ (by omega)]
    congr 4
    rw [List.set_append_right _ _ (by omega), hll, Nat.sub_self, List.drop_eq_getElem_cons hi, List.set_cons_zero]
    simp
  · have := he ((gmk f (xs.take xs.length) k).1 : Int) ((gmk f (xs.take xs.length) k).2 ++ xs.drop xs.length) (by simp [gmk_len])
    rw [this]
    simp
theorem held_run {α : Type} (f : α → Nat → Nat × α) {xs : List α} {k : Nat} {body : Int × Int → Option ((Int × Int) ⊕ (Int ⊕ Int))} (hf : ∀ x k, k ≤ (f x k).1) (hb : (gmk f xs k).1 ≤ 1099511627776) (hl : xs.length ≤ 1099511627776)
    (h : ∀ (i : Nat) (hi : i < xs.length) (h2 : i < (gmk f xs k).2.length) (K : Nat), (f xs[i] K).1 ≤ 1099511627776 → (gmk f xs k).2[i] = (f xs[i] K).2 → body ((K : Int), (i : Int)) = some (.inl (((f xs[i] K).1 : Int), w64 ((i : Int) + 1))))
    (he : ∀ K : Int, body (K, (xs.length : Int)) = some (.inr (.inl K))) : whileM body gxFuel ((k : Int), 0) = some (.inl ((gmk f xs k).1 : Int)) := by
  refine while_run (fun i => (((gmk f (xs.take i) k).1 : Int), (i : Int))) _ xs.length (by simp [gmk]) (by omega) (fun i hi => ?_) ?_
  · have h2 : i < (gmk f xs k).2.length := by rw [gmk_len]; exact hi
    have hs := gmk_succ (f := f) hi k
    have hle := gmk_take_le hf xs k (i + 1)
    rw [hs] at hle
    rw [h i hi h2 _ (by simp only at hle; omega) (gmk_get hi k h2), hs, w64_succ (by omega)]
  · rw [he, List.take_length]
theorem gxIdx_same {α : Type} {xs : List α} {i : Nat} {a : α} (h : i < xs.length) : gxIdx (xs.set i a) (i : Int) = some a := by
  rw [gxIdx_nat (by simpa using h)]
  simp
theorem gmk_const {α : Type} {f : α → Nat → Nat × α} {W : Nat} (hf : ∀ x k, (f x k).1 = k + W) : ∀ (a : List α) (k : Nat), (gmk f a k).1 = k + W * a.length
  | [], k => by simp [gmk]
  | x :: r, k => by
    simp only [gmk, gmk_const hf r, hf, List.length_cons, Nat.mul_add, Nat.mul_one]
    omega
theorem nat_nlt (n : Nat) : decide ((n : Int) < 0) = false := by simp
theorem sz_simple {n left : Int} (h0 : 0 ≤ n ∧ n ≤ 9223372036854775807) (hl : -1 ≤ left ∧ left ≤ 1048576) : ∃ q, (bif decide (w64 (left - n) < 0) then some (-1) else some (w64 (left - n))) = some q ∧ (q < 0 ∨ (0 ≤ q ∧ q ≤ left ∧ n ≤ left - q)) := by
  rw [w64_id (by omega) (by omega)]
  by_cases hc : left - n < 0
  · exact ⟨-1, by simp [hc], Or.inl (by omega)⟩
  · exact ⟨left - n, by simp [hc], Or.inr (by omega)⟩

/-! ### Copyings -/
def okCopying (x : Copying) : Prop := (okL okI) x.Memory ∧ (okL okI) x.Copy ∧ (okL okB) x.Dirty
def okStore (x : Store) : Prop := okI x.Word ∧ okI x.Value
def fits (x : Copying) (n : Nat) : Prop := x.Memory.length ≤ n ∧ x.Copy.length ≤ n ∧ x.Dirty.length ≤ n
def total (x : Copying) : Nat := x.Memory.length + x.Copy.length + x.Dirty.length
def marksC (x : Copying) (k : Nat) : Copying := ⟨marks k x.Memory.length, marks (k + x.Memory.length) x.Copy.length, bmarks (k + x.Memory.length + x.Copy.length) x.Dirty.length⟩
def word (x : Int) : Bool := decide (0 ≤ x) && decide (x ≤ 65535)
theorem word_spec {x : Int} : word x = true ↔ 0 ≤ x ∧ x ≤ 65535 := by simp [word]
theorem s_in (x a b : Int) : M.s_l1In x a b = some (decide (a ≤ x) && decide (x ≤ b)) := by
  unfold M.s_l1In
  by_cases h : x ≥ a <;> simp [h]
theorem i_in (x a b : Int) : M.i_inside x a b = some (decide (a ≤ x) && decide (x ≤ b)) := by
  unfold M.i_inside
  by_cases h : x ≥ a <;> simp [h]
theorem s_word (x : Int) : M.s_l2Word16 x = some (word x) := by unfold M.s_l2Word16; rw [s_in]; rfl
theorem i_word (x : Int) : M.i_isWord16 x = some (word x) := by unfold M.i_isWord16; rw [i_in]; rfl
theorem while_all {σ ρ : Type} {body : σ → Option (σ ⊕ ρ)} {s0 : σ} (st : Nat → σ) (ok : Nat → Bool) (bad r : ρ) (n : Nat) (h0 : s0 = st 0) (hn : n ≤ 4611686018427387904) (h : ∀ i, i < n → body (st i) = some (bif ok i then .inl (st (i + 1)) else .inr bad)) (he : body (st n) = some (.inr r)) :
    whileM body gxFuel s0 = some (bif (List.range n).all ok then r else bad) := by
  cases hall : (List.range n).all ok with
  | true =>
    refine while_run st r n h0 hn (fun i hi => ?_) he
    rw [h i hi, List.all_eq_true.1 hall i (List.mem_range.2 hi)]
    rfl
  | false =>
    have hex : ∃ i, i < n ∧ ok i = false := by
      rw [List.all_eq_false] at hall
      obtain ⟨i, hi, hf⟩ := hall
      exact ⟨i, List.mem_range.1 hi, by simpa using hf⟩
    obtain ⟨i, ⟨hi, hf⟩, hmin⟩ := exists_least hex
    refine while_run st bad i h0 (by omega) (fun j hj => ?_) (by rw [h i hi, hf]; rfl)
    have hj' : ok j = true := by
      cases hb : ok j with
      | true => rfl
      | false => have := hmin j ⟨by omega, hb⟩; omega
    rw [h j (by omega), hj']
    rfl
theorem range_all (V : List Int) : (List.range V.length).all (fun i => word (V.getD i 0)) = V.all word := by
  rw [Bool.eq_iff_iff, List.all_eq_true, List.all_eq_true]
  constructor
  · intro h v hv
    obtain ⟨i, hi, rfl⟩ := List.mem_iff_getElem.1 hv
    have := h i (List.mem_range.2 hi)
    rwa [List.getD_eq_getElem?_getD, List.getElem?_eq_getElem hi] at this
  · intro h i hi
    have hi := List.mem_range.1 hi
    rw [List.getD_eq_getElem?_getD, List.getElem?_eq_getElem hi]
    exact h _ (List.getElem_mem hi)
def memy (V : List Int) : Bool := V.all word && (decide (1 ≤ (V.length : Int)) && decide ((V.length : Int) ≤ 12))
theorem s_memory (V : List Int) (hV : V.length ≤ 1099511627776) : M.s_l19Memory V = some (memy V) := by
  unfold M.s_l19Memory memy
  rw [while_all (fun i => (i : Int)) (fun i => word (V.getD i 0)) (.inr false) (.inl ()) V.length (by simp) (by omega), range_all]
  · cases hw : V.all word with
    | false => simp
    | true => simp [s_in]
  · intro i hi
    have e0 : ((i : Int) < (V.length : Int)) := by omega
    simp only [e0, decide_true, cond_true, gxIdx_nat hi, s_word, Option.bind_some, List.getD_eq_getElem?_getD, List.getElem?_eq_getElem hi, Option.getD_some, w64_succ (show i ≤ 4611686018427387904 by omega)]
    cases word V[i] <;> rfl
  · simp only [Int.lt_irrefl, decide_false, cond_false]
theorem indexFunc_ok (V : List Int) (h : V.length ≤ 1099511627776) : ∃ r : Int, M.slices_IndexFunc_105__i_isMemory_1 V = some r ∧ (decide (r ≥ 0)) = !(V.all word) := by
  unfold M.slices_IndexFunc_105__i_isMemory_1
  have hb : ∀ (y : Int), M.i_isMemory_1 y = some (!(word y)) := fun y => by unfold M.i_isMemory_1; rw [i_word]; rfl
  cases hall : V.all word with
  | true =>
    refine ⟨-1, ?_, rfl⟩
    rw [while_run (fun i => (i : Int)) (Sum.inl ()) V.length (by simp) (by omega)]
    · rfl
    · intro i hi
      have e0 : ((i : Int) < (V.length : Int)) := by omega
      have hw : word V[i] = true := List.all_eq_true.1 hall _ (List.getElem_mem hi)
      simp only [e0, decide_true, cond_true, gxIdx_nat hi, Option.bind_some, hb, hw, Bool.not_true, cond_false, w64_succ (show i ≤ 4611686018427387904 by omega)]
    · simp only [Int.lt_irrefl, decide_false, cond_false]
  | false =>
    have hex : ∃ i, ∃ hi : i < V.length, word V[i] = false := by
      rw [List.all_eq_false] at hall
      obtain ⟨v, hv, hf⟩ := hall
      obtain ⟨i, hi, rfl⟩ := List.mem_iff_getElem.1 hv
      exact ⟨i, hi, by simpa using hf⟩
    obtain ⟨i, ⟨hi, hf⟩, hmin⟩ := exists_least hex
    refine ⟨(i : Int), ?_, by simp⟩
    rw [while_run (fun i => (i : Int)) (Sum.inr (i : Int)) i (by simp) (by omega)]
    · rfl
    · intro j hj
      have hj' : j < V.length := by omega
      have e0 : ((j : Int) < (V.length : Int)) := by omega
      have hw : word V[j] = true := by
        cases hb : word V[j] with
        | true => rfl
        | false => have := hmin j ⟨hj', hb⟩; omega
      simp only [e0, decide_true, cond_true, gxIdx_nat hj', Option.bind_some, hb, hw, Bool.not_true, cond_false, w64_succ (show j ≤ 4611686018427387904 by omega)]
    · have e0 : ((i : Int) < (V.length : Int)) := by omega
      simp only [e0, decide_true, cond_true, gxIdx_nat hi, Option.bind_some, hb, hf, Bool.not_false, cond_true]
theorem i_memory (V : List Int) (hV : V.length ≤ 1099511627776) : M.i_isMemory V = some (memy V) := by
  unfold M.i_isMemory M.slices_ContainsFunc_92__i_isMemory_1 memy
  obtain ⟨r, hr, hr2⟩ := indexFunc_ok V hV
  simp only [i_in, hr, hr2, Option.bind_some]
  cases V.all word <;> cases (decide (1 ≤ (V.length : Int)) && decide ((V.length : Int) ≤ 12)) <;> rfl
def okC (x : Copying) (i : Nat) : Bool := x.Memory.getD i 0 == x.Copy.getD i 0 || x.Dirty.getD i false
def isC (x : Copying) : Bool := memy x.Memory && (memy x.Copy && (((x.Copy.length : Int) == x.Memory.length) && (((x.Dirty.length : Int) == x.Memory.length) && (List.range x.Memory.length).all (okC x))))
theorem s_good (x : Copying) (h : fits x 1048576) : M.s_l19Good x = some (isC x) := by
  obtain ⟨h1, h2, h3⟩ := h
  unfold M.s_l19Good isC
  simp only [s_memory x.Memory (by omega), s_memory x.Copy (by omega), Option.bind_some]
  cases memy x.Memory with
  | false => simp
  | true => cases memy x.Copy with
    | false => simp
    | true =>
      by_cases e1 : (x.Copy.length : Int) = x.Memory.length
      · by_cases e2 : (x.Dirty.length : Int) = x.Memory.length
        · simp only [e1, e2, bne_self_eq_false, beq_self_eq_true, Bool.not_true, cond_false, Option.bind_some, Bool.true_and]
          rw [while_all (fun i => (i : Int)) (okC x) (.inr false) (.inl ()) x.Memory.length (by simp) (by omega)]
          · cases (List.range x.Memory.length).all (okC x) <;> rfl
          · intro i hi
            have e0 : ((i : Int) < (x.Memory.length : Int)) := by omega
            have i2 : i < x.Copy.length := by omega
            have i3 : i < x.Dirty.length := by omega
            unfold okC
            simp only [e0, decide_true, cond_true, gxIdx_nat hi, gxIdx_nat i2, gxIdx_nat i3, Option.bind_some, List.getD_eq_getElem?_getD, List.getElem?_eq_getElem hi, List.getElem?_eq_getElem i2, List.getElem?_eq_getElem i3, Option.getD_some, w64_succ (show i ≤ 4611686018427387904 by omega), bne]
            cases (x.Memory[i] == x.Copy[i]) <;> cases x.Dirty[i] <;> rfl
          · simp only [Int.lt_irrefl, decide_false, cond_false]
        · have b2 : ((x.Dirty.length : Int) == (x.Memory.length : Int)) = false := by simpa using e2
          simp only [e1, b2, bne, beq_self_eq_true, Bool.not_true, Bool.not_false, cond_true, cond_false, Option.bind_some, Bool.true_and, Bool.false_and]
      · have b1 : ((x.Copy.length : Int) == (x.Memory.length : Int)) = false := by simpa using e1
        simp only [b1, bne, Bool.not_true, Bool.not_false, cond_true, cond_false, Option.bind_some, Bool.true_and, Bool.false_and]
theorem i_good (x : Copying) (h : fits x 1048576) : M.i_IsCopying x = some (isC x) := by
  obtain ⟨h1, h2, h3⟩ := h
  unfold M.i_IsCopying isC
  simp only [i_memory x.Memory (by omega), i_memory x.Copy (by omega), Option.bind_some]
  cases memy x.Memory with
  | false => simp
  | true => cases memy x.Copy with
    | false => simp
    | true =>
      by_cases e1 : (x.Copy.length : Int) = x.Memory.length
      · by_cases e2 : (x.Dirty.length : Int) = x.Memory.length
        · simp only [e1, e2, bne_self_eq_false, beq_self_eq_true, Bool.not_true, cond_false, Option.bind_some, Bool.true_and]
          rw [while_all (fun i => (i : Int)) (okC x) (.inr false) (.inl ()) x.Memory.length (by simp) (by omega)]
          · cases (List.range x.Memory.length).all (okC x) <;> rfl
          · intro i hi
            have e0 : ((i : Int) < (x.Memory.length : Int)) := by omega
            have i2 : i < x.Copy.length := by omega
            have i3 : i < x.Dirty.length := by omega
            unfold okC
            rw [show (x.Memory.getD i 0 == x.Copy.getD i 0) = (x.Copy.getD i 0 == x.Memory.getD i 0) from Bool.beq_comm ..]
            simp only [e0, decide_true, cond_true, gxIdx_nat hi, gxIdx_nat i2, gxIdx_nat i3, Option.bind_some, List.getD_eq_getElem?_getD, List.getElem?_eq_getElem hi, List.getElem?_eq_getElem i2, List.getElem?_eq_getElem i3, Option.getD_some, w64_succ (show i ≤ 4611686018427387904 by omega), bne]
            cases (x.Copy[i] == x.Memory[i]) <;> cases x.Dirty[i] <;> rfl
          · simp only [Int.lt_irrefl, decide_false, cond_false]
        · have b2 : ((x.Dirty.length : Int) == (x.Memory.length : Int)) = false := by simpa using e2
          simp only [e1, b2, bne, beq_self_eq_true, Bool.not_true, Bool.not_false, cond_true, cond_false, Option.bind_some, Bool.true_and, Bool.false_and]
      · have b1 : ((x.Copy.length : Int) == (x.Memory.length : Int)) = false := by simpa using e1
        simp only [b1, bne, Bool.not_true, Bool.not_false, cond_true, cond_false, Option.bind_some, Bool.true_and, Bool.false_and]
theorem fits_more {x : Copying} (h : fits x 1048576) : fits x 1099511627776 := by obtain ⟨a, b, c⟩ := h; exact ⟨by omega, by omega, by omega⟩
theorem fits_total {x : Copying} (h : fits x 1048576) : total x ≤ 3145728 := by obtain ⟨a, b, c⟩ := h; unfold total; omega
theorem memy_len {V : List Int} (h : memy V = true) : 1 ≤ V.length ∧ V.length ≤ 12 := by
  simp [memy] at h; omega
/-! ### A copy begun -/
theorem own_ok (xs : List Int) (h : xs.length ≤ 1099511627776) : M.s_l1Own xs = some xs := by
  unfold M.s_l1Own
  rw [gxApp_ok (by simp; omega)]
  rfl
theorem copyInts_ok (xs : List Int) (h : xs.length ≤ 1099511627776) : M.i_copyInts xs = some xs := by
  unfold M.i_copyInts
  rw [gxApp_ok (by simp; omega)]
  rfl
theorem start_eq (V : List Int) (hV : V.length ≤ 1048576) : ∃ r, M.s_StartCopy V = some r ∧ M.i_StartCopy V = some r ∧ fits r.1 1048576 := by
  unfold M.s_StartCopy M.i_StartCopy
  simp only [s_memory V (by omega), i_memory V (by omega), Option.bind_some]
  cases h : memy V with
  | false => exact ⟨_, rfl, rfl, by simp [fits]⟩
  | true =>
    have hl := memy_len h
    simp only [own_ok V (by omega), copyInts_ok V (by omega), gxMake_nat (show V.length * 8 ≤ 140737488355328 by omega), Option.bind_some, Bool.not_true, cond_false]
    refine ⟨(⟨V, List.replicate V.length 0, List.replicate V.length true⟩, true), ?_, ?_, ⟨hV, by simp; omega, by simp; omega⟩⟩ <;>
    · rw [while_run (fun i => ((i : Int), List.replicate i true)) (List.replicate V.length true) V.length (by simp) (by omega)]
      · rfl
      · intro i hi
        have e0 : ((i : Int) < (V.length : Int)) := by omega
        simp only [e0, decide_true, cond_true, gxApp_ok (show ((List.replicate i true).length + [true].length) * 1 ≤ 140737488355328 by simp; omega), Option.bind_some, w64_succ (show i ≤ 4611686018427387904 by omega)]
        rw [List.replicate_succ', ]
      · simp only [Int.lt_irrefl, decide_false, cond_false]
/-! ### Dirty words -/
def dl (D : List Bool) : Nat → List Int
  | 0 => []
  | i + 1 => dl D i ++ (bif D.getD i false then [(i : Int)] else [])
theorem dl_length (D : List Bool) : ∀ i, (dl D i).length ≤ i
  | 0 => by simp [dl]
  | i + 1 => by
    have := dl_length D i
    unfold dl
    cases D.getD i false <;> simp <;> omega
theorem i_dirty (x : Copying) (h : x.Dirty.length ≤ 1048576) : M.i_dirtyWords x = some (dl x.Dirty x.Dirty.length) := by
  unfold M.i_dirtyWords
  rw [while_run (fun i => (dl x.Dirty i, (i : Int))) (dl x.Dirty x.Dirty.length) x.Dirty.length (by simp [dl]) (by omega)]
  · rfl
  · intro i hi
    have e0 : ((i : Int) < (x.Dirty.length : Int)) := by omega
    have hl := dl_length x.Dirty i
    have hd : dl x.Dirty (i + 1) = dl x.Dirty i ++ (bif x.Dirty[i] then [(i : Int)] else []) := by
      show dl x.Dirty i ++ (bif x.Dirty.getD i false then [(i : Int)] else []) = _
      rw [List.getD_eq_getElem?_getD, List.getElem?_eq_getElem hi]
      rfl
    simp only [e0, decide_true, cond_true, gxIdx_nat hi, Option.bind_some, w64_succ (show i ≤ 4611686018427387904 by omega), gxApp_ok (show ((dl x.Dirty i).length + [(i : Int)].length) * 8 ≤ 140737488355328 by simp; omega), hd]
    cases x.Dirty[i] <;> simp
  · simp only [Int.lt_irrefl, decide_false, cond_false]
theorem s_dirty (x : Copying) (h : x.Dirty.length ≤ 1048576) : M.s_l19Dirty x = some (dl x.Dirty x.Dirty.length) := i_dirty x h
theorem dirty_eq (x : Copying) (h : fits x 1048576) : ∃ r, M.s_DirtyWords x = some r ∧ M.i_DirtyWords x = some r ∧ r.1.length ≤ 1048576 := by
  unfold M.s_DirtyWords M.i_DirtyWords
  simp only [s_good x h, i_good x h, s_dirty x h.2.2, i_dirty x h.2.2, Option.bind_some]
  cases isC x with
  | false => exact ⟨_, rfl, rfl, by simp⟩
  | true => exact ⟨_, rfl, rfl, by have := dl_length x.Dirty x.Dirty.length; have := h.2.2; simp; omega⟩
/-! ### A word stored -/
theorem s_own (x : Copying) (h : fits x 1048576) : M.s_l19Own x = some x := by
  obtain ⟨a, b, c⟩ := h
  unfold M.s_l19Own
  rw [own_ok x.Memory (by omega), Option.bind_some, own_ok x.Copy (by omega), Option.bind_some, gxApp_ok (by simp; omega)]
  rfl
theorem i_new (x : Copying) (h : fits x 1048576) : M.i_newCopying x = some x := by
  obtain ⟨a, b, c⟩ := h
  unfold M.i_newCopying
  rw [copyInts_ok x.Memory (by omega), Option.bind_some, copyInts_ok x.Copy (by omega), Option.bind_some, gxApp_ok (by simp; omega)]
  rfl
def canStore (x : Copying) (p : Store) : Bool := (decide (0 ≤ p.Word) && decide (p.Word ≤ w64 ((x.Memory.length : Int) - 1))) && word p.Value
theorem s_canStore (x : Copying) (p : Store) : M.s_l19Store x p = some (canStore x p) := by
  unfold M.s_l19Store canStore
  simp only [s_in, s_word, Option.bind_some]
  cases (decide (0 ≤ p.Word) && decide (p.Word ≤ w64 ((x.Memory.length : Int) - 1))) <;> rfl
theorem i_canStore (x : Copying) (p : Store) : M.i_isStore x p = some (canStore x p) := by
  unfold M.i_isStore canStore
  simp only [i_in, i_word, Option.bind_some]
  cases (decide (0 ≤ p.Word) && decide (p.Word ≤ w64 ((x.Memory.length : Int) - 1))) <;> rfl
def put (x : Copying) (p : Store) : Copying := ⟨x.Memory.set p.Word.toNat p.Value, x.Copy, x.Dirty.set p.Word.toNat true⟩
theorem isC_lens {x : Copying} (h : isC x = true) : 1 ≤ x.Memory.length ∧ x.Memory.length ≤ 12 ∧ x.Copy.length = x.Memory.length ∧ x.Dirty.length = x.Memory.length := by
  unfold isC at h
  simp only [Bool.and_eq_true, beq_iff_eq] at h
  have := memy_len h.1
  omega
theorem gxIdx_in {α : Type} {xs : List α} {i : Int} (h0 : 0 ≤ i) (h : i < xs.length) : ∃ y, gxIdx xs i = some y := by
  unfold gxIdx
  rw [if_pos h0, List.getElem?_eq_getElem (by omega)]
  exact ⟨_, rfl⟩
theorem canStore_in {x : Copying} {p : Store} (hl : 1 ≤ x.Memory.length ∧ x.Memory.length ≤ 12 ∧ x.Copy.length = x.Memory.length ∧ x.Dirty.length = x.Memory.length) (hc : canStore x p = true) : 0 ≤ p.Word ∧ p.Word < x.Memory.length := by
  unfold canStore at hc
  simp only [Bool.and_eq_true, decide_eq_true_eq] at hc
  rw [w64_id (by omega) (by omega)] at hc
  omega
theorem s_put {x : Copying} {p : Store} (hf : fits x 1048576) (hl : 1 ≤ x.Memory.length ∧ x.Memory.length ≤ 12 ∧ x.Copy.length = x.Memory.length ∧ x.Dirty.length = x.Memory.length) (hc : canStore x p = true) : M.s_l19Write x p = some (put x p) := by
  have hi := canStore_in hl hc
  unfold M.s_l19Write
  rw [s_own x hf, Option.bind_some]
  obtain ⟨y, hy⟩ := gxIdx_in (xs := x.Memory) hi.1 hi.2
  obtain ⟨z, hz⟩ := gxIdx_in (xs := x.Dirty) hi.1 (by omega)
  rw [hy, Option.bind_some, hz]
  rfl
theorem i_put {x : Copying} {p : Store} (hl : 1 ≤ x.Memory.length ∧ x.Memory.length ≤ 12 ∧ x.Copy.length = x.Memory.length ∧ x.Dirty.length = x.Memory.length) (hc : canStore x p = true) : M.i_Copying_store x p = some ((put x p).Memory, (put x p).Copy, (put x p).Dirty) := by
  have hi := canStore_in hl hc
  unfold M.i_Copying_store
  obtain ⟨y, hy⟩ := gxIdx_in (xs := x.Memory) hi.1 hi.2
  obtain ⟨z, hz⟩ := gxIdx_in (xs := x.Dirty) hi.1 (by omega)
  rw [hy, Option.bind_some, hz]
  rfl
theorem store_eq (x : Copying) (p : Store) (hf : fits x 1048576) : ∃ r, M.s_StoreWord x p = some r ∧ M.i_StoreWord x p = some r ∧ fits r.1 1048576 := by
  unfold M.s_StoreWord M.i_StoreWord
  simp only [s_good x hf, i_good x hf, s_canStore, i_canStore, Option.bind_some]
  cases h : isC x with
  | false => exact ⟨_, rfl, rfl, by simp [fits]⟩
  | true => cases hc : canStore x p with
    | false => exact ⟨_, rfl, rfl, by simp [fits]⟩
    | true =>
      simp only [i_new x hf, s_put hf (isC_lens h) hc, i_put (isC_lens h) hc, Option.bind_some, Bool.not_true, cond_false]
      refine ⟨_, rfl, rfl, ?_⟩
      obtain ⟨a, b, c⟩ := hf
      exact ⟨by simp only [put, List.length_set]; omega, b, by simp only [put, List.length_set]; omega⟩
/-! ### A round of copying -/
/-- The first i words gone through, with room for m. -/
def rd (x : Copying) (m : Int) : Nat → Nat × List Int × List Bool
  | 0 => (0, x.Copy, x.Dirty)
  | i + 1 =>
    let s := rd x m i
    bif x.Dirty.getD i false && decide ((s.1 : Int) < m) then (s.1 + 1, s.2.1.set i (x.Memory.getD i 0), s.2.2.set i false) else s
theorem rd_lens (x : Copying) (m : Int) : ∀ i, (rd x m i).1 ≤ i ∧ (rd x m i).2.1.length = x.Copy.length ∧ (rd x m i).2.2.length = x.Dirty.length
  | 0 => by simp [rd]
  | i + 1 => by
    have := rd_lens x m i
    simp only [rd]
    cases x.Dirty.getD i false && decide (((rd x m i).1 : Int) < m) <;> simp <;> omega
theorem rd_later (x : Copying) (m : Int) : ∀ i j, i ≤ j → (rd x m i).2.2.getD j false = x.Dirty.getD j false
  | 0, j, _ => rfl
  | i + 1, j, h => by
    have := rd_later x m i j (by omega)
    simp only [rd]
    cases x.Dirty.getD i false && decide (((rd x m i).1 : Int) < m) with
    | false => exact this
    | true =>
      simp only [cond_true]
      rw [List.getD_eq_getElem?_getD, List.getElem?_set_ne (by omega), ← List.getD_eq_getElem?_getD]
      exact this
theorem rd_stop (x : Copying) (m : Int) {i : Nat} (h : ¬ (((rd x m i).1 : Int) < m)) : ∀ k, rd x m (i + k) = rd x m i
  | 0 => rfl
  | k + 1 => by
    have ih := rd_stop x m h k
    show rd x m ((i + k) + 1) = rd x m i
    simp only [rd, ih, h, decide_false, Bool.and_false, cond_false]
theorem s_round (x : Copying) (m : Int) (hf : fits x 1048576) (hl : 1 ≤ x.Memory.length ∧ x.Memory.length ≤ 12 ∧ x.Copy.length = x.Memory.length ∧ x.Dirty.length = x.Memory.length) : M.s_l19Round x m = some (⟨x.Memory, (rd x m x.Memory.length).2.1, (rd x m x.Memory.length).2.2⟩, ((rd x m x.Memory.length).1 : Int)) := by
  unfold M.s_l19Round
  rw [s_own x hf, Option.bind_some]
  have step : ∀ i, i < x.Memory.length → ((rd x m i).1 : Int) < m →
      (Option.bind (gxIdx x.Dirty (i : Int)) fun y3060 =>
        Option.bind (α := Int × List Int × List Bool) (bif y3060 then (Option.bind (gxIdx x.Memory (i : Int)) fun y3122 =>
        Option.bind (gxIdx (rd x m i).2.1 (i : Int)) fun y3158 =>
        Option.bind (gxIdx (rd x m i).2.2 (i : Int)) fun y3164 =>
        some (w64 (((rd x m i).1 : Int) + 1), ((rd x m i).2.1.set (i : Int).toNat y3122), ((rd x m i).2.2.set (i : Int).toNat false)))
        else some (((rd x m i).1 : Int), (rd x m i).2.1, (rd x m i).2.2)) fun o3112 =>
        some (Sum.inl (β := Int × List Int × List Bool) (o3112.1, w64 ((i : Int) + 1), o3112.2.1, o3112.2.2))) = some (.inl (((rd x m (i + 1)).1 : Int), ((i + 1 : Nat) : Int), (rd x m (i + 1)).2.1, (rd x m (i + 1)).2.2)) := by
    intro i hi hm
    have hr := rd_lens x m i
    have i1 : i < x.Dirty.length := by omega
    have i2 : i < (rd x m i).2.1.length := by omega
    have i3 : i < (rd x m i).2.2.length := by omega
    simp only [gxIdx_nat i1, gxIdx_nat hi, gxIdx_nat i2, gxIdx_nat i3, Option.bind_some, Int.toNat_natCast, w64_succ (show i ≤ 4611686018427387904 by omega), w64_succ (show (rd x m i).1 ≤ 4611686018427387904 by omega)]
    have hd : x.Dirty.getD i false = x.Dirty[i] := by rw [List.getD_eq_getElem?_getD, List.getElem?_eq_getElem i1]; rfl
    have hme : x.Memory.getD i 0 = x.Memory[i] := by rw [List.getD_eq_getElem?_getD, List.getElem?_eq_getElem hi]; rfl
    simp only [rd, hd, hme, hm, decide_true, Bool.and_true]
    cases x.Dirty[i] <;> rfl
  -- where the round ends
  have hex : ∃ k, k = x.Memory.length ∨ ¬ (((rd x m k).1 : Int) < m) := ⟨_, Or.inl rfl⟩
  obtain ⟨k, hk, hmin⟩ := exists_least hex
  have hkl : k ≤ x.Memory.length := hmin _ (Or.inl rfl)
  have hkr : rd x m x.Memory.length = rd x m k := by
    rcases hk with hk | hk
    · rw [hk]
    · have := rd_stop x m hk (x.Memory.length - k)
      rwa [show k + (x.Memory.length - k) = x.Memory.length by omega] at this
  rw [hkr, while_run (fun i => (((rd x m i).1 : Int), (i : Int), (rd x m i).2.1, (rd x m i).2.2)) (((rd x m k).1 : Int), (rd x m k).2.1, (rd x m k).2.2) k (by simp [rd]) (by omega)]
  · rfl
  · intro i hi
    have hi' : i < x.Memory.length := by omega
    have hm : ((rd x m i).1 : Int) < m := Classical.byContradiction fun hn => by
      have := hmin i (Or.inr hn); omega
    have e0 : ((i : Int) < (x.Dirty.length : Int)) := by omega
    have hs := step i hi' hm
    simp only [e0, hm, decide_true, cond_true, Option.bind_some]
    exact hs
  · by_cases e0 : ((k : Int) < (x.Dirty.length : Int))
    · have hn : ¬ (((rd x m k).1 : Int) < m) := by
        rcases hk with hk | hk
        · omega
        · exact hk
      simp only [e0, hn, decide_true, decide_false, cond_true, cond_false, Option.bind_some]
    · simp only [e0, decide_false, cond_false, Option.bind_some]
theorem i_round (x : Copying) (m : Int) (hf : fits x 1048576) (hl : 1 ≤ x.Memory.length ∧ x.Memory.length ≤ 12 ∧ x.Copy.length = x.Memory.length ∧ x.Dirty.length = x.Memory.length) : M.i_Copying_round x m = some (((rd x m x.Memory.length).1 : Int), x.Memory, (rd x m x.Memory.length).2.1, (rd x m x.Memory.length).2.2) := by
  unfold M.i_Copying_round
  rw [while_run (fun i => (((rd x m i).1 : Int), (i : Int), (rd x m i).2.1, (rd x m i).2.2)) (((rd x m x.Memory.length).1 : Int), (rd x m x.Memory.length).2.1, (rd x m x.Memory.length).2.2) x.Memory.length (by simp [rd]) (by omega)]
  · rfl
  · intro i hi
    have e0 : ((i : Int) < (x.Dirty.length : Int)) := by omega
    have hr := rd_lens x m i
    have i1 : i < x.Dirty.length := by omega
    have i2 : i < (rd x m i).2.1.length := by omega
    have i3 : i < (rd x m i).2.2.length := by omega
    have hd : x.Dirty.getD i false = (rd x m i).2.2[i] := by
      rw [← rd_later x m i i (Nat.le_refl _), List.getD_eq_getElem?_getD, List.getElem?_eq_getElem i3]; rfl
    have hme : x.Memory.getD i 0 = x.Memory[i] := by rw [List.getD_eq_getElem?_getD, List.getElem?_eq_getElem hi]; rfl
    simp only [e0, decide_true, cond_true, gxIdx_nat hi, gxIdx_nat i2, gxIdx_nat i3, Option.bind_some, Int.toNat_natCast, w64_succ (show i ≤ 4611686018427387904 by omega), w64_succ (show (rd x m i).1 ≤ 4611686018427387904 by omega)]
    simp only [rd, hd, hme]
    cases (rd x m i).2.2[i] with
    | false => rfl
    | true => cases decide (((rd x m i).1 : Int) < m) <;> rfl
  · have e0 : ¬ ((x.Memory.length : Int) < (x.Dirty.length : Int)) := by omega
    simp only [e0, decide_false, cond_false]
theorem rd_fits (x : Copying) (m : Int) (i : Nat) (hf : fits x 1048576) : fits ⟨x.Memory, (rd x m i).2.1, (rd x m i).2.2⟩ 1048576 := by
  have := rd_lens x m i
  obtain ⟨a, b, c⟩ := hf
  exact ⟨a, by simp only; omega, by simp only; omega⟩
theorem round_eq (x : Copying) (m : Int) (hf : fits x 1048576) : ∃ r, M.s_CopyRound x m = some r ∧ M.i_CopyRound x m = some r ∧ fits r.1 1048576 := by
  unfold M.s_CopyRound M.i_CopyRound
  simp only [s_good x hf, i_good x hf, s_in, i_in, Option.bind_some]
  cases h : isC x with
  | false => exact ⟨_, rfl, rfl, by simp [fits]⟩
  | true => cases hc : (decide (0 ≤ m) && decide (m ≤ 12)) with
    | false => exact ⟨_, rfl, rfl, by simp [fits]⟩
    | true =>
      simp only [i_new x hf, s_round x m hf (isC_lens h), i_round x m hf (isC_lens h), Option.bind_some, Bool.not_true, cond_false]
      exact ⟨_, rfl, rfl, rd_fits x m _ hf⟩
/-! ### A copy brought to its end -/
theorem rd_count (x : Copying) : ∀ i, i ≤ 12 → (rd x 12 i).1 = (dl x.Dirty i).length
  | 0, _ => rfl
  | i + 1, h => by
    have ih := rd_count x i (by omega)
    have hl := rd_lens x 12 i
    have hlt : (((rd x 12 i).1 : Int) < 12) := by omega
    simp only [rd, dl, hlt, decide_true, Bool.and_true, List.length_append]
    cases x.Dirty.getD i false <;> simp [ih]
theorem rd_copy (x : Copying) (hlen : x.Copy.length = x.Memory.length) (hok : ∀ i, i < x.Memory.length → okC x i = true) : ∀ i, i ≤ 12 → i ≤ x.Memory.length → (rd x 12 i).2.1 = x.Memory.take i ++ x.Copy.drop i
  | 0, _, _ => by simp [rd]
  | i + 1, h, hi => by
    have ih := rd_copy x hlen hok i (by omega) (by omega)
    have hl := rd_lens x 12 i
    have hlt : (((rd x 12 i).1 : Int) < 12) := by omega
    have hi' : i < x.Memory.length := by omega
    have hic : i < x.Copy.length := by omega
    have hme : x.Memory.getD i 0 = x.Memory[i] := by rw [List.getD_eq_getElem?_getD, List.getElem?_eq_getElem hi']; rfl
    have hco : x.Copy.getD i 0 = x.Copy[i] := by rw [List.getD_eq_getElem?_getD, List.getElem?_eq_getElem hic]; rfl
    have ho := hok i hi'
    unfold okC at ho
    rw [hme, hco] at ho
    have hdrop : x.Copy.drop i = x.Copy[i] :: x.Copy.drop (i + 1) := List.drop_eq_getElem_cons hic
    have htake : x.Memory.take (i + 1) = x.Memory.take i ++ [x.Memory[i]] := by rw [List.take_add_one, List.getElem?_eq_getElem hi']; rfl
    simp only [rd, hlt, decide_true, Bool.and_true]
    cases hd : x.Dirty.getD i false with
    | true =>
      simp only [cond_true]
      rw [ih, hme, hdrop, List.set_append_right _ _ (by simp; omega), htake]
      have : i - (x.Memory.take i).length = 0 := by simp; omega
      rw [this, List.set_cons_zero, List.append_assoc]
      rfl
    | false =>
      rw [hd, Bool.or_false] at ho
      have heq : x.Memory[i] = x.Copy[i] := by simpa using ho
      simp only [cond_false]
      rw [ih, hdrop, htake, heq, List.append_assoc]
      rfl
/-! ### Loops with an invariant -/
theorem while_inv_fuel {σ ρ : Type} {body : σ → Option (σ ⊕ ρ)} (R : Nat → σ → Prop) (Q : ρ → Prop) (n : Nat) (hstep : ∀ i s, i < n → R i s → (∃ s', body s = some (.inl s') ∧ R (i + 1) s') ∨ (∃ r, body s = some (.inr r) ∧ Q r)) (hend : ∀ s, R n s → ∃ r, body s = some (.inr r) ∧ Q r) : ∀ (k i fuel : Nat) (s : σ), i + k = n → k < fuel → R i s → ∃ r, whileM body fuel s = some r ∧ Q r
  | 0, i, fuel, s, hi, hf, hR => by
    obtain ⟨m, rfl⟩ : ∃ m, fuel = m + 1 := ⟨fuel - 1, by omega⟩
    obtain ⟨r, hr, hq⟩ := hend s (by rw [← hi]; exact hR)
    exact ⟨r, by simp only [whileM, hr], hq⟩
  | k + 1, i, fuel, s, hi, hf, hR => by
    obtain ⟨m, rfl⟩ : ∃ m, fuel = m + 1 := ⟨fuel - 1, by omega⟩
    rcases hstep i s (by omega) hR with ⟨s', hs, hR'⟩ | ⟨r, hr, hq⟩
    · obtain ⟨r, hr, hq⟩ := while_inv_fuel R Q n hstep hend k (i + 1) m s' (by omega) (by omega) hR'
      exact ⟨r, by simp only [whileM, hs]; exact hr, hq⟩
    · exact ⟨r, by simp only [whileM, hr], hq⟩
theorem while_inv {σ ρ : Type} {body : σ → Option (σ ⊕ ρ)} {s0 : σ} (R : Nat → σ → Prop) (Q : ρ → Prop) (n : Nat) (hn : n ≤ 4611686018427387904) (h0 : R 0 s0) (hstep : ∀ i s, i < n → R i s → (∃ s', body s = some (.inl s') ∧ R (i + 1) s') ∨ (∃ r, body s = some (.inr r) ∧ Q r)) (hend : ∀ s, R n s → ∃ r, body s = some (.inr r) ∧ Q r) : ∃ r, whileM body gxFuel s0 = some r ∧ Q r :=
  while_inv_fuel R Q n hstep hend n 0 gxFuel s0 (by omega) (by unfold gxFuel; omega) h0
theorem while_map {β : Type} (F : Nat → β) {n : Nat} {body : List β × Int → Option ((List β × Int) ⊕ List β)} (hl : n ≤ 1099511627776)
    (h : ∀ (i : Nat) (hi : i < n) (acc : List β), acc.length = i → body (acc, (i : Int)) = some (.inl (acc ++ [F i], w64 ((i : Int) + 1))))
    (he : ∀ acc : List β, acc.length = n → body (acc, (n : Int)) = some (.inr acc)) : whileM body gxFuel ([], 0) = some ((List.range n).map F) := by
  refine while_run (fun i => ((List.range i).map F, (i : Int))) _ n (by simp) (by omega) (fun i hi => ?_) (he _ (by simp))
  rw [h i hi _ (by simp), w64_succ (by omega), List.range_succ, List.map_append]
  rfl

end Go.Proofs.Ytjbblcdajdpfkaa
