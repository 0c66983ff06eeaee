/- Plain laws of the models: no program in sight. -/
import Derived.Test.YtllhajkgkghhdaaGreatAM
import Derived.Test.YtllhajkgkghhdaaGreatGxH
set_option linter.unusedVariables false
set_option linter.unusedSimpArgs false
set_option maxHeartbeats 4000000
namespace Go.Proofs.YtllhajkgkghhdaaGreat
open Go.Gx
/-! ### Ranges, loops that find -/
theorem s_in (x a b : Int) : M.s_l1In x a b = some (decide (a ≤ x) && decide (x ≤ b)) := by
  unfold M.s_l1In
  by_cases h : x ≥ a <;> simp [h]
theorem i_in (x a b : Int) : M.i_inside x a b = some (decide (a ≤ x) && decide (x ≤ b)) := by
  unfold M.i_inside
  by_cases h : x ≥ a <;> simp [h]
theorem while_first {σ ρ : Type} {body : σ → Option (σ ⊕ ρ)} {s0 : σ} (st : Nat → σ) (p : Nat → Bool) (hit : Nat → ρ) (r : ρ) (n : Nat) (h0 : s0 = st 0) (hn : n ≤ 4611686018427387904) (h : ∀ i, i < n → body (st i) = some (bif p i then .inr (hit i) else .inl (st (i + 1)))) (he : body (st n) = some (.inr r)) :
    whileM body gxFuel s0 = some (match (List.range n).find? p with
      | some i => hit i
      | none => r) := by
  cases hf : (List.range n).find? p with
  | none =>
    rw [List.find?_eq_none] at hf
    refine while_run st r n h0 hn (fun i hi => ?_) he
    have : p i = false := by
      have := hf i (List.mem_range.2 hi)
      simpa using this
    rw [h i hi, this]
    rfl
  | some i =>
    rw [List.find?_range_eq_some] at hf
    obtain ⟨h1, h2, h3⟩ := hf
    have hi : i < n := List.mem_range.1 h2
    refine while_run st (hit i) i h0 (by omega) (fun j hj => ?_) (by rw [h i hi, h1]; rfl)
    have : p j = false := by
      have := h3 j hj
      simpa using this
    rw [h j (by omega), this]
    rfl
theorem while_all {σ ρ : Type} {body : σ → Option (σ ⊕ ρ)} {s0 : σ} (st : Nat → σ) (ok : Nat → Bool) (bad r : ρ) (n : Nat) (h0 : s0 = st 0) (hn : n ≤ 4611686018427387904) (h : ∀ i, i < n → body (st i) = some (bif ok i then .inl (st (i + 1)) else .inr bad)) (he : body (st n) = some (.inr r)) :
    whileM body gxFuel s0 = some (bif (List.range n).all ok then r else bad) := by
  rw [while_first st (fun i => !(ok i)) (fun _ => bad) r n h0 hn (fun i hi => by rw [h i hi]; cases ok i <;> rfl) he]
  cases hf : (List.range n).find? (fun i => !(ok i)) with
  | none =>
    rw [List.find?_eq_none] at hf
    have : (List.range n).all ok = true := List.all_eq_true.2 fun i hi => by simpa using hf i hi
    rw [this]
    rfl
  | some i =>
    have h1 := List.find?_some hf
    have h2 := List.mem_of_find?_eq_some hf
    have : (List.range n).all ok = false := by
      rw [List.all_eq_false]
      exact ⟨i, h2, by simpa using h1⟩
    rw [this]
    rfl
theorem gxIdx_prevG {α : Type} {xs : List α} {i : Nat} (h : i < xs.length) (h0 : 0 < i) (hl : i ≤ 4611686018427387904) : gxIdx xs (w64 ((i : Int) - 1)) = some (xs[i - 1]'(by omega)) := by
  rw [w64_id (by omega) (by omega), show ((i : Int) - 1) = ((i - 1 : Nat) : Int) by omega]
  exact gxIdx_nat (by omega)
theorem getD_at {α : Type} {xs : List α} {i : Nat} {z : α} (h : i < xs.length) : xs.getD i z = xs[i] := by
  rw [List.getD_eq_getElem?_getD, List.getElem?_eq_getElem h]; rfl

/-! ### Slices of integers -/
theorem eqIntS_refl (xs : List Int) (h : xs.length ≤ 4611686018427387904) : M.l_eqIntS xs xs = some true := by
  unfold M.l_eqIntS
  rw [while_run (fun i => (i : Int)) (Sum.inl ()) xs.length (by simp) h]
  · simp
  · intro i hi
    have h1 : ((i : Int) < (xs.length : Int)) := by omega
    simp [h1, gxIdx_nat hi, w64_succ (show i ≤ 4611686018427387904 by omega)]
  · simp
theorem toIntS_id (xs : List Int) (h : xs.length ≤ 1099511627776) : M.l_toIntS xs = some xs := by
  unfold M.l_toIntS
  rw [gxMake_nat (by omega), Option.bind_some, while_run (fun i => ((i : Int), taken xs 0 i)) xs xs.length (by simp [taken_zero]) (by omega)]
  · rfl
  · intro i hi
    have h1 : ((i : Int) < (xs.length : Int)) := by omega
    have h2 : i < (taken xs 0 i).length := by rw [taken_length (by omega)]; exact hi
    simp [h1, gxIdx_nat hi, gxIdx_nat h2, w64_succ (show i ≤ 4611686018427387904 by omega), taken_set hi]
  · simp [taken_all]
theorem markIntS_ok (xs : List Int) (k : Nat) (h : k + xs.length ≤ 1099511627776) : M.l_markIntS xs k = some (((k + xs.length : Nat) : Int), marks k xs.length) := by
  unfold M.l_markIntS
  rw [while_run (fun i => (((k + i : Nat) : Int), (i : Int), marked k xs i)) (((k + xs.length : Nat) : Int), marks k xs.length) xs.length (by simp [marked_zero]) (by omega)]
  · rfl
  · intro i hi
    have h0 : (marked k xs i).length = xs.length := marked_length (by omega)
    have h1 : ((i : Int) < (xs.length : Int)) := by omega
    have h2 : i < (marked k xs i).length := by omega
    simp only [h0, h1, gxIdx_nat h2, decide_true, cond_true, Option.bind_some, Int.toNat_natCast, marked_set hi, w64_succ (show i ≤ 4611686018427387904 by omega), w64_succ (show k + i ≤ 4611686018427387904 by omega)]
    rfl
  · have h0 : (marked k xs xs.length).length = xs.length := marked_length (by omega)
    simp [marked_all, marks_length]
theorem heldIntS_ok (k n : Nat) (h : k + n ≤ 1099511627776) : M.l_heldIntS (marks k n) k = some ((k + n : Nat) : Int) := by
  unfold M.l_heldIntS
  rw [while_run (fun i => (((k + i : Nat) : Int), (i : Int))) (Sum.inl ((k + n : Nat) : Int)) n (by simp) (by omega)]
  · rfl
  · intro i hi
    have h1 : ((i : Int) < (n : Int)) := by omega
    have h2 : i < (marks k n).length := by rw [marks_length]; exact hi
    simp only [marks_length, h1, gxIdx_nat h2, marks_get, decide_true, cond_true, Option.bind_some, bne_self_eq_false, cond_false, w64_succ (show i ≤ 4611686018427387904 by omega), w64_succ (show k + i ≤ 4611686018427387904 by omega)]
    rfl
  · simp [marks_length]

theorem markIntS_held (xs : List Int) (k : Nat) (h : k + xs.length ≤ 1099511627776) : ∃ (n : Nat) (m : List Int), M.l_markIntS xs k = some ((n : Int), m) ∧ M.l_heldIntS m k = some (n : Int) ∧ k ≤ n ∧ n = k + xs.length :=
  ⟨k + xs.length, marks k xs.length, markIntS_ok xs k h, heldIntS_ok k xs.length h, by omega, rfl⟩

/-! ### Slices of Bools -/
def bmark (k : Nat) : Bool := ((k : Int).tmod 3) == 0
def bmarks (k n : Nat) : List Bool := (List.range n).map fun i => bmark (k + i)
theorem bmarks_length (k n : Nat) : (bmarks k n).length = n := by simp [bmarks]
theorem bmarks_get {k n i : Nat} (h : i < (bmarks k n).length) : (bmarks k n)[i] = bmark (k + i) := by simp [bmarks]
def bmarked (k : Nat) (xs : List Bool) (i : Nat) : List Bool := bmarks k i ++ xs.drop i
theorem bmarked_length {k : Nat} {xs : List Bool} {i : Nat} (h : i ≤ xs.length) : (bmarked k xs i).length = xs.length := by
  simp [bmarked, bmarks_length]; omega
theorem bmarked_set {k : Nat} {xs : List Bool} {i : Nat} (h : i < xs.length) : (bmarked k xs i).set i (bmark (k + i)) = bmarked k xs (i + 1) := by
  unfold bmarked
  rw [List.set_append_right _ _ (by simp [bmarks_length]), bmarks_length, Nat.sub_self, List.drop_eq_getElem_cons h, List.set_cons_zero]
  unfold bmarks
  rw [List.range_succ, List.map_append, List.append_assoc]
  rfl
theorem eqBoolS_refl (xs : List Bool) (h : xs.length ≤ 4611686018427387904) : M.l_eqBoolS xs xs = some true := by
  unfold M.l_eqBoolS
  rw [while_run (fun i => (i : Int)) (Sum.inl ()) xs.length (by simp) h]
  · simp
  · intro i hi
    have h1 : ((i : Int) < (xs.length : Int)) := by omega
    simp [h1, gxIdx_nat hi, w64_succ (show i ≤ 4611686018427387904 by omega)]
  · simp
theorem toBoolS_id (xs : List Bool) (h : xs.length ≤ 1099511627776) : M.l_toBoolS xs = some xs := by
  unfold M.l_toBoolS
  rw [gxMake_nat (by omega), Option.bind_some, while_run (fun i => ((i : Int), taken xs false i)) xs xs.length (by simp [taken_zero]) (by omega)]
  · rfl
  · intro i hi
    have h1 : ((i : Int) < (xs.length : Int)) := by omega
    have h2 : i < (taken xs false i).length := by rw [taken_length (by omega)]; exact hi
    simp [h1, gxIdx_nat hi, gxIdx_nat h2, w64_succ (show i ≤ 4611686018427387904 by omega), taken_set hi]
  · simp [taken_all]
theorem markBoolS_ok (xs : List Bool) (k : Nat) (h : k + xs.length ≤ 1099511627776) : M.l_markBoolS xs k = some (((k + xs.length : Nat) : Int), bmarks k xs.length) := by
  unfold M.l_markBoolS
  rw [while_run (fun i => (((k + i : Nat) : Int), (i : Int), bmarked k xs i)) (((k + xs.length : Nat) : Int), bmarks k xs.length) xs.length (by simp [bmarked, bmarks]) (by omega)]
  · rfl
  · intro i hi
    have h0 : (bmarked k xs i).length = xs.length := bmarked_length (by omega)
    have h1 : ((i : Int) < (xs.length : Int)) := by omega
    have h2 : i < (bmarked k xs i).length := by omega
    have h3 := bmarked_set (k := k) hi
    unfold bmark at h3
    simp only [h0, h1, gxIdx_nat h2, decide_true, cond_true, Option.bind_some, Int.toNat_natCast, h3, w64_succ (show i ≤ 4611686018427387904 by omega), w64_succ (show k + i ≤ 4611686018427387904 by omega)]
    rfl
  · simp [bmarked, bmarks_length]
theorem szBoolS_ok (xs : List Bool) (left : Int) (h : xs.length ≤ 9223372036854775807) (hl : -1 ≤ left ∧ left ≤ 1048576) : M.l_szBoolS xs left = some (if left < xs.length then -1 else left - xs.length) := by
  unfold M.l_szBoolS
  rw [w64_id (by omega) (by omega)]
  by_cases hc : left < xs.length
  · have : left - (xs.length : Int) < 0 := by omega
    simp [hc, this]
  · have : ¬ (left - (xs.length : Int) < 0) := by omega
    simp [hc, this]

/-! ### Marks, in general -/
/-- Each element gets numbers from k on. -/
def gmk {α : Type} (f : α → Nat → Nat × α) : List α → Nat → Nat × List α
  | [], k => (k, [])
  | x :: r, k => ((gmk f r (f x k).1).1, (f x k).2 :: (gmk f r (f x k).1).2)
theorem gmk_app {α : Type} {f : α → Nat → Nat × α} : ∀ (a b : List α) (k : Nat), gmk f (a ++ b) k = ((gmk f b (gmk f a k).1).1, (gmk f a k).2 ++ (gmk f b (gmk f a k).1).2)
  | [], b, k => rfl
  | x :: r, b, k => by simp only [List.cons_append, gmk, gmk_app r b]
theorem gmk_len {α : Type} {f : α → Nat → Nat × α} : ∀ (a : List α) (k : Nat), (gmk f a k).2.length = a.length
  | [], k => rfl
  | x :: r, k => by simp only [gmk, List.length_cons, gmk_len r]
theorem gmk_succ {α : Type} {f : α → Nat → Nat × α} {xs : List α} {i : Nat} (h : i < xs.length) (k : Nat) : gmk f (xs.take (i + 1)) k = ((f xs[i] (gmk f (xs.take i) k).1).1, (gmk f (xs.take i) k).2 ++ [(f xs[i] (gmk f (xs.take i) k).1).2]) := by
  rw [List.take_add_one, List.getElem?_eq_getElem h, Option.toList_some, gmk_app]
  rfl
theorem gmk_mono {α : Type} {f : α → Nat → Nat × α} (hf : ∀ x k, k ≤ (f x k).1) : ∀ (a : List α) (k : Nat), k ≤ (gmk f a k).1
  | [], k => Nat.le_refl _
  | x :: r, k => Nat.le_trans (hf x k) (gmk_mono hf r _)
theorem gmk_take_le {α : Type} {f : α → Nat → Nat × α} (hf : ∀ x k, k ≤ (f x k).1) (xs : List α) (k i : Nat) : (gmk f (xs.take i) k).1 ≤ (gmk f xs k).1 := by
  have : gmk f xs k = gmk f (xs.take i ++ xs.drop i) k := by rw [List.take_append_drop]
  rw [this, gmk_app]
  exact gmk_mono hf _ _
theorem gmk_get {α : Type} {f : α → Nat → Nat × α} {xs : List α} {i : Nat} (h : i < xs.length) (k : Nat) (h2 : i < (gmk f xs k).2.length) : (gmk f xs k).2[i] = (f xs[i] (gmk f (xs.take i) k).1).2 := by
  have e : gmk f xs k = gmk f (xs.take (i + 1) ++ xs.drop (i + 1)) k := by rw [List.take_append_drop]
  have h3 : (gmk f xs k).2 = (gmk f (xs.take i) k).2 ++ ([(f xs[i] (gmk f (xs.take i) k).1).2] ++ (gmk f (xs.drop (i + 1)) (gmk f (xs.take (i + 1)) k).1).2) := by
    rw [e, gmk_app, gmk_succ h]
    simp
  have hl : (gmk f (xs.take i) k).2.length = i := by rw [gmk_len]; simp; omega
  have : (gmk f xs k).2[i]? = some (f xs[i] (gmk f (xs.take i) k).1).2 := by
    rw [h3, List.getElem?_append_right (by omega), hl, Nat.sub_self]
    rfl
  rw [List.getElem?_eq_getElem h2] at this
  exact Option.some.inj this
theorem mark_run {α : Type} (f : α → Nat → Nat × α) {xs : List α} {k : Nat} {body : Int × Int × List α → Option ((Int × Int × List α) ⊕ (Int × List α))} (hf : ∀ x k, k ≤ (f x k).1) (hb : (gmk f xs k).1 ≤ 1099511627776) (hl : xs.length ≤ 1099511627776)
    (h : ∀ (i : Nat) (hi : i < xs.length) (K : Nat) (L : List α) (hL : i < L.length), (f xs[i] K).1 ≤ 1099511627776 → L[i] = xs[i] → L.length = xs.length → body ((K : Int), (i : Int), L) = some (.inl (((f xs[i] K).1 : Int), w64 ((i : Int) + 1), L.set i (f xs[i] K).2)))
    (he : ∀ (K : Int) (L : List α), L.length = xs.length → body (K, (xs.length : Int), L) = some (.inr (K, L))) : whileM body gxFuel ((k : Int), 0, xs) = some (((gmk f xs k).1 : Int), (gmk f xs k).2) := by
  refine while_run (fun i => (((gmk f (xs.take i) k).1 : Int), (i : Int), (gmk f (xs.take i) k).2 ++ xs.drop i)) _ xs.length (by simp [gmk]) (by omega) (fun i hi => ?_) ?_
  · have hll : (gmk f (xs.take i) k).2.length = i := by rw [gmk_len]; simp; omega
    have hL : i < ((gmk f (xs.take i) k).2 ++ xs.drop i).length := by simp [hll]; omega
    have hs := gmk_succ (f := f) hi k
    have hle := gmk_take_le hf xs k (i + 1)
    rw [hs] at hle
    rw [h i hi _ _ hL (by simp only at hle; omega) (by rw [List.getElem_append_right (by omega)]; simp [hll]) (by simp [hll]; omega), hs, w64_succ (by omega)]
    congr 4
    rw [List.set_append_right _ _ (by omega), hll, Nat.sub_self, List.drop_eq_getElem_cons hi, List.set_cons_zero]
    simp
  · have := he ((gmk f (xs.take xs.length) k).1 : Int) ((gmk f (xs.take xs.length) k).2 ++ xs.drop xs.length) (by simp [gmk_len])
    rw [this]
    simp
theorem held_run {α : Type} (f : α → Nat → Nat × α) {xs : List α} {k : Nat} {body : Int × Int → Option ((Int × Int) ⊕ (Int ⊕ Int))} (hf : ∀ x k, k ≤ (f x k).1) (hb : (gmk f xs k).1 ≤ 1099511627776) (hl : xs.length ≤ 1099511627776)
    (h : ∀ (i : Nat) (hi : i < xs.length) (h2 : i < (gmk f xs k).2.length) (K : Nat), (f xs[i] K).1 ≤ 1099511627776 → (gmk f xs k).2[i] = (f xs[i] K).2 → body ((K : Int), (i : Int)) = some (.inl (((f xs[i] K).1 : Int), w64 ((i : Int) + 1))))
    (he : ∀ K : Int, body (K, (xs.length : Int)) = some (.inr (.inl K))) : whileM body gxFuel ((k : Int), 0) = some (.inl ((gmk f xs k).1 : Int)) := by
  refine while_run (fun i => (((gmk f (xs.take i) k).1 : Int), (i : Int))) _ xs.length (by simp [gmk]) (by omega) (fun i hi => ?_) ?_
  · have h2 : i < (gmk f xs k).2.length := by rw [gmk_len]; exact hi
    have hs := gmk_succ (f := f) hi k
    have hle := gmk_take_le hf xs k (i + 1)
    rw [hs] at hle
    rw [h i hi h2 _ (by simp only at hle; omega) (gmk_get hi k h2), hs, w64_succ (by omega)]
  · rw [he, List.take_length]
theorem gxIdx_same {α : Type} {xs : List α} {i : Nat} {a : α} (h : i < xs.length) : gxIdx (xs.set i a) (i : Int) = some a := by
  rw [gxIdx_nat (by simpa using h)]
  simp
theorem gmk_const {α : Type} {f : α → Nat → Nat × α} {W : Nat} (hf : ∀ x k, (f x k).1 = k + W) : ∀ (a : List α) (k : Nat), (gmk f a k).1 = k + W * a.length
  | [], k => by simp [gmk]
  | x :: r, k => by
    simp only [gmk, gmk_const hf r, hf, List.length_cons, Nat.mul_add, Nat.mul_one]
    omega
theorem nat_nlt (n : Nat) : decide ((n : Int) < 0) = false := by simp
theorem sz_simple {n left : Int} (h0 : 0 ≤ n ∧ n ≤ 9223372036854775807) (hl : -1 ≤ left ∧ left ≤ 1048576) : ∃ q, (bif decide (w64 (left - n) < 0) then some (-1) else some (w64 (left - n))) = some q ∧ (q < 0 ∨ (0 ≤ q ∧ q ≤ left ∧ n ≤ left - q)) := by
  rw [w64_id (by omega) (by omega)]
  by_cases hc : left - n < 0
  · exact ⟨-1, by simp [hc], Or.inl (by omega)⟩
  · exact ⟨left - n, by simp [hc], Or.inr (by omega)⟩

/-! ### Route -/
def okRoute (x : Route) : Prop := okI x.Priority ∧ okI x.Target
theorem eqRoute_refl (x : Route) : M.l_eqRoute x x = some true := by unfold M.l_eqRoute; simp
theorem eqRouteS_refl (xs : List Route) (h : xs.length ≤ 4611686018427387904) : M.l_eqRouteS xs xs = some true := by
  unfold M.l_eqRouteS
  rw [while_run (fun i => (i : Int)) (Sum.inl ()) xs.length (by simp) h]
  · simp
  · intro i hi
    have h1 : ((i : Int) < (xs.length : Int)) := by omega
    simp [h1, gxIdx_nat hi, eqRoute_refl, w64_succ (show i ≤ 4611686018427387904 by omega)]
  · simp
theorem toRouteS_id (xs : List Route) (h : xs.length ≤ 1099511627776) : M.l_toRouteS xs = some xs := by
  unfold M.l_toRouteS
  rw [gxMake_nat (by omega), Option.bind_some, while_run (fun i => ((i : Int), taken xs (⟨0, 0⟩ : Route) i)) xs xs.length (by simp [taken_zero]) (by omega)]
  · rfl
  · intro i hi
    have h1 : ((i : Int) < (xs.length : Int)) := by omega
    have h2 : i < (taken xs (⟨0, 0⟩ : Route) i).length := by rw [taken_length (by omega)]; exact hi
    simp [h1, gxIdx_nat hi, gxIdx_nat h2, M.l_toRoute, w64_succ (show i ≤ 4611686018427387904 by omega), taken_set hi]
  · simp [taken_all]
theorem toRoute_id (x : Route) : M.l_toRoute x = some x := rfl
theorem szRouteS_ex (xs : List Route) (left : Int) (h : okL okRoute xs) (hl : -1 ≤ left ∧ left ≤ 1048576) : ∃ q, M.l_szRouteS xs left = some q ∧ (q < 0 ∨ (0 ≤ q ∧ q ≤ left ∧ (xs.length : Int) ≤ left - q)) := by
  unfold M.l_szRouteS
  have := h.1
  exact sz_simple (by omega) hl
def mkRoute (x : Route) (k : Nat) : Nat × Route := (k + 2, ⟨((k : Nat) : Int), (((k + 1) : Nat) : Int)⟩)
/-! ### Slot -/
def okSlot (x : Slot) : Prop := okI x.State ∧ okI x.Irq ∧ okI x.Priority
theorem eqSlot_refl (x : Slot) : M.l_eqSlot x x = some true := by unfold M.l_eqSlot; simp
theorem eqSlotS_refl (xs : List Slot) (h : xs.length ≤ 4611686018427387904) : M.l_eqSlotS xs xs = some true := by
  unfold M.l_eqSlotS
  rw [while_run (fun i => (i : Int)) (Sum.inl ()) xs.length (by simp) h]
  · simp
  · intro i hi
    have h1 : ((i : Int) < (xs.length : Int)) := by omega
    simp [h1, gxIdx_nat hi, eqSlot_refl, w64_succ (show i ≤ 4611686018427387904 by omega)]
  · simp
theorem toSlotS_id (xs : List Slot) (h : xs.length ≤ 1099511627776) : M.l_toSlotS xs = some xs := by
  unfold M.l_toSlotS
  rw [gxMake_nat (by omega), Option.bind_some, while_run (fun i => ((i : Int), taken xs (⟨0, 0, 0⟩ : Slot) i)) xs xs.length (by simp [taken_zero]) (by omega)]
  · rfl
  · intro i hi
    have h1 : ((i : Int) < (xs.length : Int)) := by omega
    have h2 : i < (taken xs (⟨0, 0, 0⟩ : Slot) i).length := by rw [taken_length (by omega)]; exact hi
    simp [h1, gxIdx_nat hi, gxIdx_nat h2, M.l_toSlot, w64_succ (show i ≤ 4611686018427387904 by omega), taken_set hi]
  · simp [taken_all]
theorem toSlot_id (x : Slot) : M.l_toSlot x = some x := rfl
theorem szSlotS_ex (xs : List Slot) (left : Int) (h : okL okSlot xs) (hl : -1 ≤ left ∧ left ≤ 1048576) : ∃ q, M.l_szSlotS xs left = some q ∧ (q < 0 ∨ (0 ≤ q ∧ q ≤ left ∧ (xs.length : Int) ≤ left - q)) := by
  unfold M.l_szSlotS
  have := h.1
  exact sz_simple (by omega) hl
def mkSlot (x : Slot) (k : Nat) : Nat × Slot := (k + 3, ⟨((k : Nat) : Int), (((k + 1) : Nat) : Int), (((k + 2) : Nat) : Int)⟩)
/-! ### Waiter -/
def okWaiter (x : Waiter) : Prop := okI x.Irq ∧ okI x.Priority
theorem eqWaiter_refl (x : Waiter) : M.l_eqWaiter x x = some true := by unfold M.l_eqWaiter; simp
theorem eqWaiterS_refl (xs : List Waiter) (h : xs.length ≤ 4611686018427387904) : M.l_eqWaiterS xs xs = some true := by
  unfold M.l_eqWaiterS
  rw [while_run (fun i => (i : Int)) (Sum.inl ()) xs.length (by simp) h]
  · simp
  · intro i hi
    have h1 : ((i : Int) < (xs.length : Int)) := by omega
    simp [h1, gxIdx_nat hi, eqWaiter_refl, w64_succ (show i ≤ 4611686018427387904 by omega)]
  · simp
theorem toWaiterS_id (xs : List Waiter) (h : xs.length ≤ 1099511627776) : M.l_toWaiterS xs = some xs := by
  unfold M.l_toWaiterS
  rw [gxMake_nat (by omega), Option.bind_some, while_run (fun i => ((i : Int), taken xs (⟨0, 0⟩ : Waiter) i)) xs xs.length (by simp [taken_zero]) (by omega)]
  · rfl
  · intro i hi
    have h1 : ((i : Int) < (xs.length : Int)) := by omega
    have h2 : i < (taken xs (⟨0, 0⟩ : Waiter) i).length := by rw [taken_length (by omega)]; exact hi
    simp [h1, gxIdx_nat hi, gxIdx_nat h2, M.l_toWaiter, w64_succ (show i ≤ 4611686018427387904 by omega), taken_set hi]
  · simp [taken_all]
theorem toWaiter_id (x : Waiter) : M.l_toWaiter x = some x := rfl
theorem szWaiterS_ex (xs : List Waiter) (left : Int) (h : okL okWaiter xs) (hl : -1 ≤ left ∧ left ≤ 1048576) : ∃ q, M.l_szWaiterS xs left = some q ∧ (q < 0 ∨ (0 ≤ q ∧ q ≤ left ∧ (xs.length : Int) ≤ left - q)) := by
  unfold M.l_szWaiterS
  have := h.1
  exact sz_simple (by omega) hl
def mkWaiter (x : Waiter) (k : Nat) : Nat × Waiter := (k + 2, ⟨((k : Nat) : Int), (((k + 1) : Nat) : Int)⟩)
/-! ### Route -/
/-! ### Slot -/
/-! ### Waiter -/
/-! ### Machines -/
theorem eqQueue_refl (x : Queue) (h : x.Slots.length ≤ 1048576 ∧ x.Waiting.length ≤ 1048576) : M.l_eqQueue x x = some true := by
  unfold M.l_eqQueue
  simp only [eqSlotS_refl _ (show x.Slots.length ≤ 4611686018427387904 by omega), eqWaiterS_refl _ (show x.Waiting.length ≤ 4611686018427387904 by omega), Option.bind_some, Bool.not_true, cond_false]
def fitIf (x : Interface) : Prop := x.Stack.length ≤ 1048576 ∧ x.Queue.Slots.length ≤ 1048576 ∧ x.Queue.Waiting.length ≤ 1048576
theorem eqInterface_refl (x : Interface) (h : fitIf x) : M.l_eqInterface x x = some true := by
  unfold M.l_eqInterface
  have h1 := eqQueue_refl x.Queue h.2
  simp only [eqIntS_refl _ (show x.Stack.length ≤ 4611686018427387904 by have := h.1; omega), h1, Option.bind_some, Bool.not_true, cond_false, bne_self_eq_false]
theorem eqInterfaceS_refl (xs : List Interface) (hl : xs.length ≤ 1048576) (h : ∀ x ∈ xs, fitIf x) : M.l_eqInterfaceS xs xs = some true := by
  unfold M.l_eqInterfaceS
  rw [while_run (fun i => (i : Int)) (Sum.inl ()) xs.length (by simp) (by omega)]
  · simp
  · intro i hi
    have h1 : ((i : Int) < (xs.length : Int)) := by omega
    have h2 := eqInterface_refl xs[i] (h _ (List.getElem_mem hi))
    simp only [h1, decide_true, cond_true, gxIdx_nat hi, Option.bind_some]
    rw [h2]
    simp only [Option.bind_some, Bool.not_true, cond_false, w64_succ (show i ≤ 4611686018427387904 by omega)]
  · simp
def wIf (x : Interface) : Nat := 1 + x.Stack.length + 3 * x.Queue.Slots.length + 2 * x.Queue.Waiting.length
def mkIf (x : Interface) (k : Nat) : Nat × Interface := (k + wIf x, ⟨(k : Int), marks (k + 1) x.Stack.length, ⟨(gmk mkSlot x.Queue.Slots (k + 1 + x.Stack.length)).2, (gmk mkWaiter x.Queue.Waiting (k + 1 + x.Stack.length + 3 * x.Queue.Slots.length)).2⟩⟩)
def wIfs (xs : List Interface) : Nat := (xs.map wIf).sum
theorem mkIf_sum : ∀ (xs : List Interface) (k : Nat), (gmk mkIf xs k).1 = k + wIfs xs
  | [], k => by simp [gmk, wIfs]
  | x :: r, k => by
    simp only [gmk, mkIf_sum r, mkIf, wIfs, List.map_cons, List.sum_cons]
    omega
def fitM (m : Machine) : Prop := m.Routes.length ≤ 1048576 ∧ m.Enabled.length ≤ 1048576 ∧ m.Raised.length ≤ 1048576 ∧ m.Cpus.length ≤ 1048576 ∧ (∀ x ∈ m.Cpus, fitIf x) ∧ wIfs m.Cpus ≤ 1099500000000
theorem eqMachine_refl (m : Machine) (h : fitM m) : M.l_eqMachine m m = some true := by
  obtain ⟨h1, h2, h3, h4, h5, _⟩ := h
  unfold M.l_eqMachine
  simp only [eqRouteS_refl _ (show m.Routes.length ≤ 4611686018427387904 by omega), eqBoolS_refl _ (show m.Enabled.length ≤ 4611686018427387904 by omega), eqBoolS_refl _ (show m.Raised.length ≤ 4611686018427387904 by omega), eqInterfaceS_refl _ h4 h5, Option.bind_some, Bool.not_true, cond_false]
/-! ### The routes -/
def okRt (c : Int) (r : Route) : Bool := (decide (0 ≤ r.Priority) && decide (r.Priority ≤ 15)) && (decide (0 ≤ r.Target) && decide (r.Target ≤ w64 (c - 1)))
def okRts (xs : List Route) (c : Int) : Bool := (decide (1 ≤ c) && decide (c ≤ 2)) && (((xs.length : Int) == 8) && (List.range xs.length).all (fun i => okRt c (xs.getD i ⟨0, 0⟩)))
theorem s_routes (xs : List Route) (c : Int) (h : xs.length ≤ 1048576) : M.s_l21Routes xs c = some (okRts xs c) := by
  unfold M.s_l21Routes okRts
  rw [while_all (fun i => (i : Int)) (fun i => okRt c (xs.getD i ⟨0, 0⟩)) (.inr false) (.inl ()) xs.length (by simp) (by omega)]
  · cases (List.range xs.length).all (fun i => okRt c (xs.getD i ⟨0, 0⟩)) with
    | false => simp
    | true =>
      simp only [cond_true, Option.bind_some, Sum.elim_inl, s_in, Bool.and_true]
      cases (decide (1 ≤ c) && decide (c ≤ 2)) <;> rfl
  · intro i hi
    have e0 : ((i : Int) < (xs.length : Int)) := by omega
    simp only [e0, decide_true, cond_true, gxIdx_nat hi, Option.bind_some, M.s_l6Prio, s_in, getD_at hi, w64_succ (show i ≤ 4611686018427387904 by omega)]
    unfold okRt
    cases (decide (0 ≤ xs[i].Priority) && decide (xs[i].Priority ≤ 15)) with
    | false => rfl
    | true =>
      simp only [Bool.not_true, cond_false, Option.bind_some, Bool.true_and]
      cases (decide (0 ≤ xs[i].Target) && decide (xs[i].Target ≤ w64 (c - 1))) <;> rfl
  · simp
def freshIf : Interface := ⟨16, [], ⟨[⟨0, 0, 0⟩, ⟨0, 0, 0⟩, ⟨0, 0, 0⟩, ⟨0, 0, 0⟩], []⟩⟩
end Go.Proofs.YtllhajkgkghhdaaGreat
