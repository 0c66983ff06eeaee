/- Plain laws of the models: no program in sight. -/
import Derived.Test.YtlfligjpmodefaaM
import Derived.Test.YtlfligjpmodefaaGxH
set_option linter.unusedVariables false
set_option linter.unusedSimpArgs false
set_option maxHeartbeats 4000000
namespace Go.Proofs.Ytlfligjpmodefaa
open Go.Gx
/-! ### Ranges, loops that find -/
theorem s_in (x a b : Int) : M.s_l1In x a b = some (decide (a ≤ x) && decide (x ≤ b)) := by
  unfold M.s_l1In
  by_cases h : x ≥ a <;> simp [h]
theorem i_in (x a b : Int) : M.i_inside x a b = some (decide (a ≤ x) && decide (x ≤ b)) := by
  unfold M.i_inside
  by_cases h : x ≥ a <;> simp [h]
theorem while_first {σ ρ : Type} {body : σ → Option (σ ⊕ ρ)} {s0 : σ} (st : Nat → σ) (p : Nat → Bool) (hit : Nat → ρ) (r : ρ) (n : Nat) (h0 : s0 = st 0) (hn : n ≤ 4611686018427387904) (h : ∀ i, i < n → body (st i) = some (bif p i then .inr (hit i) else .inl (st (i + 1)))) (he : body (st n) = some (.inr r)) :
    whileM body gxFuel s0 = some (match (List.range n).find? p with
      | some i => hit i
      | none => r) := by
  cases hf : (List.range n).find? p with
  | none =>
    rw [List.find?_eq_none] at hf
    refine while_run st r n h0 hn (fun i hi => ?_) he
    have : p i = false := by
      have := hf i (List.mem_range.2 hi)
      simpa using this
    rw [h i hi, this]
    rfl
  | some i =>
    rw [List.find?_range_eq_some] at hf
    obtain ⟨h1, h2, h3⟩ := hf
    have hi : i < n := List.mem_range.1 h2
    refine while_run st (hit i) i h0 (by omega) (fun j hj => ?_) (by rw [h i hi, h1]; rfl)
    have : p j = false := by
      have := h3 j hj
      simpa using this
    rw [h j (by omega), this]
    rfl
theorem while_all {σ ρ : Type} {body : σ → Option (σ ⊕ ρ)} {s0 : σ} (st : Nat → σ) (ok : Nat → Bool) (bad r : ρ) (n : Nat) (h0 : s0 = st 0) (hn : n ≤ 4611686018427387904) (h : ∀ i, i < n → body (st i) = some (bif ok i then .inl (st (i + 1)) else .inr bad)) (he : body (st n) = some (.inr r)) :
    whileM body gxFuel s0 = some (bif (List.range n).all ok then r else bad) := by
  rw [while_first st (fun i => !(ok i)) (fun _ => bad) r n h0 hn (fun i hi => by rw [h i hi]; cases ok i <;> rfl) he]
  cases hf : (List.range n).find? (fun i => !(ok i)) with
  | none =>
    rw [List.find?_eq_none] at hf
    have : (List.range n).all ok = true := List.all_eq_true.2 fun i hi => by simpa using hf i hi
    rw [this]
    rfl
  | some i =>
    have h1 := List.find?_some hf
    have h2 := List.mem_of_find?_eq_some hf
    have : (List.range n).all ok = false := by
      rw [List.all_eq_false]
      exact ⟨i, h2, by simpa using h1⟩
    rw [this]
    rfl
theorem gxIdx_prevG {α : Type} {xs : List α} {i : Nat} (h : i < xs.length) (h0 : 0 < i) (hl : i ≤ 4611686018427387904) : gxIdx xs (w64 ((i : Int) - 1)) = some (xs[i - 1]'(by omega)) := by
  rw [w64_id (by omega) (by omega), show ((i : Int) - 1) = ((i - 1 : Nat) : Int) by omega]
  exact gxIdx_nat (by omega)
theorem getD_at {α : Type} {xs : List α} {i : Nat} {z : α} (h : i < xs.length) : xs.getD i z = xs[i] := by
  rw [List.getD_eq_getElem?_getD, List.getElem?_eq_getElem h]; rfl
/-! ### Slices of integers -/
theorem eqIntS_refl (xs : List Int) (h : xs.length ≤ 4611686018427387904) : M.l_eqIntS xs xs = some true := by
  unfold M.l_eqIntS
  rw [while_run (fun i => (i : Int)) (Sum.inl ()) xs.length (by simp) h]
  · simp
  · intro i hi
    have h1 : ((i : Int) < (xs.length : Int)) := by omega
    simp [h1, gxIdx_nat hi, w64_succ (show i ≤ 4611686018427387904 by omega)]
  · simp
theorem toIntS_id (xs : List Int) (h : xs.length ≤ 1099511627776) : M.l_toIntS xs = some xs := by
  unfold M.l_toIntS
  rw [gxMake_nat (by omega), Option.bind_some, while_run (fun i => ((i : Int), taken xs 0 i)) xs xs.length (by simp [taken_zero]) (by omega)]
  · rfl
  · intro i hi
    have h1 : ((i : Int) < (xs.length : Int)) := by omega
    have h2 : i < (taken xs 0 i).length := by rw [taken_length (by omega)]; exact hi
    simp [h1, gxIdx_nat hi, gxIdx_nat h2, w64_succ (show i ≤ 4611686018427387904 by omega), taken_set hi]
  · simp [taken_all]
theorem markIntS_ok (xs : List Int) (k : Nat) (h : k + xs.length ≤ 1099511627776) : M.l_markIntS xs k = some (((k + xs.length : Nat) : Int), marks k xs.length) := by
  unfold M.l_markIntS
  rw [while_run (fun i => (((k + i : Nat) : Int), (i : Int), marked k xs i)) (((k + xs.length : Nat) : Int), marks k xs.length) xs.length (by simp [marked_zero]) (by omega)]
  · rfl
  · intro i hi
    have h0 : (marked k xs i).length = xs.length := marked_length (by omega)
    have h1 : ((i : Int) < (xs.length : Int)) := by omega
    have h2 : i < (marked k xs i).length := by omega
    simp only [h0, h1, gxIdx_nat h2, decide_true, cond_true, Option.bind_some, Int.toNat_natCast, marked_set hi, w64_succ (show i ≤ 4611686018427387904 by omega), w64_succ (show k + i ≤ 4611686018427387904 by omega)]
    rfl
  · have h0 : (marked k xs xs.length).length = xs.length := marked_length (by omega)
    simp [marked_all, marks_length]
theorem heldIntS_ok (k n : Nat) (h : k + n ≤ 1099511627776) : M.l_heldIntS (marks k n) k = some ((k + n : Nat) : Int) := by
  unfold M.l_heldIntS
  rw [while_run (fun i => (((k + i : Nat) : Int), (i : Int))) (Sum.inl ((k + n : Nat) : Int)) n (by simp) (by omega)]
  · rfl
  · intro i hi
    have h1 : ((i : Int) < (n : Int)) := by omega
    have h2 : i < (marks k n).length := by rw [marks_length]; exact hi
    simp only [marks_length, h1, gxIdx_nat h2, marks_get, decide_true, cond_true, Option.bind_some, bne_self_eq_false, cond_false, w64_succ (show i ≤ 4611686018427387904 by omega), w64_succ (show k + i ≤ 4611686018427387904 by omega)]
    rfl
  · simp [marks_length]
theorem markIntS_held (xs : List Int) (k : Nat) (h : k + xs.length ≤ 1099511627776) : ∃ (n : Nat) (m : List Int), M.l_markIntS xs k = some ((n : Int), m) ∧ M.l_heldIntS m k = some (n : Int) ∧ k ≤ n ∧ n = k + xs.length :=
  ⟨k + xs.length, marks k xs.length, markIntS_ok xs k h, heldIntS_ok k xs.length h, by omega, rfl⟩
/-! ### Marks, in general -/
/-- Each element gets numbers from k on. -/
def gmk {α : Type} (f : α → Nat → Nat × α) : List α → Nat → Nat × List α
  | [], k => (k, [])
  | x :: r, k => ((gmk f r (f x k).1).1, (f x k).2 :: (gmk f r (f x k).1).2)
theorem gmk_app {α : Type} {f : α → Nat → Nat × α} : ∀ (a b : List α) (k : Nat), gmk f (a ++ b) k = ((gmk f b (gmk f a k).1).1, (gmk f a k).2 ++ (gmk f b (gmk f a k).1).2)
  | [], b, k => rfl
  | x :: r, b, k => by simp only [List.cons_append, gmk, gmk_app r b]
theorem gmk_len {α : Type} {f : α → Nat → Nat × α} : ∀ (a : List α) (k : Nat), (gmk f a k).2.length = a.length
  | [], k => rfl
  | x :: r, k => by simp only [gmk, List.length_cons, gmk_len r]
theorem gmk_succ {α : Type} {f : α → Nat → Nat × α} {xs : List α} {i : Nat} (h : i < xs.length) (k : Nat) : gmk f (xs.take (i + 1)) k = ((f xs[i] (gmk f (xs.take i) k).1).1, (gmk f (xs.take i) k).2 ++ [(f xs[i] (gmk f (xs.take i) k).1).2]) := by
  rw [List.take_add_one, List.getElem?_eq_getElem h, Option.toList_some, gmk_app]
  rfl
theorem gmk_mono {α : Type} {f : α → Nat → Nat × α} (hf : ∀ x k, k ≤ (f x k).1) : ∀ (a : List α) (k : Nat), k ≤ (gmk f a k).1
  | [], k => Nat.le_refl _
  | x :: r, k => Nat.le_trans (hf x k) (gmk_mono hf r _)
theorem gmk_take_le {α : Type} {f : α → Nat → Nat × α} (hf : ∀ x k, k ≤ (f x k).1) (xs : List α) (k i : Nat) : (gmk f (xs.take i) k).1 ≤ (gmk f xs k).1 := by
  have : gmk f xs k = gmk f (xs.take i ++ xs.drop i) k := by rw [List.take_append_drop]
  rw [this, gmk_app]
  exact gmk_mono hf _ _
theorem gmk_get {α : Type} {f : α → Nat → Nat × α} {xs : List α} {i : Nat} (h : i < xs.length) (k : Nat) (h2 : i < (gmk f xs k).2.length) : (gmk f xs k).2[i] = (f xs[i] (gmk f (xs.take i) k).1).2 := by
  have e : gmk f xs k = gmk f (xs.take (i + 1) ++ xs.drop (i + 1)) k := by rw [List.take_append_drop]
  have h3 : (gmk f xs k).2 = (gmk f (xs.take i) k).2 ++ ([(f xs[i] (gmk f (xs.take i) k).1).2] ++ (gmk f (xs.drop (i + 1)) (gmk f (xs.take (i + 1)) k).1).2) := by
    rw [e, gmk_app, gmk_succ h]
    simp
  have hl : (gmk f (xs.take i) k).2.length = i := by rw [gmk_len]; simp; omega
  have : (gmk f xs k).2[i]? = some (f xs[i] (gmk f (xs.take i) k).1).2 := by
    rw [h3, List.getElem?_append_right (by omega), hl, Nat.sub_self]
    rfl
  rw [List.getElem?_eq_getElem h2] at this
  exact Option.some.inj this
theorem mark_run {α : Type} (f : α → Nat → Nat × α) {xs : List α} {k : Nat} {body : Int × Int × List α → Option ((Int × Int × List α) ⊕ (Int × List α))} (hf : ∀ x k, k ≤ (f x k).1) (hb : (gmk f xs k).1 ≤ 1099511627776) (hl : xs.length ≤ 1099511627776)
    (h : ∀ (i : Nat) (hi : i < xs.length) (K : Nat) (L : List α) (hL : i < L.length), (f xs[i] K).1 ≤ 1099511627776 → L[i] = xs[i] → L.length = xs.length → body ((K : Int), (i : Int), L) = some (.inl (((f xs[i] K).1 : Int), w64 ((i : Int) + 1), L.set i (f xs[i] K).2)))
    (he : ∀ (K : Int) (L : List α), L.length = xs.length → body (K, (xs.length : Int), L) = some (.inr (K, L))) : whileM body gxFuel ((k : Int), 0, xs) = some (((gmk f xs k).1 : Int), (gmk f xs k).2) := by
  refine while_run (fun i => (((gmk f (xs.take i) k).1 : Int), (i : Int), (gmk f (xs.take i) k).2 ++ xs.drop i)) _ xs.length (by simp [gmk]) (by omega) (fun i hi => ?_) ?_
  · have hll : (gmk f (xs.take i) k).2.length = i := by rw [gmk_len]; simp; omega
    have hL : i < ((gmk f (xs.take i) k).2 ++ xs.drop i).length := by simp [hll]; omega
    have hs := gmk_succ (f := f) hi k
    have hle := gmk_take_le hf xs k (i + 1)
    rw [hs] at hle
    rw [h i hi _ _ hL (by simp only at hle; omega) (by rw [List.getElem_append_right (by omega)]; simp [hll]) (by simp [hll]; omega), hs, w64_succ (by omega)]
    congr 4
    rw [List.set_append_right _ _ (by omega), hll, Nat.sub_self, List.drop_eq_getElem_cons hi, List.set_cons_zero]
    simp
  · have := he ((gmk f (xs.take xs.length) k).1 : Int) ((gmk f (xs.take xs.length) k).2 ++ xs.drop xs.length) (by simp [gmk_len])
    rw [this]
    simp
theorem held_run {α : Type} (f : α → Nat → Nat × α) {xs : List α} {k : Nat} {body : Int × Int → Option ((Int × Int) ⊕ (Int ⊕ Int))} (hf : ∀ x k, k ≤ (f x k).1) (hb : (gmk f xs k).1 ≤ 1099511627776) (hl : xs.length ≤ 1099511627776)
    (h : ∀ (i : Nat) (hi : i < xs.length) (h2 : i < (gmk f xs k).2.length) (K : Nat), (f xs[i] K).1 ≤ 1099511627776 → (gmk f xs k).2[i] = (f xs[i] K).2 → body ((K : Int), (i : Int)) = some (.inl (((f xs[i] K).1 : Int), w64 ((i : Int) + 1))))
    (he : ∀ K : Int, body (K, (xs.length : Int)) = some (.inr (.inl K))) : whileM body gxFuel ((k : Int), 0) = some (.inl ((gmk f xs k).1 : Int)) := by
  refine while_run (fun i => (((gmk f (xs.take i) k).1 : Int), (i : Int))) _ xs.length (by simp [gmk]) (by omega) (fun i hi => ?_) ?_
  · have h2 : i < (gmk f xs k).2.length := by rw [gmk_len]; exact hi
    have hs := gmk_succ (f := f) hi k
    have hle := gmk_take_le hf xs k (i + 1)
    rw [hs] at hle
    rw [h i hi h2 _ (by simp only at hle; omega) (gmk_get hi k h2), hs, w64_succ (by omega)]
  · rw [he, List.take_length]
theorem gxIdx_same {α : Type} {xs : List α} {i : Nat} {a : α} (h : i < xs.length) : gxIdx (xs.set i a) (i : Int) = some a := by
  rw [gxIdx_nat (by simpa using h)]
  simp
theorem gmk_const {α : Type} {f : α → Nat → Nat × α} {W : Nat} (hf : ∀ x k, (f x k).1 = k + W) : ∀ (a : List α) (k : Nat), (gmk f a k).1 = k + W * a.length
  | [], k => by simp [gmk]
  | x :: r, k => by
    simp only [gmk, gmk_const hf r, hf, List.length_cons, Nat.mul_add, Nat.mul_one]
    omega
theorem nat_nlt (n : Nat) : decide ((n : Int) < 0) = false := by simp
theorem sz_simple {n left : Int} (h0 : 0 ≤ n ∧ n ≤ 9223372036854775807) (hl : -1 ≤ left ∧ left ≤ 1048576) : ∃ q, (bif decide (w64 (left - n) < 0) then some (-1) else some (w64 (left - n))) = some q ∧ (q < 0 ∨ (0 ≤ q ∧ q ≤ left ∧ n ≤ left - q)) := by
  rw [w64_id (by omega) (by omega)]
  by_cases hc : left - n < 0
  · exact ⟨-1, by simp [hc], Or.inl (by omega)⟩
  · exact ⟨left - n, by simp [hc], Or.inr (by omega)⟩
/-! ### Loops with an invariant -/
theorem while_inv_fuel {σ ρ : Type} {body : σ → Option (σ ⊕ ρ)} (R : Nat → σ → Prop) (Q : ρ → Prop) (n : Nat) (hstep : ∀ i s, i < n → R i s → (∃ s', body s = some (.inl s') ∧ R (i + 1) s') ∨ (∃ r, body s = some (.inr r) ∧ Q r)) (hend : ∀ s, R n s → ∃ r, body s = some (.inr r) ∧ Q r) : ∀ (k i fuel : Nat) (s : σ), i + k = n → k < fuel → R i s → ∃ r, whileM body fuel s = some r ∧ Q r
  | 0, i, fuel, s, hi, hf, hR => by
    obtain ⟨m, rfl⟩ : ∃ m, fuel = m + 1 := ⟨fuel - 1, by omega⟩
    obtain ⟨r, hr, hq⟩ := hend s (by rw [← hi]; exact hR)
    exact ⟨r, by simp only [whileM, hr], hq⟩
  | k + 1, i, fuel, s, hi, hf, hR => by
    obtain ⟨m, rfl⟩ : ∃ m, fuel = m + 1 := ⟨fuel - 1, by omega⟩
    rcases hstep i s (by omega) hR with ⟨s', hs, hR'⟩ | ⟨r, hr, hq⟩
    · obtain ⟨r, hr, hq⟩ := while_inv_fuel R Q n hstep hend k (i + 1) m s' (by omega) (by omega) hR'
      exact ⟨r, by simp only [whileM, hs]; exact hr, hq⟩
    · exact ⟨r, by simp only [whileM, hr], hq⟩
theorem while_inv {σ ρ : Type} {body : σ → Option (σ ⊕ ρ)} {s0 : σ} (R : Nat → σ → Prop) (Q : ρ → Prop) (n : Nat) (hn : n ≤ 4611686018427387904) (h0 : R 0 s0) (hstep : ∀ i s, i < n → R i s → (∃ s', body s = some (.inl s') ∧ R (i + 1) s') ∨ (∃ r, body s = some (.inr r) ∧ Q r)) (hend : ∀ s, R n s → ∃ r, body s = some (.inr r) ∧ Q r) : ∃ r, whileM body gxFuel s0 = some r ∧ Q r :=
  while_inv_fuel R Q n hstep hend n 0 gxFuel s0 (by omega) (by unfold gxFuel; omega) h0
theorem while_map {β : Type} (F : Nat → β) {n : Nat} {body : List β × Int → Option ((List β × Int) ⊕ List β)} (hl : n ≤ 1099511627776)
    (h : ∀ (i : Nat) (hi : i < n) (acc : List β), acc.length = i → body (acc, (i : Int)) = some (.inl (acc ++ [F i], w64 ((i : Int) + 1))))
    (he : ∀ acc : List β, acc.length = n → body (acc, (n : Int)) = some (.inr acc)) : whileM body gxFuel ([], 0) = some ((List.range n).map F) := by
  refine while_run (fun i => ((List.range i).map F, (i : Int))) _ n (by simp) (by omega) (fun i hi => ?_) (he _ (by simp))
  rw [h i hi _ (by simp), w64_succ (by omega), List.range_succ, List.map_append]
  rfl
/-! ### Balloons -/
def okBalloon (x : Balloon) : Prop := okI x.Guest ∧ okI x.Goal ∧ okL okI x.Gave
/-- How many frames are in the balloons of a list. -/
def tot : List Balloon → Nat
  | [] => 0
  | b :: r => b.Gave.length + tot r
def fitB (xs : List Balloon) : Prop := xs.length ≤ 1048576 ∧ tot xs ≤ 1048576
theorem tot_app : ∀ a b : List Balloon, tot (a ++ b) = tot a + tot b
  | [], b => by simp [tot]
  | x :: r, b => by simp only [List.cons_append, tot, tot_app r b]; omega
theorem tot_mem {xs : List Balloon} {b : Balloon} (h : b ∈ xs) : b.Gave.length ≤ tot xs := by
  obtain ⟨s, t, rfl⟩ := List.append_of_mem h
  rw [tot_app]
  simp only [tot]
  omega
theorem szIntS_ok (xs : List Int) (left : Int) (h : xs.length ≤ 9223372036854775807) (hl : -1 ≤ left ∧ left ≤ 1048576) : M.l_szIntS xs left = some (if left < xs.length then -1 else left - xs.length) := by
  unfold M.l_szIntS
  rw [w64_id (by omega) (by omega)]
  by_cases hc : left < xs.length
  · have : left - (xs.length : Int) < 0 := by omega
    simp [hc, this]
  · have : ¬ (left - (xs.length : Int) < 0) := by omega
    simp [hc, this]
theorem szBalloon_ok (b : Balloon) (left : Int) (h : okBalloon b) (hl : -1 ≤ left ∧ left ≤ 1048576) : M.l_szBalloon b left = some (if left < b.Gave.length then -1 else left - b.Gave.length) := by
  unfold M.l_szBalloon
  rw [szIntS_ok _ _ h.2.2.1 hl, Option.bind_some]
  by_cases hc : left < b.Gave.length
  · simp [hc]
  · have : ¬ (left - (b.Gave.length : Int) < 0) := by omega
    simp [hc, this]
theorem szBalloonS_ex (xs : List Balloon) (left : Int) (h : okL okBalloon xs) (hl : -1 ≤ left ∧ left ≤ 1048576) : ∃ q, M.l_szBalloonS xs left = some q ∧ (q < 0 ∨ (0 ≤ q ∧ q ≤ left ∧ fitB xs)) := by
  unfold M.l_szBalloonS
  have hx := h.1
  rw [w64_id (by omega) (by omega)]
  by_cases hc : left - (xs.length : Int) < 0
  · exact ⟨-1, by simp [hc], Or.inl (by omega)⟩
  · simp only [hc, decide_false, cond_false]
    have := while_inv (body := fun s69 : Int × Int =>
      bif decide (s69.2 < (xs.length : Int)) then (Option.bind (gxIdx xs s69.2) fun y81 =>
      Option.bind (M.l_szBalloon y81 s69.1) fun r89 =>
      bif decide (r89 < 0) then some (.inr (Sum.inr (α := Int) (-1)))
      else some (.inl (r89, w64 (s69.2 + 1))))
      else some (.inr (.inl s69.1))) (s0 := (left - (xs.length : Int), 0)) (fun i s => s.2 = (i : Int) ∧ 0 ≤ s.1 ∧ s.1 + tot (xs.take i) = left - xs.length) (fun q => q = .inr (-1) ∨ ∃ z, q = .inl z ∧ 0 ≤ z ∧ z + tot xs = left - xs.length) xs.length (by omega) (by simp [tot]; omega) (fun i s hi hR => by
        obtain ⟨a, b⟩ := s
        obtain ⟨rfl, h0, h1⟩ := hR
        simp only at h0 h1
        have e0 : ((i : Int) < (xs.length : Int)) := by omega
        have hs : tot (xs.take (i + 1)) = tot (xs.take i) + xs[i].Gave.length := by
          rw [List.take_add_one, List.getElem?_eq_getElem hi, Option.toList_some, tot_app]; simp [tot]
        simp only [e0, decide_true, cond_true, gxIdx_nat hi, Option.bind_some, szBalloon_ok xs[i] a (h.2 _ (List.getElem_mem hi)) (by omega), w64_succ (show i ≤ 4611686018427387904 by omega)]
        by_cases hlt : a < xs[i].Gave.length
        · simp only [hlt, if_true]
          exact Or.inr ⟨_, rfl, Or.inl rfl⟩
        · have hn : ¬ (a - (xs[i].Gave.length : Int) < 0) := by omega
          simp only [hlt, if_false, hn, decide_false, cond_false]
          exact Or.inl ⟨_, rfl, rfl, by simp only; omega, by simp only; omega⟩) (fun s hR => by
        obtain ⟨a, b⟩ := s
        obtain ⟨rfl, h0, h1⟩ := hR
        rw [List.take_length] at h1
        simp only [Int.lt_irrefl, decide_false, cond_false]
        exact ⟨_, rfl, Or.inr ⟨a, rfl, h0, h1⟩⟩)
    obtain ⟨q, hq, hq2⟩ := this
    rw [hq]
    rcases hq2 with rfl | ⟨z, rfl, h0, h1⟩
    · exact ⟨-1, rfl, Or.inl (by omega)⟩
    · exact ⟨z, rfl, Or.inr ⟨h0, by omega, by omega, by omega⟩⟩
theorem toBalloon_id (b : Balloon) (h : b.Gave.length ≤ 1099511627776) : M.l_toBalloon b = some b := by
  unfold M.l_toBalloon
  rw [toIntS_id _ h]
  rfl
theorem toBalloonS_id (xs : List Balloon) (hf : fitB xs) : M.l_toBalloonS xs = some xs := by
  have h := hf.1
  unfold M.l_toBalloonS
  rw [gxMake_nat (by omega), Option.bind_some, while_run (fun i => ((i : Int), taken xs (⟨0, 0, []⟩ : Balloon) i)) xs xs.length (by simp [taken_zero]) (by omega)]
  · rfl
  · intro i hi
    have h1 : ((i : Int) < (xs.length : Int)) := by omega
    have h2 : i < (taken xs (⟨0, 0, []⟩ : Balloon) i).length := by rw [taken_length (by omega)]; exact hi
    have h3 := tot_mem (List.getElem_mem hi)
    have h4 := hf.2
    simp [h1, gxIdx_nat hi, gxIdx_nat h2, toBalloon_id xs[i] (by omega), w64_succ (show i ≤ 4611686018427387904 by omega), taken_set hi]
  · simp [taken_all]
theorem eqBalloon_refl (b : Balloon) (h : b.Gave.length ≤ 4611686018427387904) : M.l_eqBalloon b b = some true := by
  unfold M.l_eqBalloon
  simp [eqIntS_refl _ h]
theorem eqBalloonS_refl (xs : List Balloon) (hf : fitB xs) : M.l_eqBalloonS xs xs = some true := by
  have h := hf.1
  unfold M.l_eqBalloonS
  rw [while_run (fun i => (i : Int)) (Sum.inl ()) xs.length (by simp) (by omega)]
  · simp
  · intro i hi
    have h1 : ((i : Int) < (xs.length : Int)) := by omega
    have h3 := tot_mem (List.getElem_mem hi)
    have h4 := hf.2
    simp [h1, gxIdx_nat hi, eqBalloon_refl xs[i] (by omega), w64_succ (show i ≤ 4611686018427387904 by omega)]
  · simp
def mkBalloon (x : Balloon) (k : Nat) : Nat × Balloon := (k + 2 + x.Gave.length, ⟨((k : Nat) : Int), ((k + 1 : Nat) : Int), marks (k + 2) x.Gave.length⟩)
theorem gmk_balloon : ∀ (a : List Balloon) (k : Nat), (gmk mkBalloon a k).1 = k + 2 * a.length + tot a
  | [], k => by simp [gmk, tot]
  | x :: r, k => by
    simp only [gmk, gmk_balloon r, mkBalloon, List.length_cons, tot]
    omega
theorem markBalloonS_held (xs : List Balloon) (k : Nat) (hf : fitB xs) (h : k ≤ 1099505336320) : ∃ (n : Nat) (m : List Balloon), M.l_markBalloonS xs k = some ((n : Int), m) ∧ M.l_heldBalloonS m k = some (n : Int) ∧ k ≤ n ∧ n = k + 2 * xs.length + tot xs := by
  have hfm : ∀ (x : Balloon) (k : Nat), k ≤ (mkBalloon x k).1 := fun x k => by simp only [mkBalloon]; omega
  have hc := gmk_balloon xs k
  have hf1 := hf.1
  have hf2 := hf.2
  refine ⟨(gmk mkBalloon xs k).1, (gmk mkBalloon xs k).2, ?_, ?_, gmk_mono hfm _ _, hc⟩
  · unfold M.l_markBalloonS
    rw [mark_run mkBalloon hfm (by omega) (by omega)]
    · rfl
    · intro i hi K L hL hK hLi hLl
      have h1 : ((i : Int) < (L.length : Int)) := by omega
      have hK : K + 2 + xs[i].Gave.length ≤ 1099511627776 := hK
      simp only [h1, decide_true, cond_true, gxIdx_nat hL, gxIdx_same hL, List.set_set, Option.bind_some, Int.toNat_natCast, w64_succ (show K ≤ 4611686018427387904 by omega), w64_succ (show K + 1 ≤ 4611686018427387904 by omega), Nat.add_assoc, Nat.reduceAdd, hLi, markIntS_ok xs[i].Gave (K + 2) (by omega), mkBalloon]
      all_goals rfl
    · intro K L hL
      simp only [hL, Int.lt_irrefl, decide_false, cond_false]
  · unfold M.l_heldBalloonS
    rw [held_run mkBalloon (xs := xs) hfm (by omega) (by omega)]
    · rfl
    · intro i hi h2 K hK he
      have h1 : ((i : Int) < ((gmk mkBalloon xs k).2.length : Int)) := by omega
      have hK : K + 2 + xs[i].Gave.length ≤ 1099511627776 := hK
      simp only [h1, decide_true, cond_true, gxIdx_nat h2, he, mkBalloon, Option.bind_some, bne_self_eq_false, beq_self_eq_true, Bool.not_true, cond_false, w64_succ (show K ≤ 4611686018427387904 by omega), w64_succ (show K + 1 ≤ 4611686018427387904 by omega), Nat.add_assoc, Nat.reduceAdd, heldIntS_ok (K + 2) xs[i].Gave.length (by omega), nat_nlt]
      all_goals rfl
    · intro K
      simp only [gmk_len, Int.lt_irrefl, decide_false, cond_false]
      all_goals rfl
end Go.Proofs.Ytlfligjpmodefaa
