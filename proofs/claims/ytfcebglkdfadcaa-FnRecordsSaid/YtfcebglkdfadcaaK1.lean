/- Plain laws of the models: no program in sight. -/
import Derived.Test.YtfcebglkdfadcaaM
import Derived.Test.YtfcebglkdfadcaaGxH
set_option linter.unusedVariables false
set_option linter.unusedSimpArgs false
set_option maxHeartbeats 4000000
namespace Go.Proofs.Ytfcebglkdfadcaa
open Go.Gx
/-! ### Ranges, loops that find -/
theorem s_in (x a b : Int) : M.s_l1In x a b = some (decide (a ≤ x) && decide (x ≤ b)) := by
  unfold M.s_l1In
  by_cases h : x ≥ a <;> simp [h]
theorem i_in (x a b : Int) : M.i_inside x a b = some (decide (a ≤ x) && decide (x ≤ b)) := by
  unfold M.i_inside
  by_cases h : x ≥ a <;> simp [h]
theorem while_first {σ ρ : Type} {body : σ → Option (σ ⊕ ρ)} {s0 : σ} (st : Nat → σ) (p : Nat → Bool) (hit : Nat → ρ) (r : ρ) (n : Nat) (h0 : s0 = st 0) (hn : n ≤ 4611686018427387904) (h : ∀ i, i < n → body (st i) = some (bif p i then .inr (hit i) else .inl (st (i + 1)))) (he : body (st n) = some (.inr r)) :
    whileM body gxFuel s0 = some (match (List.range n).find? p with
      | some i => hit i
      | none => r) := by
  cases hf : (List.range n).find? p with
  | none =>
    rw [List.find?_eq_none] at hf
    refine while_run st r n h0 hn (fun i hi => ?_) he
    have : p i = false := by
      have := hf i (List.mem_range.2 hi)
      simpa using this
    rw [h i hi, this]
    rfl
  | some i =>
    rw [List.find?_range_eq_some] at hf
    obtain ⟨h1, h2, h3⟩ := hf
    have hi : i < n := List.mem_range.1 h2
    refine while_run st (hit i) i h0 (by omega) (fun j hj => ?_) (by rw [h i hi, h1]; rfl)
    have : p j = false := by
      have := h3 j hj
      simpa using this
    rw [h j (by omega), this]
    rfl
theorem while_all {σ ρ : Type} {body : σ → Option (σ ⊕ ρ)} {s0 : σ} (st : Nat → σ) (ok : Nat → Bool) (bad r : ρ) (n : Nat) (h0 : s0 = st 0) (hn : n ≤ 4611686018427387904) (h : ∀ i, i < n → body (st i) = some (bif ok i then .inl (st (i + 1)) else .inr bad)) (he : body (st n) = some (.inr r)) :
    whileM body gxFuel s0 = some (bif (List.range n).all ok then r else bad) := by
  rw [while_first st (fun i => !(ok i)) (fun _ => bad) r n h0 hn (fun i hi => by rw [h i hi]; cases ok i <;> rfl) he]
  cases hf : (List.range n).find? (fun i => !(ok i)) with
  | none =>
    rw [List.find?_eq_none] at hf
    have : (List.range n).all ok = true := List.all_eq_true.2 fun i hi => by simpa using hf i hi
    rw [this]
    rfl
  | some i =>
    have h1 := List.find?_some hf
    have h2 := List.mem_of_find?_eq_some hf
    have : (List.range n).all ok = false := by
      rw [List.all_eq_false]
      exact ⟨i, h2, by simpa using h1⟩
    rw [this]
    rfl
theorem gxIdx_prevG {α : Type} {xs : List α} {i : Nat} (h : i < xs.length) (h0 : 0 < i) (hl : i ≤ 4611686018427387904) : gxIdx xs (w64 ((i : Int) - 1)) = some (xs[i - 1]'(by omega)) := by
  rw [w64_id (by omega) (by omega), show ((i : Int) - 1) = ((i - 1 : Nat) : Int) by omega]
  exact gxIdx_nat (by omega)
theorem getD_at {α : Type} {xs : List α} {i : Nat} {z : α} (h : i < xs.length) : xs.getD i z = xs[i] := by
  rw [List.getD_eq_getElem?_getD, List.getElem?_eq_getElem h]; rfl
/-! ### Marks, in general -/
/-- Each element gets numbers from k on. -/
def gmk {α : Type} (f : α → Nat → Nat × α) : List α → Nat → Nat × List α
  | [], k => (k, [])
  | x :: r, k => ((gmk f r (f x k).1).1, (f x k).2 :: (gmk f r (f x k).1).2)
theorem gmk_app {α : Type} {f : α → Nat → Nat × α} : ∀ (a b : List α) (k : Nat), gmk f (a ++ b) k = ((gmk f b (gmk f a k).1).1, (gmk f a k).2 ++ (gmk f b (gmk f a k).1).2)
  | [], b, k => rfl
  | x :: r, b, k => by simp only [List.cons_append, gmk, gmk_app r b]
theorem gmk_len {α : Type} {f : α → Nat → Nat × α} : ∀ (a : List α) (k : Nat), (gmk f a k).2.length = a.length
  | [], k => rfl
  | x :: r, k => by simp only [gmk, List.length_cons, gmk_len r]
theorem gmk_succ {α : Type} {f : α → Nat → Nat × α} {xs : List α} {i : Nat} (h : i < xs.length) (k : Nat) : gmk f (xs.take (i + 1)) k = ((f xs[i] (gmk f (xs.take i) k).1).1, (gmk f (xs.take i) k).2 ++ [(f xs[i] (gmk f (xs.take i) k).1).2]) := by
  rw [List.take_add_one, List.getElem?_eq_getElem h, Option.toList_some, gmk_app]
  rfl
theorem gmk_mono {α : Type} {f : α → Nat → Nat × α} (hf : ∀ x k, k ≤ (f x k).1) : ∀ (a : List α) (k : Nat), k ≤ (gmk f a k).1
  | [], k => Nat.le_refl _
  | x :: r, k => Nat.le_trans (hf x k) (gmk_mono hf r _)
theorem gmk_take_le {α : Type} {f : α → Nat → Nat × α} (hf : ∀ x k, k ≤ (f x k).1) (xs : List α) (k i : Nat) : (gmk f (xs.take i) k).1 ≤ (gmk f xs k).1 := by
  have : gmk f xs k = gmk f (xs.take i ++ xs.drop i) k := by rw [List.take_append_drop]
  rw [this, gmk_app]
  exact gmk_mono hf _ _
theorem gmk_get {α : Type} {f : α → Nat → Nat × α} {xs : List α} {i : Nat} (h : i < xs.length) (k : Nat) (h2 : i < (gmk f xs k).2.length) : (gmk f xs k).2[i] = (f xs[i] (gmk f (xs.take i) k).1).2 := by
  have e : gmk f xs k = gmk f (xs.take (i + 1) ++ xs.drop (i + 1)) k := by rw [List.take_append_drop]
  have h3 : (gmk f xs k).2 = (gmk f (xs.take i) k).2 ++ ([(f xs[i] (gmk f (xs.take i) k).1).2] ++ (gmk f (xs.drop (i + 1)) (gmk f (xs.take (i + 1)) k).1).2) := by
    rw [e, gmk_app, gmk_succ h]
    simp
  have hl : (gmk f (xs.take i) k).2.length = i := by rw [gmk_len]; simp; omega
  have : (gmk f xs k).2[i]? = some (f xs[i] (gmk f (xs.take i) k).1).2 := by
    rw [h3, List.getElem?_append_right (by omega), hl, Nat.sub_self]
    rfl
  rw [List.getElem?_eq_getElem h2] at this
  exact Option.some.inj this
theorem mark_run {α : Type} (f : α → Nat → Nat × α) {xs : List α} {k : Nat} {body : Int × Int × List α → Option ((Int × Int × List α) ⊕ (Int × List α))} (hf : ∀ x k, k ≤ (f x k).1) (hb : (gmk f xs k).1 ≤ 1099511627776) (hl : xs.length ≤ 1099511627776)
    (h : ∀ (i : Nat) (hi : i < xs.length) (K : Nat) (L : List α) (hL : i < L.length), (f xs[i] K).1 ≤ 1099511627776 → L[i] = xs[i] → L.length = xs.length → body ((K : Int), (i : Int), L) = some (.inl (((f xs[i] K).1 : Int), w64 ((i : Int) + 1), L.set i (f xs[i] K).2)))
    (he : ∀ (K : Int) (L : List α), L.length = xs.length → body (K, (xs.length : Int), L) = some (.inr (K, L))) : whileM body gxFuel ((k : Int), 0, xs) = some (((gmk f xs k).1 : Int), (gmk f xs k).2) := by
  refine while_run (fun i => (((gmk f (xs.take i) k).1 : Int), (i : Int), (gmk f (xs.take i) k).2 ++ xs.drop i)) _ xs.length (by simp [gmk]) (by omega) (fun i hi => ?_) ?_
  · have hll : (gmk f (xs.take i) k).2.length = i := by rw [gmk_len]; simp; omega
    have hL : i < ((gmk f (xs.take i) k).2 ++ xs.drop i).length := by simp [hll]; omega
    have hs := gmk_succ (f := f) hi k
    have hle := gmk_take_le hf xs k (i + 1)
    rw [hs] at hle
    rw [h i hi _ _ hL (by simp only at hle; omega) (by rw [List.getElem_append_right (by omega)]; simp [hll]) (by simp [hll]; omega), hs, w64_succ (by omega)]
    congr 4
    rw [List.set_append_right _ _ (by omega), hll, Nat.sub_self, List.drop_eq_getElem_cons hi, List.set_cons_zero]
    simp
  · have := he ((gmk f (xs.take xs.length) k).1 : Int) ((gmk f (xs.take xs.length) k).2 ++ xs.drop xs.length) (by simp [gmk_len])
    rw [this]
    simp
theorem held_run {α : Type} (f : α → Nat → Nat × α) {xs : List α} {k : Nat} {body : Int × Int → Option ((Int × Int) ⊕ (Int ⊕ Int))} (hf : ∀ x k, k ≤ (f x k).1) (hb : (gmk f xs k).1 ≤ 1099511627776) (hl : xs.length ≤ 1099511627776)
    (h : ∀ (i : Nat) (hi : i < xs.length) (h2 : i < (gmk f xs k).2.length) (K : Nat), (f xs[i] K).1 ≤ 1099511627776 → (gmk f xs k).2[i] = (f xs[i] K).2 → body ((K : Int), (i : Int)) = some (.inl (((f xs[i] K).1 : Int), w64 ((i : Int) + 1))))
    (he : ∀ K : Int, body (K, (xs.length : Int)) = some (.inr (.inl K))) : whileM body gxFuel ((k : Int), 0) = some (.inl ((gmk f xs k).1 : Int)) := by
  refine while_run (fun i => (((gmk f (xs.take i) k).1 : Int), (i : Int))) _ xs.length (by simp [gmk]) (by omega) (fun i hi => ?_) ?_
  · have h2 : i < (gmk f xs k).2.length := by rw [gmk_len]; exact hi
    have hs := gmk_succ (f := f) hi k
    have hle := gmk_take_le hf xs k (i + 1)
    rw [hs] at hle
    rw [h i hi h2 _ (by simp only at hle; omega) (gmk_get hi k h2), hs, w64_succ (by omega)]
  · rw [he, List.take_length]
theorem gxIdx_same {α : Type} {xs : List α} {i : Nat} {a : α} (h : i < xs.length) : gxIdx (xs.set i a) (i : Int) = some a := by
  rw [gxIdx_nat (by simpa using h)]
  simp
theorem gmk_const {α : Type} {f : α → Nat → Nat × α} {W : Nat} (hf : ∀ x k, (f x k).1 = k + W) : ∀ (a : List α) (k : Nat), (gmk f a k).1 = k + W * a.length
  | [], k => by simp [gmk]
  | x :: r, k => by
    simp only [gmk, gmk_const hf r, hf, List.length_cons, Nat.mul_add, Nat.mul_one]
    omega
theorem nat_nlt (n : Nat) : decide ((n : Int) < 0) = false := by simp
theorem sz_simple {n left : Int} (h0 : 0 ≤ n ∧ n ≤ 9223372036854775807) (hl : -1 ≤ left ∧ left ≤ 1048576) : ∃ q, (bif decide (w64 (left - n) < 0) then some (-1) else some (w64 (left - n))) = some q ∧ (q < 0 ∨ (0 ≤ q ∧ q ≤ left ∧ n ≤ left - q)) := by
  rw [w64_id (by omega) (by omega)]
  by_cases hc : left - n < 0
  · exact ⟨-1, by simp [hc], Or.inl (by omega)⟩
  · exact ⟨left - n, by simp [hc], Or.inr (by omega)⟩
/-! ### Loops with an invariant -/
theorem while_inv_fuel {σ ρ : Type} {body : σ → Option (σ ⊕ ρ)} (R : Nat → σ → Prop) (Q : ρ → Prop) (n : Nat) (hstep : ∀ i s, i < n → R i s → (∃ s', body s = some (.inl s') ∧ R (i + 1) s') ∨ (∃ r, body s = some (.inr r) ∧ Q r)) (hend : ∀ s, R n s → ∃ r, body s = some (.inr r) ∧ Q r) : ∀ (k i fuel : Nat) (s : σ), i + k = n → k < fuel → R i s → ∃ r, whileM body fuel s = some r ∧ Q r
  | 0, i, fuel, s, hi, hf, hR => by
    obtain ⟨m, rfl⟩ : ∃ m, fuel = m + 1 := ⟨fuel - 1, by omega⟩
    obtain ⟨r, hr, hq⟩ := hend s (by rw [← hi]; exact hR)
    exact ⟨r, by simp only [whileM, hr], hq⟩
  | k + 1, i, fuel, s, hi, hf, hR => by
    obtain ⟨m, rfl⟩ : ∃ m, fuel = m + 1 := ⟨fuel - 1, by omega⟩
    rcases hstep i s (by omega) hR with ⟨s', hs, hR'⟩ | ⟨r, hr, hq⟩
    · obtain ⟨r, hr, hq⟩ := while_inv_fuel R Q n hstep hend k (i + 1) m s' (by omega) (by omega) hR'
      exact ⟨r, by simp only [whileM, hs]; exact hr, hq⟩
    · exact ⟨r, by simp only [whileM, hr], hq⟩
theorem while_inv {σ ρ : Type} {body : σ → Option (σ ⊕ ρ)} {s0 : σ} (R : Nat → σ → Prop) (Q : ρ → Prop) (n : Nat) (hn : n ≤ 4611686018427387904) (h0 : R 0 s0) (hstep : ∀ i s, i < n → R i s → (∃ s', body s = some (.inl s') ∧ R (i + 1) s') ∨ (∃ r, body s = some (.inr r) ∧ Q r)) (hend : ∀ s, R n s → ∃ r, body s = some (.inr r) ∧ Q r) : ∃ r, whileM body gxFuel s0 = some r ∧ Q r :=
  while_inv_fuel R Q n hstep hend n 0 gxFuel s0 (by omega) (by unfold gxFuel; omega) h0
theorem while_map {β : Type} (F : Nat → β) {n : Nat} {body : List β × Int → Option ((List β × Int) ⊕ List β)} (hl : n ≤ 1099511627776)
    (h : ∀ (i : Nat) (hi : i < n) (acc : List β), acc.length = i → body (acc, (i : Int)) = some (.inl (acc ++ [F i], w64 ((i : Int) + 1))))
    (he : ∀ acc : List β, acc.length = n → body (acc, (n : Int)) = some (.inr acc)) : whileM body gxFuel ([], 0) = some ((List.range n).map F) := by
  refine while_run (fun i => ((List.range i).map F, (i : Int))) _ n (by simp) (by omega) (fun i hi => ?_) (he _ (by simp))
  rw [h i hi _ (by simp), w64_succ (by omega), List.range_succ, List.map_append]
  rfl
/-! ### Event -/
def okEvent (x : Event) : Prop := okI x.Tick ∧ okI x.Guest ∧ okS x.Kind ∧ okI x.Value
theorem eqEvent_refl (x : Event) : M.l_eqEvent x x = some true := by unfold M.l_eqEvent; simp
theorem eqEventS_refl (xs : List Event) (h : xs.length ≤ 4611686018427387904) : M.l_eqEventS xs xs = some true := by
  unfold M.l_eqEventS
  rw [while_run (fun i => (i : Int)) (Sum.inl ()) xs.length (by simp) h]
  · simp
  · intro i hi
    have h1 : ((i : Int) < (xs.length : Int)) := by omega
    simp [h1, gxIdx_nat hi, eqEvent_refl, w64_succ (show i ≤ 4611686018427387904 by omega)]
  · simp
theorem toEventS_id (xs : List Event) (h : xs.length ≤ 1099511627776) : M.l_toEventS xs = some xs := by
  unfold M.l_toEventS
  rw [gxMake_nat (by omega), Option.bind_some, while_run (fun i => ((i : Int), taken xs (⟨0, 0, ByteArray.empty, 0⟩ : Event) i)) xs xs.length (by simp [taken_zero]) (by omega)]
  · rfl
  · intro i hi
    have h1 : ((i : Int) < (xs.length : Int)) := by omega
    have h2 : i < (taken xs (⟨0, 0, ByteArray.empty, 0⟩ : Event) i).length := by rw [taken_length (by omega)]; exact hi
    simp [h1, gxIdx_nat hi, gxIdx_nat h2, M.l_toEvent, w64_succ (show i ≤ 4611686018427387904 by omega), taken_set hi]
  · simp [taken_all]
theorem toEvent_id (x : Event) : M.l_toEvent x = some x := rfl
/-! ### Events -/
/-- The byte at i. -/
def byteN (s : ByteArray) (i : Nat) : Int := ((s[i]?).map fun b => (b.toNat : Int)).getD 0
theorem gxSIdx_ok {s : ByteArray} {i : Nat} (h : i < s.size) : gxSIdx s (i : Int) = some (byteN s i) := by
  unfold gxSIdx byteN
  rw [if_pos (by omega), Int.toNat_natCast]
  have : s[i]? = some s[i] := by simp [h]
  rw [this]
  rfl
def lowS (s : ByteArray) : Bool := (List.range s.size).all fun i => decide (97 ≤ byteN s i) && decide (byteN s i ≤ 122)
theorem lettersBody (s : ByteArray) {i : Nat} (hi : i < s.size) : (Option.bind (α := Bool) (Option.bind (gxSIdx s (i : Int)) fun q136 =>
    bif decide (q136 < 97) then some true
    else (Option.bind (gxSIdx s (i : Int)) fun q138 =>
    some (decide (q138 > 122)))) fun o133 =>
    bif o133 then some (Sum.inr (α := Int) (Sum.inr (α := Unit) false))
    else some (.inl (w64 ((i : Int) + 1)))) = some (bif (decide (97 ≤ byteN s i) && decide (byteN s i ≤ 122)) then .inl (w64 ((i : Int) + 1)) else .inr (.inr false)) := by
  simp only [gxSIdx_ok hi, Option.bind_some]
  by_cases h1 : byteN s i < 97
  · have h2 : ¬ (97 ≤ byteN s i) := by omega
    simp only [h1, h2, decide_true, decide_false, cond_true, Option.bind_some, Bool.false_and, cond_false]
  · have h2 : 97 ≤ byteN s i := by omega
    by_cases h3 : byteN s i ≤ 122
    · have h4 : ¬ (byteN s i > 122) := by omega
      simp only [h1, h2, h3, h4, decide_true, decide_false, cond_true, Option.bind_some, Bool.true_and, cond_false]
    · have h4 : byteN s i > 122 := by omega
      simp only [h1, h2, h3, h4, decide_true, decide_false, cond_true, Option.bind_some, Bool.true_and, cond_false]
theorem s_kind (s : ByteArray) (h : s.size ≤ 4611686018427387904) : M.s_l22Kind s = some (lowS s && (decide (1 ≤ s.size) && decide (s.size ≤ 8))) := by
  unfold M.s_l22Kind lowS
  rw [while_all (fun i => (i : Int)) (fun i => decide (97 ≤ byteN s i) && decide (byteN s i ≤ 122)) (.inr false) (.inl ()) s.size (by simp) h]
  · simp only [s_in, Option.bind_some]
    cases (List.range s.size).all fun i => decide (97 ≤ byteN s i) && decide (byteN s i ≤ 122) with
    | false => rfl
    | true =>
      simp only [cond_true, Option.bind_some, Sum.elim_inl, Bool.true_and]
      congr 2
      · rw [decide_eq_decide]; omega
      · rw [decide_eq_decide]; omega
  · intro i hi
    have h1 : ((i : Int) < (s.size : Int)) := by omega
    simp only [h1, decide_true, cond_true]
    rw [lettersBody s hi, w64_succ (by omega)]
  · simp only [Int.lt_irrefl, decide_false, cond_false]
theorem i_kind (s : ByteArray) (h : s.size ≤ 4611686018427387904) : M.i_isEventKind s = some (lowS s && (decide (1 ≤ s.size) && decide (s.size ≤ 8))) := by
  unfold M.i_isEventKind M.i_isWord lowS
  rw [while_all (fun i => (i : Int)) (fun i => decide (97 ≤ byteN s i) && decide (byteN s i ≤ 122)) (.inr false) (.inl ()) s.size (by simp) h]
  · simp only [i_in, Option.bind_some]
    cases (List.range s.size).all fun i => decide (97 ≤ byteN s i) && decide (byteN s i ≤ 122) with
    | false => rfl
    | true =>
      simp only [cond_true, Option.bind_some, Sum.elim_inl, Bool.true_and]
      have e1 : decide ((1 : Int) ≤ (s.size : Int)) = decide (1 ≤ s.size) := by rw [decide_eq_decide]; omega
      have e2 : decide ((s.size : Int) ≤ 8) = decide (s.size ≤ 8) := by rw [decide_eq_decide]; omega
      have e3 : decide ((s.size : Int) ≤ 10) = decide (s.size ≤ 10) := by rw [decide_eq_decide]; omega
      rw [e1, e2, e3]
      by_cases h2 : s.size ≤ 8
      · have h3 : s.size ≤ 10 := by omega
        simp only [h2, h3, decide_true, Bool.and_true]
        cases decide (1 ≤ s.size) <;> rfl
      · simp only [h2, decide_false, Bool.and_false]
        cases (decide (1 ≤ s.size) && decide (s.size ≤ 10)) <;> rfl
  · intro i hi
    have h1 : ((i : Int) < (s.size : Int)) := by omega
    simp only [h1, decide_true, cond_true]
    rw [lettersBody s hi, w64_succ (by omega)]
  · simp only [Int.lt_irrefl, decide_false, cond_false]
def oneE (e : Event) : Bool := (decide (0 ≤ e.Tick) && decide (e.Tick ≤ 100000)) && ((decide (0 ≤ e.Guest) && decide (e.Guest ≤ 4)) && ((lowS e.Kind && (decide (1 ≤ e.Kind.size) && decide (e.Kind.size ≤ 8))) && (decide (0 ≤ e.Value) && decide (e.Value ≤ 65535))))
theorem s_oneE (e : Event) (h : e.Kind.size ≤ 4611686018427387904) : M.s_l22One e = some (oneE e) := by
  unfold M.s_l22One M.s_l11Tick M.s_l22Guest oneE
  simp only [s_in, s_kind _ h, Option.bind_some]
  cases (decide (0 ≤ e.Tick) && decide (e.Tick ≤ 100000)) <;> cases (decide (0 ≤ e.Guest) && decide (e.Guest ≤ 4)) <;> cases (lowS e.Kind && (decide (1 ≤ e.Kind.size) && decide (e.Kind.size ≤ 8))) <;> rfl
theorem i_oneE (e : Event) (h : e.Kind.size ≤ 4611686018427387904) : M.i_IsEvent e = some (oneE e) := by
  unfold M.i_IsEvent M.i_isTick M.i_isParty M.i_isWord16 oneE
  simp only [i_in, i_kind _ h, Option.bind_some]
  cases (decide (0 ≤ e.Tick) && decide (e.Tick ≤ 100000)) <;> cases (decide (0 ≤ e.Guest) && decide (e.Guest ≤ 4)) <;> cases (lowS e.Kind && (decide (1 ≤ e.Kind.size) && decide (e.Kind.size ≤ 8))) <;> rfl
theorem IsEvent_eq (e : Event) (h : (e.Kind.size : Int) ≤ 1048576) : ∃ r, M.s_IsEvent e = some r ∧ M.i_IsEvent e = some r := by
  refine ⟨oneE e, ?_, i_oneE e (by omega)⟩
  unfold M.s_IsEvent
  rw [s_oneE e (by omega)]
  rfl
theorem szEvent_ex (e : Event) (left : Int) (h : okEvent e) (hl : -1 ≤ left ∧ left ≤ 1048576) : ∃ q, M.l_szEvent e left = some q ∧ (q < 0 ∨ (0 ≤ q ∧ q ≤ left ∧ (e.Kind.size : Int) ≤ left - q)) := by
  unfold M.l_szEvent
  have : e.Kind.size ≤ maxLen := h.2.2.1
  simp only [maxLen] at this
  exact sz_simple (by omega) hl
/-- Small lists of small events. -/
def smallE (xs : List Event) : Prop := (xs.length : Int) ≤ 1048576 ∧ ∀ e ∈ xs, (e.Kind.size : Int) ≤ 1048576
theorem szEventS_ex (xs : List Event) (left : Int) (h : okL okEvent xs) (hl : -1 ≤ left ∧ left ≤ 1048576) : ∃ q, M.l_szEventS xs left = some q ∧ (q < 0 ∨ (0 ≤ q ∧ q ≤ left ∧ smallE xs)) := by
  unfold M.l_szEventS
  have hx := h.1
  rw [w64_id (by omega) (by omega)]
  by_cases hc : left - (xs.length : Int) < 0
  · exact ⟨-1, by simp [hc], Or.inl (by omega)⟩
  · simp only [hc, decide_false, cond_false]
    have := while_inv (body := fun s390 : Int × Int =>
      bif decide (s390.2 < (xs.length : Int)) then (Option.bind (gxIdx xs s390.2) fun y402 =>
      Option.bind (M.l_szEvent y402 s390.1) fun r403 =>
      bif decide (r403 < 0) then some (.inr (Sum.inr (α := Int) (-1)))
      else some (.inl (r403, w64 (s390.2 + 1))))
      else some (.inr (.inl s390.1))) (s0 := (left - (xs.length : Int), 0)) (fun i s => s.2 = (i : Int) ∧ 0 ≤ s.1 ∧ s.1 ≤ left - xs.length ∧ ∀ e ∈ xs.take i, (e.Kind.size : Int) ≤ 1048576) (fun q => q = .inr (-1) ∨ ∃ z, q = .inl z ∧ 0 ≤ z ∧ z ≤ left - xs.length ∧ ∀ e ∈ xs, (e.Kind.size : Int) ≤ 1048576) xs.length (by omega) (by simp; omega) (fun i s hi hR => by
        obtain ⟨a, b⟩ := s
        obtain ⟨rfl, h0, h1, h2⟩ := hR
        simp only at h0 h1
        have e0 : ((i : Int) < (xs.length : Int)) := by omega
        obtain ⟨q, hq, hq2⟩ := szEvent_ex xs[i] a (h.2 _ (List.getElem_mem hi)) (by omega)
        simp only [e0, decide_true, cond_true, gxIdx_nat hi, Option.bind_some, hq, w64_succ (show i ≤ 4611686018427387904 by omega)]
        rcases hq2 with hq2 | ⟨hq2, hq3, hq4⟩
        · simp only [hq2, decide_true, cond_true]
          exact Or.inr ⟨_, rfl, Or.inl rfl⟩
        · have hn : ¬ (q < 0) := by omega
          simp only [hn, decide_false, cond_false]
          refine Or.inl ⟨_, rfl, rfl, hq2, by simp only; omega, fun e he => ?_⟩
          rw [List.take_add_one, List.getElem?_eq_getElem hi, Option.toList_some, List.mem_append] at he
          rcases he with he | he
          · exact h2 e he
          · rw [List.mem_singleton] at he
            subst he
            omega) (fun s hR => by
        obtain ⟨a, b⟩ := s
        obtain ⟨rfl, h0, h1, h2⟩ := hR
        rw [List.take_length] at h2
        simp only [Int.lt_irrefl, decide_false, cond_false]
        exact ⟨_, rfl, Or.inr ⟨a, rfl, h0, h1, h2⟩⟩)
    obtain ⟨q, hq, hq2⟩ := this
    rw [hq]
    rcases hq2 with rfl | ⟨z, rfl, hz0, hz1, hz2⟩
    · exact ⟨-1, rfl, Or.inl (by omega)⟩
    · exact ⟨z, rfl, Or.inr ⟨hz0, by omega, by omega, hz2⟩⟩
def gE : Event := ⟨0, 0, ByteArray.empty, 0⟩
def badE (xs : List Event) (i : Nat) : Bool := !(oneE (xs.getD i gE)) || (decide ((i : Int) > 0) && decide ((xs.getD (i - 1) gE).Tick > (xs.getD i gE).Tick))
def goodE (xs : List Event) : Bool := (List.range xs.length).all (fun i => !(badE xs i)) && decide ((xs.length : Int) ≤ 30)
theorem s_goodE (xs : List Event) (h : smallE xs) : M.s_l22Good xs = some (goodE xs) := by
  have hl := h.1
  unfold M.s_l22Good goodE
  rw [while_all (fun i => (i : Int)) (fun i => !(badE xs i)) (.inr false) (.inl ()) xs.length (by simp) (by omega)]
  · cases (List.range xs.length).all (fun i => !(badE xs i)) <;> rfl
  · intro i hi
    have e0 : ((i : Int) < (xs.length : Int)) := by omega
    have hk := h.2 _ (List.getElem_mem hi)
    unfold badE
    rw [getD_at hi]
    simp only [e0, decide_true, cond_true, gxIdx_nat hi, s_oneE xs[i] (by omega), Option.bind_some, w64_succ (show i ≤ 4611686018427387904 by omega)]
    cases oneE xs[i] with
    | false => rfl
    | true =>
      by_cases hp : (i : Int) > 0
      · rw [getD_at (show i - 1 < xs.length by omega)]
        simp only [hp, decide_true, cond_true, gxIdx_prevG hi (by omega) (by omega), Option.bind_some, Bool.not_true, cond_false, Bool.false_or, Bool.true_and]
        cases decide ((xs[i - 1]'(by omega)).Tick > xs[i].Tick) <;> rfl
      · simp only [hp, decide_false, cond_false, Bool.not_true, Bool.false_or, Bool.false_and]
        rfl
  · simp only [Int.lt_irrefl, decide_false, cond_false]
theorem i_goodE (xs : List Event) (h : smallE xs) : M.i_IsRecord xs = some (goodE xs) := by
  have hl := h.1
  unfold M.i_IsRecord goodE
  rw [while_all (fun i => (i : Int)) (fun i => !(badE xs i)) (.inr false) (.inl ()) xs.length (by simp) (by omega)]
  · cases (List.range xs.length).all (fun i => !(badE xs i)) <;> rfl
  · intro i hi
    have e0 : ((i : Int) < (xs.length : Int)) := by omega
    have hk := h.2 _ (List.getElem_mem hi)
    unfold badE
    rw [getD_at hi]
    simp only [e0, decide_true, cond_true, gxIdx_nat hi, i_oneE xs[i] (by omega), Option.bind_some, w64_succ (show i ≤ 4611686018427387904 by omega)]
    cases oneE xs[i] with
    | false => rfl
    | true =>
      by_cases hp : (i : Int) > 0
      · rw [getD_at (show i - 1 < xs.length by omega)]
        simp only [hp, decide_true, cond_true, gxIdx_prevG hi (by omega) (by omega), Option.bind_some, Bool.not_true, cond_false, Bool.false_or, Bool.true_and]
        cases decide ((xs[i - 1]'(by omega)).Tick > xs[i].Tick) <;> rfl
      · simp only [hp, decide_false, cond_false, Bool.not_true, Bool.false_or, Bool.false_and]
        rfl
  · simp only [Int.lt_irrefl, decide_false, cond_false]
theorem IsRecord_eq (xs : List Event) (h : smallE xs) : ∃ r, M.s_IsRecord xs = some r ∧ M.i_IsRecord xs = some r := by
  refine ⟨goodE xs, ?_, i_goodE xs h⟩
  unfold M.s_IsRecord
  rw [s_goodE xs h]
  rfl
theorem gap_total (xs : List Event) (h : smallE xs) (h2 : ¬ ((xs.length : Int) < 2)) : ∃ q, whileM (σ := Int × Int × Int) (ρ := Int × Int) (fun s962 =>
    bif decide (s962.2.2 < (xs.length : Int)) then (Option.bind (gxIdx xs s962.2.2) fun y974 =>
    Option.bind (gxIdx xs (w64 (s962.2.2 - 1))) fun y975 =>
    Option.bind (α := Int × Int) (bif decide ((w64 (y974.Tick - y975.Tick)) > s962.1) then some (w64 (y974.Tick - y975.Tick), s962.2.2)
    else some (s962.1, s962.2.1)) fun o979 =>
    some (.inl (o979.1, o979.2, w64 (s962.2.2 + 1))))
    else some (.inr (s962.1, s962.2.1))) gxFuel ((-1), 0, 1) = some q := by
  have hl := h.1
  have key : ∀ (n i fuel : Nat) (a b : Int), 1 ≤ i → i + n = xs.length → n < fuel → ∃ q, whileM (σ := Int × Int × Int) (ρ := Int × Int) (fun s962 =>
    bif decide (s962.2.2 < (xs.length : Int)) then (Option.bind (gxIdx xs s962.2.2) fun y974 =>
    Option.bind (gxIdx xs (w64 (s962.2.2 - 1))) fun y975 =>
    Option.bind (α := Int × Int) (bif decide ((w64 (y974.Tick - y975.Tick)) > s962.1) then some (w64 (y974.Tick - y975.Tick), s962.2.2)
    else some (s962.1, s962.2.1)) fun o979 =>
    some (.inl (o979.1, o979.2, w64 (s962.2.2 + 1))))
    else some (.inr (s962.1, s962.2.1))) fuel (a, b, (i : Int)) = some q := by
    intro n
    induction n with
    | zero =>
      intro i fuel a b h1 hi hf
      obtain ⟨m, rfl⟩ : ∃ m, fuel = m + 1 := ⟨fuel - 1, by omega⟩
      have e0 : ¬ ((i : Int) < (xs.length : Int)) := by omega
      exact ⟨(a, b), by simp only [whileM, e0, decide_false, cond_false]⟩
    | succ n ih =>
      intro i fuel a b h1 hi hf
      obtain ⟨m, rfl⟩ : ∃ m, fuel = m + 1 := ⟨fuel - 1, by omega⟩
      have hlt : i < xs.length := by omega
      have e0 : ((i : Int) < (xs.length : Int)) := by omega
      simp only [whileM, e0, decide_true, cond_true, gxIdx_nat hlt, gxIdx_prevG hlt (by omega) (by omega), Option.bind_some, w64_succ (show i ≤ 4611686018427387904 by omega)]
      by_cases hg : w64 (xs[i].Tick - (xs[i - 1]'(by omega)).Tick) > a
      · simp only [hg, decide_true, cond_true, Option.bind_some]
        exact ih (i + 1) m _ _ (by omega) (by omega) (by omega)
      · simp only [hg, decide_false, cond_false, Option.bind_some]
        exact ih (i + 1) m _ _ (by omega) (by omega) (by omega)
  exact key (xs.length - 1) 1 gxFuel (-1) 0 (by omega) (by omega) (by unfold gxFuel; omega)
theorem LongestGap_eq (xs : List Event) (h : smallE xs) : ∃ r, M.s_LongestGap xs = some r ∧ M.i_LongestGap xs = some r := by
  unfold M.s_LongestGap M.i_LongestGap
  simp only [s_goodE xs h, i_goodE xs h, Option.bind_some]
  cases goodE xs with
  | false => exact ⟨_, rfl, rfl⟩
  | true =>
    by_cases h2 : (xs.length : Int) < 2
    · simp only [Bool.not_true, cond_false, h2, decide_true, Option.bind_some, cond_true]
      exact ⟨_, rfl, rfl⟩
    · obtain ⟨q, hq⟩ := gap_total xs h h2
      simp only [Bool.not_true, cond_false, h2, decide_false, Option.bind_some, hq]
      exact ⟨_, rfl, rfl⟩
def withE (xs : List Event) (k : ByteArray) (v : Int) (i : Nat) : Bool := ((xs.getD i gE).Kind.toList == k.toList) && decide ((xs.getD i gE).Value ≥ v)
theorem FirstWith_eq (xs : List Event) (k : ByteArray) (v : Int) (h : smallE xs) (_ : (k.size : Int) ≤ 1048576) : ∃ r, M.s_FirstWith xs k v = some r ∧ M.i_FirstWith xs k v = some r := by
  have hl := h.1
  unfold M.s_FirstWith M.i_FirstWith M.slices_IndexFunc_59__i_FirstWith_1 M.i_FirstWith_1 M.i_isWord16
  simp only [s_goodE xs h, i_goodE xs h, s_in, i_in, Option.bind_some]
  cases goodE xs with
  | false => exact ⟨_, rfl, rfl⟩
  | true => cases (decide (0 ≤ v) && decide (v ≤ 65535)) with
    | false => exact ⟨_, rfl, rfl⟩
    | true =>
      simp only [Bool.not_true, cond_false, Option.bind_some]
      rw [while_first (fun i => (i : Int)) (withE xs k v) (fun i => (Sum.inr ((i : Int), true) : Unit ⊕ (Int × Bool))) (.inl ()) xs.length (by simp) (by omega) ?_ ?_, while_first (fun i => (i : Int)) (withE xs k v) (fun i => (Sum.inr (i : Int) : Unit ⊕ Int)) (.inl ()) xs.length (by simp) (by omega) ?_ ?_]
      · cases hf : (List.range xs.length).find? (withE xs k v) with
        | none => exact ⟨_, rfl, rfl⟩
        | some i =>
          have : ¬ ((i : Int) < 0) := by omega
          simp only [Option.bind_some, Sum.elim_inr, this, decide_false, cond_false]
          exact ⟨_, rfl, rfl⟩
      · intro i hi
        have e0 : ((i : Int) < (xs.length : Int)) := by omega
        unfold withE
        rw [getD_at hi]
        simp only [e0, decide_true, cond_true, gxIdx_nat hi, Option.bind_some, w64_succ (show i ≤ 4611686018427387904 by omega)]
        cases (xs[i].Kind.toList == k.toList) <;> cases decide (xs[i].Value ≥ v) <;> rfl
      · simp only [Int.lt_irrefl, decide_false, cond_false]
      · intro i hi
        have e0 : ((i : Int) < (xs.length : Int)) := by omega
        unfold withE
        rw [getD_at hi]
        simp only [e0, decide_true, cond_true, gxIdx_nat hi, Option.bind_some, w64_succ (show i ≤ 4611686018427387904 by omega)]
        cases (xs[i].Kind.toList == k.toList) <;> cases decide (xs[i].Value ≥ v) <;> rfl
      · simp only [Int.lt_irrefl, decide_false, cond_false]
end Go.Proofs.Ytfcebglkdfadcaa
