/- Plain laws of the models: no program in sight. -/
import Derived.Test.YtimffallbjpcjaaGreatDoorM
import Derived.Test.YtimffallbjpcjaaGreatDoorGxH
set_option linter.unusedVariables false
set_option linter.unusedSimpArgs false
set_option maxHeartbeats 4000000
namespace Go.Proofs.YtimffallbjpcjaaGreatDoor
open Go.Gx
/-! ### Ranges, loops that find -/
theorem s_in (x a b : Int) : M.s_l1In x a b = some (decide (a ≤ x) && decide (x ≤ b)) := by
  unfold M.s_l1In
  by_cases h : x ≥ a <;> simp [h]
theorem i_in (x a b : Int) : M.i_inside x a b = some (decide (a ≤ x) && decide (x ≤ b)) := by
  unfold M.i_inside
  by_cases h : x ≥ a <;> simp [h]
theorem while_first {σ ρ : Type} {body : σ → Option (σ ⊕ ρ)} {s0 : σ} (st : Nat → σ) (p : Nat → Bool) (hit : Nat → ρ) (r : ρ) (n : Nat) (h0 : s0 = st 0) (hn : n ≤ 4611686018427387904) (h : ∀ i, i < n → body (st i) = some (bif p i then .inr (hit i) else .inl (st (i + 1)))) (he : body (st n) = some (.inr r)) :
    whileM body gxFuel s0 = some (match (List.range n).find? p with
      | some i => hit i
      | none => r) := by
  cases hf : (List.range n).find? p with
  | none =>
    rw [List.find?_eq_none] at hf
    refine while_run st r n h0 hn (fun i hi => ?_) he
    have : p i = false := by
      have := hf i (List.mem_range.2 hi)
      simpa using this
    rw [h i hi, this]
    rfl
  | some i =>
    rw [List.find?_range_eq_some] at hf
    obtain ⟨h1, h2, h3⟩ := hf
    have hi : i < n := List.mem_range.1 h2
    refine while_run st (hit i) i h0 (by omega) (fun j hj => ?_) (by rw [h i hi, h1]; rfl)
    have : p j = false := by
      have := h3 j hj
      simpa using this
    rw [h j (by omega), this]
    rfl
theorem while_all {σ ρ : Type} {body : σ → Option (σ ⊕ ρ)} {s0 : σ} (st : Nat → σ) (ok : Nat → Bool) (bad r : ρ) (n : Nat) (h0 : s0 = st 0) (hn : n ≤ 4611686018427387904) (h : ∀ i, i < n → body (st i) = some (bif ok i then .inl (st (i + 1)) else .inr bad)) (he : body (st n) = some (.inr r)) :
    whileM body gxFuel s0 = some (bif (List.range n).all ok then r else bad) := by
  rw [while_first st (fun i => !(ok i)) (fun _ => bad) r n h0 hn (fun i hi => by rw [h i hi]; cases ok i <;> rfl) he]
  cases hf : (List.range n).find? (fun i => !(ok i)) with
  | none =>
    rw [List.find?_eq_none] at hf
    have : (List.range n).all ok = true := List.all_eq_true.2 fun i hi => by simpa using hf i hi
    rw [this]
    rfl
  | some i =>
    have h1 := List.find?_some hf
    have h2 := List.mem_of_find?_eq_some hf
    have : (List.range n).all ok = false := by
      rw [List.all_eq_false]
      exact ⟨i, h2, by simpa using h1⟩
    rw [this]
    rfl
theorem gxIdx_prevG {α : Type} {xs : List α} {i : Nat} (h : i < xs.length) (h0 : 0 < i) (hl : i ≤ 4611686018427387904) : gxIdx xs (w64 ((i : Int) - 1)) = some (xs[i - 1]'(by omega)) := by
  rw [w64_id (by omega) (by omega), show ((i : Int) - 1) = ((i - 1 : Nat) : Int) by omega]
  exact gxIdx_nat (by omega)
theorem getD_at {α : Type} {xs : List α} {i : Nat} {z : α} (h : i < xs.length) : xs.getD i z = xs[i] := by
  rw [List.getD_eq_getElem?_getD, List.getElem?_eq_getElem h]; rfl

/-! ### Marks, in general -/
/-- Each element gets numbers from k on. -/
def gmk {α : Type} (f : α → Nat → Nat × α) : List α → Nat → Nat × List α
  | [], k => (k, [])
  | x :: r, k => ((gmk f r (f x k).1).1, (f x k).2 :: (gmk f r (f x k).1).2)
theorem gmk_app {α : Type} {f : α → Nat → Nat × α} : ∀ (a b : List α) (k : Nat), gmk f (a ++ b) k = ((gmk f b (gmk f a k).1).1, (gmk f a k).2 ++ (gmk f b (gmk f a k).1).2)
  | [], b, k => rfl
  | x :: r, b, k => by simp only [List.cons_append, gmk, gmk_app r b]
theorem gmk_len {α : Type} {f : α → Nat → Nat × α} : ∀ (a : List α) (k : Nat), (gmk f a k).2.length = a.length
  | [], k => rfl
  | x :: r, k => by simp only [gmk, List.length_cons, gmk_len r]
theorem gmk_succ {α : Type} {f : α → Nat → Nat × α} {xs : List α} {i : Nat} (h : i < xs.length) (k : Nat) : gmk f (xs.take (i + 1)) k = ((f xs[i] (gmk f (xs.take i) k).1).1, (gmk f (xs.take i) k).2 ++ [(f xs[i] (gmk f (xs.take i) k).1).2]) := by
  rw [List.take_add_one, List.getElem?_eq_getElem h, Option.toList_some, gmk_app]
  rfl
theorem gmk_mono {α : Type} {f : α → Nat → Nat × α} (hf : ∀ x k, k ≤ (f x k).1) : ∀ (a : List α) (k : Nat), k ≤ (gmk f a k).1
  | [], k => Nat.le_refl _
  | x :: r, k => Nat.le_trans (hf x k) (gmk_mono hf r _)
theorem gmk_take_le {α : Type} {f : α → Nat → Nat × α} (hf : ∀ x k, k ≤ (f x k).1) (xs : List α) (k i : Nat) : (gmk f (xs.take i) k).1 ≤ (gmk f xs k).1 := by
  have : gmk f xs k = gmk f (xs.take i ++ xs.drop i) k := by rw [List.take_append_drop]
  rw [this, gmk_app]
  exact gmk_mono hf _ _
theorem gmk_get {α : Type} {f : α → Nat → Nat × α} {xs : List α} {i : Nat} (h : i < xs.length) (k : Nat) (h2 : i < (gmk f xs k).2.length) : (gmk f xs k).2[i] = (f xs[i] (gmk f (xs.take i) k).1).2 := by
  have e : gmk f xs k = gmk f (xs.take (i + 1) ++ xs.drop (i + 1)) k := by rw [List.take_append_drop]
  have h3 : (gmk f xs k).2 = (gmk f (xs.take i) k).2 ++ ([(f xs[i] (gmk f (xs.take i) k).1).2] ++ (gmk f (xs.drop (i + 1)) (gmk f (xs.take (i + 1)) k).1).2) := by
    rw [e, gmk_app, gmk_succ h]
    simp
  have hl : (gmk f (xs.take i) k).2.length = i := by rw [gmk_len]; simp; omega
  have : (gmk f xs k).2[i]? = some (f xs[i] (gmk f (xs.take i) k).1).2 := by
    rw [h3, List.getElem?_append_right (by omega), hl, Nat.sub_self]
    rfl
  rw [List.getElem?_eq_getElem h2] at this
  exact Option.some.inj this
theorem mark_run {α : Type} (f : α → Nat → Nat × α) {xs : List α} {k : Nat} {body : Int × Int × List α → Option ((Int × Int × List α) ⊕ (Int × List α))} (hf : ∀ x k, k ≤ (f x k).1) (hb : (gmk f xs k).1 ≤ 1099511627776) (hl : xs.length ≤ 1099511627776)
    (h : ∀ (i : Nat) (hi : i < xs.length) (K : Nat) (L : List α) (hL : i < L.length), (f xs[i] K).1 ≤ 1099511627776 → L[i] = xs[i] → L.length = xs.length → body ((K : Int), (i : Int), L) = some (.inl (((f xs[i] K).1 : Int), w64 ((i : Int) + 1), L.set i (f xs[i] K).2)))
    (he : ∀ (K : Int) (L : List α), L.length = xs.length → body (K, (xs.length : Int), L) = some (.inr (K, L))) : whileM body gxFuel ((k : Int), 0, xs) = some (((gmk f xs k).1 : Int), (gmk f xs k).2) := by
  refine while_run (fun i => (((gmk f (xs.take i) k).1 : Int), (i : Int), (gmk f (xs.take i) k).2 ++ xs.drop i)) _ xs.length (by simp [gmk]) (by omega) (fun i hi => ?_) ?_
  · have hll : (gmk f (xs.take i) k).2.length = i := by rw [gmk_len]; simp; omega
    have hL : i < ((gmk f (xs.take i) k).2 ++ xs.drop i).length := by simp [hll]; omega
    have hs := gmk_succ (f := f) hi k
    have hle := gmk_take_le hf xs k (i + 1)
    rw [hs] at hle
    rw [h i hi _ _ hL (by simp only at hle; omega) (by rw [List.getElem_append_right (by omega)]; simp [hll]) (by simp [hll]; omega), hs, w64_succ (by omega)]
    congr 4
    rw [List.set_append_right _ _ (by omega), hll, Nat.sub_self, List.drop_eq_getElem_cons hi, List.set_cons_zero]
    simp
  · have := he ((gmk f (xs.take xs.length) k).1 : Int) ((gmk f (xs.take xs.length) k).2 ++ xs.drop xs.length) (by simp [gmk_len])
    rw [this]
    simp
theorem held_run {α : Type} (f : α → Nat → Nat × α) {xs : List α} {k : Nat} {body : Int × Int → Option ((Int × Int) ⊕ (Int ⊕ Int))} (hf : ∀ x k, k ≤ (f x k).1) (hb : (gmk f xs k).1 ≤ 1099511627776) (hl : xs.length ≤ 1099511627776)
    (h : ∀ (i : Nat) (hi : i < xs.length) (h2 : i < (gmk f xs k).2.length) (K : Nat), (f xs[i] K).1 ≤ 1099511627776 → (gmk f xs k).2[i] = (f xs[i] K).2 → body ((K : Int), (i : Int)) = some (.inl (((f xs[i] K).1 : Int), w64 ((i : Int) + 1))))
    (he : ∀ K : Int, body (K, (xs.length : Int)) = some (.inr (.inl K))) : whileM body gxFuel ((k : Int), 0) = some (.inl ((gmk f xs k).1 : Int)) := by
  refine while_run (fun i => (((gmk f (xs.take i) k).1 : Int), (i : Int))) _ xs.length (by simp [gmk]) (by omega) (fun i hi => ?_) ?_
  · have h2 : i < (gmk f xs k).2.length := by rw [gmk_len]; exact hi
    have hs := gmk_succ (f := f) hi k
    have hle := gmk_take_le hf xs k (i + 1)
    rw [hs] at hle
    rw [h i hi h2 _ (by simp only at hle; omega) (gmk_get hi k h2), hs, w64_succ (by omega)]
  · rw [he, List.take_length]
theorem gxIdx_same {α : Type} {xs : List α} {i : Nat} {a : α} (h : i < xs.length) : gxIdx (xs.set i a) (i : Int) = some a := by
  rw [gxIdx_nat (by simpa using h)]
  simp
theorem gmk_const {α : Type} {f : α → Nat → Nat × α} {W : Nat} (hf : ∀ x k, (f x k).1 = k + W) : ∀ (a : List α) (k : Nat), (gmk f a k).1 = k + W * a.length
  | [], k => by simp [gmk]
  | x :: r, k => by
    simp only [gmk, gmk_const hf r, hf, List.length_cons, Nat.mul_add, Nat.mul_one]
    omega
theorem nat_nlt (n : Nat) : decide ((n : Int) < 0) = false := by simp
theorem sz_simple {n left : Int} (h0 : 0 ≤ n ∧ n ≤ 9223372036854775807) (hl : -1 ≤ left ∧ left ≤ 1048576) : ∃ q, (bif decide (w64 (left - n) < 0) then some (-1) else some (w64 (left - n))) = some q ∧ (q < 0 ∨ (0 ≤ q ∧ q ≤ left ∧ n ≤ left - q)) := by
  rw [w64_id (by omega) (by omega)]
  by_cases hc : left - n < 0
  · exact ⟨-1, by simp [hc], Or.inl (by omega)⟩
  · exact ⟨left - n, by simp [hc], Or.inr (by omega)⟩

/-! ### Event -/
def okEvent (x : Event) : Prop := okI x.Tick ∧ okI x.Guest ∧ okS x.Kind ∧ okI x.Value
/-! ### Events -/
/-- The byte at i. -/
def byteN (s : ByteArray) (i : Nat) : Int := ((s[i]?).map fun b => (b.toNat : Int)).getD 0
theorem gxSIdx_ok {s : ByteArray} {i : Nat} (h : i < s.size) : gxSIdx s (i : Int) = some (byteN s i) := by
  unfold gxSIdx byteN
  rw [if_pos (by omega), Int.toNat_natCast]
  have : s[i]? = some s[i] := by simp [h]
  rw [this]
  rfl
def lowS (s : ByteArray) : Bool := (List.range s.size).all fun i => decide (97 ≤ byteN s i) && decide (byteN s i ≤ 122)
theorem lettersBody (s : ByteArray) {i : Nat} (hi : i < s.size) : (Option.bind (α := Bool) (Option.bind (gxSIdx s (i : Int)) fun q136 =>
    bif decide (q136 < 97) then some true
    else (Option.bind (gxSIdx s (i : Int)) fun q138 =>
    some (decide (q138 > 122)))) fun o133 =>
    bif o133 then some (Sum.inr (α := Int) (Sum.inr (α := Unit) false))
    else some (.inl (w64 ((i : Int) + 1)))) = some (bif (decide (97 ≤ byteN s i) && decide (byteN s i ≤ 122)) then .inl (w64 ((i : Int) + 1)) else .inr (.inr false)) := by
  simp only [gxSIdx_ok hi, Option.bind_some]
  by_cases h1 : byteN s i < 97
  · have h2 : ¬ (97 ≤ byteN s i) := by omega
    simp only [h1, h2, decide_true, decide_false, cond_true, Option.bind_some, Bool.false_and, cond_false]
  · have h2 : 97 ≤ byteN s i := by omega
    by_cases h3 : byteN s i ≤ 122
    · have h4 : ¬ (byteN s i > 122) := by omega
      simp only [h1, h2, h3, h4, decide_true, decide_false, cond_true, Option.bind_some, Bool.true_and, cond_false]
    · have h4 : byteN s i > 122 := by omega
      simp only [h1, h2, h3, h4, decide_true, decide_false, cond_true, Option.bind_some, Bool.true_and, cond_false]
theorem s_kind (s : ByteArray) (h : s.size ≤ 4611686018427387904) : M.s_l22Kind s = some (lowS s && (decide (1 ≤ s.size) && decide (s.size ≤ 8))) := by
  unfold M.s_l22Kind lowS
  rw [while_all (fun i => (i : Int)) (fun i => decide (97 ≤ byteN s i) && decide (byteN s i ≤ 122)) (.inr false) (.inl ()) s.size (by simp) h]
  · simp only [s_in, Option.bind_some]
    cases (List.range s.size).all fun i => decide (97 ≤ byteN s i) && decide (byteN s i ≤ 122) with
    | false => rfl
    | true =>
      simp only [cond_true, Option.bind_some, Sum.elim_inl, Bool.true_and]
      congr 2
      · rw [decide_eq_decide]; omega
      · rw [decide_eq_decide]; omega
  · intro i hi
    have h1 : ((i : Int) < (s.size : Int)) := by omega
    simp only [h1, decide_true, cond_true]
    rw [lettersBody s hi, w64_succ (by omega)]
  · simp only [Int.lt_irrefl, decide_false, cond_false]
theorem i_kind (s : ByteArray) (h : s.size ≤ 4611686018427387904) : M.i_isEventKind s = some (lowS s && (decide (1 ≤ s.size) && decide (s.size ≤ 8))) := by
  unfold M.i_isEventKind M.i_isWord lowS
  rw [while_all (fun i => (i : Int)) (fun i => decide (97 ≤ byteN s i) && decide (byteN s i ≤ 122)) (.inr false) (.inl ()) s.size (by simp) h]
  · simp only [i_in, Option.bind_some]
    cases (List.range s.size).all fun i => decide (97 ≤ byteN s i) && decide (byteN s i ≤ 122) with
    | false => rfl
    | true =>
      simp only [cond_true, Option.bind_some, Sum.elim_inl, Bool.true_and]
      have e1 : decide ((1 : Int) ≤ (s.size : Int)) = decide (1 ≤ s.size) := by rw [decide_eq_decide]; omega
      have e2 : decide ((s.size : Int) ≤ 8) = decide (s.size ≤ 8) := by rw [decide_eq_decide]; omega
      have e3 : decide ((s.size : Int) ≤ 10) = decide (s.size ≤ 10) := by rw [decide_eq_decide]; omega
      rw [e1, e2, e3]
      by_cases h2 : s.size ≤ 8
      · have h3 : s.size ≤ 10 := by omega
        simp only [h2, h3, decide_true, Bool.and_true]
        cases decide (1 ≤ s.size) <;> rfl
      · simp only [h2, decide_false, Bool.and_false]
        cases (decide (1 ≤ s.size) && decide (s.size ≤ 10)) <;> rfl
  · intro i hi
    have h1 : ((i : Int) < (s.size : Int)) := by omega
    simp only [h1, decide_true, cond_true]
    rw [lettersBody s hi, w64_succ (by omega)]
  · simp only [Int.lt_irrefl, decide_false, cond_false]
def oneE (e : Event) : Bool := (decide (0 ≤ e.Tick) && decide (e.Tick ≤ 100000)) && ((decide (0 ≤ e.Guest) && decide (e.Guest ≤ 4)) && ((lowS e.Kind && (decide (1 ≤ e.Kind.size) && decide (e.Kind.size ≤ 8))) && (decide (0 ≤ e.Value) && decide (e.Value ≤ 65535))))
theorem s_oneE (e : Event) (h : e.Kind.size ≤ 4611686018427387904) : M.s_l22One e = some (oneE e) := by
  unfold M.s_l22One M.s_l11Tick M.s_l22Guest oneE
  simp only [s_in, s_kind _ h, Option.bind_some]
  cases (decide (0 ≤ e.Tick) && decide (e.Tick ≤ 100000)) <;> cases (decide (0 ≤ e.Guest) && decide (e.Guest ≤ 4)) <;> cases (lowS e.Kind && (decide (1 ≤ e.Kind.size) && decide (e.Kind.size ≤ 8))) <;> rfl
theorem i_oneE (e : Event) (h : e.Kind.size ≤ 4611686018427387904) : M.i_IsEvent e = some (oneE e) := by
  unfold M.i_IsEvent M.i_isTick M.i_isParty M.i_isWord16 oneE
  simp only [i_in, i_kind _ h, Option.bind_some]
  cases (decide (0 ≤ e.Tick) && decide (e.Tick ≤ 100000)) <;> cases (decide (0 ≤ e.Guest) && decide (e.Guest ≤ 4)) <;> cases (lowS e.Kind && (decide (1 ≤ e.Kind.size) && decide (e.Kind.size ≤ 8))) <;> rfl
/-- Small lists of small events. -/
def smallE (xs : List Event) : Prop := (xs.length : Int) ≤ 1048576 ∧ ∀ e ∈ xs, (e.Kind.size : Int) ≤ 1048576
def gE : Event := ⟨0, 0, ByteArray.empty, 0⟩
def badE (xs : List Event) (i : Nat) : Bool := !(oneE (xs.getD i gE)) || (decide ((i : Int) > 0) && decide ((xs.getD (i - 1) gE).Tick > (xs.getD i gE).Tick))
def goodE (xs : List Event) : Bool := (List.range xs.length).all (fun i => !(badE xs i)) && decide ((xs.length : Int) ≤ 30)
theorem s_goodE (xs : List Event) (h : smallE xs) : M.s_l22Good xs = some (goodE xs) := by
  have hl := h.1
  unfold M.s_l22Good goodE
  rw [while_all (fun i => (i : Int)) (fun i => !(badE xs i)) (.inr false) (.inl ()) xs.length (by simp) (by omega)]
  · cases (List.range xs.length).all (fun i => !(badE xs i)) <;> rfl
  · intro i hi
    have e0 : ((i : Int) < (xs.length : Int)) := by omega
    have hk := h.2 _ (List.getElem_mem hi)
    unfold badE
    rw [getD_at hi]
    simp only [e0, decide_true, cond_true, gxIdx_nat hi, s_oneE xs[i] (by omega), Option.bind_some, w64_succ (show i ≤ 4611686018427387904 by omega)]
    cases oneE xs[i] with
    | false => rfl
    | true =>
      by_cases hp : (i : Int) > 0
      · rw [getD_at (show i - 1 < xs.length by omega)]
        simp only [hp, decide_true, cond_true, gxIdx_prevG hi (by omega) (by omega), Option.bind_some, Bool.not_true, cond_false, Bool.false_or, Bool.true_and]
        cases decide ((xs[i - 1]'(by omega)).Tick > xs[i].Tick) <;> rfl
      · simp only [hp, decide_false, cond_false, Bool.not_true, Bool.false_or, Bool.false_and]
        rfl
  · simp only [Int.lt_irrefl, decide_false, cond_false]
theorem i_goodE (xs : List Event) (h : smallE xs) : M.i_IsRecord xs = some (goodE xs) := by
  have hl := h.1
  unfold M.i_IsRecord goodE
  rw [while_all (fun i => (i : Int)) (fun i => !(badE xs i)) (.inr false) (.inl ()) xs.length (by simp) (by omega)]
  · cases (List.range xs.length).all (fun i => !(badE xs i)) <;> rfl
  · intro i hi
    have e0 : ((i : Int) < (xs.length : Int)) := by omega
    have hk := h.2 _ (List.getElem_mem hi)
    unfold badE
    rw [getD_at hi]
    simp only [e0, decide_true, cond_true, gxIdx_nat hi, i_oneE xs[i] (by omega), Option.bind_some, w64_succ (show i ≤ 4611686018427387904 by omega)]
    cases oneE xs[i] with
    | false => rfl
    | true =>
      by_cases hp : (i : Int) > 0
      · rw [getD_at (show i - 1 < xs.length by omega)]
        simp only [hp, decide_true, cond_true, gxIdx_prevG hi (by omega) (by omega), Option.bind_some, Bool.not_true, cond_false, Bool.false_or, Bool.true_and]
        cases decide ((xs[i - 1]'(by omega)).Tick > xs[i].Tick) <;> rfl
      · simp only [hp, decide_false, cond_false, Bool.not_true, Bool.false_or, Bool.false_and]
        rfl
  · simp only [Int.lt_irrefl, decide_false, cond_false]
theorem gap_total (xs : List Event) (h : smallE xs) (h2 : ¬ ((xs.length : Int) < 2)) : ∃ q, whileM (σ := Int × Int × Int) (ρ := Int × Int) (fun s962 =>
    bif decide (s962.2.2 < (xs.length : Int)) then (Option.bind (gxIdx xs s962.2.2) fun y974 =>
    Option.bind (gxIdx xs (w64 (s962.2.2 - 1))) fun y975 =>
    Option.bind (α := Int × Int) (bif decide ((w64 (y974.Tick - y975.Tick)) > s962.1) then some (w64 (y974.Tick - y975.Tick), s962.2.2)
    else some (s962.1, s962.2.1)) fun o979 =>
    some (.inl (o979.1, o979.2, w64 (s962.2.2 + 1))))
    else some (.inr (s962.1, s962.2.1))) gxFuel ((-1), 0, 1) = some q := by
  have hl := h.1
  have key : ∀ (n i fuel : Nat) (a b : Int), 1 ≤ i → i + n = xs.length → n < fuel → ∃ q, whileM (σ := Int × Int × Int) (ρ := Int × Int) (fun s962 =>
    bif decide (s962.2.2 < (xs.length : Int)) then (Option.bind (gxIdx xs s962.2.2) fun y974 =>
    Option.bind (gxIdx xs (w64 (s962.2.2 - 1))) fun y975 =>
    Option.bind (α := Int × Int) (bif decide ((w64 (y974.Tick - y975.Tick)) > s962.1) then some (w64 (y974.Tick - y975.Tick), s962.2.2)
    else some (s962.1, s962.2.1)) fun o979 =>
    some (.inl (o979.1, o979.2, w64 (s962.2.2 + 1))))
    else some (.inr (s962.1, s962.2.1))) fuel (a, b, (i : Int)) = some q := by
    intro n
    induction n with
    | zero =>
      intro i fuel a b h1 hi hf
      obtain ⟨m, rfl⟩ : ∃ m, fuel = m + 1 := ⟨fuel - 1, by omega⟩
      have e0 : ¬ ((i : Int) < (xs.length : Int)) := by omega
      exact ⟨(a, b), by simp only [whileM, e0, decide_false, cond_false]⟩
    | succ n ih =>
      intro i fuel a b h1 hi hf
      obtain ⟨m, rfl⟩ : ∃ m, fuel = m + 1 := ⟨fuel - 1, by omega⟩
      have hlt : i < xs.length := by omega
      have e0 : ((i : Int) < (xs.length : Int)) := by omega
      simp only [whileM, e0, decide_true, cond_true, gxIdx_nat hlt, gxIdx_prevG hlt (by omega) (by omega), Option.bind_some, w64_succ (show i ≤ 4611686018427387904 by omega)]
      by_cases hg : w64 (xs[i].Tick - (xs[i - 1]'(by omega)).Tick) > a
      · simp only [hg, decide_true, cond_true, Option.bind_some]
        exact ih (i + 1) m _ _ (by omega) (by omega) (by omega)
      · simp only [hg, decide_false, cond_false, Option.bind_some]
        exact ih (i + 1) m _ _ (by omega) (by omega) (by omega)
  exact key (xs.length - 1) 1 gxFuel (-1) 0 (by omega) (by omega) (by unfold gxFuel; omega)
def withE (xs : List Event) (k : ByteArray) (v : Int) (i : Nat) : Bool := ((xs.getD i gE).Kind.toList == k.toList) && decide ((xs.getD i gE).Value ≥ v)
/-! ### Texts of events -/
theorem ba_ext {a b : ByteArray} (h : a.data.toList = b.data.toList) : a = b := by
  cases a
  cases b
  simp only [ByteArray.mk.injEq] at h ⊢
  exact Array.toList_inj.1 h
theorem ba_app (a b : ByteArray) : (a ++ b).data.toList = a.data.toList ++ b.data.toList := by
  rw [ByteArray.data_append, Array.toList_append]
theorem ba_size (a : ByteArray) : a.size = a.data.toList.length := by
  rw [Array.length_toList]
  rfl
theorem cat_ok {a b : ByteArray} (h : a.size + b.size ≤ 1048576) : gxSCat a b = some (a ++ b) := by
  unfold gxSCat
  rw [if_neg (by omega)]
theorem app_size (a b : ByteArray) : (a ++ b).size = a.size + b.size := by
  rw [ba_size, ba_size, ba_size, ba_app, List.length_append]
theorem itoa_list {n : Int} (h : 0 ≤ n) : (gxItoa n).data.toList = Lib.decDigits n.toNat := by
  unfold gxItoa Lib.itoa
  rw [if_neg (by omega)]
theorem digit_fin : ∀ k : Fin 10, ((ByteArray.mk #[48, 49, 50, 51, 52, 53, 54, 55, 56, 57]).extract k.val (k.val + 1)).data.toList = [UInt8.ofNat (48 + k.val)] := by decide
theorem digit_ok {k : Nat} (h : k < 10) : ∃ z, gxSSub (ByteArray.mk #[48, 49, 50, 51, 52, 53, 54, 55, 56, 57]) (k : Int) (w64 ((k : Int) + 1)) = some z ∧ z.data.toList = [UInt8.ofNat (48 + k)] := by
  have e : w64 ((k : Int) + 1) = ((k + 1 : Nat) : Int) := w64_succ (by omega)
  refine ⟨_, ?_, digit_fin ⟨k, h⟩⟩
  unfold gxSSub
  rw [e, if_pos ⟨by omega, by omega, by
    show ((k + 1 : Nat) : Int) ≤ ((10 : Nat) : Int)
    omega⟩]
  rfl
theorem digits_len : ∀ (m n : Nat), n < 10 ^ m → (Lib.decDigits n).length ≤ m + 1
  | 0, n, h => by
    rw [Lib.decDigits, dif_pos (by omega)]
    simp
  | m + 1, n, h => by
    rw [Lib.decDigits]
    split
    · simp
    · have h2 : n / 10 < 10 ^ m := by rw [Nat.pow_succ] at h; omega
      have := digits_len m (n / 10) h2
      simp only [List.length_append, List.length_cons, List.length_nil]
      omega
theorem num_ok : ∀ (m fuel n : Nat), n < 10 ^ m → m < fuel → m ≤ 18 → M.s_l1Num fuel (n : Int) = some (gxItoa (n : Int))
  | m, 0, n, h, hf, _ => by omega
  | m, f + 1, n, h, hf, hm => by
    unfold M.s_l1Num
    have n0 : ¬ ((n : Int) < 0) := by omega
    simp only [n0, decide_false, cond_false]
    by_cases h10 : n < 10
    · have e1 : (n : Int) < 10 := by omega
      obtain ⟨z, hz, hl⟩ := digit_ok h10
      simp only [e1, decide_true, cond_true, hz, Option.bind_some]
      congr 1
      refine ba_ext ?_
      rw [hl, itoa_list (by omega), Int.toNat_natCast, Lib.decDigits, dif_pos h10]
    · have e1 : ¬ ((n : Int) < 10) := by omega
      obtain ⟨k, rfl⟩ : ∃ k, m = k + 1 := ⟨m - 1, by
        cases m with
        | zero => simp at h; omega
        | succ k => omega⟩
      have hn : n < 10 ^ 18 := Nat.lt_of_lt_of_le h (Nat.pow_le_pow_right (by omega) hm)
      have h2 : n / 10 < 10 ^ k := by rw [Nat.pow_succ] at h; omega
      have ed : w64 ((n : Int).tdiv 10) = ((n / 10 : Nat) : Int) := by
        rw [show ((n : Int).tdiv 10) = ((n / 10 : Nat) : Int) from rfl]
        exact w64_id (by omega) (by omega)
      have er : (n : Int).tmod 10 = ((n % 10 : Nat) : Int) := rfl
      have ih := num_ok k f (n / 10) h2 (by omega) (by omega)
      obtain ⟨z, hz, hl⟩ := digit_ok (show n % 10 < 10 by omega)
      have hs : (gxItoa ((n / 10 : Nat) : Int)).size ≤ 30 := by
        rw [ba_size, itoa_list (by omega), Int.toNat_natCast]
        have := digits_len k (n / 10) h2
        omega
      have hs2 : z.size = 1 := by rw [ba_size, hl]; rfl
      simp only [e1, decide_false, cond_false, ed, er, ih, hz, Option.bind_some, cat_ok (show (gxItoa ((n / 10 : Nat) : Int)).size + z.size ≤ 1048576 by omega)]
      congr 1
      refine ba_ext ?_
      rw [ba_app, hl, itoa_list (by omega), itoa_list (by omega), Int.toNat_natCast, Int.toNat_natCast]
      conv => rhs; rw [Lib.decDigits, dif_neg h10]
theorem num_is {n : Int} (h0 : 0 ≤ n) (h1 : n ≤ 100000) : M.s_l1Num gxFuel n = some (gxItoa n) ∧ M.strconv_Itoa n = some (gxItoa n) ∧ (gxItoa n).size ≤ 30 := by
  obtain ⟨k, rfl⟩ : ∃ k : Nat, n = k := ⟨n.toNat, by omega⟩
  have hk : k < 10 ^ 6 := by omega
  refine ⟨num_ok 6 gxFuel k hk (by unfold gxFuel; omega) (by omega), ?_, ?_⟩
  · unfold M.strconv_Itoa
    have a1 : (-9223372036854775808 : Int) ≤ (k : Int) := by omega
    have a2 : (k : Int) ≤ 9223372036854775807 := by omega
    simp only [a1, a2, decide_true, Bool.and_true, cond_true]
  · rw [ba_size, itoa_list (by omega), Int.toNat_natCast]
    have := digits_len 6 k hk
    omega
def txtE (e : Event) : ByteArray :=
  ((gxItoa e.Tick ++ (bif decide (e.Guest > 0) then ByteArray.mk #[32, 103, 117, 101, 115, 116, 32] ++ gxItoa e.Guest ++ ByteArray.mk #[32] else ByteArray.mk #[32, 109, 97, 99, 104, 105, 110, 101, 32])) ++ e.Kind) ++ (bif decide (e.Value > 0) then ByteArray.mk #[32] ++ gxItoa e.Value else ByteArray.mk #[])
theorem s_text (e : Event) (h : oneE e = true) : M.s_l22Text e = some (txtE e) := by
  unfold oneE at h
  simp only [Bool.and_eq_true, decide_eq_true_eq] at h
  obtain ⟨⟨t0, t1⟩, ⟨g0, g1⟩, ⟨_, k0, k1⟩, v0, v1⟩ := h
  obtain ⟨n1, _, s1⟩ := num_is t0 t1
  obtain ⟨n2, _, s2⟩ := num_is g0 (by omega)
  obtain ⟨n3, _, s3⟩ := num_is v0 (by omega)
  have z1 : (ByteArray.mk #[32]).size = 1 := rfl
  have z2 : (ByteArray.mk #[32, 103, 117, 101, 115, 116, 32]).size = 7 := rfl
  have z3 : (ByteArray.mk #[32, 109, 97, 99, 104, 105, 110, 101, 32]).size = 9 := rfl
  unfold M.s_l22Text txtE
  rw [n1, n2, n3]
  simp only [Option.bind_some]
  rw [cat_ok (by omega)]
  simp only [Option.bind_some]
  rw [cat_ok (by omega)]
  simp only [Option.bind_some]
  rw [cat_ok (by rw [app_size]; omega)]
  simp only [Option.bind_some]
  rw [cat_ok (by rw [app_size, app_size]; omega)]
  simp only [Option.bind_some]
  cases decide (e.Guest > 0) <;> cases decide (e.Value > 0) <;> simp only [cond_true, cond_false, Option.bind_some]
  · rw [cat_ok (by rw [app_size]; omega)]
    simp only [Option.bind_some]
    congr 1
    refine ba_ext ?_
    simp only [ba_app, List.append_assoc]
    simp
  · rw [cat_ok (by rw [app_size]; omega)]
    simp only [Option.bind_some]
    rw [cat_ok (by rw [app_size, app_size]; omega)]
    simp only [Option.bind_some]
    rw [cat_ok (by rw [app_size, app_size, app_size]; omega)]
    simp only [Option.bind_some]
    congr 1
    refine ba_ext ?_
    simp only [ba_app, List.append_assoc]
  · rw [cat_ok (by rw [app_size, app_size, app_size]; omega)]
    simp only [Option.bind_some]
    congr 1
    refine ba_ext ?_
    simp only [ba_app, List.append_assoc]
    simp
  · rw [cat_ok (by rw [app_size, app_size, app_size]; omega)]
    simp only [Option.bind_some]
    rw [cat_ok (by rw [app_size, app_size, app_size, app_size]; omega)]
    simp only [Option.bind_some]
    rw [cat_ok (by rw [app_size, app_size, app_size, app_size, app_size]; omega)]
    simp only [Option.bind_some]
    congr 1
    refine ba_ext ?_
    simp only [ba_app, List.append_assoc]
theorem i_text (e : Event) (h : oneE e = true) : M.i_eventText e = some (txtE e) := by
  unfold oneE at h
  simp only [Bool.and_eq_true, decide_eq_true_eq] at h
  obtain ⟨⟨t0, t1⟩, ⟨g0, g1⟩, ⟨_, k0, k1⟩, v0, v1⟩ := h
  obtain ⟨_, n1, s1⟩ := num_is t0 t1
  obtain ⟨_, n2, s2⟩ := num_is g0 (by omega)
  obtain ⟨_, n3, s3⟩ := num_is v0 (by omega)
  have z1 : (ByteArray.mk #[32]).size = 1 := rfl
  have z2 : (ByteArray.mk #[103, 117, 101, 115, 116, 32]).size = 6 := rfl
  have z3 : (ByteArray.mk #[109, 97, 99, 104, 105, 110, 101]).size = 7 := rfl
  unfold M.i_eventText txtE
  rw [n1, n2, n3]
  simp only [Option.bind_some]
  rw [cat_ok (a := ByteArray.mk #[103, 117, 101, 115, 116, 32]) (by omega), cat_ok (a := gxItoa e.Tick) (by omega), cat_ok (a := ByteArray.mk #[32]) (by omega)]
  simp only [Option.bind_some]
  cases decide (e.Guest > 0) <;> cases decide (e.Value > 0) <;> simp only [cond_true, cond_false, Option.bind_some]
  · rw [cat_ok (by rw [app_size]; omega)]
    simp only [Option.bind_some]
    rw [cat_ok (by rw [app_size, app_size]; omega)]
    simp only [Option.bind_some]
    rw [cat_ok (by rw [app_size, app_size, app_size]; omega)]
    simp only [Option.bind_some]
    congr 1
    refine ba_ext ?_
    simp only [ba_app, List.append_assoc]
    simp
  · rw [cat_ok (by rw [app_size]; omega)]
    simp only [Option.bind_some]
    rw [cat_ok (by rw [app_size, app_size]; omega)]
    simp only [Option.bind_some]
    rw [cat_ok (by rw [app_size, app_size, app_size]; omega)]
    simp only [Option.bind_some]
    rw [cat_ok (by rw [app_size, app_size, app_size, app_size, app_size]; omega)]
    simp only [Option.bind_some]
    congr 1
    refine ba_ext ?_
    simp only [ba_app, List.append_assoc]
    simp
  · rw [cat_ok (by rw [app_size, app_size]; omega)]
    simp only [Option.bind_some]
    rw [cat_ok (by rw [app_size, app_size, app_size]; omega)]
    simp only [Option.bind_some]
    rw [cat_ok (by rw [app_size, app_size, app_size, app_size]; omega)]
    simp only [Option.bind_some]
    congr 1
    refine ba_ext ?_
    simp only [ba_app, List.append_assoc]
    simp
  · rw [cat_ok (by rw [app_size, app_size]; omega)]
    simp only [Option.bind_some]
    rw [cat_ok (by rw [app_size, app_size, app_size]; omega)]
    simp only [Option.bind_some]
    rw [cat_ok (by rw [app_size, app_size, app_size, app_size]; omega)]
    simp only [Option.bind_some]
    rw [cat_ok (by rw [app_size, app_size, app_size, app_size, app_size, app_size]; omega)]
    simp only [Option.bind_some]
    congr 1
    refine ba_ext ?_
    simp only [ba_app, List.append_assoc]
    simp
theorem EventText_eq (e : Event) (h : (e.Kind.size : Int) ≤ 1048576) : ∃ r, M.s_EventText e = some r ∧ M.i_EventText e = some r := by
  unfold M.s_EventText M.i_EventText
  rw [s_oneE e (by omega), i_oneE e (by omega), Option.bind_some, Option.bind_some]
  cases hg : oneE e with
  | false => exact ⟨_, rfl, rfl⟩
  | true =>
    simp only [Bool.not_true, cond_false, s_text e hg, i_text e hg, Option.bind_some]
    exact ⟨_, rfl, rfl⟩
end Go.Proofs.YtimffallbjpcjaaGreatDoor
