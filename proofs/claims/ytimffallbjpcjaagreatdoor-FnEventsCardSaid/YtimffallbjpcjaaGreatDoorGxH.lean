/- Arithmetic, for the plain laws. -/
import Derived.Test.YtimffallbjpcjaaGreatDoorGxG
set_option linter.unusedVariables false
set_option linter.unusedSimpArgs false
namespace Go.Gx
theorem w64_id {z : Int} (h1 : -9223372036854775808 ≤ z) (h2 : z ≤ 9223372036854775807) : w64 z = z := by
  unfold w64
  simp [IntKind.wrap, IntKind.bits, IntKind.signed, Int.bmod]
  omega
theorem gxAnd_mask (x : Int) (k : Nat) (hk : k < 63) : gxAnd .i64 x (2 ^ k - 1) = x % 2 ^ k := by
  unfold gxAnd
  have h2 : (2 : Int) ^ k - 1 = ((2 ^ k - 1 : Nat) : Int) := by
    have := Nat.two_pow_pos k
    rw [Int.ofNat_sub (by omega)]
    simp
  have hb : (IntKind.i64).bits = 64 := rfl
  rw [h2, hb]
  have hlt : 2 ^ k < 2 ^ 63 := Nat.pow_lt_pow_right (by omega) hk
  have h1 : (BitVec.ofInt 64 x &&& BitVec.ofInt 64 ((2 ^ k - 1 : Nat) : Int)).toNat = (x % 2 ^ 64).toNat % 2 ^ k := by
    rw [BitVec.toNat_and, BitVec.toNat_ofInt, BitVec.toNat_ofInt]
    have : (((2 ^ k - 1 : Nat) : Int) % (2 ^ 64 : Nat)).toNat = 2 ^ k - 1 := by
      rw [Int.emod_eq_of_lt (by omega) (by omega)]
      simp
    rw [this, Nat.and_two_pow_sub_one_eq_mod]
    rfl
  rw [h1]
  have h3 : (((x % 2 ^ 64).toNat % 2 ^ k : Nat) : Int) = x % 2 ^ k := by
    rw [Int.natCast_emod, Int.toNat_of_nonneg (Int.emod_nonneg _ (by omega))]
    have : ((2 : Int) ^ k) ∣ 2 ^ 64 := ⟨2 ^ (64 - k), by rw [← Int.pow_add]; congr 1; omega⟩
    rw [show ((2 ^ k : Nat) : Int) = (2 : Int) ^ k by simp]
    exact Int.emod_emod_of_dvd _ this
  rw [h3]
  have h4 : 0 ≤ x % 2 ^ k := Int.emod_nonneg _ (by have := Int.pow_pos (n := 2) (m := k) (by omega); omega)
  have h5 : x % 2 ^ k < 2 ^ k := Int.emod_lt_of_pos _ (Int.pow_pos (by omega))
  have h6 : (2 : Int) ^ k < 2 ^ 63 := by exact_mod_cast hlt
  exact w64_id (by omega) (by omega)
theorem and16 (x : Int) : gxAnd .i64 x 65535 = x % 65536 := gxAnd_mask x 16 (by omega)
/-! ### Loops that are known round by round -/
theorem while_for {σ ρ : Type} {body : σ → Option (σ ⊕ ρ)} (st : Nat → σ) (r : ρ) : ∀ (n k fuel : Nat), (∀ i, k ≤ i → i < k + n → body (st i) = some (.inl (st (i + 1)))) → body (st (k + n)) = some (.inr r) → n < fuel → whileM body fuel (st k) = some r
  | 0, k, fuel, _, he, hf => by
    obtain ⟨m, rfl⟩ : ∃ m, fuel = m + 1 := ⟨fuel - 1, by omega⟩
    rw [Nat.add_zero] at he
    simp only [whileM, he]
  | n + 1, k, fuel, h, he, hf => by
    obtain ⟨m, rfl⟩ : ∃ m, fuel = m + 1 := ⟨fuel - 1, by omega⟩
    simp only [whileM, h k (Nat.le_refl _) (by omega)]
    exact while_for st r n (k + 1) m (fun i h1 h2 => h i (by omega) (by omega)) (by rw [show k + 1 + n = k + (n + 1) by omega]; exact he) (by omega)
theorem while_run {σ ρ : Type} {body : σ → Option (σ ⊕ ρ)} {s0 : σ} (st : Nat → σ) (r : ρ) (n : Nat) (h0 : s0 = st 0) (hn : n ≤ 4611686018427387904) (h : ∀ i, i < n → body (st i) = some (.inl (st (i + 1)))) (he : body (st n) = some (.inr r)) : whileM body gxFuel s0 = some r := by
  rw [h0]
  exact while_for st r n 0 gxFuel (fun i _ h2 => h i (by omega)) (by rw [Nat.zero_add]; exact he) (by unfold gxFuel; omega)
theorem gxIdx_nat {α : Type} {xs : List α} {i : Nat} (h : i < xs.length) : gxIdx xs (i : Int) = some xs[i] := by
  unfold gxIdx
  rw [if_pos (by omega), Int.toNat_natCast, List.getElem?_eq_getElem h]
theorem w64_nat {n : Nat} (h : n ≤ 9223372036854775807) : w64 (n : Int) = n := w64_id (by omega) (by omega)
theorem w64_succ {i : Nat} (h : i ≤ 4611686018427387904) : w64 ((i : Int) + 1) = ((i + 1 : Nat) : Int) := by
  rw [w64_id (by omega) (by omega)]; omega
/-- The list k, k+1, .., of n numbers. -/
def marks (k n : Nat) : List Int := (List.range n).map fun i => ((k + i : Nat) : Int)
theorem marks_length (k n : Nat) : (marks k n).length = n := by simp [marks]
theorem marks_get {k n i : Nat} (h : i < (marks k n).length) : (marks k n)[i] = ((k + i : Nat) : Int) := by simp [marks]
/-- The first i replaced by marks. -/
def marked (k : Nat) (xs : List Int) (i : Nat) : List Int := marks k i ++ xs.drop i
theorem marked_length {k : Nat} {xs : List Int} {i : Nat} (h : i ≤ xs.length) : (marked k xs i).length = xs.length := by
  simp [marked, marks_length]; omega
theorem marked_set {k : Nat} {xs : List Int} {i : Nat} (h : i < xs.length) : (marked k xs i).set i ((k + i : Nat) : Int) = marked k xs (i + 1) := by
  unfold marked
  rw [List.set_append_right _ _ (by simp [marks_length]), marks_length, Nat.sub_self, List.drop_eq_getElem_cons h, List.set_cons_zero]
  unfold marks
  rw [List.range_succ, List.map_append, List.append_assoc]
  rfl
theorem marked_all {k : Nat} {xs : List Int} : marked k xs xs.length = marks k xs.length := by simp [marked]
theorem marked_zero {k : Nat} {xs : List Int} : marked k xs 0 = xs := by simp [marked, marks]
/-- The first i taken over from xs, the rest zeros. -/
def taken {α : Type} (xs : List α) (z : α) (i : Nat) : List α := xs.take i ++ List.replicate (xs.length - i) z
theorem taken_length {α : Type} {xs : List α} {z : α} {i : Nat} (h : i ≤ xs.length) : (taken xs z i).length = xs.length := by
  simp [taken]; omega
theorem taken_set {α : Type} {xs : List α} {z : α} {i : Nat} (h : i < xs.length) : (taken xs z i).set i xs[i] = taken xs z (i + 1) := by
  unfold taken
  have h1 : (xs.take i).length = i := by simp; omega
  rw [List.set_append_right _ _ (by omega), h1, Nat.sub_self, show xs.length - i = (xs.length - (i + 1)) + 1 by omega, List.replicate_succ, List.set_cons_zero, List.take_add_one, List.getElem?_eq_getElem h, List.append_assoc]
  rfl
theorem taken_all {α : Type} {xs : List α} {z : α} : taken xs z xs.length = xs := by simp [taken]
theorem taken_zero {α : Type} {xs : List α} {z : α} : taken xs z 0 = List.replicate xs.length z := by simp [taken]
theorem gxMake_nat {α : Type} {B : Nat} {n : Nat} {z : α} (h : n * B ≤ 140737488355328) : gxMake B (n : Int) z = some (List.replicate n z) := by
  unfold gxMake
  rw [if_pos ⟨by omega, by rw [← Int.natCast_mul]; omega⟩, Int.toNat_natCast]
theorem gxApp_ok {α : Type} {B : Nat} {xs ys : List α} (h : (xs.length + ys.length) * B ≤ 140737488355328) : gxApp B xs ys = some (xs ++ ys) := by
  unfold gxApp
  rw [if_pos h]
/-! ### What is known of what is read -/
def okI (n : Int) : Prop := -9223372036854775808 ≤ n ∧ n ≤ 9223372036854775807
def okU (n : Int) : Prop := (Lit.int .u8 n).wf = true
def okB (_ : Bool) : Prop := True
def okS (s : ByteArray) : Prop := s.size ≤ maxLen
def okL {α : Type} (ok : α → Prop) (xs : List α) : Prop := xs.length ≤ 9223372036854775807 ∧ ∀ x ∈ xs, ok x
end Go.Gx
