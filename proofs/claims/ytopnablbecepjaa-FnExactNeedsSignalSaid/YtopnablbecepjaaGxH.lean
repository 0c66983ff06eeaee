/- Arithmetic, for the plain laws. -/
import Derived.Test.YtopnablbecepjaaGxG
set_option linter.unusedVariables false
set_option linter.unusedSimpArgs false
namespace Go.Gx
theorem w64_id {z : Int} (h1 : -9223372036854775808 ≤ z) (h2 : z ≤ 9223372036854775807) : w64 z = z := by
  unfold w64
  simp [IntKind.wrap, IntKind.bits, IntKind.signed, Int.bmod]
  omega
theorem gxAnd_mask (x : Int) (k : Nat) (hk : k < 63) : gxAnd .i64 x (2 ^ k - 1) = x % 2 ^ k := by
  unfold gxAnd
  have h2 : (2 : Int) ^ k - 1 = ((2 ^ k - 1 : Nat) : Int) := by
    have := Nat.two_pow_pos k
    rw [Int.ofNat_sub (by omega)]
    simp
  have hb : (IntKind.i64).bits = 64 := rfl
  rw [h2, hb]
  have hlt : 2 ^ k < 2 ^ 63 := Nat.pow_lt_pow_right (by omega) hk
  have h1 : (BitVec.ofInt 64 x &&& BitVec.ofInt 64 ((2 ^ k - 1 : Nat) : Int)).toNat = (x % 2 ^ 64).toNat % 2 ^ k := by
    rw [BitVec.toNat_and, BitVec.toNat_ofInt, BitVec.toNat_ofInt]
    have : (((2 ^ k - 1 : Nat) : Int) % (2 ^ 64 : Nat)).toNat = 2 ^ k - 1 := by
      rw [Int.emod_eq_of_lt (by omega) (by omega)]
      simp
    rw [this, Nat.and_two_pow_sub_one_eq_mod]
    rfl
  rw [h1]
  have h3 : (((x % 2 ^ 64).toNat % 2 ^ k : Nat) : Int) = x % 2 ^ k := by
    rw [Int.natCast_emod, Int.toNat_of_nonneg (Int.emod_nonneg _ (by omega))]
    have : ((2 : Int) ^ k) ∣ 2 ^ 64 := ⟨2 ^ (64 - k), by rw [← Int.pow_add]; congr 1; omega⟩
    rw [show ((2 ^ k : Nat) : Int) = (2 : Int) ^ k by simp]
    exact Int.emod_emod_of_dvd _ this
  rw [h3]
  have h4 : 0 ≤ x % 2 ^ k := Int.emod_nonneg _ (by have := Int.pow_pos (n := 2) (m := k) (by omega); omega)
  have h5 : x % 2 ^ k < 2 ^ k := Int.emod_lt_of_pos _ (Int.pow_pos (by omega))
  have h6 : (2 : Int) ^ k < 2 ^ 63 := by exact_mod_cast hlt
  exact w64_id (by omega) (by omega)
theorem and16 (x : Int) : gxAnd .i64 x 65535 = x % 65536 := gxAnd_mask x 16 (by omega)
end Go.Gx
