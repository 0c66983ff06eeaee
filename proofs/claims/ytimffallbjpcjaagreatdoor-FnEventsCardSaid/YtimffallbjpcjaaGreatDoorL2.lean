/- Plain laws of the models: no program in sight. -/
import Derived.Test.YtimffallbjpcjaaGreatDoorM
import Derived.Test.YtimffallbjpcjaaGreatDoorL1
set_option linter.unusedVariables false
set_option linter.unusedSimpArgs false
set_option maxHeartbeats 4000000
namespace Go.Proofs.YtimffallbjpcjaaGreatDoor
open Go.Gx
/-! ### Texts cut at spaces -/
def cutL : List UInt8 → List (List UInt8)
  | [] => [[]]
  | b :: r => if b = 32 then [] :: cutL r else match cutL r with
    | [] => [[b]]
    | x :: xs => (b :: x) :: xs
theorem cut_none : ∀ {a : List UInt8}, (32 : UInt8) ∉ a → cutL a = [a]
  | [], _ => rfl
  | b :: r, h => by
    have h1 : b ≠ 32 := fun e => h (by simp [e])
    unfold cutL
    rw [if_neg h1, cut_none (a := r) (fun hm => h (by simp [hm]))]
theorem cut_app : ∀ {a : List UInt8} {r : List UInt8}, (32 : UInt8) ∉ a → cutL (a ++ 32 :: r) = a :: cutL r
  | [], r, _ => by
    show cutL (32 :: r) = _
    simp [cutL]
  | b :: a, r, h => by
    have h1 : b ≠ 32 := fun e => h (by simp [e])
    show cutL (b :: (a ++ 32 :: r)) = _
    rw [cutL, if_neg h1, cut_app (a := a) (fun hm => h (by simp [hm]))]
theorem sp_cases : ∀ (s : List UInt8), (32 : UInt8) ∉ s ∨ ∃ a r, s = a ++ 32 :: r ∧ (32 : UInt8) ∉ a
  | [] => Or.inl (by simp)
  | b :: l => by
    by_cases h1 : b = 32
    · exact Or.inr ⟨[], l, by rw [h1]; rfl, by simp⟩
    · rcases sp_cases l with h | ⟨a, r, rfl, ha⟩
      · refine Or.inl fun hm => ?_
        rcases List.mem_cons.1 hm with e | e
        · exact h1 e.symm
        · exact h e
      · refine Or.inr ⟨b :: a, r, rfl, fun hm => ?_⟩
        rcases List.mem_cons.1 hm with e | e
        · exact h1 e.symm
        · exact ha e
theorem idx_none : ∀ {s : List UInt8}, (32 : UInt8) ∉ s → Lib.index s [32] = -1
  | [], _ => rfl
  | b :: l, h => by
    have h1 : b ≠ 32 := fun e => h (by simp [e])
    have ih := idx_none (s := l) (fun hm => h (by simp [hm]))
    have hp : ([32] : List UInt8).isPrefixOf (b :: l) = false := by
      simp only [List.isPrefixOf, Bool.and_true, beq_eq_false_iff_ne]
      exact fun e => h1 e.symm
    unfold Lib.index
    rw [hp, ih]
    rfl
theorem idx_hit : ∀ {a : List UInt8} {r : List UInt8}, (32 : UInt8) ∉ a → Lib.index (a ++ 32 :: r) [32] = ((a.length : Nat) : Int)
  | [], r, _ => by
    show Lib.index (32 :: r) [32] = 0
    unfold Lib.index
    simp [List.isPrefixOf]
  | b :: a, r, h => by
    have h1 : b ≠ 32 := fun e => h (by simp [e])
    have ih := idx_hit (a := a) (r := r) (fun hm => h (by simp [hm]))
    have hp : ([32] : List UInt8).isPrefixOf (b :: (a ++ 32 :: r)) = false := by
      simp only [List.isPrefixOf, Bool.and_true, beq_eq_false_iff_ne]
      exact fun e => h1 e.symm
    show Lib.index (b :: (a ++ 32 :: r)) [32] = _
    unfold Lib.index
    rw [hp, ih]
    have h2 : (((a.length : Nat) : Int) == -1) = false := by rw [beq_eq_false_iff_ne]; omega
    simp only [Bool.false_eq_true, if_false, h2, List.length_cons]
    omega
theorem split_cut : ∀ (n : Nat) (s : List UInt8), s.length ≤ n → Lib.splitK [32] 0 (Lib.count s [32]) s = cutL s
  | n, s, hn => by
    rcases sp_cases s with h | ⟨a, r, rfl, ha⟩
    · rw [Lib.count_miss (idx_none h), cut_none h]
      rfl
    · cases n with
      | zero => simp at hn
      | succ n =>
        have hi := idx_hit (r := r) ha
        have hd : (a ++ 32 :: r).drop (a.length + 1) = r := by
          rw [List.drop_append]
          simp
        rw [Lib.count_hit (by simp) hi]
        have hl : ([32] : List UInt8).length = 1 := rfl
        rw [hl, hd, Nat.add_comm 1]
        unfold Lib.splitK
        have h2 : (((a.length : Nat) : Int) == -1) = false := by rw [beq_eq_false_iff_ne]; omega
        rw [hi, h2]
        simp only [Bool.false_eq_true, if_false, Int.toNat_natCast, Nat.add_zero, hl, hd]
        rw [split_cut n r (by simp only [List.length_append, List.length_cons] at hn; omega), cut_app ha]
        rw [List.take_left]
/-! ### One piece replaced -/
def oldM : List UInt8 := [32, 109, 97, 99, 104, 105, 110, 101, 32]
def newM : List UInt8 := [32, 103, 117, 101, 115, 116, 32, 48, 32]
theorem idxM_none : ∀ {s : List UInt8}, (99 : UInt8) ∉ s → Lib.index s oldM = -1
  | [], _ => rfl
  | b :: l, h => by
    have ih := idxM_none (s := l) (fun hm => h (by simp [hm]))
    have hp : oldM.isPrefixOf (b :: l) = false := by
      cases hq : oldM.isPrefixOf (b :: l) with
      | false => rfl
      | true =>
        exfalso
        obtain ⟨t, ht⟩ := List.isPrefixOf_iff_prefix.1 hq
        exact h (by rw [← ht]; simp [oldM])
    unfold Lib.index
    rw [hp, ih]
    rfl
theorem idxM_hit : ∀ {a : List UInt8} {r : List UInt8}, (32 : UInt8) ∉ a → Lib.index (a ++ (oldM ++ r)) oldM = ((a.length : Nat) : Int)
  | [], r, _ => by
    show Lib.index (32 :: ([109, 97, 99, 104, 105, 110, 101, 32] ++ r)) oldM = 0
    unfold Lib.index
    have hp : oldM.isPrefixOf (32 :: ([109, 97, 99, 104, 105, 110, 101, 32] ++ r)) = true := List.isPrefixOf_iff_prefix.2 ⟨r, rfl⟩
    rw [hp]
    rfl
  | b :: a, r, h => by
    have h1 : b ≠ 32 := fun e => h (by simp [e])
    have ih := idxM_hit (a := a) (r := r) (fun hm => h (by simp [hm]))
    have hp : oldM.isPrefixOf (b :: (a ++ (oldM ++ r))) = false := by
      unfold oldM
      simp only [List.isPrefixOf, Bool.and_eq_false_iff, beq_eq_false_iff_ne]
      exact Or.inl fun e => h1 e.symm
    show Lib.index (b :: (a ++ (oldM ++ r))) oldM = _
    unfold Lib.index
    rw [hp, ih]
    have h2 : (((a.length : Nat) : Int) == -1) = false := by rw [beq_eq_false_iff_ne]; omega
    simp only [Bool.false_eq_true, if_false, h2, List.length_cons]
    omega
theorem repl_none {s : List UInt8} (h : (99 : UInt8) ∉ s) : Lib.replace s oldM newM 1 = s := by
  unfold Lib.replace Lib.replaceNum
  rw [Lib.count_miss (idxM_none h)]
  have e : (oldM == newM) = false := by decide
  rw [e]
  rfl
theorem repl_hit {a r : List UInt8} (ha : (32 : UInt8) ∉ a) : Lib.replace (a ++ (oldM ++ r)) oldM newM 1 = a ++ (newM ++ r) := by
  have hi := idxM_hit (r := r) ha
  have hc := Lib.count_hit (by simp [oldM]) hi
  have e : (oldM == newM) = false := by decide
  have hn : Lib.replaceNum (a ++ (oldM ++ r)) oldM 1 = 1 := by
    unfold Lib.replaceNum
    rw [hc, if_neg (by omega)]
    rfl
  unfold Lib.replace
  rw [e, hn]
  simp only [Bool.false_eq_true, if_false]
  rw [Lib.replaceK_hit _ _ _ _ _ hi]
  have hl : oldM.length = 9 := rfl
  have hd : (a ++ (oldM ++ r)).drop (a.length + oldM.length) = r := by
    rw [← List.append_assoc, show a.length + oldM.length = (a ++ oldM).length by simp, List.drop_left]
  rw [hd, List.take_left]
  show a ++ newM ++ r = _
  rw [List.append_assoc]
/-! ### Numbers read back -/
theorem pu_mono : ∀ (l : List UInt8) (acc v : Nat), Lib.parseUint10 acc l = .ok v → acc ≤ v
  | [], acc, v, h => by
    simp only [Lib.parseUint10] at h
    injection h with h
    omega
  | c :: r, acc, v, h => by
    simp only [Lib.parseUint10] at h
    split at h
    · split at h
      · cases h
      · split at h
        · cases h
        · have := pu_mono r _ v h
          omega
    · cases h
theorem pu_app : ∀ (l : List UInt8) (acc v d : Nat), d < 10 → v ≤ 1000000000000000 → acc ≤ v → Lib.parseUint10 acc l = .ok v → Lib.parseUint10 acc (l ++ [UInt8.ofNat (48 + d)]) = .ok (v * 10 + d)
  | [], acc, v, d, hd, hv, _, h => by
    simp only [Lib.parseUint10] at h
    injection h with h
    subst h
    have e : (UInt8.ofNat (48 + d)).toNat = 48 + d := by
      rw [UInt8.toNat_ofNat']
      omega
    simp only [List.nil_append, Lib.parseUint10, e]
    rw [if_pos (by omega), if_neg (by omega), if_neg (by omega)]
    congr 1
    omega
  | c :: r, acc, v, d, hd, hv, ha, h => by
    simp only [Lib.parseUint10] at h
    simp only [List.cons_append, Lib.parseUint10]
    split at h
    · rename_i h1
      split at h
      · cases h
      · rename_i h2
        split at h
        · cases h
        · rename_i h3
          rw [if_pos h1, if_neg h2, if_neg h3]
          exact pu_app r _ v d hd hv (pu_mono r _ v h) h
    · cases h
theorem pu_dec : ∀ (m n : Nat), n < 10 ^ m → m ≤ 15 → Lib.parseUint10 0 (Lib.decDigits n) = .ok n
  | m, n, h, hm => by
    rw [Lib.decDigits]
    split
    · rename_i h10
      have := pu_app [] 0 0 n h10 (by omega) (by omega) rfl
      simpa using this
    · rename_i h10
      cases m with
      | zero => simp at h; omega
      | succ k =>
        have h2 : n / 10 < 10 ^ k := by rw [Nat.pow_succ] at h; omega
        have hb : n / 10 ≤ 1000000000000000 := by
          have : 10 ^ k ≤ 10 ^ 15 := Nat.pow_le_pow_right (by omega) (by omega)
          omega
        have := pu_app _ 0 (n / 10) (n % 10) (by omega) hb (by omega) (pu_dec k (n / 10) h2 (by omega))
        rw [this]
        congr 1
        omega
theorem dec_digit : ∀ (m n : Nat), n < 10 ^ m → ∀ b ∈ Lib.decDigits n, 48 ≤ b.toNat ∧ b.toNat ≤ 57
  | m, n, h, b, hb => by
    rw [Lib.decDigits] at hb
    split at hb
    · rename_i h10
      simp only [List.mem_singleton] at hb
      subst hb
      rw [UInt8.toNat_ofNat']
      omega
    · rename_i h10
      cases m with
      | zero => simp at h; omega
      | succ k =>
        have h2 : n / 10 < 10 ^ k := by rw [Nat.pow_succ] at h; omega
        rcases List.mem_append.1 hb with hb | hb
        · exact dec_digit k (n / 10) h2 b hb
        · simp only [List.mem_singleton] at hb
          subst hb
          rw [UInt8.toNat_ofNat']
          omega
theorem dec_ne (n : Nat) : Lib.decDigits n ≠ [] := by
  rw [Lib.decDigits]
  split <;> simp
theorem atoi_dec {n : Nat} (h : n ≤ 100000) : Lib.atoiAll (Lib.decDigits n) = .ok (n : Int) := by
  have hp := pu_dec 6 n (by omega) (by omega)
  have hd := dec_digit 6 n (by omega)
  cases hl : Lib.decDigits n with
  | nil => exact absurd hl (dec_ne n)
  | cons c r =>
    have hc := hd c (by rw [hl]; simp)
    rw [hl] at hp
    have h1 : ¬ (c.toNat = 43 ∨ c.toNat = 45) := by omega
    have h2 : ¬ (c.toNat = 45) := by omega
    have h3 : ¬ (9223372036854775808 ≤ n) := by omega
    have h4 : ¬ (c.toNat = 43) := by omega
    simp only [Lib.atoiAll, Lib.parseMag, h4, h2, if_false, hp, reduceCtorEq, h3, and_false, not_false_eq_true, false_and, false_or, or_false, or_self]

end Go.Proofs.YtimffallbjpcjaaGreatDoor
