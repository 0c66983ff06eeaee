/- Plain laws of the models: no program in sight. -/
import Derived.Test.YtimffallbjpcjaaGreatDoorM
import Derived.Test.YtimffallbjpcjaaGreatDoorL3
set_option linter.unusedVariables false
set_option linter.unusedSimpArgs false
set_option maxHeartbeats 4000000
namespace Go.Proofs.YtimffallbjpcjaaGreatDoor
open Go.Gx
/-! ### A number read -/
theorem digits_len' : ∀ (m n : Nat), n < 10 ^ (m + 1) → (Lib.decDigits n).length ≤ m + 1
  | 0, n, h => by
    rw [Lib.decDigits, dif_pos (by omega)]
    simp
  | m + 1, n, h => by
    rw [Lib.decDigits]
    split
    · simp
    · have h2 : n / 10 < 10 ^ (m + 1) := by rw [Nat.pow_succ] at h; omega
      have := digits_len' m (n / 10) h2
      simp only [List.length_append, List.length_cons, List.length_nil]
      omega
theorem pu_mono' : ∀ (l : List UInt8) (acc v : Nat), Lib.parseUint10 acc l = .ok v → acc ≤ v
  | [], acc, v, h => by
    simp only [Lib.parseUint10] at h
    injection h with h
    omega
  | c :: r, acc, v, h => by
    simp only [Lib.parseUint10] at h
    split at h
    · split at h
      · cases h
      · split at h
        · cases h
        · have := pu_mono' r _ v h
          omega
    · cases h
theorem s_l1In_is (a b c : Int) : M.s_l1In a b c = some (decide (b ≤ a) && decide (a ≤ c)) := by
  unfold M.s_l1In
  by_cases h1 : b ≤ a
  · have h2 : a ≥ b := h1
    simp [h1]
  · have h2 : ¬ (a ≥ b) := h1
    simp [h1]
theorem num_neg {v : Int} (h0 : -999999 ≤ v) (h1 : v ≤ 999999) : ∃ r, M.s_l1Num gxFuel v = some r := by
  by_cases hn : 0 ≤ v
  · obtain ⟨k, rfl⟩ : ∃ k : Nat, v = k := ⟨v.toNat, by omega⟩
    exact ⟨_, num_ok 6 gxFuel k (by omega) (by unfold gxFuel; omega) (by omega)⟩
  · obtain ⟨k, rfl⟩ : ∃ k : Nat, v = -(k : Int) := ⟨(-v).toNat, by omega⟩
    obtain ⟨f, hf, hf6⟩ : ∃ f, gxFuel = f + 1 ∧ 6 < f := ⟨gxFuel - 1, by unfold gxFuel; omega, by unfold gxFuel; omega⟩
    rw [hf]
    unfold M.s_l1Num
    have c1 : -(k : Int) < 0 := by omega
    have e : w64 (0 - -(k : Int)) = (k : Int) := by
      rw [show (0 - -(k : Int)) = (k : Int) by omega]
      exact w64_nat (by omega)
    have hs : (gxItoa (k : Int)).size ≤ 30 := by
      rw [ba_size, itoa_list (by omega), Int.toNat_natCast]
      have := digits_len 6 k (by omega)
      omega
    have z : (ByteArray.mk #[45]).size = 1 := rfl
    simp only [c1, decide_true, cond_true, e, num_ok 6 f k (by omega) hf6 (by omega), Option.bind_some, cat_ok (show (ByteArray.mk #[45]).size + (gxItoa (k : Int)).size ≤ 1048576 by omega)]
    exact ⟨_, rfl⟩
theorem byteN_bd (s : ByteArray) (i : Nat) : 0 ≤ byteN s i ∧ byteN s i ≤ 255 := by
  unfold byteN
  cases s[i]? with
  | none => simp
  | some b =>
    have := b.toNat_lt
    simp only [Option.map_some, Option.getD_some]
    omega
theorem wrap8 {x : Int} (h0 : 0 ≤ x) (h1 : x ≤ 255) : IntKind.u8.wrap x = x := by
  show (x % 256) = x
  omega
def bodyR (t : ByteArray) : Int × Int → Option ((Int × Int) ⊕ ((Int) ⊕ (Int × Bool))) := fun s1820 =>
    bif decide (s1820.2 < (t.size : Int)) then (Option.bind (α := Bool) (Option.bind (gxSIdx t s1820.2) fun q1838 =>
    bif decide (q1838 < 48) then some true
    else (Option.bind (gxSIdx t s1820.2) fun q1840 =>
    some (decide (q1840 > 57)))) fun o1835 =>
    bif o1835 then some (.inr (.inr (0, false)))
    else (Option.bind (gxSIdx t s1820.2) fun q1846 =>
    some (.inl (w64 ((w64 (10 * s1820.1)) + (w64 (IntKind.u8.wrap (q1846 - 48)))), w64 (s1820.2 + 1)))))
    else some (.inr (.inl s1820.1))
theorem bodyR_step (t : ByteArray) {i : Nat} (hi : i < t.size) {v : Int} (h0 : 0 ≤ v) (h1 : v ≤ 999999) (hs : t.size ≤ 1000) :
    (48 ≤ byteN t i ∧ byteN t i ≤ 57 ∧ bodyR t (v, (i : Int)) = some (.inl (10 * v + (byteN t i - 48), ((i + 1 : Nat) : Int)))) ∨
    (¬ (48 ≤ byteN t i ∧ byteN t i ≤ 57) ∧ bodyR t (v, (i : Int)) = some (.inr (.inr (0, false)))) := by
  have c1 : (i : Int) < (t.size : Int) := by omega
  have es : w64 ((i : Int) + 1) = ((i + 1 : Nat) : Int) := w64_succ (by omega)
  unfold bodyR
  simp only [c1, decide_true, cond_true, gxSIdx_ok hi, Option.bind_some, es]
  by_cases h2 : byteN t i < 48
  · exact Or.inr ⟨by omega, by simp only [h2, decide_true, cond_true, Option.bind_some]⟩
  · by_cases h3 : byteN t i > 57
    · exact Or.inr ⟨by omega, by simp only [h2, h3, decide_true, decide_false, cond_false, cond_true, Option.bind_some]⟩
    · refine Or.inl ⟨by omega, by omega, ?_⟩
      have e1 : IntKind.u8.wrap (byteN t i - 48) = byteN t i - 48 := wrap8 (by omega) (by omega)
      have e2 : w64 (byteN t i - 48) = byteN t i - 48 := w64_id (by omega) (by omega)
      have e3 : w64 (10 * v) = 10 * v := w64_id (by omega) (by omega)
      have e4 : w64 (10 * v + (byteN t i - 48)) = 10 * v + (byteN t i - 48) := w64_id (by omega) (by omega)
      simp only [h2, h3, decide_false, cond_false, Option.bind_some, e1, e2, e3, e4]
theorem loopR_total (t : ByteArray) (hs : t.size ≤ 6) : ∃ r, whileM (bodyR t) gxFuel (0, 0) = some r ∧ (r = .inr (0, false) ∨ ∃ v, r = .inl v ∧ 0 ≤ v ∧ v ≤ 999999) := by
  refine while_inv (fun i s => s.2 = (i : Int) ∧ 0 ≤ s.1 ∧ s.1 + 1 ≤ ((10 ^ i : Nat) : Int)) _ t.size (by omega) ⟨rfl, by simp, by simp⟩ ?_ ?_
  · rintro i ⟨v, k⟩ hi ⟨hk, h0, h1⟩
    simp only at hk h0 h1
    subst hk
    have hp : 10 ^ i ≤ 10 ^ 5 := Nat.pow_le_pow_right (by omega) (by omega)
    rcases bodyR_step t hi h0 (by omega) (by omega) with ⟨d0, d1, e⟩ | ⟨_, e⟩
    · refine Or.inl ⟨_, e, rfl, by simp only; omega, ?_⟩
      simp only [Nat.pow_succ]
      omega
    · exact Or.inr ⟨_, e, Or.inl rfl⟩
  · rintro ⟨v, k⟩ ⟨hk, h0, h1⟩
    simp only at hk h0 h1
    subst hk
    have hp : 10 ^ t.size ≤ 10 ^ 6 := Nat.pow_le_pow_right (by omega) hs
    have c1 : ¬ ((t.size : Int) < (t.size : Int)) := by omega
    refine ⟨.inl v, by unfold bodyR; simp only [c1, decide_false, cond_false], Or.inr ⟨v, rfl, h0, by omega⟩⟩
theorem loopR_dec (n : Nat) (h : n ≤ 100000) : whileM (bodyR (gxItoa (n : Int))) gxFuel (0, 0) = some (.inl (n : Int)) := by
  have hd : (gxItoa (n : Int)).data.toList = Lib.decDigits n := itoa_list (by omega)
  have hsz : (gxItoa (n : Int)).size ≤ 6 := by
    rw [ba_size, hd]
    exact digits_len' 5 n (by omega)
  refine Exists.elim (while_inv (body := bodyR (gxItoa (n : Int))) (s0 := (0, 0)) (fun i s => s.2 = (i : Int) ∧ ∃ v : Nat, s.1 = (v : Int) ∧ Lib.parseUint10 v ((gxItoa (n : Int)).data.toList.drop i) = .ok n) (fun r => r = .inl (n : Int)) (gxItoa (n : Int)).size (by omega) ⟨rfl, 0, rfl, by
      rw [List.drop_zero, hd]
      exact pu_dec 6 n (by omega) (by omega)⟩ ?_ ?_) ?_
  · rintro i ⟨v, k⟩ hi ⟨hk, u, hu, hp⟩
    simp only at hk hu
    subst hk hu
    have hl : i < (gxItoa (n : Int)).data.toList.length := by rw [size_list]; exact hi
    have hb := byteN_list hl
    rw [List.drop_eq_getElem_cons hl] at hp
    have hun := pu_mono' _ _ _ hp
    simp only [Lib.parseUint10] at hp
    split at hp
    · rename_i hc
      split at hp
      · cases hp
      · split at hp
        · cases hp
        · rcases bodyR_step (gxItoa (n : Int)) hi (v := (u : Int)) (by omega) (by omega) (by omega) with ⟨d0, d1, e⟩ | ⟨hh, e⟩
          · refine Or.inl ⟨_, e, rfl, _, ?_, hp⟩
            simp only
            rw [hb]
            omega
          · exact absurd ⟨by omega, by omega⟩ hh
    · cases hp
  · rintro ⟨v, k⟩ ⟨hk, u, hu, hp⟩
    simp only at hk hu
    subst hk hu
    have c1 : ¬ (((gxItoa (n : Int)).size : Int) < ((gxItoa (n : Int)).size : Int)) := by omega
    rw [← size_list, List.drop_length] at hp
    simp only [Lib.parseUint10] at hp
    injection hp with hp
    subst hp
    exact ⟨_, by unfold bodyR; simp only [c1, decide_false, cond_false], rfl⟩
  · rintro r ⟨hr, q⟩
    rw [hr, q]
theorem s_read_ok (x : ByteArray) (h : x.size ≤ 100000) : ∃ r, M.s_l1Read x = some r := by
  unfold M.s_l1Read
  have key : ∀ (b : Bool), ∃ o : ByteArray, (Option.bind (α := ByteArray) (bif b then (Option.bind (gxSSub x 1 (x.size : Int)) fun q1778 => some q1778) else some x) (fun o => some o)) = some o ∨ (b = true ∧ x.size = 0) := by
    intro b
    cases b with
    | false => exact ⟨x, Or.inl rfl⟩
    | true =>
      by_cases h0 : x.size = 0
      · exact ⟨x, Or.inr ⟨rfl, h0⟩⟩
      · refine ⟨x.extract 1 x.size, Or.inl ?_⟩
        have e : gxSSub x 1 (x.size : Int) = some (x.extract 1 x.size) := by
          unfold gxSSub
          rw [if_pos ⟨by omega, by omega, by omega⟩]
          simp
        simp only [cond_true, e, Option.bind_some]
  have tail : ∀ o : ByteArray, ∃ r, (Option.bind (M.s_l1In (o.size : Int) 1 6) fun r1783 =>
      bif !r1783 then some ((0 : Int), false)
      else (Option.bind (whileM (bodyR o) gxFuel (0, 0)) fun out1827 => Sum.elim (fun (o1830 : Int) =>
      Option.bind (α := Int) (bif decide ((o.size : Int) < (x.size : Int)) then some (w64 (0 - o1830))
      else some o1830) fun o1852 =>
      Option.bind (M.s_l1Num gxFuel o1852) fun r1860 =>
      bif !(r1860.toList == x.toList) then some (0, false)
      else some (o1852, true)) (fun r => some r) out1827)) = some r := by
    intro o
    rw [s_l1In_is, Option.bind_some]
    cases hb : (decide ((1 : Int) ≤ (o.size : Int)) && decide ((o.size : Int) ≤ 6)) with
    | false => exact ⟨_, rfl⟩
    | true =>
      simp only [Bool.and_eq_true, decide_eq_true_eq] at hb
      simp only [Bool.not_true, cond_false]
      obtain ⟨r, hr, rfl | ⟨v, rfl, h0, h1⟩⟩ := loopR_total o (by omega)
      · rw [hr, Option.bind_some]
        exact ⟨_, rfl⟩
      · rw [hr, Option.bind_some, Sum.elim_inl]
        have e : w64 (0 - v) = -v := by
          rw [show (0 - v) = -v by omega]
          exact w64_id (by omega) (by omega)
        cases decide ((o.size : Int) < (x.size : Int)) with
        | true =>
          obtain ⟨r, hr⟩ := num_neg (v := -v) (by omega) (by omega)
          simp only [cond_true, Option.bind_some, e, hr]
          cases !(r.toList == x.toList) <;> exact ⟨_, rfl⟩
        | false =>
          obtain ⟨r, hr⟩ := num_neg (v := v) (by omega) (by omega)
          simp only [cond_false, Option.bind_some, hr]
          cases !(r.toList == x.toList) <;> exact ⟨_, rfl⟩
  by_cases h1 : (x.size : Int) > 1
  · have e0 : gxSIdx x 0 = some (byteN x 0) := gxSIdx_ok (i := 0) (by omega)
    have e : gxSSub x 1 (x.size : Int) = some (x.extract 1 x.size) := by
      unfold gxSSub
      rw [if_pos ⟨by omega, by omega, by omega⟩]
      simp
    simp only [h1, decide_true, cond_true, e0, Option.bind_some]
    cases byteN x 0 == 45 with
    | false => exact tail x
    | true =>
      simp only [cond_true, e, Option.bind_some]
      exact tail _
  · simp only [h1, decide_false, cond_false, Option.bind_some]
    exact tail x
theorem s_read_dec (n : Nat) (h : n ≤ 100000) : M.s_l1Read (gxItoa (n : Int)) = some ((n : Int), true) := by
  have hd : (gxItoa (n : Int)).data.toList = Lib.decDigits n := itoa_list (by omega)
  have hsz : (gxItoa (n : Int)).size ≤ 6 := by
    rw [ba_size, hd]
    exact digits_len' 5 n (by omega)
  have hs0 : 1 ≤ (gxItoa (n : Int)).size := by
    rw [ba_size, hd]
    have := dec_ne n
    cases hl : Lib.decDigits n with
    | nil => exact absurd hl this
    | cons a l => simp
  have h45 : (byteN (gxItoa (n : Int)) 0 == 45) = false := by
    have hl : 0 < (gxItoa (n : Int)).data.toList.length := by rw [size_list]; omega
    rw [byteN_list hl, beq_eq_false_iff_ne]
    have hm : ∀ b ∈ (gxItoa (n : Int)).data.toList, 48 ≤ b.toNat ∧ b.toNat ≤ 57 := by
      rw [hd]
      exact dec_digit 6 n (by omega)
    have := hm _ (List.getElem_mem hl)
    omega
  unfold M.s_l1Read
  have e0 : gxSIdx (gxItoa (n : Int)) 0 = some (byteN (gxItoa (n : Int)) 0) := gxSIdx_ok (i := 0) (by omega)
  have hb : (decide ((1 : Int) ≤ ((gxItoa (n : Int)).size : Int)) && decide (((gxItoa (n : Int)).size : Int) ≤ 6)) = true := by
    simp only [Bool.and_eq_true, decide_eq_true_eq]
    omega
  have hloop := loopR_dec n h
  unfold bodyR at hloop
  have c2 : ¬ (((gxItoa (n : Int)).size : Int) < ((gxItoa (n : Int)).size : Int)) := by omega
  have hn := (num_is (n := (n : Int)) (by omega) (by omega)).1
  cases decide (((gxItoa (n : Int)).size : Int) > 1) <;>
    simp only [cond_true, cond_false, e0, Option.bind_some, h45, s_l1In_is, hb, Bool.not_true, hloop, Sum.elim_inl, c2, decide_false, hn, beq_self_eq_true]
theorem i_read_dec (n : Nat) (h : n ≤ 100000) : gxParse (gxItoa (n : Int)) = ((n : Int), true) := by
  have hd : (gxItoa (n : Int)).data.toList = Lib.decDigits n := itoa_list (by omega)
  have hsz : (gxItoa (n : Int)).size ≤ 6 := by
    rw [ba_size, hd]
    exact digits_len' 5 n (by omega)
  have c1 : ¬ (((gxItoa (n : Int)).size : Int) > 7) := by omega
  have c2 : (-999999 : Int) ≤ (n : Int) := by omega
  have c3 : (n : Int) ≤ 999999 := by omega
  unfold gxParse
  rw [hd, atoi_dec h]
  simp only [c1, c2, c3, decide_true, decide_false, cond_false, Bool.true_and, cond_true]

end Go.Proofs.YtimffallbjpcjaaGreatDoor
