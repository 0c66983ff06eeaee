/- Plain laws of the models: no program in sight. -/
import Derived.Test.YtphinfkojhecdaaM
import Derived.Test.YtphinfkojhecdaaL1
set_option linter.unusedVariables false
set_option linter.unusedSimpArgs false
set_option maxHeartbeats 4000000
namespace Go.Proofs.Ytphinfkojhecdaa
open Go.Gx
/-! ### Slices of integers -/
theorem eqIntS_refl (xs : List Int) (h : xs.length ≤ 4611686018427387904) : M.l_eqIntS xs xs = some true := by
  unfold M.l_eqIntS
  rw [while_run (fun i => (i : Int)) (Sum.inl ()) xs.length (by simp) h]
  · simp
  · intro i hi
    have h1 : ((i : Int) < (xs.length : Int)) := by omega
    simp [h1, gxIdx_nat hi, w64_succ (show i ≤ 4611686018427387904 by omega)]
  · simp
theorem markIntS_ok (xs : List Int) (k : Nat) (h : k + xs.length ≤ 1099511627776) : M.l_markIntS xs k = some (((k + xs.length : Nat) : Int), marks k xs.length) := by
  unfold M.l_markIntS
  rw [while_run (fun i => (((k + i : Nat) : Int), (i : Int), marked k xs i)) (((k + xs.length : Nat) : Int), marks k xs.length) xs.length (by simp [marked_zero]) (by omega)]
  · rfl
  · intro i hi
    have h0 : (marked k xs i).length = xs.length := marked_length (by omega)
    have h1 : ((i : Int) < (xs.length : Int)) := by omega
    have h2 : i < (marked k xs i).length := by omega
    simp only [h0, h1, gxIdx_nat h2, decide_true, cond_true, Option.bind_some, Int.toNat_natCast, marked_set hi, w64_succ (show i ≤ 4611686018427387904 by omega), w64_succ (show k + i ≤ 4611686018427387904 by omega)]
    rfl
  · have h0 : (marked k xs xs.length).length = xs.length := marked_length (by omega)
    simp [marked_all, marks_length]
theorem heldIntS_ok (k n : Nat) (h : k + n ≤ 1099511627776) : M.l_heldIntS (marks k n) k = some ((k + n : Nat) : Int) := by
  unfold M.l_heldIntS
  rw [while_run (fun i => (((k + i : Nat) : Int), (i : Int))) (Sum.inl ((k + n : Nat) : Int)) n (by simp) (by omega)]
  · rfl
  · intro i hi
    have h1 : ((i : Int) < (n : Int)) := by omega
    have h2 : i < (marks k n).length := by rw [marks_length]; exact hi
    simp only [marks_length, h1, gxIdx_nat h2, marks_get, decide_true, cond_true, Option.bind_some, bne_self_eq_false, cond_false, w64_succ (show i ≤ 4611686018427387904 by omega), w64_succ (show k + i ≤ 4611686018427387904 by omega)]
    rfl
  · simp [marks_length]
/-! ### Regions -/
theorem while_first {σ ρ : Type} {body : σ → Option (σ ⊕ ρ)} {s0 : σ} (st : Nat → σ) (p : Nat → Bool) (hit : Nat → ρ) (r : ρ) (n : Nat) (h0 : s0 = st 0) (hn : n ≤ 4611686018427387904) (h : ∀ i, i < n → body (st i) = some (bif p i then .inr (hit i) else .inl (st (i + 1)))) (he : body (st n) = some (.inr r)) :
    whileM body gxFuel s0 = some (match (List.range n).find? p with
      | some i => hit i
      | none => r) := by
  cases hf : (List.range n).find? p with
  | none =>
    rw [List.find?_eq_none] at hf
    refine while_run st r n h0 hn (fun i hi => ?_) he
    have : p i = false := by
      have := hf i (List.mem_range.2 hi)
      simpa using this
    rw [h i hi, this]
    rfl
  | some i =>
    rw [List.find?_range_eq_some] at hf
    obtain ⟨h1, h2, h3⟩ := hf
    have hi : i < n := List.mem_range.1 h2
    refine while_run st (hit i) i h0 (by omega) (fun j hj => ?_) (by rw [h i hi, h1]; rfl)
    have : p j = false := by
      have := h3 j hj
      simpa using this
    rw [h j (by omega), this]
    rfl
def powS (x : Int) : Bool := x == 4 || (x == 8 || (x == 16 || (x == 32 || (x == 64 || (x == 128 || (x == 256 || (x == 512 || (x == 1024 || (x == 2048 || x == 4096)))))))))
theorem pow_cases {x : Int} (h : powS x = true) : x = 4 ∨ x = 8 ∨ x = 16 ∨ x = 32 ∨ x = 64 ∨ x = 128 ∨ x = 256 ∨ x = 512 ∨ x = 1024 ∨ x = 2048 ∨ x = 4096 := by simpa [powS] using h
theorem pow_check : (List.range 4097).all (fun n => Nat.blt n 4 || (((gxAnd .i64 (n : Int) (w64 ((n : Int) - 1))) == 0) == powS n)) = true := by kernel_rfl
theorem pow_and {x : Int} (h : 4 ≤ x ∧ x ≤ 4096) : ((gxAnd .i64 x (w64 (x - 1))) == 0) = powS x := by
  obtain ⟨n, rfl⟩ : ∃ n : Nat, x = n := ⟨x.toNat, by omega⟩
  have h1 := List.all_eq_true.1 pow_check n (List.mem_range.2 (by omega))
  have h2 : Nat.blt n 4 = false := by
    cases hb : Nat.blt n 4 with
    | false => rfl
    | true => have : n < 4 := Nat.blt_eq ▸ hb; omega
  rw [h2, Bool.false_or] at h1
  simpa using h1
theorem pow_range {x : Int} (h : powS x = true) : 4 ≤ x ∧ x ≤ 4096 := by have := pow_cases h; omega
theorem s_size (x : Int) : M.s_l17Size x = some (powS x) := by
  unfold M.s_l17Size
  rw [s_in, Option.bind_some]
  by_cases h : 4 ≤ x ∧ x ≤ 4096
  · simp only [h.1, h.2, decide_true, Bool.and_true, cond_true, pow_and h, Option.bind_some]
  · have h0 : powS x = false := by
      cases hp : powS x with
      | false => rfl
      | true => exact absurd (pow_range hp) h
    have h1 : (decide (4 ≤ x) && decide (x ≤ 4096)) = false := by
      rw [Bool.and_eq_false_iff]
      by_cases h2 : 4 ≤ x
      · exact Or.inr (by simp; omega)
      · exact Or.inl (by simp; omega)
    rw [h1, h0]
    rfl
theorem i_size (x : Int) : M.i_isSize x = some (powS x) := by
  unfold M.i_isSize
  rw [i_in, Option.bind_some]
  by_cases h : 4 ≤ x ∧ x ≤ 4096
  · simp only [h.1, h.2, decide_true, Bool.and_true, cond_true, pow_and h, Option.bind_some]
  · have h0 : powS x = false := by
      cases hp : powS x with
      | false => rfl
      | true => exact absurd (pow_range hp) h
    have h1 : (decide (4 ≤ x) && decide (x ≤ 4096)) = false := by
      rw [Bool.and_eq_false_iff]
      by_cases h2 : 4 ≤ x
      · exact Or.inr (by simp; omega)
      · exact Or.inl (by simp; omega)
    rw [h1, h0]
    rfl
theorem rem_ok {a n : Int} (h : 0 ≤ a) (hn : 0 < n) : gxRem a n = some (a % n) := by
  unfold gxRem
  rw [if_neg (by omega), Int.tmod_eq_emod_of_nonneg h]
def inB (x a b : Int) : Bool := decide (a ≤ x) && decide (x ≤ b)
def oneR (r : Region) : Bool := powS r.Size && (inB r.Base 0 65535 && ((r.Base % r.Size == 0) && (inB r.Kind 0 3 && inB r.Unit 0 15)))
theorem s_one (r : Region) : M.s_l17One r = some (oneR r) := by
  unfold M.s_l17One M.s_l17Address oneR
  simp only [s_size, s_in, Option.bind_some]
  cases hp : powS r.Size with
  | false => rfl
  | true =>
    have := pow_range hp
    cases hb : (decide (0 ≤ r.Base) && decide (r.Base ≤ 65535)) with
    | false => simp [inB, hb]
    | true =>
      have h0 : 0 ≤ r.Base ∧ r.Base ≤ 65535 := by simpa using hb
      simp only [inB, hb, cond_true, rem_ok h0.1 (show 0 < r.Size by omega), Option.bind_some, Bool.true_and]
      cases (r.Base % r.Size == 0) <;> cases (decide (0 ≤ r.Kind) && decide (r.Kind ≤ 3)) <;> rfl
theorem i_one (r : Region) : M.i_IsRegion r = some (oneR r) := by
  unfold M.i_IsRegion oneR
  simp only [i_size, i_in, Option.bind_some]
  cases hp : powS r.Size with
  | false => rfl
  | true =>
    have h4 := pow_range hp
    have hc := pow_cases hp
    rw [w64_id (by omega) (by omega)]
    by_cases h1 : 0 ≤ r.Base ∧ r.Base ≤ 65536 - r.Size
    · have hb : (decide (0 ≤ r.Base) && decide (r.Base ≤ 65536 - r.Size)) = true := by simpa using h1
      have hb2 : (decide (0 ≤ r.Base) && decide (r.Base ≤ 65535)) = true := by simp; omega
      simp only [inB, hb, hb2, cond_true, rem_ok h1.1 (show 0 < r.Size by omega), Option.bind_some, Bool.true_and]
      cases (r.Base % r.Size == 0) <;> cases (decide (0 ≤ r.Kind) && decide (r.Kind ≤ 3)) <;> rfl
    · have hb : (decide (0 ≤ r.Base) && decide (r.Base ≤ 65536 - r.Size)) = false := by
        rw [Bool.and_eq_false_iff]
        by_cases h2 : 0 ≤ r.Base
        · exact Or.inr (by simp; omega)
        · exact Or.inl (by simp; omega)
      rw [hb]
      have hz : (inB r.Base 0 65535 && ((r.Base % r.Size == 0) && (inB r.Kind 0 3 && inB r.Unit 0 15))) = false := by
        by_cases h2 : 0 ≤ r.Base ∧ r.Base ≤ 65535
        · have h3 : (r.Base % r.Size == 0) = false := by
            have : r.Base % r.Size ≠ 0 := by
              rcases hc with h | h | h | h | h | h | h | h | h | h | h <;> rw [h] at h1 ⊢ <;> omega
            simpa using this
          simp [h3]
        · have h3 : inB r.Base 0 65535 = false := by
            unfold inB
            rw [Bool.and_eq_false_iff]
            by_cases h5 : 0 ≤ r.Base
            · exact Or.inr (by simp; omega)
            · exact Or.inl (by simp; omega)
          simp [h3]
      simp [hz]
/-! ### Maps of regions -/
def gR : Region := ⟨0, 0, 0, 0⟩
def badM (xs : List Region) (i : Nat) : Bool := !(oneR (xs.getD i gR)) || (decide ((i : Int) > 0) && decide (w64 ((xs.getD (i - 1) gR).Base + (xs.getD (i - 1) gR).Size) > (xs.getD i gR).Base))
def goodM (xs : List Region) : Bool := (List.range xs.length).all (fun i => !(badM xs i)) && decide ((xs.length : Int) ≤ 6)
theorem getD_at {α : Type} {xs : List α} {i : Nat} {z : α} (h : i < xs.length) : xs.getD i z = xs[i] := by
  rw [List.getD_eq_getElem?_getD, List.getElem?_eq_getElem h]; rfl
theorem gxIdx_getD {α : Type} {xs : List α} {i : Nat} (z : α) (h : i < xs.length) : gxIdx xs (i : Int) = some (xs.getD i z) := by
  rw [gxIdx_nat h, getD_at h]
theorem gxIdx_prev {α : Type} {xs : List α} {i : Nat} (z : α) (h : i < xs.length) (h0 : 0 < i) (hl : i ≤ 4611686018427387904) : gxIdx xs (w64 ((i : Int) - 1)) = some (xs.getD (i - 1) z) := by
  rw [w64_id (by omega) (by omega), show ((i : Int) - 1) = ((i - 1 : Nat) : Int) by omega]
  exact gxIdx_getD z (by omega)
theorem while_all {σ ρ : Type} {body : σ → Option (σ ⊕ ρ)} {s0 : σ} (st : Nat → σ) (ok : Nat → Bool) (bad r : ρ) (n : Nat) (h0 : s0 = st 0) (hn : n ≤ 4611686018427387904) (h : ∀ i, i < n → body (st i) = some (bif ok i then .inl (st (i + 1)) else .inr bad)) (he : body (st n) = some (.inr r)) :
    whileM body gxFuel s0 = some (bif (List.range n).all ok then r else bad) := by
  rw [while_first st (fun i => !(ok i)) (fun _ => bad) r n h0 hn (fun i hi => by rw [h i hi]; cases ok i <;> rfl) he]
  cases hf : (List.range n).find? (fun i => !(ok i)) with
  | none =>
    rw [List.find?_eq_none] at hf
    have : (List.range n).all ok = true := List.all_eq_true.2 fun i hi => by simpa using hf i hi
    rw [this]
    rfl
  | some i =>
    have h1 := List.find?_some hf
    have h2 := List.mem_of_find?_eq_some hf
    have : (List.range n).all ok = false := by
      rw [List.all_eq_false]
      exact ⟨i, h2, by simpa using h1⟩
    rw [this]
    rfl
theorem s_goodM (xs : List Region) (h : xs.length ≤ 1048576) : M.s_l17Good xs = some (goodM xs) := by
  unfold M.s_l17Good goodM
  rw [while_all (fun i => (i : Int)) (fun i => !(badM xs i)) (.inr false) (.inl ()) xs.length (by simp) (by omega)]
  · cases (List.range xs.length).all (fun i => !(badM xs i)) <;> rfl
  · intro i hi
    have e0 : ((i : Int) < (xs.length : Int)) := by omega
    unfold badM
    simp only [e0, decide_true, cond_true, gxIdx_getD gR hi, s_one, Option.bind_some, w64_succ (show i ≤ 4611686018427387904 by omega)]
    cases oneR (xs.getD i gR) with
    | false => rfl
    | true =>
      by_cases hp : (i : Int) > 0
      · simp only [hp, decide_true, cond_true, gxIdx_prev gR hi (by omega) (by omega), Option.bind_some, Bool.not_true, cond_false, Bool.false_or, Bool.true_and]
        cases decide (w64 ((xs.getD (i - 1) gR).Base + (xs.getD (i - 1) gR).Size) > (xs.getD i gR).Base) <;> rfl
      · simp only [hp, decide_false, cond_false, Bool.not_true, Bool.false_or, Bool.false_and]
        rfl
  · simp only [Int.lt_irrefl, decide_false, cond_false]
theorem i_goodM (xs : List Region) (h : xs.length ≤ 1048576) : M.i_IsMap xs = some (goodM xs) := by
  unfold M.i_IsMap goodM
  rw [while_all (fun i => (i : Int)) (fun i => !(badM xs i)) (.inr false) (.inl ()) xs.length (by simp) (by omega)]
  · cases (List.range xs.length).all (fun i => !(badM xs i)) <;> rfl
  · intro i hi
    have e0 : ((i : Int) < (xs.length : Int)) := by omega
    unfold badM
    simp only [e0, decide_true, cond_true, gxIdx_getD gR hi, i_one, Option.bind_some, w64_succ (show i ≤ 4611686018427387904 by omega)]
    cases oneR (xs.getD i gR) with
    | false => rfl
    | true =>
      by_cases hp : (i : Int) > 0
      · simp only [hp, decide_true, cond_true, gxIdx_prev gR hi (by omega) (by omega), Option.bind_some, Bool.not_true, cond_false, Bool.false_or, Bool.true_and]
        cases decide (w64 ((xs.getD (i - 1) gR).Base + (xs.getD (i - 1) gR).Size) > (xs.getD i gR).Base) <;> rfl
      · simp only [hp, decide_false, cond_false, Bool.not_true, Bool.false_or, Bool.false_and]
        rfl
  · simp only [Int.lt_irrefl, decide_false, cond_false]
theorem goodM_len {xs : List Region} (h : goodM xs = true) : xs.length ≤ 6 := by
  unfold goodM at h
  simp only [Bool.and_eq_true, decide_eq_true_eq] at h
  omega
theorem goodM_one {xs : List Region} (h : goodM xs = true) {i : Nat} (hi : i < xs.length) : oneR (xs.getD i gR) = true := by
  unfold goodM at h
  rw [Bool.and_eq_true] at h
  have := List.all_eq_true.1 h.1 i (List.mem_range.2 hi)
  unfold badM at this
  cases ho : oneR (xs.getD i gR) with
  | true => rfl
  | false => rw [ho] at this; simp at this
/-- The index of the region with an address, -1 if there is none. -/
def hitR (xs : List Region) (a : Int) (i : Nat) : Bool := inB a (xs.getD i gR).Base (w64 (w64 ((xs.getD i gR).Base + (xs.getD i gR).Size) - 1))
def findR (xs : List Region) (a : Int) : Int := match (List.range xs.length).find? (hitR xs a) with
  | some i => i
  | none => -1
theorem s_find (xs : List Region) (a : Int) (h : xs.length ≤ 1048576) : M.s_l17Find xs a = some (findR xs a) := by
  unfold M.s_l17Find findR
  rw [while_first (fun i => (i : Int)) (hitR xs a) (fun i => .inr (i : Int)) (.inl ()) xs.length (by simp) (by omega)]
  · cases (List.range xs.length).find? (hitR xs a) <;> rfl
  · intro i hi
    have e0 : ((i : Int) < (xs.length : Int)) := by omega
    unfold hitR inB
    simp only [e0, decide_true, cond_true, gxIdx_getD gR hi, s_in, Option.bind_some, w64_succ (show i ≤ 4611686018427387904 by omega)]
    cases (decide ((xs.getD i gR).Base ≤ a) && decide (a ≤ w64 (w64 ((xs.getD i gR).Base + (xs.getD i gR).Size) - 1))) <;> rfl
  · simp only [Int.lt_irrefl, decide_false, cond_false]
theorem i_find (xs : List Region) (a : Int) (h : xs.length ≤ 1048576) : M.i_findRegion xs a = some (findR xs a) := by
  unfold M.i_findRegion M.slices_IndexFunc_87__i_findRegion_1 findR
  rw [while_first (fun i => (i : Int)) (hitR xs a) (fun i => .inr (i : Int)) (.inl ()) xs.length (by simp) (by omega)]
  · cases (List.range xs.length).find? (hitR xs a) <;> rfl
  · intro i hi
    have e0 : ((i : Int) < (xs.length : Int)) := by omega
    unfold hitR inB M.i_findRegion_1
    simp only [e0, decide_true, cond_true, gxIdx_getD gR hi, i_in, Option.bind_some, w64_succ (show i ≤ 4611686018427387904 by omega)]
    cases (decide ((xs.getD i gR).Base ≤ a) && decide (a ≤ w64 (w64 ((xs.getD i gR).Base + (xs.getD i gR).Size) - 1))) <;> rfl
  · simp only [Int.lt_irrefl, decide_false, cond_false]
theorem find_lt {xs : List Region} {a : Int} (h : ¬ (findR xs a < 0)) : ∃ i : Nat, findR xs a = i ∧ i < xs.length := by
  unfold findR at h ⊢
  cases hf : (List.range xs.length).find? (hitR xs a) with
  | none => rw [hf] at h; simp at h
  | some i => exact ⟨i, rfl, List.mem_range.1 (List.mem_of_find?_eq_some hf)⟩
def allowsR (r : Region) (w : Int) : Bool := r.Kind == 3 || w == 2 ^ r.Kind.toNat
theorem allows_ok {r : Region} (h : oneR r = true) (w : Int) : M.s_l17Allows r w = some (allowsR r w) ∧ M.i_allows r w = some (allowsR r w) := by
  have hk : 0 ≤ r.Kind ∧ r.Kind ≤ 3 := by
    unfold oneR inB at h
    simp only [Bool.and_eq_true, decide_eq_true_eq] at h
    exact h.2.2.2.1
  have h4 : r.Kind = 0 ∨ r.Kind = 1 ∨ r.Kind = 2 ∨ r.Kind = 3 := by omega
  unfold M.s_l17Allows M.i_allows allowsR
  rcases h4 with e | e | e | e <;> rw [e] <;> exact ⟨rfl, rfl⟩
def okAcc (a : Access) : Bool := inB a.Address 0 65535 && (a.Width == 1 || (a.Width == 2 || a.Width == 4))
theorem s_acc (a : Access) : M.s_l17Access a = some (okAcc a) := by
  unfold M.s_l17Access M.s_l17Address okAcc
  simp only [s_in, Option.bind_some, inB]
  cases (decide (0 ≤ a.Address) && decide (a.Address ≤ 65535)) <;> cases (a.Width == 1) <;> cases (a.Width == 2) <;> rfl
theorem i_acc (a : Access) : M.i_isAccess a = some (okAcc a) := by
  unfold M.i_isAccess M.i_isWord16 M.i_isWidth okAcc
  simp only [i_in, Option.bind_some, inB]
  cases (decide (0 ≤ a.Address) && decide (a.Address ≤ 65535)) <;> cases (a.Width == 1) <;> cases (a.Width == 2) <;> rfl
theorem acc_spec {a : Access} (h : okAcc a = true) : (0 ≤ a.Address ∧ a.Address ≤ 65535) ∧ (a.Width = 1 ∨ a.Width = 2 ∨ a.Width = 4) := by
  unfold okAcc inB at h
  simpa using h
theorem route_eq (xs : List Region) (a : Access) (h : xs.length ≤ 1048576) : ∃ r, M.s_RouteAccess xs a = some r ∧ M.i_RouteAccess xs a = some r := by
  unfold M.s_RouteAccess M.i_RouteAccess
  simp only [s_goodM xs h, i_goodM xs h, s_acc, i_acc, Option.bind_some]
  cases hg : goodM xs with
  | false => exact ⟨_, rfl, rfl⟩
  | true => cases ha : okAcc a with
    | false => exact ⟨_, rfl, rfl⟩
    | true =>
      have hs := acc_spec ha
      simp only [s_find xs _ h, i_find xs _ h, rem_ok hs.1.1 (show 0 < a.Width by omega), Option.bind_some, Bool.not_true, cond_false]
      cases (a.Address % a.Width != 0) with
      | true => exact ⟨_, rfl, rfl⟩
      | false =>
        by_cases hf : findR xs a.Address < 0
        · simp only [hf, decide_true, cond_true, cond_false]
          exact ⟨_, rfl, rfl⟩
        · obtain ⟨i, hi, hlt⟩ := find_lt hf
          have ho := goodM_one hg hlt
          have hal := allows_ok ho a.Width
          simp only [hf, decide_false, cond_false, hi, gxIdx_getD gR hlt, hal.1, hal.2, Option.bind_some]
          have hneg : ¬ ((i : Int) < 0) := by omega
          simp only [hneg, decide_false, cond_false]
          cases allowsR (xs.getD i gR) a.Width <;> exact ⟨_, rfl, rfl⟩
/-! ### Slices of regions -/
def okRegion (x : Region) : Prop := okI x.Base ∧ okI x.Size ∧ okI x.Kind ∧ okI x.Unit
def okAccess (x : Access) : Prop := okI x.Address ∧ okI x.Width ∧ okB x.Store
theorem eqRegion_refl (x : Region) : M.l_eqRegion x x = some true := by unfold M.l_eqRegion; simp
theorem eqRegionS_refl (xs : List Region) (h : xs.length ≤ 4611686018427387904) : M.l_eqRegionS xs xs = some true := by
  unfold M.l_eqRegionS
  rw [while_run (fun i => (i : Int)) (Sum.inl ()) xs.length (by simp) h]
  · simp
  · intro i hi
    have h1 : ((i : Int) < (xs.length : Int)) := by omega
    simp [h1, gxIdx_nat hi, eqRegion_refl, w64_succ (show i ≤ 4611686018427387904 by omega)]
  · simp
theorem toRegionS_id (xs : List Region) (h : xs.length ≤ 1099511627776) : M.l_toRegionS xs = some xs := by
  unfold M.l_toRegionS
  rw [gxMake_nat (by omega), Option.bind_some, while_run (fun i => ((i : Int), taken xs ⟨0, 0, 0, 0⟩ i)) xs xs.length (by simp [taken_zero]) (by omega)]
  · rfl
  · intro i hi
    have h1 : ((i : Int) < (xs.length : Int)) := by omega
    have h2 : i < (taken xs ⟨0, 0, 0, 0⟩ i).length := by rw [taken_length (by omega)]; exact hi
    simp [h1, gxIdx_nat hi, gxIdx_nat h2, M.l_toRegion, w64_succ (show i ≤ 4611686018427387904 by omega), taken_set hi]
  · simp [taken_all]
theorem szRegionS_ok (xs : List Region) (left : Int) (h : xs.length ≤ 9223372036854775807) (hl : -1 ≤ left ∧ left ≤ 1048576) : M.l_szRegionS xs left = some (if left < xs.length then -1 else left - xs.length) := by
  unfold M.l_szRegionS
  rw [w64_id (by omega) (by omega)]
  by_cases hc : left < xs.length
  · have : left - (xs.length : Int) < 0 := by omega
    simp [hc, this]
  · have : ¬ (left - (xs.length : Int) < 0) := by omega
    simp [hc, this]
theorem plain_RouteAccess (xs : List Region) (a : Access) (hx : okL okRegion xs) (_ : okAccess a) : M.l_FnExactRouteAccess xs a = some true := by
  unfold M.l_FnExactRouteAccess
  rw [szRegionS_ok xs 1048576 hx.1 (by omega), Option.bind_some]
  by_cases h : (1048576 : Int) < xs.length
  · simp [h]
  · have h2 : ¬ ((1048576 : Int) - xs.length < 0) := by omega
    obtain ⟨r, h3, h4⟩ := route_eq xs a (by omega)
    have ht := toRegionS_id xs (by omega)
    have hta : M.l_toAccess a = some a := rfl
    have he := eqRegionS_refl xs (by omega)
    simp only [h, h2, h3, h4, ht, hta, he, if_false, Option.bind_some, Bool.not_true, cond_false, beq_self_eq_true, bne_self_eq_false, decide_false]
end Go.Proofs.Ytphinfkojhecdaa
