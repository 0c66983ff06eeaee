/- Plain laws of the models: no program in sight. -/
import Derived.Test.YtphinfkojhecdaaRM
import Derived.Test.YtphinfkojhecdaaGxH
set_option linter.unusedVariables false
set_option linter.unusedSimpArgs false
set_option maxHeartbeats 4000000
namespace Go.Proofs.Ytphinfkojhecdaa
open Go.Gx
/-! ### Buckets -/
theorem s_in (x a b : Int) : M.s_l1In x a b = some (decide (a ≤ x) && decide (x ≤ b)) := by
  unfold M.s_l1In
  by_cases h : x ≥ a <;> simp [h]
theorem i_in (x a b : Int) : M.i_inside x a b = some (decide (a ≤ x) && decide (x ≤ b)) := by
  unfold M.i_inside
  by_cases h : x ≥ a <;> simp [h]
def okBucket (x : Bucket) : Prop := okI x.Guest ∧ okI x.Rate ∧ okI x.Burst ∧ okI x.Have ∧ okI x.Tick
/-! ### Slices of integers -/
/-! ### Regions -/
theorem while_first {σ ρ : Type} {body : σ → Option (σ ⊕ ρ)} {s0 : σ} (st : Nat → σ) (p : Nat → Bool) (hit : Nat → ρ) (r : ρ) (n : Nat) (h0 : s0 = st 0) (hn : n ≤ 4611686018427387904) (h : ∀ i, i < n → body (st i) = some (bif p i then .inr (hit i) else .inl (st (i + 1)))) (he : body (st n) = some (.inr r)) :
    whileM body gxFuel s0 = some (match (List.range n).find? p with
      | some i => hit i
      | none => r) := by
  cases hf : (List.range n).find? p with
  | none =>
    rw [List.find?_eq_none] at hf
    refine while_run st r n h0 hn (fun i hi => ?_) he
    have : p i = false := by
      have := hf i (List.mem_range.2 hi)
      simpa using this
    rw [h i hi, this]
    rfl
  | some i =>
    rw [List.find?_range_eq_some] at hf
    obtain ⟨h1, h2, h3⟩ := hf
    have hi : i < n := List.mem_range.1 h2
    refine while_run st (hit i) i h0 (by omega) (fun j hj => ?_) (by rw [h i hi, h1]; rfl)
    have : p j = false := by
      have := h3 j hj
      simpa using this
    rw [h j (by omega), this]
    rfl
def powS (x : Int) : Bool := x == 4 || (x == 8 || (x == 16 || (x == 32 || (x == 64 || (x == 128 || (x == 256 || (x == 512 || (x == 1024 || (x == 2048 || x == 4096)))))))))
theorem pow_cases {x : Int} (h : powS x = true) : x = 4 ∨ x = 8 ∨ x = 16 ∨ x = 32 ∨ x = 64 ∨ x = 128 ∨ x = 256 ∨ x = 512 ∨ x = 1024 ∨ x = 2048 ∨ x = 4096 := by simpa [powS] using h
theorem pow_check : (List.range 4097).all (fun n => Nat.blt n 4 || (((gxAnd .i64 (n : Int) (w64 ((n : Int) - 1))) == 0) == powS n)) = true := by kernel_rfl
theorem pow_and {x : Int} (h : 4 ≤ x ∧ x ≤ 4096) : ((gxAnd .i64 x (w64 (x - 1))) == 0) = powS x := by
  obtain ⟨n, rfl⟩ : ∃ n : Nat, x = n := ⟨x.toNat, by omega⟩
  have h1 := List.all_eq_true.1 pow_check n (List.mem_range.2 (by omega))
  have h2 : Nat.blt n 4 = false := by
    cases hb : Nat.blt n 4 with
    | false => rfl
    | true => have : n < 4 := Nat.blt_eq ▸ hb; omega
  rw [h2, Bool.false_or] at h1
  simpa using h1
theorem pow_range {x : Int} (h : powS x = true) : 4 ≤ x ∧ x ≤ 4096 := by have := pow_cases h; omega
theorem s_size (x : Int) : M.s_l17Size x = some (powS x) := by
  unfold M.s_l17Size
  rw [s_in, Option.bind_some]
  by_cases h : 4 ≤ x ∧ x ≤ 4096
  · simp only [h.1, h.2, decide_true, Bool.and_true, cond_true, pow_and h, Option.bind_some]
  · have h0 : powS x = false := by
      cases hp : powS x with
      | false => rfl
      | true => exact absurd (pow_range hp) h
    have h1 : (decide (4 ≤ x) && decide (x ≤ 4096)) = false := by
      rw [Bool.and_eq_false_iff]
      by_cases h2 : 4 ≤ x
      · exact Or.inr (by simp; omega)
      · exact Or.inl (by simp; omega)
    rw [h1, h0]
    rfl
theorem i_size (x : Int) : M.i_isSize x = some (powS x) := by
  unfold M.i_isSize
  rw [i_in, Option.bind_some]
  by_cases h : 4 ≤ x ∧ x ≤ 4096
  · simp only [h.1, h.2, decide_true, Bool.and_true, cond_true, pow_and h, Option.bind_some]
  · have h0 : powS x = false := by
      cases hp : powS x with
      | false => rfl
      | true => exact absurd (pow_range hp) h
    have h1 : (decide (4 ≤ x) && decide (x ≤ 4096)) = false := by
      rw [Bool.and_eq_false_iff]
      by_cases h2 : 4 ≤ x
      · exact Or.inr (by simp; omega)
      · exact Or.inl (by simp; omega)
    rw [h1, h0]
    rfl
theorem rem_ok {a n : Int} (h : 0 ≤ a) (hn : 0 < n) : gxRem a n = some (a % n) := by
  unfold gxRem
  rw [if_neg (by omega), Int.tmod_eq_emod_of_nonneg h]
def inB (x a b : Int) : Bool := decide (a ≤ x) && decide (x ≤ b)
def oneR (r : Region) : Bool := powS r.Size && (inB r.Base 0 65535 && ((r.Base % r.Size == 0) && (inB r.Kind 0 3 && inB r.Unit 0 15)))
theorem s_one (r : Region) : M.s_l17One r = some (oneR r) := by
  unfold M.s_l17One M.s_l17Address oneR
  simp only [s_size, s_in, Option.bind_some]
  cases hp : powS r.Size with
  | false => rfl
  | true =>
    have := pow_range hp
    cases hb : (decide (0 ≤ r.Base) && decide (r.Base ≤ 65535)) with
    | false => simp [inB, hb]
    | true =>
      have h0 : 0 ≤ r.Base ∧ r.Base ≤ 65535 := by simpa using hb
      simp only [inB, hb, cond_true, rem_ok h0.1 (show 0 < r.Size by omega), Option.bind_some, Bool.true_and]
      cases (r.Base % r.Size == 0) <;> cases (decide (0 ≤ r.Kind) && decide (r.Kind ≤ 3)) <;> rfl
theorem i_one (r : Region) : M.i_IsRegion r = some (oneR r) := by
  unfold M.i_IsRegion oneR
  simp only [i_size, i_in, Option.bind_some]
  cases hp : powS r.Size with
  | false => rfl
  | true =>
    have h4 := pow_range hp
    have hc := pow_cases hp
    rw [w64_id (by omega) (by omega)]
    by_cases h1 : 0 ≤ r.Base ∧ r.Base ≤ 65536 - r.Size
    · have hb : (decide (0 ≤ r.Base) && decide (r.Base ≤ 65536 - r.Size)) = true := by simpa using h1
      have hb2 : (decide (0 ≤ r.Base) && decide (r.Base ≤ 65535)) = true := by simp; omega
      simp only [inB, hb, hb2, cond_true, rem_ok h1.1 (show 0 < r.Size by omega), Option.bind_some, Bool.true_and]
      cases (r.Base % r.Size == 0) <;> cases (decide (0 ≤ r.Kind) && decide (r.Kind ≤ 3)) <;> rfl
    · have hb : (decide (0 ≤ r.Base) && decide (r.Base ≤ 65536 - r.Size)) = false := by
        rw [Bool.and_eq_false_iff]
        by_cases h2 : 0 ≤ r.Base
        · exact Or.inr (by simp; omega)
        · exact Or.inl (by simp; omega)
      rw [hb]
      have hz : (inB r.Base 0 65535 && ((r.Base % r.Size == 0) && (inB r.Kind 0 3 && inB r.Unit 0 15))) = false := by
        by_cases h2 : 0 ≤ r.Base ∧ r.Base ≤ 65535
        · have h3 : (r.Base % r.Size == 0) = false := by
            have : r.Base % r.Size ≠ 0 := by
              rcases hc with h | h | h | h | h | h | h | h | h | h | h <;> rw [h] at h1 ⊢ <;> omega
            simpa using this
          simp [h3]
        · have h3 : inB r.Base 0 65535 = false := by
            unfold inB
            rw [Bool.and_eq_false_iff]
            by_cases h5 : 0 ≤ r.Base
            · exact Or.inr (by simp; omega)
            · exact Or.inl (by simp; omega)
          simp [h3]
      simp [hz]

/-! ### Maps of regions -/
def gR : Region := ⟨0, 0, 0, 0⟩
def badM (xs : List Region) (i : Nat) : Bool := !(oneR (xs.getD i gR)) || (decide ((i : Int) > 0) && decide (w64 ((xs.getD (i - 1) gR).Base + (xs.getD (i - 1) gR).Size) > (xs.getD i gR).Base))
def goodM (xs : List Region) : Bool := (List.range xs.length).all (fun i => !(badM xs i)) && decide ((xs.length : Int) ≤ 6)
theorem getD_at {α : Type} {xs : List α} {i : Nat} {z : α} (h : i < xs.length) : xs.getD i z = xs[i] := by
  rw [List.getD_eq_getElem?_getD, List.getElem?_eq_getElem h]; rfl
theorem gxIdx_getD {α : Type} {xs : List α} {i : Nat} (z : α) (h : i < xs.length) : gxIdx xs (i : Int) = some (xs.getD i z) := by
  rw [gxIdx_nat h, getD_at h]
theorem gxIdx_prev {α : Type} {xs : List α} {i : Nat} (z : α) (h : i < xs.length) (h0 : 0 < i) (hl : i ≤ 4611686018427387904) : gxIdx xs (w64 ((i : Int) - 1)) = some (xs.getD (i - 1) z) := by
  rw [w64_id (by omega) (by omega), show ((i : Int) - 1) = ((i - 1 : Nat) : Int) by omega]
  exact gxIdx_getD z (by omega)
theorem while_all {σ ρ : Type} {body : σ → Option (σ ⊕ ρ)} {s0 : σ} (st : Nat → σ) (ok : Nat → Bool) (bad r : ρ) (n : Nat) (h0 : s0 = st 0) (hn : n ≤ 4611686018427387904) (h : ∀ i, i < n → body (st i) = some (bif ok i then .inl (st (i + 1)) else .inr bad)) (he : body (st n) = some (.inr r)) :
    whileM body gxFuel s0 = some (bif (List.range n).all ok then r else bad) := by
  rw [while_first st (fun i => !(ok i)) (fun _ => bad) r n h0 hn (fun i hi => by rw [h i hi]; cases ok i <;> rfl) he]
  cases hf : (List.range n).find? (fun i => !(ok i)) with
  | none =>
    rw [List.find?_eq_none] at hf
    have : (List.range n).all ok = true := List.all_eq_true.2 fun i hi => by simpa using hf i hi
    rw [this]
    rfl
  | some i =>
    have h1 := List.find?_some hf
    have h2 := List.mem_of_find?_eq_some hf
    have : (List.range n).all ok = false := by
      rw [List.all_eq_false]
      exact ⟨i, h2, by simpa using h1⟩
    rw [this]
    rfl
theorem s_goodM (xs : List Region) (h : xs.length ≤ 1048576) : M.s_l17Good xs = some (goodM xs) := by
  unfold M.s_l17Good goodM
  rw [while_all (fun i => (i : Int)) (fun i => !(badM xs i)) (.inr false) (.inl ()) xs.length (by simp) (by omega)]
  · cases (List.range xs.length).all (fun i => !(badM xs i)) <;> rfl
  · intro i hi
    have e0 : ((i : Int) < (xs.length : Int)) := by omega
    unfold badM
    simp only [e0, decide_true, cond_true, gxIdx_getD gR hi, s_one, Option.bind_some, w64_succ (show i ≤ 4611686018427387904 by omega)]
    cases oneR (xs.getD i gR) with
    | false => rfl
    | true =>
      by_cases hp : (i : Int) > 0
      · simp only [hp, decide_true, cond_true, gxIdx_prev gR hi (by omega) (by omega), Option.bind_some, Bool.not_true, cond_false, Bool.false_or, Bool.true_and]
        cases decide (w64 ((xs.getD (i - 1) gR).Base + (xs.getD (i - 1) gR).Size) > (xs.getD i gR).Base) <;> rfl
      · simp only [hp, decide_false, cond_false, Bool.not_true, Bool.false_or, Bool.false_and]
        rfl
  · simp only [Int.lt_irrefl, decide_false, cond_false]
theorem i_goodM (xs : List Region) (h : xs.length ≤ 1048576) : M.i_IsMap xs = some (goodM xs) := by
  unfold M.i_IsMap goodM
  rw [while_all (fun i => (i : Int)) (fun i => !(badM xs i)) (.inr false) (.inl ()) xs.length (by simp) (by omega)]
  · cases (List.range xs.length).all (fun i => !(badM xs i)) <;> rfl
  · intro i hi
    have e0 : ((i : Int) < (xs.length : Int)) := by omega
    unfold badM
    simp only [e0, decide_true, cond_true, gxIdx_getD gR hi, i_one, Option.bind_some, w64_succ (show i ≤ 4611686018427387904 by omega)]
    cases oneR (xs.getD i gR) with
    | false => rfl
    | true =>
      by_cases hp : (i : Int) > 0
      · simp only [hp, decide_true, cond_true, gxIdx_prev gR hi (by omega) (by omega), Option.bind_some, Bool.not_true, cond_false, Bool.false_or, Bool.true_and]
        cases decide (w64 ((xs.getD (i - 1) gR).Base + (xs.getD (i - 1) gR).Size) > (xs.getD i gR).Base) <;> rfl
      · simp only [hp, decide_false, cond_false, Bool.not_true, Bool.false_or, Bool.false_and]
        rfl
  · simp only [Int.lt_irrefl, decide_false, cond_false]
theorem goodM_len {xs : List Region} (h : goodM xs = true) : xs.length ≤ 6 := by
  unfold goodM at h
  simp only [Bool.and_eq_true, decide_eq_true_eq] at h
  omega
theorem goodM_one {xs : List Region} (h : goodM xs = true) {i : Nat} (hi : i < xs.length) : oneR (xs.getD i gR) = true := by
  unfold goodM at h
  rw [Bool.and_eq_true] at h
  have := List.all_eq_true.1 h.1 i (List.mem_range.2 hi)
  unfold badM at this
  cases ho : oneR (xs.getD i gR) with
  | true => rfl
  | false => rw [ho] at this; simp at this
/-- The index of the region with an address, -1 if there is none. -/
def hitR (xs : List Region) (a : Int) (i : Nat) : Bool := inB a (xs.getD i gR).Base (w64 (w64 ((xs.getD i gR).Base + (xs.getD i gR).Size) - 1))
def findR (xs : List Region) (a : Int) : Int := match (List.range xs.length).find? (hitR xs a) with
  | some i => i
  | none => -1
theorem i_find (xs : List Region) (a : Int) (h : xs.length ≤ 1048576) : M.i_findRegion xs a = some (findR xs a) := by
  unfold M.i_findRegion M.slices_IndexFunc_87__i_findRegion_1 findR
  rw [while_first (fun i => (i : Int)) (hitR xs a) (fun i => .inr (i : Int)) (.inl ()) xs.length (by simp) (by omega)]
  · cases (List.range xs.length).find? (hitR xs a) <;> rfl
  · intro i hi
    have e0 : ((i : Int) < (xs.length : Int)) := by omega
    unfold hitR inB M.i_findRegion_1
    simp only [e0, decide_true, cond_true, gxIdx_getD gR hi, i_in, Option.bind_some, w64_succ (show i ≤ 4611686018427387904 by omega)]
    cases (decide ((xs.getD i gR).Base ≤ a) && decide (a ≤ w64 (w64 ((xs.getD i gR).Base + (xs.getD i gR).Size) - 1))) <;> rfl
  · simp only [Int.lt_irrefl, decide_false, cond_false]
theorem find_lt {xs : List Region} {a : Int} (h : ¬ (findR xs a < 0)) : ∃ i : Nat, findR xs a = i ∧ i < xs.length := by
  unfold findR at h ⊢
  cases hf : (List.range xs.length).find? (hitR xs a) with
  | none => rw [hf] at h; simp at h
  | some i => exact ⟨i, rfl, List.mem_range.1 (List.mem_of_find?_eq_some hf)⟩
def allowsR (r : Region) (w : Int) : Bool := r.Kind == 3 || w == 2 ^ r.Kind.toNat
def okAcc (a : Access) : Bool := inB a.Address 0 65535 && (a.Width == 1 || (a.Width == 2 || a.Width == 4))
theorem acc_spec {a : Access} (h : okAcc a = true) : (0 ≤ a.Address ∧ a.Address ≤ 65535) ∧ (a.Width = 1 ∨ a.Width = 2 ∨ a.Width = 4) := by
  unfold okAcc inB at h
  simpa using h
/-! ### Slices of regions -/
def okRegion (x : Region) : Prop := okI x.Base ∧ okI x.Size ∧ okI x.Kind ∧ okI x.Unit
def okAccess (x : Access) : Prop := okI x.Address ∧ okI x.Width ∧ okB x.Store
/-! ### Marks, in general -/
/-- Each element gets numbers from k on. -/
def gmk {α : Type} (f : α → Nat → Nat × α) : List α → Nat → Nat × List α
  | [], k => (k, [])
  | x :: r, k => ((gmk f r (f x k).1).1, (f x k).2 :: (gmk f r (f x k).1).2)
theorem gmk_app {α : Type} {f : α → Nat → Nat × α} : ∀ (a b : List α) (k : Nat), gmk f (a ++ b) k = ((gmk f b (gmk f a k).1).1, (gmk f a k).2 ++ (gmk f b (gmk f a k).1).2)
  | [], b, k => rfl
  | x :: r, b, k => by simp only [List.cons_append, gmk, gmk_app r b]
theorem gmk_len {α : Type} {f : α → Nat → Nat × α} : ∀ (a : List α) (k : Nat), (gmk f a k).2.length = a.length
  | [], k => rfl
  | x :: r, k => by simp only [gmk, List.length_cons, gmk_len r]
theorem gmk_succ {α : Type} {f : α → Nat → Nat × α} {xs : List α} {i : Nat} (h : i < xs.length) (k : Nat) : gmk f (xs.take (i + 1)) k = ((f xs[i] (gmk f (xs.take i) k).1).1, (gmk f (xs.take i) k).2 ++ [(f xs[i] (gmk f (xs.take i) k).1).2]) := by
  rw [List.take_add_one, List.getElem?_eq_getElem h, Option.toList_some, gmk_app]
  rfl
theorem gmk_mono {α : Type} {f : α → Nat → Nat × α} (hf : ∀ x k, k ≤ (f x k).1) : ∀ (a : List α) (k : Nat), k ≤ (gmk f a k).1
  | [], k => Nat.le_refl _
  | x :: r, k => Nat.le_trans (hf x k) (gmk_mono hf r _)
theorem gmk_take_le {α : Type} {f : α → Nat → Nat × α} (hf : ∀ x k, k ≤ (f x k).1) (xs : List α) (k i : Nat) : (gmk f (xs.take i) k).1 ≤ (gmk f xs k).1 := by
  have : gmk f xs k = gmk f (xs.take i ++ xs.drop i) k := by rw [List.take_append_drop]
  rw [this, gmk_app]
  exact gmk_mono hf _ _
theorem gmk_get {α : Type} {f : α → Nat → Nat × α} {xs : List α} {i : Nat} (h : i < xs.length) (k : Nat) (h2 : i < (gmk f xs k).2.length) : (gmk f xs k).2[i] = (f xs[i] (gmk f (xs.take i) k).1).2 := by
  have e : gmk f xs k = gmk f (xs.take (i + 1) ++ xs.drop (i + 1)) k := by rw [List.take_append_drop]
  have h3 : (gmk f xs k).2 = (gmk f (xs.take i) k).2 ++ ([(f xs[i] (gmk f (xs.take i) k).1).2] ++ (gmk f (xs.drop (i + 1)) (gmk f (xs.take (i + 1)) k).1).2) := by
    rw [e, gmk_app, gmk_succ h]
    simp
  have hl : (gmk f (xs.take i) k).2.length = i := by rw [gmk_len]; simp; omega
  have : (gmk f xs k).2[i]? = some (f xs[i] (gmk f (xs.take i) k).1).2 := by
    rw [h3, List.getElem?_append_right (by omega), hl, Nat.sub_self]
    rfl
  rw [List.getElem?_eq_getElem h2] at this
  exact Option.some.inj this
theorem mark_run {α : Type} (f : α → Nat → Nat × α) {xs : List α} {k : Nat} {body : Int × Int × List α → Option ((Int × Int × List α) ⊕ (Int × List α))} (hf : ∀ x k, k ≤ (f x k).1) (hb : (gmk f xs k).1 ≤ 1099511627776) (hl : xs.length ≤ 1099511627776)
    (h : ∀ (i : Nat) (hi : i < xs.length) (K : Nat) (L : List α) (hL : i < L.length), (f xs[i] K).1 ≤ 1099511627776 → L[i] = xs[i] → L.length = xs.length → body ((K : Int), (i : Int), L) = some (.inl (((f xs[i] K).1 : Int), w64 ((i : Int) + 1), L.set i (f xs[i] K).2)))
    (he : ∀ (K : Int) (L : List α), L.length = xs.length → body (K, (xs.length : Int), L) = some (.inr (K, L))) : whileM body gxFuel ((k : Int), 0, xs) = some (((gmk f xs k).1 : Int), (gmk f xs k).2) := by
  refine while_run (fun i => (((gmk f (xs.take i) k).1 : Int), (i : Int), (gmk f (xs.take i) k).2 ++ xs.drop i)) _ xs.length (by simp [gmk]) (by omega) (fun i hi => ?_) ?_
  · have hll : (gmk f (xs.take i) k).2.length = i := by rw [gmk_len]; simp; omega
    have hL : i < ((gmk f (xs.take i) k).2 ++ xs.drop i).length := by simp [hll]; omega
    have hs := gmk_succ (f := f) hi k
    have hle := gmk_take_le hf xs k (i + 1)
    rw [hs] at hle
    rw [h i hi _ _ hL (by simp only at hle; omega) (by rw [List.getElem_append_right (by omega)]; simp [hll]) (by simp [hll]; omega), hs, w64_succ (by omega)]
    congr 4
    rw [List.set_append_right _ _ (by omega), hll, Nat.sub_self, List.drop_eq_getElem_cons hi, List.set_cons_zero]
    simp
  · have := he ((gmk f (xs.take xs.length) k).1 : Int) ((gmk f (xs.take xs.length) k).2 ++ xs.drop xs.length) (by simp [gmk_len])
    rw [this]
    simp
theorem held_run {α : Type} (f : α → Nat → Nat × α) {xs : List α} {k : Nat} {body : Int × Int → Option ((Int × Int) ⊕ (Int ⊕ Int))} (hf : ∀ x k, k ≤ (f x k).1) (hb : (gmk f xs k).1 ≤ 1099511627776) (hl : xs.length ≤ 1099511627776)
    (h : ∀ (i : Nat) (hi : i < xs.length) (h2 : i < (gmk f xs k).2.length) (K : Nat), (f xs[i] K).1 ≤ 1099511627776 → (gmk f xs k).2[i] = (f xs[i] K).2 → body ((K : Int), (i : Int)) = some (.inl (((f xs[i] K).1 : Int), w64 ((i : Int) + 1))))
    (he : ∀ K : Int, body (K, (xs.length : Int)) = some (.inr (.inl K))) : whileM body gxFuel ((k : Int), 0) = some (.inl ((gmk f xs k).1 : Int)) := by
  refine while_run (fun i => (((gmk f (xs.take i) k).1 : Int), (i : Int))) _ xs.length (by simp [gmk]) (by omega) (fun i hi => ?_) ?_
  · have h2 : i < (gmk f xs k).2.length := by rw [gmk_len]; exact hi
    have hs := gmk_succ (f := f) hi k
    have hle := gmk_take_le hf xs k (i + 1)
    rw [hs] at hle
    rw [h i hi h2 _ (by simp only at hle; omega) (gmk_get hi k h2), hs, w64_succ (by omega)]
  · rw [he, List.take_length]
theorem gxIdx_same {α : Type} {xs : List α} {i : Nat} {a : α} (h : i < xs.length) : gxIdx (xs.set i a) (i : Int) = some a := by
  rw [gxIdx_nat (by simpa using h)]
  simp
theorem gmk_const {α : Type} {f : α → Nat → Nat × α} {W : Nat} (hf : ∀ x k, (f x k).1 = k + W) : ∀ (a : List α) (k : Nat), (gmk f a k).1 = k + W * a.length
  | [], k => by simp [gmk]
  | x :: r, k => by
    simp only [gmk, gmk_const hf r, hf, List.length_cons, Nat.mul_add, Nat.mul_one]
    omega
theorem nat_nlt (n : Nat) : decide ((n : Int) < 0) = false := by simp
theorem sz_simple {n left : Int} (h0 : 0 ≤ n ∧ n ≤ 9223372036854775807) (hl : -1 ≤ left ∧ left ≤ 1048576) : ∃ q, (bif decide (w64 (left - n) < 0) then some (-1) else some (w64 (left - n))) = some q ∧ (q < 0 ∨ (0 ≤ q ∧ q ≤ left ∧ n ≤ left - q)) := by
  rw [w64_id (by omega) (by omega)]
  by_cases hc : left - n < 0
  · exact ⟨-1, by simp [hc], Or.inl (by omega)⟩
  · exact ⟨left - n, by simp [hc], Or.inr (by omega)⟩

/-! ### Loops that choose, loops that look for a place -/
theorem while_filter {α β : Type} {xs : List α} (p : α → Bool) (f : α → β) {body : List β × Int → Option ((List β × Int) ⊕ List β)} (hl : xs.length ≤ 1099511627776)
    (h : ∀ (i : Nat) (hi : i < xs.length) (acc : List β), acc.length ≤ i → body (acc, (i : Int)) = some (.inl (bif p xs[i] then acc ++ [f xs[i]] else acc, w64 ((i : Int) + 1))))
    (he : ∀ acc, body (acc, (xs.length : Int)) = some (.inr acc)) : whileM body gxFuel ([], 0) = some ((xs.filter p).map f) := by
  refine while_run (fun i => (((xs.take i).filter p).map f, (i : Int))) _ xs.length (by simp) (by omega) (fun i hi => ?_) ?_
  · have hle : (((xs.take i).filter p).map f).length ≤ i := by
      rw [List.length_map]
      exact Nat.le_trans (List.length_filter_le _ _) (by simp; omega)
    rw [h i hi _ hle, w64_succ (by omega), List.take_add_one, List.getElem?_eq_getElem hi, Option.toList_some, List.filter_append, List.map_append]
    cases hp : p xs[i] <;> simp [hp]
  · rw [he, List.take_length]
theorem while_place {α : Type} {xs : List α} (p : α → Bool) {body : Int → Option (Int ⊕ Int)} (hl : xs.length ≤ 1099511627776)
    (h : ∀ (i : Nat) (hi : i < xs.length), body (i : Int) = some (bif p xs[i] then .inl (w64 ((i : Int) + 1)) else .inr (i : Int)))
    (he : body (xs.length : Int) = some (.inr (xs.length : Int))) : whileM body gxFuel 0 = some ((xs.takeWhile p).length : Int) := by
  have hk : (xs.takeWhile p).length ≤ xs.length := (List.takeWhile_prefix p).length_le
  refine while_run (fun i => (i : Int)) _ (xs.takeWhile p).length (by simp) (by omega) (fun i hi => ?_) ?_
  · have hi' : i < xs.length := by omega
    have hp : p xs[i] = true := by
      have h1 : (xs.takeWhile p)[i] = xs[i] := (List.takeWhile_prefix p).getElem hi
      have h2 := List.all_takeWhile (p := p) (l := xs)
      rw [List.all_eq_true] at h2
      rw [← h1]
      exact h2 _ (List.getElem_mem hi)
    rw [h i hi', hp, w64_succ (by omega)]
    rfl
  · by_cases hlt : (xs.takeWhile p).length < xs.length
    · have hp : p xs[(xs.takeWhile p).length] = false := by
        have h1 : xs = xs.takeWhile p ++ xs.dropWhile p := (List.takeWhile_append_dropWhile).symm
        cases hd : xs.dropWhile p with
        | nil => rw [hd, List.append_nil] at h1; rw [← h1] at hlt; omega
        | cons y r =>
          have h2 : p y = false := by
            have := List.head_dropWhile_not p (l := xs) (by rw [hd]; simp)
            simpa [hd] using this
          have h3 : xs[(xs.takeWhile p).length]? = some y := by
            conv => lhs; arg 1; rw [h1]
            rw [List.getElem?_append_right (Nat.le_refl _), Nat.sub_self, hd]
            rfl
          rw [List.getElem?_eq_getElem hlt] at h3
          rw [Option.some.inj h3]
          exact h2
      rw [h _ hlt, hp]
      rfl
    · rw [show (xs.takeWhile p).length = xs.length by omega, he]
theorem while_more {σ ρ : Type} {body : σ → Option (σ ⊕ ρ)} {r : ρ} : ∀ (n m : Nat) (s : σ), n ≤ m → whileM body n s = some r → whileM body m s = some r
  | 0, _, s, _, h => by simp [whileM] at h
  | n + 1, 0, s, hm, _ => by omega
  | n + 1, m + 1, s, hm, h => by
    simp only [whileM] at h ⊢
    split at h
    · exact h
    · rename_i hb
      first
        | exact while_more n m _ (by omega) h
        | exact h
    · exact h
theorem while_small {σ ρ : Type} {body : σ → Option (σ ⊕ ρ)} {r : ρ} {s : σ} (n : Nat) (hn : n ≤ 1000000) (h : whileM body n s = some r) : whileM body gxFuel s = some r :=
  while_more n gxFuel s (by unfold gxFuel; omega) h
theorem gxSlice_take {α : Type} {xs : List α} {k : Nat} (h : k ≤ xs.length) : gxSlice xs 0 (k : Int) = some (xs.take k) := by
  unfold gxSlice
  rw [if_pos ⟨by omega, by omega, by omega⟩]
  simp
theorem gxSlice_drop {α : Type} {xs : List α} {k : Nat} (h : k ≤ xs.length) : gxSlice xs (k : Int) (xs.length : Int) = some (xs.drop k) := by
  unfold gxSlice
  rw [if_pos ⟨by omega, by omega, by omega⟩]
  simp
/-! ### Insertion from the right -/
def insRev {α : Type} (lt : α → α → Bool) (x : α) : List α → List α
  | [] => [x]
  | y :: r => bif lt x y then y :: insRev lt x r else x :: y :: r
def insR {α : Type} (lt : α → α → Bool) (pre : List α) (x : α) : List α := (insRev lt x pre.reverse).reverse
def isortL {α : Type} (lt : α → α → Bool) (xs : List α) : List α := xs.foldl (insR lt) []
theorem inner_run {α : Type} (lt : α → α → Bool) {body : Int × List α → Option ((Int × List α) ⊕ List α)}
    (hstep : ∀ (j : Nat) (L : List α) (h1 : j + 1 < L.length), j ≤ 1099511627776 → body (((j + 1 : Nat) : Int), L) = some (bif lt L[j + 1] (L[j]'(by omega)) then .inl ((j : Int), (L.set (j + 1) (L[j]'(by omega))).set j L[j + 1]) else .inr L))
    (h0 : ∀ L, body (0, L) = some (.inr L)) (x : α) : ∀ (rp post : List α) (fuel : Nat), rp.length < fuel → rp.length ≤ 1099511627776 → whileM body fuel ((rp.length : Int), rp.reverse ++ x :: post) = some ((insRev lt x rp).reverse ++ post)
  | [], post, fuel + 1, _, _ => by
    have := h0 ([].reverse ++ x :: post)
    simp only [List.length_nil] at this ⊢
    simp only [whileM, show ((0 : Nat) : Int) = 0 from rfl, this]
    rfl
  | y :: r, post, fuel + 1, hf, hb => by
    have hl : r.length + 1 < ((y :: r).reverse ++ x :: post).length := by simp
    have e1 : ((y :: r).reverse ++ x :: post)[r.length + 1] = x := by
      rw [List.getElem_append_right (by simp)]
      simp
    have e0 : ((y :: r).reverse ++ x :: post)[r.length]'(by omega) = y := by
      rw [List.getElem_append_left (by simp)]
      simp
    have := hstep r.length _ hl (by simp at hb; omega)
    rw [e1, e0] at this
    simp only [whileM, List.length_cons, this]
    cases hxy : lt x y with
    | false =>
      simp only [cond_false, insRev, hxy]
      simp
    | true =>
      simp only [cond_true, insRev, hxy]
      have e2 : (((y :: r).reverse ++ x :: post).set (r.length + 1) y).set r.length x = r.reverse ++ x :: (y :: post) := by
        simp only [List.reverse_cons, List.append_assoc, List.cons_append, List.nil_append]
        rw [List.set_append_right _ _ (by simp), List.set_append_right _ _ (by simp)]
        simp
      rw [e2]
      have ih := inner_run lt hstep h0 x r (y :: post) fuel (by simp at hf; omega) (by simp at hb; omega)
      rw [ih]
      simp
theorem insRev_len {α : Type} (lt : α → α → Bool) (x : α) : ∀ l : List α, (insRev lt x l).length = l.length + 1
  | [] => rfl
  | y :: r => by
    simp only [insRev]
    cases lt x y <;> simp [insRev_len lt x r]
theorem insR_len {α : Type} (lt : α → α → Bool) (pre : List α) (x : α) : (insR lt pre x).length = pre.length + 1 := by simp [insR, insRev_len]
theorem isortL_snoc {α : Type} (lt : α → α → Bool) (xs : List α) (x : α) : isortL lt (xs ++ [x]) = insR lt (isortL lt xs) x := by simp [isortL]
theorem isortL_len {α : Type} (lt : α → α → Bool) (xs : List α) : (isortL lt xs).length = xs.length := by
  have : ∀ (ys acc : List α), (ys.foldl (insR lt) acc).length = acc.length + ys.length := by
    intro ys
    induction ys with
    | nil => intro acc; simp
    | cons y r ih => intro acc; rw [List.foldl_cons, ih, insR_len, List.length_cons]; omega
  simpa [isortL] using this xs []
theorem insRev_perm {α : Type} (lt : α → α → Bool) (x : α) : ∀ l : List α, (insRev lt x l).Perm (x :: l)
  | [] => List.Perm.refl _
  | y :: r => by
    simp only [insRev]
    cases lt x y with
    | false => exact List.Perm.refl _
    | true => exact ((insRev_perm lt x r).cons y).trans (List.Perm.swap x y r)
theorem insR_perm {α : Type} (lt : α → α → Bool) (pre : List α) (x : α) : (insR lt pre x).Perm (x :: pre) :=
  (List.reverse_perm _).trans ((insRev_perm lt x _).trans ((List.reverse_perm pre).cons x))
theorem isortL_perm {α : Type} (lt : α → α → Bool) (xs : List α) : (isortL lt xs).Perm xs := by
  have : ∀ (ys acc : List α), (ys.foldl (insR lt) acc).Perm (acc ++ ys) := by
    intro ys
    induction ys with
    | nil => intro acc; simp
    | cons y r ih =>
      intro acc
      rw [List.foldl_cons]
      refine (ih _).trans ?_
      refine ((insR_perm lt acc y).append_right r).trans ?_
      exact (List.perm_middle (l₁ := acc) (a := y) (l₂ := r)).symm
  simpa [isortL] using this xs []
/-- In the order of keys. -/
def ordered {α : Type} (key : α → Int) (l : List α) : Prop := l.Pairwise fun a b => key a ≤ key b
theorem insRev_ord {α : Type} (key : α → Int) (x : α) : ∀ l : List α, (l.Pairwise fun a b => key b ≤ key a) → (insRev (fun a b => decide (key a < key b)) x l).Pairwise fun a b => key b ≤ key a
  | [], _ => by simp [insRev]
  | y :: r, h => by
    rw [List.pairwise_cons] at h
    simp only [insRev]
    by_cases hxy : key x < key y
    · simp only [hxy, decide_true, cond_true, List.pairwise_cons]
      refine ⟨fun a ha => ?_, insRev_ord key x r h.2⟩
      rcases List.mem_cons.1 ((insRev_perm _ x r).mem_iff.1 ha) with rfl | ha
      · omega
      · exact h.1 a ha
    · simp only [hxy, decide_false, cond_false, List.pairwise_cons]
      refine ⟨fun a ha => ?_, h.1, h.2⟩
      rcases List.mem_cons.1 ha with rfl | ha
      · omega
      · have := h.1 a ha; omega
theorem insR_ord {α : Type} (key : α → Int) {pre : List α} (h : ordered key pre) (x : α) : ordered key (insR (fun a b => decide (key a < key b)) pre x) := by
  unfold ordered insR
  rw [List.pairwise_reverse]
  exact insRev_ord key x _ (by rw [List.pairwise_reverse]; exact h)
theorem isortL_ord {α : Type} (key : α → Int) (xs : List α) : ordered key (isortL (fun a b => decide (key a < key b)) xs) := by
  have : ∀ (ys acc : List α), ordered key acc → ordered key (ys.foldl (insR (fun a b => decide (key a < key b))) acc) := by
    intro ys
    induction ys with
    | nil => intro acc h; exact h
    | cons y r ih => intro acc h; exact ih _ (insR_ord key h y)
  exact this xs [] (by simp [ordered])
theorem ordered_uniq {α : Type} (key : α → Int) : ∀ {A B : List α}, (A.Pairwise fun a b => key a < key b) → ordered key B → A.Perm B → A = B
  | [], B, _, _, hp => (List.Perm.nil_eq hp)
  | a :: A, [], _, _, hp => by have := hp.length_eq; simp at this
  | a :: A, b :: B, hA, hB, hp => by
    unfold ordered at hB
    rw [List.pairwise_cons] at hA hB
    have hab : a = b := by
      have h1 : a ∈ b :: B := hp.mem_iff.1 (by simp)
      have h2 : b ∈ a :: A := hp.mem_iff.2 (by simp)
      rcases List.mem_cons.1 h1 with h1 | h1
      · exact h1
      · rcases List.mem_cons.1 h2 with h2 | h2
        · exact h2.symm
        · have := hA.1 b h2
          have := hB.1 a h1
          omega
    subst hab
    rw [ordered_uniq key hA.2 hB.2 (List.Perm.cons_inv hp)]
theorem outer_run {α : Type} (lt : α → α → Bool) {xs : List α} {body : Int × List α → Option ((Int × List α) ⊕ List α)} (hl : xs.length ≤ 1099511627776)
    (h : ∀ (i : Nat) (pre post : List α) (x : α), pre.length = i → i < xs.length → body ((i : Int), pre ++ x :: post) = some (.inl (w64 ((i : Int) + 1), insR lt pre x ++ post)))
    (he : ∀ (i : Int) (L : List α), (xs.length : Int) ≤ i → body (i, L) = some (.inr L)) : whileM body gxFuel (1, xs) = some (isortL lt xs) := by
  cases xs with
  | nil =>
    refine while_small 1 (by omega) ?_
    simp only [whileM, he 1 [] (by simp)]
    rfl
  | cons x0 r =>
    refine while_run (fun i => (((i + 1 : Nat) : Int), isortL lt ((x0 :: r).take (i + 1)) ++ (x0 :: r).drop (i + 1))) _ r.length (by simp [isortL, insR, insRev]) (by simp at hl; omega) (fun i hi => ?_) ?_
    · have hi' : i + 1 < (x0 :: r).length := by simp; omega
      have hlen : (isortL lt ((x0 :: r).take (i + 1))).length = i + 1 := by rw [isortL_len]; simp; omega
      rw [List.drop_eq_getElem_cons hi', h (i + 1) _ _ _ hlen hi', w64_succ (by simp at hl; omega), ← isortL_snoc]
      congr 4
      conv => rhs; rw [List.take_add_one, List.getElem?_eq_getElem hi', Option.toList_some]
    · have := he ((r.length + 1 : Nat) : Int) (isortL lt ((x0 :: r).take (r.length + 1)) ++ (x0 :: r).drop (r.length + 1)) (by simp)
      rw [this]
      simp

end Go.Proofs.Ytphinfkojhecdaa
