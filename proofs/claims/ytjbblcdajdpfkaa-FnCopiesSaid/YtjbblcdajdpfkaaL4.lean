/- Plain laws of the models: no program in sight. -/
import Derived.Test.YtjbblcdajdpfkaaM
import Derived.Test.YtjbblcdajdpfkaaL3
set_option linter.unusedVariables false
set_option linter.unusedSimpArgs false
set_option maxHeartbeats 4000000
namespace Go.Proofs.Ytjbblcdajdpfkaa
open Go.Gx
/-! ### Marks, in general -/
/-- Each element gets numbers from k on. -/
def gmk {α : Type} (f : α → Nat → Nat × α) : List α → Nat → Nat × List α
  | [], k => (k, [])
  | x :: r, k => ((gmk f r (f x k).1).1, (f x k).2 :: (gmk f r (f x k).1).2)
theorem gmk_app {α : Type} {f : α → Nat → Nat × α} : ∀ (a b : List α) (k : Nat), gmk f (a ++ b) k = ((gmk f b (gmk f a k).1).1, (gmk f a k).2 ++ (gmk f b (gmk f a k).1).2)
  | [], b, k => rfl
  | x :: r, b, k => by simp only [List.cons_append, gmk, gmk_app r b]
theorem gmk_len {α : Type} {f : α → Nat → Nat × α} : ∀ (a : List α) (k : Nat), (gmk f a k).2.length = a.length
  | [], k => rfl
  | x :: r, k => by simp only [gmk, List.length_cons, gmk_len r]
theorem gmk_succ {α : Type} {f : α → Nat → Nat × α} {xs : List α} {i : Nat} (h : i < xs.length) (k : Nat) : gmk f (xs.take (i + 1)) k = ((f xs[i] (gmk f (xs.take i) k).1).1, (gmk f (xs.take i) k).2 ++ [(f xs[i] (gmk f (xs.take i) k).1).2]) := by
  rw [List.take_add_one, List.getElem?_eq_getElem h, Option.toList_some, gmk_app]
  rfl
theorem gmk_mono {α : Type} {f : α → Nat → Nat × α} (hf : ∀ x k, k ≤ (f x k).1) : ∀ (a : List α) (k : Nat), k ≤ (gmk f a k).1
  | [], k => Nat.le_refl _
  | x :: r, k => Nat.le_trans (hf x k) (gmk_mono hf r _)
theorem gmk_take_le {α : Type} {f : α → Nat → Nat × α} (hf : ∀ x k, k ≤ (f x k).1) (xs : List α) (k i : Nat) : (gmk f (xs.take i) k).1 ≤ (gmk f xs k).1 := by
  have : gmk f xs k = gmk f (xs.take i ++ xs.drop i) k := by rw [List.take_append_drop]
  rw [this, gmk_app]
  exact gmk_mono hf _ _
theorem gmk_get {α : Type} {f : α → Nat → Nat × α} {xs : List α} {i : Nat} (h : i < xs.length) (k : Nat) (h2 : i < (gmk f xs k).2.length) : (gmk f xs k).2[i] = (f xs[i] (gmk f (xs.take i) k).1).2 := by
  have e : gmk f xs k = gmk f (xs.take (i + 1) ++ xs.drop (i + 1)) k := by rw [List.take_append_drop]
  have h3 : (gmk f xs k).2 = (gmk f (xs.take i) k).2 ++ ([(f xs[i] (gmk f (xs.take i) k).1).2] ++ (gmk f (xs.drop (i + 1)) (gmk f (xs.take (i + 1)) k).1).2) := by
    rw [e, gmk_app, gmk_succ h]
    simp
  have hl : (gmk f (xs.take i) k).2.length = i := by rw [gmk_len]; simp; omega
  have : (gmk f xs k).2[i]? = some (f xs[i] (gmk f (xs.take i) k).1).2 := by
    rw [h3, List.getElem?_append_right (by omega), hl, Nat.sub_self]
    rfl
  rw [List.getElem?_eq_getElem h2] at this
  exact Option.some.inj this
theorem mark_run {α : Type} (f : α → Nat → Nat × α) {xs : List α} {k : Nat} {body : Int × Int × List α → Option ((Int × Int × List α) ⊕ (Int × List α))} (hf : ∀ x k, k ≤ (f x k).1) (hb : (gmk f xs k).1 ≤ 1099511627776) (hl : xs.length ≤ 1099511627776)
    (h : ∀ (i : Nat) (hi : i < xs.length) (K : Nat) (L : List α) (hL : i < L.length), (f xs[i] K).1 ≤ 1099511627776 → L[i] = xs[i] → L.length = xs.length → body ((K : Int), (i : Int), L) = some (.inl (((f xs[i] K).1 : Int), w64 ((i : Int) + 1), L.set i (f xs[i] K).2)))
    (he : ∀ (K : Int) (L : List α), L.length = xs.length → body (K, (xs.length : Int), L) = some (.inr (K, L))) : whileM body gxFuel ((k : Int), 0, xs) = some (((gmk f xs k).1 : Int), (gmk f xs k).2) := by
  refine while_run (fun i => (((gmk f (xs.take i) k).1 : Int), (i : Int), (gmk f (xs.take i) k).2 ++ xs.drop i)) _ xs.length (by simp [gmk]) (by omega) (fun i hi => ?_) ?_
  · have hll : (gmk f (xs.take i) k).2.length = i := by rw [gmk_len]; simp; omega
    have hL : i < ((gmk f (xs.take i) k).2 ++ xs.drop i).length := by simp [hll]; omega
    have hs := gmk_succ (f := f) hi k
    have hle := gmk_take_le hf xs k (i + 1)
    rw [hs] at hle
    rw [h i hi _ _ hL (by simp only at hle; omega) (by rw [List.getElem_append_right (by omega)]; simp [hll]) (by simp [hll]; omega), hs, w64_succ (by omega)]
    congr 4
    rw [List.set_append_right _ _ (by omega), hll, Nat.sub_self, List.drop_eq_getElem_cons hi, List.set_cons_zero]
    simp
  · have := he ((gmk f (xs.take xs.length) k).1 : Int) ((gmk f (xs.take xs.length) k).2 ++ xs.drop xs.length) (by simp [gmk_len])
    rw [this]
    simp
theorem held_run {α : Type} (f : α → Nat → Nat × α) {xs : List α} {k : Nat} {body : Int × Int → Option ((Int × Int) ⊕ (Int ⊕ Int))} (hf : ∀ x k, k ≤ (f x k).1) (hb : (gmk f xs k).1 ≤ 1099511627776) (hl : xs.length ≤ 1099511627776)
    (h : ∀ (i : Nat) (hi : i < xs.length) (h2 : i < (gmk f xs k).2.length) (K : Nat), (f xs[i] K).1 ≤ 1099511627776 → (gmk f xs k).2[i] = (f xs[i] K).2 → body ((K : Int), (i : Int)) = some (.inl (((f xs[i] K).1 : Int), w64 ((i : Int) + 1))))
    (he : ∀ K : Int, body (K, (xs.length : Int)) = some (.inr (.inl K))) : whileM body gxFuel ((k : Int), 0) = some (.inl ((gmk f xs k).1 : Int)) := by
  refine while_run (fun i => (((gmk f (xs.take i) k).1 : Int), (i : Int))) _ xs.length (by simp [gmk]) (by omega) (fun i hi => ?_) ?_
  · have h2 : i < (gmk f xs k).2.length := by rw [gmk_len]; exact hi
    have hs := gmk_succ (f := f) hi k
    have hle := gmk_take_le hf xs k (i + 1)
    rw [hs] at hle
    rw [h i hi h2 _ (by simp only at hle; omega) (gmk_get hi k h2), hs, w64_succ (by omega)]
  · rw [he, List.take_length]
theorem gxIdx_same {α : Type} {xs : List α} {i : Nat} {a : α} (h : i < xs.length) : gxIdx (xs.set i a) (i : Int) = some a := by
  rw [gxIdx_nat (by simpa using h)]
  simp
theorem gmk_const {α : Type} {f : α → Nat → Nat × α} {W : Nat} (hf : ∀ x k, (f x k).1 = k + W) : ∀ (a : List α) (k : Nat), (gmk f a k).1 = k + W * a.length
  | [], k => by simp [gmk]
  | x :: r, k => by
    simp only [gmk, gmk_const hf r, hf, List.length_cons, Nat.mul_add, Nat.mul_one]
    omega
theorem nat_nlt (n : Nat) : decide ((n : Int) < 0) = false := by simp
theorem sz_simple {n left : Int} (h0 : 0 ≤ n ∧ n ≤ 9223372036854775807) (hl : -1 ≤ left ∧ left ≤ 1048576) : ∃ q, (bif decide (w64 (left - n) < 0) then some (-1) else some (w64 (left - n))) = some q ∧ (q < 0 ∨ (0 ≤ q ∧ q ≤ left ∧ n ≤ left - q)) := by
  rw [w64_id (by omega) (by omega)]
  by_cases hc : left - n < 0
  · exact ⟨-1, by simp [hc], Or.inl (by omega)⟩
  · exact ⟨left - n, by simp [hc], Or.inr (by omega)⟩
/-! ### Loops with an invariant -/
theorem while_inv_fuel {σ ρ : Type} {body : σ → Option (σ ⊕ ρ)} (R : Nat → σ → Prop) (Q : ρ → Prop) (n : Nat) (hstep : ∀ i s, i < n → R i s → (∃ s', body s = some (.inl s') ∧ R (i + 1) s') ∨ (∃ r, body s = some (.inr r) ∧ Q r)) (hend : ∀ s, R n s → ∃ r, body s = some (.inr r) ∧ Q r) : ∀ (k i fuel : Nat) (s : σ), i + k = n → k < fuel → R i s → ∃ r, whileM body fuel s = some r ∧ Q r
  | 0, i, fuel, s, hi, hf, hR => by
    obtain ⟨m, rfl⟩ : ∃ m, fuel = m + 1 := ⟨fuel - 1, by omega⟩
    obtain ⟨r, hr, hq⟩ := hend s (by rw [← hi]; exact hR)
    exact ⟨r, by simp only [whileM, hr], hq⟩
  | k + 1, i, fuel, s, hi, hf, hR => by
    obtain ⟨m, rfl⟩ : ∃ m, fuel = m + 1 := ⟨fuel - 1, by omega⟩
    rcases hstep i s (by omega) hR with ⟨s', hs, hR'⟩ | ⟨r, hr, hq⟩
    · obtain ⟨r, hr, hq⟩ := while_inv_fuel R Q n hstep hend k (i + 1) m s' (by omega) (by omega) hR'
      exact ⟨r, by simp only [whileM, hs]; exact hr, hq⟩
    · exact ⟨r, by simp only [whileM, hr], hq⟩
theorem while_inv {σ ρ : Type} {body : σ → Option (σ ⊕ ρ)} {s0 : σ} (R : Nat → σ → Prop) (Q : ρ → Prop) (n : Nat) (hn : n ≤ 4611686018427387904) (h0 : R 0 s0) (hstep : ∀ i s, i < n → R i s → (∃ s', body s = some (.inl s') ∧ R (i + 1) s') ∨ (∃ r, body s = some (.inr r) ∧ Q r)) (hend : ∀ s, R n s → ∃ r, body s = some (.inr r) ∧ Q r) : ∃ r, whileM body gxFuel s0 = some r ∧ Q r :=
  while_inv_fuel R Q n hstep hend n 0 gxFuel s0 (by omega) (by unfold gxFuel; omega) h0
theorem while_map {β : Type} (F : Nat → β) {n : Nat} {body : List β × Int → Option ((List β × Int) ⊕ List β)} (hl : n ≤ 1099511627776)
    (h : ∀ (i : Nat) (hi : i < n) (acc : List β), acc.length = i → body (acc, (i : Int)) = some (.inl (acc ++ [F i], w64 ((i : Int) + 1))))
    (he : ∀ acc : List β, acc.length = n → body (acc, (n : Int)) = some (.inr acc)) : whileM body gxFuel ([], 0) = some ((List.range n).map F) := by
  refine while_run (fun i => ((List.range i).map F, (i : Int))) _ n (by simp) (by omega) (fun i hi => ?_) (he _ (by simp))
  rw [h i hi _ (by simp), w64_succ (by omega), List.range_succ, List.map_append]
  rfl
/-! ### Rounds with stores -/
theorem while_first {σ ρ : Type} {body : σ → Option (σ ⊕ ρ)} {s0 : σ} (st : Nat → σ) (p : Nat → Bool) (hit : Nat → ρ) (r : ρ) (n : Nat) (h0 : s0 = st 0) (hn : n ≤ 4611686018427387904) (h : ∀ i, i < n → body (st i) = some (bif p i then .inr (hit i) else .inl (st (i + 1)))) (he : body (st n) = some (.inr r)) :
    whileM body gxFuel s0 = some (match (List.range n).find? p with
      | some i => hit i
      | none => r) := by
  cases hf : (List.range n).find? p with
  | none =>
    rw [List.find?_eq_none] at hf
    refine while_run st r n h0 hn (fun i hi => ?_) he
    have : p i = false := by
      have := hf i (List.mem_range.2 hi)
      simpa using this
    rw [h i hi, this]
    rfl
  | some i =>
    rw [List.find?_range_eq_some] at hf
    obtain ⟨h1, h2, h3⟩ := hf
    have hi : i < n := List.mem_range.1 h2
    refine while_run st (hit i) i h0 (by omega) (fun j hj => ?_) (by rw [h i hi, h1]; rfl)
    have : p j = false := by
      have := h3 j hj
      simpa using this
    rw [h j (by omega), this]
    rfl
theorem find_any (p : Nat → Bool) (n : Nat) : (match (List.range n).find? p with | some _ => true | none => false) = (List.range n).any p := by
  cases hf : (List.range n).find? p with
  | none =>
    rw [List.find?_eq_none] at hf
    symm
    rw [List.any_eq_false]
    exact hf
  | some i =>
    symm
    rw [List.any_eq_true]
    exact ⟨i, List.mem_of_find?_eq_some hf, List.find?_some hf⟩
theorem getD_at {α : Type} {xs : List α} {i : Nat} {z : α} (h : i < xs.length) : xs.getD i z = xs[i] := by
  rw [List.getD_eq_getElem?_getD, List.getElem?_eq_getElem h]; rfl
abbrev L2 := List (List Store)
def totS : List (List Store) → Nat
  | [] => 0
  | l :: r => l.length + totS r
theorem totS_app : ∀ a b : List (List Store), totS (a ++ b) = totS a + totS b
  | [], b => by simp [totS]
  | x :: r, b => by simp only [List.cons_append, totS, totS_app r b]; omega
theorem totS_mem {xs : List (List Store)} {b : List Store} (h : b ∈ xs) : b.length ≤ totS xs := by
  obtain ⟨s, t, rfl⟩ := List.append_of_mem h
  rw [totS_app]
  simp only [totS]
  omega
def fitS (xs : List (List Store)) : Prop := xs.length ≤ 1048576 ∧ totS xs ≤ 1048576
theorem fitS_at {xs : List (List Store)} (hf : fitS xs) {i : Nat} (hi : i < xs.length) : xs[i].length ≤ 1048576 := by
  have := totS_mem (List.getElem_mem hi)
  have := hf.2
  omega
theorem szStoreS_ok (xs : List Store) (left : Int) (h : xs.length ≤ 9223372036854775807) (hl : -1 ≤ left ∧ left ≤ 1048576) : M.l_szStoreS xs left = some (if left < xs.length then -1 else left - xs.length) := by
  unfold M.l_szStoreS
  rw [w64_id (by omega) (by omega)]
  by_cases hc : left < xs.length
  · have : left - (xs.length : Int) < 0 := by omega
    simp [hc, this]
  · have : ¬ (left - (xs.length : Int) < 0) := by omega
    simp [hc, this]
theorem szStoreSS_ex (xs : List (List Store)) (left : Int) (h : okL (okL okStore) xs) (hl : -1 ≤ left ∧ left ≤ 1048576) : ∃ q, M.l_szStoreSS xs left = some q ∧ (q < 0 ∨ (0 ≤ q ∧ q ≤ left ∧ fitS xs)) := by
  unfold M.l_szStoreSS
  have hx := h.1
  rw [w64_id (by omega) (by omega)]
  by_cases hc : left - (xs.length : Int) < 0
  · exact ⟨-1, by simp [hc], Or.inl (by omega)⟩
  · simp only [hc, decide_false, cond_false]
    have := while_inv (body := fun s5846 : Int × Int =>
      bif decide (s5846.2 < (xs.length : Int)) then (Option.bind (gxIdx xs s5846.2) fun y5858 =>
      Option.bind (M.l_szStoreS y5858 s5846.1) fun r5866 =>
      bif decide (r5866 < 0) then some (.inr (Sum.inr (α := Int) (-1)))
      else some (.inl (r5866, w64 (s5846.2 + 1))))
      else some (.inr (.inl s5846.1))) (s0 := (left - (xs.length : Int), 0)) (fun i s => s.2 = (i : Int) ∧ 0 ≤ s.1 ∧ s.1 + totS (xs.take i) = left - xs.length) (fun q => q = .inr (-1) ∨ ∃ z, q = .inl z ∧ 0 ≤ z ∧ z + totS xs = left - xs.length) xs.length (by omega) (by simp [totS]; omega) (fun i s hi hR => by
        obtain ⟨a, b⟩ := s
        obtain ⟨rfl, h0, h1⟩ := hR
        simp only at h0 h1
        have e0 : ((i : Int) < (xs.length : Int)) := by omega
        have hs : totS (xs.take (i + 1)) = totS (xs.take i) + xs[i].length := by
          rw [List.take_add_one, List.getElem?_eq_getElem hi, Option.toList_some, totS_app]; simp [totS]
        simp only [e0, decide_true, cond_true, gxIdx_nat hi, Option.bind_some, szStoreS_ok xs[i] a (h.2 _ (List.getElem_mem hi)).1 (by omega), w64_succ (show i ≤ 4611686018427387904 by omega)]
        by_cases hlt : a < xs[i].length
        · simp only [hlt, if_true]
          exact Or.inr ⟨_, rfl, Or.inl rfl⟩
        · have hn : ¬ (a - (xs[i].length : Int) < 0) := by omega
          simp only [hlt, if_false, hn, decide_false, cond_false]
          exact Or.inl ⟨_, rfl, rfl, by simp only; omega, by simp only; omega⟩) (fun s hR => by
        obtain ⟨a, b⟩ := s
        obtain ⟨rfl, h0, h1⟩ := hR
        rw [List.take_length] at h1
        simp only [Int.lt_irrefl, decide_false, cond_false]
        exact ⟨_, rfl, Or.inr ⟨a, rfl, h0, h1⟩⟩)
    obtain ⟨q, hq, hq2⟩ := this
    rw [hq]
    rcases hq2 with rfl | ⟨z, rfl, h0, h1⟩
    · exact ⟨-1, rfl, Or.inl (by omega)⟩
    · exact ⟨z, rfl, Or.inr ⟨h0, by omega, by omega, by omega⟩⟩
theorem toStoreS_id (xs : List Store) (h : xs.length ≤ 1099511627776) : M.l_toStoreS xs = some xs := by
  unfold M.l_toStoreS
  rw [gxMake_nat (by omega), Option.bind_some, while_run (fun i => ((i : Int), taken xs (⟨0, 0⟩ : Store) i)) xs xs.length (by simp [taken_zero]) (by omega)]
  · rfl
  · intro i hi
    have h1 : ((i : Int) < (xs.length : Int)) := by omega
    have h2 : i < (taken xs (⟨0, 0⟩ : Store) i).length := by rw [taken_length (by omega)]; exact hi
    simp [h1, gxIdx_nat hi, gxIdx_nat h2, M.l_toStore, w64_succ (show i ≤ 4611686018427387904 by omega), taken_set hi]
  · simp [taken_all]
theorem toStoreSS_id (xs : List (List Store)) (hf : fitS xs) : M.l_toStoreSS xs = some xs := by
  have h := hf.1
  unfold M.l_toStoreSS
  rw [gxMake_nat (by omega), Option.bind_some, while_run (fun i => ((i : Int), taken xs ([] : List Store) i)) xs xs.length (by simp [taken_zero]) (by omega)]
  · rfl
  · intro i hi
    have h1 : ((i : Int) < (xs.length : Int)) := by omega
    have h2 : i < (taken xs ([] : List Store) i).length := by rw [taken_length (by omega)]; exact hi
    have h3 := fitS_at hf hi
    simp [h1, gxIdx_nat hi, gxIdx_nat h2, toStoreS_id xs[i] (by omega), w64_succ (show i ≤ 4611686018427387904 by omega), taken_set hi]
  · simp [taken_all]
theorem eqStore_refl (x : Store) : M.l_eqStore x x = some true := by unfold M.l_eqStore; simp
theorem eqStoreS_refl (xs : List Store) (h : xs.length ≤ 4611686018427387904) : M.l_eqStoreS xs xs = some true := by
  unfold M.l_eqStoreS
  rw [while_run (fun i => (i : Int)) (Sum.inl ()) xs.length (by simp) h]
  · simp
  · intro i hi
    have h1 : ((i : Int) < (xs.length : Int)) := by omega
    simp [h1, gxIdx_nat hi, eqStore_refl, w64_succ (show i ≤ 4611686018427387904 by omega)]
  · simp
theorem eqStoreSS_refl (xs : List (List Store)) (hf : fitS xs) : M.l_eqStoreSS xs xs = some true := by
  have h := hf.1
  unfold M.l_eqStoreSS
  rw [while_run (fun i => (i : Int)) (Sum.inl ()) xs.length (by simp) (by omega)]
  · simp
  · intro i hi
    have h1 : ((i : Int) < (xs.length : Int)) := by omega
    have h3 := fitS_at hf hi
    simp [h1, gxIdx_nat hi, eqStoreS_refl xs[i] (by omega), w64_succ (show i ≤ 4611686018427387904 by omega)]
  · simp
def mkStore (x : Store) (k : Nat) : Nat × Store := (k + 2, ⟨((k : Nat) : Int), ((k + 1 : Nat) : Int)⟩)
theorem markStoreS_ok (xs : List Store) (k : Nat) (h : k + 2 * xs.length ≤ 1099511627776) : M.l_markStoreS xs k = some (((gmk mkStore xs k).1 : Int), (gmk mkStore xs k).2) := by
  have hf : ∀ (x : Store) (k : Nat), k ≤ (mkStore x k).1 := fun x k => by simp only [mkStore]; omega
  have hc : (gmk mkStore xs k).1 = k + 2 * xs.length := gmk_const (fun _ _ => rfl) xs k
  unfold M.l_markStoreS
  rw [mark_run mkStore hf (by omega) (by omega)]
  · rfl
  · intro i hi K L hL hK hLi hLl
    have h1 : ((i : Int) < (L.length : Int)) := by omega
    have hK : K + 2 ≤ 1099511627776 := hK
    simp only [h1, decide_true, cond_true, gxIdx_nat hL, gxIdx_same hL, List.set_set, Option.bind_some, Int.toNat_natCast, w64_succ (show K ≤ 4611686018427387904 by omega), w64_succ (show K + 1 ≤ 4611686018427387904 by omega), Nat.add_assoc, Nat.reduceAdd, mkStore]
    all_goals rfl
  · intro K L hL
    simp only [hL, Int.lt_irrefl, decide_false, cond_false]
def mkStoreS (l : List Store) (k : Nat) : Nat × List Store := gmk mkStore l k
theorem gmk_storeS : ∀ (a : List (List Store)) (k : Nat), (gmk mkStoreS a k).1 = k + 2 * totS a
  | [], k => by simp [gmk, totS]
  | x :: r, k => by
    have hc : (gmk mkStore x k).1 = k + 2 * x.length := gmk_const (fun _ _ => rfl) x k
    simp only [gmk, gmk_storeS r, mkStoreS, hc, totS]
    omega
theorem markStoreSS_held (xs : List (List Store)) (k : Nat) (hf : fitS xs) (h : k ≤ 1099505336320) : ∃ (n : Nat) (m : List (List Store)), M.l_markStoreSS xs k = some ((n : Int), m) ∧ True ∧ k ≤ n ∧ n = k + 2 * totS xs := by
  have hfm : ∀ (x : List Store) (k : Nat), k ≤ (mkStoreS x k).1 := fun x k => by
    have hc : (gmk mkStore x k).1 = k + 2 * x.length := gmk_const (fun _ _ => rfl) x k
    simp only [mkStoreS, hc]; omega
  have hc := gmk_storeS xs k
  have hf1 := hf.1
  have hf2 := hf.2
  refine ⟨(gmk mkStoreS xs k).1, (gmk mkStoreS xs k).2, ?_, trivial, gmk_mono hfm _ _, hc⟩
  unfold M.l_markStoreSS
  rw [mark_run mkStoreS hfm (by omega) (by omega)]
  · rfl
  · intro i hi K L hL hK hLi hLl
    have h1 : ((i : Int) < (L.length : Int)) := by omega
    have hc2 : (gmk mkStore xs[i] K).1 = K + 2 * xs[i].length := gmk_const (fun _ _ => rfl) _ K
    have hK : (gmk mkStore xs[i] K).1 ≤ 1099511627776 := hK
    simp only [h1, decide_true, cond_true, gxIdx_nat hL, Option.bind_some, Int.toNat_natCast, hLi, markStoreS_ok xs[i] K (by omega), mkStoreS]
    all_goals rfl
  · intro K L hL
    simp only [hL, Int.lt_irrefl, decide_false, cond_false]
theorem szCopying_ex (x : Copying) (left : Int) (hx : okCopying x) (hl : -1 ≤ left ∧ left ≤ 1048576) : ∃ q, M.l_szCopying x left = some q ∧ (q < 0 ∨ (0 ≤ q ∧ q ≤ left ∧ fits x 1048576)) := by
  obtain ⟨⟨h1, _⟩, ⟨h2, _⟩, ⟨h3, _⟩⟩ := hx
  unfold M.l_szCopying
  rw [szIntS_ok _ _ h1 (by omega), Option.bind_some]
  by_cases c1 : left < x.Memory.length
  · exact ⟨-1, by simp [c1], Or.inl (by omega)⟩
  · have d1 : ¬ (left - (x.Memory.length : Int) < 0) := by omega
    simp only [c1, if_false, d1, decide_false, cond_false]
    rw [szIntS_ok _ _ h2 (by omega), Option.bind_some]
    by_cases c2 : left - x.Memory.length < x.Copy.length
    · exact ⟨-1, by simp [c2], Or.inl (by omega)⟩
    · have d2 : ¬ (left - (x.Memory.length : Int) - x.Copy.length < 0) := by omega
      simp only [c2, if_false, d2, decide_false, cond_false]
      rw [szBoolS_ok _ _ h3 (by omega), Option.bind_some]
      by_cases c3 : left - x.Memory.length - x.Copy.length < x.Dirty.length
      · exact ⟨-1, by simp [c3], Or.inl (by omega)⟩
      · have d3 : ¬ (left - (x.Memory.length : Int) - x.Copy.length - x.Dirty.length < 0) := by omega
        simp only [c3, if_false, d3, decide_false, cond_false]
        exact ⟨_, rfl, Or.inr ⟨by omega, by omega, by omega, by omega, by omega⟩⟩
theorem toCopying_idf (x : Copying) (h : fits x 1048576) : M.l_toCopying x = some x := toCopying_id x (fits_more h)
theorem eqCopying_reflf (x : Copying) (h : fits x 1048576) : M.l_eqCopying x x = some true := eqCopying_refl x (fits_more h)
theorem markCopying_held (x : Copying) (k : Nat) (hf : fits x 1048576) (h : k ≤ 1099505336320) : ∃ (n : Nat) (m : List Int × List Int × List Bool), M.l_markCopying x k = some ((n : Int), m) ∧ M.l_heldCopying ⟨m.1, m.2.1, m.2.2⟩ k = some (n : Int) ∧ k ≤ n ∧ n ≤ k + 3145728 := by
  have ht := fits_total hf
  exact ⟨k + total x, _, markCopying_ok x k (by omega), heldCopying_ok x k (by omega), by omega, by omega⟩
/-! the runs -/
def lensC (x : Copying) : Prop := 1 ≤ x.Memory.length ∧ x.Memory.length ≤ 12 ∧ x.Copy.length = x.Memory.length ∧ x.Dirty.length = x.Memory.length
theorem lensC_fits {x : Copying} (h : lensC x) : fits x 1048576 := by
  unfold lensC at h
  exact ⟨by omega, by omega, by omega⟩
def roundC (x : Copying) (m : Int) : Copying := ⟨x.Memory, (rd x m x.Memory.length).2.1, (rd x m x.Memory.length).2.2⟩
def cntC (x : Copying) (m : Int) : Int := ((rd x m x.Memory.length).1 : Int)
def putAll (x : Copying) (l : List Store) : Copying := l.foldl put x
theorem roundC_len {x : Copying} (m : Int) (h : lensC x) : lensC (roundC x m) ∧ (roundC x m).Memory.length = x.Memory.length := by
  have h2 := rd_lens x m x.Memory.length
  exact ⟨⟨h.1, h.2.1, h2.2.1.trans h.2.2.1, h2.2.2.trans h.2.2.2⟩, rfl⟩
theorem put_len {x : Copying} (p : Store) (h : lensC x) : lensC (put x p) ∧ (put x p).Memory.length = x.Memory.length := by
  have hm : (put x p).Memory.length = x.Memory.length := by simp only [put, List.length_set]
  have hd : (put x p).Dirty.length = x.Dirty.length := by simp only [put, List.length_set]
  exact ⟨⟨by rw [hm]; exact h.1, by rw [hm]; exact h.2.1, by rw [hm]; exact h.2.2.1, by rw [hm, hd]; exact h.2.2.2⟩, hm⟩
theorem putAll_len {x : Copying} (l : List Store) (h : lensC x) : lensC (putAll x l) ∧ (putAll x l).Memory.length = x.Memory.length := by
  unfold putAll
  induction l generalizing x with
  | nil => exact ⟨h, rfl⟩
  | cons p r ih =>
    have h1 := put_len p h
    have h2 := ih h1.1
    exact ⟨h2.1, h2.2.trans h1.2⟩
theorem canStore_same {x y : Copying} (h : y.Memory.length = x.Memory.length) (p : Store) : canStore y p = canStore x p := by
  unfold canStore
  rw [h]
theorem putAll_take {x : Copying} {l : List Store} {i : Nat} (hi : i < l.length) : putAll x (l.take (i + 1)) = put (putAll x (l.take i)) l[i] := by
  unfold putAll
  rw [List.take_add_one, List.getElem?_eq_getElem hi, Option.toList_some, List.foldl_append]
  rfl
def okList (c : Copying) (l : List Store) : Bool := l.all (canStore c) && decide ((l.length : Int) ≤ 12)
def okLists (c : Copying) (ls : List (List Store)) : Bool := ls.all (okList c) && decide ((ls.length : Int) ≤ 8)
theorem all_range {α : Type} (xs : List α) (z : α) (p : α → Bool) : (List.range xs.length).all (fun i => p (xs.getD i z)) = xs.all p := by
  rw [Bool.eq_iff_iff, List.all_eq_true, List.all_eq_true]
  constructor
  · intro h x hx
    obtain ⟨i, hi, rfl⟩ := List.mem_iff_getElem.1 hx
    have := h i (List.mem_range.2 hi)
    rwa [getD_at hi] at this
  · intro h i hi
    have hi := List.mem_range.1 hi
    rw [getD_at hi]
    exact h _ (List.getElem_mem hi)
theorem s_storesOk (c : Copying) (ls : List (List Store)) (hf : fitS ls) : M.s_l19Stores c ls = some (okLists c ls) := by
  have hl := hf.1
  unfold M.s_l19Stores okLists
  rw [while_all (fun i => (i : Int)) (fun i => okList c (ls.getD i [])) (.inr false) (.inl ()) ls.length (by simp) (by omega)]
  · rw [all_range ls [] (okList c)]
    cases ls.all (okList c) <;> rfl
  · intro i hi
    have e0 : ((i : Int) < (ls.length : Int)) := by omega
    have hil := fitS_at hf hi
    rw [getD_at hi]
    unfold okList
    simp only [e0, decide_true, cond_true, gxIdx_nat hi, Option.bind_some, w64_succ (show i ≤ 4611686018427387904 by omega)]
    rw [while_all (fun i => (i : Int)) (fun k => canStore c (ls[i].getD k ⟨0, 0⟩)) (.inr false) (.inl ()) ls[i].length (by simp) (by omega)]
    · rw [all_range ls[i] ⟨0, 0⟩ (canStore c)]
      cases ls[i].all (canStore c) with
      | false => rfl
      | true =>
        simp only [cond_true, Option.bind_some, Sum.elim_inl, Bool.true_and]
        by_cases h12 : (ls[i].length : Int) ≤ 12
        · have : ¬ ((ls[i].length : Int) > 12) := by omega
          simp only [this, h12, decide_true, decide_false, cond_true, cond_false]
        · have : (ls[i].length : Int) > 12 := by omega
          simp only [this, h12, decide_true, decide_false, cond_true, cond_false]
    · intro k hk
      have e1 : ((k : Int) < (ls[i].length : Int)) := by omega
      rw [getD_at hk]
      simp only [e1, decide_true, cond_true, gxIdx_nat hk, Option.bind_some, s_canStore, w64_succ (show k ≤ 4611686018427387904 by omega)]
      cases canStore c ls[i][k] <;> rfl
    · simp only [Int.lt_irrefl, decide_false, cond_false]
  · simp only [Int.lt_irrefl, decide_false, cond_false]
theorem any_not {α : Type} (xs : List α) (z : α) (p : α → Bool) : (List.range xs.length).any (fun i => !(p (xs.getD i z))) = !(xs.all p) := by
  rw [← all_range xs z p]
  induction (List.range xs.length) with
  | nil => rfl
  | cons a r ih => simp only [List.any_cons, List.all_cons, ih, Bool.not_and]
theorem i_listBad (c : Copying) (l : List Store) (h : l.length ≤ 1048576) : M.i_areRounds_1 l c = some (!(okList c l)) := by
  unfold M.i_areRounds_1 M.slices_ContainsFunc_99__i_areRounds_1_1 M.slices_IndexFunc_107__i_areRounds_1_1 M.i_areRounds_1_1 okList
  by_cases h12 : (l.length : Int) > 12
  · have : ¬ ((l.length : Int) ≤ 12) := by omega
    simp [h12, this]
  · have h12' : (l.length : Int) ≤ 12 := by omega
    simp only [h12, h12', decide_true, decide_false, cond_false, Bool.and_true]
    rw [while_first (fun i => (i : Int)) (fun k => !(canStore c (l.getD k ⟨0, 0⟩))) (fun i => .inr (i : Int)) (.inl ()) l.length (by simp) (by omega)]
    · rw [← any_not l ⟨0, 0⟩ (canStore c), ← find_any]
      cases (List.range l.length).find? (fun k => !(canStore c (l.getD k ⟨0, 0⟩))) with
      | none => rfl
      | some i =>
        have : ((i : Int) ≥ 0) := by omega
        simp [this]
    · intro k hk
      have e1 : ((k : Int) < (l.length : Int)) := by omega
      rw [getD_at hk]
      simp only [e1, decide_true, cond_true, gxIdx_nat hk, Option.bind_some, i_canStore, w64_succ (show k ≤ 4611686018427387904 by omega)]
      cases canStore c l[k] <;> rfl
    · simp only [Int.lt_irrefl, decide_false, cond_false]
theorem i_storesBad (c : Copying) (ls : List (List Store)) (hf : fitS ls) : M.slices_ContainsFunc_97__i_areRounds_1 ls c = some (!(ls.all (okList c))) := by
  have hl := hf.1
  unfold M.slices_ContainsFunc_97__i_areRounds_1 M.slices_IndexFunc_106__i_areRounds_1
  rw [while_first (fun i => (i : Int)) (fun k => !(okList c (ls.getD k []))) (fun i => .inr (i : Int)) (.inl ()) ls.length (by simp) (by omega)]
  · rw [← any_not ls [] (okList c), ← find_any]
    cases (List.range ls.length).find? (fun k => !(okList c (ls.getD k []))) with
    | none => rfl
    | some i =>
      have : ((i : Int) ≥ 0) := by omega
      simp [this]
  · intro k hk
    have e1 : ((k : Int) < (ls.length : Int)) := by omega
    have hil := fitS_at hf hk
    rw [getD_at hk]
    simp only [e1, decide_true, cond_true, gxIdx_nat hk, Option.bind_some, i_listBad c ls[k] hil, w64_succ (show k ≤ 4611686018427387904 by omega)]
    cases okList c ls[k] <;> rfl
  · simp only [Int.lt_irrefl, decide_false, cond_false]
theorem i_areRounds_ok (c : Copying) (ls : List (List Store)) (m : Int) (hc : fits c 1048576) (hf : fitS ls) : M.i_areRounds c ls m = some (isC c && (okLists c ls && (decide (0 ≤ m) && decide (m ≤ 12)))) := by
  unfold M.i_areRounds okLists
  simp only [i_good c hc, i_in, i_storesBad c ls hf, Option.bind_some]
  cases isC c with
  | false => rfl
  | true => cases decide ((ls.length : Int) ≤ 8) with
    | false => simp
    | true => cases (decide (0 ≤ m) && decide (m ≤ 12)) with
      | false => simp
      | true => cases ls.all (okList c) <;> rfl
/-- One round with its stores. -/
def stepC (x : Copying) (m : Int) (l : List Store) : Copying := putAll (roundC x m) l
theorem stepC_len {x : Copying} (m : Int) (l : List Store) (h : lensC x) : lensC (stepC x m l) ∧ (stepC x m l).Memory.length = x.Memory.length := by
  have h1 := roundC_len m h
  have h2 := putAll_len l h1.1
  exact ⟨h2.1, h2.2.trans h1.2⟩
def runC (x : Copying) (m : Int) (ls : List (List Store)) : Int × Copying := ls.foldl (fun s l => (w64 (s.1 + cntC s.2 m), stepC s.2 m l)) (0, x)
theorem runC_take {x : Copying} {m : Int} {ls : List (List Store)} {i : Nat} (hi : i < ls.length) : runC x m (ls.take (i + 1)) = (w64 ((runC x m (ls.take i)).1 + cntC (runC x m (ls.take i)).2 m), stepC (runC x m (ls.take i)).2 m ls[i]) := by
  unfold runC
  rw [List.take_add_one, List.getElem?_eq_getElem hi, Option.toList_some, List.foldl_append]
  rfl
theorem runC_len {x : Copying} (m : Int) (ls : List (List Store)) (h : lensC x) : lensC (runC x m ls).2 ∧ (runC x m ls).2.Memory.length = x.Memory.length := by
  have key : ∀ (ls : List (List Store)) (s : Int × Copying), lensC s.2 → s.2.Memory.length = x.Memory.length → lensC (ls.foldl (fun s l => (w64 (s.1 + cntC s.2 m), stepC s.2 m l)) s).2 ∧ (ls.foldl (fun s l => (w64 (s.1 + cntC s.2 m), stepC s.2 m l)) s).2.Memory.length = x.Memory.length := by
    intro ls
    induction ls with
    | nil => intro s h1 h2; exact ⟨h1, h2⟩
    | cons l r ih =>
      intro s h1 h2
      have h3 := stepC_len m l h1
      exact ih _ h3.1 (h3.2.trans h2)
  exact key ls (0, x) h rfl
theorem okList_at {c : Copying} {l : List Store} (h : okList c l = true) {k : Nat} (hk : k < l.length) : canStore c l[k] = true := by
  unfold okList at h
  rw [Bool.and_eq_true] at h
  exact List.all_eq_true.1 h.1 _ (List.getElem_mem hk)
theorem okLists_at {c : Copying} {ls : List (List Store)} (h : okLists c ls = true) {i : Nat} (hi : i < ls.length) : okList c ls[i] = true := by
  unfold okLists at h
  rw [Bool.and_eq_true] at h
  exact List.all_eq_true.1 h.1 _ (List.getElem_mem hi)
theorem okLists_take {c : Copying} {ls : List (List Store)} (h : okLists c ls = true) (n : Nat) : okLists c (ls.take n) = true := by
  unfold okLists at h ⊢
  simp only [Bool.and_eq_true, decide_eq_true_eq] at h ⊢
  refine ⟨List.all_eq_true.2 fun l hl => List.all_eq_true.1 h.1 l (List.mem_of_mem_take hl), ?_⟩
  have : (ls.take n).length ≤ ls.length := by simp; omega
  omega
theorem totS_take (xs : List (List Store)) (n : Nat) : totS (xs.take n) ≤ totS xs := by
  have := totS_app (xs.take n) (xs.drop n)
  rw [List.take_append_drop] at this
  omega
theorem fitS_take {xs : List (List Store)} (h : fitS xs) (n : Nat) : fitS (xs.take n) := by
  have := totS_take xs n
  have h1 := h.1
  have h2 := h.2
  exact ⟨by simp; omega, by omega⟩
theorem s_run (c : Copying) (ls : List (List Store)) (m : Int) (hc : lensC c) (hf : fitS ls) (ho : okLists c ls = true) : M.s_l19Run c ls m = some ((runC c m ls).2, (runC c m ls).1) := by
  have hl := hf.1
  unfold M.s_l19Run
  rw [s_own c (lensC_fits hc), Option.bind_some, while_run (fun i => ((runC c m (ls.take i)).1, (i : Int), (runC c m (ls.take i)).2.Memory, (runC c m (ls.take i)).2.Copy, (runC c m (ls.take i)).2.Dirty)) ((runC c m ls).1, (runC c m ls).2.Memory, (runC c m ls).2.Copy, (runC c m ls).2.Dirty) ls.length (by simp [runC]) (by omega)]
  · rfl
  · intro i hi
    have e0 : ((i : Int) < (ls.length : Int)) := by omega
    have hx := runC_len m (ls.take i) hc
    have hil := fitS_at hf hi
    have hok := okLists_at ho hi
    have hs := runC_take (x := c) (m := m) hi
    generalize runC c m (ls.take i) = s at *
    obtain ⟨a, x⟩ := s
    simp only at hx hs ⊢
    rw [hs]
    have hr := s_round x m (lensC_fits hx.1) hx.1
    have hy := roundC_len m hx.1
    simp only [e0, decide_true, cond_true, hr, Option.bind_some, gxIdx_nat hi, w64_succ (show i ≤ 4611686018427387904 by omega)]
    rw [while_run (fun k => ((k : Int), (putAll (roundC x m) (ls[i].take k)).Memory, (putAll (roundC x m) (ls[i].take k)).Copy, (putAll (roundC x m) (ls[i].take k)).Dirty)) ((putAll (roundC x m) ls[i]).Memory, (putAll (roundC x m) ls[i]).Copy, (putAll (roundC x m) ls[i]).Dirty) ls[i].length (by simp [putAll, roundC]) (by omega)]
    · rfl
    · intro k hk
      have e1 : ((k : Int) < (ls[i].length : Int)) := by omega
      have hp := putAll_len (ls[i].take k) hy.1
      have hcan : canStore (putAll (roundC x m) (ls[i].take k)) ls[i][k] = true := by
        rw [canStore_same (x := c) (by rw [hp.2, hy.2, hx.2])]
        exact okList_at hok hk
      simp only [e1, decide_true, cond_true, gxIdx_nat hk, Option.bind_some, s_put (lensC_fits hp.1) hp.1 hcan, w64_succ (show k ≤ 4611686018427387904 by omega), putAll_take hk]
    · simp only [Int.lt_irrefl, decide_false, cond_false, List.take_length]
  · simp only [Int.lt_irrefl, decide_false, cond_false, List.take_length]
theorem i_roundWith_ok (c x : Copying) (l : List Store) (m : Int) (hx : lensC x) (hl : l.length ≤ 1048576) (hm : x.Memory.length = c.Memory.length) (ho : okList c l = true) : M.i_Copying_roundWith x l m = some (cntC x m, (stepC x m l).Memory, (stepC x m l).Copy, (stepC x m l).Dirty) := by
  have hr := i_round x m (lensC_fits hx) hx
  have hy := roundC_len m hx
  unfold M.i_Copying_roundWith
  rw [hr, Option.bind_some]
  rw [while_run (fun k => ((k : Int), (putAll (roundC x m) (l.take k)).Memory, (putAll (roundC x m) (l.take k)).Copy, (putAll (roundC x m) (l.take k)).Dirty)) ((putAll (roundC x m) l).Memory, (putAll (roundC x m) l).Copy, (putAll (roundC x m) l).Dirty) l.length (by simp [putAll, roundC]) (by omega)]
  · rfl
  · intro k hk
    have e1 : ((k : Int) < (l.length : Int)) := by omega
    have hp := putAll_len (l.take k) hy.1
    have hcan : canStore (putAll (roundC x m) (l.take k)) l[k] = true := by
      rw [canStore_same (x := c) (by rw [hp.2, hy.2, hm])]
      exact okList_at ho hk
    simp only [e1, decide_true, cond_true, gxIdx_nat hk, Option.bind_some, i_put hp.1 hcan, w64_succ (show k ≤ 4611686018427387904 by omega), putAll_take hk]
  · simp only [Int.lt_irrefl, decide_false, cond_false, List.take_length]
theorem RunRounds_eq (c : Copying) (ls : List (List Store)) (m : Int) (hc : fits c 1048576) (hf : fitS ls) : ∃ r, M.s_RunRounds c ls m = some r ∧ M.i_RunRounds c ls m = some r ∧ fits r.1 1048576 := by
  have hl := hf.1
  unfold M.s_RunRounds M.i_RunRounds
  simp only [s_good c hc, s_storesOk c ls hf, i_areRounds_ok c ls m hc hf, s_in, Option.bind_some]
  cases hg : isC c with
  | false => exact ⟨_, rfl, rfl, by simp [fits]⟩
  | true => cases ho : okLists c ls with
    | false => exact ⟨_, rfl, rfl, by simp [fits]⟩
    | true => cases (decide (0 ≤ m) && decide (m ≤ 12)) with
      | false => exact ⟨_, rfl, rfl, by simp [fits]⟩
      | true =>
        have hlc : lensC c := isC_lens hg
        simp only [Bool.not_true, cond_false, Option.bind_some, Bool.and_self, s_run c ls m hlc hf ho, i_new c hc]
        rw [while_run (fun i => ((runC c m (ls.take i)).1, (i : Int), (runC c m (ls.take i)).2.Memory, (runC c m (ls.take i)).2.Copy, (runC c m (ls.take i)).2.Dirty)) ((runC c m ls).1, (runC c m ls).2.Memory, (runC c m ls).2.Copy, (runC c m ls).2.Dirty) ls.length (by simp [runC]) (by omega)]
        · exact ⟨_, rfl, rfl, lensC_fits (runC_len m ls hlc).1⟩
        · intro i hi
          have e0 : ((i : Int) < (ls.length : Int)) := by omega
          have hx := runC_len m (ls.take i) hlc
          have hil := fitS_at hf hi
          have hok := okLists_at ho hi
          have hs := runC_take (x := c) (m := m) hi
          generalize runC c m (ls.take i) = s at *
          obtain ⟨a, x⟩ := s
          simp only at hx hs ⊢
          rw [hs]
          simp only [e0, decide_true, cond_true, Option.bind_some, gxIdx_nat hi, w64_succ (show i ≤ 4611686018427387904 by omega), i_roundWith_ok c x ls[i] m hx.1 hil hx.2 hok]
        · simp only [Int.lt_irrefl, decide_false, cond_false, List.take_length]
theorem gxSlice_take {α : Type} {xs : List α} {k : Nat} (h : k ≤ xs.length) : gxSlice xs 0 (k : Int) = some (xs.take k) := by
  unfold gxSlice
  rw [if_pos ⟨by omega, by omega, by omega⟩]
  simp
def calmC (c : Copying) (m rest : Int) (ls : List (List Store)) (n : Nat) : Bool := decide (((dl (runC c m (ls.take n)).2.Dirty (runC c m (ls.take n)).2.Dirty.length).length : Int) ≤ rest)
theorem RoundsUntil_eq (c : Copying) (ls : List (List Store)) (m rest : Int) (hc : fits c 1048576) (hf : fitS ls) : ∃ r, M.s_RoundsUntil c ls m rest = some r ∧ M.i_RoundsUntil c ls m rest = some r := by
  have hl := hf.1
  unfold M.s_RoundsUntil M.i_RoundsUntil
  simp only [s_good c hc, s_storesOk c ls hf, i_areRounds_ok c ls m hc hf, s_in, Option.bind_some]
  cases hg : isC c with
  | false => exact ⟨_, rfl, rfl⟩
  | true => cases ho : okLists c ls with
    | false => exact ⟨_, rfl, rfl⟩
    | true => cases (decide (0 ≤ m) && decide (m ≤ 12)) with
      | false => exact ⟨_, rfl, rfl⟩
      | true => cases hrest : decide (rest < 0) with
        | true => exact ⟨_, rfl, rfl⟩
        | false =>
          have hlc : lensC c := isC_lens hg
          simp only [Bool.not_true, cond_false, Option.bind_some, Bool.and_self, i_new c hc]
          rw [while_first (fun n => (n : Int)) (calmC c m rest ls) (fun n => (Sum.inr ((n : Int), true) : Unit ⊕ (Int × Bool))) (.inl ()) (ls.length + 1) (by simp) (by omega) ?_ ?_,
            while_first (fun n => ((n : Int), (runC c m (ls.take n)).2.Memory, (runC c m (ls.take n)).2.Copy, (runC c m (ls.take n)).2.Dirty)) (calmC c m rest ls) (fun n => ((n : Int), true)) (bif calmC c m rest ls ls.length then ((ls.length : Int), true) else (0, false)) ls.length (by simp [runC]) (by omega) ?_ ?_]
          · rw [List.range_succ, List.find?_append]
            cases hfd : (List.range ls.length).find? (calmC c m rest ls) with
            | some i => exact ⟨_, rfl, rfl⟩
            | none =>
              simp only [Option.none_or]
              cases hp : calmC c m rest ls ls.length with
              | true =>
                rw [List.find?_cons_of_pos hp]
                exact ⟨_, rfl, rfl⟩
              | false =>
                rw [List.find?_cons_of_neg (by simp [hp])]
                exact ⟨_, rfl, rfl⟩
          · intro n hn
            have hx := runC_len m (ls.take n) hlc
            have hfx := lensC_fits hx.1
            have hd := i_dirty (runC c m (ls.take n)).2 hfx.2.2
            unfold calmC
            simp only [Option.bind_some]
            have hd' : M.i_dirtyWords ⟨(runC c m (ls.take n)).2.Memory, (runC c m (ls.take n)).2.Copy, (runC c m (ls.take n)).2.Dirty⟩ = _ := hd
            have e2 : ((n : Int) == (ls.length : Int)) = false := by simp; omega
            simp only [hd', Option.bind_some, e2, cond_false, gxIdx_nat hn, i_roundWith_ok c ⟨(runC c m (ls.take n)).2.Memory, (runC c m (ls.take n)).2.Copy, (runC c m (ls.take n)).2.Dirty⟩ ls[n] m hx.1 (fitS_at hf hn) hx.2 (okLists_at ho hn), w64_succ (show n ≤ 4611686018427387904 by omega), runC_take hn]
            cases decide (((dl (runC c m (ls.take n)).2.Dirty (runC c m (ls.take n)).2.Dirty.length).length : Int) ≤ rest) <;> rfl
          · have hx := runC_len m (ls.take ls.length) hlc
            have hfx := lensC_fits hx.1
            have hd := i_dirty (runC c m (ls.take ls.length)).2 hfx.2.2
            have hd' : M.i_dirtyWords ⟨(runC c m (ls.take ls.length)).2.Memory, (runC c m (ls.take ls.length)).2.Copy, (runC c m (ls.take ls.length)).2.Dirty⟩ = _ := hd
            unfold calmC
            simp only [hd', Option.bind_some, beq_self_eq_true, cond_true]
            cases decide (((dl (runC c m (ls.take ls.length)).2.Dirty (runC c m (ls.take ls.length)).2.Dirty.length).length : Int) ≤ rest) <;> rfl
          · intro n hn
            have e0 : ((n : Int) ≤ (ls.length : Int)) := by omega
            have hx := runC_len m (ls.take n) hlc
            have hfx := lensC_fits hx.1
            have hd := s_dirty (runC c m (ls.take n)).2 hfx.2.2
            unfold calmC
            simp only [e0, decide_true, cond_true, gxSlice_take (show n ≤ ls.length by omega), Option.bind_some, s_run c (ls.take n) m hlc (fitS_take hf n) (okLists_take ho n), hd, w64_succ (show n ≤ 4611686018427387904 by omega)]
            cases decide (((dl (runC c m (ls.take n)).2.Dirty (runC c m (ls.take n)).2.Dirty.length).length : Int) ≤ rest) <;> rfl
          · have e0 : ¬ (((ls.length + 1 : Nat) : Int) ≤ (ls.length : Int)) := by omega
            simp only [e0, decide_false, cond_false]
theorem plain_RunRounds (a0 : Copying) (a1 : List (List Store)) (a2 : Int) (k0 : okCopying a0) (k1 : okL (okL okStore) a1) (k2 : okI a2) : M.l_FnExactRunRounds a0 a1 a2 = some true := by
  unfold M.l_FnExactRunRounds
  obtain ⟨q0, hq0, hf0⟩ := szCopying_ex a0 1048576 k0 (by omega)
  rw [hq0, Option.bind_some]
  rcases hf0 with hf0 | hf0
  · simp only [hf0, decide_true, cond_true]
  have hn0 : ¬ (q0 < 0) := by omega
  simp only [hn0, decide_false, cond_false]
  have hz0 := hf0.2.2
  obtain ⟨q1, hq1, hf1⟩ := szStoreSS_ex a1 q0 k1 (by omega)
  rw [hq1, Option.bind_some]
  rcases hf1 with hf1 | hf1
  · simp only [hf1, decide_true, cond_true]
  have hn1 : ¬ (q1 < 0) := by omega
  simp only [hn1, decide_false, cond_false]
  have hz1 := hf1.2.2
  obtain ⟨r, hs, hi, hr0⟩ := RunRounds_eq a0 a1 a2 hz0 hz1
  have ht0 := toCopying_idf a0 hz0
  have he0 := eqCopying_reflf a0 hz0
  have ht1 := toStoreSS_id a1 hz1
  have he1 := eqStoreSS_refl a1 hz1
  obtain ⟨na0, ma0, hma0, _, hla0, hua0⟩ := markCopying_held a0 1 hz0 (by omega)
  have hma0 : M.l_markCopying a0 1 = _ := hma0
  obtain ⟨na1, ma1, hma1, _, hla1, hua1⟩ := markStoreSS_held a1 na0 hz1 (by omega)
  obtain ⟨nr0, mr0, hmr0, hhr0, hlr0, hur0⟩ := markCopying_held r.1 1 hr0 (by omega)
  have hmr0 : M.l_markCopying r.1 1 = _ := hmr0
  have hhr0 : M.l_heldCopying ⟨mr0.1, mr0.2.1, mr0.2.2⟩ 1 = _ := hhr0
  have her0 := eqCopying_reflf r.1 hr0
  simp only [hs, hi, ht0, he0, ht1, he1, hma0, hma1, hmr0, hhr0, her0, nat_nlt, Option.bind_some, Bool.not_true, cond_false, cond_true, beq_self_eq_true, bne_self_eq_false, decide_false]
theorem plain_RoundsUntil (a0 : Copying) (a1 : List (List Store)) (a2 : Int) (a3 : Int) (k0 : okCopying a0) (k1 : okL (okL okStore) a1) (k2 : okI a2) (k3 : okI a3) : M.l_FnExactRoundsUntil a0 a1 a2 a3 = some true := by
  unfold M.l_FnExactRoundsUntil
  obtain ⟨q0, hq0, hf0⟩ := szCopying_ex a0 1048576 k0 (by omega)
  rw [hq0, Option.bind_some]
  rcases hf0 with hf0 | hf0
  · simp only [hf0, decide_true, cond_true]
  have hn0 : ¬ (q0 < 0) := by omega
  simp only [hn0, decide_false, cond_false]
  have hz0 := hf0.2.2
  obtain ⟨q1, hq1, hf1⟩ := szStoreSS_ex a1 q0 k1 (by omega)
  rw [hq1, Option.bind_some]
  rcases hf1 with hf1 | hf1
  · simp only [hf1, decide_true, cond_true]
  have hn1 : ¬ (q1 < 0) := by omega
  simp only [hn1, decide_false, cond_false]
  have hz1 := hf1.2.2
  obtain ⟨r, hs, hi⟩ := RoundsUntil_eq a0 a1 a2 a3 hz0 hz1
  have ht0 := toCopying_idf a0 hz0
  have he0 := eqCopying_reflf a0 hz0
  have ht1 := toStoreSS_id a1 hz1
  have he1 := eqStoreSS_refl a1 hz1
  simp only [hs, hi, ht0, he0, ht1, he1, nat_nlt, Option.bind_some, Bool.not_true, cond_false, cond_true, beq_self_eq_true, bne_self_eq_false, decide_false]
end Go.Proofs.Ytjbblcdajdpfkaa
