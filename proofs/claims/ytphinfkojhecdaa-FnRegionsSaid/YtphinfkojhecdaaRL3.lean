/- Plain laws of the models: no program in sight. -/
import Derived.Test.YtphinfkojhecdaaRM
import Derived.Test.YtphinfkojhecdaaRL2
set_option linter.unusedVariables false
set_option linter.unusedSimpArgs false
set_option maxHeartbeats 4000000
namespace Go.Proofs.Ytphinfkojhecdaa
open Go.Gx
/-! ### The map of regions -/
theorem rRegions_refl (xs : List Region) (h : xs.length ≤ 4611686018427387904) : M.l_rRegions xs xs = some true := by
  unfold M.l_rRegions
  rw [while_run (fun i => (i : Int)) (Sum.inl ()) xs.length (by simp) h]
  · simp
  · intro i hi
    have h1 : ((i : Int) < (xs.length : Int)) := by omega
    simp [h1, gxIdx_nat hi, w64_succ (show i ≤ 4611686018427387904 by omega)]
  · simp
def addM (xs : List Region) (r : Region) : List Region × Bool := bif goodM xs && goodM (addR xs r) then (addR xs r, true) else ([], false)
theorem add_is (xs : List Region) (r : Region) (h : xs.length ≤ 1048576) : M.s_AddRegion xs r = some (addM xs r) ∧ M.i_AddRegion xs r = some (addM xs r) := by
  unfold M.s_AddRegion M.i_AddRegion addM
  simp only [s_goodM xs (by omega), i_goodM xs (by omega), Option.bind_some]
  cases hg : goodM xs with
  | false => exact ⟨rfl, rfl⟩
  | true =>
    have hl := goodM_len hg
    have hs := same_map (r := r) (ord_of hg) (show (xs ++ [r]).Perm (r :: xs) from List.perm_append_comm)
    simp only [s_add xs r (by omega), s_goodM _ (show (addR xs r).length ≤ 1048576 by rw [addR_len]; omega), clone_ok xs (by omega), gxApp_ok (show (xs.length + [r].length) * 32 ≤ 140737488355328 by simp; omega), i_asMap_ok (xs ++ [r]) (by simp; omega), hs.1, Option.bind_some, Bool.not_true, cond_false]
    cases ha : goodM (addR xs r) with
    | false => exact ⟨rfl, rfl⟩
    | true =>
      rw [hs.2 ha]
      exact ⟨rfl, rfl⟩
def restR (xs : List Region) (k : Nat) : List Region := xs.take k ++ xs.drop (k + 1)
def atR (xs : List Region) (k : Nat) (b : Int) : Region := ⟨b, (xs.getD k gR).Size, (xs.getD k gR).Kind, (xs.getD k gR).Unit⟩
def moveM (xs : List Region) (n b : Int) : List Region × Bool := bif goodM xs && (decide (0 ≤ n ∧ n ≤ (xs.length : Int) - 1) && goodM (addR (restR xs n.toNat) (atR xs n.toNat b))) then (addR (restR xs n.toNat) (atR xs n.toNat b), true) else ([], false)
theorem rest_sub (xs : List Region) {k : Nat} (hk : k < xs.length) : (restR xs k).Sublist xs := by
  unfold restR
  conv => rhs; rw [← List.take_append_drop k xs, List.drop_eq_getElem_cons hk]
  exact List.Sublist.append_left (List.sublist_cons_self _ _) _
theorem rest_perm (xs : List Region) {k : Nat} (hk : k < xs.length) : (xs[k] :: restR xs k).Perm xs := by
  unfold restR
  have : xs = xs.take k ++ xs[k] :: xs.drop (k + 1) := by rw [← List.drop_eq_getElem_cons hk, List.take_append_drop]
  conv => rhs; rw [this]
  exact List.perm_middle.symm
theorem move_is (xs : List Region) (n b : Int) (h : xs.length ≤ 1048576) : M.s_MoveRegion xs n b = some (moveM xs n b) ∧ M.i_MoveRegion xs n b = some (moveM xs n b) := by
  unfold M.s_MoveRegion M.i_MoveRegion moveM
  simp only [s_goodM xs (by omega), i_goodM xs (by omega), s_in, i_in, Option.bind_some]
  cases hg : goodM xs with
  | false => exact ⟨rfl, rfl⟩
  | true =>
    have hl := goodM_len hg
    rw [w64_id (z := (xs.length : Int) - 1) (by omega) (by omega)]
    by_cases hn : 0 ≤ n ∧ n ≤ (xs.length : Int) - 1
    · obtain ⟨k, rfl⟩ : ∃ k : Nat, n = k := ⟨n.toNat, by omega⟩
      have hk : k < xs.length := by omega
      have hd : (decide ((0 : Int) ≤ (k : Int)) && decide ((k : Int) ≤ (xs.length : Int) - 1)) = true := by simp; omega
      have hs1 : gxSlice xs ((k + 1 : Nat) : Int) (xs.length : Int) = some (xs.drop (k + 1)) := gxSlice_drop (by omega)
      simp only [hd, Option.bind_some, Bool.not_true, cond_false, gxIdx_nat hk, gxSlice_take (show k ≤ xs.length by omega), w64_succ (show k ≤ 4611686018427387904 by omega), hs1, clone_ok xs (by omega), Int.toNat_natCast,
        gxApp_ok (show (([] : List Region).length + (xs.take k).length) * 32 ≤ 140737488355328 by simp; omega), List.nil_append, gxApp_ok (show ((xs.take k).length + (xs.drop (k + 1)).length) * 32 ≤ 140737488355328 by simp; omega)]
      have hat : (⟨b, xs[k].Size, xs[k].Kind, xs[k].Unit⟩ : Region) = atR xs k b := by unfold atR; rw [getD_at hk]
      have hre : xs.take k ++ xs.drop (k + 1) = restR xs k := rfl
      have hdel := rest_sub xs hk
      have hord : ordered keyR (restR xs k) := List.Pairwise.sublist hdel (ord_of hg)
      have hperm : (xs.set k (atR xs k b)).Perm (atR xs k b :: restR xs k) := by
        rw [List.set_eq_take_append_cons_drop, if_pos hk]
        exact List.perm_middle
      have hs := same_map hord hperm
      have hlen : (restR xs k).length ≤ xs.length := hdel.length_le
      have hn' : decide (0 ≤ (k : Int) ∧ (k : Int) ≤ (xs.length : Int) - 1) = true := decide_eq_true hn
      simp only [hat, hre, hn', s_add _ _ (show (restR xs k).length ≤ 1048576 by omega), s_goodM _ (show (addR (restR xs k) (atR xs k b)).length ≤ 1048576 by rw [addR_len]; omega), i_asMap_ok (xs.set k (atR xs k b)) (by simp; omega), hs.1, Option.bind_some]
      cases ha : goodM (addR (restR xs k) (atR xs k b)) with
      | false => exact ⟨rfl, rfl⟩
      | true =>
        rw [hs.2 ha]
        exact ⟨rfl, rfl⟩
    · have hd : (decide ((0 : Int) ≤ n) && decide (n ≤ (xs.length : Int) - 1)) = false := by
        rw [← Bool.decide_and]
        exact decide_eq_false hn
      rw [hd, decide_eq_false hn]
      exact ⟨rfl, rfl⟩
def sumS : List Region → Int
  | [] => 0
  | x :: r => x.Size + sumS r
theorem sumS_append (a b : List Region) : sumS (a ++ b) = sumS a + sumS b := by
  induction a with
  | nil => simp [sumS]
  | cons x r ih => rw [List.cons_append, sumS, sumS, ih]; omega
theorem sumS_add (xs : List Region) (r : Region) : sumS (addR xs r) = sumS xs + r.Size := by
  unfold addR
  conv => rhs; rw [← List.takeWhile_append_dropWhile (p := fun y : Region => decide (y.Base < r.Base)) (l := xs)]
  rw [sumS_append, sumS_append, sumS]
  omega
def freeM (xs : List Region) : Int × Bool := bif goodM xs then (65536 - sumS xs, true) else (0, false)
theorem sum_bound : ∀ {xs : List Region}, (∀ r ∈ xs, oneR r = true) → 0 ≤ sumS xs ∧ sumS xs ≤ 4096 * (xs.length : Int)
  | [], _ => by simp [sumS]
  | x :: r, h => by
    have h1 := sum_bound (xs := r) fun a ha => h a (List.mem_cons_of_mem _ ha)
    have h2 := oneR_spec (h x List.mem_cons_self)
    simp only [sumS, List.length_cons]
    omega
theorem sumS_take (xs : List Region) {i : Nat} (h : i < xs.length) : sumS (xs.take (i + 1)) = sumS (xs.take i) + xs[i].Size := by
  rw [List.take_succ_eq_append_getElem h, sumS_append]
  simp [sumS]
theorem free_loop (xs : List Region) (hg : goodM xs = true) : ∀ {body : Int × Int → Option ((Int × Int) ⊕ Int)}, (∀ s, body s = (bif decide (s.2 < (xs.length : Int)) then (Option.bind (gxIdx xs s.2) fun y5575 =>
    some (.inl (w64 (s.1 - y5575.Size), w64 (s.2 + 1)))) else some (.inr s.1))) → whileM body gxFuel (65536, 0) = some (65536 - sumS xs) := by
  intro body hbody
  have hl := goodM_len hg
  refine while_run (fun j => (65536 - sumS (xs.take j), (j : Int))) _ xs.length (by simp [sumS]) (by omega) (fun j hj => ?_) ?_
  · have e0 : ((j : Int) < (xs.length : Int)) := by omega
    have h1 := sum_bound (xs := xs.take j) fun a ha => goodM_mem hg (List.mem_of_mem_take ha)
    have h2 := oneR_spec (goodM_mem hg (List.getElem_mem hj))
    have h3 : (xs.take j).length ≤ 6 := by simp; omega
    rw [hbody]
    simp only [e0, decide_true, cond_true, gxIdx_nat hj, Option.bind_some, w64_succ (show j ≤ 4611686018427387904 by omega)]
    rw [w64_id (by omega) (by omega), sumS_take xs hj]
    congr 3
    omega
  · rw [hbody]
    simp only [Int.lt_irrefl, decide_false, cond_false, List.take_length]
theorem free_is (xs : List Region) (h : xs.length ≤ 1048576) : M.s_FreeSpace xs = some (freeM xs) ∧ M.i_FreeSpace xs = some (freeM xs) := by
  unfold M.s_FreeSpace M.i_FreeSpace freeM
  simp only [s_goodM xs (by omega), i_goodM xs (by omega), Option.bind_some]
  cases hg : goodM xs with
  | false => exact ⟨rfl, rfl⟩
  | true =>
    simp only [Bool.not_true, cond_false, cond_true]
    rw [free_loop xs hg (fun s => rfl)]
    exact ⟨rfl, rfl⟩
theorem place_is (xs : List Region) (z : Int) (h : (xs.length : Int) ≤ 1048576) : ∃ q, M.s_PlaceRegion xs z = some q ∧ M.i_PlaceRegion xs z = some q ∧ (q.2 = true → goodM xs = true ∧ powS z = true ∧ ∃ k : Nat, q.1 = (k : Int) * z ∧ k ≤ 65536 ∧ (∀ j : Nat, j ≤ k → (j : Int) * z + z ≤ 65536 ∧ 0 ≤ (j : Int) * z) ∧ goodM (addR xs ⟨(k : Int) * z, z, 0, 0⟩) = true ∧ ∀ j, j < k → goodM (addR xs ⟨(j : Int) * z, z, 0, 0⟩) = false) := by
  unfold M.s_PlaceRegion M.i_PlaceRegion
  simp only [s_goodM xs (by omega), i_goodM xs (by omega), s_size, i_size, Option.bind_some]
  cases hg : goodM xs with
  | false => exact ⟨_, rfl, rfl, fun h => by cases h⟩
  | true => cases hz : powS z with
    | false => exact ⟨_, rfl, rfl, fun h => by cases h⟩
    | true =>
      have hl := goodM_len hg
      have hz4 := pow_range hz
      obtain ⟨n, hn, hn2⟩ := pow_div hz
      simp only [Bool.not_true, cond_false, Option.bind_some]
      have hb : ∀ j : Nat, j < n → (j : Int) * z < 65536 ∧ (j : Int) * z + z ≤ 65536 ∧ 0 ≤ (j : Int) * z := by
        intro j hj
        have h1 : ((j : Int) + 1) * z ≤ (n : Int) * z := Int.mul_le_mul_of_nonneg_right (by omega) (by omega)
        rw [Int.add_mul, Int.one_mul] at h1
        have h2 : 0 ≤ (j : Int) * z := Int.mul_nonneg (by omega) (by omega)
        omega
      have hw : ∀ j : Nat, j < n → w64 ((j : Int) * z + z) = ((j + 1 : Nat) : Int) * z := by
        intro j hj
        have := hb j hj
        rw [w64_id (by omega) (by omega), Int.natCast_add, Int.add_mul]
        simp
      have hend : ∀ q : Int × Bool, (match (List.range n).find? (fun (j : Nat) => goodM (addR xs ⟨(j : Int) * z, z, 0, 0⟩)) with
          | some j => q = ((j : Int) * z, true)
          | none => q = (0, false)) → (q.2 = true → True ∧ True ∧ ∃ k : Nat, q.1 = (k : Int) * z ∧ k ≤ 65536 ∧ (∀ j : Nat, j ≤ k → (j : Int) * z + z ≤ 65536 ∧ 0 ≤ (j : Int) * z) ∧ goodM (addR xs ⟨(k : Int) * z, z, 0, 0⟩) = true ∧ ∀ j, j < k → goodM (addR xs ⟨(j : Int) * z, z, 0, 0⟩) = false) := by
        intro q hq hq2
        cases hf : (List.range n).find? (fun (j : Nat) => goodM (addR xs ⟨(j : Int) * z, z, 0, 0⟩)) with
        | none => rw [hf] at hq; simp only at hq; subst hq; cases hq2
        | some k =>
          rw [hf] at hq
          simp only at hq
          subst hq
          obtain ⟨g1, g2, g3⟩ := List.find?_range_eq_some.1 hf
          have hkn : k < n := List.mem_range.1 g2
          exact ⟨trivial, trivial, k, rfl, by omega, fun j hj => (hb j (by omega)).2, g1, fun j hj => by simpa using g3 j hj⟩
      have hspec : ∀ {body : Int → Option (Int ⊕ (Unit ⊕ (Int × Bool)))}, (∀ s, body s = (bif decide (s < 65536) then (Option.bind (M.s_l17Add xs (⟨s, z, 0, 0⟩ : Region)) fun r3478 =>
          Option.bind (M.s_l17Good r3478) fun r3487 =>
          bif r3487 then some (.inr (.inr (s, true)))
          else some (.inl (w64 (s + z))))
          else some (.inr (.inl ())))) → whileM body gxFuel 0 = some (match (List.range n).find? (fun (j : Nat) => goodM (addR xs ⟨(j : Int) * z, z, 0, 0⟩)) with
            | some j => .inr ((j : Int) * z, true)
            | none => .inl ()) := by
        intro body hbody
        refine while_first (fun (j : Nat) => (j : Int) * z) (fun (j : Nat) => goodM (addR xs ⟨(j : Int) * z, z, 0, 0⟩)) (fun (j : Nat) => (Sum.inr ((j : Int) * z, true) : Unit ⊕ (Int × Bool))) (Sum.inl () : Unit ⊕ (Int × Bool)) n (by simp) (by omega) (fun j hj => ?_) ?_
        · have := hb j hj
          rw [hbody]
          simp only [this.1, decide_true, cond_true, s_add xs _ (show xs.length ≤ 1048576 by omega), s_goodM _ (show (addR xs ⟨(j : Int) * z, z, 0, 0⟩).length ≤ 1048576 by rw [addR_len]; omega), Option.bind_some, hw j hj]
          cases goodM (addR xs ⟨(j : Int) * z, z, 0, 0⟩) <;> rfl
        · rw [hbody, hn]
          rfl
      rw [hspec (fun s => rfl)]
      cases h6 : ((xs.length : Int) == 6) with
      | true =>
        have h6' : xs.length = 6 := by simp at h6; omega
        have : (List.range n).find? (fun (j : Nat) => goodM (addR xs ⟨(j : Int) * z, z, 0, 0⟩)) = none := by
          rw [List.find?_eq_none]
          intro j _ hj
          have := goodM_len hj
          rw [addR_len] at this
          omega
        rw [this]
        exact ⟨_, rfl, rfl, fun h => by cases h⟩
      | false =>
        simp only [cond_false]
        rw [while_first (fun (j : Nat) => (j : Int) * z) (fun (j : Nat) => goodM (addR xs ⟨(j : Int) * z, z, 0, 0⟩)) (fun (j : Nat) => (Sum.inr ((j : Int) * z, true) : Unit ⊕ (Int × Bool))) (Sum.inl () : Unit ⊕ (Int × Bool)) n (by simp) (by omega) ?_ ?_]
        · cases hf : (List.range n).find? (fun (j : Nat) => goodM (addR xs ⟨(j : Int) * z, z, 0, 0⟩)) with
          | none => exact ⟨_, rfl, rfl, fun h => by cases h⟩
          | some j =>
            refine ⟨_, rfl, rfl, fun h => ?_⟩
            obtain ⟨_, _, h3⟩ := hend ((j : Int) * z, true) (by rw [hf]) rfl
            exact ⟨by trivial, by trivial, h3⟩
        · intro j hj
          have := hb j hj
          have e1 : ((j + 1 : Nat) : Int) * z ≤ 65536 := by rw [← hw j hj, w64_id (by omega) (by omega)]; omega
          have hs := same_map (r := ⟨(j : Int) * z, z, 0, 0⟩) (ord_of hg) (show (xs ++ [(⟨(j : Int) * z, z, 0, 0⟩ : Region)]).Perm (⟨(j : Int) * z, z, 0, 0⟩ :: xs) from List.perm_append_comm)
          simp only [e1, decide_true, cond_true, clone_ok xs (show xs.length ≤ 1048576 by omega), gxApp_ok (show (xs.length + [(⟨(j : Int) * z, z, 0, 0⟩ : Region)].length) * 32 ≤ 140737488355328 by simp; omega), i_asMap_ok (xs ++ [⟨(j : Int) * z, z, 0, 0⟩]) (by simp; omega), hs.1, Option.bind_some, hw j hj]
          cases goodM (addR xs ⟨(j : Int) * z, z, 0, 0⟩) <;> rfl
        · have e1 : ¬ (w64 ((n : Int) * z + z) ≤ 65536) := by rw [w64_id (by omega) (by omega)]; omega
          simp only [e1, decide_false, cond_false]

end Go.Proofs.Ytphinfkojhecdaa
