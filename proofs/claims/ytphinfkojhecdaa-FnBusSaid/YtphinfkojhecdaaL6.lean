/- Plain laws of the models: no program in sight. -/
import Derived.Test.YtphinfkojhecdaaM
import Derived.Test.YtphinfkojhecdaaL5
set_option linter.unusedVariables false
set_option linter.unusedSimpArgs false
set_option maxHeartbeats 4000000
namespace Go.Proofs.Ytphinfkojhecdaa
open Go.Gx
/-! ### A region in its place -/
def keyR (r : Region) : Int := r.Base
def ltR (a b : Region) : Bool := decide (keyR a < keyR b)
def addR (xs : List Region) (r : Region) : List Region := xs.takeWhile (fun y => decide (y.Base < r.Base)) ++ r :: xs.dropWhile (fun y => decide (y.Base < r.Base))
theorem take_takeWhile {α : Type} (p : α → Bool) (xs : List α) : xs.take (xs.takeWhile p).length = xs.takeWhile p := by
  conv => lhs; arg 2; rw [← List.takeWhile_append_dropWhile (p := p) (l := xs)]
  rw [List.take_left]
theorem drop_takeWhile {α : Type} (p : α → Bool) (xs : List α) : xs.drop (xs.takeWhile p).length = xs.dropWhile p := by
  conv => lhs; arg 2; rw [← List.takeWhile_append_dropWhile (p := p) (l := xs)]
  rw [List.drop_left]
theorem addR_perm (xs : List Region) (r : Region) : (addR xs r).Perm (r :: xs) := by
  unfold addR
  refine (List.perm_middle).trans ?_
  rw [List.takeWhile_append_dropWhile]
theorem addR_len (xs : List Region) (r : Region) : (addR xs r).length = xs.length + 1 := by rw [(addR_perm xs r).length_eq, List.length_cons]
theorem addR_ord {xs : List Region} (h : ordered keyR xs) (r : Region) : ordered keyR (addR xs r) := by
  induction xs with
  | nil => simp [addR, ordered]
  | cons y l ih =>
    unfold ordered at h ih
    rw [List.pairwise_cons] at h
    have h2 := ih h.2
    unfold addR at h2 ⊢
    by_cases hy : y.Base < r.Base
    · simp only [List.takeWhile_cons, List.dropWhile_cons, hy, decide_true, if_true, List.cons_append]
      unfold ordered
      rw [List.pairwise_cons]
      refine ⟨fun a ha => ?_, h2⟩
      rw [List.mem_append, List.mem_cons] at ha
      rcases ha with ha | rfl | ha
      · exact h.1 a ((List.takeWhile_sublist _).mem ha)
      · unfold keyR; omega
      · exact h.1 a ((List.dropWhile_sublist _).mem ha)
    · simp only [List.takeWhile_cons, List.dropWhile_cons, hy, decide_false, Bool.false_eq_true, if_false, List.nil_append]
      unfold ordered
      rw [List.pairwise_cons, List.pairwise_cons]
      refine ⟨fun a ha => ?_, h.1, h.2⟩
      rcases List.mem_cons.1 ha with rfl | ha
      · unfold keyR; omega
      · have := h.1 a ha; unfold keyR at this ⊢; omega
theorem s_add (xs : List Region) (r : Region) (h : xs.length ≤ 1048576) : M.s_l17Add xs r = some (addR xs r) := by
  unfold M.s_l17Add
  have hk : (xs.takeWhile (fun y => decide (y.Base < r.Base))).length ≤ xs.length := (List.takeWhile_prefix _).length_le
  rw [while_place (xs := xs) (fun y => decide (y.Base < r.Base)) (by omega)]
  · have hd : ((xs.takeWhile (fun y => decide (y.Base < r.Base))).length + (xs.dropWhile (fun y => decide (y.Base < r.Base))).length) = xs.length := by
      rw [← List.length_append, List.takeWhile_append_dropWhile]
    simp only [Option.bind_some, gxSlice_take hk, gxSlice_drop hk, take_takeWhile, drop_takeWhile]
    rw [gxApp_ok (by simp; omega), Option.bind_some, gxApp_ok (by simp; omega), Option.bind_some, gxApp_ok (by simp; omega), Option.bind_some]
    simp [addR]
  · intro i hi
    have e0 : ((i : Int) < (xs.length : Int)) := by omega
    simp only [e0, decide_true, cond_true, gxIdx_nat hi, Option.bind_some]
    cases decide (xs[i].Base < r.Base) <;> rfl
  · simp only [Int.lt_irrefl, decide_false, cond_false, Option.bind_some]
theorem cmp_ok (a b : Region) : ∃ z, M.i_asMap_1 a b = some z ∧ decide (z < 0) = ltR a b := by
  unfold M.i_asMap_1 M.cmp_Compare_91 M.cmp_isNaN_95 ltR keyR
  simp only [Option.bind_some, bne_self_eq_false, cond_false]
  by_cases h : a.Base < b.Base
  · exact ⟨-1, by simp [h], by simp [h]⟩
  · by_cases h2 : a.Base > b.Base
    · exact ⟨1, by simp [h, h2], by simp [h]⟩
    · exact ⟨0, by simp [h, h2], by simp [h]⟩
theorem gxIdx_less {α : Type} {L : List α} {j : Nat} (h : j + 1 < L.length) (hj : j ≤ 1099511627776) : gxIdx L (w64 (((j + 1 : Nat) : Int) - 1)) = some (L[j]'(by omega)) := by
  rw [w64_id (by omega) (by omega), show (((j + 1 : Nat) : Int) - 1) = ((j : Nat) : Int) by omega]
  exact gxIdx_nat (by omega)
theorem sort_ins (xs : List Region) (h : xs.length ≤ 1048576) : M.slices_insertionSortCmpFunc_96__i_asMap_1 xs 0 (xs.length : Int) = some (isortL ltR xs) := by
  unfold M.slices_insertionSortCmpFunc_96__i_asMap_1
  rw [show w64 (0 + 1) = 1 from rfl, outer_run ltR (xs := xs) (by omega)]
  · rfl
  · intro i pre post x hp hi
    have e0 : ((i : Int) < (xs.length : Int)) := by omega
    subst hp
    have hin := inner_run (α := Region) ltR (body := fun s4678 =>
      Option.bind (α := Bool) (bif decide (s4678.1 > 0) then (Option.bind (gxIdx s4678.2 s4678.1) fun y4710 =>
      Option.bind (gxIdx s4678.2 (w64 (s4678.1 - 1))) fun y4711 =>
      Option.bind (M.i_asMap_1 y4710 y4711) fun r4712 =>
      some (decide (r4712 < 0)))
      else some false) fun o4706 =>
      bif o4706 then (Option.bind (gxIdx s4678.2 (w64 (s4678.1 - 1))) fun y4727 =>
      Option.bind (gxIdx s4678.2 s4678.1) fun y4728 =>
      Option.bind (gxIdx s4678.2 s4678.1) fun y4729 =>
      Option.bind (gxIdx (s4678.2.set s4678.1.toNat y4727) (w64 (s4678.1 - 1))) fun y4801 =>
      some (.inl (w64 (s4678.1 - 1), ((s4678.2.set s4678.1.toNat y4727).set (w64 (s4678.1 - 1)).toNat y4728))))
      else some (.inr s4678.2)) (by
        intro j L h1 hj
        have e1 : (((j + 1 : Nat) : Int) > 0) := by omega
        have e2 : w64 (((j + 1 : Nat) : Int) - 1) = (j : Int) := by rw [w64_id (by omega) (by omega)]; omega
        have h3 : j < (L.set (j + 1) (L[j]'(by omega))).length := by simp; omega
        obtain ⟨z, hz, hz2⟩ := cmp_ok L[j + 1] (L[j]'(by omega))
        simp only [e1, e2, decide_true, cond_true, gxIdx_nat h1, gxIdx_nat (show j < L.length by omega), hz, hz2, Option.bind_some, Int.toNat_natCast, gxIdx_nat h3]
        cases ltR L[j + 1] (L[j]'(by omega)) <;> rfl) (by intro L; rfl) x pre.reverse post gxFuel (by simp; unfold gxFuel; omega) (by simp; omega)
    rw [List.length_reverse, List.reverse_reverse] at hin
    simp only [e0, decide_true, cond_true]
    rw [hin]
    rfl
  · intro i L hi
    have e0 : ¬ (i < (xs.length : Int)) := by omega
    simp only [e0, decide_false, cond_false]
theorem i_asMap_ok (xs : List Region) (h : xs.length ≤ 19) : M.i_asMap xs = some (bif goodM (isortL ltR xs) then (isortL ltR xs, true) else ([], false)) := by
  unfold M.i_asMap M.slices_SortStableFunc_89__i_asMap_1 M.slices_stableCmpFunc_94__i_asMap_1
  have hl := isortL_len ltR xs
  have e1 : ¬ ((20 : Int) ≤ (xs.length : Int)) := by omega
  have e2 : ¬ ((20 : Int) < (xs.length : Int)) := by omega
  rw [gxApp_ok (by simp; omega), Option.bind_some, List.nil_append, while_small (r := (0, xs)) 1 (by omega) (by simp only [whileM, e1, decide_false, cond_false]), Option.bind_some, sort_ins xs (by omega), Option.bind_some,
    while_small (r := isortL ltR xs) 1 (by omega) (by simp only [whileM, e2, decide_false, cond_false])]
  simp only [Option.bind_some, i_goodM _ (show (isortL ltR xs).length ≤ 1048576 by omega)]
  cases goodM (isortL ltR xs) <;> rfl
/-- A map is in strict order. -/
theorem goodM_next {xs : List Region} (h : goodM xs = true) {i : Nat} (hi : i + 1 < xs.length) : (xs[i]'(by omega)).Base < xs[i + 1].Base := by
  have h1 := goodM_mem h (List.getElem_mem (show i < xs.length by omega))
  have h2 := goodM_mem h (List.getElem_mem hi)
  unfold goodM at h
  rw [Bool.and_eq_true] at h
  have := List.all_eq_true.1 h.1 (i + 1) (List.mem_range.2 hi)
  unfold badM at this
  rw [getD_at hi, Nat.add_sub_cancel, getD_at (show i < xs.length by omega), h2] at this
  have e1 : (((i + 1 : Nat) : Int) > 0) := by omega
  have s1 := oneR_spec h1
  rw [w64_id (by omega) (by omega)] at this
  simp [e1] at this
  omega
theorem goodM_strict : ∀ {xs : List Region}, (∀ (i : Nat) (hi : i + 1 < xs.length), (xs[i]'(by omega)).Base < xs[i + 1].Base) → xs.Pairwise fun a b => keyR a < keyR b
  | [], _ => List.Pairwise.nil
  | [x], _ => by simp
  | x :: y :: r, h => by
    have hr := goodM_strict (xs := y :: r) fun i hi => h (i + 1) (by simpa using hi)
    rw [List.pairwise_cons]
    refine ⟨fun a ha => ?_, hr⟩
    have h0 : x.Base < y.Base := h 0 (by simp)
    rcases List.mem_cons.1 ha with rfl | ha
    · exact h0
    · have := (List.pairwise_cons.1 hr).1 a ha
      unfold keyR at this ⊢
      omega
theorem strict_of {xs : List Region} (h : goodM xs = true) : xs.Pairwise fun a b => keyR a < keyR b := goodM_strict fun _ hi => goodM_next h hi
theorem ord_of {xs : List Region} (h : goodM xs = true) : ordered keyR xs := (strict_of h).imp fun {a b} hab => by omega
/-- Both orders give the same map, if one gives a map. -/
theorem same_map {xs ys : List Region} {r : Region} (hx : ordered keyR xs) (hp : ys.Perm (r :: xs)) : goodM (isortL ltR ys) = goodM (addR xs r) ∧ (goodM (addR xs r) = true → isortL ltR ys = addR xs r) := by
  have h1 : (isortL ltR ys).Perm (addR xs r) := ((isortL_perm ltR ys).trans hp).trans (addR_perm xs r).symm
  have o1 : ordered keyR (isortL ltR ys) := isortL_ord keyR ys
  have o2 := addR_ord hx r
  cases ha : goodM (addR xs r) with
  | true =>
    have := ordered_uniq keyR (strict_of ha) o1 h1.symm
    rw [← this]
    exact ⟨ha, fun _ => rfl⟩
  | false =>
    cases hb : goodM (isortL ltR ys) with
    | false => exact ⟨rfl, fun h => by cases h⟩
    | true =>
      have := ordered_uniq keyR (strict_of hb) o2 h1
      rw [this, ha] at hb
      cases hb
theorem clone_ok (xs : List Region) (h : xs.length ≤ 1048576) : M.slices_Clone_75 xs = some xs := by
  unfold M.slices_Clone_75
  rw [gxApp_ok (by simp; omega)]
  simp
theorem AddRegion_eq (xs : List Region) (r : Region) (h : (xs.length : Int) ≤ 1048576) : ∃ q, M.s_AddRegion xs r = some q ∧ M.i_AddRegion xs r = some q ∧ q.1.length ≤ 1048576 := by
  unfold M.s_AddRegion M.i_AddRegion
  simp only [s_goodM xs (by omega), i_goodM xs (by omega), Option.bind_some]
  cases hg : goodM xs with
  | false => exact ⟨_, rfl, rfl, by simp⟩
  | true =>
    have hl := goodM_len hg
    have hs := same_map (r := r) (ord_of hg) (show (xs ++ [r]).Perm (r :: xs) from List.perm_append_comm)
    simp only [s_add xs r (by omega), s_goodM _ (show (addR xs r).length ≤ 1048576 by rw [addR_len]; omega), clone_ok xs (by omega), gxApp_ok (show (xs.length + [r].length) * 32 ≤ 140737488355328 by simp; omega), i_asMap_ok (xs ++ [r]) (by simp; omega), hs.1, Option.bind_some, Bool.not_true, cond_false]
    cases ha : goodM (addR xs r) with
    | false => exact ⟨_, rfl, rfl, by simp⟩
    | true =>
      rw [hs.2 ha]
      exact ⟨_, rfl, rfl, by simp only; rw [addR_len]; omega⟩
theorem MoveRegion_eq (xs : List Region) (n b : Int) (h : (xs.length : Int) ≤ 1048576) : ∃ q, M.s_MoveRegion xs n b = some q ∧ M.i_MoveRegion xs n b = some q ∧ q.1.length ≤ 1048576 := by
  unfold M.s_MoveRegion M.i_MoveRegion
  simp only [s_goodM xs (by omega), i_goodM xs (by omega), s_in, i_in, Option.bind_some]
  cases hg : goodM xs with
  | false => exact ⟨_, rfl, rfl, by simp⟩
  | true =>
    have hl := goodM_len hg
    rw [w64_id (z := (xs.length : Int) - 1) (by omega) (by omega)]
    by_cases hn : 0 ≤ n ∧ n ≤ (xs.length : Int) - 1
    · obtain ⟨k, rfl⟩ : ∃ k : Nat, n = k := ⟨n.toNat, by omega⟩
      have hk : k < xs.length := by omega
      have hd : (decide ((0 : Int) ≤ (k : Int)) && decide ((k : Int) ≤ (xs.length : Int) - 1)) = true := by simp; omega
      have hs1 : gxSlice xs ((k + 1 : Nat) : Int) (xs.length : Int) = some (xs.drop (k + 1)) := gxSlice_drop (by omega)
      simp only [hd, Option.bind_some, Bool.not_true, cond_false, gxIdx_nat hk, gxSlice_take (show k ≤ xs.length by omega), w64_succ (show k ≤ 4611686018427387904 by omega), hs1, clone_ok xs (by omega), Int.toNat_natCast,
        gxApp_ok (show (([] : List Region).length + (xs.take k).length) * 32 ≤ 140737488355328 by simp; omega), List.nil_append, gxApp_ok (show ((xs.take k).length + (xs.drop (k + 1)).length) * 32 ≤ 140737488355328 by simp; omega)]
      have hdel : (xs.take k ++ xs.drop (k + 1)).Sublist xs := by
        conv => rhs; rw [← List.take_append_drop k xs, List.drop_eq_getElem_cons hk]
        exact List.Sublist.append_left (List.sublist_cons_self _ _) _
      have hord : ordered keyR (xs.take k ++ xs.drop (k + 1)) := List.Pairwise.sublist hdel (ord_of hg)
      have hperm : (xs.set k (⟨b, xs[k].Size, xs[k].Kind, xs[k].Unit⟩ : Region)).Perm (⟨b, xs[k].Size, xs[k].Kind, xs[k].Unit⟩ :: (xs.take k ++ xs.drop (k + 1))) := by
        rw [List.set_eq_take_append_cons_drop, if_pos hk]
        exact List.perm_middle
      have hs := same_map hord hperm
      have hlen : (xs.take k ++ xs.drop (k + 1)).length ≤ xs.length := hdel.length_le
      simp only [s_add _ _ (show (xs.take k ++ xs.drop (k + 1)).length ≤ 1048576 by omega), s_goodM _ (show (addR (xs.take k ++ xs.drop (k + 1)) ⟨b, xs[k].Size, xs[k].Kind, xs[k].Unit⟩).length ≤ 1048576 by rw [addR_len]; omega), i_asMap_ok (xs.set k ⟨b, xs[k].Size, xs[k].Kind, xs[k].Unit⟩) (by simp; omega), hs.1, Option.bind_some]
      cases ha : goodM (addR (xs.take k ++ xs.drop (k + 1)) ⟨b, xs[k].Size, xs[k].Kind, xs[k].Unit⟩) with
      | false => exact ⟨_, rfl, rfl, by simp⟩
      | true =>
        rw [hs.2 ha]
        exact ⟨_, rfl, rfl, by simp only; rw [addR_len]; omega⟩
    · have hd : (decide ((0 : Int) ≤ n) && decide (n ≤ (xs.length : Int) - 1)) = false := by
        rw [← Bool.decide_and]
        exact decide_eq_false hn
      rw [hd]
      exact ⟨_, rfl, rfl, by simp⟩
theorem pow_div {z : Int} (h : powS z = true) : ∃ n : Nat, (n : Int) * z = 65536 ∧ n ≤ 65536 := by
  rcases pow_cases h with rfl | rfl | rfl | rfl | rfl | rfl | rfl | rfl | rfl | rfl | rfl
  · exact ⟨16384, by omega, by omega⟩
  · exact ⟨8192, by omega, by omega⟩
  · exact ⟨4096, by omega, by omega⟩
  · exact ⟨2048, by omega, by omega⟩
  · exact ⟨1024, by omega, by omega⟩
  · exact ⟨512, by omega, by omega⟩
  · exact ⟨256, by omega, by omega⟩
  · exact ⟨128, by omega, by omega⟩
  · exact ⟨64, by omega, by omega⟩
  · exact ⟨32, by omega, by omega⟩
  · exact ⟨16, by omega, by omega⟩
theorem PlaceRegion_eq (xs : List Region) (z : Int) (h : (xs.length : Int) ≤ 1048576) : ∃ q, M.s_PlaceRegion xs z = some q ∧ M.i_PlaceRegion xs z = some q := by
  unfold M.s_PlaceRegion M.i_PlaceRegion
  simp only [s_goodM xs (by omega), i_goodM xs (by omega), s_size, i_size, Option.bind_some]
  cases hg : goodM xs with
  | false => exact ⟨_, rfl, rfl⟩
  | true => cases hz : powS z with
    | false => exact ⟨_, rfl, rfl⟩
    | true =>
      have hl := goodM_len hg
      have hz4 := pow_range hz
      obtain ⟨n, hn, hn2⟩ := pow_div hz
      simp only [Bool.not_true, cond_false, Option.bind_some]
      have hb : ∀ j : Nat, j < n → (j : Int) * z < 65536 ∧ (j : Int) * z + z ≤ 65536 ∧ 0 ≤ (j : Int) * z := by
        intro j hj
        have h1 : ((j : Int) + 1) * z ≤ (n : Int) * z := Int.mul_le_mul_of_nonneg_right (by omega) (by omega)
        rw [Int.add_mul, Int.one_mul] at h1
        have h2 : 0 ≤ (j : Int) * z := Int.mul_nonneg (by omega) (by omega)
        omega
      have hw : ∀ j : Nat, j < n → w64 ((j : Int) * z + z) = ((j + 1 : Nat) : Int) * z := by
        intro j hj
        have := hb j hj
        rw [w64_id (by omega) (by omega), Int.natCast_add, Int.add_mul]
        simp
      have hspec : ∀ {body : Int → Option (Int ⊕ (Unit ⊕ (Int × Bool)))}, (∀ s, body s = (bif decide (s < 65536) then (Option.bind (M.s_l17Add xs (⟨s, z, 0, 0⟩ : Region)) fun r3478 =>
          Option.bind (M.s_l17Good r3478) fun r3487 =>
          bif r3487 then some (.inr (.inr (s, true)))
          else some (.inl (w64 (s + z))))
          else some (.inr (.inl ())))) → whileM body gxFuel 0 = some (match (List.range n).find? (fun (j : Nat) => goodM (addR xs ⟨(j : Int) * z, z, 0, 0⟩)) with
            | some j => .inr ((j : Int) * z, true)
            | none => .inl ()) := by
        intro body hbody
        refine while_first (fun (j : Nat) => (j : Int) * z) (fun (j : Nat) => goodM (addR xs ⟨(j : Int) * z, z, 0, 0⟩)) (fun (j : Nat) => (Sum.inr ((j : Int) * z, true) : Unit ⊕ (Int × Bool))) (Sum.inl () : Unit ⊕ (Int × Bool)) n (by simp) (by omega) (fun j hj => ?_) ?_
        · have := hb j hj
          rw [hbody]
          simp only [this.1, decide_true, cond_true, s_add xs _ (show xs.length ≤ 1048576 by omega), s_goodM _ (show (addR xs ⟨(j : Int) * z, z, 0, 0⟩).length ≤ 1048576 by rw [addR_len]; omega), Option.bind_some, hw j hj]
          cases goodM (addR xs ⟨(j : Int) * z, z, 0, 0⟩) <;> rfl
        · rw [hbody, hn]
          rfl
      rw [hspec (fun s => rfl)]
      cases h6 : ((xs.length : Int) == 6) with
      | true =>
        have h6' : xs.length = 6 := by simp at h6; omega
        have : (List.range n).find? (fun (j : Nat) => goodM (addR xs ⟨(j : Int) * z, z, 0, 0⟩)) = none := by
          rw [List.find?_eq_none]
          intro j _ hj
          have := goodM_len hj
          rw [addR_len] at this
          omega
        rw [this]
        exact ⟨_, rfl, rfl⟩
      | false =>
        simp only [cond_false]
        rw [while_first (fun (j : Nat) => (j : Int) * z) (fun (j : Nat) => goodM (addR xs ⟨(j : Int) * z, z, 0, 0⟩)) (fun (j : Nat) => (Sum.inr ((j : Int) * z, true) : Unit ⊕ (Int × Bool))) (Sum.inl () : Unit ⊕ (Int × Bool)) n (by simp) (by omega) ?_ ?_]
        · cases (List.range n).find? (fun (j : Nat) => goodM (addR xs ⟨(j : Int) * z, z, 0, 0⟩)) <;> exact ⟨_, rfl, rfl⟩
        · intro j hj
          have := hb j hj
          have e1 : ((j + 1 : Nat) : Int) * z ≤ 65536 := by rw [← hw j hj, w64_id (by omega) (by omega)]; omega
          have hs := same_map (r := ⟨(j : Int) * z, z, 0, 0⟩) (ord_of hg) (show (xs ++ [(⟨(j : Int) * z, z, 0, 0⟩ : Region)]).Perm (⟨(j : Int) * z, z, 0, 0⟩ :: xs) from List.perm_append_comm)
          simp only [e1, decide_true, cond_true, clone_ok xs (show xs.length ≤ 1048576 by omega), gxApp_ok (show (xs.length + [(⟨(j : Int) * z, z, 0, 0⟩ : Region)].length) * 32 ≤ 140737488355328 by simp; omega), i_asMap_ok (xs ++ [⟨(j : Int) * z, z, 0, 0⟩]) (by simp; omega), hs.1, Option.bind_some, hw j hj]
          cases goodM (addR xs ⟨(j : Int) * z, z, 0, 0⟩) <;> rfl
        · have e1 : ¬ (w64 ((n : Int) * z + z) ≤ 65536) := by rw [w64_id (by omega) (by omega)]; omega
          simp only [e1, decide_false, cond_false]
end Go.Proofs.Ytphinfkojhecdaa
