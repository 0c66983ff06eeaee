/- Plain laws of the models: no program in sight. -/
import Derived.Test.YtphinfkojhecdaaRM
import Derived.Test.YtphinfkojhecdaaRL1
set_option linter.unusedVariables false
set_option linter.unusedSimpArgs false
set_option maxHeartbeats 4000000
namespace Go.Proofs.Ytphinfkojhecdaa
open Go.Gx
/-! ### Units between two addresses -/
theorem goodM_mem {xs : List Region} (h : goodM xs = true) {r : Region} (hr : r ∈ xs) : oneR r = true := by
  obtain ⟨i, hi, rfl⟩ := List.mem_iff_getElem.1 hr
  have := goodM_one h hi
  rwa [getD_at hi] at this
theorem oneR_spec {r : Region} (h : oneR r = true) : (4 ≤ r.Size ∧ r.Size ≤ 4096) ∧ (0 ≤ r.Base ∧ r.Base ≤ 65535) ∧ r.Base % r.Size = 0 ∧ (0 ≤ r.Kind ∧ r.Kind ≤ 3) ∧ (0 ≤ r.Unit ∧ r.Unit ≤ 15) := by
  unfold oneR inB at h
  simp only [Bool.and_eq_true, decide_eq_true_eq, beq_iff_eq] at h
  exact ⟨pow_range h.1, h.2.1, h.2.2.1, h.2.2.2.1, h.2.2.2.2⟩
/-! ### Split accesses -/
def partsR (ad wd : Int) (st : Bool) (w : Nat) (n : Nat) : List Access := (List.range n).map fun j => ⟨w64 (ad + ((j * w : Nat) : Int)), w, st⟩
/-! ### A region in its place -/
def keyR (r : Region) : Int := r.Base
def ltR (a b : Region) : Bool := decide (keyR a < keyR b)
def addR (xs : List Region) (r : Region) : List Region := xs.takeWhile (fun y => decide (y.Base < r.Base)) ++ r :: xs.dropWhile (fun y => decide (y.Base < r.Base))
theorem take_takeWhile {α : Type} (p : α → Bool) (xs : List α) : xs.take (xs.takeWhile p).length = xs.takeWhile p := by
  conv => lhs; arg 2; rw [← List.takeWhile_append_dropWhile (p := p) (l := xs)]
  rw [List.take_left]
theorem drop_takeWhile {α : Type} (p : α → Bool) (xs : List α) : xs.drop (xs.takeWhile p).length = xs.dropWhile p := by
  conv => lhs; arg 2; rw [← List.takeWhile_append_dropWhile (p := p) (l := xs)]
  rw [List.drop_left]
theorem addR_perm (xs : List Region) (r : Region) : (addR xs r).Perm (r :: xs) := by
  unfold addR
  refine (List.perm_middle).trans ?_
  rw [List.takeWhile_append_dropWhile]
theorem addR_len (xs : List Region) (r : Region) : (addR xs r).length = xs.length + 1 := by rw [(addR_perm xs r).length_eq, List.length_cons]
theorem addR_ord {xs : List Region} (h : ordered keyR xs) (r : Region) : ordered keyR (addR xs r) := by
  induction xs with
  | nil => simp [addR, ordered]
  | cons y l ih =>
    unfold ordered at h ih
    rw [List.pairwise_cons] at h
    have h2 := ih h.2
    unfold addR at h2 ⊢
    by_cases hy : y.Base < r.Base
    · simp only [List.takeWhile_cons, List.dropWhile_cons, hy, decide_true, if_true, List.cons_append]
      unfold ordered
      rw [List.pairwise_cons]
      refine ⟨fun a ha => ?_, h2⟩
      rw [List.mem_append, List.mem_cons] at ha
      rcases ha with ha | rfl | ha
      · exact h.1 a ((List.takeWhile_sublist _).mem ha)
      · unfold keyR; omega
      · exact h.1 a ((List.dropWhile_sublist _).mem ha)
    · simp only [List.takeWhile_cons, List.dropWhile_cons, hy, decide_false, Bool.false_eq_true, if_false, List.nil_append]
      unfold ordered
      rw [List.pairwise_cons, List.pairwise_cons]
      refine ⟨fun a ha => ?_, h.1, h.2⟩
      rcases List.mem_cons.1 ha with rfl | ha
      · unfold keyR; omega
      · have := h.1 a ha; unfold keyR at this ⊢; omega
theorem s_add (xs : List Region) (r : Region) (h : xs.length ≤ 1048576) : M.s_l17Add xs r = some (addR xs r) := by
  unfold M.s_l17Add
  have hk : (xs.takeWhile (fun y => decide (y.Base < r.Base))).length ≤ xs.length := (List.takeWhile_prefix _).length_le
  rw [while_place (xs := xs) (fun y => decide (y.Base < r.Base)) (by omega)]
  · have hd : ((xs.takeWhile (fun y => decide (y.Base < r.Base))).length + (xs.dropWhile (fun y => decide (y.Base < r.Base))).length) = xs.length := by
      rw [← List.length_append, List.takeWhile_append_dropWhile]
    simp only [Option.bind_some, gxSlice_take hk, gxSlice_drop hk, take_takeWhile, drop_takeWhile]
    rw [gxApp_ok (by simp; omega), Option.bind_some, gxApp_ok (by simp; omega), Option.bind_some, gxApp_ok (by simp; omega), Option.bind_some]
    simp [addR]
  · intro i hi
    have e0 : ((i : Int) < (xs.length : Int)) := by omega
    simp only [e0, decide_true, cond_true, gxIdx_nat hi, Option.bind_some]
    cases decide (xs[i].Base < r.Base) <;> rfl
  · simp only [Int.lt_irrefl, decide_false, cond_false, Option.bind_some]
theorem cmp_ok (a b : Region) : ∃ z, M.i_asMap_1 a b = some z ∧ decide (z < 0) = ltR a b := by
  unfold M.i_asMap_1 M.cmp_Compare_91 M.cmp_isNaN_95 ltR keyR
  simp only [Option.bind_some, bne_self_eq_false, cond_false]
  by_cases h : a.Base < b.Base
  · exact ⟨-1, by simp [h], by simp [h]⟩
  · by_cases h2 : a.Base > b.Base
    · exact ⟨1, by simp [h, h2], by simp [h]⟩
    · exact ⟨0, by simp [h, h2], by simp [h]⟩
theorem gxIdx_less {α : Type} {L : List α} {j : Nat} (h : j + 1 < L.length) (hj : j ≤ 1099511627776) : gxIdx L (w64 (((j + 1 : Nat) : Int) - 1)) = some (L[j]'(by omega)) := by
  rw [w64_id (by omega) (by omega), show (((j + 1 : Nat) : Int) - 1) = ((j : Nat) : Int) by omega]
  exact gxIdx_nat (by omega)
theorem sort_ins (xs : List Region) (h : xs.length ≤ 1048576) : M.slices_insertionSortCmpFunc_96__i_asMap_1 xs 0 (xs.length : Int) = some (isortL ltR xs) := by
  unfold M.slices_insertionSortCmpFunc_96__i_asMap_1
  rw [show w64 (0 + 1) = 1 from rfl, outer_run ltR (xs := xs) (by omega)]
  · rfl
  · intro i pre post x hp hi
    have e0 : ((i : Int) < (xs.length : Int)) := by omega
    subst hp
    have hin := inner_run (α := Region) ltR (body := fun s4678 =>
      Option.bind (α := Bool) (bif decide (s4678.1 > 0) then (Option.bind (gxIdx s4678.2 s4678.1) fun y4710 =>
      Option.bind (gxIdx s4678.2 (w64 (s4678.1 - 1))) fun y4711 =>
      Option.bind (M.i_asMap_1 y4710 y4711) fun r4712 =>
      some (decide (r4712 < 0)))
      else some false) fun o4706 =>
      bif o4706 then (Option.bind (gxIdx s4678.2 (w64 (s4678.1 - 1))) fun y4727 =>
      Option.bind (gxIdx s4678.2 s4678.1) fun y4728 =>
      Option.bind (gxIdx s4678.2 s4678.1) fun y4729 =>
      Option.bind (gxIdx (s4678.2.set s4678.1.toNat y4727) (w64 (s4678.1 - 1))) fun y4801 =>
      some (.inl (w64 (s4678.1 - 1), ((s4678.2.set s4678.1.toNat y4727).set (w64 (s4678.1 - 1)).toNat y4728))))
      else some (.inr s4678.2)) (by
        intro j L h1 hj
        have e1 : (((j + 1 : Nat) : Int) > 0) := by omega
        have e2 : w64 (((j + 1 : Nat) : Int) - 1) = (j : Int) := by rw [w64_id (by omega) (by omega)]; omega
        have h3 : j < (L.set (j + 1) (L[j]'(by omega))).length := by simp; omega
        obtain ⟨z, hz, hz2⟩ := cmp_ok L[j + 1] (L[j]'(by omega))
        simp only [e1, e2, decide_true, cond_true, gxIdx_nat h1, gxIdx_nat (show j < L.length by omega), hz, hz2, Option.bind_some, Int.toNat_natCast, gxIdx_nat h3]
        cases ltR L[j + 1] (L[j]'(by omega)) <;> rfl) (by intro L; rfl) x pre.reverse post gxFuel (by simp; unfold gxFuel; omega) (by simp; omega)
    rw [List.length_reverse, List.reverse_reverse] at hin
    simp only [e0, decide_true, cond_true]
    rw [hin]
    rfl
  · intro i L hi
    have e0 : ¬ (i < (xs.length : Int)) := by omega
    simp only [e0, decide_false, cond_false]
theorem i_asMap_ok (xs : List Region) (h : xs.length ≤ 19) : M.i_asMap xs = some (bif goodM (isortL ltR xs) then (isortL ltR xs, true) else ([], false)) := by
  unfold M.i_asMap M.slices_SortStableFunc_89__i_asMap_1 M.slices_stableCmpFunc_94__i_asMap_1
  have hl := isortL_len ltR xs
  have e1 : ¬ ((20 : Int) ≤ (xs.length : Int)) := by omega
  have e2 : ¬ ((20 : Int) < (xs.length : Int)) := by omega
  rw [gxApp_ok (by simp; omega), Option.bind_some, List.nil_append, while_small (r := (0, xs)) 1 (by omega) (by simp only [whileM, e1, decide_false, cond_false]), Option.bind_some, sort_ins xs (by omega), Option.bind_some,
    while_small (r := isortL ltR xs) 1 (by omega) (by simp only [whileM, e2, decide_false, cond_false])]
  simp only [Option.bind_some, i_goodM _ (show (isortL ltR xs).length ≤ 1048576 by omega)]
  cases goodM (isortL ltR xs) <;> rfl
/-- A map is in strict order. -/
theorem goodM_next {xs : List Region} (h : goodM xs = true) {i : Nat} (hi : i + 1 < xs.length) : (xs[i]'(by omega)).Base < xs[i + 1].Base := by
  have h1 := goodM_mem h (List.getElem_mem (show i < xs.length by omega))
  have h2 := goodM_mem h (List.getElem_mem hi)
  unfold goodM at h
  rw [Bool.and_eq_true] at h
  have := List.all_eq_true.1 h.1 (i + 1) (List.mem_range.2 hi)
  unfold badM at this
  rw [getD_at hi, Nat.add_sub_cancel, getD_at (show i < xs.length by omega), h2] at this
  have e1 : (((i + 1 : Nat) : Int) > 0) := by omega
  have s1 := oneR_spec h1
  rw [w64_id (by omega) (by omega)] at this
  simp [e1] at this
  omega
theorem goodM_strict : ∀ {xs : List Region}, (∀ (i : Nat) (hi : i + 1 < xs.length), (xs[i]'(by omega)).Base < xs[i + 1].Base) → xs.Pairwise fun a b => keyR a < keyR b
  | [], _ => List.Pairwise.nil
  | [x], _ => by simp
  | x :: y :: r, h => by
    have hr := goodM_strict (xs := y :: r) fun i hi => h (i + 1) (by simpa using hi)
    rw [List.pairwise_cons]
    refine ⟨fun a ha => ?_, hr⟩
    have h0 : x.Base < y.Base := h 0 (by simp)
    rcases List.mem_cons.1 ha with rfl | ha
    · exact h0
    · have := (List.pairwise_cons.1 hr).1 a ha
      unfold keyR at this ⊢
      omega
theorem strict_of {xs : List Region} (h : goodM xs = true) : xs.Pairwise fun a b => keyR a < keyR b := goodM_strict fun _ hi => goodM_next h hi
theorem ord_of {xs : List Region} (h : goodM xs = true) : ordered keyR xs := (strict_of h).imp fun {a b} hab => by omega
/-- Both orders give the same map, if one gives a map. -/
theorem same_map {xs ys : List Region} {r : Region} (hx : ordered keyR xs) (hp : ys.Perm (r :: xs)) : goodM (isortL ltR ys) = goodM (addR xs r) ∧ (goodM (addR xs r) = true → isortL ltR ys = addR xs r) := by
  have h1 : (isortL ltR ys).Perm (addR xs r) := ((isortL_perm ltR ys).trans hp).trans (addR_perm xs r).symm
  have o1 : ordered keyR (isortL ltR ys) := isortL_ord keyR ys
  have o2 := addR_ord hx r
  cases ha : goodM (addR xs r) with
  | true =>
    have := ordered_uniq keyR (strict_of ha) o1 h1.symm
    rw [← this]
    exact ⟨ha, fun _ => rfl⟩
  | false =>
    cases hb : goodM (isortL ltR ys) with
    | false => exact ⟨rfl, fun h => by cases h⟩
    | true =>
      have := ordered_uniq keyR (strict_of hb) o2 h1
      rw [this, ha] at hb
      cases hb
theorem clone_ok (xs : List Region) (h : xs.length ≤ 1048576) : M.slices_Clone_75 xs = some xs := by
  unfold M.slices_Clone_75
  rw [gxApp_ok (by simp; omega)]
  simp
theorem AddRegion_eq (xs : List Region) (r : Region) (h : (xs.length : Int) ≤ 1048576) : ∃ q, M.s_AddRegion xs r = some q ∧ M.i_AddRegion xs r = some q ∧ q.1.length ≤ 1048576 := by
  unfold M.s_AddRegion M.i_AddRegion
  simp only [s_goodM xs (by omega), i_goodM xs (by omega), Option.bind_some]
  cases hg : goodM xs with
  | false => exact ⟨_, rfl, rfl, by simp⟩
  | true =>
    have hl := goodM_len hg
    have hs := same_map (r := r) (ord_of hg) (show (xs ++ [r]).Perm (r :: xs) from List.perm_append_comm)
    simp only [s_add xs r (by omega), s_goodM _ (show (addR xs r).length ≤ 1048576 by rw [addR_len]; omega), clone_ok xs (by omega), gxApp_ok (show (xs.length + [r].length) * 32 ≤ 140737488355328 by simp; omega), i_asMap_ok (xs ++ [r]) (by simp; omega), hs.1, Option.bind_some, Bool.not_true, cond_false]
    cases ha : goodM (addR xs r) with
    | false => exact ⟨_, rfl, rfl, by simp⟩
    | true =>
      rw [hs.2 ha]
      exact ⟨_, rfl, rfl, by simp only; rw [addR_len]; omega⟩
theorem MoveRegion_eq (xs : List Region) (n b : Int) (h : (xs.length : Int) ≤ 1048576) : ∃ q, M.s_MoveRegion xs n b = some q ∧ M.i_MoveRegion xs n b = some q ∧ q.1.length ≤ 1048576 := by
  unfold M.s_MoveRegion M.i_MoveRegion
  simp only [s_goodM xs (by omega), i_goodM xs (by omega), s_in, i_in, Option.bind_some]
  cases hg : goodM xs with
  | false => exact ⟨_, rfl, rfl, by simp⟩
  | true =>
    have hl := goodM_len hg
    rw [w64_id (z := (xs.length : Int) - 1) (by omega) (by omega)]
    by_cases hn : 0 ≤ n ∧ n ≤ (xs.length : Int) - 1
    · obtain ⟨k, rfl⟩ : ∃ k : Nat, n = k := ⟨n.toNat, by omega⟩
      have hk : k < xs.length := by omega
      have hd : (decide ((0 : Int) ≤ (k : Int)) && decide ((k : Int) ≤ (xs.length : Int) - 1)) = true := by simp; omega
      have hs1 : gxSlice xs ((k + 1 : Nat) : Int) (xs.length : Int) = some (xs.drop (k + 1)) := gxSlice_drop (by omega)
      simp only [hd, Option.bind_some, Bool.not_true, cond_false, gxIdx_nat hk, gxSlice_take (show k ≤ xs.length by omega), w64_succ (show k ≤ 4611686018427387904 by omega), hs1, clone_ok xs (by omega), Int.toNat_natCast,
        gxApp_ok (show (([] : List Region).length + (xs.take k).length) * 32 ≤ 140737488355328 by simp; omega), List.nil_append, gxApp_ok (show ((xs.take k).length + (xs.drop (k + 1)).length) * 32 ≤ 140737488355328 by simp; omega)]
      have hdel : (xs.take k ++ xs.drop (k + 1)).Sublist xs := by
        conv => rhs; rw [← List.take_append_drop k xs, List.drop_eq_getElem_cons hk]
        exact List.Sublist.append_left (List.sublist_cons_self _ _) _
      have hord : ordered keyR (xs.take k ++ xs.drop (k + 1)) := List.Pairwise.sublist hdel (ord_of hg)
      have hperm : (xs.set k (⟨b, xs[k].Size, xs[k].Kind, xs[k].Unit⟩ : Region)).Perm (⟨b, xs[k].Size, xs[k].Kind, xs[k].Unit⟩ :: (xs.take k ++ xs.drop (k + 1))) := by
        rw [List.set_eq_take_append_cons_drop, if_pos hk]
        exact List.perm_middle
      have hs := same_map hord hperm
      have hlen : (xs.take k ++ xs.drop (k + 1)).length ≤ xs.length := hdel.length_le
      simp only [s_add _ _ (show (xs.take k ++ xs.drop (k + 1)).length ≤ 1048576 by omega), s_goodM _ (show (addR (xs.take k ++ xs.drop (k + 1)) ⟨b, xs[k].Size, xs[k].Kind, xs[k].Unit⟩).length ≤ 1048576 by rw [addR_len]; omega), i_asMap_ok (xs.set k ⟨b, xs[k].Size, xs[k].Kind, xs[k].Unit⟩) (by simp; omega), hs.1, Option.bind_some]
      cases ha : goodM (addR (xs.take k ++ xs.drop (k + 1)) ⟨b, xs[k].Size, xs[k].Kind, xs[k].Unit⟩) with
      | false => exact ⟨_, rfl, rfl, by simp⟩
      | true =>
        rw [hs.2 ha]
        exact ⟨_, rfl, rfl, by simp only; rw [addR_len]; omega⟩
    · have hd : (decide ((0 : Int) ≤ n) && decide (n ≤ (xs.length : Int) - 1)) = false := by
        rw [← Bool.decide_and]
        exact decide_eq_false hn
      rw [hd]
      exact ⟨_, rfl, rfl, by simp⟩
theorem pow_div {z : Int} (h : powS z = true) : ∃ n : Nat, (n : Int) * z = 65536 ∧ n ≤ 65536 := by
  rcases pow_cases h with rfl | rfl | rfl | rfl | rfl | rfl | rfl | rfl | rfl | rfl | rfl
  · exact ⟨16384, by omega, by omega⟩
  · exact ⟨8192, by omega, by omega⟩
  · exact ⟨4096, by omega, by omega⟩
  · exact ⟨2048, by omega, by omega⟩
  · exact ⟨1024, by omega, by omega⟩
  · exact ⟨512, by omega, by omega⟩
  · exact ⟨256, by omega, by omega⟩
  · exact ⟨128, by omega, by omega⟩
  · exact ⟨64, by omega, by omega⟩
  · exact ⟨32, by omega, by omega⟩
  · exact ⟨16, by omega, by omega⟩
theorem PlaceRegion_eq (xs : List Region) (z : Int) (h : (xs.length : Int) ≤ 1048576) : ∃ q, M.s_PlaceRegion xs z = some q ∧ M.i_PlaceRegion xs z = some q := by
  unfold M.s_PlaceRegion M.i_PlaceRegion
  simp only [s_goodM xs (by omega), i_goodM xs (by omega), s_size, i_size, Option.bind_some]
  cases hg : goodM xs with
  | false => exact ⟨_, rfl, rfl⟩
  | true => cases hz : powS z with
    | false => exact ⟨_, rfl, rfl⟩
    | true =>
      have hl := goodM_len hg
      have hz4 := pow_range hz
      obtain ⟨n, hn, hn2⟩ := pow_div hz
      simp only [Bool.not_true, cond_false, Option.bind_some]
      have hb : ∀ j : Nat, j < n → (j : Int) * z < 65536 ∧ (j : Int) * z + z ≤ 65536 ∧ 0 ≤ (j : Int) * z := by
        intro j hj
        have h1 : ((j : Int) + 1) * z ≤ (n : Int) * z := Int.mul_le_mul_of_nonneg_right (by omega) (by omega)
        rw [Int.add_mul, Int.one_mul] at h1
        have h2 : 0 ≤ (j : Int) * z := Int.mul_nonneg (by omega) (by omega)
        omega
      have hw : ∀ j : Nat, j < n → w64 ((j : Int) * z + z) = ((j + 1 : Nat) : Int) * z := by
        intro j hj
        have := hb j hj
        rw [w64_id (by omega) (by omega), Int.natCast_add, Int.add_mul]
        simp
      have hspec : ∀ {body : Int → Option (Int ⊕ (Unit ⊕ (Int × Bool)))}, (∀ s, body s = (bif decide (s < 65536) then (Option.bind (M.s_l17Add xs (⟨s, z, 0, 0⟩ : Region)) fun r3478 =>
          Option.bind (M.s_l17Good r3478) fun r3487 =>
          bif r3487 then some (.inr (.inr (s, true)))
          else some (.inl (w64 (s + z))))
          else some (.inr (.inl ())))) → whileM body gxFuel 0 = some (match (List.range n).find? (fun (j : Nat) => goodM (addR xs ⟨(j : Int) * z, z, 0, 0⟩)) with
            | some j => .inr ((j : Int) * z, true)
            | none => .inl ()) := by
        intro body hbody
        refine while_first (fun (j : Nat) => (j : Int) * z) (fun (j : Nat) => goodM (addR xs ⟨(j : Int) * z, z, 0, 0⟩)) (fun (j : Nat) => (Sum.inr ((j : Int) * z, true) : Unit ⊕ (Int × Bool))) (Sum.inl () : Unit ⊕ (Int × Bool)) n (by simp) (by omega) (fun j hj => ?_) ?_
        · have := hb j hj
          rw [hbody]
          simp only [this.1, decide_true, cond_true, s_add xs _ (show xs.length ≤ 1048576 by omega), s_goodM _ (show (addR xs ⟨(j : Int) * z, z, 0, 0⟩).length ≤ 1048576 by rw [addR_len]; omega), Option.bind_some, hw j hj]
          cases goodM (addR xs ⟨(j : Int) * z, z, 0, 0⟩) <;> rfl
        · rw [hbody, hn]
          rfl
      rw [hspec (fun s => rfl)]
      cases h6 : ((xs.length : Int) == 6) with
      | true =>
        have h6' : xs.length = 6 := by simp at h6; omega
        have : (List.range n).find? (fun (j : Nat) => goodM (addR xs ⟨(j : Int) * z, z, 0, 0⟩)) = none := by
          rw [List.find?_eq_none]
          intro j _ hj
          have := goodM_len hj
          rw [addR_len] at this
          omega
        rw [this]
        exact ⟨_, rfl, rfl⟩
      | false =>
        simp only [cond_false]
        rw [while_first (fun (j : Nat) => (j : Int) * z) (fun (j : Nat) => goodM (addR xs ⟨(j : Int) * z, z, 0, 0⟩)) (fun (j : Nat) => (Sum.inr ((j : Int) * z, true) : Unit ⊕ (Int × Bool))) (Sum.inl () : Unit ⊕ (Int × Bool)) n (by simp) (by omega) ?_ ?_]
        · cases (List.range n).find? (fun (j : Nat) => goodM (addR xs ⟨(j : Int) * z, z, 0, 0⟩)) <;> exact ⟨_, rfl, rfl⟩
        · intro j hj
          have := hb j hj
          have e1 : ((j + 1 : Nat) : Int) * z ≤ 65536 := by rw [← hw j hj, w64_id (by omega) (by omega)]; omega
          have hs := same_map (r := ⟨(j : Int) * z, z, 0, 0⟩) (ord_of hg) (show (xs ++ [(⟨(j : Int) * z, z, 0, 0⟩ : Region)]).Perm (⟨(j : Int) * z, z, 0, 0⟩ :: xs) from List.perm_append_comm)
          simp only [e1, decide_true, cond_true, clone_ok xs (show xs.length ≤ 1048576 by omega), gxApp_ok (show (xs.length + [(⟨(j : Int) * z, z, 0, 0⟩ : Region)].length) * 32 ≤ 140737488355328 by simp; omega), i_asMap_ok (xs ++ [⟨(j : Int) * z, z, 0, 0⟩]) (by simp; omega), hs.1, Option.bind_some, hw j hj]
          cases goodM (addR xs ⟨(j : Int) * z, z, 0, 0⟩) <;> rfl
        · have e1 : ¬ (w64 ((n : Int) * z + z) ≤ 65536) := by rw [w64_id (by omega) (by omega)]; omega
          simp only [e1, decide_false, cond_false]

/-! ### Loops with an invariant -/
theorem while_inv_fuel {σ ρ : Type} {body : σ → Option (σ ⊕ ρ)} (R : Nat → σ → Prop) (Q : ρ → Prop) (n : Nat) (hstep : ∀ i s, i < n → R i s → (∃ s', body s = some (.inl s') ∧ R (i + 1) s') ∨ (∃ r, body s = some (.inr r) ∧ Q r)) (hend : ∀ s, R n s → ∃ r, body s = some (.inr r) ∧ Q r) : ∀ (k i fuel : Nat) (s : σ), i + k = n → k < fuel → R i s → ∃ r, whileM body fuel s = some r ∧ Q r
  | 0, i, fuel, s, hi, hf, hR => by
    obtain ⟨m, rfl⟩ : ∃ m, fuel = m + 1 := ⟨fuel - 1, by omega⟩
    obtain ⟨r, hr, hq⟩ := hend s (by rw [← hi]; exact hR)
    exact ⟨r, by simp only [whileM, hr], hq⟩
  | k + 1, i, fuel, s, hi, hf, hR => by
    obtain ⟨m, rfl⟩ : ∃ m, fuel = m + 1 := ⟨fuel - 1, by omega⟩
    rcases hstep i s (by omega) hR with ⟨s', hs, hR'⟩ | ⟨r, hr, hq⟩
    · obtain ⟨r, hr, hq⟩ := while_inv_fuel R Q n hstep hend k (i + 1) m s' (by omega) (by omega) hR'
      exact ⟨r, by simp only [whileM, hs]; exact hr, hq⟩
    · exact ⟨r, by simp only [whileM, hr], hq⟩
theorem while_inv {σ ρ : Type} {body : σ → Option (σ ⊕ ρ)} {s0 : σ} (R : Nat → σ → Prop) (Q : ρ → Prop) (n : Nat) (hn : n ≤ 4611686018427387904) (h0 : R 0 s0) (hstep : ∀ i s, i < n → R i s → (∃ s', body s = some (.inl s') ∧ R (i + 1) s') ∨ (∃ r, body s = some (.inr r) ∧ Q r)) (hend : ∀ s, R n s → ∃ r, body s = some (.inr r) ∧ Q r) : ∃ r, whileM body gxFuel s0 = some r ∧ Q r :=
  while_inv_fuel R Q n hstep hend n 0 gxFuel s0 (by omega) (by unfold gxFuel; omega) h0
theorem while_map {β : Type} (F : Nat → β) {n : Nat} {body : List β × Int → Option ((List β × Int) ⊕ List β)} (hl : n ≤ 1099511627776)
    (h : ∀ (i : Nat) (hi : i < n) (acc : List β), acc.length = i → body (acc, (i : Int)) = some (.inl (acc ++ [F i], w64 ((i : Int) + 1))))
    (he : ∀ acc : List β, acc.length = n → body (acc, (n : Int)) = some (.inr acc)) : whileM body gxFuel ([], 0) = some ((List.range n).map F) := by
  refine while_run (fun i => ((List.range i).map F, (i : Int))) _ n (by simp) (by omega) (fun i hi => ?_) (he _ (by simp))
  rw [h i hi _ (by simp), w64_succ (by omega), List.range_succ, List.map_append]
  rfl

/-! ### Draws -/
/-- The code is of bytes; so many steps at most have been made. -/
def curI (c : l1Cur) (n : Nat) : Prop := okL okU c.code ∧ 0 ≤ c.at_ ∧ c.at_ ≤ n
theorem u8_range {x : Int} (h : okU x) : 0 ≤ x ∧ x ≤ 255 := by
  unfold okU at h
  simp [Lit.wf, IntKind.min, IntKind.max, IntKind.bits, IntKind.signed] at h
  omega
theorem and255 (x : Int) : 0 ≤ gxAnd .u64 x 255 ∧ gxAnd .u64 x 255 ≤ 255 := by
  unfold gxAnd
  have h1 : (BitVec.ofInt 64 x &&& BitVec.ofInt 64 255).toNat ≤ 255 := by
    rw [BitVec.toNat_and]
    have : (BitVec.ofInt 64 255).toNat = 255 := rfl
    rw [this]
    exact Nat.and_le_right
  show 0 ≤ IntKind.u64.wrap ((BitVec.ofInt 64 x &&& BitVec.ofInt 64 255).toNat : Int) ∧ IntKind.u64.wrap ((BitVec.ofInt 64 x &&& BitVec.ofInt 64 255).toNat : Int) ≤ 255
  generalize (BitVec.ofInt 64 x &&& BitVec.ofInt 64 255).toNat = n at h1
  have h2 : IntKind.u64.wrap (n : Int) = n := by
    simp [IntKind.wrap, IntKind.bits, IntKind.signed]
    omega
  rw [h2]
  omega
theorem next_ok (c : l1Cur) (n : Nat) (h : curI c n) (hn : n ≤ 1099511627776) : ∃ r, M.s_l1Cur_next c = some r ∧ (0 ≤ r.1 ∧ r.1 ≤ 255) ∧ 0 ≤ r.2.1 ∧ r.2.1 ≤ ((n + 1 : Nat) : Int) := by
  obtain ⟨hc, h0, h1⟩ := h
  unfold M.s_l1Cur_next
  rw [w64_id (z := c.at_ + 1) (by omega) (by omega)]
  have hfst : ∃ b, (bif decide (c.at_ < (c.code.length : Int)) then (Option.bind (gxIdx c.code c.at_) fun y7680 => some (w64 y7680)) else some 0) = some b ∧ 0 ≤ b ∧ b ≤ 255 := by
    by_cases hlt : c.at_ < (c.code.length : Int)
    · obtain ⟨i, hi⟩ : ∃ i : Nat, c.at_ = i := ⟨c.at_.toNat, by omega⟩
      rw [hi] at hlt ⊢
      have hil : i < c.code.length := by omega
      have hb := u8_range (hc.2 _ (List.getElem_mem hil))
      simp only [hlt, decide_true, cond_true, gxIdx_nat hil, Option.bind_some, w64_id (z := c.code[i]) (by omega) (by omega)]
      exact ⟨_, rfl, hb.1, hb.2⟩
    · simp only [hlt, decide_false, cond_false]
      exact ⟨0, rfl, by omega, by omega⟩
  obtain ⟨b, hb, hb1⟩ := hfst
  rw [hb, Option.bind_some]
  by_cases hle : c.at_ + 1 ≤ (c.code.length : Int)
  · simp only [hle, decide_true, cond_true]
    exact ⟨_, rfl, hb1, by simp only; omega, by simp only; omega⟩
  · simp only [hle, decide_false, cond_false]
    refine ⟨_, rfl, ?_, by simp only; omega, by simp only; omega⟩
    have := and255 ((IntKind.u64.wrap ((IntKind.u64.wrap ((IntKind.u64.wrap (c.seed * 6364136223846793005)) + (IntKind.u64.wrap b))) + 843843)).fdiv (2 ^ 40))
    simp only
    rw [w64_id (by omega) (by omega)]
    exact this
/-- What a pick among k gives. -/
theorem pick_ok (c : l1Cur) (k : Int) (n : Nat) (h : curI c n) (hn : n ≤ 1099511000000) (hk : k ≤ 9223372036854775807) : ∃ r, M.s_l1Cur_pick c k = some r ∧ 0 ≤ r.1 ∧ (r.1 < k ∨ r.1 = 0) ∧ (k ≥ 1 → r.1 < k) ∧ curI ⟨c.code, r.2.1, r.2.2⟩ (n + 2) := by
  unfold M.s_l1Cur_pick
  by_cases h1 : k ≤ 1
  · simp only [h1, decide_true, cond_true]
    exact ⟨_, rfl, by simp, Or.inr rfl, fun h => by simp only; omega, h.1, h.2.1, by have := h.2.2; simp only; omega⟩
  · simp only [h1, decide_false, cond_false]
    obtain ⟨r, hr, hb, ha0, ha1⟩ := next_ok c n h (by omega)
    rw [hr, Option.bind_some]
    have hrem : ∀ v : Int, 0 ≤ v → gxRem v k = some (v % k) := by
      intro v hv
      unfold gxRem
      rw [if_neg (by omega), Int.tmod_eq_emod_of_nonneg hv]
    by_cases h2 : k > 200
    · simp only [h2, decide_true, cond_true]
      obtain ⟨r2, hr2, hb2, ha2, ha3⟩ := next_ok ⟨c.code, r.2.1, r.2.2⟩ (n + 1) ⟨h.1, ha0, ha1⟩ (by omega)
      rw [hr2, Option.bind_some, Option.bind_some]
      have e : w64 ((w64 (r.1 * 256)) + r2.1) = r.1 * 256 + r2.1 := by
        rw [w64_id (z := r.1 * 256) (by omega) (by omega), w64_id (by omega) (by omega)]
      simp only [e, hrem (r.1 * 256 + r2.1) (by omega), Option.bind_some]
      have p1 := Int.emod_nonneg (r.1 * 256 + r2.1) (show k ≠ 0 by omega)
      have p2 := Int.emod_lt_of_pos (r.1 * 256 + r2.1) (show 0 < k by omega)
      exact ⟨_, rfl, p1, Or.inl p2, fun _ => p2, h.1, ha2, by simp only; omega⟩
    · simp only [h2, decide_false, cond_false, Option.bind_some, hrem r.1 hb.1]
      have p1 := Int.emod_nonneg r.1 (show k ≠ 0 by omega)
      have p2 := Int.emod_lt_of_pos r.1 (show 0 < k by omega)
      exact ⟨_, rfl, p1, Or.inl p2, fun _ => p2, h.1, ha0, by simp only; omega⟩
theorem among_ok (c : l1Cur) (l : List Int) (n : Nat) (h : curI c n) (hn : n ≤ 1099511000000) (hl : 0 < l.length ∧ l.length ≤ 1000) : ∃ r, M.s_l1Cur_among c l = some r ∧ r.1 ∈ l ∧ curI ⟨c.code, r.2.1, r.2.2⟩ (n + 2) := by
  unfold M.s_l1Cur_among
  obtain ⟨r, hr, h0, _, h1, hc⟩ := pick_ok c (l.length : Int) n h hn (by omega)
  have h1 := h1 (by omega)
  rw [hr, Option.bind_some]
  obtain ⟨i, hi⟩ : ∃ i : Nat, r.1 = i := ⟨r.1.toNat, by omega⟩
  have hil : i < l.length := by omega
  rw [hi, gxIdx_nat hil, Option.bind_some]
  exact ⟨_, rfl, List.getElem_mem hil, hc⟩

/-! ### Draws of regions and accesses -/
theorem curI.mono {c : l1Cur} {n m : Nat} (h : curI c n) (hm : n ≤ m) : curI c m := ⟨h.1, h.2.1, by have := h.2.2; omega⟩
theorem region_ok (c : l1Cur) (n : Nat) (h : curI c n) (hn : n ≤ 1099510000000) : ∃ r, M.s_l1Cur_region c = some r ∧ curI ⟨c.code, r.2.1, r.2.2⟩ (n + 12) := by
  unfold M.s_l1Cur_region
  obtain ⟨a, ha, ham, hac⟩ := among_ok c [4, 8, 16, 256, 4096] n h (by omega) (by simp)
  obtain ⟨b, hb, _, _, _, hbc⟩ := pick_ok ⟨c.code, a.2.1, a.2.2⟩ 4 (n + 2) hac (by omega) (by omega)
  obtain ⟨d, hd, _, _, _, hdc⟩ := pick_ok ⟨c.code, b.2.1, b.2.2⟩ 16 (n + 2 + 2) hbc (by omega) (by omega)
  have hne : a.1 ≠ 0 := by
    intro e
    rw [e] at ham
    simp at ham
  have hq : ∃ q, gxDiv 65536 a.1 = some q := by
    unfold gxDiv
    rw [if_neg hne]
    exact ⟨_, rfl⟩
  obtain ⟨q, hq⟩ := hq
  obtain ⟨e, he, _, hec⟩ := among_ok ⟨c.code, d.2.1, d.2.2⟩ [0, 1, 2, 3, 15, w64 (q - 1)] (n + 2 + 2 + 2) hdc (by omega) (by simp)
  obtain ⟨f, hf, _, _, _, hfc⟩ := pick_ok ⟨c.code, e.2.1, e.2.2⟩ 60 (n + 2 + 2 + 2 + 2) hec (by omega) (by omega)
  simp only [ha, hb, hd, hq, he, hf, Option.bind_some]
  cases f.1 == 0 with
  | true =>
    obtain ⟨g, hg, _, hgc⟩ := among_ok ⟨c.code, f.2.1, f.2.2⟩ [(-4), 2, 65536] _ hfc (by omega) (by simp)
    simp only [cond_true, hg, Option.bind_some]
    exact ⟨_, rfl, hgc⟩
  | false =>
    cases f.1 == 1 with
    | true =>
      obtain ⟨g, hg, _, hgc⟩ := among_ok ⟨c.code, f.2.1, f.2.2⟩ [0, 2, 6, 8192] _ hfc (by omega) (by simp)
      simp only [cond_true, cond_false, hg, Option.bind_some]
      exact ⟨_, rfl, hgc⟩
    | false =>
      cases f.1 == 2 with
      | true =>
        obtain ⟨g, hg, _, hgc⟩ := among_ok ⟨c.code, f.2.1, f.2.2⟩ [(-1), 4] _ hfc (by omega) (by simp)
        simp only [cond_true, cond_false, hg, Option.bind_some]
        exact ⟨_, rfl, hgc⟩
      | false =>
        cases f.1 == 3 with
        | true =>
          obtain ⟨g, hg, _, hgc⟩ := among_ok ⟨c.code, f.2.1, f.2.2⟩ [(-1), 16] _ hfc (by omega) (by simp)
          simp only [cond_true, cond_false, hg, Option.bind_some]
          exact ⟨_, rfl, hgc⟩
        | false =>
          simp only [cond_false, Option.bind_some]
          exact ⟨_, rfl, hfc.mono (by omega)⟩
theorem add_small (xs : List Region) (r : Region) (h : xs.length ≤ 1048576) : ∃ q, M.s_AddRegion xs r = some q ∧ q.1.length ≤ 7 := by
  unfold M.s_AddRegion
  simp only [s_goodM xs h, Option.bind_some]
  cases hg : goodM xs with
  | false => exact ⟨_, rfl, by simp⟩
  | true =>
    have hl := goodM_len hg
    simp only [s_add xs r h, s_goodM _ (show (addR xs r).length ≤ 1048576 by rw [addR_len]; omega), Option.bind_some, Bool.not_true, cond_false]
    cases goodM (addR xs r) with
    | false => exact ⟨_, rfl, by simp⟩
    | true => exact ⟨_, rfl, by simp only; rw [addR_len]; omega⟩
theorem regions_ok (c : l1Cur) (n : Nat) (h : curI c n) (hn : n ≤ 1099500000000) : ∃ r, M.s_l1Cur_regions c = some r ∧ r.1.length ≤ 8 ∧ curI ⟨c.code, r.2.1, r.2.2⟩ (n + 200) := by
  unfold M.s_l1Cur_regions
  obtain ⟨a, ha, ha0, _, ha1, hac⟩ := pick_ok c 7 n h (by omega) (by omega)
  have ha1 := ha1 (by omega)
  rw [ha, Option.bind_some]
  obtain ⟨q, hq, hq2⟩ := while_inv (body := fun s8420 : List Region × Int × Int × Int =>
    bif decide (s8420.2.1 > 0) then (Option.bind (M.s_l1Cur_region (⟨c.code, s8420.2.2.1, s8420.2.2.2⟩ : l1Cur)) fun r8442 =>
    Option.bind (M.s_AddRegion s8420.1 r8442.1) fun r8446 =>
    Option.bind (α := List Region) (bif r8446.2 then some r8446.1
    else some s8420.1) fun o8456 =>
    some (Sum.inl (β := List Region × Int × Int) (o8456, w64 (s8420.2.1 - 1), r8442.2.1, r8442.2.2)))
    else some (.inr (s8420.1, s8420.2.2.1, s8420.2.2.2))) (s0 := (([] : List Region), a.1, a.2.1, a.2.2)) (fun i s => s.1.length ≤ 7 ∧ 0 ≤ s.2.1 ∧ s.2.1 ≤ 7 - (i : Int) ∧ curI ⟨c.code, s.2.2.1, s.2.2.2⟩ (n + 2 + 12 * i)) (fun r => r.1.length ≤ 7 ∧ curI ⟨c.code, r.2.1, r.2.2⟩ (n + 2 + 84)) 7 (by omega) ⟨by simp, ha0, by simp only; omega, hac⟩ (fun i s hi hR => by
      obtain ⟨xs, k, u, v⟩ := s
      obtain ⟨hx, hk0, hk1, hc⟩ := hR
      simp only at hx hk0 hk1 hc
      by_cases hk : k > 0
      · obtain ⟨r, hr, hrc⟩ := region_ok ⟨c.code, u, v⟩ _ hc (by omega)
        obtain ⟨q, hq, hql⟩ := add_small xs r.1 (by omega)
        simp only [hk, decide_true, cond_true, hr, hq, Option.bind_some, w64_id (z := k - 1) (by omega) (by omega)]
        cases q.2 with
        | true => exact Or.inl ⟨_, rfl, hql, by simp only; omega, by simp only; omega, hrc.mono (by omega)⟩
        | false => exact Or.inl ⟨_, rfl, hx, by simp only; omega, by simp only; omega, hrc.mono (by omega)⟩
      · simp only [hk, decide_false, cond_false]
        exact Or.inr ⟨_, rfl, hx, hc.mono (by omega)⟩) (fun s hR => by
      obtain ⟨xs, k, u, v⟩ := s
      obtain ⟨hx, hk0, hk1, hc⟩ := hR
      simp only at hx hk0 hk1 hc
      have hk : ¬ (k > 0) := by omega
      simp only [hk, decide_false, cond_false]
      exact ⟨_, rfl, hx, hc.mono (by omega)⟩)
  obtain ⟨hql, hqc⟩ := hq2
  rw [hq, Option.bind_some]
  obtain ⟨b, hb, hb0, _, hb1, hbc⟩ := pick_ok ⟨c.code, q.2.1, q.2.2⟩ 30 _ hqc (by omega) (by omega)
  rw [hb, Option.bind_some]
  cases b.1 == 0 with
  | true =>
    obtain ⟨r, hr, hrc⟩ := region_ok ⟨c.code, b.2.1, b.2.2⟩ _ hbc (by omega)
    simp only [cond_true, hr, Option.bind_some, gxApp_ok (show (q.1.length + [r.1].length) * 32 ≤ 140737488355328 by simp; omega)]
    exact ⟨_, rfl, by simp; omega, hrc.mono (by omega)⟩
  | false =>
    cases b.1 == 1 with
    | false =>
      simp only [cond_false, Option.bind_some]
      exact ⟨_, rfl, by simp only; omega, hbc.mono (by omega)⟩
    | true =>
      simp only [cond_true, cond_false]
      obtain ⟨q2, hq2, hq3⟩ := while_inv (body := fun s8892 : List Region × Int × Int × Int =>
        Option.bind (M.s_l1Cur_pick (⟨c.code, s8892.2.2.1, s8892.2.2.2⟩ : l1Cur) 2) fun r8913 =>
        bif decide (s8892.2.1 < (w64 (6 + r8913.1))) then (Option.bind (gxApp 32 s8892.1 [(⟨w64 (8 * s8892.2.1), 4, s8892.2.1.tmod 4, s8892.2.1⟩ : Region)]) fun ap8925 =>
        some (Sum.inl (β := List Region × Int × Int) (ap8925, w64 (s8892.2.1 + 1), r8913.2.1, r8913.2.2)))
        else some (.inr (s8892.1, r8913.2.1, r8913.2.2))) (s0 := (([] : List Region), 0, b.2.1, b.2.2)) (fun i s => s.1.length = i ∧ s.2.1 = (i : Int) ∧ curI ⟨c.code, s.2.2.1, s.2.2.2⟩ (n + 88 + 2 * i)) (fun r => r.1.length ≤ 7 ∧ curI ⟨c.code, r.2.1, r.2.2⟩ (n + 88 + 16)) 7 (by omega) ⟨rfl, rfl, hbc.mono (by omega)⟩ (fun i s hi hR => by
          obtain ⟨xs, k, u, v⟩ := s
          obtain ⟨hx, hk, hc⟩ := hR
          simp only at hx hk hc
          subst hk
          obtain ⟨r, hr, hr0, _, hr1, hrc⟩ := pick_ok ⟨c.code, u, v⟩ 2 _ hc (by omega) (by omega)
          have hr1 := hr1 (by omega)
          simp only [hr, Option.bind_some, w64_id (z := 6 + r.1) (by omega) (by omega)]
          by_cases hlt : (i : Int) < 6 + r.1
          · simp only [hlt, decide_true, cond_true, w64_succ (show i ≤ 4611686018427387904 by omega)]
            rw [gxApp_ok (by simp; omega), Option.bind_some]
            exact Or.inl ⟨_, rfl, by simp; omega, rfl, hrc.mono (by omega)⟩
          · simp only [hlt, decide_false, cond_false]
            exact Or.inr ⟨_, rfl, by simp only; omega, hrc.mono (by omega)⟩) (fun s hR => by
          obtain ⟨xs, k, u, v⟩ := s
          obtain ⟨hx, hk, hc⟩ := hR
          simp only at hx hk hc
          subst hk
          obtain ⟨r, hr, hr0, _, hr1, hrc⟩ := pick_ok ⟨c.code, u, v⟩ 2 _ hc (by omega) (by omega)
          have hr1 := hr1 (by omega)
          have hlt : ¬ (((7 : Nat) : Int) < 6 + r.1) := by omega
          simp only [hr, Option.bind_some, w64_id (z := 6 + r.1) (by omega) (by omega), hlt, decide_false, cond_false]
          exact ⟨_, rfl, by simp only; omega, hrc.mono (by omega)⟩)
      obtain ⟨hl2, hc2⟩ := hq3
      rw [hq2]
      simp only [Option.bind_some]
      exact ⟨_, rfl, by simp only; omega, hc2.mono (by omega)⟩
theorem cur0 {code : List Int} (h : okL okU code) : curI ⟨code, 0, 0⟩ 0 := ⟨h, by simp, by simp⟩
/-! ### The bus -/
theorem goodM_apart {xs : List Region} (h : goodM xs = true) : ∀ (j i : Nat) (hi : i < xs.length) (hj : j < i), (xs[j]'(by omega)).Base + (xs[j]'(by omega)).Size ≤ xs[i].Base := by
  intro j i
  induction i with
  | zero => intro _ hj; omega
  | succ i ih =>
    intro hi hj
    have h1 := goodM_mem h (List.getElem_mem (show i < xs.length by omega))
    have s1 := oneR_spec h1
    have hn : (xs[i]'(by omega)).Base + (xs[i]'(by omega)).Size ≤ xs[i + 1].Base := by
      have h2 := goodM_mem h (List.getElem_mem hi)
      have h3 := h
      unfold goodM at h3
      rw [Bool.and_eq_true] at h3
      have := List.all_eq_true.1 h3.1 (i + 1) (List.mem_range.2 hi)
      unfold badM at this
      rw [getD_at hi, Nat.add_sub_cancel, getD_at (show i < xs.length by omega), h2] at this
      have e1 : (((i + 1 : Nat) : Int) > 0) := by omega
      rw [w64_id (by omega) (by omega)] at this
      simp [e1] at this
      omega
    by_cases hji : j = i
    · subst hji; exact hn
    · have := ih (by omega) (by omega)
      omega
theorem hit_iff {xs : List Region} (h : goodM xs = true) (a : Int) {i : Nat} (hi : i < xs.length) : hitR xs a i = true ↔ xs[i].Base ≤ a ∧ a < xs[i].Base + xs[i].Size := by
  have s1 := oneR_spec (goodM_mem h (List.getElem_mem hi))
  unfold hitR inB
  rw [getD_at hi, w64_id (z := xs[i].Base + xs[i].Size) (by omega) (by omega), w64_id (by omega) (by omega)]
  simp only [Bool.and_eq_true, decide_eq_true_eq]
  omega
theorem find_in {xs : List Region} (h : goodM xs = true) {a : Int} {i : Nat} (hi : i < xs.length) (hb : xs[i].Base ≤ a ∧ a < xs[i].Base + xs[i].Size) : findR xs a = (i : Int) := by
  unfold findR
  have : (List.range xs.length).find? (hitR xs a) = some i := by
    rw [List.find?_range_eq_some]
    refine ⟨(hit_iff h a hi).2 hb, List.mem_range.2 hi, fun j hj => ?_⟩
    have hn : ¬ (hitR xs a j = true) := by
      rw [hit_iff h a (show j < xs.length by omega)]
      have := goodM_apart h j i hi hj
      omega
    simpa using hn
  rw [this]
theorem find_hit {xs : List Region} (h : goodM xs = true) {a : Int} {i : Nat} (hf : findR xs a = (i : Int)) : ∃ hi : i < xs.length, xs[i].Base ≤ a ∧ a < xs[i].Base + xs[i].Size := by
  unfold findR at hf
  cases hq : (List.range xs.length).find? (hitR xs a) with
  | none => rw [hq] at hf; simp at hf
  | some j =>
    rw [hq] at hf
    have hji : j = i := by
      have : (j : Int) = (i : Int) := hf
      omega
    subst hji
    have h1 := List.find?_some hq
    have h2 := List.mem_range.1 (List.mem_of_find?_eq_some hq)
    exact ⟨h2, (hit_iff h a h2).1 h1⟩
/-- What routing gives. -/
def routeR (xs : List Region) (a : Access) : Int × Int × Int × Bool :=
  bif goodM xs && okAcc a then
    (bif a.Address % a.Width != 0 then (-1, 0, 1, true)
    else bif decide (findR xs a.Address < 0) then (-1, 0, 2, true)
    else bif allowsR (xs.getD (findR xs a.Address).toNat gR) a.Width then ((xs.getD (findR xs a.Address).toNat gR).Unit, w64 (a.Address - (xs.getD (findR xs a.Address).toNat gR).Base), 0, true)
    else (-1, 0, 3, true))
  else (0, 0, 0, false)
/-- Where an access lies that can be routed, or split. -/
theorem in_region {xs : List Region} {a : Access} (hg : goodM xs = true) (ha : okAcc a = true) (hm : a.Address % a.Width = 0) (hf : ¬ (findR xs a.Address < 0)) : ∃ i : Nat, ∃ hi : i < xs.length, findR xs a.Address = (i : Int) ∧ xs[i].Base ≤ a.Address ∧ a.Address + a.Width ≤ xs[i].Base + xs[i].Size ∧ (xs[i].Kind = 0 ∨ xs[i].Kind = 1 ∨ xs[i].Kind = 2 ∨ xs[i].Kind = 3) := by
  obtain ⟨i, hi, _⟩ := find_lt hf
  obtain ⟨hlt, hb⟩ := find_hit hg hi
  have s1 := oneR_spec (goodM_mem hg (List.getElem_mem hlt))
  have hs := acc_spec ha
  refine ⟨i, hlt, hi, hb.1, ?_, by omega⟩
  have hc := pow_cases (show powS xs[i].Size = true from by
    have := goodM_mem hg (List.getElem_mem hlt)
    unfold oneR at this
    simp only [Bool.and_eq_true] at this
    exact this.1)
  rcases hs.2 with hw | hw | hw <;> rw [hw] at hm ⊢ <;> rcases hc with hc | hc | hc | hc | hc | hc | hc | hc | hc | hc | hc <;> rw [hc] at s1 hb ⊢ <;> omega
/-- The width of the parts, and how many there are. -/
def wideR (k wd : Int) : Nat × Nat :=
  if k = 0 then (1, wd.toNat) else if k = 1 then (2, wd.toNat / 2) else if k = 2 then (4, wd.toNat / 4) else (wd.toNat, 1)
/-- What splitting gives. -/
def splitR (xs : List Region) (a : Access) : List Access × Bool :=
  bif goodM xs && (okAcc a && ((a.Address % a.Width == 0) && decide (0 ≤ findR xs a.Address))) then
    (bif decide ((wideR (xs.getD (findR xs a.Address).toNat gR).Kind a.Width).2 = 0) then ([], false)
    else (partsR a.Address a.Width a.Store (wideR (xs.getD (findR xs a.Address).toNat gR).Kind a.Width).1 (wideR (xs.getD (findR xs a.Address).toNat gR).Kind a.Width).2, true))
  else ([], false)
end Go.Proofs.Ytphinfkojhecdaa
