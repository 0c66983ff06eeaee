/- Plain laws of the models: no program in sight. -/
import Derived.Test.YtphinfkojhecdaaM
import Derived.Test.YtphinfkojhecdaaL8
set_option linter.unusedVariables false
set_option linter.unusedSimpArgs false
set_option maxHeartbeats 4000000
namespace Go.Proofs.Ytphinfkojhecdaa
open Go.Gx
/-! ### The bus -/
theorem rInts_refl (xs : List Int) (h : xs.length ≤ 4611686018427387904) : M.l_rInts xs xs = some true := by
  unfold M.l_rInts
  rw [while_run (fun i => (i : Int)) (Sum.inl ()) xs.length (by simp) h]
  · simp
  · intro i hi
    have h1 : ((i : Int) < (xs.length : Int)) := by omega
    simp [h1, gxIdx_nat hi, w64_succ (show i ≤ 4611686018427387904 by omega)]
  · simp
theorem goodM_apart {xs : List Region} (h : goodM xs = true) : ∀ (j i : Nat) (hi : i < xs.length) (hj : j < i), (xs[j]'(by omega)).Base + (xs[j]'(by omega)).Size ≤ xs[i].Base := by
  intro j i
  induction i with
  | zero => intro _ hj; omega
  | succ i ih =>
    intro hi hj
    have h1 := goodM_mem h (List.getElem_mem (show i < xs.length by omega))
    have s1 := oneR_spec h1
    have hn : (xs[i]'(by omega)).Base + (xs[i]'(by omega)).Size ≤ xs[i + 1].Base := by
      have h2 := goodM_mem h (List.getElem_mem hi)
      have h3 := h
      unfold goodM at h3
      rw [Bool.and_eq_true] at h3
      have := List.all_eq_true.1 h3.1 (i + 1) (List.mem_range.2 hi)
      unfold badM at this
      rw [getD_at hi, Nat.add_sub_cancel, getD_at (show i < xs.length by omega), h2] at this
      have e1 : (((i + 1 : Nat) : Int) > 0) := by omega
      rw [w64_id (by omega) (by omega)] at this
      simp [e1] at this
      omega
    by_cases hji : j = i
    · subst hji; exact hn
    · have := ih (by omega) (by omega)
      omega
theorem hit_iff {xs : List Region} (h : goodM xs = true) (a : Int) {i : Nat} (hi : i < xs.length) : hitR xs a i = true ↔ xs[i].Base ≤ a ∧ a < xs[i].Base + xs[i].Size := by
  have s1 := oneR_spec (goodM_mem h (List.getElem_mem hi))
  unfold hitR inB
  rw [getD_at hi, w64_id (z := xs[i].Base + xs[i].Size) (by omega) (by omega), w64_id (by omega) (by omega)]
  simp only [Bool.and_eq_true, decide_eq_true_eq]
  omega
theorem find_in {xs : List Region} (h : goodM xs = true) {a : Int} {i : Nat} (hi : i < xs.length) (hb : xs[i].Base ≤ a ∧ a < xs[i].Base + xs[i].Size) : findR xs a = (i : Int) := by
  unfold findR
  have : (List.range xs.length).find? (hitR xs a) = some i := by
    rw [List.find?_range_eq_some]
    refine ⟨(hit_iff h a hi).2 hb, List.mem_range.2 hi, fun j hj => ?_⟩
    have hn : ¬ (hitR xs a j = true) := by
      rw [hit_iff h a (show j < xs.length by omega)]
      have := goodM_apart h j i hi hj
      omega
    simpa using hn
  rw [this]
theorem find_hit {xs : List Region} (h : goodM xs = true) {a : Int} {i : Nat} (hf : findR xs a = (i : Int)) : ∃ hi : i < xs.length, xs[i].Base ≤ a ∧ a < xs[i].Base + xs[i].Size := by
  unfold findR at hf
  cases hq : (List.range xs.length).find? (hitR xs a) with
  | none => rw [hq] at hf; simp at hf
  | some j =>
    rw [hq] at hf
    have hji : j = i := by
      have : (j : Int) = (i : Int) := hf
      omega
    subst hji
    have h1 := List.find?_some hq
    have h2 := List.mem_range.1 (List.mem_of_find?_eq_some hq)
    exact ⟨h2, (hit_iff h a h2).1 h1⟩
theorem FindRegion_eq (xs : List Region) (a : Int) (h : xs.length ≤ 1048576) : M.i_FindRegion xs a = some (bif goodM xs && decide (0 ≤ findR xs a) then (findR xs a, true) else (0, false)) ∧ M.s_FindRegion xs a = some (bif goodM xs && decide (0 ≤ findR xs a) then (findR xs a, true) else (0, false)) := by
  unfold M.i_FindRegion M.s_FindRegion M.s_l17Address
  simp only [s_goodM xs h, i_goodM xs h, s_find xs a h, i_find xs a h, s_in, Option.bind_some]
  cases hg : goodM xs with
  | false => exact ⟨by first | rfl | trivial, by first | rfl | trivial⟩
  | true =>
    by_cases hf : findR xs a < 0
    · have hf2 : ¬ (0 ≤ findR xs a) := by omega
      simp only [hf, hf2, decide_true, decide_false, Bool.not_true, cond_false, cond_true, Option.bind_some, Bool.and_false]
      refine ⟨by first | rfl | trivial, ?_⟩
      cases (decide (0 ≤ a) && decide (a ≤ 65535)) <;> rfl
    · have hf2 : 0 ≤ findR xs a := by omega
      obtain ⟨i, hi, _⟩ := find_lt hf
      obtain ⟨hlt, hb⟩ := find_hit hg hi
      have s1 := oneR_spec (goodM_mem hg (List.getElem_mem hlt))
      have hsz : xs[i].Base + xs[i].Size ≤ 65536 := by
        have hc := pow_cases (show powS xs[i].Size = true from by
          have := goodM_mem hg (List.getElem_mem hlt)
          unfold oneR at this
          simp only [Bool.and_eq_true] at this
          exact this.1)
        rcases hc with hc | hc | hc | hc | hc | hc | hc | hc | hc | hc | hc <;> rw [hc] at s1 ⊢ <;> omega
      have ha : (decide (0 ≤ a) && decide (a ≤ 65535)) = true := by simp; omega
      simp only [hf, hf2, ha, decide_true, decide_false, Bool.not_true, cond_false, cond_true, Option.bind_some, Bool.and_true]
      exact ⟨trivial, trivial⟩
/-- What routing gives. -/
def routeR (xs : List Region) (a : Access) : Int × Int × Int × Bool :=
  bif goodM xs && okAcc a then
    (bif a.Address % a.Width != 0 then (-1, 0, 1, true)
    else bif decide (findR xs a.Address < 0) then (-1, 0, 2, true)
    else bif allowsR (xs.getD (findR xs a.Address).toNat gR) a.Width then ((xs.getD (findR xs a.Address).toNat gR).Unit, w64 (a.Address - (xs.getD (findR xs a.Address).toNat gR).Base), 0, true)
    else (-1, 0, 3, true))
  else (0, 0, 0, false)
theorem route_is (xs : List Region) (a : Access) (h : xs.length ≤ 1048576) : M.s_RouteAccess xs a = some (routeR xs a) ∧ M.i_RouteAccess xs a = some (routeR xs a) := by
  unfold M.s_RouteAccess M.i_RouteAccess routeR
  simp only [s_goodM xs h, i_goodM xs h, s_acc, i_acc, Option.bind_some]
  cases hg : goodM xs with
  | false => exact ⟨by first | rfl | trivial, by first | rfl | trivial⟩
  | true => cases ha : okAcc a with
    | false => exact ⟨by first | rfl | trivial, by first | rfl | trivial⟩
    | true =>
      have hs := acc_spec ha
      simp only [s_find xs _ h, i_find xs _ h, rem_ok hs.1.1 (show 0 < a.Width by omega), Option.bind_some, Bool.not_true, cond_false, Bool.and_self, cond_true]
      cases (a.Address % a.Width != 0) with
      | true => exact ⟨by first | rfl | trivial, by first | rfl | trivial⟩
      | false =>
        by_cases hf : findR xs a.Address < 0
        · simp only [hf, decide_true, cond_true, cond_false]
          exact ⟨by first | rfl | trivial, by first | rfl | trivial⟩
        · obtain ⟨i, hi, hlt⟩ := find_lt hf
          have ho := goodM_one hg hlt
          have hf' : ¬ ((i : Int) < 0) := by omega
          simp only [hi, hf', decide_false, cond_false, Option.bind_some, gxIdx_getD gR hlt, (allows_ok ho a.Width).1, (allows_ok ho a.Width).2, Int.toNat_natCast]
          cases allowsR (xs.getD i gR) a.Width <;> exact ⟨rfl, rfl⟩
/-- Where an access lies that can be routed, or split. -/
theorem in_region {xs : List Region} {a : Access} (hg : goodM xs = true) (ha : okAcc a = true) (hm : a.Address % a.Width = 0) (hf : ¬ (findR xs a.Address < 0)) : ∃ i : Nat, ∃ hi : i < xs.length, findR xs a.Address = (i : Int) ∧ xs[i].Base ≤ a.Address ∧ a.Address + a.Width ≤ xs[i].Base + xs[i].Size ∧ (xs[i].Kind = 0 ∨ xs[i].Kind = 1 ∨ xs[i].Kind = 2 ∨ xs[i].Kind = 3) := by
  obtain ⟨i, hi, _⟩ := find_lt hf
  obtain ⟨hlt, hb⟩ := find_hit hg hi
  have s1 := oneR_spec (goodM_mem hg (List.getElem_mem hlt))
  have hs := acc_spec ha
  refine ⟨i, hlt, hi, hb.1, ?_, by omega⟩
  have hc := pow_cases (show powS xs[i].Size = true from by
    have := goodM_mem hg (List.getElem_mem hlt)
    unfold oneR at this
    simp only [Bool.and_eq_true] at this
    exact this.1)
  rcases hs.2 with hw | hw | hw <;> rw [hw] at hm ⊢ <;> rcases hc with hc | hc | hc | hc | hc | hc | hc | hc | hc | hc | hc <;> rw [hc] at s1 hb ⊢ <;> omega
/-- The width of the parts, and how many there are. -/
def wideR (k wd : Int) : Nat × Nat :=
  if k = 0 then (1, wd.toNat) else if k = 1 then (2, wd.toNat / 2) else if k = 2 then (4, wd.toNat / 4) else (wd.toNat, 1)
/-- What splitting gives. -/
def splitR (xs : List Region) (a : Access) : List Access × Bool :=
  bif goodM xs && (okAcc a && ((a.Address % a.Width == 0) && decide (0 ≤ findR xs a.Address))) then
    (bif decide ((wideR (xs.getD (findR xs a.Address).toNat gR).Kind a.Width).2 = 0) then ([], false)
    else (partsR a.Address a.Width a.Store (wideR (xs.getD (findR xs a.Address).toNat gR).Kind a.Width).1 (wideR (xs.getD (findR xs a.Address).toNat gR).Kind a.Width).2, true))
  else ([], false)
theorem split_is (xs : List Region) (a : Access) (h : xs.length ≤ 1048576) : M.s_SplitAccess xs a = some (splitR xs a) ∧ M.i_SplitAccess xs a = some (splitR xs a) := by
  unfold M.s_SplitAccess M.i_SplitAccess splitR
  simp only [s_goodM xs h, i_goodM xs h, s_acc, i_acc, Option.bind_some]
  cases hg : goodM xs with
  | false => exact ⟨by first | rfl | trivial, by first | rfl | trivial⟩
  | true => cases ha : okAcc a with
    | false => exact ⟨by first | rfl | trivial, by first | rfl | trivial⟩
    | true =>
      have hs := acc_spec ha
      simp only [s_find xs _ h, i_find xs _ h, rem_ok hs.1.1 (show 0 < a.Width by omega), Option.bind_some, Bool.not_true, cond_false]
      cases hm : (a.Address % a.Width != 0) with
      | true =>
        have hm' : (a.Address % a.Width == 0) = false := by
          cases hq : (a.Address % a.Width == 0) with
          | false => rfl
          | true => simp [bne, hq] at hm
        simp only [hm', Bool.false_and, Bool.and_false, cond_false, cond_true, Option.bind_some]
        exact ⟨trivial, trivial⟩
      | false =>
        have hm' : (a.Address % a.Width == 0) = true := by
          cases hq : (a.Address % a.Width == 0) with
          | true => rfl
          | false => simp [bne, hq] at hm
        by_cases hf : findR xs a.Address < 0
        · have hf2 : ¬ (0 ≤ findR xs a.Address) := by omega
          simp only [hm', hf, hf2, decide_true, decide_false, cond_true, cond_false, Option.bind_some, Bool.and_false]
          exact ⟨trivial, trivial⟩
        · obtain ⟨i, hi, hlt⟩ := find_lt hf
          have hf2 : 0 ≤ findR xs a.Address := by omega
          have ho := goodM_one hg hlt
          have hk := (oneR_spec ho).2.2.2.1
          have hf' : ¬ ((i : Int) < 0) := by omega
          have hf2' : (0 : Int) ≤ (i : Int) := by omega
          simp only [hm', hi, hf', hf2', decide_true, decide_false, cond_false, Option.bind_some, gxIdx_getD gR hlt, (allows_ok ho _).1, (allows_ok ho _).2, Bool.and_self, cond_true, Int.toNat_natCast]
          generalize xs.getD i gR = r at *
          obtain ⟨ad, wd, st⟩ := a
          obtain ⟨rb, rs, rk, ru⟩ := r
          simp only at hs hk ⊢
          have hk4 : rk = 0 ∨ rk = 1 ∨ rk = 2 ∨ rk = 3 := by omega
          rcases hk4 with rfl | rfl | rfl | rfl <;> rcases hs.2 with rfl | rfl | rfl <;> exact ⟨by kernel_rfl, by kernel_rfl⟩
end Go.Proofs.Ytphinfkojhecdaa
