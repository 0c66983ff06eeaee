/- Plain laws of the models: no program in sight. -/
import Derived.Test.YtlfligjpmodefaaM
import Derived.Test.YtlfligjpmodefaaL4
set_option linter.unusedVariables false
set_option linter.unusedSimpArgs false
set_option maxHeartbeats 4000000
namespace Go.Proofs.Ytlfligjpmodefaa
open Go.Gx
/-! ### Goals are shared -/
def cntN (os : List Int) (g : Int) (n : Nat) : Nat := ((List.range n).filter fun i => os.getD i 0 == g).length
theorem cntN_succ (os : List Int) (g : Int) (n : Nat) : cntN os g (n + 1) = cntN os g n + (bif os.getD n 0 == g then 1 else 0) := by
  unfold cntN
  rw [List.range_succ, List.filter_append, List.length_append]
  cases h : (os.getD n 0 == g) <;> (simp only [List.filter_cons, List.filter_nil, h]; rfl)
theorem cntN_le (os : List Int) (g : Int) : ∀ n, cntN os g n ≤ n
  | 0 => by simp [cntN]
  | n + 1 => by
    rw [cntN_succ]
    have := cntN_le os g n
    cases (os.getD n 0 == g) <;> simp <;> omega
theorem s_count (os : List Int) (g : Int) (h : os.length ≤ 1048576) : M.s_l18Count os g = some (cntN os g os.length : Int) := by
  unfold M.s_l18Count
  rw [while_run (fun i => ((cntN os g i : Int), (i : Int))) (cntN os g os.length : Int) os.length (by simp [cntN]) (by omega)]
  · rfl
  · intro i hi
    have e0 : ((i : Int) < (os.length : Int)) := by omega
    have hc := cntN_le os g i
    rw [cntN_succ, getD_at hi]
    simp only [e0, decide_true, cond_true, gxIdx_nat hi, Option.bind_some, w64_succ (show i ≤ 4611686018427387904 by omega), w64_succ (show cntN os g i ≤ 4611686018427387904 by omega)]
    cases (os[i] == g) <;> rfl
  · simp only [Int.lt_irrefl, decide_false, cond_false]
theorem i_frames (os : List Int) (g : Int) (h : os.length ≤ 1048576) : ∃ l, M.i_framesOf os g = some l ∧ l.length = cntN os g os.length := by
  refine ⟨((List.range os.length).filter fun (i : Nat) => os.getD i 0 == g).map (fun (i : Nat) => (i : Int)), ?_, by simp [cntN]⟩
  unfold M.i_framesOf
  rw [while_run (fun i => (((List.range i).filter fun (i : Nat) => os.getD i 0 == g).map (fun (i : Nat) => (i : Int)), (i : Int))) (((List.range os.length).filter fun (i : Nat) => os.getD i 0 == g).map (fun (i : Nat) => (i : Int))) os.length (by simp) (by omega)]
  · rfl
  · intro i hi
    have e0 : ((i : Int) < (os.length : Int)) := by omega
    have hc : (((List.range i).filter fun (i : Nat) => os.getD i 0 == g).map (fun (i : Nat) => (i : Int))).length ≤ i := by rw [List.length_map]; exact cntN_le os g i
    rw [List.range_succ, List.filter_append, List.map_append]
    have hg : os.getD i 0 = os[i] := getD_at hi
    simp only [e0, decide_true, cond_true, gxIdx_nat hi, Option.bind_some, w64_succ (show i ≤ 4611686018427387904 by omega)]
    cases hh : (os[i] == g) with
    | false =>
      simp only [cond_false, List.filter_cons, List.filter_nil, hg, hh, Bool.false_eq_true, if_false, List.map_nil, List.append_nil, Option.bind_some]
    | true =>
      simp only [cond_true]
      rw [gxApp_ok (by simp at hc ⊢; omega)]
      simp only [List.filter_cons, List.filter_nil, hg, hh, if_true, List.map_cons, List.map_nil, Option.bind_some]
  · simp only [Int.lt_irrefl, decide_false, cond_false]
def zg (b : Balloon) : Balloon := ⟨b.Guest, 0, b.Gave⟩
def zeroTo (xs : List Balloon) (i : Nat) : List Balloon := (xs.take i).map zg ++ xs.drop i
theorem zeroTo_len (xs : List Balloon) {i : Nat} (h : i ≤ xs.length) : (zeroTo xs i).length = xs.length := by simp [zeroTo]; omega
theorem zeroTo_at (xs : List Balloon) {i : Nat} (h : i < xs.length) (h2 : i < (zeroTo xs i).length) : (zeroTo xs i)[i] = xs[i] := by
  have hl : ((xs.take i).map zg).length = i := by simp; omega
  have e : (zeroTo xs i)[i]? = some xs[i] := by
    unfold zeroTo
    rw [List.getElem?_append_right (by omega), hl, Nat.sub_self, List.getElem?_drop, Nat.add_zero, List.getElem?_eq_getElem h]
  rw [List.getElem?_eq_getElem h2] at e
  exact Option.some.inj e
theorem zeroTo_set (xs : List Balloon) {i : Nat} (h : i < xs.length) : (zeroTo xs i).set i (zg xs[i]) = zeroTo xs (i + 1) := by
  have hl : ((xs.take i).map zg).length = i := by simp; omega
  unfold zeroTo
  rw [List.set_append_right _ _ (by omega), hl, Nat.sub_self, List.drop_eq_getElem_cons h, List.set_cons_zero, List.take_add_one, List.getElem?_eq_getElem h, Option.toList_some, List.map_append, List.append_assoc]
  rfl
theorem tot_zg : ∀ xs : List Balloon, tot (xs.map zg) = tot xs
  | [] => rfl
  | x :: r => by simp only [List.map_cons, tot, tot_zg r]; rfl
theorem zeroTo_fit {xs : List Balloon} (hf : fitB xs) {i : Nat} (h : i ≤ xs.length) : fitB (zeroTo xs i) := by
  have h1 := tot_app (xs.take i) (xs.drop i)
  rw [List.take_append_drop] at h1
  have h2 := tot_app ((xs.take i).map zg) (xs.drop i)
  rw [tot_zg] at h2
  refine ⟨by rw [zeroTo_len xs h]; exact hf.1, ?_⟩
  unfold zeroTo
  have := hf.2
  omega
/-- How many frames a guest may still give. -/
def val (os : List Int) (b : Balloon) : Int := (cntN os b.Guest os.length : Int) + (b.Gave.length : Int) - b.Goal
/-- The first of the greatest. -/
def isFM (v : List Int) (i : Nat) : Prop := ∃ h : i < v.length, 2 ≤ v[i] ∧ (∀ j (hj : j < v.length), v[j] ≤ v[i]) ∧ ∀ j (hj : j < i), (v[j]'(by omega)) < v[i]
theorem isFM_uniq {v : List Int} {i j : Nat} (h1 : isFM v i) (h2 : isFM v j) : i = j := by
  obtain ⟨a, _, b, c⟩ := h1
  obtain ⟨a', _, b', c'⟩ := h2
  rcases Nat.lt_trichotomy i j with h | h | h
  · have := c' i h
    have := b j a'
    omega
  · exact h
  · have := c j h
    have := b' i a
    omega
theorem scan_best {v : List Int} {body : Int × Int × Int → Option ((Int × Int × Int) ⊕ Int)} (hl : v.length ≤ 1099511627776)
    (h : ∀ (i : Nat) (hi : i < v.length) (b m : Int), body (b, m, (i : Int)) = some (.inl (bif decide (v[i] > m) then ((i : Int), v[i], ((i + 1 : Nat) : Int)) else (b, m, ((i + 1 : Nat) : Int)))))
    (he : ∀ b m : Int, body (b, m, (v.length : Int)) = some (.inr b)) :
    ∃ r, whileM body gxFuel ((-1), 1, 0) = some r ∧ ((r = -1 ∧ ∀ j (hj : j < v.length), v[j] ≤ 1) ∨ ∃ i : Nat, r = (i : Int) ∧ isFM v i) := by
  obtain ⟨r, hr, hq⟩ := while_inv (body := body) (s0 := ((-1), 1, 0)) (fun i s => s.2.2 = (i : Int) ∧ ((s.1 = -1 ∧ s.2.1 = 1 ∧ ∀ j (hj : j < v.length), j < i → v[j] ≤ 1) ∨ ∃ k : Nat, ∃ hk : k < v.length, s.1 = (k : Int) ∧ k < i ∧ s.2.1 = v[k] ∧ 2 ≤ v[k] ∧ (∀ j (hj : j < v.length), j < i → v[j] ≤ v[k]) ∧ ∀ j (hj : j < k), (v[j]'(by omega)) < v[k]))
    (fun r => (r = -1 ∧ ∀ j (hj : j < v.length), v[j] ≤ 1) ∨ ∃ i : Nat, r = (i : Int) ∧ isFM v i) v.length (by omega) ⟨rfl, Or.inl ⟨rfl, rfl, fun j _ h => by omega⟩⟩ (fun i s hi hR => by
      obtain ⟨b, m, c⟩ := s
      obtain ⟨hc, hR⟩ := hR
      simp only at hc hR
      subst hc
      rw [h i hi b m]
      by_cases hv : v[i] > m
      · simp only [hv, decide_true, cond_true]
        refine Or.inl ⟨_, rfl, rfl, Or.inr ⟨i, hi, rfl, by omega, rfl, ?_, ?_, ?_⟩⟩
        · rcases hR with ⟨_, hm, _⟩ | ⟨k, hk, _, _, hm, h2, _, _⟩ <;> omega
        · intro j hj hji
          by_cases hjj : j = i
          · subst hjj; omega
          · rcases hR with ⟨_, hm, ha⟩ | ⟨k, hk, _, _, hm, h2, ha, _⟩
            · have := ha j hj (by omega); omega
            · have := ha j hj (by omega); omega
        · intro j hj
          rcases hR with ⟨_, hm, ha⟩ | ⟨k, hk, _, _, hm, h2, ha, _⟩
          · have := ha j (by omega) hj; omega
          · have := ha j (by omega) hj; omega
      · simp only [hv, decide_false, cond_false]
        refine Or.inl ⟨_, rfl, rfl, ?_⟩
        rcases hR with ⟨h1, hm, ha⟩ | ⟨k, hk, h1, hki, hm, h2, ha, hb⟩
        · refine Or.inl ⟨h1, hm, fun j hj hji => ?_⟩
          by_cases hjj : j = i
          · subst hjj; omega
          · exact ha j hj (by omega)
        · refine Or.inr ⟨k, hk, h1, by omega, hm, h2, fun j hj hji => ?_, hb⟩
          by_cases hjj : j = i
          · subst hjj; omega
          · exact ha j hj (by omega)) (fun s hR => by
      obtain ⟨b, m, c⟩ := s
      obtain ⟨hc, hR⟩ := hR
      simp only at hc hR
      subst hc
      rw [he b m]
      refine ⟨_, rfl, ?_⟩
      rcases hR with ⟨h1, hm, ha⟩ | ⟨k, hk, h1, hki, hm, h2, ha, hb⟩
      · exact Or.inl ⟨h1, fun j hj => ha j hj hj⟩
      · exact Or.inr ⟨k, h1, hk, h2, fun j hj => ha j hj hj, hb⟩)
  exact ⟨r, hr, hq⟩
theorem i_max (v : List Int) (h0 : 0 < v.length) (hl : v.length ≤ 1048576) : ∃ m, M.slices_Max_67 v = some m ∧ (∃ k, ∃ hk : k < v.length, v[k] = m) ∧ ∀ j (hj : j < v.length), v[j] ≤ m := by
  unfold M.slices_Max_67
  have e0 : ¬ ((v.length : Int) < 1) := by omega
  simp only [e0, decide_false, cond_false]
  rw [show (0 : Int) = ((0 : Nat) : Int) from rfl, gxIdx_nat h0, Option.bind_some]
  obtain ⟨r, hr, hq⟩ := while_inv (body := fun s4495 : Int × Int =>
    bif decide (s4495.2 < (v.length : Int)) then (Option.bind (gxIdx v s4495.2) fun y4507 =>
    some (Sum.inl (β := Int) (gxMax s4495.1 y4507, w64 (s4495.2 + 1))))
    else some (.inr s4495.1)) (s0 := (v[0], 1)) (fun i s => s.2 = ((i + 1 : Nat) : Int) ∧ (∃ k, ∃ hk : k < v.length, v[k] = s.1) ∧ ∀ j (hj : j < v.length), j < i + 1 → v[j] ≤ s.1)
    (fun m => (∃ k, ∃ hk : k < v.length, v[k] = m) ∧ ∀ j (hj : j < v.length), v[j] ≤ m) (v.length - 1) (by omega) ⟨rfl, ⟨0, h0, rfl⟩, fun j hj hj1 => by
      have hj0 : j = 0 := by omega
      subst hj0
      exact Int.le_refl _⟩ (fun i s hi hR => by
      obtain ⟨m, c⟩ := s
      obtain ⟨hc, ⟨k, hk, hkm⟩, ha⟩ := hR
      simp only at hc hkm ha
      subst hc
      have hi1 : i + 1 < v.length := by omega
      have e1 : (((i + 1 : Nat) : Int) < (v.length : Int)) := by omega
      simp only [e1, decide_true, cond_true, gxIdx_nat hi1, Option.bind_some, w64_succ (show i + 1 ≤ 4611686018427387904 by omega)]
      refine Or.inl ⟨_, rfl, rfl, ?_, fun j hj hji => ?_⟩
      · simp only [gxMax]
        split
        · exact ⟨i + 1, hi1, rfl⟩
        · exact ⟨k, hk, hkm⟩
      · simp only [gxMax]
        by_cases hjj : j = i + 1
        · subst hjj
          split <;> omega
        · have := ha j hj (by omega)
          split <;> omega) (fun s hR => by
      obtain ⟨m, c⟩ := s
      obtain ⟨hc, hk, ha⟩ := hR
      simp only at hc hk ha
      have hc' : c = (v.length : Int) := by omega
      subst hc'
      simp only [Int.lt_irrefl, decide_false, cond_false]
      exact ⟨_, rfl, hk, fun j hj => ha j hj (by omega)⟩)
  refine ⟨r, ?_, hq⟩
  have hr' : whileM (σ := Int × Int) (ρ := Int) (fun s4495 =>
    bif decide (s4495.2 < (v.length : Int)) then (Option.bind (gxIdx v s4495.2) fun y4507 =>
    some (.inl (gxMax s4495.1 y4507, w64 (s4495.2 + 1))))
    else some (.inr s4495.1)) gxFuel (v[0], 1) = some r := hr
  rw [hr']
  rfl
theorem i_index (v : List Int) (m : Int) (hl : v.length ≤ 1048576) (hk : ∃ k, ∃ hk : k < v.length, v[k] = m) : ∃ i : Nat, ∃ hi : i < v.length, M.slices_Index_63 v m = some (i : Int) ∧ v[i] = m ∧ ∀ j (hj : j < i), (v[j]'(by omega)) ≠ m := by
  unfold M.slices_Index_63
  rw [while_first (fun i => (i : Int)) (fun i => m == v.getD i 0) (fun i => (.inr (i : Int))) (.inl ()) v.length (by simp) (by omega) ?_ ?_]
  · cases hf : (List.range v.length).find? (fun i => m == v.getD i 0) with
    | none =>
      obtain ⟨k, hk, hv⟩ := hk
      rw [List.find?_eq_none] at hf
      have := hf k (List.mem_range.2 hk)
      rw [getD_at hk, hv] at this
      simp at this
    | some i =>
      rw [List.find?_range_eq_some] at hf
      obtain ⟨h1, h2, h3⟩ := hf
      have hi := List.mem_range.1 h2
      refine ⟨i, hi, rfl, ?_, fun j hj => ?_⟩
      · rw [getD_at hi] at h1
        have : m = v[i] := by simpa using h1
        exact this.symm
      · have := h3 j hj
        rw [getD_at (show j < v.length by omega)] at this
        intro e
        rw [e] at this
        simp at this
  · intro i hi
    have e0 : ((i : Int) < (v.length : Int)) := by omega
    rw [getD_at hi]
    simp only [e0, decide_true, cond_true, gxIdx_nat hi, Option.bind_some, w64_succ (show i ≤ 4611686018427387904 by omega)]
    cases (m == v[i]) <;> rfl
  · simp only [Int.lt_irrefl, decide_false, cond_false]
/-- What is still to be shared fits. -/
def shareI (os : List Int) (need : Int) (k : Nat) (bs : List Balloon) : Prop := fitB bs ∧ ∀ b ∈ bs, 0 ≤ b.Goal ∧ b.Goal + k ≤ need
theorem val_bound {os : List Int} {b : Balloon} (ho : os.length ≤ 1048576) (hb : b.Gave.length ≤ 1048576) (hg : 0 ≤ b.Goal ∧ b.Goal ≤ 16) : -16 ≤ val os b ∧ val os b ≤ 2097152 := by
  have := cntN_le os b.Guest os.length
  unfold val
  omega
theorem val_w64 {os : List Int} {b : Balloon} (ho : os.length ≤ 1048576) (hb : b.Gave.length ≤ 1048576) (hg : 0 ≤ b.Goal ∧ b.Goal ≤ 16) : w64 ((w64 ((cntN os b.Guest os.length : Int) + (b.Gave.length : Int))) - b.Goal) = val os b := by
  have := cntN_le os b.Guest os.length
  rw [w64_id (z := (cntN os b.Guest os.length : Int) + (b.Gave.length : Int)) (by omega) (by omega), w64_id (by omega) (by omega)]
  rfl
def upB (b : Balloon) : Balloon := ⟨b.Guest, b.Goal + 1, b.Gave⟩
theorem share_step (os : List Int) (bs : List Balloon) (need : Int) (k : Nat) (ho : os.length ≤ 1048576) (hn : need ≤ 16) (hI : shareI os need (k + 1) bs) :
    (∃ r, whileM (σ := Int × Int × Int) (ρ := Int) (fun s2536 =>
      bif decide (s2536.2.2 < (bs.length : Int)) then (Option.bind (gxIdx bs s2536.2.2) fun y2548 =>
      Option.bind (M.s_l18Count os y2548.Guest) fun r2556 =>
      Option.bind (gxIdx bs s2536.2.2) fun y2560 =>
      Option.bind (gxIdx bs s2536.2.2) fun y2564 =>
      Option.bind (α := Int × Int) (bif decide ((w64 ((w64 (r2556 + (y2560.Gave.length : Int))) - y2564.Goal)) > s2536.2.1) then some (s2536.2.2, w64 ((w64 (r2556 + (y2560.Gave.length : Int))) - y2564.Goal))
      else some (s2536.1, s2536.2.1)) fun o2571 =>
      some (.inl (o2571.1, o2571.2, w64 (s2536.2.2 + 1))))
      else some (.inr s2536.1)) gxFuel ((-1), 1, 0) = some r ∧ ((r = -1 ∧ ∀ j (hj : j < (bs.map (val os)).length), (bs.map (val os))[j] ≤ 1) ∨ ∃ i : Nat, r = (i : Int) ∧ isFM (bs.map (val os)) i)) := by
  have hl := hI.1.1
  have := scan_best (v := bs.map (val os)) (body := fun s2536 : Int × Int × Int =>
      bif decide (s2536.2.2 < (bs.length : Int)) then (Option.bind (gxIdx bs s2536.2.2) fun y2548 =>
      Option.bind (M.s_l18Count os y2548.Guest) fun r2556 =>
      Option.bind (gxIdx bs s2536.2.2) fun y2560 =>
      Option.bind (gxIdx bs s2536.2.2) fun y2564 =>
      Option.bind (α := Int × Int) (bif decide ((w64 ((w64 (r2556 + (y2560.Gave.length : Int))) - y2564.Goal)) > s2536.2.1) then some (s2536.2.2, w64 ((w64 (r2556 + (y2560.Gave.length : Int))) - y2564.Goal))
      else some (s2536.1, s2536.2.1)) fun o2571 =>
      some (.inl (o2571.1, o2571.2, w64 (s2536.2.2 + 1))))
      else some (.inr s2536.1)) (by rw [List.length_map]; omega) (fun i hi b m => by
        have hi' : i < bs.length := by simpa using hi
        have e0 : ((i : Int) < (bs.length : Int)) := by omega
        have hg := hI.2 _ (List.getElem_mem hi')
        have hgl := gave_len hI.1 hi'
        simp only [e0, decide_true, cond_true, gxIdx_nat hi', Option.bind_some, s_count os bs[i].Guest ho, val_w64 (os := os) (b := bs[i]) ho hgl (by omega), List.getElem_map, w64_succ (show i ≤ 4611686018427387904 by omega)]
        cases decide (val os bs[i] > m) <;> rfl) (fun b m => by
        rw [List.length_map]
        simp only [Int.lt_irrefl, decide_false, cond_false])
  exact this
theorem share_up {os : List Int} {bs : List Balloon} {need : Int} {k : Nat} (hI : shareI os need (k + 1) bs) {i : Nat} (hi : i < bs.length) : shareI os need k (bs.set i (upB bs[i])) := by
  have ht := tot_set hi (upB bs[i])
  have hg := hI.2 _ (List.getElem_mem hi)
  refine ⟨⟨by simpa using hI.1.1, ?_⟩, fun b hb => ?_⟩
  · have := hI.1.2
    simp only [upB] at ht ⊢
    omega
  · rcases List.mem_or_eq_of_mem_set hb with hb | hb
    · have := hI.2 b hb
      omega
    · subst hb
      simp only [upB]
      omega
theorem share_loops (os : List Int) (need : Int) (ho : os.length ≤ 1048576) (hn : 0 ≤ need ∧ need ≤ 16) : ∀ (k : Nat) (bs : List Balloon) (f1 f2 : Nat), (k : Int) ≤ need → k < f1 → k < f2 → shareI os need k bs → ∃ r : Option (List Balloon),
    whileM (σ := Int × List Balloon) (ρ := (List Balloon) ⊕ ((List Balloon) × Bool)) (fun s2448 =>
    bif decide (s2448.1 > 0) then (Option.bind (whileM (σ := Int × Int × Int) (ρ := Int) (fun s2536 =>
      bif decide (s2536.2.2 < (s2448.2.length : Int)) then (Option.bind (gxIdx s2448.2 s2536.2.2) fun y2548 =>
      Option.bind (M.s_l18Count os y2548.Guest) fun r2556 =>
      Option.bind (gxIdx s2448.2 s2536.2.2) fun y2560 =>
      Option.bind (gxIdx s2448.2 s2536.2.2) fun y2564 =>
      Option.bind (α := Int × Int) (bif decide ((w64 ((w64 (r2556 + (y2560.Gave.length : Int))) - y2564.Goal)) > s2536.2.1) then some (s2536.2.2, w64 ((w64 (r2556 + (y2560.Gave.length : Int))) - y2564.Goal))
      else some (s2536.1, s2536.2.1)) fun o2571 =>
      some (.inl (o2571.1, o2571.2, w64 (s2536.2.2 + 1))))
      else some (.inr s2536.1)) gxFuel ((-1), 1, 0)) fun out2543 =>
    bif decide (out2543 < 0) then some (.inr (.inr (([] : List Balloon), false)))
    else (Option.bind (gxIdx s2448.2 out2543) fun y2595 =>
    Option.bind (gxIdx s2448.2 out2543) fun y2603 =>
    Option.bind (M.s_l18With s2448.2 out2543 (w64 (y2595.Goal + 1)) y2603.Gave) fun r2662 =>
    some (.inl (w64 (s2448.1 - 1), r2662))))
    else some (.inr (.inl s2448.2))) f1 ((k : Int), bs) = some (match r with | some b => .inl b | none => .inr ([], false)) ∧
    whileM (σ := Int × List Balloon × List Int) (ρ := (List Balloon × List Int) ⊕ ((List Balloon) × Bool)) (fun s4617 =>
    bif decide (s4617.1 < need) then (Option.bind (α := Bool) (bif (s4617.2.2.length : Int) == 0 then some true
    else (Option.bind (M.slices_Max_67 s4617.2.2) fun r4648 =>
    some (decide (r4648 < 2)))) fun o4644 =>
    bif o4644 then some (.inr (.inr (([] : List Balloon), false)))
    else (Option.bind (M.slices_Max_67 s4617.2.2) fun r4658 =>
    Option.bind (M.slices_Index_63 s4617.2.2 r4658) fun r4662 =>
    Option.bind (gxIdx s4617.2.2 r4662) fun y4666 =>
    Option.bind (gxIdx s4617.2.2 r4662) fun y4667 =>
    Option.bind (gxIdx s4617.2.1 r4662) fun y4672 =>
    Option.bind (gxIdx s4617.2.1 r4662) fun y4680 =>
    some (.inl (w64 (s4617.1 + 1), (s4617.2.1.set r4662.toNat (⟨y4680.Guest, w64 (y4672.Goal + 1), y4680.Gave⟩ : Balloon)), (s4617.2.2.set r4662.toNat (w64 (y4666 - 1)))))))
    else some (.inr (.inl (s4617.2.1, s4617.2.2)))) f2 (need - (k : Int), bs, bs.map (val os)) = some (match r with | some b => .inl (b, b.map (val os)) | none => .inr ([], false)) ∧ ∀ b, r = some b → fitB b
  | 0, bs, f1 + 1, f2 + 1, hk, h1, h2, hI => by
    refine ⟨some bs, ?_, ?_, fun b hb => by cases hb; exact hI.1⟩
    · have e0 : ¬ (((0 : Nat) : Int) > 0) := by omega
      simp only [whileM, e0, decide_false, cond_false]
    · have e0 : ¬ (need - ((0 : Nat) : Int) < need) := by omega
      simp only [whileM, e0, decide_false, cond_false]
  | k + 1, bs, f1 + 1, f2 + 1, hk, h1, h2, hI => by
    have e0 : (((k + 1 : Nat) : Int) > 0) := by omega
    have e1 : (need - ((k + 1 : Nat) : Int) < need) := by omega
    obtain ⟨q, hq, hq2⟩ := share_step os bs need k ho hn.2 hI
    have hbl := hI.1.1
    have hvl : (bs.map (val os)).length = bs.length := List.length_map ..
    rcases hq2 with ⟨rfl, hall⟩ | ⟨i, rfl, hfm⟩
    · refine ⟨none, ?_, ?_, fun b hb => by cases hb⟩
      · simp only [whileM, e0, decide_true, cond_true, hq, Option.bind_some]
        rfl
      · simp only [whileM, e1, decide_true, cond_true]
        by_cases h0 : bs.length = 0
        · have : (((bs.map (val os)).length : Int) == 0) = true := by rw [hvl, h0]; rfl
          simp only [this, cond_true, Option.bind_some]
        · have : (((bs.map (val os)).length : Int) == 0) = false := by rw [hvl]; simp; exact fun e => h0 (by simp [e])
          obtain ⟨m, hm, ⟨j, hj, hjm⟩, _⟩ := i_max (bs.map (val os)) (by omega) (by omega)
          have hlt : m < 2 := by have := hall j hj; omega
          simp only [this, cond_false, hm, Option.bind_some, hlt, decide_true, cond_true]
    · have hfm' := hfm
      obtain ⟨hi, hv2, hle, hlt⟩ := hfm'
      have hib : i < bs.length := by omega
      have hg := hI.2 _ (List.getElem_mem hib)
      have hgl := gave_len hI.1 hib
      have hup := share_up hI hib
      obtain ⟨r, hr1, hr2, hr3⟩ := share_loops os need ho hn k (bs.set i (upB bs[i])) f1 f2 (by omega) (by omega) (by omega) hup
      refine ⟨r, ?_, ?_, hr3⟩
      · have en : ¬ ((i : Int) < 0) := by omega
        have ek : w64 (((k + 1 : Nat) : Int) - 1) = (k : Int) := by rw [w64_id (by omega) (by omega)]; omega
        have eg : w64 (bs[i].Goal + 1) = bs[i].Goal + 1 := w64_id (by omega) (by omega)
        simp only [whileM, e0, decide_true, cond_true, hq, Option.bind_some, en, decide_false, cond_false, gxIdx_nat hib, eg, s_with bs (i : Int) (bs[i].Goal + 1) bs[i].Gave hI.1 hgl, with_set bs hib, ek]
        exact hr1
      · have h0 : (((bs.map (val os)).length : Int) == 0) = false := by simp; exact fun e => by simp [e] at hib
        obtain ⟨m, hm, hkm, hmx⟩ := i_max (bs.map (val os)) (by omega) (by omega)
        obtain ⟨j, hj, hidx, hjm, hjf⟩ := i_index (bs.map (val os)) m (by omega) hkm
        have hm2 : ¬ (m < 2) := by have := hmx i hi; omega
        have hji : j = i := isFM_uniq ⟨hj, by omega, fun u hu => by have := hmx u hu; omega, fun u hu => by
          have h3 := hmx u (by omega)
          have h4 := hjf u hu
          omega⟩ hfm
        subst hji
        have hvj : (bs.map (val os))[j] = val os bs[j] := List.getElem_map ..
        have hvb := val_bound (os := os) (b := bs[j]) ho hgl (by omega)
        have ek : w64 (need - ((k + 1 : Nat) : Int) + 1) = need - (k : Int) := by rw [w64_id (by omega) (by omega)]; omega
        have eg : w64 (bs[j].Goal + 1) = bs[j].Goal + 1 := w64_id (by omega) (by omega)
        have ev : w64 (val os bs[j] - 1) = val os (upB bs[j]) := by
          rw [w64_id (by omega) (by omega)]
          simp only [val, upB]
          omega
        have em : (bs.map (val os)).set j (val os (upB bs[j])) = (bs.set j (upB bs[j])).map (val os) := by rw [List.map_set]
        simp only [whileM, e1, decide_true, cond_true, h0, cond_false, hm, Option.bind_some, hm2, decide_false, hidx, gxIdx_nat hj, gxIdx_nat hib, Int.toNat_natCast, hvj, ek, eg, ev, em]
        exact hr2
theorem ShareGoals_eq (os : List Int) (xs : List Balloon) (need : Int) (ho : (os.length : Int) ≤ 1048576) (hf : fitB xs) : ∃ r, M.s_ShareGoals os xs need = some r ∧ M.i_ShareGoals os xs need = some r ∧ fitB r.1 := by
  have hl := hf.1
  unfold M.s_ShareGoals M.i_ShareGoals M.i_isGoal
  simp only [s_goodB os xs (show os.length ≤ 1048576 by omega) hf, i_goodB os xs (show os.length ≤ 1048576 by omega) hf, s_in, i_in, Option.bind_some]
  cases goodB os xs with
  | false => exact ⟨_, rfl, rfl, by simp [fitB, tot]⟩
  | true => cases hneed : (decide (0 ≤ need) && decide (need ≤ 16)) with
    | false => exact ⟨_, rfl, rfl, by simp [fitB, tot]⟩
    | true =>
      have hn : 0 ≤ need ∧ need ≤ 16 := by simpa using hneed
      have hw1 : (List.range xs.length).map (withB xs (-1) 0 []) = xs := by
        refine Eq.trans ?_ (map_getD xs)
        apply List.map_congr_left
        intro j _
        unfold withB
        have : ((j : Int) == (-1)) = false := by simp
        rw [this]
        rfl
      simp only [Bool.not_true, cond_false, Option.bind_some, s_with xs (-1) 0 [] hf (by simp), i_newB xs hf, hw1]
      -- the goals at zero
      rw [while_run (fun i => (zeroTo xs i, (i : Int))) (xs.map zg) xs.length (by simp [zeroTo]) (by omega) ?_ ?_,
        while_run (fun i => ((xs.take i).map (fun b => (cntN os b.Guest os.length : Int) + (b.Gave.length : Int)), (i : Int), zeroTo xs i)) (xs.map (fun b => (cntN os b.Guest os.length : Int) + (b.Gave.length : Int)), xs.map zg) xs.length (by simp [zeroTo]) (by omega) ?_ ?_]
      · have hz := zeroTo_fit hf (Nat.le_refl xs.length)
        have hze : zeroTo xs xs.length = xs.map zg := by simp [zeroTo]
        rw [hze] at hz
        have hI : shareI os need need.toNat (xs.map zg) := ⟨hz, fun b hb => by
          obtain ⟨a, _, rfl⟩ := List.mem_map.1 hb
          simp only [zg]
          omega⟩
        have hv : xs.map (fun b => (cntN os b.Guest os.length : Int) + (b.Gave.length : Int)) = (xs.map zg).map (val os) := by
          rw [List.map_map]
          apply List.map_congr_left
          intro b _
          simp only [Function.comp, val, zg]
          omega
        have hk : ((need.toNat : Nat) : Int) = need := by omega
        obtain ⟨r, h1, h2, h3⟩ := share_loops os need (by omega) hn need.toNat (xs.map zg) gxFuel gxFuel (by omega) (by unfold gxFuel; omega) (by unfold gxFuel; omega) hI
        rw [hk] at h1 h2
        rw [Int.sub_self] at h2
        simp only [Option.bind_some, hv]
        rw [h1, h2]
        cases r with
        | none => exact ⟨_, rfl, rfl, by simp [fitB, tot]⟩
        | some b => exact ⟨_, rfl, rfl, h3 b rfl⟩
      · intro i hi
        have e0 : ((i : Int) < (xs.length : Int)) := by omega
        have hz : i < (zeroTo xs i).length := by rw [zeroTo_len xs (by omega)]; exact hi
        obtain ⟨l, hfr, hfl⟩ := i_frames os xs[i].Guest (by omega)
        have hc := cntN_le os xs[i].Guest os.length
        have hgl := gave_len hf hi
        simp only [e0, decide_true, cond_true, gxIdx_nat hi, gxIdx_nat hz, zeroTo_at xs hi hz, hfr, Option.bind_some, hfl, Int.toNat_natCast, w64_succ (show i ≤ 4611686018427387904 by omega), w64_id (z := (cntN os xs[i].Guest os.length : Int) + (xs[i].Gave.length : Int)) (by omega) (by omega)]
        rw [gxApp_ok (by simp; omega), Option.bind_some]
        have hs := zeroTo_set xs hi
        unfold zg at hs
        rw [hs, List.take_add_one, List.getElem?_eq_getElem hi, Option.toList_some, List.map_append]
        rfl
      · simp only [Int.lt_irrefl, decide_false, cond_false, List.take_length]
        simp [zeroTo]
      · intro i hi
        have hzl := zeroTo_len xs (show i ≤ xs.length by omega)
        have e0 : ((i : Int) < ((zeroTo xs i).length : Int)) := by omega
        have hz : i < (zeroTo xs i).length := by omega
        have hgl := gave_len hf hi
        simp only [e0, decide_true, cond_true, gxIdx_nat hz, zeroTo_at xs hi hz, Option.bind_some, s_with (zeroTo xs i) (i : Int) 0 xs[i].Gave (zeroTo_fit hf (by omega)) hgl, with_set (zeroTo xs i) hz, w64_succ (show i ≤ 4611686018427387904 by omega)]
        have hs := zeroTo_set xs hi
        unfold zg at hs
        rw [hs]
      · have hzl := zeroTo_len xs (Nat.le_refl xs.length)
        simp only [hzl, Int.lt_irrefl, decide_false, cond_false]
        simp [zeroTo]
theorem plain_ShareGoals (a0 : List Int) (a1 : List Balloon) (a2 : Int) (k0 : okL okI a0) (k1 : okL okBalloon a1) (k2 : okI a2) : M.l_FnExactShareGoals a0 a1 a2 = some true := by
  unfold M.l_FnExactShareGoals
  by_cases g0 : ((a0.length : Int) > 1048576)
  · simp only [g0, decide_true, cond_true]
  simp only [g0, decide_false, cond_false]
  obtain ⟨q1, hq1, hf1⟩ := szBalloonS_ex a1 1048576 k1 (by omega)
  rw [hq1, Option.bind_some]
  rcases hf1 with hf1 | hf1
  · simp only [hf1, decide_true, cond_true]
  have hn1 : ¬ (q1 < 0) := by omega
  simp only [hn1, decide_false, cond_false]
  have hz1 := hf1.2.2
  obtain ⟨r, hs, hi, hr0⟩ := ShareGoals_eq a0 a1 a2 (by omega) hz1
  have ht0 := toIntS_id a0 (by omega)
  have he0 := eqIntS_refl a0 (by omega)
  have ht1 := toBalloonS_id a1 hz1
  have he1 := eqBalloonS_refl a1 hz1
  obtain ⟨na0, ma0, hma0, _, hla0, hua0⟩ := markIntS_held a0 1 (by omega)
  have hma0 : M.l_markIntS a0 1 = _ := hma0
  obtain ⟨na1, ma1, hma1, _, hla1, hua1⟩ := markBalloonS_held a1 na0 hz1 (by omega)
  obtain ⟨nr0, mr0, hmr0, hhr0, hlr0, hur0⟩ := markBalloonS_held r.1 1 hr0 (by omega)
  have hmr0 : M.l_markBalloonS r.1 1 = _ := hmr0
  have hhr0 : M.l_heldBalloonS mr0 1 = _ := hhr0
  have her0 := eqBalloonS_refl r.1 hr0
  simp only [hs, hi, ht0, he0, ht1, he1, hma0, hma1, hmr0, hhr0, her0, nat_nlt, Option.bind_some, Bool.not_true, cond_false, cond_true, beq_self_eq_true, bne_self_eq_false, decide_false]
end Go.Proofs.Ytlfligjpmodefaa
