/- Plain laws of the models: no program in sight. -/
import Derived.Test.YtfcebglkdfadcaaM
import Derived.Test.YtfcebglkdfadcaaL1
set_option linter.unusedVariables false
set_option linter.unusedSimpArgs false
set_option maxHeartbeats 4000000
namespace Go.Proofs.Ytfcebglkdfadcaa
open Go.Gx
theorem while_filter {α β : Type} {xs : List α} (p : α → Bool) (f : α → β) {body : List β × Int → Option ((List β × Int) ⊕ List β)} (hl : xs.length ≤ 1099511627776)
    (h : ∀ (i : Nat) (hi : i < xs.length) (acc : List β), acc.length ≤ i → body (acc, (i : Int)) = some (.inl (bif p xs[i] then acc ++ [f xs[i]] else acc, w64 ((i : Int) + 1))))
    (he : ∀ acc, body (acc, (xs.length : Int)) = some (.inr acc)) : whileM body gxFuel ([], 0) = some ((xs.filter p).map f) := by
  refine while_run (fun i => (((xs.take i).filter p).map f, (i : Int))) _ xs.length (by simp) (by omega) (fun i hi => ?_) ?_
  · have hle : (((xs.take i).filter p).map f).length ≤ i := by
      rw [List.length_map]
      exact Nat.le_trans (List.length_filter_le _ _) (by simp; omega)
    rw [h i hi _ hle, w64_succ (by omega), List.take_add_one, List.getElem?_eq_getElem hi, Option.toList_some, List.filter_append, List.map_append]
    cases hp : p xs[i] <;> simp [hp]
  · rw [he, List.take_length]
/-! ### Elements deleted -/
theorem take_set_end {α : Type} {L : List α} {i : Nat} (h : i < L.length) (v : α) : (L.set i v).take (i + 1) = L.take i ++ [v] := by
  rw [List.take_add_one, List.getElem?_set_self h, Option.toList_some, List.take_set_of_le (by omega)]
theorem del_loop {α : Type} (del : α → Bool) {xs : List α} {body : Int × Int × List α → Option ((Int × Int × List α) ⊕ (Int × List α))} (hl : xs.length ≤ 1099511627776) (i0 : Nat) (h0 : i0 < xs.length) (hb : ∀ j (hj : j < i0), del (xs[j]'(by omega)) = false) (hat : del xs[i0] = true)
    (hstep : ∀ (i j : Nat) (L : List α) (hj : j < L.length) (hi : i < L.length), j ≤ 1099511627776 → i ≤ 1099511627776 → body ((i : Int), (j : Int), L) = some (.inl (bif del L[j] then ((i : Int), ((j + 1 : Nat) : Int), L) else (((i + 1 : Nat) : Int), ((j + 1 : Nat) : Int), L.set i L[j]))))
    (hend : ∀ (i j : Int) (L : List α), (L.length : Int) ≤ j → body (i, j, L) = some (.inr (i, L))) :
    ∃ L, whileM body gxFuel ((i0 : Int), ((i0 + 1 : Nat) : Int), xs) = some (((xs.filter fun x => !(del x)).length : Int), L) ∧ L.length = xs.length ∧ L.take (xs.filter fun x => !(del x)).length = xs.filter fun x => !(del x) := by
  have hkeep : ∀ j, j ≤ i0 → (xs.take j).filter (fun x => !(del x)) = xs.take j := by
    intro j hj
    rw [List.filter_eq_self]
    intro a ha
    obtain ⟨k, hk, rfl⟩ := List.mem_iff_getElem.1 ha
    have hk' : k < j := by simp at hk; omega
    rw [List.getElem_take, hb k (by omega)]
    rfl
  have hlen : ∀ j, ((xs.take j).filter (fun x => !(del x))).length ≤ j := fun j => Nat.le_trans (List.length_filter_le _ _) (by simp; omega)
  have hsucc : ∀ j (hj : j < xs.length), (xs.take (j + 1)).filter (fun x => !(del x)) = bif del xs[j] then (xs.take j).filter (fun x => !(del x)) else (xs.take j).filter (fun x => !(del x)) ++ [xs[j]] := by
    intro j hj
    rw [List.take_add_one, List.getElem?_eq_getElem hj, Option.toList_some, List.filter_append]
    cases hd : del xs[j] <;> simp [hd]
  obtain ⟨q, hq, hq2⟩ := while_inv (body := body) (s0 := ((i0 : Int), ((i0 + 1 : Nat) : Int), xs)) (fun k s => s.2.1 = ((i0 + 1 + k : Nat) : Int) ∧ s.1 = (((xs.take (i0 + 1 + k)).filter fun x => !(del x)).length : Int) ∧ s.2.2.length = xs.length ∧ s.2.2.take ((xs.take (i0 + 1 + k)).filter fun x => !(del x)).length = (xs.take (i0 + 1 + k)).filter (fun x => !(del x)) ∧ s.2.2.drop (i0 + 1 + k) = xs.drop (i0 + 1 + k))
    (fun r => r.1 = ((xs.filter fun x => !(del x)).length : Int) ∧ r.2.length = xs.length ∧ r.2.take (xs.filter fun x => !(del x)).length = xs.filter fun x => !(del x)) (xs.length - (i0 + 1)) (by omega)
    (by
      have h1 := hsucc i0 h0
      rw [hat, cond_true, hkeep i0 (Nat.le_refl _)] at h1
      have h2 : (xs.take i0).length = i0 := by simp; omega
      refine ⟨rfl, ?_, rfl, ?_, rfl⟩
      · simp only [Nat.add_zero, h1, h2]
      · simp only [Nat.add_zero, h1, h2])
    (fun k s hk hR => by
      obtain ⟨a, b, L⟩ := s
      obtain ⟨hb', ha', hL, ht, hd⟩ := hR
      simp only at hb' ha' hL ht hd
      subst hb' ha'
      have hj : i0 + 1 + k < xs.length := by omega
      have hjL : i0 + 1 + k < L.length := by omega
      have hkl := hlen (i0 + 1 + k)
      have hv : L[i0 + 1 + k] = xs[i0 + 1 + k] := by
        have e1 : (L.drop (i0 + 1 + k))[0]? = (xs.drop (i0 + 1 + k))[0]? := by rw [hd]
        rw [List.getElem?_drop, List.getElem?_drop, Nat.add_zero, List.getElem?_eq_getElem hjL, List.getElem?_eq_getElem hj] at e1
        exact Option.some.inj e1
      have hdr : L.drop (i0 + 1 + (k + 1)) = xs.drop (i0 + 1 + (k + 1)) := by
        have : L.drop (i0 + 1 + (k + 1)) = (L.drop (i0 + 1 + k)).drop 1 := by rw [List.drop_drop]; rfl
        rw [this, hd, List.drop_drop]
        rfl
      rw [hstep _ _ L hjL (by omega) (by omega) (by omega), hv]
      have hs := hsucc (i0 + 1 + k) hj
      cases hdel : del xs[i0 + 1 + k] with
      | true =>
        rw [hdel, cond_true] at hs
        exact Or.inl ⟨_, rfl, rfl, by rw [show i0 + 1 + (k + 1) = i0 + 1 + k + 1 by omega, hs]; rfl, hL, by rw [show i0 + 1 + (k + 1) = i0 + 1 + k + 1 by omega, hs]; exact ht, hdr⟩
      | false =>
        rw [hdel, cond_false] at hs
        refine Or.inl ⟨_, rfl, rfl, ?_, ?_, ?_, ?_⟩
        · rw [show i0 + 1 + (k + 1) = i0 + 1 + k + 1 by omega, hs, List.length_append]
          rfl
        · simp only [cond_false, List.length_set]
          exact hL
        · rw [show i0 + 1 + (k + 1) = i0 + 1 + k + 1 by omega, hs, List.length_append, List.length_singleton]
          simp only [cond_false]
          rw [take_set_end (by omega), ht]
        · simp only [cond_false]
          rw [List.drop_set_of_lt (by omega)]
          exact hdr)
    (fun s hR => by
      obtain ⟨a, b, L⟩ := s
      obtain ⟨hb', ha', hL, ht, hd⟩ := hR
      simp only at hb' ha' hL ht hd
      have e : i0 + 1 + (xs.length - (i0 + 1)) = xs.length := by omega
      rw [e, List.take_length] at ht ha'
      rw [e] at hb'
      subst hb' ha'
      rw [hend _ _ L (by omega)]
      exact ⟨_, rfl, rfl, hL, ht⟩)
  obtain ⟨qa, L⟩ := q
  obtain ⟨h1, h2, h3⟩ := hq2
  simp only at h1 h2 h3
  subst h1
  exact ⟨L, hq, h2, h3⟩
theorem del_result {α : Type} {L : List α} {n : Nat} (z : α) (hn : n ≤ L.length) : gxSlice L (n : Int) (L.length : Int) = some (L.drop n) ∧ gxSlice (gxClear L (n : Int) (L.length : Int) z) 0 (n : Int) = some (L.take n) := by
  constructor
  · unfold gxSlice
    rw [if_pos ⟨by omega, by omega, by omega⟩]
    simp
  · have hl : (gxClear L (n : Int) (L.length : Int) z).length = L.length := by simp [gxClear]; omega
    unfold gxSlice
    rw [if_pos ⟨by omega, by omega, by rw [hl]; omega⟩]
    simp only [Int.toNat_zero, List.drop_zero, Int.toNat_natCast]
    unfold gxClear
    simp only [Int.toNat_natCast, List.append_assoc]
    rw [List.take_append_of_le_length (by simp; omega), List.take_take]
    simp
theorem find_none_filter {α : Type} {xs : List α} (del : α → Bool) (z : α) (h : (List.range xs.length).find? (fun i => del (xs.getD i z)) = none) : (xs.filter fun x => !(del x)) = xs := by
  rw [List.filter_eq_self]
  rw [List.find?_eq_none] at h
  intro a ha
  obtain ⟨i, hi, rfl⟩ := List.mem_iff_getElem.1 ha
  have := h i (List.mem_range.2 hi)
  rw [getD_at hi] at this
  simpa using this
theorem find_some_first {α : Type} {xs : List α} (del : α → Bool) (z : α) {i : Nat} (h : (List.range xs.length).find? (fun i => del (xs.getD i z)) = some i) : ∃ hi : i < xs.length, del xs[i] = true ∧ ∀ j (hj : j < i), del (xs[j]'(by omega)) = false := by
  rw [List.find?_range_eq_some] at h
  obtain ⟨h1, h2, h3⟩ := h
  have hi := List.mem_range.1 h2
  refine ⟨hi, by rwa [getD_at hi] at h1, fun j hj => ?_⟩
  have := h3 j hj
  rw [getD_at (show j < xs.length by omega)] at this
  simpa using this
/-! ### Marks of texts -/
theorem str1_size (b : Int) : (gxStr [b]).size = 1 := by
  simp [gxStr]
theorem markText_ex (k : Nat) (h : k ≤ 1099511627776) : ∃ t, M.l_markText (k : Int) = some t := by
  unfold M.l_markText
  by_cases hk : (k : Int) ≤ 0
  · exact ⟨ByteArray.mk #[109, 48], by simp only [hk, decide_true, cond_true]⟩
  · simp only [hk, decide_false, cond_false]
    have := while_inv (body := fun s1506 : Int × ByteArray =>
      bif decide (s1506.1 > 0) then (Option.bind (gxSCat (gxStr [IntKind.u8.wrap (w64 (48 + (s1506.1.tmod 10)))]) s1506.2) fun q1525 =>
      some (Sum.inl (β := ByteArray) (w64 (s1506.1.tdiv 10), q1525)))
      else some (.inr s1506.2)) (s0 := ((k : Int), (ByteArray.mk #[]))) (fun i s => 0 ≤ s.1 ∧ s.1 * 10 ^ i ≤ 1099511627776 ∧ s.2.size ≤ i) (fun r => r.size ≤ 20) 20 (by omega) ⟨by omega, by simp; omega, Nat.le_refl 0⟩ (fun i s hi hR => by
        obtain ⟨a, t⟩ := s
        obtain ⟨h0, h1, h2⟩ := hR
        simp only at h0 h1 h2
        by_cases ha : a > 0
        · have hp : (1 : Int) ≤ 10 ^ i := by
            have := Int.pow_pos (n := 10) (m := i) (by omega)
            omega
          have hle : a ≤ 1099511627776 := by
            have : a * 1 ≤ a * 10 ^ i := Int.mul_le_mul_of_nonneg_left hp h0
            omega
          have hc : gxSCat (gxStr [IntKind.u8.wrap (w64 (48 + (a.tmod 10)))]) t = some (gxStr [IntKind.u8.wrap (w64 (48 + (a.tmod 10)))] ++ t) := by
            unfold gxSCat
            rw [if_neg (by rw [str1_size]; omega)]
          have hd : a.tdiv 10 = a / 10 := Int.tdiv_eq_ediv_of_nonneg h0
          simp only [ha, decide_true, cond_true, hc, Option.bind_some, hd, w64_id (z := a / 10) (by omega) (by omega)]
          refine Or.inl ⟨_, rfl, by simp only; omega, ?_, ?_⟩
          · simp only
            have e1 : a / 10 * 10 ≤ a := by omega
            have e2 : a / 10 * 10 * 10 ^ i ≤ a * 10 ^ i := Int.mul_le_mul_of_nonneg_right e1 (by omega)
            rw [Int.pow_succ, Int.mul_comm (10 ^ i) 10, ← Int.mul_assoc]
            omega
          · simp only [ByteArray.size_append, str1_size]
            omega
        · simp only [ha, decide_false, cond_false]
          exact Or.inr ⟨_, rfl, by omega⟩) (fun s hR => by
        obtain ⟨a, t⟩ := s
        obtain ⟨h0, h1, h2⟩ := hR
        simp only at h0 h1 h2
        have ha : ¬ (a > 0) := by omega
        simp only [ha, decide_false, cond_false]
        exact ⟨_, rfl, h2⟩)
    obtain ⟨q, hq, hq2⟩ := this
    rw [hq, Option.bind_some]
    have hc : gxSCat (ByteArray.mk #[109]) q = some ((ByteArray.mk #[109]) ++ q) := by
      unfold gxSCat
      rw [if_neg (by have : (ByteArray.mk #[109]).size = 1 := rfl; omega)]
    rw [hc]
    exact ⟨_, rfl⟩
def txt (k : Nat) : ByteArray := (M.l_markText (k : Int)).getD ByteArray.empty
theorem markText_ok (k : Nat) (h : k ≤ 1099511627776) : M.l_markText ((k : Nat) : Int) = some (txt k) := by
  obtain ⟨t, ht⟩ := markText_ex k h
  unfold txt
  rw [ht]
  rfl
def mkEvent (x : Event) (k : Nat) : Nat × Event := (k + 4, ⟨((k : Nat) : Int), (((k + 1) : Nat) : Int), txt (k + 2), (((k + 3) : Nat) : Int)⟩)
theorem markEventS_held (xs : List Event) (k : Nat) (h : k + 4 * xs.length ≤ 1099511627776) : ∃ (n : Nat) (m : List Event), M.l_markEventS xs k = some ((n : Int), m) ∧ M.l_heldEventS m k = some (n : Int) ∧ k ≤ n ∧ n = k + 4 * xs.length := by
  have hf : ∀ (x : Event) (k : Nat), k ≤ (mkEvent x k).1 := fun x k => by simp only [mkEvent]; omega
  have hc : (gmk mkEvent xs k).1 = k + 4 * xs.length := gmk_const (fun _ _ => rfl) xs k
  refine ⟨(gmk mkEvent xs k).1, (gmk mkEvent xs k).2, ?_, ?_, gmk_mono hf _ _, hc⟩
  · unfold M.l_markEventS
    rw [mark_run mkEvent hf (by omega) (by omega)]
    · rfl
    · intro i hi K L hL hK hLi hLl
      have h1 : ((i : Int) < (L.length : Int)) := by omega
      have hK : K + 4 ≤ 1099511627776 := hK
      simp only [h1, decide_true, cond_true, gxIdx_nat hL, gxIdx_same hL, List.set_set, Option.bind_some, Int.toNat_natCast, w64_succ (show K ≤ 4611686018427387904 by omega), w64_succ (show K + 1 ≤ 4611686018427387904 by omega), w64_succ (show K + 2 ≤ 4611686018427387904 by omega), w64_succ (show K + 3 ≤ 4611686018427387904 by omega), markText_ok (K + 2) (by omega), Nat.add_assoc, Nat.reduceAdd, mkEvent]
      all_goals rfl
    · intro K L hL
      simp only [hL, Int.lt_irrefl, decide_false, cond_false]
  · unfold M.l_heldEventS
    rw [held_run mkEvent (xs := xs) hf (by omega) (by omega)]
    · rfl
    · intro i hi h2 K hK he
      have h1 : ((i : Int) < ((gmk mkEvent xs k).2.length : Int)) := by omega
      have hK : K + 4 ≤ 1099511627776 := hK
      simp only [h1, decide_true, cond_true, gxIdx_nat h2, he, mkEvent, Option.bind_some, bne_self_eq_false, beq_self_eq_true, Bool.not_true, cond_false, w64_succ (show K ≤ 4611686018427387904 by omega), w64_succ (show K + 1 ≤ 4611686018427387904 by omega), w64_succ (show K + 2 ≤ 4611686018427387904 by omega), w64_succ (show K + 3 ≤ 4611686018427387904 by omega), markText_ok (K + 2) (by omega), Nat.add_assoc, Nat.reduceAdd]
      all_goals rfl
    · intro K
      simp only [gmk_len, Int.lt_irrefl, decide_false, cond_false]
      all_goals rfl
/-! ### Chosen events -/
/-- What slices.DeleteFunc computes, for any choice. -/
def delM (cl : Event → Option Bool) (x1176 : List Event) : Option ((List Event) × (List Event)) :=
  Option.bind (Option.bind (whileM (σ := Int) (ρ := (Unit) ⊕ (Int)) (fun s1125 =>
    bif decide (s1125 < (x1176.length : Int)) then (Option.bind (gxIdx x1176 s1125) fun y1137 =>
    Option.bind (cl y1137) fun r1138 =>
    bif r1138 then some (.inr (.inr s1125))
    else some (.inl (w64 (s1125 + 1))))
    else some (.inr (.inl ()))) gxFuel 0) fun out1132 => Sum.elim (fun (o1135 : Unit) =>
  some (-1)) (fun r => some r) out1132) fun r1194 =>
  bif r1194 == (-1) then some (x1176, x1176)
  else (Option.bind (whileM (σ := Int × Int × List Event) (ρ := Int × List Event) (fun s1270 =>
    bif decide (s1270.2.1 < (s1270.2.2.length : Int)) then (Option.bind (gxIdx s1270.2.2 s1270.2.1) fun y1288 =>
    Option.bind (cl y1288) fun r1295 =>
    Option.bind (α := Int × List Event) (bif !r1295 then (Option.bind (gxIdx s1270.2.2 s1270.1) fun y1312 =>
    some (w64 (s1270.1 + 1), (s1270.2.2.set s1270.1.toNat y1288)))
    else some (s1270.1, s1270.2.2)) fun o1305 =>
    some (.inl (o1305.1, w64 (s1270.2.1 + 1), o1305.2)))
    else some (.inr (s1270.1, s1270.2.2))) gxFuel (r1194, w64 (r1194 + 1), x1176)) fun out1277 =>
  Option.bind (gxSlice out1277.2 out1277.1 (out1277.2.length : Int)) fun ys1325 =>
  Option.bind (gxSlice (gxClear out1277.2 out1277.1 (out1277.2.length : Int) ((⟨0, 0, ByteArray.empty, 0⟩ : Event) : Event)) 0 out1277.1) fun ys1331 =>
  some (ys1331, (gxClear out1277.2 out1277.1 (out1277.2.length : Int) ((⟨0, 0, ByteArray.empty, 0⟩ : Event) : Event))))
theorem delM_ok {cl : Event → Option Bool} (del : Event → Bool) (hcl : ∀ y, cl y = some (del y)) (xs : List Event) (hl : xs.length ≤ 1048576) : ∃ q, delM cl xs = some q ∧ q.1 = xs.filter (fun y => !(del y)) := by
  unfold delM
  rw [while_first (fun i => (i : Int)) (fun i => del (xs.getD i gE)) (fun i => (.inr (i : Int))) (.inl ()) xs.length (by simp) (by omega) ?_ ?_]
  · cases hf : (List.range xs.length).find? (fun i => del (xs.getD i gE)) with
    | none => exact ⟨(xs, xs), rfl, (find_none_filter del gE hf).symm⟩
    | some i =>
      obtain ⟨hi, h1, h2⟩ := find_some_first del gE hf
      have hne : ((i : Int) == (-1)) = false := by simp
      simp only [Option.bind_some, Sum.elim_inr, hne, cond_false, w64_succ (show i ≤ 4611686018427387904 by omega)]
      obtain ⟨L, hL, hL2, hL3⟩ := del_loop del (xs := xs) (body := fun s1270 : Int × Int × List Event =>
        bif decide (s1270.2.1 < (s1270.2.2.length : Int)) then (Option.bind (gxIdx s1270.2.2 s1270.2.1) fun y1288 =>
        Option.bind (cl y1288) fun r1295 =>
        Option.bind (α := Int × List Event) (bif !r1295 then (Option.bind (gxIdx s1270.2.2 s1270.1) fun y1312 =>
        some (w64 (s1270.1 + 1), (s1270.2.2.set s1270.1.toNat y1288)))
        else some (s1270.1, s1270.2.2)) fun o1305 =>
        some (.inl (o1305.1, w64 (s1270.2.1 + 1), o1305.2)))
        else some (.inr (s1270.1, s1270.2.2))) (by omega) i hi h2 h1 (fun i' j L hj hi' hjl hil => by
          have e0 : ((j : Int) < (L.length : Int)) := by omega
          simp only [e0, decide_true, cond_true, gxIdx_nat hj, gxIdx_nat hi', hcl, Option.bind_some, w64_succ (show j ≤ 4611686018427387904 by omega), w64_succ (show i' ≤ 4611686018427387904 by omega), Int.toNat_natCast]
          cases del L[j] <;> rfl) (fun i' j L hj => by
          have e0 : ¬ (j < (L.length : Int)) := by omega
          simp only [e0, decide_false, cond_false])
      have hcnt : (xs.filter fun e => !(del e)).length ≤ L.length := by rw [hL2]; exact List.length_filter_le _ _
      rw [hL, Option.bind_some]
      simp only [(del_result (⟨0, 0, ByteArray.empty, 0⟩ : Event) hcnt).1, (del_result (⟨0, 0, ByteArray.empty, 0⟩ : Event) hcnt).2, Option.bind_some, hL3]
      exact ⟨_, rfl, rfl⟩
  · intro i hi
    have e0 : ((i : Int) < (xs.length : Int)) := by omega
    rw [getD_at hi]
    simp only [e0, decide_true, cond_true, gxIdx_nat hi, hcl, Option.bind_some, w64_succ (show i ≤ 4611686018427387904 by omega)]
    cases del xs[i] <;> rfl
  · simp only [Int.lt_irrefl, decide_false, cond_false]
theorem i_whereOf (xs : List Event) (g : Int) (hl : xs.length ≤ 1048576) : M.i_eventsWhere__i_EventsOf_1 xs g = some (xs.filter fun e => e.Guest == g) := by
  unfold M.i_eventsWhere__i_EventsOf_1
  rw [gxApp_ok (by simp; omega), Option.bind_some, List.nil_append]
  obtain ⟨q, hq, hq2⟩ := delM_ok (cl := fun y => M.i_eventsWhere_1__i_EventsOf_1 y g) (fun y => !(y.Guest == g)) (fun y => rfl) xs hl
  have hq' : M.slices_DeleteFunc_81__i_eventsWhere_1__i_EventsOf_1 xs g = some q := hq
  rw [hq', Option.bind_some, hq2]
  simp
theorem i_whereIn (xs : List Event) (a b : Int) (hl : xs.length ≤ 1048576) : M.i_eventsWhere__i_EventsWithin_1 xs a b = some (xs.filter fun e => decide (a ≤ e.Tick) && decide (e.Tick ≤ b)) := by
  unfold M.i_eventsWhere__i_EventsWithin_1
  rw [gxApp_ok (by simp; omega), Option.bind_some, List.nil_append]
  obtain ⟨q, hq, hq2⟩ := delM_ok (cl := fun y => M.i_eventsWhere_1__i_EventsWithin_1 y a b) (fun y => !(decide (a ≤ y.Tick) && decide (y.Tick ≤ b))) (fun y => by unfold M.i_eventsWhere_1__i_EventsWithin_1 M.i_EventsWithin_1; simp only [i_in, Option.bind_some]) xs hl
  have hq' : M.slices_DeleteFunc_81__i_eventsWhere_1__i_EventsWithin_1 xs a b = some q := hq
  rw [hq', Option.bind_some, hq2]
  simp
theorem EventsOf_eq (xs : List Event) (g : Int) (h : smallE xs) : ∃ r, M.s_EventsOf xs g = some r ∧ M.i_EventsOf xs g = some r ∧ r.1.length ≤ 1048576 := by
  have hl := h.1
  unfold M.s_EventsOf M.i_EventsOf M.s_l22Guest M.i_isParty
  simp only [s_goodE xs h, i_goodE xs h, s_in, i_in, Option.bind_some]
  cases goodE xs with
  | false => exact ⟨_, rfl, rfl, by simp⟩
  | true => cases (decide (0 ≤ g) && decide (g ≤ 4)) with
    | false => exact ⟨_, rfl, rfl, by simp⟩
    | true =>
      simp only [Bool.not_true, cond_false, Option.bind_some, i_whereOf xs g (show xs.length ≤ 1048576 by omega)]
      rw [while_filter (fun e : Event => e.Guest == g) (fun e => e) (xs := xs) (by omega) ?_ ?_]
      · refine ⟨_, rfl, by simp, ?_⟩
        simp only [List.length_map]
        exact Nat.le_trans (List.length_filter_le _ _) (by omega)
      · intro i hi acc hacc
        have e0 : ((i : Int) < (xs.length : Int)) := by omega
        simp only [e0, decide_true, cond_true, gxIdx_nat hi, Option.bind_some, gxApp_ok (show (acc.length + [xs[i]].length) * 40 ≤ 140737488355328 by simp; omega)]
        cases (xs[i].Guest == g) <;> rfl
      · intro acc
        simp only [Int.lt_irrefl, decide_false, cond_false]
theorem EventsWithin_eq (xs : List Event) (a b : Int) (h : smallE xs) : ∃ r, M.s_EventsWithin xs a b = some r ∧ M.i_EventsWithin xs a b = some r ∧ r.1.length ≤ 1048576 := by
  have hl := h.1
  unfold M.s_EventsWithin M.i_EventsWithin M.s_l11Tick M.i_isTick
  simp only [s_goodE xs h, i_goodE xs h, s_in, i_in, Option.bind_some]
  cases goodE xs with
  | false => exact ⟨_, rfl, rfl, by simp⟩
  | true => cases (decide (0 ≤ a) && decide (a ≤ 100000)) with
    | false => exact ⟨_, rfl, rfl, by simp⟩
    | true => cases (decide (0 ≤ b) && decide (b ≤ 100000)) with
      | false => exact ⟨_, rfl, rfl, by simp⟩
      | true => cases decide (a > b) with
        | true => exact ⟨_, rfl, rfl, by simp⟩
        | false =>
          simp only [Bool.not_true, cond_false, Option.bind_some, i_whereIn xs a b (show xs.length ≤ 1048576 by omega)]
          rw [while_filter (fun e : Event => decide (a ≤ e.Tick) && decide (e.Tick ≤ b)) (fun e => e) (xs := xs) (by omega) ?_ ?_]
          · refine ⟨_, rfl, by simp, ?_⟩
            simp only [List.length_map]
            exact Nat.le_trans (List.length_filter_le _ _) (by omega)
          · intro i hi acc hacc
            have e0 : ((i : Int) < (xs.length : Int)) := by omega
            simp only [e0, decide_true, cond_true, gxIdx_nat hi, Option.bind_some, gxApp_ok (show (acc.length + [xs[i]].length) * 40 ≤ 140737488355328 by simp; omega)]
            cases (decide (a ≤ xs[i].Tick) && decide (xs[i].Tick ≤ b)) <;> rfl
          · intro acc
            simp only [Int.lt_irrefl, decide_false, cond_false]
theorem plain_EventsOf (a0 : List Event) (a1 : Int) (k0 : okL okEvent a0) (k1 : okI a1) : M.l_FnExactEventsOf a0 a1 = some true := by
  unfold M.l_FnExactEventsOf
  obtain ⟨q0, hq0, hf0⟩ := szEventS_ex a0 1048576 k0 (by omega)
  rw [hq0, Option.bind_some]
  rcases hf0 with hf0 | hf0
  · simp only [hf0, decide_true, cond_true]
  have hn0 : ¬ (q0 < 0) := by omega
  simp only [hn0, decide_false, cond_false]
  have hz0 := hf0.2.2
  have hw0 : (a0.length : Int) ≤ 1048576 := hz0.1
  obtain ⟨r, hs, hi, hr0⟩ := EventsOf_eq a0 a1 hz0
  have ht0 := toEventS_id a0 (by omega)
  have he0 := eqEventS_refl a0 (by omega)
  obtain ⟨na0, ma0, hma0, _, hla0, hua0⟩ := markEventS_held a0 1 (by omega)
  have hma0 : M.l_markEventS a0 1 = _ := hma0
  obtain ⟨nr0, mr0, hmr0, hhr0, hlr0, hur0⟩ := markEventS_held r.1 1 (by omega)
  have hmr0 : M.l_markEventS r.1 1 = _ := hmr0
  have hhr0 : M.l_heldEventS mr0 1 = _ := hhr0
  have her0 := eqEventS_refl r.1 (by omega)
  simp only [hs, hi, ht0, he0, hma0, hmr0, hhr0, her0, nat_nlt, Option.bind_some, Bool.not_true, cond_false, cond_true, beq_self_eq_true, bne_self_eq_false, decide_false]
theorem plain_EventsWithin (a0 : List Event) (a1 : Int) (a2 : Int) (k0 : okL okEvent a0) (k1 : okI a1) (k2 : okI a2) : M.l_FnExactEventsWithin a0 a1 a2 = some true := by
  unfold M.l_FnExactEventsWithin
  obtain ⟨q0, hq0, hf0⟩ := szEventS_ex a0 1048576 k0 (by omega)
  rw [hq0, Option.bind_some]
  rcases hf0 with hf0 | hf0
  · simp only [hf0, decide_true, cond_true]
  have hn0 : ¬ (q0 < 0) := by omega
  simp only [hn0, decide_false, cond_false]
  have hz0 := hf0.2.2
  have hw0 : (a0.length : Int) ≤ 1048576 := hz0.1
  obtain ⟨r, hs, hi, hr0⟩ := EventsWithin_eq a0 a1 a2 hz0
  have ht0 := toEventS_id a0 (by omega)
  have he0 := eqEventS_refl a0 (by omega)
  obtain ⟨na0, ma0, hma0, _, hla0, hua0⟩ := markEventS_held a0 1 (by omega)
  have hma0 : M.l_markEventS a0 1 = _ := hma0
  obtain ⟨nr0, mr0, hmr0, hhr0, hlr0, hur0⟩ := markEventS_held r.1 1 (by omega)
  have hmr0 : M.l_markEventS r.1 1 = _ := hmr0
  have hhr0 : M.l_heldEventS mr0 1 = _ := hhr0
  have her0 := eqEventS_refl r.1 (by omega)
  simp only [hs, hi, ht0, he0, hma0, hmr0, hhr0, her0, nat_nlt, Option.bind_some, Bool.not_true, cond_false, cond_true, beq_self_eq_true, bne_self_eq_false, decide_false]
end Go.Proofs.Ytfcebglkdfadcaa
