/- Plain laws of the models: no program in sight. -/
import Derived.Test.YtfcebglkdfadcaaM
import Derived.Test.YtfcebglkdfadcaaK3
set_option linter.unusedVariables false
set_option linter.unusedSimpArgs false
set_option maxHeartbeats 4000000
namespace Go.Proofs.Ytfcebglkdfadcaa
open Go.Gx
/-! ### Draws -/
/-- The code is of bytes; so many steps at most have been made. -/
def curI (c : l1Cur) (n : Nat) : Prop := okL okU c.code ∧ 0 ≤ c.at_ ∧ c.at_ ≤ n
theorem u8_range {x : Int} (h : okU x) : 0 ≤ x ∧ x ≤ 255 := by
  unfold okU at h
  simp [Lit.wf, IntKind.min, IntKind.max, IntKind.bits, IntKind.signed] at h
  omega
theorem and255 (x : Int) : 0 ≤ gxAnd .u64 x 255 ∧ gxAnd .u64 x 255 ≤ 255 := by
  unfold gxAnd
  have h1 : (BitVec.ofInt 64 x &&& BitVec.ofInt 64 255).toNat ≤ 255 := by
    rw [BitVec.toNat_and]
    have : (BitVec.ofInt 64 255).toNat = 255 := rfl
    rw [this]
    exact Nat.and_le_right
  show 0 ≤ IntKind.u64.wrap ((BitVec.ofInt 64 x &&& BitVec.ofInt 64 255).toNat : Int) ∧ IntKind.u64.wrap ((BitVec.ofInt 64 x &&& BitVec.ofInt 64 255).toNat : Int) ≤ 255
  generalize (BitVec.ofInt 64 x &&& BitVec.ofInt 64 255).toNat = n at h1
  have h2 : IntKind.u64.wrap (n : Int) = n := by
    simp [IntKind.wrap, IntKind.bits, IntKind.signed]
    omega
  rw [h2]
  omega
theorem next_ok (c : l1Cur) (n : Nat) (h : curI c n) (hn : n ≤ 1099511627776) : ∃ r, M.s_l1Cur_next c = some r ∧ (0 ≤ r.1 ∧ r.1 ≤ 255) ∧ 0 ≤ r.2.1 ∧ r.2.1 ≤ ((n + 1 : Nat) : Int) := by
  obtain ⟨hc, h0, h1⟩ := h
  unfold M.s_l1Cur_next
  rw [w64_id (z := c.at_ + 1) (by omega) (by omega)]
  have hfst : ∃ b, (bif decide (c.at_ < (c.code.length : Int)) then (Option.bind (gxIdx c.code c.at_) fun y7680 => some (w64 y7680)) else some 0) = some b ∧ 0 ≤ b ∧ b ≤ 255 := by
    by_cases hlt : c.at_ < (c.code.length : Int)
    · obtain ⟨i, hi⟩ : ∃ i : Nat, c.at_ = i := ⟨c.at_.toNat, by omega⟩
      rw [hi] at hlt ⊢
      have hil : i < c.code.length := by omega
      have hb := u8_range (hc.2 _ (List.getElem_mem hil))
      simp only [hlt, decide_true, cond_true, gxIdx_nat hil, Option.bind_some, w64_id (z := c.code[i]) (by omega) (by omega)]
      exact ⟨_, rfl, hb.1, hb.2⟩
    · simp only [hlt, decide_false, cond_false]
      exact ⟨0, rfl, by omega, by omega⟩
  obtain ⟨b, hb, hb1⟩ := hfst
  rw [hb, Option.bind_some]
  by_cases hle : c.at_ + 1 ≤ (c.code.length : Int)
  · simp only [hle, decide_true, cond_true]
    exact ⟨_, rfl, hb1, by simp only; omega, by simp only; omega⟩
  · simp only [hle, decide_false, cond_false]
    refine ⟨_, rfl, ?_, by simp only; omega, by simp only; omega⟩
    have := and255 ((IntKind.u64.wrap ((IntKind.u64.wrap ((IntKind.u64.wrap (c.seed * 6364136223846793005)) + (IntKind.u64.wrap b))) + 843843)).fdiv (2 ^ 40))
    simp only
    rw [w64_id (by omega) (by omega)]
    exact this
/-- What a pick among k gives. -/
theorem pick_ok (c : l1Cur) (k : Int) (n : Nat) (h : curI c n) (hn : n ≤ 1099511000000) (hk : k ≤ 9223372036854775807) : ∃ r, M.s_l1Cur_pick c k = some r ∧ 0 ≤ r.1 ∧ (r.1 < k ∨ r.1 = 0) ∧ (k ≥ 1 → r.1 < k) ∧ curI ⟨c.code, r.2.1, r.2.2⟩ (n + 2) := by
  unfold M.s_l1Cur_pick
  by_cases h1 : k ≤ 1
  · simp only [h1, decide_true, cond_true]
    exact ⟨_, rfl, by simp, Or.inr rfl, fun h => by simp only; omega, h.1, h.2.1, by have := h.2.2; simp only; omega⟩
  · simp only [h1, decide_false, cond_false]
    obtain ⟨r, hr, hb, ha0, ha1⟩ := next_ok c n h (by omega)
    rw [hr, Option.bind_some]
    have hrem : ∀ v : Int, 0 ≤ v → gxRem v k = some (v % k) := by
      intro v hv
      unfold gxRem
      rw [if_neg (by omega), Int.tmod_eq_emod_of_nonneg hv]
    by_cases h2 : k > 200
    · simp only [h2, decide_true, cond_true]
      obtain ⟨r2, hr2, hb2, ha2, ha3⟩ := next_ok ⟨c.code, r.2.1, r.2.2⟩ (n + 1) ⟨h.1, ha0, ha1⟩ (by omega)
      rw [hr2, Option.bind_some, Option.bind_some]
      have e : w64 ((w64 (r.1 * 256)) + r2.1) = r.1 * 256 + r2.1 := by
        rw [w64_id (z := r.1 * 256) (by omega) (by omega), w64_id (by omega) (by omega)]
      simp only [e, hrem (r.1 * 256 + r2.1) (by omega), Option.bind_some]
      have p1 := Int.emod_nonneg (r.1 * 256 + r2.1) (show k ≠ 0 by omega)
      have p2 := Int.emod_lt_of_pos (r.1 * 256 + r2.1) (show 0 < k by omega)
      exact ⟨_, rfl, p1, Or.inl p2, fun _ => p2, h.1, ha2, by simp only; omega⟩
    · simp only [h2, decide_false, cond_false, Option.bind_some, hrem r.1 hb.1]
      have p1 := Int.emod_nonneg r.1 (show k ≠ 0 by omega)
      have p2 := Int.emod_lt_of_pos r.1 (show 0 < k by omega)
      exact ⟨_, rfl, p1, Or.inl p2, fun _ => p2, h.1, ha0, by simp only; omega⟩
theorem among_ok (c : l1Cur) (l : List Int) (n : Nat) (h : curI c n) (hn : n ≤ 1099511000000) (hl : 0 < l.length ∧ l.length ≤ 1000) : ∃ r, M.s_l1Cur_among c l = some r ∧ r.1 ∈ l ∧ curI ⟨c.code, r.2.1, r.2.2⟩ (n + 2) := by
  unfold M.s_l1Cur_among
  obtain ⟨r, hr, h0, _, h1, hc⟩ := pick_ok c (l.length : Int) n h hn (by omega)
  have h1 := h1 (by omega)
  rw [hr, Option.bind_some]
  obtain ⟨i, hi⟩ : ∃ i : Nat, r.1 = i := ⟨r.1.toNat, by omega⟩
  have hil : i < l.length := by omega
  rw [hi, gxIdx_nat hil, Option.bind_some]
  exact ⟨_, rfl, List.getElem_mem hil, hc⟩
theorem curI.mono {c : l1Cur} {n m : Nat} (h : curI c n) (hm : n ≤ m) : curI c m := ⟨h.1, h.2.1, by have := h.2.2; omega⟩
/-! ### Elements deleted -/
theorem take_set_end {α : Type} {L : List α} {i : Nat} (h : i < L.length) (v : α) : (L.set i v).take (i + 1) = L.take i ++ [v] := by
  rw [List.take_add_one, List.getElem?_set_self h, Option.toList_some, List.take_set_of_le (by omega)]
theorem del_loop {α : Type} (del : α → Bool) {xs : List α} {body : Int × Int × List α → Option ((Int × Int × List α) ⊕ (Int × List α))} (hl : xs.length ≤ 1099511627776) (i0 : Nat) (h0 : i0 < xs.length) (hb : ∀ j (hj : j < i0), del (xs[j]'(by omega)) = false) (hat : del xs[i0] = true)
    (hstep : ∀ (i j : Nat) (L : List α) (hj : j < L.length) (hi : i < L.length), j ≤ 1099511627776 → i ≤ 1099511627776 → body ((i : Int), (j : Int), L) = some (.inl (bif del L[j] then ((i : Int), ((j + 1 : Nat) : Int), L) else (((i + 1 : Nat) : Int), ((j + 1 : Nat) : Int), L.set i L[j]))))
    (hend : ∀ (i j : Int) (L : List α), (L.length : Int) ≤ j → body (i, j, L) = some (.inr (i, L))) :
    ∃ L, whileM body gxFuel ((i0 : Int), ((i0 + 1 : Nat) : Int), xs) = some (((xs.filter fun x => !(del x)).length : Int), L) ∧ L.length = xs.length ∧ L.take (xs.filter fun x => !(del x)).length = xs.filter fun x => !(del x) := by
  have hkeep : ∀ j, j ≤ i0 → (xs.take j).filter (fun x => !(del x)) = xs.take j := by
    intro j hj
    rw [List.filter_eq_self]
    intro a ha
    obtain ⟨k, hk, rfl⟩ := List.mem_iff_getElem.1 ha
    have hk' : k < j := by simp at hk; omega
    rw [List.getElem_take, hb k (by omega)]
    rfl
  have hlen : ∀ j, ((xs.take j).filter (fun x => !(del x))).length ≤ j := fun j => Nat.le_trans (List.length_filter_le _ _) (by simp; omega)
  have hsucc : ∀ j (hj : j < xs.length), (xs.take (j + 1)).filter (fun x => !(del x)) = bif del xs[j] then (xs.take j).filter (fun x => !(del x)) else (xs.take j).filter (fun x => !(del x)) ++ [xs[j]] := by
    intro j hj
    rw [List.take_add_one, List.getElem?_eq_getElem hj, Option.toList_some, List.filter_append]
    cases hd : del xs[j] <;> simp [hd]
  obtain ⟨q, hq, hq2⟩ := while_inv (body := body) (s0 := ((i0 : Int), ((i0 + 1 : Nat) : Int), xs)) (fun k s => s.2.1 = ((i0 + 1 + k : Nat) : Int) ∧ s.1 = (((xs.take (i0 + 1 + k)).filter fun x => !(del x)).length : Int) ∧ s.2.2.length = xs.length ∧ s.2.2.take ((xs.take (i0 + 1 + k)).filter fun x => !(del x)).length = (xs.take (i0 + 1 + k)).filter (fun x => !(del x)) ∧ s.2.2.drop (i0 + 1 + k) = xs.drop (i0 + 1 + k))
    (fun r => r.1 = ((xs.filter fun x => !(del x)).length : Int) ∧ r.2.length = xs.length ∧ r.2.take (xs.filter fun x => !(del x)).length = xs.filter fun x => !(del x)) (xs.length - (i0 + 1)) (by omega)
    (by
      have h1 := hsucc i0 h0
      rw [hat, cond_true, hkeep i0 (Nat.le_refl _)] at h1
      have h2 : (xs.take i0).length = i0 := by simp; omega
      refine ⟨rfl, ?_, rfl, ?_, rfl⟩
      · simp only [Nat.add_zero, h1, h2]
      · simp only [Nat.add_zero, h1, h2])
    (fun k s hk hR => by
      obtain ⟨a, b, L⟩ := s
      obtain ⟨hb', ha', hL, ht, hd⟩ := hR
      simp only at hb' ha' hL ht hd
      subst hb' ha'
      have hj : i0 + 1 + k < xs.length := by omega
      have hjL : i0 + 1 + k < L.length := by omega
      have hkl := hlen (i0 + 1 + k)
      have hv : L[i0 + 1 + k] = xs[i0 + 1 + k] := by
        have e1 : (L.drop (i0 + 1 + k))[0]? = (xs.drop (i0 + 1 + k))[0]? := by rw [hd]
        rw [List.getElem?_drop, List.getElem?_drop, Nat.add_zero, List.getElem?_eq_getElem hjL, List.getElem?_eq_getElem hj] at e1
        exact Option.some.inj e1
      have hdr : L.drop (i0 + 1 + (k + 1)) = xs.drop (i0 + 1 + (k + 1)) := by
        have : L.drop (i0 + 1 + (k + 1)) = (L.drop (i0 + 1 + k)).drop 1 := by rw [List.drop_drop]; rfl
        rw [this, hd, List.drop_drop]
        rfl
      rw [hstep _ _ L hjL (by omega) (by omega) (by omega), hv]
      have hs := hsucc (i0 + 1 + k) hj
      cases hdel : del xs[i0 + 1 + k] with
      | true =>
        rw [hdel, cond_true] at hs
        exact Or.inl ⟨_, rfl, rfl, by rw [show i0 + 1 + (k + 1) = i0 + 1 + k + 1 by omega, hs]; rfl, hL, by rw [show i0 + 1 + (k + 1) = i0 + 1 + k + 1 by omega, hs]; exact ht, hdr⟩
      | false =>
        rw [hdel, cond_false] at hs
        refine Or.inl ⟨_, rfl, rfl, ?_, ?_, ?_, ?_⟩
        · rw [show i0 + 1 + (k + 1) = i0 + 1 + k + 1 by omega, hs, List.length_append]
          rfl
        · simp only [cond_false, List.length_set]
          exact hL
        · rw [show i0 + 1 + (k + 1) = i0 + 1 + k + 1 by omega, hs, List.length_append, List.length_singleton]
          simp only [cond_false]
          rw [take_set_end (by omega), ht]
        · simp only [cond_false]
          rw [List.drop_set_of_lt (by omega)]
          exact hdr)
    (fun s hR => by
      obtain ⟨a, b, L⟩ := s
      obtain ⟨hb', ha', hL, ht, hd⟩ := hR
      simp only at hb' ha' hL ht hd
      have e : i0 + 1 + (xs.length - (i0 + 1)) = xs.length := by omega
      rw [e, List.take_length] at ht ha'
      rw [e] at hb'
      subst hb' ha'
      rw [hend _ _ L (by omega)]
      exact ⟨_, rfl, rfl, hL, ht⟩)
  obtain ⟨qa, L⟩ := q
  obtain ⟨h1, h2, h3⟩ := hq2
  simp only at h1 h2 h3
  subst h1
  exact ⟨L, hq, h2, h3⟩
theorem del_result {α : Type} {L : List α} {n : Nat} (z : α) (hn : n ≤ L.length) : gxSlice L (n : Int) (L.length : Int) = some (L.drop n) ∧ gxSlice (gxClear L (n : Int) (L.length : Int) z) 0 (n : Int) = some (L.take n) := by
  constructor
  · unfold gxSlice
    rw [if_pos ⟨by omega, by omega, by omega⟩]
    simp
  · have hl : (gxClear L (n : Int) (L.length : Int) z).length = L.length := by simp [gxClear]; omega
    unfold gxSlice
    rw [if_pos ⟨by omega, by omega, by rw [hl]; omega⟩]
    simp only [Int.toNat_zero, List.drop_zero, Int.toNat_natCast]
    unfold gxClear
    simp only [Int.toNat_natCast, List.append_assoc]
    rw [List.take_append_of_le_length (by simp; omega), List.take_take]
    simp
theorem find_none_filter {α : Type} {xs : List α} (del : α → Bool) (z : α) (h : (List.range xs.length).find? (fun i => del (xs.getD i z)) = none) : (xs.filter fun x => !(del x)) = xs := by
  rw [List.filter_eq_self]
  rw [List.find?_eq_none] at h
  intro a ha
  obtain ⟨i, hi, rfl⟩ := List.mem_iff_getElem.1 ha
  have := h i (List.mem_range.2 hi)
  rw [getD_at hi] at this
  simpa using this
theorem find_some_first {α : Type} {xs : List α} (del : α → Bool) (z : α) {i : Nat} (h : (List.range xs.length).find? (fun i => del (xs.getD i z)) = some i) : ∃ hi : i < xs.length, del xs[i] = true ∧ ∀ j (hj : j < i), del (xs[j]'(by omega)) = false := by
  rw [List.find?_range_eq_some] at h
  obtain ⟨h1, h2, h3⟩ := h
  have hi := List.mem_range.1 h2
  refine ⟨hi, by rwa [getD_at hi] at h1, fun j hj => ?_⟩
  have := h3 j hj
  rw [getD_at (show j < xs.length by omega)] at this
  simpa using this
/-! ### Chosen events -/
/-- What slices.DeleteFunc computes, for any choice. -/
def delM (cl : Event → Option Bool) (x1176 : List Event) : Option ((List Event) × (List Event)) :=
  Option.bind (Option.bind (whileM (σ := Int) (ρ := (Unit) ⊕ (Int)) (fun s1125 =>
    bif decide (s1125 < (x1176.length : Int)) then (Option.bind (gxIdx x1176 s1125) fun y1137 =>
    Option.bind (cl y1137) fun r1138 =>
    bif r1138 then some (.inr (.inr s1125))
    else some (.inl (w64 (s1125 + 1))))
    else some (.inr (.inl ()))) gxFuel 0) fun out1132 => Sum.elim (fun (o1135 : Unit) =>
  some (-1)) (fun r => some r) out1132) fun r1194 =>
  bif r1194 == (-1) then some (x1176, x1176)
  else (Option.bind (whileM (σ := Int × Int × List Event) (ρ := Int × List Event) (fun s1270 =>
    bif decide (s1270.2.1 < (s1270.2.2.length : Int)) then (Option.bind (gxIdx s1270.2.2 s1270.2.1) fun y1288 =>
    Option.bind (cl y1288) fun r1295 =>
    Option.bind (α := Int × List Event) (bif !r1295 then (Option.bind (gxIdx s1270.2.2 s1270.1) fun y1312 =>
    some (w64 (s1270.1 + 1), (s1270.2.2.set s1270.1.toNat y1288)))
    else some (s1270.1, s1270.2.2)) fun o1305 =>
    some (.inl (o1305.1, w64 (s1270.2.1 + 1), o1305.2)))
    else some (.inr (s1270.1, s1270.2.2))) gxFuel (r1194, w64 (r1194 + 1), x1176)) fun out1277 =>
  Option.bind (gxSlice out1277.2 out1277.1 (out1277.2.length : Int)) fun ys1325 =>
  Option.bind (gxSlice (gxClear out1277.2 out1277.1 (out1277.2.length : Int) ((⟨0, 0, ByteArray.empty, 0⟩ : Event) : Event)) 0 out1277.1) fun ys1331 =>
  some (ys1331, (gxClear out1277.2 out1277.1 (out1277.2.length : Int) ((⟨0, 0, ByteArray.empty, 0⟩ : Event) : Event))))
theorem delM_ok {cl : Event → Option Bool} (del : Event → Bool) (hcl : ∀ y, cl y = some (del y)) (xs : List Event) (hl : xs.length ≤ 1048576) : ∃ q, delM cl xs = some q ∧ q.1 = xs.filter (fun y => !(del y)) := by
  unfold delM
  rw [while_first (fun i => (i : Int)) (fun i => del (xs.getD i gE)) (fun i => (.inr (i : Int))) (.inl ()) xs.length (by simp) (by omega) ?_ ?_]
  · cases hf : (List.range xs.length).find? (fun i => del (xs.getD i gE)) with
    | none => exact ⟨(xs, xs), rfl, (find_none_filter del gE hf).symm⟩
    | some i =>
      obtain ⟨hi, h1, h2⟩ := find_some_first del gE hf
      have hne : ((i : Int) == (-1)) = false := by simp
      simp only [Option.bind_some, Sum.elim_inr, hne, cond_false, w64_succ (show i ≤ 4611686018427387904 by omega)]
      obtain ⟨L, hL, hL2, hL3⟩ := del_loop del (xs := xs) (body := fun s1270 : Int × Int × List Event =>
        bif decide (s1270.2.1 < (s1270.2.2.length : Int)) then (Option.bind (gxIdx s1270.2.2 s1270.2.1) fun y1288 =>
        Option.bind (cl y1288) fun r1295 =>
        Option.bind (α := Int × List Event) (bif !r1295 then (Option.bind (gxIdx s1270.2.2 s1270.1) fun y1312 =>
        some (w64 (s1270.1 + 1), (s1270.2.2.set s1270.1.toNat y1288)))
        else some (s1270.1, s1270.2.2)) fun o1305 =>
        some (.inl (o1305.1, w64 (s1270.2.1 + 1), o1305.2)))
        else some (.inr (s1270.1, s1270.2.2))) (by omega) i hi h2 h1 (fun i' j L hj hi' hjl hil => by
          have e0 : ((j : Int) < (L.length : Int)) := by omega
          simp only [e0, decide_true, cond_true, gxIdx_nat hj, gxIdx_nat hi', hcl, Option.bind_some, w64_succ (show j ≤ 4611686018427387904 by omega), w64_succ (show i' ≤ 4611686018427387904 by omega), Int.toNat_natCast]
          cases del L[j] <;> rfl) (fun i' j L hj => by
          have e0 : ¬ (j < (L.length : Int)) := by omega
          simp only [e0, decide_false, cond_false])
      have hcnt : (xs.filter fun e => !(del e)).length ≤ L.length := by rw [hL2]; exact List.length_filter_le _ _
      rw [hL, Option.bind_some]
      simp only [(del_result (⟨0, 0, ByteArray.empty, 0⟩ : Event) hcnt).1, (del_result (⟨0, 0, ByteArray.empty, 0⟩ : Event) hcnt).2, Option.bind_some, hL3]
      exact ⟨_, rfl, rfl⟩
  · intro i hi
    have e0 : ((i : Int) < (xs.length : Int)) := by omega
    rw [getD_at hi]
    simp only [e0, decide_true, cond_true, gxIdx_nat hi, hcl, Option.bind_some, w64_succ (show i ≤ 4611686018427387904 by omega)]
    cases del xs[i] <;> rfl
  · simp only [Int.lt_irrefl, decide_false, cond_false]
theorem i_whereOf (xs : List Event) (g : Int) (hl : xs.length ≤ 1048576) : M.i_eventsWhere__i_EventsOf_1 xs g = some (xs.filter fun e => e.Guest == g) := by
  unfold M.i_eventsWhere__i_EventsOf_1
  rw [gxApp_ok (by simp; omega), Option.bind_some, List.nil_append]
  obtain ⟨q, hq, hq2⟩ := delM_ok (cl := fun y => M.i_eventsWhere_1__i_EventsOf_1 y g) (fun y => !(y.Guest == g)) (fun y => rfl) xs hl
  have hq' : M.slices_DeleteFunc_81__i_eventsWhere_1__i_EventsOf_1 xs g = some q := hq
  rw [hq', Option.bind_some, hq2]
  simp
theorem i_whereIn (xs : List Event) (a b : Int) (hl : xs.length ≤ 1048576) : M.i_eventsWhere__i_EventsWithin_1 xs a b = some (xs.filter fun e => decide (a ≤ e.Tick) && decide (e.Tick ≤ b)) := by
  unfold M.i_eventsWhere__i_EventsWithin_1
  rw [gxApp_ok (by simp; omega), Option.bind_some, List.nil_append]
  obtain ⟨q, hq, hq2⟩ := delM_ok (cl := fun y => M.i_eventsWhere_1__i_EventsWithin_1 y a b) (fun y => !(decide (a ≤ y.Tick) && decide (y.Tick ≤ b))) (fun y => by unfold M.i_eventsWhere_1__i_EventsWithin_1 M.i_EventsWithin_1; simp only [i_in, Option.bind_some]) xs hl
  have hq' : M.slices_DeleteFunc_81__i_eventsWhere_1__i_EventsWithin_1 xs a b = some q := hq
  rw [hq', Option.bind_some, hq2]
  simp
theorem EventsOf_eq (xs : List Event) (g : Int) (h : smallE xs) : ∃ r, M.s_EventsOf xs g = some r ∧ M.i_EventsOf xs g = some r ∧ r.1.length ≤ 1048576 := by
  have hl := h.1
  unfold M.s_EventsOf M.i_EventsOf M.s_l22Guest M.i_isParty
  simp only [s_goodE xs h, i_goodE xs h, s_in, i_in, Option.bind_some]
  cases goodE xs with
  | false => exact ⟨_, rfl, rfl, by simp⟩
  | true => cases (decide (0 ≤ g) && decide (g ≤ 4)) with
    | false => exact ⟨_, rfl, rfl, by simp⟩
    | true =>
      simp only [Bool.not_true, cond_false, Option.bind_some, i_whereOf xs g (show xs.length ≤ 1048576 by omega)]
      rw [while_filter (fun e : Event => e.Guest == g) (fun e => e) (xs := xs) (by omega) ?_ ?_]
      · refine ⟨_, rfl, by simp, ?_⟩
        simp only [List.length_map]
        exact Nat.le_trans (List.length_filter_le _ _) (by omega)
      · intro i hi acc hacc
        have e0 : ((i : Int) < (xs.length : Int)) := by omega
        simp only [e0, decide_true, cond_true, gxIdx_nat hi, Option.bind_some, gxApp_ok (show (acc.length + [xs[i]].length) * 40 ≤ 140737488355328 by simp; omega)]
        cases (xs[i].Guest == g) <;> rfl
      · intro acc
        simp only [Int.lt_irrefl, decide_false, cond_false]
theorem EventsWithin_eq (xs : List Event) (a b : Int) (h : smallE xs) : ∃ r, M.s_EventsWithin xs a b = some r ∧ M.i_EventsWithin xs a b = some r ∧ r.1.length ≤ 1048576 := by
  have hl := h.1
  unfold M.s_EventsWithin M.i_EventsWithin M.s_l11Tick M.i_isTick
  simp only [s_goodE xs h, i_goodE xs h, s_in, i_in, Option.bind_some]
  cases goodE xs with
  | false => exact ⟨_, rfl, rfl, by simp⟩
  | true => cases (decide (0 ≤ a) && decide (a ≤ 100000)) with
    | false => exact ⟨_, rfl, rfl, by simp⟩
    | true => cases (decide (0 ≤ b) && decide (b ≤ 100000)) with
      | false => exact ⟨_, rfl, rfl, by simp⟩
      | true => cases decide (a > b) with
        | true => exact ⟨_, rfl, rfl, by simp⟩
        | false =>
          simp only [Bool.not_true, cond_false, Option.bind_some, i_whereIn xs a b (show xs.length ≤ 1048576 by omega)]
          rw [while_filter (fun e : Event => decide (a ≤ e.Tick) && decide (e.Tick ≤ b)) (fun e => e) (xs := xs) (by omega) ?_ ?_]
          · refine ⟨_, rfl, by simp, ?_⟩
            simp only [List.length_map]
            exact Nat.le_trans (List.length_filter_le _ _) (by omega)
          · intro i hi acc hacc
            have e0 : ((i : Int) < (xs.length : Int)) := by omega
            simp only [e0, decide_true, cond_true, gxIdx_nat hi, Option.bind_some, gxApp_ok (show (acc.length + [xs[i]].length) * 40 ≤ 140737488355328 by simp; omega)]
            cases (decide (a ≤ xs[i].Tick) && decide (xs[i].Tick ≤ b)) <;> rfl
          · intro acc
            simp only [Int.lt_irrefl, decide_false, cond_false]
/-! ### Draws of events -/
def fitE (xs : List Event) : Prop := xs.length ≤ 40 ∧ ∀ e ∈ xs, e.Kind.size ≤ 16
theorem fit_small {xs : List Event} (h : fitE xs) : smallE xs := ⟨by have := h.1; omega, fun e he => by have := h.2 e he; omega⟩
theorem of_ok (c : l1Cur) (l : List ByteArray) (n : Nat) (h : curI c n) (hn : n ≤ 1099511000000) (hl : 0 < l.length ∧ l.length ≤ 1000) (hs : l.all (fun s => decide (s.size ≤ 16)) = true) : ∃ r, M.s_l1Cur_of c l = some r ∧ r.1.size ≤ 16 ∧ curI ⟨c.code, r.2.1, r.2.2⟩ (n + 2) := by
  unfold M.s_l1Cur_of
  obtain ⟨r, hr, h0, _, h1, hc⟩ := pick_ok c (l.length : Int) n h hn (by omega)
  have h1 := h1 (by omega)
  rw [hr, Option.bind_some]
  obtain ⟨i, hi⟩ : ∃ i : Nat, r.1 = i := ⟨r.1.toNat, by omega⟩
  have hil : i < l.length := by omega
  rw [hi, gxIdx_nat hil, Option.bind_some]
  exact ⟨_, rfl, by simpa using List.all_eq_true.1 hs _ (List.getElem_mem hil), hc⟩
theorem event_ok (c : l1Cur) (t : Int) (n : Nat) (h : curI c n) (hn : n ≤ 1099510000000) : ∃ r, M.s_l1Cur_event c t = some r ∧ r.1.Kind.size ≤ 16 ∧ curI ⟨c.code, r.2.1, r.2.2⟩ (n + 40) := by
  unfold M.s_l1Cur_event
  obtain ⟨a, ha, _, _, _, hac⟩ := pick_ok c 5 n h (by omega) (by omega)
  obtain ⟨b, hb, hbs, hbc⟩ := of_ok ⟨c.code, a.2.1, a.2.2⟩ [(ByteArray.mk #[116, 114, 97, 112]), (ByteArray.mk #[116, 114, 97, 112]), (ByteArray.mk #[104, 97, 108, 116]), (ByteArray.mk #[105, 114, 113]), (ByteArray.mk #[119, 97, 107, 101]), (ByteArray.mk #[97]), (ByteArray.mk #[108, 111, 110, 103, 119, 111, 114, 100])] _ hac (by omega) (by simp) (by decide)
  obtain ⟨d, hd, _, hdc⟩ := among_ok ⟨c.code, b.2.1, b.2.2⟩ [0, 0, 1, 7, 255, 65535] _ hbc (by omega) (by simp)
  obtain ⟨e, he, _, _, _, hec⟩ := pick_ok ⟨c.code, d.2.1, d.2.2⟩ 80 _ hdc (by omega) (by omega)
  simp only [ha, hb, hd, he, Option.bind_some]
  cases h0 : (e.1 == 0) with
  | true =>
    obtain ⟨f, hf, _, hfc⟩ := among_ok ⟨c.code, e.2.1, e.2.2⟩ [(-1), 100000, 100001] _ hec (by omega) (by simp)
    simp only [cond_true, hf, Option.bind_some]
    exact ⟨_, rfl, hbs, hfc.mono (by omega)⟩
  | false => cases h1 : (e.1 == 1) with
    | true =>
      obtain ⟨f, hf, _, hfc⟩ := among_ok ⟨c.code, e.2.1, e.2.2⟩ [(-1), 5] _ hec (by omega) (by simp)
      simp only [cond_true, cond_false, hf, Option.bind_some]
      exact ⟨_, rfl, hbs, hfc.mono (by omega)⟩
    | false => cases h2 : (e.1 == 2) with
      | true =>
        obtain ⟨f, hf, hfs, hfc⟩ := of_ok ⟨c.code, e.2.1, e.2.2⟩ [(ByteArray.mk #[]), (ByteArray.mk #[65]), (ByteArray.mk #[110, 105, 110, 101, 99, 104, 97, 114, 115])] _ hec (by omega) (by simp) (by decide)
        simp only [cond_true, cond_false, hf, Option.bind_some]
        exact ⟨_, rfl, hfs, hfc.mono (by omega)⟩
      | false => cases h3 : (e.1 == 3) with
        | true =>
          obtain ⟨f, hf, _, hfc⟩ := among_ok ⟨c.code, e.2.1, e.2.2⟩ [(-1), 65536] _ hec (by omega) (by simp)
          simp only [cond_true, cond_false, hf, Option.bind_some]
          exact ⟨_, rfl, hbs, hfc.mono (by omega)⟩
        | false =>
          simp only [cond_false, Option.bind_some]
          exact ⟨_, rfl, hbs, hec.mono (by omega)⟩
theorem least_ok (a b : Int) : ∃ v, M.s_l1Least a b = some v := by
  unfold M.s_l1Least
  cases decide (a < b) <;> exact ⟨_, rfl⟩
theorem fit_app {xs : List Event} {e : Event} (h : ∀ y ∈ xs, y.Kind.size ≤ 16) (he : e.Kind.size ≤ 16) : ∀ y ∈ xs ++ [e], y.Kind.size ≤ 16 := fun y hy => by
  rcases List.mem_append.1 hy with hy | hy
  · exact h y hy
  · rw [List.mem_singleton] at hy
    rw [hy]
    exact he
theorem record_ok (c : l1Cur) (n : Nat) (h : curI c n) (hn : n ≤ 1000000) : ∃ r, M.s_l1Cur_record22 c = some r ∧ fitE r.1 ∧ curI ⟨c.code, r.2.1, r.2.2⟩ (n + 3000) := by
  unfold M.s_l1Cur_record22
  obtain ⟨a, ha, _, hac⟩ := among_ok c [0, 3, 99990] n h (by omega) (by simp)
  obtain ⟨b, hb, hb0, _, hb1, hbc⟩ := pick_ok ⟨c.code, a.2.1, a.2.2⟩ 9 _ hac (by omega) (by omega)
  have hb1 := hb1 (by omega)
  rw [ha, Option.bind_some, hb, Option.bind_some]
  obtain ⟨q, hq, hqk, hql, hqc⟩ := while_inv (body := fun s11111 : List Event × Int × Int × Int × Int =>
    bif decide (s11111.2.2.1 > 0) then (Option.bind (M.s_l1Cur_event (⟨c.code, s11111.2.2.2.1, s11111.2.2.2.2⟩ : l1Cur) s11111.2.1) fun r11133 =>
    Option.bind (gxApp 40 s11111.1 [r11133.1]) fun ap11144 =>
    Option.bind (M.s_l1Cur_among (⟨c.code, r11133.2.1, r11133.2.2⟩ : l1Cur) [0, 0, 1, 5, 30]) fun r11159 =>
    Option.bind (M.s_l1Least 100000 (w64 (s11111.2.1 + r11159.1))) fun r11163 =>
    some (Sum.inl (β := List Event × Int × Int) (ap11144, r11163, w64 (s11111.2.2.1 - 1), r11159.2.1, r11159.2.2)))
    else some (.inr (s11111.1, s11111.2.2.2.1, s11111.2.2.2.2))) (s0 := (([] : List Event), a.1, b.1, b.2.1, b.2.2))
    (fun i s => s.2.2.1 = b.1 - i ∧ (∀ y ∈ s.1, y.Kind.size ≤ 16) ∧ s.1.length = i ∧ curI ⟨c.code, s.2.2.2.1, s.2.2.2.2⟩ (n + 4 + 50 * i))
    (fun r => (∀ y ∈ r.1, y.Kind.size ≤ 16) ∧ r.1.length ≤ 8 ∧ curI ⟨c.code, r.2.1, r.2.2⟩ (n + 4 + 400)) b.1.toNat (by omega) ⟨by simp, by simp, rfl, hbc⟩ (fun i s hi hR => by
      obtain ⟨X, t, k, p, sd⟩ := s
      obtain ⟨h1, h2, h3, h4⟩ := hR
      simp only at h1 h2 h3 h4
      have e0 : k > 0 := by omega
      obtain ⟨e, he, hes, hec⟩ := event_ok ⟨c.code, p, sd⟩ t _ h4 (by omega)
      obtain ⟨f, hf, _, hfc⟩ := among_ok ⟨c.code, e.2.1, e.2.2⟩ [0, 0, 1, 5, 30] _ hec (by omega) (by simp)
      obtain ⟨v, hv⟩ := least_ok 100000 (w64 (t + f.1))
      have p1 : gxApp 40 X [e.1] = some (X ++ [e.1]) := gxApp_ok (by simp; omega)
      simp only [e0, decide_true, cond_true, he, Option.bind_some, p1, hf, hv]
      refine Or.inl ⟨_, rfl, ?_, fit_app h2 hes, by simp [h3], hfc.mono (by omega)⟩
      simp only
      rw [w64_id (by omega) (by omega)]
      omega) (fun s hR => by
      obtain ⟨X, t, k, p, sd⟩ := s
      obtain ⟨h1, h2, h3, h4⟩ := hR
      simp only at h1 h2 h3 h4
      have e0 : ¬ (k > 0) := by omega
      simp only [e0, decide_false, cond_false]
      exact ⟨_, rfl, h2, by simp only; omega, h4.mono (by omega)⟩)
  rw [hq, Option.bind_some]
  obtain ⟨d, hd, _, _, _, hdc⟩ := pick_ok ⟨c.code, q.2.1, q.2.2⟩ 30 _ hqc (by omega) (by omega)
  rw [hd, Option.bind_some]
  cases h0 : (d.1 == 0) with
  | true =>
    obtain ⟨e, he, hes, hec⟩ := event_ok ⟨c.code, d.2.1, d.2.2⟩ 1 _ hdc (by omega)
    have p1 : gxApp 40 q.1 [e.1] = some (q.1 ++ [e.1]) := gxApp_ok (by simp; omega)
    simp only [cond_true, he, Option.bind_some, p1]
    exact ⟨_, rfl, ⟨by simp; omega, fit_app hqk hes⟩, hec.mono (by omega)⟩
  | false => cases h1 : (d.1 == 1) with
    | true =>
      simp only [cond_false, cond_true]
      obtain ⟨u, hu, hu1, hu2, hu3⟩ := while_inv (body := fun s11562 : List Event × Int × Int =>
        Option.bind (M.s_l1Cur_pick (⟨c.code, s11562.2.1, s11562.2.2⟩ : l1Cur) 2) fun r11583 =>
        bif decide ((s11562.1.length : Int) < (w64 (30 + r11583.1))) then (Option.bind (gxApp 40 s11562.1 [(⟨100000, 0, (ByteArray.mk #[120]), 0⟩ : Event)]) fun ap11595 =>
        some (Sum.inl (β := List Event × Int × Int) (ap11595, r11583.2.1, r11583.2.2)))
        else some (.inr (s11562.1, r11583.2.1, r11583.2.2))) (s0 := (q.1, d.2.1, d.2.2))
        (fun i s => (∀ y ∈ s.1, y.Kind.size ≤ 16) ∧ s.1.length = q.1.length + i ∧ curI ⟨c.code, s.2.1, s.2.2⟩ (n + 500 + 3 * i))
        (fun r => (∀ y ∈ r.1, y.Kind.size ≤ 16) ∧ r.1.length ≤ 40 ∧ curI ⟨c.code, r.2.1, r.2.2⟩ (n + 1000)) (31 - q.1.length) (by omega) ⟨hqk, rfl, hdc.mono (by omega)⟩ (fun i s hi hR => by
          obtain ⟨X, p, sd⟩ := s
          obtain ⟨h1, h2, h3⟩ := hR
          simp only at h1 h2 h3
          obtain ⟨e, he, he0, _, he1, hec⟩ := pick_ok ⟨c.code, p, sd⟩ 2 _ h3 (by omega) (by omega)
          have p1 : gxApp 40 X [(⟨100000, 0, (ByteArray.mk #[120]), 0⟩ : Event)] = some (X ++ [(⟨100000, 0, (ByteArray.mk #[120]), 0⟩ : Event)]) := gxApp_ok (by simp; omega)
          simp only [he, Option.bind_some, p1]
          cases decide ((X.length : Int) < w64 (30 + e.1)) with
          | true => exact Or.inl ⟨_, rfl, fit_app h1 (by decide), by simp; omega, hec.mono (by omega)⟩
          | false => exact Or.inr ⟨_, rfl, h1, by simp only; omega, hec.mono (by omega)⟩) (fun s hR => by
          obtain ⟨X, p, sd⟩ := s
          obtain ⟨h1, h2, h3⟩ := hR
          simp only at h1 h2 h3
          obtain ⟨e, he, he0, _, he1, hec⟩ := pick_ok ⟨c.code, p, sd⟩ 2 _ h3 (by omega) (by omega)
          have he1 := he1 (by omega)
          have e0 : ¬ ((X.length : Int) < w64 (30 + e.1)) := by rw [w64_id (by omega) (by omega)]; omega
          simp only [he, Option.bind_some, e0, decide_false, cond_false]
          exact ⟨_, rfl, h1, by simp only; omega, hec.mono (by omega)⟩)
      rw [hu, Option.bind_some, Option.bind_some, Option.bind_some]
      exact ⟨_, rfl, ⟨hu2, hu1⟩, hu3.mono (by omega)⟩
    | false =>
      simp only [cond_false, Option.bind_some]
      exact ⟨_, rfl, ⟨by simp only; omega, hqk⟩, hdc.mono (by omega)⟩
theorem cur0E {code : List Int} (h : okL okU code) : curI ⟨code, 0, 0⟩ 0 := ⟨h, by simp, by simp⟩
theorem drawM_ok (code : List Int) (h : okL okU code) : ∃ a b, M.s_DrawMergeRecords code = some (a, b) ∧ fitE a ∧ fitE b := by
  unfold M.s_DrawMergeRecords
  obtain ⟨a, ha, haf, hac⟩ := record_ok ⟨code, 0, 0⟩ 0 (cur0E h) (by omega)
  obtain ⟨b, hb, hbf, hbc⟩ := record_ok ⟨code, a.2.1, a.2.2⟩ _ hac (by omega)
  simp only [ha, hb, Option.bind_some]
  exact ⟨_, _, rfl, haf, hbf⟩
theorem drawAdd_ok (code : List Int) (h : okL okU code) : ∃ a e, M.s_DrawAddEvent code = some (a, e) ∧ fitE a ∧ e.Kind.size ≤ 16 := by
  unfold M.s_DrawAddEvent
  obtain ⟨a, ha, haf, hac⟩ := record_ok ⟨code, 0, 0⟩ 0 (cur0E h) (by omega)
  obtain ⟨b, hb, _, hbc⟩ := among_ok ⟨code, a.2.1, a.2.2⟩ [0, 3, 4, 10, 100000] _ hac (by omega) (by simp)
  obtain ⟨e, he, hes, hec⟩ := event_ok ⟨code, b.2.1, b.2.2⟩ b.1 _ hbc (by omega)
  simp only [ha, hb, he, Option.bind_some]
  exact ⟨_, _, rfl, haf, hes⟩
theorem drawW_ok (code : List Int) (h : okL okU code) : ∃ a x y, M.s_DrawEventsWithin code = some (a, x, y) ∧ fitE a := by
  unfold M.s_DrawEventsWithin
  obtain ⟨a, ha, haf, hac⟩ := record_ok ⟨code, 0, 0⟩ 0 (cur0E h) (by omega)
  obtain ⟨b, hb, _, hbc⟩ := among_ok ⟨code, a.2.1, a.2.2⟩ [0, 3, 10, 99990, (-1)] _ hac (by omega) (by simp)
  obtain ⟨d, hd, _, hdc⟩ := among_ok ⟨code, b.2.1, b.2.2⟩ [0, 1, 10, 100, (-1), 100000] _ hbc (by omega) (by simp)
  simp only [ha, hb, hd, Option.bind_some]
  exact ⟨_, _, _, rfl, haf⟩
theorem drawF_ok (code : List Int) (h : okL okU code) : ∃ a k v, M.s_DrawFirstWith code = some (a, k, v) ∧ fitE a ∧ k.size ≤ 16 := by
  unfold M.s_DrawFirstWith
  obtain ⟨a, ha, haf, hac⟩ := record_ok ⟨code, 0, 0⟩ 0 (cur0E h) (by omega)
  obtain ⟨b, hb, hbs, hbc⟩ := of_ok ⟨code, a.2.1, a.2.2⟩ [(ByteArray.mk #[116, 114, 97, 112]), (ByteArray.mk #[104, 97, 108, 116]), (ByteArray.mk #[105, 114, 113]), (ByteArray.mk #[110, 111, 110, 101]), (ByteArray.mk #[])] _ hac (by omega) (by simp) (by decide)
  obtain ⟨e, he, he0, _, he1, hec⟩ := pick_ok ⟨code, b.2.1, b.2.2⟩ 24 _ hbc (by omega) (by omega)
  have he1 := he1 (by omega)
  have hdv : e.1.tdiv 11 = e.1 / 11 := Int.tdiv_eq_ediv_of_nonneg he0
  have hw : w64 (4 + w64 (e.1.tdiv 11)) = (((4 + e.1 / 11).toNat : Nat) : Int) := by
    rw [hdv, w64_id (z := e.1 / 11) (by omega) (by omega), w64_id (by omega) (by omega)]
    omega
  obtain ⟨f, hf, _, hfc⟩ := among_ok ⟨code, e.2.1, e.2.2⟩ (([0, 1, 8, 65535, (-1), 65536] : List Int).take (4 + e.1 / 11).toNat) _ hec (by omega) (by simp; omega)
  have hsl : gxSlice ([0, 1, 8, 65535, (-1), 65536] : List Int) 0 (((4 + e.1 / 11).toNat : Nat) : Int) = some (([0, 1, 8, 65535, (-1), 65536] : List Int).take (4 + e.1 / 11).toNat) := gxSlice_take (by simp; omega)
  simp only [ha, hb, he, hw, hsl, hf, Option.bind_some]
  exact ⟨_, _, _, rfl, haf, hbs⟩
theorem drawG_ok (code : List Int) (h : okL okU code) : ∃ a, M.s_DrawLongestGap code = some a ∧ fitE a := by
  unfold M.s_DrawLongestGap M.s_DrawIsRecord
  obtain ⟨a, ha, haf, hac⟩ := record_ok ⟨code, 0, 0⟩ 0 (cur0E h) (by omega)
  simp only [ha, Option.bind_some]
  exact ⟨_, rfl, haf⟩
end Go.Proofs.Ytfcebglkdfadcaa
