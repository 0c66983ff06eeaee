/- Plain laws of the models: no program in sight. -/
import Derived.Test.YtphinfkojhecdaaM
import Derived.Test.YtphinfkojhecdaaL6
set_option linter.unusedVariables false
set_option linter.unusedSimpArgs false
set_option maxHeartbeats 4000000
namespace Go.Proofs.Ytphinfkojhecdaa
open Go.Gx
/-! ### Loops with an invariant -/
theorem while_inv_fuel {σ ρ : Type} {body : σ → Option (σ ⊕ ρ)} (R : Nat → σ → Prop) (Q : ρ → Prop) (n : Nat) (hstep : ∀ i s, i < n → R i s → (∃ s', body s = some (.inl s') ∧ R (i + 1) s') ∨ (∃ r, body s = some (.inr r) ∧ Q r)) (hend : ∀ s, R n s → ∃ r, body s = some (.inr r) ∧ Q r) : ∀ (k i fuel : Nat) (s : σ), i + k = n → k < fuel → R i s → ∃ r, whileM body fuel s = some r ∧ Q r
  | 0, i, fuel, s, hi, hf, hR => by
    obtain ⟨m, rfl⟩ : ∃ m, fuel = m + 1 := ⟨fuel - 1, by omega⟩
    obtain ⟨r, hr, hq⟩ := hend s (by rw [← hi]; exact hR)
    exact ⟨r, by simp only [whileM, hr], hq⟩
  | k + 1, i, fuel, s, hi, hf, hR => by
    obtain ⟨m, rfl⟩ : ∃ m, fuel = m + 1 := ⟨fuel - 1, by omega⟩
    rcases hstep i s (by omega) hR with ⟨s', hs, hR'⟩ | ⟨r, hr, hq⟩
    · obtain ⟨r, hr, hq⟩ := while_inv_fuel R Q n hstep hend k (i + 1) m s' (by omega) (by omega) hR'
      exact ⟨r, by simp only [whileM, hs]; exact hr, hq⟩
    · exact ⟨r, by simp only [whileM, hr], hq⟩
theorem while_inv {σ ρ : Type} {body : σ → Option (σ ⊕ ρ)} {s0 : σ} (R : Nat → σ → Prop) (Q : ρ → Prop) (n : Nat) (hn : n ≤ 4611686018427387904) (h0 : R 0 s0) (hstep : ∀ i s, i < n → R i s → (∃ s', body s = some (.inl s') ∧ R (i + 1) s') ∨ (∃ r, body s = some (.inr r) ∧ Q r)) (hend : ∀ s, R n s → ∃ r, body s = some (.inr r) ∧ Q r) : ∃ r, whileM body gxFuel s0 = some r ∧ Q r :=
  while_inv_fuel R Q n hstep hend n 0 gxFuel s0 (by omega) (by unfold gxFuel; omega) h0
theorem while_map {β : Type} (F : Nat → β) {n : Nat} {body : List β × Int → Option ((List β × Int) ⊕ List β)} (hl : n ≤ 1099511627776)
    (h : ∀ (i : Nat) (hi : i < n) (acc : List β), acc.length = i → body (acc, (i : Int)) = some (.inl (acc ++ [F i], w64 ((i : Int) + 1))))
    (he : ∀ acc : List β, acc.length = n → body (acc, (n : Int)) = some (.inr acc)) : whileM body gxFuel ([], 0) = some ((List.range n).map F) := by
  refine while_run (fun i => ((List.range i).map F, (i : Int))) _ n (by simp) (by omega) (fun i hi => ?_) (he _ (by simp))
  rw [h i hi _ (by simp), w64_succ (by omega), List.range_succ, List.map_append]
  rfl
/-! ### Draws -/
/-- The code is of bytes; so many steps at most have been made. -/
def curI (c : l1Cur) (n : Nat) : Prop := okL okU c.code ∧ 0 ≤ c.at_ ∧ c.at_ ≤ n
theorem u8_range {x : Int} (h : okU x) : 0 ≤ x ∧ x ≤ 255 := by
  unfold okU at h
  simp [Lit.wf, IntKind.min, IntKind.max, IntKind.bits, IntKind.signed] at h
  omega
theorem and255 (x : Int) : 0 ≤ gxAnd .u64 x 255 ∧ gxAnd .u64 x 255 ≤ 255 := by
  unfold gxAnd
  have h1 : (BitVec.ofInt 64 x &&& BitVec.ofInt 64 255).toNat ≤ 255 := by
    rw [BitVec.toNat_and]
    have : (BitVec.ofInt 64 255).toNat = 255 := rfl
    rw [this]
    exact Nat.and_le_right
  show 0 ≤ IntKind.u64.wrap ((BitVec.ofInt 64 x &&& BitVec.ofInt 64 255).toNat : Int) ∧ IntKind.u64.wrap ((BitVec.ofInt 64 x &&& BitVec.ofInt 64 255).toNat : Int) ≤ 255
  generalize (BitVec.ofInt 64 x &&& BitVec.ofInt 64 255).toNat = n at h1
  have h2 : IntKind.u64.wrap (n : Int) = n := by
    simp [IntKind.wrap, IntKind.bits, IntKind.signed]
    omega
  rw [h2]
  omega
theorem next_ok (c : l1Cur) (n : Nat) (h : curI c n) (hn : n ≤ 1099511627776) : ∃ r, M.s_l1Cur_next c = some r ∧ (0 ≤ r.1 ∧ r.1 ≤ 255) ∧ 0 ≤ r.2.1 ∧ r.2.1 ≤ ((n + 1 : Nat) : Int) := by
  obtain ⟨hc, h0, h1⟩ := h
  unfold M.s_l1Cur_next
  rw [w64_id (z := c.at_ + 1) (by omega) (by omega)]
  have hfst : ∃ b, (bif decide (c.at_ < (c.code.length : Int)) then (Option.bind (gxIdx c.code c.at_) fun y7680 => some (w64 y7680)) else some 0) = some b ∧ 0 ≤ b ∧ b ≤ 255 := by
    by_cases hlt : c.at_ < (c.code.length : Int)
    · obtain ⟨i, hi⟩ : ∃ i : Nat, c.at_ = i := ⟨c.at_.toNat, by omega⟩
      rw [hi] at hlt ⊢
      have hil : i < c.code.length := by omega
      have hb := u8_range (hc.2 _ (List.getElem_mem hil))
      simp only [hlt, decide_true, cond_true, gxIdx_nat hil, Option.bind_some, w64_id (z := c.code[i]) (by omega) (by omega)]
      exact ⟨_, rfl, hb.1, hb.2⟩
    · simp only [hlt, decide_false, cond_false]
      exact ⟨0, rfl, by omega, by omega⟩
  obtain ⟨b, hb, hb1⟩ := hfst
  rw [hb, Option.bind_some]
  by_cases hle : c.at_ + 1 ≤ (c.code.length : Int)
  · simp only [hle, decide_true, cond_true]
    exact ⟨_, rfl, hb1, by simp only; omega, by simp only; omega⟩
  · simp only [hle, decide_false, cond_false]
    refine ⟨_, rfl, ?_, by simp only; omega, by simp only; omega⟩
    have := and255 ((IntKind.u64.wrap ((IntKind.u64.wrap ((IntKind.u64.wrap (c.seed * 6364136223846793005)) + (IntKind.u64.wrap b))) + 843843)).fdiv (2 ^ 40))
    simp only
    rw [w64_id (by omega) (by omega)]
    exact this
/-- What a pick among k gives. -/
theorem pick_ok (c : l1Cur) (k : Int) (n : Nat) (h : curI c n) (hn : n ≤ 1099511000000) (hk : k ≤ 9223372036854775807) : ∃ r, M.s_l1Cur_pick c k = some r ∧ 0 ≤ r.1 ∧ (r.1 < k ∨ r.1 = 0) ∧ (k ≥ 1 → r.1 < k) ∧ curI ⟨c.code, r.2.1, r.2.2⟩ (n + 2) := by
  unfold M.s_l1Cur_pick
  by_cases h1 : k ≤ 1
  · simp only [h1, decide_true, cond_true]
    exact ⟨_, rfl, by simp, Or.inr rfl, fun h => by simp only; omega, h.1, h.2.1, by have := h.2.2; simp only; omega⟩
  · simp only [h1, decide_false, cond_false]
    obtain ⟨r, hr, hb, ha0, ha1⟩ := next_ok c n h (by omega)
    rw [hr, Option.bind_some]
    have hrem : ∀ v : Int, 0 ≤ v → gxRem v k = some (v % k) := by
      intro v hv
      unfold gxRem
      rw [if_neg (by omega), Int.tmod_eq_emod_of_nonneg hv]
    by_cases h2 : k > 200
    · simp only [h2, decide_true, cond_true]
      obtain ⟨r2, hr2, hb2, ha2, ha3⟩ := next_ok ⟨c.code, r.2.1, r.2.2⟩ (n + 1) ⟨h.1, ha0, ha1⟩ (by omega)
      rw [hr2, Option.bind_some, Option.bind_some]
      have e : w64 ((w64 (r.1 * 256)) + r2.1) = r.1 * 256 + r2.1 := by
        rw [w64_id (z := r.1 * 256) (by omega) (by omega), w64_id (by omega) (by omega)]
      simp only [e, hrem (r.1 * 256 + r2.1) (by omega), Option.bind_some]
      have p1 := Int.emod_nonneg (r.1 * 256 + r2.1) (show k ≠ 0 by omega)
      have p2 := Int.emod_lt_of_pos (r.1 * 256 + r2.1) (show 0 < k by omega)
      exact ⟨_, rfl, p1, Or.inl p2, fun _ => p2, h.1, ha2, by simp only; omega⟩
    · simp only [h2, decide_false, cond_false, Option.bind_some, hrem r.1 hb.1]
      have p1 := Int.emod_nonneg r.1 (show k ≠ 0 by omega)
      have p2 := Int.emod_lt_of_pos r.1 (show 0 < k by omega)
      exact ⟨_, rfl, p1, Or.inl p2, fun _ => p2, h.1, ha0, by simp only; omega⟩
theorem among_ok (c : l1Cur) (l : List Int) (n : Nat) (h : curI c n) (hn : n ≤ 1099511000000) (hl : 0 < l.length ∧ l.length ≤ 1000) : ∃ r, M.s_l1Cur_among c l = some r ∧ r.1 ∈ l ∧ curI ⟨c.code, r.2.1, r.2.2⟩ (n + 2) := by
  unfold M.s_l1Cur_among
  obtain ⟨r, hr, h0, _, h1, hc⟩ := pick_ok c (l.length : Int) n h hn (by omega)
  have h1 := h1 (by omega)
  rw [hr, Option.bind_some]
  obtain ⟨i, hi⟩ : ∃ i : Nat, r.1 = i := ⟨r.1.toNat, by omega⟩
  have hil : i < l.length := by omega
  rw [hi, gxIdx_nat hil, Option.bind_some]
  exact ⟨_, rfl, List.getElem_mem hil, hc⟩
theorem one_ok (c : l1Cur) (k : Int) (n : Nat) (h : curI c n) (hn : n ≤ 1099511000000) (hk : k ≤ 9223372036854775807) : ∃ r, M.s_l1Cur_one c k = some r ∧ curI ⟨c.code, r.2.1, r.2.2⟩ (n + 2) := by
  unfold M.s_l1Cur_one
  obtain ⟨r, hr, _, _, _, hc⟩ := pick_ok c k n h hn hk
  rw [hr, Option.bind_some]
  exact ⟨_, rfl, hc⟩
/-! ### Draws of regions and accesses -/
theorem curI.mono {c : l1Cur} {n m : Nat} (h : curI c n) (hm : n ≤ m) : curI c m := ⟨h.1, h.2.1, by have := h.2.2; omega⟩
theorem region_ok (c : l1Cur) (n : Nat) (h : curI c n) (hn : n ≤ 1099510000000) : ∃ r, M.s_l1Cur_region c = some r ∧ curI ⟨c.code, r.2.1, r.2.2⟩ (n + 12) := by
  unfold M.s_l1Cur_region
  obtain ⟨a, ha, ham, hac⟩ := among_ok c [4, 8, 16, 256, 4096] n h (by omega) (by simp)
  obtain ⟨b, hb, _, _, _, hbc⟩ := pick_ok ⟨c.code, a.2.1, a.2.2⟩ 4 (n + 2) hac (by omega) (by omega)
  obtain ⟨d, hd, _, _, _, hdc⟩ := pick_ok ⟨c.code, b.2.1, b.2.2⟩ 16 (n + 2 + 2) hbc (by omega) (by omega)
  have hne : a.1 ≠ 0 := by
    intro e
    rw [e] at ham
    simp at ham
  have hq : ∃ q, gxDiv 65536 a.1 = some q := by
    unfold gxDiv
    rw [if_neg hne]
    exact ⟨_, rfl⟩
  obtain ⟨q, hq⟩ := hq
  obtain ⟨e, he, _, hec⟩ := among_ok ⟨c.code, d.2.1, d.2.2⟩ [0, 1, 2, 3, 15, w64 (q - 1)] (n + 2 + 2 + 2) hdc (by omega) (by simp)
  obtain ⟨f, hf, _, _, _, hfc⟩ := pick_ok ⟨c.code, e.2.1, e.2.2⟩ 60 (n + 2 + 2 + 2 + 2) hec (by omega) (by omega)
  simp only [ha, hb, hd, hq, he, hf, Option.bind_some]
  cases f.1 == 0 with
  | true =>
    obtain ⟨g, hg, _, hgc⟩ := among_ok ⟨c.code, f.2.1, f.2.2⟩ [(-4), 2, 65536] _ hfc (by omega) (by simp)
    simp only [cond_true, hg, Option.bind_some]
    exact ⟨_, rfl, hgc⟩
  | false =>
    cases f.1 == 1 with
    | true =>
      obtain ⟨g, hg, _, hgc⟩ := among_ok ⟨c.code, f.2.1, f.2.2⟩ [0, 2, 6, 8192] _ hfc (by omega) (by simp)
      simp only [cond_true, cond_false, hg, Option.bind_some]
      exact ⟨_, rfl, hgc⟩
    | false =>
      cases f.1 == 2 with
      | true =>
        obtain ⟨g, hg, _, hgc⟩ := among_ok ⟨c.code, f.2.1, f.2.2⟩ [(-1), 4] _ hfc (by omega) (by simp)
        simp only [cond_true, cond_false, hg, Option.bind_some]
        exact ⟨_, rfl, hgc⟩
      | false =>
        cases f.1 == 3 with
        | true =>
          obtain ⟨g, hg, _, hgc⟩ := among_ok ⟨c.code, f.2.1, f.2.2⟩ [(-1), 16] _ hfc (by omega) (by simp)
          simp only [cond_true, cond_false, hg, Option.bind_some]
          exact ⟨_, rfl, hgc⟩
        | false =>
          simp only [cond_false, Option.bind_some]
          exact ⟨_, rfl, hfc.mono (by omega)⟩
theorem add_small (xs : List Region) (r : Region) (h : xs.length ≤ 1048576) : ∃ q, M.s_AddRegion xs r = some q ∧ q.1.length ≤ 7 := by
  unfold M.s_AddRegion
  simp only [s_goodM xs h, Option.bind_some]
  cases hg : goodM xs with
  | false => exact ⟨_, rfl, by simp⟩
  | true =>
    have hl := goodM_len hg
    simp only [s_add xs r h, s_goodM _ (show (addR xs r).length ≤ 1048576 by rw [addR_len]; omega), Option.bind_some, Bool.not_true, cond_false]
    cases goodM (addR xs r) with
    | false => exact ⟨_, rfl, by simp⟩
    | true => exact ⟨_, rfl, by simp only; rw [addR_len]; omega⟩
theorem regions_ok (c : l1Cur) (n : Nat) (h : curI c n) (hn : n ≤ 1099500000000) : ∃ r, M.s_l1Cur_regions c = some r ∧ r.1.length ≤ 8 ∧ curI ⟨c.code, r.2.1, r.2.2⟩ (n + 200) := by
  unfold M.s_l1Cur_regions
  obtain ⟨a, ha, ha0, _, ha1, hac⟩ := pick_ok c 7 n h (by omega) (by omega)
  have ha1 := ha1 (by omega)
  rw [ha, Option.bind_some]
  obtain ⟨q, hq, hq2⟩ := while_inv (body := fun s8420 : List Region × Int × Int × Int =>
    bif decide (s8420.2.1 > 0) then (Option.bind (M.s_l1Cur_region (⟨c.code, s8420.2.2.1, s8420.2.2.2⟩ : l1Cur)) fun r8442 =>
    Option.bind (M.s_AddRegion s8420.1 r8442.1) fun r8446 =>
    Option.bind (α := List Region) (bif r8446.2 then some r8446.1
    else some s8420.1) fun o8456 =>
    some (Sum.inl (β := List Region × Int × Int) (o8456, w64 (s8420.2.1 - 1), r8442.2.1, r8442.2.2)))
    else some (.inr (s8420.1, s8420.2.2.1, s8420.2.2.2))) (s0 := (([] : List Region), a.1, a.2.1, a.2.2)) (fun i s => s.1.length ≤ 7 ∧ 0 ≤ s.2.1 ∧ s.2.1 ≤ 7 - (i : Int) ∧ curI ⟨c.code, s.2.2.1, s.2.2.2⟩ (n + 2 + 12 * i)) (fun r => r.1.length ≤ 7 ∧ curI ⟨c.code, r.2.1, r.2.2⟩ (n + 2 + 84)) 7 (by omega) ⟨by simp, ha0, by simp only; omega, hac⟩ (fun i s hi hR => by
      obtain ⟨xs, k, u, v⟩ := s
      obtain ⟨hx, hk0, hk1, hc⟩ := hR
      simp only at hx hk0 hk1 hc
      by_cases hk : k > 0
      · obtain ⟨r, hr, hrc⟩ := region_ok ⟨c.code, u, v⟩ _ hc (by omega)
        obtain ⟨q, hq, hql⟩ := add_small xs r.1 (by omega)
        simp only [hk, decide_true, cond_true, hr, hq, Option.bind_some, w64_id (z := k - 1) (by omega) (by omega)]
        cases q.2 with
        | true => exact Or.inl ⟨_, rfl, hql, by simp only; omega, by simp only; omega, hrc.mono (by omega)⟩
        | false => exact Or.inl ⟨_, rfl, hx, by simp only; omega, by simp only; omega, hrc.mono (by omega)⟩
      · simp only [hk, decide_false, cond_false]
        exact Or.inr ⟨_, rfl, hx, hc.mono (by omega)⟩) (fun s hR => by
      obtain ⟨xs, k, u, v⟩ := s
      obtain ⟨hx, hk0, hk1, hc⟩ := hR
      simp only at hx hk0 hk1 hc
      have hk : ¬ (k > 0) := by omega
      simp only [hk, decide_false, cond_false]
      exact ⟨_, rfl, hx, hc.mono (by omega)⟩)
  obtain ⟨hql, hqc⟩ := hq2
  rw [hq, Option.bind_some]
  obtain ⟨b, hb, hb0, _, hb1, hbc⟩ := pick_ok ⟨c.code, q.2.1, q.2.2⟩ 30 _ hqc (by omega) (by omega)
  rw [hb, Option.bind_some]
  cases b.1 == 0 with
  | true =>
    obtain ⟨r, hr, hrc⟩ := region_ok ⟨c.code, b.2.1, b.2.2⟩ _ hbc (by omega)
    simp only [cond_true, hr, Option.bind_some, gxApp_ok (show (q.1.length + [r.1].length) * 32 ≤ 140737488355328 by simp; omega)]
    exact ⟨_, rfl, by simp; omega, hrc.mono (by omega)⟩
  | false =>
    cases b.1 == 1 with
    | false =>
      simp only [cond_false, Option.bind_some]
      exact ⟨_, rfl, by simp only; omega, hbc.mono (by omega)⟩
    | true =>
      simp only [cond_true, cond_false]
      obtain ⟨q2, hq2, hq3⟩ := while_inv (body := fun s8892 : List Region × Int × Int × Int =>
        Option.bind (M.s_l1Cur_pick (⟨c.code, s8892.2.2.1, s8892.2.2.2⟩ : l1Cur) 2) fun r8913 =>
        bif decide (s8892.2.1 < (w64 (6 + r8913.1))) then (Option.bind (gxApp 32 s8892.1 [(⟨w64 (8 * s8892.2.1), 4, s8892.2.1.tmod 4, s8892.2.1⟩ : Region)]) fun ap8925 =>
        some (Sum.inl (β := List Region × Int × Int) (ap8925, w64 (s8892.2.1 + 1), r8913.2.1, r8913.2.2)))
        else some (.inr (s8892.1, r8913.2.1, r8913.2.2))) (s0 := (([] : List Region), 0, b.2.1, b.2.2)) (fun i s => s.1.length = i ∧ s.2.1 = (i : Int) ∧ curI ⟨c.code, s.2.2.1, s.2.2.2⟩ (n + 88 + 2 * i)) (fun r => r.1.length ≤ 7 ∧ curI ⟨c.code, r.2.1, r.2.2⟩ (n + 88 + 16)) 7 (by omega) ⟨rfl, rfl, hbc.mono (by omega)⟩ (fun i s hi hR => by
          obtain ⟨xs, k, u, v⟩ := s
          obtain ⟨hx, hk, hc⟩ := hR
          simp only at hx hk hc
          subst hk
          obtain ⟨r, hr, hr0, _, hr1, hrc⟩ := pick_ok ⟨c.code, u, v⟩ 2 _ hc (by omega) (by omega)
          have hr1 := hr1 (by omega)
          simp only [hr, Option.bind_some, w64_id (z := 6 + r.1) (by omega) (by omega)]
          by_cases hlt : (i : Int) < 6 + r.1
          · simp only [hlt, decide_true, cond_true, w64_succ (show i ≤ 4611686018427387904 by omega)]
            rw [gxApp_ok (by simp; omega), Option.bind_some]
            exact Or.inl ⟨_, rfl, by simp; omega, rfl, hrc.mono (by omega)⟩
          · simp only [hlt, decide_false, cond_false]
            exact Or.inr ⟨_, rfl, by simp only; omega, hrc.mono (by omega)⟩) (fun s hR => by
          obtain ⟨xs, k, u, v⟩ := s
          obtain ⟨hx, hk, hc⟩ := hR
          simp only at hx hk hc
          subst hk
          obtain ⟨r, hr, hr0, _, hr1, hrc⟩ := pick_ok ⟨c.code, u, v⟩ 2 _ hc (by omega) (by omega)
          have hr1 := hr1 (by omega)
          have hlt : ¬ (((7 : Nat) : Int) < 6 + r.1) := by omega
          simp only [hr, Option.bind_some, w64_id (z := 6 + r.1) (by omega) (by omega), hlt, decide_false, cond_false]
          exact ⟨_, rfl, by simp only; omega, hrc.mono (by omega)⟩)
      obtain ⟨hl2, hc2⟩ := hq3
      rw [hq2]
      simp only [Option.bind_some]
      exact ⟨_, rfl, by simp only; omega, hc2.mono (by omega)⟩
theorem address_ok (c : l1Cur) (xs : List Region) (n : Nat) (h : curI c n) (hn : n ≤ 1099500001000) (hl : xs.length ≤ 1000) : ∃ r, M.s_l1Cur_address17 c xs = some r ∧ curI ⟨c.code, r.2.1, r.2.2⟩ (n + 6) := by
  unfold M.s_l1Cur_address17
  have hfst : ∃ b : Bool × Int × Int, (bif (xs.length : Int) == 0 then some (true, c.at_, c.seed) else (Option.bind (M.s_l1Cur_one c 4) fun r9008 => some (r9008.1, r9008.2.1, r9008.2.2))) = some b ∧ curI ⟨c.code, b.2.1, b.2.2⟩ (n + 2) ∧ (b.1 = false → 0 < xs.length) := by
    cases h0 : ((xs.length : Int) == 0) with
    | true => exact ⟨_, rfl, h.mono (by omega), fun h => by cases h⟩
    | false =>
      obtain ⟨r, hr, hrc⟩ := one_ok c 4 n h (by omega) (by omega)
      simp only [cond_false, hr, Option.bind_some]
      exact ⟨_, rfl, hrc, fun _ => by
        have : ¬ ((xs.length : Int) = 0) := by simpa using h0
        omega⟩
  obtain ⟨b, hb, hbc, hb0⟩ := hfst
  rw [hb, Option.bind_some]
  cases hb1 : b.1 with
  | true =>
    obtain ⟨p, hp, hp0, _, hp1, hpc⟩ := pick_ok ⟨c.code, b.2.1, b.2.2⟩ 24 _ hbc (by omega) (by omega)
    have hp1 := hp1 (by omega)
    have ht : p.1.tdiv 11 = p.1 / 11 := Int.tdiv_eq_ediv_of_nonneg hp0
    have hw : w64 (4 + (w64 (p.1.tdiv 11))) = 4 + p.1 / 11 := by
      rw [ht, w64_id (z := p.1 / 11) (by omega) (by omega), w64_id (by omega) (by omega)]
    have hsl : gxSlice [(0 : Int), 5, 40, 65535, (-1), 65536] 0 (4 + p.1 / 11) = some (([(0 : Int), 5, 40, 65535, (-1), 65536].take (4 + p.1 / 11).toNat).drop 0) := by
      unfold gxSlice
      rw [if_pos ⟨by omega, by omega, by simp; omega⟩]
      rfl
    simp only [cond_true, hp, Option.bind_some, hw, hsl]
    obtain ⟨q, hq, _, hqc⟩ := among_ok ⟨c.code, p.2.1, p.2.2⟩ (([(0 : Int), 5, 40, 65535, (-1), 65536].take (4 + p.1 / 11).toNat).drop 0) _ hpc (by omega) (by simp; omega)
    rw [hq, Option.bind_some]
    exact ⟨_, rfl, hqc⟩
  | false =>
    have hx := hb0 hb1
    obtain ⟨p, hp, hp0, _, hp1, hpc⟩ := pick_ok ⟨c.code, b.2.1, b.2.2⟩ (xs.length : Int) _ hbc (by omega) (by omega)
    have hp1 := hp1 (by omega)
    obtain ⟨i, hi⟩ : ∃ i : Nat, p.1 = i := ⟨p.1.toNat, by omega⟩
    have hil : i < xs.length := by omega
    simp only [cond_false, hp, Option.bind_some, hi, gxIdx_nat hil]
    obtain ⟨q, hq, _, hqc⟩ := among_ok ⟨c.code, p.2.1, p.2.2⟩ [0, 1, 2, 4, w64 (xs[i].Size - 1), xs[i].Size, (-1)] _ hpc (by omega) (by simp)
    rw [hq, Option.bind_some]
    exact ⟨_, rfl, hqc⟩
theorem access_ok (c : l1Cur) (xs : List Region) (n : Nat) (h : curI c n) (hn : n ≤ 1099500000500) (hl : xs.length ≤ 1000) : ∃ r, M.s_l1Cur_access c xs = some r := by
  unfold M.s_l1Cur_access
  obtain ⟨a, ha, hac⟩ := address_ok c xs n h (by omega) hl
  obtain ⟨w, hw, hwm, hwc⟩ := among_ok ⟨c.code, a.2.1, a.2.2⟩ [1, 2, 4, 4] _ hac (by omega) (by simp)
  obtain ⟨s, hs, hsc⟩ := one_ok ⟨c.code, w.2.1, w.2.2⟩ 2 _ hwc (by omega) (by omega)
  have hw0 : w.1 ≠ 0 := by
    intro e
    rw [e] at hwm
    simp at hwm
  simp only [ha, hw, hs, Option.bind_some]
  have h3 : ∃ b : Bool × Int × Int, (bif decide (a.1 > 0) then (Option.bind (M.s_l1Cur_one (⟨c.code, s.2.1, s.2.2⟩ : l1Cur) 4) fun r9132 => some (!r9132.1, r9132.2.1, r9132.2.2)) else some (false, s.2.1, s.2.2)) = some b ∧ curI ⟨c.code, b.2.1, b.2.2⟩ (n + 6 + 2 + 2 + 2) := by
    cases decide (a.1 > 0) with
    | true =>
      obtain ⟨o, ho, hoc⟩ := one_ok ⟨c.code, s.2.1, s.2.2⟩ 4 _ hsc (by omega) (by omega)
      simp only [cond_true, ho, Option.bind_some]
      exact ⟨_, rfl, hoc⟩
    | false => exact ⟨_, rfl, hsc.mono (by omega)⟩
  obtain ⟨b, hb, hbc⟩ := h3
  rw [hb, Option.bind_some]
  have h4 : ∃ z, (bif b.1 then (Option.bind (gxRem a.1 w.1) fun q9183 => some (w64 (a.1 - q9183))) else some a.1) = some z := by
    cases b.1 with
    | true =>
      unfold gxRem
      simp only [cond_true, hw0, if_false, Option.bind_some]
      exact ⟨_, rfl⟩
    | false => exact ⟨_, rfl⟩
  obtain ⟨z, hz⟩ := h4
  rw [hz, Option.bind_some]
  obtain ⟨o, ho, hoc⟩ := one_ok ⟨c.code, b.2.1, b.2.2⟩ 30 _ hbc (by omega) (by omega)
  rw [ho, Option.bind_some]
  cases o.1 with
  | true =>
    obtain ⟨q, hq, _, _⟩ := among_ok ⟨c.code, o.2.1, o.2.2⟩ [0, 3, 8] _ hoc (by omega) (by simp)
    simp only [cond_true, hq, Option.bind_some]
    exact ⟨_, rfl⟩
  | false =>
    simp only [cond_false, Option.bind_some]
    exact ⟨_, rfl⟩
theorem cur0 {code : List Int} (h : okL okU code) : curI ⟨code, 0, 0⟩ 0 := ⟨h, by simp, by simp⟩
theorem drawRoute_ok (code : List Int) (h : okL okU code) : ∃ r, M.s_DrawRouteAccess code = some r ∧ r.1.length ≤ 8 := by
  unfold M.s_DrawRouteAccess
  obtain ⟨r, hr, hl, hc⟩ := regions_ok ⟨code, 0, 0⟩ 0 (cur0 h) (by omega)
  obtain ⟨a, ha⟩ := access_ok ⟨code, r.2.1, r.2.2⟩ r.1 _ hc (by omega) (by omega)
  rw [hr, Option.bind_some, ha, Option.bind_some]
  exact ⟨_, rfl, hl⟩
theorem drawUnits_ok (code : List Int) (h : okL okU code) : ∃ r, M.s_DrawUnitsBetween code = some r ∧ r.1.length ≤ 8 := by
  unfold M.s_DrawUnitsBetween
  obtain ⟨r, hr, hl, hc⟩ := regions_ok ⟨code, 0, 0⟩ 0 (cur0 h) (by omega)
  obtain ⟨a, ha, hac⟩ := address_ok ⟨code, r.2.1, r.2.2⟩ r.1 _ hc (by omega) (by omega)
  obtain ⟨b, hb, _, _⟩ := among_ok ⟨code, a.2.1, a.2.2⟩ [0, 3, 100, 5000, (-1), 70000] _ hac (by omega) (by simp)
  rw [hr, Option.bind_some, ha, Option.bind_some, hb, Option.bind_some]
  exact ⟨_, rfl, hl⟩
theorem drawFind_ok (code : List Int) (h : okL okU code) : ∃ r, M.s_DrawFindRegion code = some r ∧ r.1.length ≤ 8 := by
  unfold M.s_DrawFindRegion
  obtain ⟨r, hr, hl, hc⟩ := regions_ok ⟨code, 0, 0⟩ 0 (cur0 h) (by omega)
  obtain ⟨a, ha, hac⟩ := address_ok ⟨code, r.2.1, r.2.2⟩ r.1 _ hc (by omega) (by omega)
  rw [hr, Option.bind_some, ha, Option.bind_some]
  exact ⟨_, rfl, hl⟩
end Go.Proofs.Ytphinfkojhecdaa
