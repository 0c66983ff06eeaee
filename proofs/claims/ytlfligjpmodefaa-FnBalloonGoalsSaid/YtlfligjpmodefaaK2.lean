/- Plain laws of the models: no program in sight. -/
import Derived.Test.YtlfligjpmodefaaM
import Derived.Test.YtlfligjpmodefaaK1
set_option linter.unusedVariables false
set_option linter.unusedSimpArgs false
set_option maxHeartbeats 4000000
namespace Go.Proofs.Ytlfligjpmodefaa
open Go.Gx
/-! ### Draws -/
/-- The code is of bytes; so many steps at most have been made. -/
def curI (c : l1Cur) (n : Nat) : Prop := okL okU c.code ∧ 0 ≤ c.at_ ∧ c.at_ ≤ n
theorem u8_range {x : Int} (h : okU x) : 0 ≤ x ∧ x ≤ 255 := by
  unfold okU at h
  simp [Lit.wf, IntKind.min, IntKind.max, IntKind.bits, IntKind.signed] at h
  omega
theorem and255 (x : Int) : 0 ≤ gxAnd .u64 x 255 ∧ gxAnd .u64 x 255 ≤ 255 := by
  unfold gxAnd
  have h1 : (BitVec.ofInt 64 x &&& BitVec.ofInt 64 255).toNat ≤ 255 := by
    rw [BitVec.toNat_and]
    have : (BitVec.ofInt 64 255).toNat = 255 := rfl
    rw [this]
    exact Nat.and_le_right
  show 0 ≤ IntKind.u64.wrap ((BitVec.ofInt 64 x &&& BitVec.ofInt 64 255).toNat : Int) ∧ IntKind.u64.wrap ((BitVec.ofInt 64 x &&& BitVec.ofInt 64 255).toNat : Int) ≤ 255
  generalize (BitVec.ofInt 64 x &&& BitVec.ofInt 64 255).toNat = n at h1
  have h2 : IntKind.u64.wrap (n : Int) = n := by
    simp [IntKind.wrap, IntKind.bits, IntKind.signed]
    omega
  rw [h2]
  omega
theorem next_ok (c : l1Cur) (n : Nat) (h : curI c n) (hn : n ≤ 1099511627776) : ∃ r, M.s_l1Cur_next c = some r ∧ (0 ≤ r.1 ∧ r.1 ≤ 255) ∧ 0 ≤ r.2.1 ∧ r.2.1 ≤ ((n + 1 : Nat) : Int) := by
  obtain ⟨hc, h0, h1⟩ := h
  unfold M.s_l1Cur_next
  rw [w64_id (z := c.at_ + 1) (by omega) (by omega)]
  have hfst : ∃ b, (bif decide (c.at_ < (c.code.length : Int)) then (Option.bind (gxIdx c.code c.at_) fun y7680 => some (w64 y7680)) else some 0) = some b ∧ 0 ≤ b ∧ b ≤ 255 := by
    by_cases hlt : c.at_ < (c.code.length : Int)
    · obtain ⟨i, hi⟩ : ∃ i : Nat, c.at_ = i := ⟨c.at_.toNat, by omega⟩
      rw [hi] at hlt ⊢
      have hil : i < c.code.length := by omega
      have hb := u8_range (hc.2 _ (List.getElem_mem hil))
      simp only [hlt, decide_true, cond_true, gxIdx_nat hil, Option.bind_some, w64_id (z := c.code[i]) (by omega) (by omega)]
      exact ⟨_, rfl, hb.1, hb.2⟩
    · simp only [hlt, decide_false, cond_false]
      exact ⟨0, rfl, by omega, by omega⟩
  obtain ⟨b, hb, hb1⟩ := hfst
  rw [hb, Option.bind_some]
  by_cases hle : c.at_ + 1 ≤ (c.code.length : Int)
  · simp only [hle, decide_true, cond_true]
    exact ⟨_, rfl, hb1, by simp only; omega, by simp only; omega⟩
  · simp only [hle, decide_false, cond_false]
    refine ⟨_, rfl, ?_, by simp only; omega, by simp only; omega⟩
    have := and255 ((IntKind.u64.wrap ((IntKind.u64.wrap ((IntKind.u64.wrap (c.seed * 6364136223846793005)) + (IntKind.u64.wrap b))) + 843843)).fdiv (2 ^ 40))
    simp only
    rw [w64_id (by omega) (by omega)]
    exact this
/-- What a pick among k gives. -/
theorem pick_ok (c : l1Cur) (k : Int) (n : Nat) (h : curI c n) (hn : n ≤ 1099511000000) (hk : k ≤ 9223372036854775807) : ∃ r, M.s_l1Cur_pick c k = some r ∧ 0 ≤ r.1 ∧ (r.1 < k ∨ r.1 = 0) ∧ (k ≥ 1 → r.1 < k) ∧ curI ⟨c.code, r.2.1, r.2.2⟩ (n + 2) := by
  unfold M.s_l1Cur_pick
  by_cases h1 : k ≤ 1
  · simp only [h1, decide_true, cond_true]
    exact ⟨_, rfl, by simp, Or.inr rfl, fun h => by simp only; omega, h.1, h.2.1, by have := h.2.2; simp only; omega⟩
  · simp only [h1, decide_false, cond_false]
    obtain ⟨r, hr, hb, ha0, ha1⟩ := next_ok c n h (by omega)
    rw [hr, Option.bind_some]
    have hrem : ∀ v : Int, 0 ≤ v → gxRem v k = some (v % k) := by
      intro v hv
      unfold gxRem
      rw [if_neg (by omega), Int.tmod_eq_emod_of_nonneg hv]
    by_cases h2 : k > 200
    · simp only [h2, decide_true, cond_true]
      obtain ⟨r2, hr2, hb2, ha2, ha3⟩ := next_ok ⟨c.code, r.2.1, r.2.2⟩ (n + 1) ⟨h.1, ha0, ha1⟩ (by omega)
      rw [hr2, Option.bind_some, Option.bind_some]
      have e : w64 ((w64 (r.1 * 256)) + r2.1) = r.1 * 256 + r2.1 := by
        rw [w64_id (z := r.1 * 256) (by omega) (by omega), w64_id (by omega) (by omega)]
      simp only [e, hrem (r.1 * 256 + r2.1) (by omega), Option.bind_some]
      have p1 := Int.emod_nonneg (r.1 * 256 + r2.1) (show k ≠ 0 by omega)
      have p2 := Int.emod_lt_of_pos (r.1 * 256 + r2.1) (show 0 < k by omega)
      exact ⟨_, rfl, p1, Or.inl p2, fun _ => p2, h.1, ha2, by simp only; omega⟩
    · simp only [h2, decide_false, cond_false, Option.bind_some, hrem r.1 hb.1]
      have p1 := Int.emod_nonneg r.1 (show k ≠ 0 by omega)
      have p2 := Int.emod_lt_of_pos r.1 (show 0 < k by omega)
      exact ⟨_, rfl, p1, Or.inl p2, fun _ => p2, h.1, ha0, by simp only; omega⟩
theorem among_ok (c : l1Cur) (l : List Int) (n : Nat) (h : curI c n) (hn : n ≤ 1099511000000) (hl : 0 < l.length ∧ l.length ≤ 1000) : ∃ r, M.s_l1Cur_among c l = some r ∧ r.1 ∈ l ∧ curI ⟨c.code, r.2.1, r.2.2⟩ (n + 2) := by
  unfold M.s_l1Cur_among
  obtain ⟨r, hr, h0, _, h1, hc⟩ := pick_ok c (l.length : Int) n h hn (by omega)
  have h1 := h1 (by omega)
  rw [hr, Option.bind_some]
  obtain ⟨i, hi⟩ : ∃ i : Nat, r.1 = i := ⟨r.1.toNat, by omega⟩
  have hil : i < l.length := by omega
  rw [hi, gxIdx_nat hil, Option.bind_some]
  exact ⟨_, rfl, List.getElem_mem hil, hc⟩
theorem one_ok (c : l1Cur) (k : Int) (n : Nat) (h : curI c n) (hn : n ≤ 1099511000000) (hk : k ≤ 9223372036854775807) : ∃ r, M.s_l1Cur_one c k = some r ∧ curI ⟨c.code, r.2.1, r.2.2⟩ (n + 2) := by
  unfold M.s_l1Cur_one
  obtain ⟨r, hr, _, _, _, hc⟩ := pick_ok c k n h hn hk
  rw [hr, Option.bind_some]
  exact ⟨_, rfl, hc⟩
theorem curI.mono {c : l1Cur} {n m : Nat} (h : curI c n) (hm : n ≤ m) : curI c m := ⟨h.1, h.2.1, by have := h.2.2; omega⟩
/-! ### What a loop that ends has kept -/
theorem while_post {σ ρ : Type} {body : σ → Option (σ ⊕ ρ)} {R : σ → Prop} {Q : ρ → Prop} (h1 : ∀ s s', R s → body s = some (.inl s') → R s') (h2 : ∀ s r, R s → body s = some (.inr r) → Q r) : ∀ (n : Nat) (s : σ) (r : ρ), R s → whileM body n s = some r → Q r
  | 0, s, r, _, h => by simp [whileM] at h
  | n + 1, s, r, hR, h => by
    simp only [whileM] at h
    cases hb : body s with
    | none => rw [hb] at h; cases h
    | some v =>
      rw [hb] at h
      cases v with
      | inl s' => exact while_post h1 h2 n s' r (h1 s s' hR hb) h
      | inr r' =>
        obtain rfl := Option.some.inj h
        exact h2 s r' hR hb
/-! ### Balloons drawn -/
theorem owners_ok (c : l1Cur) (n : Nat) (h : curI c n) (hn : n ≤ 1000000000) : ∃ r, M.s_l1Cur_owners c = some r ∧ r.1.length ≤ 17 ∧ curI ⟨c.code, r.2.1, r.2.2⟩ (n + 200) := by
  unfold M.s_l1Cur_owners
  obtain ⟨a, ha, ha0, _, ha1, hac⟩ := pick_ok c 16 n h (by omega) (by omega)
  have ha1 := ha1 (by omega)
  rw [ha, Option.bind_some]
  obtain ⟨q, hq, hq1, hq2, hqc⟩ := while_inv (body := fun s10861 : List Int × Int × Int × Int =>
    bif decide (s10861.2.1 > 0) then (Option.bind (M.s_l1Cur_among (⟨c.code, s10861.2.2.1, s10861.2.2.2⟩ : l1Cur) [0, 0, 0, 1, 1, 2, 3, 4]) fun r10890 =>
    Option.bind (gxApp 8 s10861.1 [r10890.1]) fun ap10901 =>
    some (Sum.inl (β := List Int × Int × Int) (ap10901, w64 (s10861.2.1 - 1), r10890.2.1, r10890.2.2)))
    else some (.inr (s10861.1, s10861.2.2.1, s10861.2.2.2))) (s0 := (([] : List Int), w64 (1 + a.1), a.2.1, a.2.2))
    (fun i s => s.1.length = i ∧ s.2.1 = 1 + a.1 - (i : Int) ∧ 0 ≤ s.2.1 ∧ curI ⟨c.code, s.2.2.1, s.2.2.2⟩ (n + 2 + 2 * i)) (fun r => 1 ≤ r.1.length ∧ r.1.length ≤ 16 ∧ curI ⟨c.code, r.2.1, r.2.2⟩ (n + 40)) 16 (by omega) ⟨rfl, by simp only; rw [w64_id (by omega) (by omega)]; omega, by simp only; rw [w64_id (by omega) (by omega)]; omega, hac⟩ (fun i s hi hR => by
      obtain ⟨xs, m, u, v⟩ := s
      obtain ⟨hx, hm, hm0, hc⟩ := hR
      simp only at hx hm hm0 hc
      by_cases hm1 : m > 0
      · obtain ⟨b, hb, _, hbc⟩ := among_ok ⟨c.code, u, v⟩ [0, 0, 0, 1, 1, 2, 3, 4] _ hc (by omega) (by simp)
        simp only [hm1, decide_true, cond_true, hb, Option.bind_some, w64_id (z := m - 1) (by omega) (by omega)]
        rw [gxApp_ok (by simp; omega), Option.bind_some]
        exact Or.inl ⟨_, rfl, by simp; omega, by simp only; omega, by simp only; omega, hbc.mono (by omega)⟩
      · simp only [hm1, decide_false, cond_false]
        exact Or.inr ⟨_, rfl, by simp only; omega, by simp only; omega, hc.mono (by omega)⟩) (fun s hR => by
      obtain ⟨xs, m, u, v⟩ := s
      obtain ⟨hx, hm, hm0, hc⟩ := hR
      simp only at hx hm hm0 hc
      have hm1 : ¬ (m > 0) := by omega
      simp only [hm1, decide_false, cond_false]
      exact ⟨_, rfl, by simp only; omega, by simp only; omega, hc.mono (by omega)⟩)
  rw [hq, Option.bind_some]
  obtain ⟨b, hb, _, _, _, hbc⟩ := pick_ok ⟨c.code, q.2.1, q.2.2⟩ 24 _ hqc (by omega) (by omega)
  rw [hb, Option.bind_some]
  cases b.1 == 0 with
  | true =>
    obtain ⟨d, hd, hd0, _, hd1, hdc⟩ := pick_ok ⟨c.code, b.2.1, b.2.2⟩ (q.1.length : Int) _ hbc (by omega) (by omega)
    have hd1 := hd1 (by omega)
    obtain ⟨k, hk⟩ : ∃ k : Nat, d.1 = k := ⟨d.1.toNat, by omega⟩
    obtain ⟨e, he, _, hec⟩ := among_ok ⟨c.code, d.2.1, d.2.2⟩ [(-1), 5] _ hdc (by omega) (by simp)
    have hkl : k < q.1.length := by omega
    simp only [cond_true, hd, he, Option.bind_some, hk, gxIdx_nat hkl]
    exact ⟨_, rfl, by simp; omega, hec.mono (by omega)⟩
  | false => cases b.1 == 1 with
    | true =>
      simp only [cond_true, cond_false, Option.bind_some]
      exact ⟨_, rfl, by simp, hbc.mono (by omega)⟩
    | false => cases b.1 == 2 with
      | false =>
        simp only [cond_false, Option.bind_some]
        exact ⟨_, rfl, by simp only; omega, hbc.mono (by omega)⟩
      | true =>
        simp only [cond_true, cond_false]
        obtain ⟨p, hp, hp1, hpc⟩ := while_inv (body := fun s11748 : List Int × Int × Int =>
          Option.bind (M.s_l1Cur_pick (⟨c.code, s11748.2.1, s11748.2.2⟩ : l1Cur) 2) fun r11769 =>
          bif decide ((s11748.1.length : Int) < (w64 (16 + r11769.1))) then (Option.bind (gxApp 8 s11748.1 [0]) fun ap11781 =>
          some (Sum.inl (β := List Int × Int × Int) (ap11781, r11769.2.1, r11769.2.2)))
          else some (.inr (s11748.1, r11769.2.1, r11769.2.2))) (s0 := (q.1, b.2.1, b.2.2)) (fun i s => s.1.length = q.1.length + i ∧ s.1.length ≤ 17 ∧ curI ⟨c.code, s.2.1, s.2.2⟩ (n + 42 + 2 * i)) (fun r => r.1.length ≤ 17 ∧ curI ⟨c.code, r.2.1, r.2.2⟩ (n + 100)) 17 (by omega) ⟨rfl, by simp only; omega, hbc⟩ (fun i s hi hR => by
            obtain ⟨xs, u, v⟩ := s
            obtain ⟨hx, hx2, hc⟩ := hR
            simp only at hx hx2 hc
            obtain ⟨r, hr, hr0, _, hr1, hrc⟩ := pick_ok ⟨c.code, u, v⟩ 2 _ hc (by omega) (by omega)
            have hr1 := hr1 (by omega)
            simp only [hr, Option.bind_some, w64_id (z := 16 + r.1) (by omega) (by omega)]
            by_cases hlt : (xs.length : Int) < 16 + r.1
            · simp only [hlt, decide_true, cond_true]
              rw [gxApp_ok (by simp; omega), Option.bind_some]
              exact Or.inl ⟨_, rfl, by simp; omega, by simp; omega, hrc.mono (by omega)⟩
            · simp only [hlt, decide_false, cond_false]
              exact Or.inr ⟨_, rfl, by simp only; omega, hrc.mono (by omega)⟩) (fun s hR => by
            obtain ⟨xs, u, v⟩ := s
            obtain ⟨hx, hx2, hc⟩ := hR
            simp only at hx hx2 hc
            omega)
        rw [hp]
        simp only [Option.bind_some]
        exact ⟨_, rfl, by simp only; omega, hpc.mono (by omega)⟩
theorem balloons_ok (c : l1Cur) (os : List Int) (n : Nat) (h : curI c n) (hn : n ≤ 1000000000) (ho : os.length ≤ 17) : ∃ r, M.s_l1Cur_balloons c os = some r ∧ fitB r.1 ∧ curI ⟨c.code, r.2.1, r.2.2⟩ (n + 1000) := by
  unfold M.s_l1Cur_balloons
  obtain ⟨q, hq, hq1, hq2, hqc⟩ := while_inv (body := fun s22410 : List Balloon × List Int × Int × Int × Int =>
    bif decide (s22410.2.2.1 ≤ 4) then (Option.bind (α := List Balloon × List Int × Int × Int) (Option.bind (M.s_l1Cur_one (⟨c.code, s22410.2.2.2.1, s22410.2.2.2.2⟩ : l1Cur) 3) fun r22890 =>
    bif r22890.1 then some (s22410.1, s22410.2.1, r22890.2.1, r22890.2.2)
    else (Option.bind (M.s_l1Cur_among (⟨c.code, r22890.2.1, r22890.2.2⟩ : l1Cur) [0, 1, 2, 5, 16]) fun r22902 =>
    Option.bind (whileM (σ := List Int × Int × Int × Int × List Int) (ρ := List Int × Int × Int × List Int) (fun s23154 =>
      bif decide (s23154.2.1 < (os.length : Int)) then (Option.bind (α := Bool × Int × Int) (Option.bind (gxIdx os s23154.2.1) fun y23200 =>
      bif y23200 == 0 then (Option.bind (M.s_l1Has s23154.1 s23154.2.1) fun r23202 =>
      bif !r23202 then (Option.bind (M.s_l1Cur_one (⟨c.code, s23154.2.2.1, s23154.2.2.2.1⟩ : l1Cur) 3) fun r23207 =>
      some (r23207.1, r23207.2.1, r23207.2.2))
      else some (false, s23154.2.2.1, s23154.2.2.2.1))
      else some (false, s23154.2.2.1, s23154.2.2.2.1)) fun o23197 =>
      Option.bind (α := List Int × List Int) (bif o23197.1 then (Option.bind (gxApp 8 s23154.2.2.2.2 [s23154.2.1]) fun ap23269 =>
      Option.bind (gxApp 8 s23154.1 [s23154.2.1]) fun ap23286 =>
      some (ap23286, ap23269))
      else some (s23154.1, s23154.2.2.2.2)) fun o23248 =>
      some (.inl (o23248.1, w64 (s23154.2.1 + 1), o23197.2.1, o23197.2.2, o23248.2)))
      else some (.inr (s23154.1, s23154.2.2.1, s23154.2.2.2.1, s23154.2.2.2.2))) gxFuel (s22410.2.1, 0, r22902.2.1, r22902.2.2, ([] : List Int))) fun out23161 =>
    Option.bind (gxApp 40 s22410.1 [(⟨s22410.2.2.1, r22902.1, out23161.2.2.2⟩ : Balloon)]) fun ap23312 =>
    some (ap23312, out23161.1, out23161.2.1, out23161.2.2.1))) fun o22876 =>
    some (Sum.inl (β := List Balloon × Int × Int) (o22876.1, o22876.2.1, w64 (s22410.2.2.1 + 1), o22876.2.2.1, o22876.2.2.2)))
    else some (.inr (s22410.1, s22410.2.2.2.1, s22410.2.2.2.2))) (s0 := (([] : List Balloon), ([] : List Int), 1, c.at_, c.seed))
    (fun i s => s.1.length ≤ i ∧ s.2.1.length ≤ 17 * i ∧ tot s.1 ≤ 17 * i ∧ s.2.2.1 = 1 + (i : Int) ∧ curI ⟨c.code, s.2.2.2.1, s.2.2.2.2⟩ (n + 100 * i)) (fun r => r.1.length ≤ 4 ∧ tot r.1 ≤ 68 ∧ curI ⟨c.code, r.2.1, r.2.2⟩ (n + 400)) 4 (by omega) ⟨Nat.le_refl 0, Nat.le_refl 0, Nat.le_refl 0, rfl, h⟩ (fun i s hi hR => by
      obtain ⟨xs, us, g, u, v⟩ := s
      obtain ⟨hx, hu, ht, hg, hc⟩ := hR
      simp only at hx hu ht hg hc
      have hg4 : g ≤ 4 := by omega
      obtain ⟨a, ha, hac⟩ := one_ok ⟨c.code, u, v⟩ 3 _ hc (by omega) (by omega)
      simp only [hg4, decide_true, cond_true, ha, Option.bind_some, w64_id (z := g + 1) (by omega) (by omega)]
      cases a.1 with
      | true =>
        simp only [cond_true, Option.bind_some]
        exact Or.inl ⟨_, rfl, by simp only; omega, by simp only; omega, by simp only; omega, by simp only; omega, hac.mono (by omega)⟩
      | false =>
        obtain ⟨b, hb, _, hbc⟩ := among_ok ⟨c.code, a.2.1, a.2.2⟩ [0, 1, 2, 5, 16] _ hac (by omega) (by simp)
        simp only [cond_false, hb, Option.bind_some]
        obtain ⟨p, hp, hp1, hp2, hpc⟩ := while_inv (body := fun s23154 : List Int × Int × Int × Int × List Int =>
          bif decide (s23154.2.1 < (os.length : Int)) then (Option.bind (α := Bool × Int × Int) (Option.bind (gxIdx os s23154.2.1) fun y23200 =>
          bif y23200 == 0 then (Option.bind (M.s_l1Has s23154.1 s23154.2.1) fun r23202 =>
          bif !r23202 then (Option.bind (M.s_l1Cur_one (⟨c.code, s23154.2.2.1, s23154.2.2.2.1⟩ : l1Cur) 3) fun r23207 =>
          some (r23207.1, r23207.2.1, r23207.2.2))
          else some (false, s23154.2.2.1, s23154.2.2.2.1))
          else some (false, s23154.2.2.1, s23154.2.2.2.1)) fun o23197 =>
          Option.bind (α := List Int × List Int) (bif o23197.1 then (Option.bind (gxApp 8 s23154.2.2.2.2 [s23154.2.1]) fun ap23269 =>
          Option.bind (gxApp 8 s23154.1 [s23154.2.1]) fun ap23286 =>
          some (ap23286, ap23269))
          else some (s23154.1, s23154.2.2.2.2)) fun o23248 =>
          some (Sum.inl (β := List Int × Int × Int × List Int) (o23248.1, w64 (s23154.2.1 + 1), o23197.2.1, o23197.2.2, o23248.2)))
          else some (.inr (s23154.1, s23154.2.2.1, s23154.2.2.2.1, s23154.2.2.2.2))) (s0 := (us, 0, b.2.1, b.2.2, ([] : List Int)))
          (fun j s => s.2.1 = (j : Int) ∧ s.1.length ≤ us.length + j ∧ s.2.2.2.2.length ≤ j ∧ curI ⟨c.code, s.2.2.1, s.2.2.2.1⟩ (n + 100 * i + 4 + 2 * j)) (fun r => r.1.length ≤ us.length + 17 ∧ r.2.2.2.length ≤ 17 ∧ curI ⟨c.code, r.2.1, r.2.2.1⟩ (n + 100 * i + 50)) os.length (by omega) ⟨rfl, Nat.le_refl _, Nat.le_refl 0, hbc⟩ (fun j s hj hR => by
            obtain ⟨ys, k, u2, v2, gs⟩ := s
            obtain ⟨hk, hy, hgs, hc2⟩ := hR
            simp only at hk hy hgs hc2
            subst hk
            have e0 : ((j : Int) < (os.length : Int)) := by omega
            obtain ⟨d, hd, hdc⟩ := one_ok ⟨c.code, u2, v2⟩ 3 _ hc2 (by omega) (by omega)
            simp only [e0, decide_true, cond_true, gxIdx_nat hj, Option.bind_some, s_has ys (j : Int) (by omega), hd, w64_succ (show j ≤ 4611686018427387904 by omega), gxApp_ok (show (gs.length + [(j : Int)].length) * 8 ≤ 140737488355328 by simp; omega), gxApp_ok (show (ys.length + [(j : Int)].length) * 8 ≤ 140737488355328 by simp; omega)]
            left
            cases (os[j] == 0) with
            | false =>
              simp only [cond_false, Option.bind_some]
              exact ⟨_, rfl, rfl, by simp only; omega, by simp only; omega, hc2.mono (by omega)⟩
            | true => cases hasB ys (j : Int) with
              | true =>
                simp only [cond_true, Bool.not_true, cond_false, Option.bind_some]
                exact ⟨_, rfl, rfl, by simp only; omega, by simp only; omega, hc2.mono (by omega)⟩
              | false => cases d.1 with
                | true =>
                  simp only [cond_true, Bool.not_false, Option.bind_some]
                  exact ⟨_, rfl, rfl, by simp; omega, by simp; omega, hdc.mono (by omega)⟩
                | false =>
                  simp only [cond_true, cond_false, Bool.not_false, Option.bind_some]
                  exact ⟨_, rfl, rfl, by simp only; omega, by simp only; omega, hdc.mono (by omega)⟩) (fun s hR => by
            obtain ⟨ys, k, u2, v2, gs⟩ := s
            obtain ⟨hk, hy, hgs, hc2⟩ := hR
            simp only at hk hy hgs hc2
            subst hk
            simp only [Int.lt_irrefl, decide_false, cond_false]
            exact ⟨_, rfl, by simp only; omega, by simp only; omega, hc2.mono (by omega)⟩)
        rw [hp]
        simp only [Option.bind_some]
        rw [gxApp_ok (by simp; omega)]
        simp only [Option.bind_some]
        refine Or.inl ⟨_, rfl, by simp; omega, by simp only; omega, ?_, by simp only; omega, hpc.mono (by omega)⟩
        simp only [tot_app, tot]
        omega) (fun s hR => by
      obtain ⟨xs, us, g, u, v⟩ := s
      obtain ⟨hx, hu, ht, hg, hc⟩ := hR
      simp only at hx hu ht hg hc
      have hg4 : ¬ (g ≤ 4) := by omega
      simp only [hg4, decide_false, cond_false]
      exact ⟨_, rfl, by simp only; omega, by simp only; omega, hc⟩)
  rw [hq, Option.bind_some]
  cases hz : ((q.1.length : Int) == 0) with
  | true =>
    simp only [cond_true]
    exact ⟨_, rfl, ⟨by simp only; omega, by simp only; omega⟩, hqc.mono (by omega)⟩
  | false =>
    have hl : 1 ≤ q.1.length := by
      rw [beq_eq_false_iff_ne] at hz
      omega
    obtain ⟨d, hd, hd0, _, hd1, hdc⟩ := pick_ok ⟨c.code, q.2.1, q.2.2⟩ (q.1.length : Int) _ hqc (by omega) (by omega)
    have hd1 := hd1 (by omega)
    obtain ⟨k, hk⟩ : ∃ k : Nat, d.1 = k := ⟨d.1.toNat, by omega⟩
    have hkl : k < q.1.length := by omega
    have hgl := tot_mem (List.getElem_mem hkl)
    obtain ⟨e, he, _, _, _, hec⟩ := pick_ok ⟨c.code, d.2.1, d.2.2⟩ 40 _ hdc (by omega) (by omega)
    simp only [cond_false, hd, Option.bind_some, hk, gxIdx_nat hkl, he, Int.toNat_natCast]
    have fit : ∀ b : Balloon, b.Gave.length ≤ 100 → fitB (q.1.set k b) := fun b hb => by
      have := tot_set hkl b
      exact ⟨by simp; omega, by omega⟩
    cases e.1 == 0 with
    | true =>
      obtain ⟨f, hf, _, hfc⟩ := among_ok ⟨c.code, e.2.1, e.2.2⟩ [0, 5, 1] _ hec (by omega) (by simp)
      simp only [cond_true, hf, Option.bind_some]
      exact ⟨_, rfl, fit _ (by simp only; omega), hfc.mono (by omega)⟩
    | false => cases e.1 == 1 with
      | true =>
        obtain ⟨f, hf, _, hfc⟩ := among_ok ⟨c.code, e.2.1, e.2.2⟩ [(-1), 17] _ hec (by omega) (by simp)
        simp only [cond_true, cond_false, hf, Option.bind_some]
        exact ⟨_, rfl, fit _ (by simp only; omega), hfc.mono (by omega)⟩
      | false => cases e.1 == 2 with
        | true =>
          obtain ⟨f, hf, _, hfc⟩ := among_ok ⟨c.code, e.2.1, e.2.2⟩ [0, 3, 16] _ hec (by omega) (by simp)
          simp only [cond_true, cond_false, hf, Option.bind_some]
          rw [gxApp_ok (by simp; omega)]
          simp only [Option.bind_some]
          exact ⟨_, rfl, fit _ (by simp; omega), hfc.mono (by omega)⟩
        | false =>
          simp only [cond_false]
          exact ⟨_, rfl, fit _ (by omega), hec.mono (by omega)⟩
theorem guest18_ok (c : l1Cur) (n : Nat) (h : curI c n) (hn : n ≤ 1000000000) : ∃ r, M.s_l1Cur_guest18 c = some r ∧ curI ⟨c.code, r.2.1, r.2.2⟩ (n + 10) := by
  unfold M.s_l1Cur_guest18
  obtain ⟨a, ha, ha0, _, ha1, hac⟩ := pick_ok c 24 n h (by omega) (by omega)
  have ha1 := ha1 (by omega)
  have hd : a.1.tdiv 11 = a.1 / 11 := Int.tdiv_eq_ediv_of_nonneg ha0
  have hw : w64 (4 + w64 (a.1.tdiv 11)) = (((4 + a.1 / 11).toNat : Nat) : Int) := by
    rw [hd, w64_id (z := a.1 / 11) (by omega) (by omega), w64_id (by omega) (by omega)]
    omega
  rw [ha, Option.bind_some, hw, gxSlice_take (by simp; omega), Option.bind_some]
  obtain ⟨b, hb, _, hbc⟩ := among_ok ⟨c.code, a.2.1, a.2.2⟩ (([1, 2, 3, 4, 0, 5] : List Int).take (4 + a.1 / 11).toNat) _ hac (by omega) (by simp; omega)
  rw [hb]
  exact ⟨_, rfl, hbc.mono (by omega)⟩
theorem cur0B {code : List Int} (h : okL okU code) : curI (⟨code, 0, 0⟩ : l1Cur) 0 := ⟨h, by simp, by simp⟩
theorem drawB_ok (code : List Int) (h : okL okU code) : ∃ os xs g, M.s_DrawInflate code = some (os, xs, g) ∧ os.length ≤ 17 ∧ fitB xs := by
  unfold M.s_DrawInflate
  obtain ⟨a, ha, hal, hac⟩ := owners_ok ⟨code, 0, 0⟩ 0 (cur0B h) (by omega)
  obtain ⟨b, hb, hbf, hbc⟩ := balloons_ok ⟨code, a.2.1, a.2.2⟩ a.1 _ hac (by omega) hal
  obtain ⟨d, hd, hdc⟩ := guest18_ok ⟨code, b.2.1, b.2.2⟩ _ hbc (by omega)
  simp only [ha, hb, hd, Option.bind_some]
  exact ⟨_, _, _, rfl, hal, hbf⟩
theorem drawA_ok (code : List Int) (h : okL okU code) : ∃ os xs, M.s_DrawGivenFrames code = some (os, xs) ∧ os.length ≤ 17 ∧ fitB xs := by
  unfold M.s_DrawGivenFrames M.s_DrawAreBalloons
  obtain ⟨a, ha, hal, hac⟩ := owners_ok ⟨code, 0, 0⟩ 0 (cur0B h) (by omega)
  obtain ⟨b, hb, hbf, hbc⟩ := balloons_ok ⟨code, a.2.1, a.2.2⟩ a.1 _ hac (by omega) hal
  simp only [ha, hb, Option.bind_some]
  exact ⟨_, _, rfl, hal, hbf⟩
theorem drawShare_ok (code : List Int) (h : okL okU code) : ∃ os xs g, M.s_DrawShareGoals code = some (os, xs, g) ∧ os.length ≤ 17 ∧ fitB xs := by
  unfold M.s_DrawShareGoals
  obtain ⟨a, ha, hal, hac⟩ := owners_ok ⟨code, 0, 0⟩ 0 (cur0B h) (by omega)
  obtain ⟨b, hb, hbf, hbc⟩ := balloons_ok ⟨code, a.2.1, a.2.2⟩ a.1 _ hac (by omega) hal
  obtain ⟨e, he, he0, _, he1, hec⟩ := pick_ok ⟨code, b.2.1, b.2.2⟩ 24 _ hbc (by omega) (by omega)
  have he1 := he1 (by omega)
  have hd : e.1.tdiv 11 = e.1 / 11 := Int.tdiv_eq_ediv_of_nonneg he0
  have hw : w64 (5 + w64 (e.1.tdiv 11)) = (((5 + e.1 / 11).toNat : Nat) : Int) := by
    rw [hd, w64_id (z := e.1 / 11) (by omega) (by omega), w64_id (by omega) (by omega)]
    omega
  obtain ⟨f, hf, _, hfc⟩ := among_ok ⟨code, e.2.1, e.2.2⟩ (([0, 1, 2, 4, 16, (-1), 17] : List Int).take (5 + e.1 / 11).toNat) _ hec (by omega) (by simp; omega)
  have hsl : gxSlice ([0, 1, 2, 4, 16, (-1), 17] : List Int) 0 (((5 + e.1 / 11).toNat : Nat) : Int) = some (([0, 1, 2, 4, 16, (-1), 17] : List Int).take (5 + e.1 / 11).toNat) := gxSlice_take (by simp; omega)
  simp only [ha, hb, he, hw, hsl, hf, Option.bind_some]
  exact ⟨_, _, _, rfl, hal, hbf⟩
theorem drawGoal_ok (code : List Int) (h : okL okU code) : ∃ os xs g v, M.s_DrawSetGoal code = some (os, xs, g, v) ∧ os.length ≤ 17 ∧ fitB xs := by
  unfold M.s_DrawSetGoal
  obtain ⟨a, ha, hal, hac⟩ := owners_ok ⟨code, 0, 0⟩ 0 (cur0B h) (by omega)
  obtain ⟨b, hb, hbf, hbc⟩ := balloons_ok ⟨code, a.2.1, a.2.2⟩ a.1 _ hac (by omega) hal
  obtain ⟨d, hd, hdc⟩ := guest18_ok ⟨code, b.2.1, b.2.2⟩ _ hbc (by omega)
  obtain ⟨e, he, he0, _, he1, hec⟩ := pick_ok ⟨code, d.2.1, d.2.2⟩ 24 _ hdc (by omega) (by omega)
  have he1 := he1 (by omega)
  have hdv : e.1.tdiv 11 = e.1 / 11 := Int.tdiv_eq_ediv_of_nonneg he0
  have hw : w64 (4 + w64 (e.1.tdiv 11)) = (((4 + e.1 / 11).toNat : Nat) : Int) := by
    rw [hdv, w64_id (z := e.1 / 11) (by omega) (by omega), w64_id (by omega) (by omega)]
    omega
  obtain ⟨f, hf, _, hfc⟩ := among_ok ⟨code, e.2.1, e.2.2⟩ (([0, 1, 3, 16, (-1), 17] : List Int).take (4 + e.1 / 11).toNat) _ hec (by omega) (by simp; omega)
  have hsl : gxSlice ([0, 1, 3, 16, (-1), 17] : List Int) 0 (((4 + e.1 / 11).toNat : Nat) : Int) = some (([0, 1, 3, 16, (-1), 17] : List Int).take (4 + e.1 / 11).toNat) := gxSlice_take (by simp; omega)
  simp only [ha, hb, hd, he, hw, hsl, hf, Option.bind_some]
  exact ⟨_, _, _, _, rfl, hal, hbf⟩
end Go.Proofs.Ytlfligjpmodefaa
