/- Plain laws of the models: no program in sight. -/
import Derived.Test.YtopnablbecepjaaRM
import Derived.Test.YtopnablbecepjaaRL3
set_option linter.unusedVariables false
set_option linter.unusedSimpArgs false
set_option maxHeartbeats 4000000
namespace Go.Proofs.Ytopnablbecepjaa
open Go.Gx
/-! ### Signals -/
def needsR (b a e : Int) : Bool × Bool := bif word b && (word a && word e) then (decide (cnt b e < cnt b a), true) else (false, false)
theorem steps_s {a b : Int} (ha : 0 ≤ a ∧ a ≤ 65535) (hb : 0 ≤ b ∧ b ≤ 65535) : (w64 ((w64 (b - a)) + 65536)).tmod 65536 = cnt a b := by
  unfold cnt
  rw [w64_id (z := b - a) (by omega) (by omega), w64_id (by omega) (by omega), Int.tmod_eq_emod_of_nonneg (by omega)]
  omega
theorem needs_is (b a e : Int) : M.s_NeedsSignal b a e = some (needsR b a e) ∧ M.i_NeedsSignal b a e = some (needsR b a e) := by
  unfold M.s_NeedsSignal M.i_NeedsSignal needsR
  simp only [s_word, i_word, Option.bind_some]
  cases h1 : word b with
  | false => exact ⟨rfl, rfl⟩
  | true => cases h2 : word a with
    | false => exact ⟨rfl, rfl⟩
    | true => cases h3 : word e with
      | false => exact ⟨rfl, rfl⟩
      | true =>
        have h1 := word_spec.1 h1
        have h2 := word_spec.1 h2
        have h3 := word_spec.1 h3
        simp only [Bool.not_true, cond_false, cond_true, Option.bind_some, Bool.and_self, steps_ok h1 h3, steps_ok h1 h2, steps_s h1 h3, steps_s h1 h2]
        exact ⟨trivial, trivial⟩
theorem drawNeeds_ok (code : List Int) (h : okL okU code) : ∃ r, M.s_DrawNeedsSignal code = some r := by
  unfold M.s_DrawNeedsSignal
  obtain ⟨a, ha, ha1, hac⟩ := word16_ok ⟨code, 0, 0⟩ 0 (cur0 h) (by omega)
  obtain ⟨b, hb, hbc⟩ := one_ok ⟨code, a.2.1, a.2.2⟩ 3 _ hac (by omega) (by omega)
  rw [ha, Option.bind_some, hb, Option.bind_some]
  cases b.1 with
  | true =>
    obtain ⟨d, hd, _, hdc⟩ := word16_ok ⟨code, b.2.1, b.2.2⟩ _ hbc (by omega)
    obtain ⟨e, he, _, hec⟩ := word16_ok ⟨code, d.2.1, d.2.2⟩ _ hdc (by omega)
    simp only [cond_true, hd, he, Option.bind_some]
    exact ⟨_, rfl⟩
  | false =>
    have hm : ∃ m, M.s_l1Most 0 a.1 = some m := by
      unfold M.s_l1Most
      cases decide (0 > a.1) <;> exact ⟨_, rfl⟩
    obtain ⟨m, hm⟩ := hm
    obtain ⟨d, hd, _, _, _, hdc⟩ := pick_ok ⟨code, b.2.1, b.2.2⟩ 6 _ hbc (by omega) (by omega)
    obtain ⟨e, he, _, _, _, hec⟩ := pick_ok ⟨code, d.2.1, d.2.2⟩ 7 _ hdc (by omega) (by omega)
    simp only [cond_false, hm, hd, he, Option.bind_some]
    exact ⟨_, rfl⟩
theorem drawResize_ok (code : List Int) (h : okL okU code) : ∃ r, M.s_DrawResizeRing code = some r ∧ r.1.Items.length ≤ 9 := by
  unfold M.s_DrawResizeRing
  obtain ⟨r, hr, hl, hc⟩ := ring_ok ⟨code, 0, 0⟩ 0 (cur0 h) (by omega)
  obtain ⟨q, hq, _, hqc⟩ := among_ok ⟨code, r.2.1, r.2.2⟩ [1, 2, 4, 8, 8, 0, 3] _ hc (by omega) (by simp)
  rw [hr, Option.bind_some, hq, Option.bind_some]
  exact ⟨_, rfl, hl⟩
theorem drawMake_ok (code : List Int) (h : okL okU code) : ∃ r, M.s_DrawMakeRing code = some r := by
  unfold M.s_DrawMakeRing
  obtain ⟨q, hq, _, hqc⟩ := among_ok ⟨code, 0, 0⟩ [1, 2, 4, 8, 0, 3, 16, 4] _ (cur0 h) (by omega) (by simp)
  obtain ⟨a, ha, ha1, hac⟩ := word16_ok ⟨code, q.2.1, q.2.2⟩ _ hqc (by omega)
  rw [hq, Option.bind_some, ha, Option.bind_some]
  exact ⟨_, rfl⟩
theorem drawWords_ok (code : List Int) (h : okL okU code) : ∃ r, M.s_DrawRingWords code = some r ∧ r.Items.length ≤ 9 := by
  unfold M.s_DrawRingWords M.s_DrawIsRing
  obtain ⟨r, hr, hl, hc⟩ := ring_ok ⟨code, 0, 0⟩ 0 (cur0 h) (by omega)
  rw [hr]
  exact ⟨_, rfl, hl⟩
/-- One of the steps leads from the event. -/
def foundR (b e : Int) (i : Nat) : Bool := decide (cnt b e < (i : Int))
theorem found_step {b e : Int} (hb : 0 ≤ b ∧ b ≤ 65535) (he : 0 ≤ e ∧ e ≤ 65535) {i : Nat} (hi : i < 64) : (foundR b e i || ((w64 (b + (i : Int))).tmod 65536 == e)) = foundR b e (i + 1) := by
  rw [w64_id (by omega) (by omega), Int.tmod_eq_emod_of_nonneg (by omega)]
  have h1 : ((b + (i : Int)) % 65536 == e) = decide (cnt b e = (i : Int)) := by
    rw [Bool.eq_iff_iff, beq_iff_eq, decide_eq_true_eq]
    unfold cnt
    omega
  rw [h1]
  unfold foundR
  rw [Bool.eq_iff_iff]
  simp only [Bool.or_eq_true, decide_eq_true_eq]
  omega
theorem found_loop {b a e : Int} (hb : 0 ≤ b ∧ b ≤ 65535) (ha : 0 ≤ a ∧ a ≤ 65535) (he : 0 ≤ e ∧ e ≤ 65535) : whileM (σ := Bool × Int) (ρ := Bool) (fun s461 =>
    Option.bind (α := Bool) (bif decide (s461.2 < ((w64 ((w64 (a - b)) + 65536)).tmod 65536)) then some (decide (s461.2 < 64))
    else some false) fun o473 =>
    bif o473 then (Option.bind (α := Bool) (bif s461.1 then some true
    else some (((w64 (b + s461.2)).tmod 65536) == e)) fun o483 =>
    some (.inl (o483, w64 (s461.2 + 1))))
    else some (.inr s461.1)) gxFuel (false, 0) = some (foundR b e (min (cnt b a).toNat 64)) := by
  have hc0 : 0 ≤ cnt b a ∧ cnt b a < 65536 := by unfold cnt; omega
  have hc1 : 0 ≤ cnt b e ∧ cnt b e < 65536 := by unfold cnt; omega
  rw [steps_s hb ha]
  refine while_run (fun i => (foundR b e i, (i : Int))) _ (min (cnt b a).toNat 64) ?_ (by omega) (fun i hi => ?_) ?_
  · have : foundR b e 0 = false := decide_eq_false (by omega)
    rw [this]
    rfl
  · have e1 : ((i : Int) < cnt b a) := by omega
    have e2 : ((i : Int) < 64) := by omega
    have hs := found_step hb he (show i < 64 by omega)
    simp only [e1, e2, decide_true, cond_true, Option.bind_some, w64_succ (show i ≤ 4611686018427387904 by omega)]
    rw [← hs]
    cases foundR b e i <;> rfl
  · by_cases e1 : ((min (cnt b a).toNat 64 : Nat) : Int) < cnt b a
    · have e2 : ¬ (((min (cnt b a).toNat 64 : Nat) : Int) < 64) := by omega
      simp only [e1, e2, decide_true, decide_false, cond_true, cond_false, Option.bind_some]
    · simp only [e1, decide_false, cond_false, Option.bind_some]
theorem plain_FnSignals (code : List Int) (h : okL okU code) : M.l_FnSignals code = some true := by
  unfold M.l_FnSignals M.l_vBig
  rw [Option.bind_some]
  cases hbig : decide ((code.length : Int) > 65536) with
  | true => rfl
  | false =>
    obtain ⟨d, hd⟩ := drawNeeds_ok code h
    obtain ⟨d2, hd2, hd2l⟩ := drawResize_ok code h
    obtain ⟨d3, hd3⟩ := drawMake_ok code h
    obtain ⟨d4, hd4, hd4l⟩ := drawWords_ok code h
    obtain ⟨b, a, e⟩ := d
    obtain ⟨x, p⟩ := d2
    obtain ⟨mn, ma⟩ := d3
    simp only at hd2l
    have hn := needs_is b a e
    obtain ⟨r, hr1, hr2, hr3⟩ := resize_eq x p
    obtain ⟨m, hm1, hm2, hm3⟩ := makeRing_eq mn ma
    obtain ⟨v, hv1, hv2, hv3⟩ := words_eq d4
    have hA : (bif (needsR b a e).2 then (Option.bind (whileM (σ := Bool × Int) (ρ := Bool) (fun s461 =>
      Option.bind (α := Bool) (bif decide (s461.2 < ((w64 ((w64 (a - b)) + 65536)).tmod 65536)) then some (decide (s461.2 < 64))
      else some false) fun o473 =>
      bif o473 then (Option.bind (α := Bool) (bif s461.1 then some true
      else some (((w64 (b + s461.2)).tmod 65536) == e)) fun o483 =>
      some (.inl (o483, w64 (s461.2 + 1))))
      else some (.inr s461.1)) gxFuel (false, 0)) fun out468 =>
      Option.bind (α := Bool) (bif decide (((w64 ((w64 (a - b)) + 65536)).tmod 65536) ≤ 64) then (bif !(out468 == (needsR b a e).1) then some true
      else (bif out468 then some (!(needsR b a e).1)
      else some false))
      else (bif out468 then some (!(needsR b a e).1)
      else some false)) fun o499 =>
      bif o499 then some (.inr false)
      else some (.inl ()))
      else some (.inl ()) : Option (Unit ⊕ Bool)) = some (.inl ()) := by
      unfold needsR
      cases hw : (word b && (word a && word e)) with
      | false => rfl
      | true =>
        simp only [Bool.and_eq_true] at hw
        have h1 := word_spec.1 hw.1
        have h2 := word_spec.1 hw.2.1
        have h3 := word_spec.1 hw.2.2
        have hc0 : 0 ≤ cnt b a ∧ cnt b a < 65536 := by unfold cnt; omega
        have hc1 : 0 ≤ cnt b e ∧ cnt b e < 65536 := by unfold cnt; omega
        simp only [cond_true]
        rw [found_loop h1 h2 h3]
        simp only [Option.bind_some, steps_s h1 h2]
        by_cases hle : cnt b a ≤ 64
        · have hf : foundR b e (min (cnt b a).toNat 64) = decide (cnt b e < cnt b a) := by
            unfold foundR
            congr 1
            rw [eq_iff_iff]
            omega
          rw [hf]
          simp only [hle, decide_true, cond_true, beq_self_eq_true, Bool.not_true, cond_false]
          cases decide (cnt b e < cnt b a) <;> rfl
        · simp only [hle, decide_false, cond_false]
          cases hf : foundR b e (min (cnt b a).toNat 64) with
          | false => rfl
          | true =>
            unfold foundR at hf
            have := decide_eq_true_iff.1 hf
            have h4 : decide (cnt b e < cnt b a) = true := decide_eq_true (by omega)
            rw [h4]
            rfl
    have hB : (bif r.2 then (Option.bind (M.i_RingWords x) fun r4013 =>
      Option.bind (M.i_RingWords r.1) fun r4022 =>
      Option.bind (M.i_ResizeRing r.1 (x.Items.length : Int)) fun r4031 =>
      Option.bind (α := Bool) (bif !r4013.2 then some true
      else (bif !r4022.2 then some true
      else (Option.bind (M.l_vInts r4013.1 r4022.1) fun r4064 =>
      bif !r4064 then some true
      else (bif !r4031.2 then some true
      else (Option.bind (M.l_vRing r4031.1 x) fun r4070 =>
      some (!r4070)))))) fun o4059 =>
      bif o4059 then some (.inr false)
      else some (.inl ()))
      else some (.inl ()) : Option (Unit ⊕ Bool)) = some (.inl ()) := by
      cases hr : r.2 with
      | false => rfl
      | true =>
        obtain ⟨W, q, hx, hq, hl, he⟩ := resize_yes hr2 hr
        have hx8 := hx.n8
        have hR := rg_isR (h := x.Head) hq hl hx.words
        have hback := resize_fw hR hx.hn hx.len
        have hsame : rg x.Items.length (rg q x.Head W).Head W = x := by
          conv => rhs; rw [hx.eq_rg]
          simp only [rg, lay_mod hx.hn, Ring.mk.injEq, true_and]
          have := hx.head
          exact ⟨by omega, by omega⟩
        rw [hsame] at hback
        simp only [he, i_ringwords hx, i_ringwords hR, hback, vInts_refl W (by have := hx.len; omega), vRing_refl x (by omega), Option.bind_some, Bool.not_true, cond_false, cond_true]
    simp only [cond_false, hd, hn.1, hn.2, Option.bind_some, beq_self_eq_true, Bool.not_true]
    rw [hA]
    simp only [Option.bind_some, Sum.elim_inl, hd2, hr1, hr2, vRing_refl r.1 (by omega), beq_self_eq_true, Bool.not_true, cond_false]
    rw [hB]
    simp only [Option.bind_some, Sum.elim_inl, hd3, hm1, hm2, vRing_refl m.1 (by omega), hd4, hv1, hv2, vInts_refl v.1 (by omega), beq_self_eq_true, Bool.not_true, cond_false, cond_true]

end Go.Proofs.Ytopnablbecepjaa
