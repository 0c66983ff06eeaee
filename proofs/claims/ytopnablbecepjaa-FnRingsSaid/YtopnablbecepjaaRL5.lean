/- Plain laws of the models: no program in sight. -/
import Derived.Test.YtopnablbecepjaaRM
import Derived.Test.YtopnablbecepjaaRL4
set_option linter.unusedVariables false
set_option linter.unusedSimpArgs false
set_option maxHeartbeats 4000000
namespace Go.Proofs.Ytopnablbecepjaa
open Go.Gx
/-! ### FnRings -/
theorem putWord_yes {x : Ring} {v : Int} {r : Ring × Bool} (hr : M.i_PutWord x v = some r) (h : r.2 = true) : ∃ W : List Int, IsR x x.Items.length W ∧ W.length < x.Items.length ∧ word v = true ∧ r.1 = rg x.Items.length x.Head (W ++ [v]) := by
  unfold M.i_PutWord at hr
  rw [i_puts x [v] (by simp)] at hr
  cases hg : good x with
  | false =>
    rw [hg] at hr
    simp only [Bool.false_eq_true, false_and, if_false, Option.bind_some, Bool.not_false, cond_true, Option.some.injEq] at hr
    subst hr
    cases h
  | true => cases hw : word v with
    | false =>
      have hall : [v].all word = false := by simp [hw]
      rw [hg, hall] at hr
      simp only [Bool.false_eq_true, and_false, if_false, Option.bind_some, Bool.not_false, cond_true, Option.some.injEq] at hr
      subst hr
      cases h
    | true =>
      obtain ⟨W, hx⟩ := good_isR hg
      have h8 := hx.n8
      have hl := hx.len
      have hif : (True ∧ [v].all word = true) := ⟨trivial, by simp [hw]⟩
      rw [hg] at hr
      simp only [if_pos hif, hx.i_words, Option.getD_some, Option.bind_some, Bool.not_true, cond_false] at hr
      by_cases hc : W.length < x.Items.length
      · have hf : fit x.Items.length W [v] = 1 := by unfold fit; simp; omega
        have hne : (((1 : Nat) : Int) == 0) = false := rfl
        simp only [hf, hne, Option.bind_some, cond_false, Option.some.injEq] at hr
        subst hr
        exact ⟨W, hx, hc, rfl, rfl⟩
      · have hf : fit x.Items.length W [v] = 0 := by unfold fit; simp; omega
        have hne : (((0 : Nat) : Int) == 0) = true := rfl
        simp only [hf, hne, Option.bind_some, cond_true, Option.some.injEq] at hr
        subst hr
        cases h
theorem takeWords_yes {x : Ring} {m : Int} {r : Ring × List Int × Bool} (hr : M.i_TakeWords x m = some r) (h : r.2.2 = true) : ∃ (W : List Int) (k : Nat), IsR x x.Items.length W ∧ 0 ≤ m ∧ k = min m.toNat W.length ∧ r.1 = rg x.Items.length (x.Head + (k : Nat)) (W.drop k) ∧ r.2.1 = W.take k := by
  cases hg : good x with
  | false =>
    unfold M.i_TakeWords at hr
    simp only [i_good, hg, Option.bind_some, Bool.not_false, cond_true, Option.some.injEq] at hr
    subst hr
    cases h
  | true =>
    by_cases hm : 0 ≤ m
    · obtain ⟨W, hx⟩ := good_isR hg
      rw [i_take hx hm hg] at hr
      simp only [Option.some.injEq] at hr
      subst hr
      exact ⟨W, _, hx, hm, rfl, rfl, rfl⟩
    · unfold M.i_TakeWords at hr
      have hneg : m < 0 := by omega
      simp only [i_good, hg, hneg, Option.bind_some, Bool.not_true, cond_false, decide_true, cond_true, Option.some.injEq] at hr
      subst hr
      cases h
theorem takeWord_yes {x : Ring} {r : Ring × Int × Bool} (hr : M.i_TakeWord x = some r) (h : r.2.2 = true) : ∃ (w : Int) (W : List Int), IsR x x.Items.length (w :: W) ∧ r.1 = rg x.Items.length (x.Head + 1) W ∧ r.2.1 = w := by
  obtain ⟨t, _, ht, _, _⟩ := takeWords_eq x 1
  unfold M.i_TakeWord at hr
  rw [ht, Option.bind_some] at hr
  cases h2 : t.2.2 with
  | false =>
    rw [h2] at hr
    simp only [Bool.not_false, cond_true, Option.bind_some, Option.some.injEq] at hr
    subst hr
    cases h
  | true =>
    obtain ⟨W, k, hx, _, hk, he, hv⟩ := takeWords_yes ht h2
    rw [h2, hv] at hr
    simp only [Bool.not_true, cond_false, Option.bind_some] at hr
    cases W with
    | nil =>
      simp at hr
      subst hr
      cases h
    | cons w W =>
      have hk1 : k = 1 := by rw [hk]; simp <;> omega
      subst hk1
      have hne : ((([w].length : Nat) : Int) == 0) = false := rfl
      have hg0 : gxIdx [w] 0 = some w := rfl
      simp only [List.take_succ_cons, List.take_zero, hne, hg0, cond_false, Option.bind_some, Option.some.injEq] at hr
      subst hr
      exact ⟨w, W, hx, he, rfl⟩
theorem putWords_yes {x : Ring} {V : List Int} {r : Ring × Int × Bool} (hV : V.length ≤ 1099511627776) (hr : M.i_PutWords x V = some r) (h : r.2.2 = true) : ∃ (W : List Int) (k : Nat), IsR x x.Items.length W ∧ (∀ v ∈ V, word v = true) ∧ k ≤ V.length ∧ W.length + k ≤ x.Items.length ∧ (k = V.length ∨ W.length + k = x.Items.length) ∧ r.1 = rg x.Items.length x.Head (W ++ V.take k) ∧ r.2.1 = (k : Int) := by
  rw [i_puts x V hV] at hr
  split at hr
  · rename_i hc
    obtain ⟨W, hx⟩ := good_isR hc.1
    have hl := hx.len
    simp only [hx.i_words, Option.getD_some, Option.some.injEq] at hr
    subst hr
    exact ⟨W, fit x.Items.length W V, hx, List.all_eq_true.1 hc.2, by unfold fit; omega, by unfold fit; omega, by unfold fit; omega, rfl, rfl⟩
  · simp only [Option.some.injEq] at hr
    subst hr
    cases h
theorem drawPut_ok (code : List Int) (h : okL okU code) : ∃ r, M.s_DrawPutWord code = some r ∧ r.1.Items.length ≤ 9 := by
  unfold M.s_DrawPutWord
  obtain ⟨r, hr, hl, hc⟩ := ring_ok ⟨code, 0, 0⟩ 0 (cur0 h) (by omega)
  obtain ⟨q, hq, _, hqc⟩ := word16_ok ⟨code, r.2.1, r.2.2⟩ _ hc (by omega)
  rw [hr, Option.bind_some, hq, Option.bind_some]
  exact ⟨_, rfl, hl⟩
theorem drawTake_ok (code : List Int) (h : okL okU code) : ∃ r, M.s_DrawTakeWord code = some r ∧ r.Items.length ≤ 9 := by
  unfold M.s_DrawTakeWord M.s_DrawIsRing
  obtain ⟨r, hr, hl, hc⟩ := ring_ok ⟨code, 0, 0⟩ 0 (cur0 h) (by omega)
  rw [hr]
  exact ⟨_, rfl, hl⟩
theorem drawTakes_ok (code : List Int) (h : okL okU code) : ∃ r, M.s_DrawTakeWords code = some r ∧ r.1.Items.length ≤ 9 := by
  unfold M.s_DrawTakeWords
  obtain ⟨r, hr, hl, hc⟩ := ring_ok ⟨code, 0, 0⟩ 0 (cur0 h) (by omega)
  obtain ⟨q, hq, _, _, _, hqc⟩ := pick_ok ⟨code, r.2.1, r.2.2⟩ 9 _ hc (by omega) (by omega)
  obtain ⟨q2, hq2, _, _, _, hqc2⟩ := pick_ok ⟨code, q.2.1, q.2.2⟩ 9 _ hqc (by omega) (by omega)
  rw [hr, Option.bind_some, hq, Option.bind_some, hq2, Option.bind_some]
  exact ⟨_, rfl, hl⟩
theorem drawPuts_ok (code : List Int) (h : okL okU code) : ∃ r, M.s_DrawPutWords code = some r ∧ r.1.Items.length ≤ 9 ∧ r.2.length ≤ 8 := by
  unfold M.s_DrawPutWords
  obtain ⟨r, hr, hl, hc⟩ := ring_ok ⟨code, 0, 0⟩ 0 (cur0 h) (by omega)
  obtain ⟨d, hd, hd0, _, hd1, hdc⟩ := pick_ok ⟨code, r.2.1, r.2.2⟩ 8 _ hc (by omega) (by omega)
  have hd1 := hd1 (by omega)
  rw [hr, Option.bind_some, hd, Option.bind_some]
  obtain ⟨e, he, hel⟩ := while_inv (body := fun s5716 : List Int × Int × Int × Int =>
    bif decide (s5716.2.1 > 0) then (Option.bind (M.s_l1Cur_word16 (⟨code, s5716.2.2.1, s5716.2.2.2⟩ : l1Cur)) fun r5738 =>
    Option.bind (gxApp 8 s5716.1 [r5738.1]) fun ap5749 =>
    some (Sum.inl (β := List Int) (ap5749, w64 (s5716.2.1 - 1), r5738.2.1, r5738.2.2)))
    else some (.inr s5716.1)) (s0 := (([] : List Int), d.1, d.2.1, d.2.2)) (fun i s => s.1.length ≤ i ∧ (0 ≤ s.2.1 ∧ s.2.1 ≤ 8 - (i : Int)) ∧ curI ⟨code, s.2.2.1, s.2.2.2⟩ (200 + 4 * i)) (fun r => r.length ≤ 8) 8 (by omega) ⟨by simp, ⟨hd0, by simp only; omega⟩, hdc.mono (by omega)⟩ (fun i s hi hR => by
      obtain ⟨V, k, u, v⟩ := s
      obtain ⟨hx, hk, hc⟩ := hR
      simp only at hx hk hc
      by_cases hk0 : k > 0
      · obtain ⟨q, hq, _, hqc⟩ := word16_ok ⟨code, u, v⟩ _ hc (by omega)
        simp only [hk0, decide_true, cond_true, hq, Option.bind_some, w64_id (z := k - 1) (by omega) (by omega), gxApp_ok (show (V.length + [q.1].length) * 8 ≤ 140737488355328 by simp; omega)]
        exact Or.inl ⟨_, rfl, by simp; omega, ⟨by simp only; omega, by simp only; omega⟩, hqc.mono (by omega)⟩
      · simp only [hk0, decide_false, cond_false]
        exact Or.inr ⟨_, rfl, by omega⟩) (fun s hR => by
      obtain ⟨V, k, u, v⟩ := s
      obtain ⟨hx, hk, hc⟩ := hR
      simp only at hx hk hc
      have hk0 : ¬ (k > 0) := by omega
      simp only [hk0, decide_false, cond_false]
      exact ⟨_, rfl, by omega⟩)
  rw [he, Option.bind_some]
  exact ⟨_, rfl, hl, hel⟩
theorem plain_FnRings (code : List Int) (h : okL okU code) : M.l_FnRings code = some true := by
  unfold M.l_FnRings M.l_vBig
  rw [Option.bind_some]
  cases hbig : decide ((code.length : Int) > 65536) with
  | true => rfl
  | false =>
    obtain ⟨d, hd, hdl⟩ := drawPut_ok code h
    obtain ⟨d2, hd2, hd2l⟩ := drawTake_ok code h
    obtain ⟨d3, hd3, hd3l, hd3v⟩ := drawPuts_ok code h
    obtain ⟨d4, hd4, hd4l⟩ := drawTakes_ok code h
    obtain ⟨x, v⟩ := d
    obtain ⟨z, V⟩ := d3
    obtain ⟨u, m⟩ := d4
    simp only at hdl hd3l hd3v hd4l
    obtain ⟨p, hp1, hp2, hp3⟩ := putWord_eq x v
    obtain ⟨t, ht1, ht2, ht3⟩ := takeWord_eq d2
    obtain ⟨ps, hps1, hps2, hps3⟩ := putWords_eq z V (by omega)
    obtain ⟨ts, hts1, hts2, hts3, hts4⟩ := takeWords_eq u m
    have hsr : M.s_IsRing x = some (good x) := by unfold M.s_IsRing; rw [s_good]; rfl
    -- the first part
    have hA0 : (bif p.2 then (Option.bind (M.i_IsRing p.1) fun r4838 => some (!r4838)) else some false) = some false := by
      cases hy : p.2 with
      | false => rfl
      | true =>
        obtain ⟨W, hx, hl, hw, he⟩ := putWord_yes hp2 hy
        have hg := isR_good_rg (n := x.Items.length) (h := x.Head) (W := W ++ [v]) hx.hn (by simp; omega) (fun y hy => by
          rcases List.mem_append.1 hy with h1 | h1
          · exact hx.words y h1
          · rw [List.mem_singleton.1 h1]; exact hw)
        simp only [cond_true, he, i_good, hg, Option.bind_some, Bool.not_true]
    have hA : (bif p.2 then (Option.bind (M.i_RingWords x) fun r4955 =>
      Option.bind (M.i_RingWords p.1) fun r4964 =>
      Option.bind (α := Bool) (bif !r4955.2 then some true
      else (bif !r4964.2 then some true
      else (Option.bind (gxApp 8 ([] : List Int) r4955.1) fun ap5021 =>
      Option.bind (gxApp 8 ap5021 [v]) fun ap5036 =>
      Option.bind (M.l_vInts r4964.1 ap5036) fun r5044 =>
      some (!r5044)))) fun o5009 =>
      bif o5009 then some (.inr false)
      else some (.inl ()))
      else some (.inl ()) : Option (Unit ⊕ Bool)) = some (.inl ()) := by
      cases hy : p.2 with
      | false => rfl
      | true =>
        obtain ⟨W, hx, hl, hw, he⟩ := putWord_yes hp2 hy
        have hR := rg_isR (n := x.Items.length) (h := x.Head) (W := W ++ [v]) hx.hn (by simp; omega) (fun y hy => by
          rcases List.mem_append.1 hy with h1 | h1
          · exact hx.words y h1
          · rw [List.mem_singleton.1 h1]; exact hw)
        simp only [cond_true, he, i_ringwords hx, i_ringwords hR, Option.bind_some, Bool.not_true, cond_false, gxApp_ok (show (([] : List Int).length + W.length) * 8 ≤ 140737488355328 by simp; omega), List.nil_append, gxApp_ok (show (W.length + [v].length) * 8 ≤ 140737488355328 by simp; omega), vInts_refl (W ++ [v]) (by simp; omega)]
    have hB : (bif t.2.2 then (Option.bind (M.i_RingWords d2) fun r5558 =>
      Option.bind (M.i_RingWords t.1) fun r5567 =>
      Option.bind (α := Bool) (bif !r5558.2 then some true
      else (bif !r5567.2 then some true
      else (bif (r5558.1.length : Int) == 0 then some true
      else (Option.bind (gxIdx r5558.1 0) fun y5598 =>
      bif y5598 != t.2.1 then some true
      else (Option.bind (gxSlice r5558.1 1 (r5558.1.length : Int)) fun ys5600 =>
      Option.bind (M.l_vInts r5567.1 ys5600) fun r5602 =>
      bif !r5602 then some true
      else (Option.bind (M.i_IsRing t.1) fun r5607 =>
      some (!r5607))))))) fun o5592 =>
      bif o5592 then some (.inr false)
      else some (.inl ()))
      else some (.inl ()) : Option (Unit ⊕ Bool)) = some (.inl ()) := by
      cases hy : t.2.2 with
      | false => rfl
      | true =>
        obtain ⟨w, W, hx, he, hv⟩ := takeWord_yes ht2 hy
        have hl := hx.len
        have h8 := hx.n8
        simp only [List.length_cons] at hl
        have hR := rg_isR (n := d2.Items.length) (h := d2.Head + 1) (W := W) hx.hn (by omega) (fun y hy => hx.words y (List.mem_cons_of_mem _ hy))
        have hne : (((w :: W).length : Int) == 0) = false := by simp; omega
        have hg0 : gxIdx (w :: W) 0 = some w := by unfold gxIdx; simp
        have hs : gxSlice (w :: W) 1 ((w :: W).length : Int) = some W := by
          unfold gxSlice
          rw [if_pos ⟨by omega, by simp; omega, by omega⟩]
          simp
        simp only [cond_true, he, hv, i_ringwords hx, i_ringwords hR, Option.bind_some, Bool.not_true, cond_false, hne, hg0, bne_self_eq_false, hs, vInts_refl W (by omega), i_good, isR_good hR]
    have hC : (bif ps.2.2 then (Option.bind (M.i_RingWords z) fun r7511 =>
      Option.bind (M.i_RingWords ps.1) fun r7520 =>
      Option.bind (α := Bool) (bif !r7511.2 then some true
      else (bif !r7520.2 then some true
      else (Option.bind (gxApp 8 ([] : List Int) r7511.1) fun ap8427 =>
      Option.bind (gxSlice V 0 ps.2.1) fun ys8433 =>
      Option.bind (gxApp 8 ap8427 ys8433) fun ap8435 =>
      Option.bind (M.l_vInts r7520.1 ap8435) fun r8441 =>
      bif !r8441 then some true
      else (bif decide (ps.2.1 < (V.length : Int)) then some ((r7520.1.length : Int) != (z.Items.length : Int))
      else some false)))) fun o8169 =>
      bif o8169 then some (.inr false)
      else some (.inl ()))
      else some (.inl ()) : Option (Unit ⊕ Bool)) = some (.inl ()) := by
      cases hy : ps.2.2 with
      | false => rfl
      | true =>
        obtain ⟨W, k, hx, hv, hk1, hk2, hk3, he, hn⟩ := putWords_yes (by omega) hps2 hy
        have hl := hx.len
        have h8 := hx.n8
        have hR := rg_isR (n := z.Items.length) (h := z.Head) (W := W ++ V.take k) hx.hn (by simp; omega) (fun y hy => by
          rcases List.mem_append.1 hy with h1 | h1
          · exact hx.words y h1
          · exact hv y (List.mem_of_mem_take h1))
        have hs : gxSlice V 0 (k : Int) = some (V.take k) := by
          unfold gxSlice
          rw [if_pos ⟨by omega, by omega, by omega⟩]
          simp
        have hlast : (bif decide ((k : Int) < (V.length : Int)) then some (((W ++ V.take k).length : Int) != (z.Items.length : Int)) else some false) = some false := by
          by_cases hkV : (k : Int) < (V.length : Int)
          · have : ((W ++ V.take k).length : Int) = (z.Items.length : Int) := by
              rw [List.length_append, List.length_take]
              omega
            simp only [hkV, decide_true, cond_true, this, bne_self_eq_false]
          · simp only [hkV, decide_false, cond_false]
        simp only [cond_true, he, hn, i_ringwords hx, i_ringwords hR, Option.bind_some, Bool.not_true, cond_false, gxApp_ok (show (([] : List Int).length + W.length) * 8 ≤ 140737488355328 by simp; omega), List.nil_append, hs, gxApp_ok (show (W.length + (V.take k).length) * 8 ≤ 140737488355328 by simp; omega), vInts_refl (W ++ V.take k) (by simp; omega), hlast]
    have hD : (bif ts.2.2 then (Option.bind (M.i_RingWords u) fun r9252 =>
      Option.bind (M.i_RingWords ts.1) fun r9261 =>
      Option.bind (α := Bool) (bif r9252.2 then (bif r9261.2 then (Option.bind (gxApp 8 ([] : List Int) ts.2.1) fun ap9311 =>
      Option.bind (gxApp 8 ap9311 r9261.1) fun ap9319 =>
      Option.bind (M.l_vInts ap9319 r9252.1) fun r9327 =>
      some r9327)
      else some false)
      else some false) fun o9299 =>
      some o9299)
      else some true) = some true := by
      cases hy : ts.2.2 with
      | false => rfl
      | true =>
        obtain ⟨W, k, hx, _, hk, he, hv⟩ := takeWords_yes hts2 hy
        have hl := hx.len
        have h8 := hx.n8
        have hR := rg_isR (n := u.Items.length) (h := u.Head + (k : Nat)) (W := W.drop k) hx.hn (by simp; omega) (hx.take k)
        simp only [cond_true, he, hv, i_ringwords hx, i_ringwords hR, Option.bind_some, gxApp_ok (show (([] : List Int).length + (W.take k).length) * 8 ≤ 140737488355328 by simp; omega), List.nil_append, gxApp_ok (show ((W.take k).length + (W.drop k).length) * 8 ≤ 140737488355328 by simp; omega), List.take_append_drop, vInts_refl W (by omega)]
    simp only [cond_false, hd, hp1, hp2, hsr, i_good x, i_good p.1, vRing_refl p.1 (by omega), Option.bind_some, beq_self_eq_true, Bool.not_true]
    rw [i_good] at hA0
    simp only [Option.bind_some] at hA0
    rw [hA0]
    simp only [Option.bind_some, cond_false]
    rw [hA]
    simp only [Option.bind_some, Sum.elim_inl, hd2, ht1, ht2, vRing_refl t.1 (by omega), beq_self_eq_true, bne_self_eq_false, Bool.not_true, cond_false]
    rw [hB]
    simp only [Option.bind_some, Sum.elim_inl, hd3, hps1, hps2, vRing_refl ps.1 (by omega), beq_self_eq_true, bne_self_eq_false, Bool.not_true, cond_false]
    rw [hC]
    simp only [Option.bind_some, Sum.elim_inl, hd4, hts1, hts2, vRing_refl ts.1 (by omega), vInts_refl ts.2.1 (by omega), beq_self_eq_true, bne_self_eq_false, Bool.not_true, cond_false]
    rw [hD]

end Go.Proofs.Ytopnablbecepjaa
