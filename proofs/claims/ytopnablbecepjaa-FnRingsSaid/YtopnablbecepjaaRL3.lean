/- Plain laws of the models: no program in sight. -/
import Derived.Test.YtopnablbecepjaaRM
import Derived.Test.YtopnablbecepjaaRL2
set_option linter.unusedVariables false
set_option linter.unusedSimpArgs false
set_option maxHeartbeats 4000000
namespace Go.Proofs.Ytopnablbecepjaa
open Go.Gx
/-! ### Rings: what the operations give -/
theorem isR_good {x : Ring} {n : Nat} {W : List Int} (h : IsR x n W) : good x = true := by
  have h8 := h.n8
  have hl := h.len
  have hc := h.cnt
  have hh := h.head
  have ht := h.htail
  unfold good
  simp only [Bool.and_eq_true, decide_eq_true_eq, h.ilen, hc]
  refine ⟨?_, word_spec.2 hh, word_spec.2 ht, by omega, ?_⟩
  · rcases h.hn with rfl | rfl | rfl | rfl <;> rfl
  · rw [List.all_eq_true]
    intro i hi
    have hi := List.mem_range.1 hi
    unfold okS
    rw [h.ilen, hc, h.items, lay_getD h.hn hi]
    by_cases hw : i < W.length
    · have h1 : W.getD i 0 = W[i] := by rw [List.getD_eq_getElem?_getD, List.getElem?_eq_getElem hw]; rfl
      have h2 : ¬ ((i : Int) ≥ (W.length : Int)) := by omega
      rw [h1, h.words _ (List.getElem_mem hw)]
      simp [h2]
    · have h1 : W.getD i 0 = 0 := by rw [List.getD_eq_getElem?_getD, List.getElem?_eq_none (by omega)]; rfl
      rw [h1]
      simp [word]
theorem isR_good_rg {n : Nat} {h : Int} {W : List Int} (hn : n = 1 ∨ n = 2 ∨ n = 4 ∨ n = 8) (hW : W.length ≤ n) (hw : ∀ w ∈ W, word w = true) : good (rg n h W) = true := isR_good (rg_isR hn hW hw)
theorem i_ringwords {x : Ring} {n : Nat} {W : List Int} (h : IsR x n W) : M.i_RingWords x = some (W, true) := by
  unfold M.i_RingWords
  simp only [i_good, isR_good h, h.i_words, Option.bind_some, Bool.not_true, cond_false]
theorem vInts_refl (xs : List Int) (h : xs.length ≤ 4611686018427387904) : M.l_vInts xs xs = some true := by
  unfold M.l_vInts
  rw [while_run (fun i => (i : Int)) (Sum.inl ()) xs.length (by simp) h]
  · simp
  · intro i hi
    have h1 : ((i : Int) < (xs.length : Int)) := by omega
    simp [h1, gxIdx_nat hi, w64_succ (show i ≤ 4611686018427387904 by omega)]
  · simp
theorem vRing_refl (x : Ring) (h : x.Items.length ≤ 4611686018427387904) : M.l_vRing x x = some true := by
  unfold M.l_vRing
  rw [vInts_refl _ h]
  simp
theorem resize_fw {x : Ring} {n q : Nat} {W : List Int} (h : IsR x n W) (hq : q = 1 ∨ q = 2 ∨ q = 4 ∨ q = 8) (hl : W.length ≤ q) : M.i_ResizeRing x (q : Int) = some (rg q x.Head W, true) := by
  unfold M.i_ResizeRing
  have hp : pl (q : Int) = true := by rcases hq with rfl | rfl | rfl | rfl <;> rfl
  have hc : ¬ ((W.length : Int) > (q : Int)) := by omega
  simp only [i_good, i_places, isR_good h, hp, h.i_cnt, h.i_words, hc, ringOf_ok hq h.head hl, Option.bind_some, Bool.not_true, cond_false, decide_false]
theorem resize_yes {x : Ring} {p : Int} {r : Ring × Bool} (hr : M.i_ResizeRing x p = some r) (h : r.2 = true) : ∃ (W : List Int) (q : Nat), IsR x x.Items.length W ∧ (q = 1 ∨ q = 2 ∨ q = 4 ∨ q = 8) ∧ W.length ≤ q ∧ r.1 = rg q x.Head W := by
  cases hg : good x with
  | false =>
    unfold M.i_ResizeRing at hr
    simp only [i_good, hg, Option.bind_some, Bool.not_false, cond_true] at hr
    simp only [Option.some.injEq] at hr
    subst hr
    cases h
  | true =>
    obtain ⟨W, hx⟩ := good_isR hg
    cases hp : pl p with
    | false =>
      unfold M.i_ResizeRing at hr
      simp only [i_good, hg, i_places, hp, Option.bind_some, Bool.not_false, Bool.not_true, cond_true, cond_false] at hr
      simp only [Option.some.injEq] at hr
      subst hr
      cases h
    | true =>
      obtain ⟨q, rfl⟩ : ∃ q : Nat, p = q := ⟨p.toNat, by have := pl_cases hp; omega⟩
      have hq := pl_nat hp
      by_cases hc : W.length ≤ q
      · rw [resize_fw hx hq hc] at hr
        simp only [Option.some.injEq] at hr
        subst hr
        exact ⟨W, q, hx, hq, hc, rfl⟩
      · unfold M.i_ResizeRing at hr
        have hc' : ((W.length : Int) > (q : Int)) := by omega
        simp only [i_good, hg, i_places, hp, hx.i_cnt, hc', Option.bind_some, Bool.not_false, Bool.not_true, cond_true, cond_false, decide_true] at hr
        simp only [Option.some.injEq] at hr
        subst hr
        cases h
/-! ### Draws -/
theorem curI.mono {c : l1Cur} {n m : Nat} (h : curI c n) (hm : n ≤ m) : curI c m := ⟨h.1, h.2.1, by have := h.2.2; omega⟩
theorem cur0 {code : List Int} (h : okL okU code) : curI ⟨code, 0, 0⟩ 0 := ⟨h, by simp, by simp⟩
theorem word16_ok (c : l1Cur) (n : Nat) (h : curI c n) (hn : n ≤ 1099510000000) : ∃ r, M.s_l1Cur_word16 c = some r ∧ (-1 ≤ r.1 ∧ r.1 ≤ 65536) ∧ curI ⟨c.code, r.2.1, r.2.2⟩ (n + 4) := by
  unfold M.s_l1Cur_word16
  obtain ⟨a, ha, hac⟩ := one_ok c 32 n h (by omega) (by omega)
  rw [ha, Option.bind_some]
  cases a.1 with
  | true =>
    obtain ⟨b, hb, hm, hbc⟩ := among_ok ⟨c.code, a.2.1, a.2.2⟩ [(-1), 65536] _ hac (by omega) (by simp)
    simp only [cond_true, hb, Option.bind_some]
    refine ⟨_, rfl, ?_, hbc.mono (by omega)⟩
    simp only [List.mem_cons, List.not_mem_nil, or_false] at hm
    simp only
    omega
  | false =>
    obtain ⟨b, hb, hm, hbc⟩ := among_ok ⟨c.code, a.2.1, a.2.2⟩ [0, 1, 2, 7, 100, 32768, 65534, 65535] _ hac (by omega) (by simp)
    simp only [cond_false, hb, Option.bind_some]
    refine ⟨_, rfl, ?_, hbc.mono (by omega)⟩
    simp only [List.mem_cons, List.not_mem_nil, or_false] at hm
    simp only
    omega
theorem ring_ok (c : l1Cur) (n : Nat) (h : curI c n) (hn : n ≤ 1099500000000) : ∃ r, M.s_l1Cur_ring c = some r ∧ r.1.Items.length ≤ 9 ∧ curI ⟨c.code, r.2.1, r.2.2⟩ (n + 100) := by
  unfold M.s_l1Cur_ring
  obtain ⟨a, ha, ham, hac⟩ := among_ok c [1, 2, 4, 4, 8] n h (by omega) (by simp)
  obtain ⟨b, hb, hbm, hbc⟩ := among_ok ⟨c.code, a.2.1, a.2.2⟩ [0, 1, 5, 65533, 65534, 65535, 1000] _ hac (by omega) (by simp)
  rw [ha, Option.bind_some, hb, Option.bind_some]
  obtain ⟨q, hq, hqn⟩ : ∃ q : Nat, a.1 = q ∧ (q = 1 ∨ q = 2 ∨ q = 4 ∨ q = 8) := by
    simp only [List.mem_cons, List.not_mem_nil, or_false] at ham
    exact ⟨a.1.toNat, by omega, by omega⟩
  have hbw : 0 ≤ b.1 ∧ b.1 ≤ 65535 := by
    simp only [List.mem_cons, List.not_mem_nil, or_false] at hbm
    omega
  have hmk : M.s_MakeRing a.1 b.1 = some (rg q b.1 [], true) := by
    unfold M.s_MakeRing
    have hp : pl (q : Int) = true := by rcases hqn with rfl | rfl | rfl | rfl <;> rfl
    simp only [hq, s_places, s_word, hp, word_spec.2 hbw, Option.bind_some, Bool.not_true, cond_false, gxMake_nat (show q * 8 ≤ 140737488355328 by omega)]
    simp only [rg, lay_nil, List.length_nil, Int.natCast_zero, Int.add_zero, Int.emod_eq_of_lt hbw.1 (show b.1 < 65536 by omega)]
  rw [hmk, Option.bind_some]
  obtain ⟨d, hd, hd0, _, hd1, hdc⟩ := pick_ok ⟨c.code, b.2.1, b.2.2⟩ 14 _ hbc (by omega) (by omega)
  have hd1 := hd1 (by omega)
  rw [hd, Option.bind_some]
  obtain ⟨e, he, hen, hel, hec⟩ := while_inv (body := fun s1260 : Int × Int × Int × List Int × Int × Int =>
    bif decide (s1260.1 > 0) then (Option.bind (M.s_l1Cur_one (⟨c.code, s1260.2.1, s1260.2.2.1⟩ : l1Cur) 3) fun r1282 =>
    Option.bind (α := Int × Int × List Int × Int × Int) (bif r1282.1 then (Option.bind (M.s_l20Take (⟨s1260.2.2.2.1, s1260.2.2.2.2.1, s1260.2.2.2.2.2⟩ : Ring)) fun r1363 =>
    some (r1282.2.1, r1282.2.2, r1363.1.Items, r1363.1.Head, r1363.1.Tail))
    else (Option.bind (M.s_l1Cur_among (⟨c.code, r1282.2.1, r1282.2.2⟩ : l1Cur) [1, 2, 3, 0, 500, 65535]) fun r1381 =>
    Option.bind (M.s_l20Put (⟨s1260.2.2.2.1, s1260.2.2.2.2.1, s1260.2.2.2.2.2⟩ : Ring) r1381.1) fun r1382 =>
    some (r1381.2.1, r1381.2.2, r1382.1.Items, r1382.1.Head, r1382.1.Tail))) fun o1354 =>
    some (Sum.inl (β := Int × Int × List Int × Int × Int) (w64 (s1260.1 - 1), o1354.1, o1354.2.1, o1354.2.2.1, o1354.2.2.2.1, o1354.2.2.2.2)))
    else some (.inr (s1260.2.1, s1260.2.2.1, s1260.2.2.2.1, s1260.2.2.2.2.1, s1260.2.2.2.2.2))) (s0 := (d.1, d.2.1, d.2.2, (rg q b.1 []).Items, (rg q b.1 []).Head, (rg q b.1 []).Tail))
    (fun i s => (0 ≤ s.1 ∧ s.1 ≤ 14 - (i : Int)) ∧ curI ⟨c.code, s.2.1, s.2.2.1⟩ (n + 6 + 4 * i) ∧ ∃ (g : Int) (W : List Int), W.length ≤ q ∧ (∀ w ∈ W, word w = true) ∧ (⟨s.2.2.2.1, s.2.2.2.2.1, s.2.2.2.2.2⟩ : Ring) = rg q g W)
    (fun r => r.2.2.1.length = q ∧ True ∧ curI ⟨c.code, r.1, r.2.1⟩ (n + 6 + 56)) 14 (by omega) ⟨⟨hd0, by simp only; omega⟩, hdc, b.1, [], by simp, by simp, rfl⟩ (fun i s hi hR => by
      obtain ⟨k, u, v, it, hd_, tl⟩ := s
      obtain ⟨hk, hc, g, W, hW, hw, hrg⟩ := hR
      simp only at hk hc hrg
      by_cases hk0 : k > 0
      · obtain ⟨r, hr, hrc⟩ := one_ok ⟨c.code, u, v⟩ 3 _ hc (by omega) (by omega)
        simp only [hk0, decide_true, cond_true, hr, Option.bind_some, w64_id (z := k - 1) (by omega) (by omega), hrg]
        cases r.1 with
        | true =>
          simp only [cond_true]
          cases W with
          | nil =>
            have h0 := rg_isR (h := g) hqn hW hw
            have : M.s_l20Take (rg q g []) = some (rg q g [], -1) := by
              unfold M.s_l20Take
              rw [h0.own, Option.bind_some, h0.s_cnt, Option.bind_some]
              rfl
            rw [this]
            exact Or.inl ⟨_, rfl, ⟨by simp only; omega, by simp only; omega⟩, hrc.mono (by omega), g, [], hW, hw, rfl⟩
          | cons w W =>
            rw [take_ok hqn hW hw]
            exact Or.inl ⟨_, rfl, ⟨by simp only; omega, by simp only; omega⟩, hrc.mono (by omega), g + 1, W, by simp at hW; omega, fun v hv => hw v (List.mem_cons_of_mem _ hv), rfl⟩
        | false =>
          obtain ⟨z, hz, hzm, hzc⟩ := among_ok ⟨c.code, r.2.1, r.2.2⟩ [1, 2, 3, 0, 500, 65535] _ hrc (by omega) (by simp)
          have hzw : word z.1 = true := by
            simp only [List.mem_cons, List.not_mem_nil, or_false] at hzm
            rw [word_spec]
            omega
          simp only [cond_false, hz, Option.bind_some]
          by_cases hfull : W.length < q
          · rw [put_ok hqn hfull hw]
            exact Or.inl ⟨_, rfl, ⟨by simp only; omega, by simp only; omega⟩, hzc.mono (by omega), g, W ++ [z.1], by simp; omega, fun v hv => by
              rcases List.mem_append.1 hv with h1 | h1
              · exact hw v h1
              · rw [List.mem_singleton.1 h1]; exact hzw, rfl⟩
          · have h0 := rg_isR (h := g) hqn hW hw
            have hl : (rg q g W).Items.length = q := h0.ilen
            have hWq : W.length = q := by omega
            have : M.s_l20Put (rg q g W) z.1 = some (rg q g W, false) := by
              unfold M.s_l20Put
              rw [h0.own, Option.bind_some, h0.s_cnt, Option.bind_some, hl, hWq]
              simp only [beq_self_eq_true, cond_true]
            rw [this]
            exact Or.inl ⟨_, rfl, ⟨by simp only; omega, by simp only; omega⟩, hzc.mono (by omega), g, W, hW, hw, rfl⟩
      · simp only [hk0, decide_false, cond_false]
        refine Or.inr ⟨_, rfl, ?_, trivial, hc.mono (by omega)⟩
        have := congrArg (fun x : Ring => x.Items.length) hrg
        simpa [rg, lay_length] using this) (fun s hR => by
      obtain ⟨k, u, v, it, hd_, tl⟩ := s
      obtain ⟨hk, hc, g, W, hW, hw, hrg⟩ := hR
      simp only at hk hc hrg
      have hk0 : ¬ (k > 0) := by omega
      simp only [hk0, decide_false, cond_false]
      refine ⟨_, rfl, ?_, trivial, hc.mono (by omega)⟩
      have := congrArg (fun x : Ring => x.Items.length) hrg
      simpa [rg, lay_length] using this)
  rw [he, Option.bind_some]
  obtain ⟨p, hp, hp0, _, hp1, hpc⟩ := pick_ok ⟨c.code, e.1, e.2.1⟩ 24 _ hec (by omega) (by omega)
  rw [hp, Option.bind_some]
  cases p.1 == 0 with
  | true =>
    obtain ⟨z, hz, _, hzc⟩ := word16_ok ⟨c.code, p.2.1, p.2.2⟩ _ hpc (by omega)
    simp only [cond_true, hz, Option.bind_some]
    exact ⟨_, rfl, by simp only; omega, hzc.mono (by omega)⟩
  | false => cases p.1 == 1 with
    | true =>
      simp only [cond_true, cond_false, Option.bind_some, gxApp_ok (show (e.2.2.1.length + [(0 : Int)].length) * 8 ≤ 140737488355328 by simp; omega)]
      exact ⟨_, rfl, by simp; omega, hpc.mono (by omega)⟩
    | false => cases p.1 == 2 with
      | false =>
        simp only [cond_false, Option.bind_some]
        exact ⟨_, rfl, by simp only; omega, hpc.mono (by omega)⟩
      | true =>
        obtain ⟨z, hz, hz0, _, hz1, hzc⟩ := pick_ok ⟨c.code, p.2.1, p.2.2⟩ (e.2.2.1.length : Int) _ hpc (by omega) (by omega)
        have hz1 := hz1 (by omega)
        obtain ⟨y, hy, _, hyc⟩ := among_ok ⟨c.code, z.2.1, z.2.2⟩ [(-1), 3, 65536] _ hzc (by omega) (by simp)
        obtain ⟨zi, hzi⟩ : ∃ i : Nat, z.1 = i := ⟨z.1.toNat, by omega⟩
        have hzl : zi < e.2.2.1.length := by omega
        have hix : gxIdx e.2.2.1 z.1 = some e.2.2.1[zi] := by rw [hzi]; exact gxIdx_nat hzl
        simp only [cond_true, cond_false, hz, hy, hix, Option.bind_some]
        exact ⟨_, rfl, by simp; omega, hyc.mono (by omega)⟩

end Go.Proofs.Ytopnablbecepjaa
