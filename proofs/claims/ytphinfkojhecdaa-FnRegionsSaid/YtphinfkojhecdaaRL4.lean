/- Plain laws of the models: no program in sight. -/
import Derived.Test.YtphinfkojhecdaaRM
import Derived.Test.YtphinfkojhecdaaRL3
set_option linter.unusedVariables false
set_option linter.unusedSimpArgs false
set_option maxHeartbeats 4000000
namespace Go.Proofs.Ytphinfkojhecdaa
open Go.Gx
/-- A region that was moved can be moved back. -/
theorem move_back {xs : List Region} {n b : Int} (h : (moveM xs n b).2 = true) : ∃ k : Nat, ∃ hk : k < xs.length, n = (k : Int) ∧ goodM (moveM xs n b).1 = true ∧ findR (moveM xs n b).1 b ≥ 0 ∧ moveM (moveM xs n b).1 (findR (moveM xs n b).1 b) xs[k].Base = (xs, true) := by
  unfold moveM at h
  cases hc : (goodM xs && (decide (0 ≤ n ∧ n ≤ (xs.length : Int) - 1) && goodM (addR (restR xs n.toNat) (atR xs n.toNat b)))) with
  | false => rw [hc] at h; cases h
  | true =>
    have hm : moveM xs n b = (addR (restR xs n.toNat) (atR xs n.toNat b), true) := by unfold moveM; rw [hc]; rfl
    rw [hm]
    simp only [Bool.and_eq_true, decide_eq_true_eq] at hc
    obtain ⟨hg, hn, hy⟩ := hc
    obtain ⟨k, rfl⟩ : ∃ k : Nat, n = k := ⟨n.toNat, by omega⟩
    rw [Int.toNat_natCast] at hy ⊢
    have hk : k < xs.length := by omega
    refine ⟨k, hk, rfl, hy, ?_⟩
    simp only
    generalize hw : addR (restR xs k) (atR xs k b) = ys at hy
    have hp : ys.Perm (atR xs k b :: restR xs k) := by rw [← hw]; exact addR_perm _ _
    have hmem : atR xs k b ∈ ys := hp.mem_iff.2 List.mem_cons_self
    obtain ⟨i, hi, he⟩ := List.getElem_of_mem hmem
    have hsz := oneR_spec (goodM_mem hy hmem)
    have hb : ys[i].Base = b := by rw [he]; rfl
    have hf : findR ys b = (i : Int) := find_in hy hi (by rw [he]; unfold atR at hsz ⊢; simp only at hsz ⊢; omega)
    rw [hf]
    refine ⟨by omega, ?_⟩
    have hback : atR ys i xs[k].Base = xs[k] := by
      unfold atR
      rw [getD_at hi, he]
      unfold atR
      simp only [getD_at hk]
    have hrest : (restR ys i).Perm (restR xs k) := by
      have h1 := (rest_perm ys hi).trans hp
      rw [he] at h1
      exact List.Perm.cons_inv h1
    have hord : ordered keyR (restR ys i) := List.Pairwise.sublist (rest_sub ys hi) (ord_of hy)
    have hsame : addR (restR ys i) xs[k] = xs := by
      have h2 : xs.Perm (addR (restR ys i) xs[k]) := (((addR_perm _ _).trans (hrest.cons _)).trans (rest_perm xs hk)).symm
      exact (ordered_uniq keyR (strict_of hg) (addR_ord hord _) h2).symm
    unfold moveM
    rw [Int.toNat_natCast, hback, hsame, hy, hg, decide_eq_true (show 0 ≤ (i : Int) ∧ (i : Int) ≤ (ys.length : Int) - 1 by omega)]
    rfl
theorem moveM_len (xs : List Region) (n b : Int) (h : xs.length ≤ 1000) : (moveM xs n b).1.length ≤ 1001 := by
  unfold moveM
  cases hc : (goodM xs && (decide (0 ≤ n ∧ n ≤ (xs.length : Int) - 1) && goodM (addR (restR xs n.toNat) (atR xs n.toNat b)))) with
  | false => simp
  | true =>
    simp only [cond_true]
    rw [addR_len]
    unfold restR
    simp only [List.length_append, List.length_take, List.length_drop]
    omega
theorem addM_len (xs : List Region) (r : Region) (h : xs.length ≤ 1000) : (addM xs r).1.length ≤ 1001 := by
  unfold addM
  cases hc : (goodM xs && goodM (addR xs r)) with
  | false => simp
  | true =>
    simp only [cond_true]
    rw [addR_len]
    omega
theorem drawPlace_ok (code : List Int) (h : okL okU code) : ∃ r, M.s_DrawPlaceRegion code = some r ∧ r.1.length ≤ 8 := by
  unfold M.s_DrawPlaceRegion
  obtain ⟨r, hr, hl, hc⟩ := regions_ok ⟨code, 0, 0⟩ 0 (cur0 h) (by omega)
  obtain ⟨p, hp, hp0, _, hp1, hpc⟩ := pick_ok ⟨code, r.2.1, r.2.2⟩ 24 _ hc (by omega) (by omega)
  have hp1 := hp1 (by omega)
  have ht : p.1.tdiv 7 = p.1 / 7 := Int.tdiv_eq_ediv_of_nonneg hp0
  have hw : w64 (4 + (w64 (p.1.tdiv 7))) = 4 + p.1 / 7 := by
    rw [ht, w64_id (z := p.1 / 7) (by omega) (by omega), w64_id (by omega) (by omega)]
  have hsl : gxSlice [(4 : Int), 8, 256, 4096, 2, 6, 8192] 0 (4 + p.1 / 7) = some (([(4 : Int), 8, 256, 4096, 2, 6, 8192].take (4 + p.1 / 7).toNat).drop 0) := by
    unfold gxSlice
    rw [if_pos ⟨by omega, by omega, by simp; omega⟩]
    rfl
  obtain ⟨q, hq, _, hqc⟩ := among_ok ⟨code, p.2.1, p.2.2⟩ (([(4 : Int), 8, 256, 4096, 2, 6, 8192].take (4 + p.1 / 7).toNat).drop 0) _ hpc (by omega) (by simp; omega)
  rw [hr, Option.bind_some, hp, Option.bind_some, hw, hsl, Option.bind_some, hq, Option.bind_some]
  exact ⟨_, rfl, hl⟩
theorem drawAdd_ok (code : List Int) (h : okL okU code) : ∃ r, M.s_DrawAddRegion code = some r ∧ r.1.length ≤ 8 := by
  unfold M.s_DrawAddRegion
  obtain ⟨r, hr, hl, hc⟩ := regions_ok ⟨code, 0, 0⟩ 0 (cur0 h) (by omega)
  obtain ⟨a, ha, hac⟩ := region_ok ⟨code, r.2.1, r.2.2⟩ _ hc (by omega)
  rw [hr, Option.bind_some, ha, Option.bind_some]
  exact ⟨_, rfl, hl⟩
theorem drawMove_ok (code : List Int) (h : okL okU code) : ∃ r, M.s_DrawMoveRegion code = some r ∧ r.1.length ≤ 8 := by
  unfold M.s_DrawMoveRegion
  obtain ⟨r, hr, hl, hc⟩ := regions_ok ⟨code, 0, 0⟩ 0 (cur0 h) (by omega)
  obtain ⟨p, hp, hp0, _, hp1, hpc⟩ := pick_ok ⟨code, r.2.1, r.2.2⟩ (w64 ((r.1.length : Int) + 1)) _ hc (by omega) (by rw [w64_id (by omega) (by omega)]; omega)
  obtain ⟨p2, hp2, _, _, _, hpc2⟩ := pick_ok ⟨code, p.2.1, p.2.2⟩ 20 _ hpc (by omega) (by omega)
  obtain ⟨q, hq, _, hqc⟩ := among_ok ⟨code, p2.2.1, p2.2.2⟩ [0, 4, 4096, 32768, 65532, 61440, (-4), 65536] _ hpc2 (by omega) (by simp)
  rw [hr, Option.bind_some, hp, Option.bind_some, hp2, Option.bind_some, hq, Option.bind_some]
  exact ⟨_, rfl, hl⟩
theorem drawFree_ok (code : List Int) (h : okL okU code) : ∃ r, M.s_DrawFreeSpace code = some r ∧ r.length ≤ 8 := by
  unfold M.s_DrawFreeSpace M.s_DrawIsMap
  obtain ⟨r, hr, hl, hc⟩ := regions_ok ⟨code, 0, 0⟩ 0 (cur0 h) (by omega)
  rw [hr]
  exact ⟨_, rfl, hl⟩
theorem i_FindRegion_is (xs : List Region) (a : Int) (h : xs.length ≤ 1048576) : M.i_FindRegion xs a = some (bif goodM xs && decide (0 ≤ findR xs a) then (findR xs a, true) else (0, false)) := by
  unfold M.i_FindRegion
  simp only [i_find xs a h, i_goodM xs h, Option.bind_some]
  cases goodM xs with
  | false => rfl
  | true =>
    by_cases hf : findR xs a < 0
    · have : ¬ (0 ≤ findR xs a) := by omega
      simp [hf, this]
    · have : 0 ≤ findR xs a := by omega
      simp [hf, this]
theorem plain_FnRegions (code : List Int) (h : okL okU code) : M.l_FnRegions code = some true := by
  unfold M.l_FnRegions M.l_rBig
  rw [Option.bind_some]
  cases hbig : decide ((code.length : Int) > 65536) with
  | true => rfl
  | false =>
    obtain ⟨d, hd, hdl⟩ := drawPlace_ok code h
    obtain ⟨d2, hd2, hd2l⟩ := drawAdd_ok code h
    obtain ⟨d3, hd3, hd3l⟩ := drawMove_ok code h
    obtain ⟨d4, hd4, hd4l⟩ := drawFree_ok code h
    obtain ⟨xs, z⟩ := d
    obtain ⟨ys, r⟩ := d2
    obtain ⟨x3, n3, b3⟩ := d3
    simp only at hdl hd2l hd3l
    obtain ⟨q, hq1, hq2, hq3⟩ := place_is xs z (by omega)
    have ha := add_is ys r (by omega)
    have hm := move_is x3 n3 b3 (by omega)
    have hf := free_is d4 (by omega)
    have hra := rRegions_refl (addM ys r).1 (by have := addM_len ys r (by omega); omega)
    have hrm := rRegions_refl (moveM x3 n3 b3).1 (by have := moveM_len x3 n3 b3 (by omega); omega)
    have hfin : ∀ b : Bool, (bif b then (some (.inr false) : Option (Unit ⊕ Bool)) else some (.inl ())) = bif b then some (.inr false) else some (.inl ()) := fun _ => rfl
    -- the first part
    have hA : (bif q.2 then (Option.bind (M.i_AddRegion xs (⟨q.1, z, 0, 0⟩ : Region)) fun r5671 =>
      Option.bind (M.i_FreeSpace xs) fun r5680 =>
      Option.bind (M.i_FreeSpace r5671.1) fun r5684 =>
      Option.bind (α := Bool) (bif !r5671.2 then some true
      else (bif !r5680.2 then some true
      else (bif !r5684.2 then some true
      else (bif (w64 (r5680.1 - r5684.1)) != z then some true
      else (Option.bind (M.i_IsMap r5671.1) fun r5703 =>
      some (!r5703)))))) fun o5696 =>
      bif o5696 then some (.inr false)
      else (Option.bind (whileM (σ := Int) (ρ := (Unit) ⊕ (Bool)) (fun s5734 =>
        bif decide (s5734 < q.1) then (Option.bind (M.i_AddRegion xs (⟨s5734, z, 0, 0⟩ : Region)) fun r5746 =>
        bif r5746.2 then some (.inr (.inr false))
        else some (.inl (w64 (s5734 + z))))
        else some (.inr (.inl ()))) gxFuel 0) fun out5741 => Sum.elim (fun (o5744 : Unit) =>
      some (.inl ())) (fun r => some (.inr r)) out5741))
      else some (Sum.inl ()) : Option (Unit ⊕ Bool)) = some (.inl ()) := by
      cases hq : q.2 with
      | false => rfl
      | true =>
        obtain ⟨hg, hz, k, hk, hk2, hkb, hgk, hno⟩ := hq3 hq
        have hadd : addM xs ⟨q.1, z, 0, 0⟩ = (addR xs ⟨(k : Int) * z, z, 0, 0⟩, true) := by unfold addM; rw [hg, hk, hgk]; rfl
        have hlx := goodM_len hg
        have hfx : freeM xs = (65536 - sumS xs, true) := by unfold freeM; rw [hg]; rfl
        have hfy : freeM (addR xs ⟨(k : Int) * z, z, 0, 0⟩) = (65536 - (sumS xs + z), true) := by unfold freeM; rw [hgk, sumS_add]; rfl
        have hla : (addR xs ⟨(k : Int) * z, z, 0, 0⟩).length ≤ 1048576 := by rw [addR_len]; omega
        have hz4 := pow_range hz
        have hb1 := sum_bound (xs := xs) fun a ha => goodM_mem hg ha
        have e1 : w64 (65536 - sumS xs - (65536 - (sumS xs + z))) = z := by rw [w64_id (by omega) (by omega)]; omega
        simp only [cond_true, (add_is xs ⟨q.1, z, 0, 0⟩ (by omega)).2, hadd, (free_is xs (by omega)).2, (free_is _ hla).2, hfx, hfy, i_goodM _ hla, hgk, Option.bind_some, Bool.not_true, cond_false, e1, bne_self_eq_false]
        rw [while_run (fun (j : Nat) => (j : Int) * z) (Sum.inl ()) k (by simp) (by omega)]
        · rfl
        · intro j hj
          have h1 := hkb j (by omega)
          have h2 : ((j + 1 : Nat) : Int) * z = (j : Int) * z + z := by rw [Int.natCast_add, Int.add_mul]; simp
          have h3 : ((j + 1 : Nat) : Int) * z ≤ (k : Int) * z := Int.mul_le_mul_of_nonneg_right (by omega) (by omega)
          have h4 : (j : Int) * z < q.1 := by rw [hk]; omega
          have hn : addM xs ⟨(j : Int) * z, z, 0, 0⟩ = ([], false) := by unfold addM; rw [hg, hno j hj]; rfl
          simp only [h4, decide_true, cond_true, (add_is xs ⟨(j : Int) * z, z, 0, 0⟩ (by omega)).2, hn, Option.bind_some, cond_false, h2]
          rw [w64_id (by omega) (by omega)]
        · have h4 : ¬ ((k : Int) * z < q.1) := by rw [hk]; omega
          simp only [h4, decide_false, cond_false]
    have hB : (bif (addM ys r).2 then (Option.bind (M.i_IsRegion r) fun r5896 => some (!r5896)) else some false) = some false := by
      unfold addM
      cases hc : (goodM ys && goodM (addR ys r)) with
      | false => rfl
      | true =>
        rw [Bool.and_eq_true] at hc
        simp only [cond_true, i_one, Option.bind_some, goodM_mem hc.2 ((addR_perm ys r).mem_iff.2 List.mem_cons_self), Bool.not_true]
    have hC : (bif (moveM x3 n3 b3).2 then (Option.bind (M.i_FindRegion (moveM x3 n3 b3).1 b3) fun r6340 =>
      Option.bind (gxIdx x3 n3) fun y6344 =>
      Option.bind (M.i_MoveRegion (moveM x3 n3 b3).1 r6340.1 y6344.Base) fun r6345 =>
      Option.bind (α := Bool) (bif !r6340.2 then some true
      else (bif !r6345.2 then some true
      else (Option.bind (M.l_rRegions r6345.1 x3) fun r6365 =>
      some (!r6365)))) fun o6360 =>
      bif o6360 then some (.inr false)
      else some (.inl ()))
      else some (.inl ()) : Option (Unit ⊕ Bool)) = some (.inl ()) := by
      cases hc : (moveM x3 n3 b3).2 with
      | false => rfl
      | true =>
        obtain ⟨k, hk, rfl, hg, hf0, hmb⟩ := move_back hc
        have hml := moveM_len x3 (k : Int) b3 (by omega)
        have hge : decide (0 ≤ findR (moveM x3 (k : Int) b3).1 b3) = true := decide_eq_true hf0
        simp only [cond_true, i_FindRegion_is (moveM x3 (k : Int) b3).1 b3 (by omega), hg, hge, Bool.and_self, gxIdx_nat hk, (move_is (moveM x3 (k : Int) b3).1 (findR (moveM x3 (k : Int) b3).1 b3) x3[k].Base (by omega)).2, hmb, rRegions_refl x3 (by omega), Option.bind_some, Bool.not_true, cond_false]
    simp only [cond_false, hd, hd2, hd3, hd4, hq1, hq2, Option.bind_some, bne_self_eq_false, beq_self_eq_true, Bool.not_true, cond_true]
    rw [hA]
    simp only [Option.bind_some, Sum.elim_inl, ha.1, ha.2, hra, beq_self_eq_true, Bool.not_true, cond_false, hB, hm.1, hm.2, hrm, hf.1, hf.2, cond_true]
    rw [hC]
    simp only [Option.bind_some, Sum.elim_inl, hf.1, hf.2, hd4, beq_self_eq_true, cond_true]

end Go.Proofs.Ytphinfkojhecdaa
