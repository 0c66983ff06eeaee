/- Plain laws of the models: no program in sight. -/
import Derived.Test.YtphinfkojhecdaaM
import Derived.Test.YtphinfkojhecdaaL9
set_option linter.unusedVariables false
set_option linter.unusedSimpArgs false
set_option maxHeartbeats 4000000
namespace Go.Proofs.Ytphinfkojhecdaa
open Go.Gx
theorem div_off {n : Int} {off w : Int} (hw : 0 < w) : True := trivial
/-- The parts are routed, one behind the other. -/
theorem part_route (xs : List Region) (a : Access) (hg : goodM xs = true) (ha : okAcc a = true) (hm : a.Address % a.Width = 0) (hf : ¬ (findR xs a.Address < 0)) (hn : ¬ ((wideR (xs.getD (findR xs a.Address).toNat gR).Kind a.Width).2 = 0)) :
    ∀ j, j < (wideR (xs.getD (findR xs a.Address).toNat gR).Kind a.Width).2 →
      let w := (wideR (xs.getD (findR xs a.Address).toNat gR).Kind a.Width).1
      w64 (a.Address + ((j * w : Nat) : Int)) = a.Address + ((j * w : Nat) : Int) ∧ (∃ u o, routeR xs ⟨w64 (a.Address + ((j * w : Nat) : Int)), (w : Int), a.Store⟩ = (u, o, 0, true)) := by
  obtain ⟨i, hi, hfi, hb1, hb2, hk⟩ := in_region hg ha hm hf
  have hs := acc_spec ha
  have s1 := oneR_spec (goodM_mem hg (List.getElem_mem hi))
  rw [hfi, Int.toNat_natCast, getD_at hi] at hn ⊢
  intro j hj
  simp only
  -- the part lies in the region
  have hin : ∀ (w : Nat), w = 1 ∨ w = 2 ∨ w = 4 → ((j : Int) + 1) * w ≤ a.Width → a.Address % (w : Int) = 0 → allowsR xs[i] (w : Int) = true →
      w64 (a.Address + ((j * w : Nat) : Int)) = a.Address + ((j * w : Nat) : Int) ∧ (∃ u o, routeR xs ⟨w64 (a.Address + ((j * w : Nat) : Int)), (w : Int), a.Store⟩ = (u, o, 0, true)) := by
    intro w hw hle hal hall
    have hjw : ((j * w : Nat) : Int) = (j : Int) * w := Int.natCast_mul j w
    have hle2 : (j : Int) * w + w ≤ a.Width := by rw [Int.add_mul, Int.one_mul] at hle; exact hle
    have hpos : 0 ≤ (j : Int) * w := Int.mul_nonneg (by omega) (by omega)
    have e : w64 (a.Address + ((j * w : Nat) : Int)) = a.Address + ((j * w : Nat) : Int) := by
      rw [hjw, w64_id (by omega) (by omega)]
    refine ⟨e, ?_⟩
    rw [e]
    have hfj : findR xs (a.Address + ((j * w : Nat) : Int)) = (i : Int) := find_in hg hi (by rw [hjw]; omega)
    have hsz : xs[i].Base + xs[i].Size ≤ 65536 := by
      have hc := pow_cases (show powS xs[i].Size = true from by
        have := goodM_mem hg (List.getElem_mem hi)
        unfold oneR at this
        simp only [Bool.and_eq_true] at this
        exact this.1)
      rcases hc with hc | hc | hc | hc | hc | hc | hc | hc | hc | hc | hc <;> rw [hc] at s1 ⊢ <;> omega
    have hacc : okAcc ⟨a.Address + ((j * w : Nat) : Int), (w : Int), a.Store⟩ = true := by
      unfold okAcc inB
      rw [hjw]
      have h1 : (decide (0 ≤ a.Address + (j : Int) * w) && decide (a.Address + (j : Int) * w ≤ 65535)) = true := by
        simp only [Bool.and_eq_true, decide_eq_true_eq]
        omega
      simp only [h1, Bool.true_and]
      rcases hw with rfl | rfl | rfl <;> rfl
    have hmod : (a.Address + ((j * w : Nat) : Int)) % (w : Int) = 0 := by
      rw [hjw, Int.add_mul_emod_self_right]
      exact hal
    unfold routeR
    have hnn : ¬ ((i : Int) < 0) := by omega
    have hz : ((0 : Int) != 0) = false := rfl
    simp only [hg, hacc, Bool.and_self, cond_true, hmod, hz, cond_false, hfj, hnn, decide_false, Int.toNat_natCast, getD_at hi, hall]
    exact ⟨_, _, rfl⟩
  have hal : ∀ r : Region, ∀ w : Int, allowsR r w = (r.Kind == 3 || w == 2 ^ r.Kind.toNat) := fun _ _ => rfl
  rcases hk with hk | hk | hk | hk <;> rcases hs.2 with hw | hw | hw <;> rw [hk, hw] at hj ⊢ <;> rw [hw] at hm
  · exact hin 1 (Or.inl rfl) (by rw [hw]; simp [wideR] at hj; omega) (by omega) (by rw [hal, hk]; rfl)
  · exact hin 1 (Or.inl rfl) (by rw [hw]; simp [wideR] at hj; omega) (by omega) (by rw [hal, hk]; rfl)
  · exact hin 1 (Or.inl rfl) (by rw [hw]; simp [wideR] at hj; omega) (by omega) (by rw [hal, hk]; rfl)
  · simp [wideR] at hj
  · exact hin 2 (Or.inr (Or.inl rfl)) (by rw [hw]; simp [wideR] at hj; omega) (by omega) (by rw [hal, hk]; rfl)
  · exact hin 2 (Or.inr (Or.inl rfl)) (by rw [hw]; simp [wideR] at hj; omega) (by omega) (by rw [hal, hk]; rfl)
  · simp [wideR] at hj
  · simp [wideR] at hj
  · exact hin 4 (Or.inr (Or.inr rfl)) (by rw [hw]; simp [wideR] at hj; omega) (by omega) (by rw [hal, hk]; rfl)
  · exact hin 1 (Or.inl rfl) (by rw [hw]; simp [wideR] at hj; omega) (by omega) (by rw [hal, hk]; rfl)
  · exact hin 2 (Or.inr (Or.inl rfl)) (by rw [hw]; simp [wideR] at hj; omega) (by omega) (by rw [hal, hk]; rfl)
  · exact hin 4 (Or.inr (Or.inr rfl)) (by rw [hw]; simp [wideR] at hj; omega) (by omega) (by rw [hal, hk]; rfl)
/-- The parts reach as far as the access. -/
theorem wide_all (k wd : Int) (hk : k = 0 ∨ k = 1 ∨ k = 2 ∨ k = 3) (hw : wd = 1 ∨ wd = 2 ∨ wd = 4) : (wideR k wd).2 = 0 ∨ (((wideR k wd).2 * (wideR k wd).1 : Nat) : Int) = wd := by
  rcases hk with rfl | rfl | rfl | rfl <;> rcases hw with rfl | rfl | rfl <;> simp [wideR]
theorem wide_one (r : Region) (wd : Int) (hk : r.Kind = 0 ∨ r.Kind = 1 ∨ r.Kind = 2 ∨ r.Kind = 3) (hw : wd = 1 ∨ wd = 2 ∨ wd = 4) (ha : allowsR r wd = true) : (wideR r.Kind wd).2 = 1 := by
  unfold allowsR at ha
  rcases hk with hk | hk | hk | hk <;> rw [hk] at ha ⊢ <;> rcases hw with rfl | rfl | rfl <;> simp [wideR] at ha ⊢
theorem parts_len (ad wd : Int) (st : Bool) (w n : Nat) : (partsR ad wd st w n).length = n := by simp [partsR]
theorem parts_at (ad wd : Int) (st : Bool) (w n : Nat) {j : Nat} (h : j < (partsR ad wd st w n).length) : (partsR ad wd st w n)[j] = ⟨w64 (ad + ((j * w : Nat) : Int)), w, st⟩ := by simp [partsR]
/-- The loop over the parts ends behind the access. -/
theorem parts_loop (xs : List Region) (a : Access) (hl : xs.length ≤ 1048576) (w n : Nat) (hn : n ≤ 4) (hw : w ≤ 4) (had : 0 ≤ a.Address ∧ a.Address ≤ 65535)
    (hp : ∀ j, j < n → w64 (a.Address + ((j * w : Nat) : Int)) = a.Address + ((j * w : Nat) : Int) ∧ (∃ u o, routeR xs ⟨w64 (a.Address + ((j * w : Nat) : Int)), (w : Int), a.Store⟩ = (u, o, 0, true))) :
    whileM (σ := Int × Int) (ρ := (Int) ⊕ (Bool)) (fun s9555 =>
    bif decide (s9555.2 < ((partsR a.Address a.Width a.Store w n).length : Int)) then (Option.bind (gxIdx (partsR a.Address a.Width a.Store w n) s9555.2) fun y9567 =>
    Option.bind (M.i_RouteAccess xs y9567) fun r9568 =>
    Option.bind (α := Bool) (bif !r9568.2.2.2 then some true
    else (bif r9568.2.2.1 != 0 then some true
    else (Option.bind (gxIdx (partsR a.Address a.Width a.Store w n) s9555.2) fun y9594 =>
    bif y9594.Address != s9555.1 then some true
    else (Option.bind (gxIdx (partsR a.Address a.Width a.Store w n) s9555.2) fun y9598 =>
    some (!(y9598.Store == a.Store)))))) fun o9585 =>
    bif o9585 then some (.inr (.inr false))
    else (Option.bind (gxIdx (partsR a.Address a.Width a.Store w n) s9555.2) fun y9606 =>
    some (.inl (w64 (s9555.1 + y9606.Width), w64 (s9555.2 + 1)))))
    else some (.inr (.inl s9555.1))) gxFuel (a.Address, 0) = some (.inl (a.Address + ((n * w : Nat) : Int))) := by
  refine while_run (fun j => (a.Address + ((j * w : Nat) : Int), (j : Int))) _ n (by simp) (by omega) (fun j hj => ?_) ?_
  · have hjl : j < (partsR a.Address a.Width a.Store w n).length := by rw [parts_len]; exact hj
    have e0 : ((j : Int) < ((partsR a.Address a.Width a.Store w n).length : Int)) := by omega
    obtain ⟨h1, u, o, h2⟩ := hp j hj
    rw [h1] at h2
    have hm : ((j * w : Nat) : Int) ≤ 16 := by
      have : j * w ≤ 4 * 4 := Nat.mul_le_mul (by omega) hw
      omega
    have hs : (((j + 1) * w : Nat) : Int) = ((j * w : Nat) : Int) + (w : Int) := by rw [Nat.add_mul, Nat.one_mul]; omega
    have e3 : w64 (a.Address + ((j * w : Nat) : Int) + (w : Int)) = a.Address + (((j + 1) * w : Nat) : Int) := by rw [w64_id (by omega) (by omega), hs]; omega
    simp only [e0, decide_true, cond_true, gxIdx_nat hjl, parts_at, Option.bind_some, (route_is xs _ hl).2, h2, Bool.not_true, cond_false, bne_self_eq_false, h1, beq_self_eq_true, w64_succ (show j ≤ 4611686018427387904 by omega), e3]
  · rw [parts_len]
    simp only [Int.lt_irrefl, decide_false, cond_false]
theorem plain_FnBus (code : List Int) (h : okL okU code) : M.l_FnBus code = some true := by
  unfold M.l_FnBus M.l_rBig
  rw [Option.bind_some]
  cases hbig : decide ((code.length : Int) > 65536) with
  | true => rfl
  | false =>
    obtain ⟨d, hd, hdl⟩ := drawRoute_ok code h
    obtain ⟨d2, hd2, hd2l⟩ := drawUnits_ok code h
    obtain ⟨d3, hd3, hd3l⟩ := drawFind_ok code h
    obtain ⟨xs, a⟩ := d
    simp only at hdl
    have hr := route_is xs a (by omega)
    have hf := FindRegion_eq xs a.Address (by omega)
    have hs := split_is xs a (by omega)
    obtain ⟨u, hu1, hu2, hu3⟩ := UnitsBetween_eq d2.1 d2.2.1 d2.2.2 (by omega)
    have hri := rInts_refl u.1 (by omega)
    have hf3 := FindRegion_eq d3.1 d3.2 (by omega)
    simp only [cond_false, hd, hd2, hd3, hr.1, hr.2, hf.1, hf.2, hs.1, hs.2, hu1, hu2, hri, hf3.1, hf3.2, Option.bind_some, bne_self_eq_false, beq_self_eq_true, Bool.not_true, cond_true]
    -- what is known of the access
    have hmain : (bif (routeR xs a).2.2.2 then (bif (routeR xs a).2.2.1 == 0 then (bif !(bif goodM xs && decide (0 ≤ findR xs a.Address) then (findR xs a.Address, true) else (0, false)).2 then some true
      else (Option.bind (gxIdx xs (bif goodM xs && decide (0 ≤ findR xs a.Address) then (findR xs a.Address, true) else (0, false)).1) fun y9425 =>
      bif (routeR xs a).1 != y9425.Unit then some true
      else (Option.bind (gxIdx xs (bif goodM xs && decide (0 ≤ findR xs a.Address) then (findR xs a.Address, true) else (0, false)).1) fun y9429 =>
      bif (w64 (y9429.Base + (routeR xs a).2.1)) != a.Address then some true
      else (Option.bind (gxIdx xs (bif goodM xs && decide (0 ≤ findR xs a.Address) then (findR xs a.Address, true) else (0, false)).1) fun y9433 =>
      some (decide ((w64 ((routeR xs a).2.1 + a.Width)) > y9433.Size))))))
      else some false)
      else some false) = some false ∧ ((routeR xs a).2.2.2 = true → (routeR xs a).2.2.1 = 0 → (splitR xs a).1.length = 1) := by
      unfold routeR splitR
      cases hg : goodM xs with
      | false => exact ⟨rfl, fun h => by cases h⟩
      | true => cases ha : okAcc a with
        | false => exact ⟨rfl, fun h => by cases h⟩
        | true =>
          cases hm : (a.Address % a.Width != 0) with
          | true => exact ⟨rfl, fun _ h => by cases h⟩
          | false =>
            have hm' : a.Address % a.Width = 0 := by simpa [bne] using hm
            by_cases hfr : findR xs a.Address < 0
            · simp only [hfr, decide_true, Bool.and_self, cond_true, cond_false]
              exact ⟨rfl, fun _ h => by cases h⟩
            · obtain ⟨i, hi, hfi, hb1, hb2, hk⟩ := in_region hg ha hm' hfr
              have hsp := acc_spec ha
              have s1 := oneR_spec (goodM_mem hg (List.getElem_mem hi))
              have hnn : ¬ ((i : Int) < 0) := by omega
              have hge : (0 : Int) ≤ (i : Int) := by omega
              simp only [hfi, hnn, hge, hm', decide_true, decide_false, Bool.and_self, cond_true, cond_false, Int.toNat_natCast, getD_at hi, beq_self_eq_true]
              cases hal : allowsR xs[i] a.Width with
              | false => exact ⟨rfl, fun _ h => by cases h⟩
              | true =>
                have e1 : w64 (a.Address - xs[i].Base) = a.Address - xs[i].Base := w64_id (by omega) (by omega)
                have e2 : w64 (xs[i].Base + (a.Address - xs[i].Base)) = a.Address := by rw [w64_id (by omega) (by omega)]; omega
                have e3 : ¬ (w64 (a.Address - xs[i].Base + a.Width) > xs[i].Size) := by rw [w64_id (by omega) (by omega)]; omega
                have hone := wide_one xs[i] a.Width hk hsp.2 hal
                have hone' : ¬ ((wideR xs[i].Kind a.Width).2 = 0) := by omega
                simp only [cond_true, gxIdx_nat hi, Option.bind_some, e1, e2, e3, bne_self_eq_false, cond_false, decide_false, Bool.not_true, beq_self_eq_true, hone', parts_len]
                exact ⟨trivial, fun _ _ => hone⟩
    rw [hmain.1]
    simp only [Option.bind_some, cond_false]
    -- the parts
    have hparts : ∃ at_, whileM (σ := Int × Int) (ρ := (Int) ⊕ (Bool)) (fun s9555 =>
        bif decide (s9555.2 < ((splitR xs a).1.length : Int)) then (Option.bind (gxIdx (splitR xs a).1 s9555.2) fun y9567 =>
        Option.bind (M.i_RouteAccess xs y9567) fun r9568 =>
        Option.bind (α := Bool) (bif !r9568.2.2.2 then some true
        else (bif r9568.2.2.1 != 0 then some true
        else (Option.bind (gxIdx (splitR xs a).1 s9555.2) fun y9594 =>
        bif y9594.Address != s9555.1 then some true
        else (Option.bind (gxIdx (splitR xs a).1 s9555.2) fun y9598 =>
        some (!(y9598.Store == a.Store)))))) fun o9585 =>
        bif o9585 then some (.inr (.inr false))
        else (Option.bind (gxIdx (splitR xs a).1 s9555.2) fun y9606 =>
        some (.inl (w64 (s9555.1 + y9606.Width), w64 (s9555.2 + 1)))))
        else some (.inr (.inl s9555.1))) gxFuel (a.Address, 0) = some (.inl at_) ∧ ((splitR xs a).2 = true → at_ = w64 (a.Address + a.Width)) := by
      have hnil : ∀ b : Bool, splitR xs a = ([], b) → b = false → ∃ at_, whileM (σ := Int × Int) (ρ := (Int) ⊕ (Bool)) (fun s9555 =>
        bif decide (s9555.2 < ((splitR xs a).1.length : Int)) then (Option.bind (gxIdx (splitR xs a).1 s9555.2) fun y9567 =>
        Option.bind (M.i_RouteAccess xs y9567) fun r9568 =>
        Option.bind (α := Bool) (bif !r9568.2.2.2 then some true
        else (bif r9568.2.2.1 != 0 then some true
        else (Option.bind (gxIdx (splitR xs a).1 s9555.2) fun y9594 =>
        bif y9594.Address != s9555.1 then some true
        else (Option.bind (gxIdx (splitR xs a).1 s9555.2) fun y9598 =>
        some (!(y9598.Store == a.Store)))))) fun o9585 =>
        bif o9585 then some (.inr (.inr false))
        else (Option.bind (gxIdx (splitR xs a).1 s9555.2) fun y9606 =>
        some (.inl (w64 (s9555.1 + y9606.Width), w64 (s9555.2 + 1)))))
        else some (.inr (.inl s9555.1))) gxFuel (a.Address, 0) = some (.inl at_) ∧ ((splitR xs a).2 = true → at_ = w64 (a.Address + a.Width)) := by
        intro b hb hbf
        rw [hb, hbf]
        exact ⟨a.Address, while_run (fun i => (a.Address, (i : Int))) _ 0 rfl (by omega) (fun i hi => by omega) rfl, fun h => by cases h⟩
      by_cases hall : goodM xs = true ∧ okAcc a = true ∧ a.Address % a.Width = 0 ∧ 0 ≤ findR xs a.Address
      · obtain ⟨hg, ha, hm, hfr⟩ := hall
        have hfr' : ¬ (findR xs a.Address < 0) := by omega
        have hsp := acc_spec ha
        obtain ⟨i, hi, hfi, hb1, hb2, hk⟩ := in_region hg ha hm hfr'
        by_cases hz : (wideR (xs.getD (findR xs a.Address).toNat gR).Kind a.Width).2 = 0
        · refine hnil false ?_ rfl
          unfold splitR
          simp only [hg, ha, hm, hfr, hz, beq_self_eq_true, decide_true, Bool.and_self, cond_true]
        · have hspl : splitR xs a = (partsR a.Address a.Width a.Store (wideR (xs.getD (findR xs a.Address).toNat gR).Kind a.Width).1 (wideR (xs.getD (findR xs a.Address).toNat gR).Kind a.Width).2, true) := by
            unfold splitR
            simp only [hg, ha, hm, hfr, hz, beq_self_eq_true, decide_true, decide_false, Bool.and_self, cond_true, cond_false]
          have hpr := part_route xs a hg ha hm hfr' hz
          have hwa := wide_all (xs.getD (findR xs a.Address).toNat gR).Kind a.Width (by rw [hfi, Int.toNat_natCast, getD_at hi]; exact hk) hsp.2
          have hsmall : (wideR (xs.getD (findR xs a.Address).toNat gR).Kind a.Width).2 ≤ 4 ∧ (wideR (xs.getD (findR xs a.Address).toNat gR).Kind a.Width).1 ≤ 4 := by
            rw [hfi, Int.toNat_natCast, getD_at hi]
            rcases hk with hk | hk | hk | hk <;> rw [hk] <;> rcases hsp.2 with hw | hw | hw <;> rw [hw] <;> simp [wideR]
          generalize (wideR (xs.getD (findR xs a.Address).toNat gR).Kind a.Width).1 = w at *
          generalize (wideR (xs.getD (findR xs a.Address).toNat gR).Kind a.Width).2 = n at *
          rw [hspl]
          refine ⟨_, parts_loop xs a (by omega) w n hsmall.1 hsmall.2 hsp.1 hpr, fun _ => ?_⟩
          rcases hwa with hwa | hwa
          · exact absurd hwa hz
          · rw [hwa, w64_id (by omega) (by omega)]
      · refine hnil false ?_ rfl
        unfold splitR
        have : (goodM xs && (okAcc a && ((a.Address % a.Width == 0) && decide (0 ≤ findR xs a.Address)))) = false := by
          cases hg : goodM xs with
          | false => rfl
          | true => cases ha : okAcc a with
            | false => rfl
            | true =>
              simp only [Bool.true_and, Bool.and_eq_false_iff, decide_eq_false_iff_not]
              by_cases hm : a.Address % a.Width = 0
              · exact Or.inr fun hfr => hall ⟨hg, ha, hm, hfr⟩
              · exact Or.inl (by simpa using hm)
        rw [this]
        rfl
    obtain ⟨at_, hat, hat2⟩ := hparts
    rw [hat]
    simp only [Option.bind_some, Sum.elim_inl]
    have hlast : (bif (splitR xs a).2 then (bif at_ != (w64 (a.Address + a.Width)) then some true
      else (bif (routeR xs a).2.2.2 then (bif (routeR xs a).2.2.1 == 0 then some (((splitR xs a).1.length : Int) != 1)
      else some false)
      else some false))
      else (bif (routeR xs a).2.2.2 then (bif (routeR xs a).2.2.1 == 0 then some (((splitR xs a).1.length : Int) != 1)
      else some false)
      else some false)) = some false := by
      have hin : (bif (routeR xs a).2.2.2 then (bif (routeR xs a).2.2.1 == 0 then some (((splitR xs a).1.length : Int) != 1) else some false) else some false) = some false := by
        cases h1 : (routeR xs a).2.2.2 with
        | false => rfl
        | true =>
          cases h2 : ((routeR xs a).2.2.1 == 0) with
          | false => rfl
          | true =>
            have := hmain.2 h1 (by simpa using h2)
            rw [this]
            rfl
      rw [hin]
      cases hsp2 : (splitR xs a).2 with
      | false => rfl
      | true =>
        rw [hat2 hsp2]
        simp only [bne_self_eq_false, cond_false, cond_true]
    rw [hlast]
    simp only [Option.bind_some, cond_false]
end Go.Proofs.Ytphinfkojhecdaa
