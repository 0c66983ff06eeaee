/- Plain laws of the models: no program in sight. -/
import Derived.Test.YtimffallbjpcjaaGreatDoorM
import Derived.Test.YtimffallbjpcjaaGreatDoorL5
set_option linter.unusedVariables false
set_option linter.unusedSimpArgs false
set_option maxHeartbeats 4000000
namespace Go.Proofs.YtimffallbjpcjaaGreatDoor
open Go.Gx
/-! ### Texts of events read back -/
theorem resP_is (e : Event) (s : ByteArray) : resP e s = (zE, false) ∨ (oneE e = true ∧ txtE e = s ∧ resP e s = (e, true)) := by
  unfold resP
  cases h : (oneE e && decide (txtE e = s)) with
  | false => exact Or.inl rfl
  | true =>
    simp only [Bool.and_eq_true, decide_eq_true_eq] at h
    exact Or.inr ⟨h.1, h.2, rfl⟩
theorem resP_own {e : Event} (h : oneE e = true) : resP e (txtE e) = (e, true) := by
  unfold resP
  simp only [h, decide_true, Bool.and_self, cond_true]
theorem sP_is (s : ByteArray) (ps : List ByteArray) : sP s ps = (zE, false) ∨ ∃ e, oneE e = true ∧ txtE e = s ∧ sP s ps = (e, true) := by
  have key : ∀ e, resP e s = (zE, false) ∨ ∃ e', oneE e' = true ∧ txtE e' = s ∧ resP e s = (e', true) := fun e => by
    rcases resP_is e s with h | ⟨h1, h2, h3⟩
    · exact Or.inl h
    · exact Or.inr ⟨e, h1, h2, h3⟩
  unfold sP
  cases decide ((s.size : Int) > 40) with
  | true => exact Or.inl rfl
  | false =>
    simp only [cond_false]
    split
    · rename_i a b c
      cases decide (b = gst) with
      | true => exact Or.inl rfl
      | false => exact key _
    · rename_i a b c d
      cases decide (b = gst) <;> exact key _
    · rename_i a b c d e
      cases decide (b = gst) with
      | true => exact key _
      | false => exact Or.inl rfl
    · exact Or.inl rfl
theorem iP_is (s : ByteArray) (ps : List ByteArray) : iP s ps = (zE, false) ∨ ∃ e, oneE e = true ∧ txtE e = s ∧ iP s ps = (e, true) := by
  have key : ∀ a c d e, iQ s a c d e = (zE, false) ∨ ∃ e', oneE e' = true ∧ txtE e' = s ∧ iQ s a c d e = (e', true) := fun a c d e => by
    unfold iQ
    cases (gxParse a).2 && ((gxParse c).2 && (gxParse e).2) with
    | false => exact Or.inl rfl
    | true =>
      rcases resP_is ⟨(gxParse a).1, (gxParse c).1, d, (gxParse e).1⟩ s with h | ⟨h1, h2, h3⟩
      · exact Or.inl h
      · exact Or.inr ⟨_, h1, h2, h3⟩
  unfold iP
  split
  · exact key _ _ _ _
  · exact key _ _ _ _
  · exact Or.inl rfl
def gstL : List UInt8 := [103, 117, 101, 115, 116]
def macL : List UInt8 := [109, 97, 99, 104, 105, 110, 101]
def tailL (e : Event) : List UInt8 := e.Kind.data.toList ++ (if e.Value > 0 then 32 :: Lib.decDigits e.Value.toNat else [])
def midL (e : Event) : List UInt8 := if e.Guest > 0 then 32 :: (gstL ++ 32 :: (Lib.decDigits e.Guest.toNat ++ 32 :: tailL e)) else oldM ++ tailL e
theorem txt_list {e : Event} (h : oneE e = true) : (txtE e).data.toList = Lib.decDigits e.Tick.toNat ++ midL e := by
  unfold oneE at h
  simp only [Bool.and_eq_true, decide_eq_true_eq] at h
  obtain ⟨⟨t0, t1⟩, ⟨g0, g1⟩, ⟨_, k0, k1⟩, v0, v1⟩ := h
  unfold txtE midL tailL
  by_cases hg : e.Guest > 0 <;> by_cases hv : e.Value > 0 <;>
    simp only [hg, hv, decide_true, decide_false, cond_true, cond_false, if_true, if_false, ba_app, itoa_list t0, itoa_list g0, itoa_list v0, gstL, oldM] <;> simp
theorem no32_dec (n : Nat) (h : n ≤ 100000) : (32 : UInt8) ∉ Lib.decDigits n := fun hm => by
  have := dec_digit 6 n (by omega) 32 hm
  simp at this
theorem no32_kind {k : ByteArray} (h : lowS k = true) : (32 : UInt8) ∉ k.data.toList := fun hm => by
  obtain ⟨i, hi, he⟩ := List.mem_iff_getElem.1 hm
  unfold lowS at h
  have h2 := List.all_eq_true.1 h i (by
    rw [List.mem_range, ← size_list]
    exact hi)
  rw [byteN_list hi, he] at h2
  simp at h2
theorem cut_tail {e : Event} (h : oneE e = true) : cutL (tailL e) = if e.Value > 0 then [e.Kind.data.toList, Lib.decDigits e.Value.toNat] else [e.Kind.data.toList] := by
  unfold oneE at h
  simp only [Bool.and_eq_true, decide_eq_true_eq] at h
  obtain ⟨⟨t0, t1⟩, ⟨g0, g1⟩, ⟨hk, k0, k1⟩, v0, v1⟩ := h
  unfold tailL
  split
  · rw [cut_app (no32_kind hk), cut_none (no32_dec _ (by omega))]
  · rw [List.append_nil, cut_none (no32_kind hk)]
theorem mk_dec {n : Int} (h : 0 ≤ n) : mkB (Lib.decDigits n.toNat) = gxItoa n := by
  rw [← itoa_list h, mkB_data]
theorem txt_size {e : Event} (h : oneE e = true) : (txtE e).size ≤ 40 := by
  rw [ba_size, txt_list h]
  unfold oneE at h
  simp only [Bool.and_eq_true, decide_eq_true_eq] at h
  obtain ⟨⟨t0, t1⟩, ⟨g0, g1⟩, ⟨hk, k0, k1⟩, v0, v1⟩ := h
  have d1 := digits_len' 5 e.Tick.toNat (by omega)
  have d2 := digits_len' 5 e.Guest.toNat (by omega)
  have d3 := digits_len' 5 e.Value.toNat (by omega)
  have kz := size_list e.Kind
  have z1 : gstL.length = 5 := rfl
  have z2 : oldM.length = 9 := rfl
  unfold midL tailL
  split <;> split <;> simp only [List.length_append, List.length_cons, List.length_nil, z1, z2] <;> omega
def fine (s : ByteArray) : Prop := ¬ ((117 : UInt8) ∈ s.data.toList ∧ (99 : UInt8) ∈ s.data.toList)
theorem s_valid {e : Event} (h : oneE e = true) : M.s_ParseEvent (txtE e) = some (e, true) := by
  have hz := txt_size h
  rw [s_parse _ (by omega)]
  congr 1
  have ho := resP_own h
  have hl := txt_list h
  have hc := cut_tail h
  have h' := h
  unfold oneE at h
  simp only [Bool.and_eq_true, decide_eq_true_eq] at h
  obtain ⟨⟨t0, t1⟩, ⟨g0, g1⟩, ⟨hk, k0, k1⟩, v0, v1⟩ := h
  rw [hl]
  have n1 := no32_dec e.Tick.toNat (by omega)
  have n2 := no32_dec e.Guest.toNat (by omega)
  have n3 : (32 : UInt8) ∉ gstL := by decide
  have n4 : (32 : UInt8) ∉ macL := by decide
  have r1 : ∀ n : Int, 0 ≤ n → n ≤ 100000 → rd (gxItoa n) = (n, true) := fun n a b => by
    obtain ⟨k, rfl⟩ : ∃ k : Nat, n = k := ⟨n.toNat, by omega⟩
    unfold rd
    rw [s_read_dec k (by omega)]
    rfl
  have c0 : decide (((txtE e).size : Int) > 40) = false := by
    rw [decide_eq_false_iff_not]
    omega
  have b1 : decide (mkB gstL = gst) = true := by decide
  have b2 : decide (mkB macL = gst) = false := by decide
  unfold midL
  by_cases hg : e.Guest > 0
  · rw [if_pos hg, cut_app n1, cut_app n3, cut_app n2, hc]
    by_cases hv : e.Value > 0
    · rw [if_pos hv]
      simp only [List.map_cons, List.map_nil, sP, c0, cond_false, b1, cond_true, mk_dec t0, mk_dec g0, mk_dec v0, mkB_data, r1 _ t0 t1, r1 _ g0 (by omega), r1 _ v0 (by omega)]
      exact ho
    · rw [if_neg hv]
      have hv0 : e.Value = 0 := by omega
      simp only [List.map_cons, List.map_nil, sP, c0, cond_false, b1, cond_true, mk_dec t0, mk_dec g0, mkB_data, r1 _ t0 t1, r1 _ g0 (by omega)]
      rw [← hv0]
      exact ho
  · have hg0 : e.Guest = 0 := by omega
    have ho2 : oldM ++ tailL e = 32 :: (macL ++ 32 :: tailL e) := rfl
    rw [if_neg hg, ho2, cut_app n1, cut_app n4, hc]
    by_cases hv : e.Value > 0
    · rw [if_pos hv]
      simp only [List.map_cons, List.map_nil, sP, c0, cond_false, b2, mk_dec t0, mk_dec v0, mkB_data, r1 _ t0 t1, r1 _ v0 (by omega)]
      rw [← hg0]
      exact ho
    · rw [if_neg hv]
      have hv0 : e.Value = 0 := by omega
      simp only [List.map_cons, List.map_nil, sP, c0, cond_false, b2, mk_dec t0, mkB_data, r1 _ t0 t1]
      have he : (⟨e.Tick, 0, e.Kind, 0⟩ : Event) = e := by
        cases e
        simp only at hg0 hv0
        subst hg0 hv0
        rfl
      rw [he]
      exact ho
theorem i_valid {e : Event} (h : oneE e = true) (hf : fine (txtE e)) : M.i_ParseEvent (txtE e) = some (e, true) := by
  have hz := txt_size h
  rw [i_parse _ (by omega)]
  congr 1
  have ho := resP_own h
  have hl := txt_list h
  have hc := cut_tail h
  have h' := h
  unfold oneE at h
  simp only [Bool.and_eq_true, decide_eq_true_eq] at h
  obtain ⟨⟨t0, t1⟩, ⟨g0, g1⟩, ⟨hk, k0, k1⟩, v0, v1⟩ := h
  unfold fine at hf
  rw [hl] at hf
  rw [hl]
  have n1 := no32_dec e.Tick.toNat (by omega)
  have n2 := no32_dec e.Guest.toNat (by omega)
  have n3 : (32 : UInt8) ∉ gstL := by decide
  have n5 : (32 : UInt8) ∉ ([48] : List UInt8) := by decide
  have r1 : ∀ n : Int, 0 ≤ n → n ≤ 100000 → gxParse (gxItoa n) = (n, true) := fun n a b => by
    obtain ⟨k, rfl⟩ : ∃ k : Nat, n = k := ⟨n.toNat, by omega⟩
    exact i_read_dec k (by omega)
  have rz : gxParse zz = (0, true) := by
    have e0 : zz = gxItoa 0 := by
      refine ba_ext ?_
      rw [itoa_list (by omega)]
      simp [zz, Lib.decDigits]
    rw [e0]
    exact r1 0 (by omega) (by omega)
  by_cases hg : e.Guest > 0
  · have h99 : (99 : UInt8) ∉ Lib.decDigits e.Tick.toNat ++ midL e := fun h9 => hf ⟨by
      unfold midL
      rw [if_pos hg]
      simp [gstL], h9⟩
    rw [repl_none h99]
    unfold midL
    rw [if_pos hg, cut_app n1, cut_app n3, cut_app n2, hc]
    by_cases hv : e.Value > 0
    · rw [if_pos hv]
      simp only [List.map_cons, List.map_nil, iP, iQ, mk_dec t0, mk_dec g0, mk_dec v0, mkB_data, r1 _ t0 t1, r1 _ g0 (by omega), r1 _ v0 (by omega), Bool.and_self, cond_true]
      exact ho
    · rw [if_neg hv]
      have hv0 : e.Value = 0 := by omega
      simp only [List.map_cons, List.map_nil, iP, iQ, mk_dec t0, mk_dec g0, mkB_data, r1 _ t0 t1, r1 _ g0 (by omega), rz, Bool.and_self, cond_true]
      rw [← hv0]
      exact ho
  · have hg0 : e.Guest = 0 := by omega
    unfold midL
    rw [if_neg hg, repl_hit n1]
    have ho2 : newM ++ tailL e = 32 :: (gstL ++ 32 :: ([48] ++ 32 :: tailL e)) := rfl
    have hzz : mkB [48] = zz := rfl
    rw [ho2, cut_app n1, cut_app n3, cut_app n5, hc]
    by_cases hv : e.Value > 0
    · rw [if_pos hv]
      simp only [List.map_cons, List.map_nil, iP, iQ, mk_dec t0, mk_dec v0, mkB_data, r1 _ t0 t1, r1 _ v0 (by omega), hzz, rz, Bool.and_self, cond_true]
      rw [← hg0]
      exact ho
    · rw [if_neg hv]
      have hv0 : e.Value = 0 := by omega
      simp only [List.map_cons, List.map_nil, iP, iQ, mk_dec t0, mkB_data, r1 _ t0 t1, hzz, rz, Bool.and_self, cond_true]
      have he : (⟨e.Tick, 0, e.Kind, 0⟩ : Event) = e := by
        cases e
        simp only at hg0 hv0
        subst hg0 hv0
        rfl
      rw [he]
      exact ho
theorem Parse_eq (s : ByteArray) (hs : s.size ≤ 100000) (hf : fine s) : ∃ r, M.s_ParseEvent s = some r ∧ M.i_ParseEvent s = some r := by
  by_cases hx : ∃ e, oneE e = true ∧ txtE e = s
  · obtain ⟨e, he, rfl⟩ := hx
    exact ⟨_, s_valid he, i_valid he hf⟩
  · refine ⟨(zE, false), ?_, ?_⟩
    · rw [s_parse s hs]
      rcases sP_is s ((cutL s.data.toList).map mkB) with h | ⟨e, h1, h2, _⟩
      · rw [h]
      · exact absurd ⟨e, h1, h2⟩ hx
    · rw [i_parse s hs]
      rcases iP_is s ((cutL (Lib.replace s.data.toList oldM newM 1)).map mkB) with h | ⟨e, h1, h2, _⟩
      · rw [h]
      · exact absurd ⟨e, h1, h2⟩ hx

end Go.Proofs.YtimffallbjpcjaaGreatDoor
