/- Plain laws of the models: no program in sight. -/
import Derived.Test.YtimffallbjpcjaaGreatDoorM
import Derived.Test.YtimffallbjpcjaaGreatDoorL8
set_option linter.unusedVariables false
set_option linter.unusedSimpArgs false
set_option maxHeartbeats 4000000
namespace Go.Proofs.YtimffallbjpcjaaGreatDoor
open Go.Gx
/-! ### The law of events: what is drawn -/
def alph : ByteArray := ByteArray.mk #[48, 32, 103, 109, 49, 116]
def subT (r t : ByteArray) : Prop := ∀ b ∈ r.data.toList, b ∈ t.data.toList ∨ b ∈ alph.data.toList
theorem sub_fine {r t : ByteArray} (h : subT r t) (hf : fine t) : fine r := fun ⟨h1, h2⟩ => hf ⟨(h _ h1).resolve_right (by decide), (h _ h2).resolve_right (by decide)⟩
theorem SSub_ok {s : ByteArray} {l h : Int} (h0 : 0 ≤ l) (h1 : l ≤ h) (h2 : h ≤ s.size) : ∃ z, gxSSub s l h = some z ∧ (z.size : Int) = h - l ∧ ∀ b ∈ z.data.toList, b ∈ s.data.toList := by
  unfold gxSSub
  rw [if_pos ⟨h0, h1, h2⟩]
  refine ⟨_, rfl, ?_, fun b hb => ?_⟩
  · rw [ba_size, ext_data, List.length_take, List.length_drop, size_list]
    omega
  · rw [ext_data] at hb
    exact List.mem_of_mem_drop (List.mem_of_mem_take hb)
theorem mem_cat {a b : ByteArray} {x : UInt8} (h : x ∈ (a ++ b).data.toList) : x ∈ a.data.toList ∨ x ∈ b.data.toList := by
  rw [ba_app] at h
  exact List.mem_append.1 h
theorem spoilt_ok (c : l1Cur) (t : ByteArray) (n : Nat) (h : curI c n) (hn : n ≤ 1099510000000) (ht : t.size ≤ 1000) : ∃ r, M.s_l1Cur_spoilt c t (ByteArray.mk #[48, 32, 103, 109, 49, 116]) = some r ∧ r.1.size ≤ 1001 ∧ subT r.1 t := by
  show ∃ r, M.s_l1Cur_spoilt c t alph = some r ∧ r.1.size ≤ 1001 ∧ subT r.1 t
  have as : alph.size = 6 := rfl
  unfold M.s_l1Cur_spoilt
  rw [ba_beq]
  by_cases h0 : t = ByteArray.mk #[]
  · obtain ⟨z, hz, hs, hm⟩ := SSub_ok (s := alph) (l := 0) (h := 1) (by omega) (by omega) (by omega)
    simp only [h0, decide_true, cond_true, hz, Option.bind_some]
    exact ⟨_, rfl, by simp only; omega, fun b hb => Or.inr (hm b hb)⟩
  · have hp : 1 ≤ t.size := by
      cases hc : t.size with
      | zero =>
        exfalso
        apply h0
        refine ba_ext ?_
        rw [← size_list] at hc
        rw [List.eq_nil_of_length_eq_zero hc]
      | succ k => omega
    obtain ⟨a, ha, ha0, _, ha1, hac⟩ := pick_ok c (t.size : Int) n h (by omega) (by omega)
    have ha1 := ha1 (by omega)
    obtain ⟨d, hd, hd0, _, hd1, hdc⟩ := pick_ok ⟨c.code, a.2.1, a.2.2⟩ (alph.size : Int) _ hac (by omega) (by omega)
    have hd1 := hd1 (by omega)
    obtain ⟨e, he, _, _, _, hec⟩ := pick_ok ⟨c.code, d.2.1, d.2.2⟩ 3 _ hdc (by omega) (by omega)
    obtain ⟨z, hz, hzs, hzm⟩ := SSub_ok (s := alph) (l := d.1) (h := (alph.size : Int)) (by omega) (by omega) (by omega)
    obtain ⟨y, hy, hys, hym⟩ := SSub_ok (s := z) (l := 0) (h := 1) (by omega) (by omega) (by omega)
    obtain ⟨p, hp1, hps, hpm⟩ := SSub_ok (s := t) (l := 0) (h := a.1) (by omega) (by omega) (by omega)
    obtain ⟨q, hq1, hqs, hqm⟩ := SSub_ok (s := t) (l := a.1) (h := (t.size : Int)) (by omega) (by omega) (by omega)
    have ew : w64 (a.1 + 1) = a.1 + 1 := w64_id (by omega) (by omega)
    obtain ⟨u, hu1, hus, hum⟩ := SSub_ok (s := t) (l := a.1 + 1) (h := (t.size : Int)) (by omega) (by omega) (by omega)
    simp only [h0, decide_false, cond_false, ha, hd, he, hz, hy, hp1, hq1, ew, hu1, Option.bind_some]
    have c1 : gxSCat p y = some (p ++ y) := cat_ok (by omega)
    have c2 : gxSCat (p ++ y) q = some (p ++ y ++ q) := cat_ok (by rw [app_size]; omega)
    have c3 : gxSCat (p ++ y) u = some (p ++ y ++ u) := cat_ok (by rw [app_size]; omega)
    have c4 : gxSCat p u = some (p ++ u) := cat_ok (by omega)
    simp only [c1, c2, c3, c4, Option.bind_some]
    cases e.1 == 0 with
    | true =>
      refine ⟨_, rfl, by simp only [app_size]; omega, fun b hb => ?_⟩
      rcases mem_cat hb with hb | hb
      · rcases mem_cat hb with hb | hb
        · exact Or.inl (hpm b hb)
        · exact Or.inr (hzm b (hym b hb))
      · exact Or.inl (hqm b hb)
    | false => cases e.1 == 1 with
      | true =>
        refine ⟨_, rfl, by simp only [app_size]; omega, fun b hb => ?_⟩
        rcases mem_cat hb with hb | hb
        · rcases mem_cat hb with hb | hb
          · exact Or.inl (hpm b hb)
          · exact Or.inr (hzm b (hym b hb))
        · exact Or.inl (hum b hb)
      | false =>
        refine ⟨_, rfl, by simp only [app_size]; omega, fun b hb => ?_⟩
        rcases mem_cat hb with hb | hb
        · exact Or.inl (hpm b hb)
        · exact Or.inl (hum b hb)
theorem Text_val (e : Event) (h : e.Kind.size ≤ 1048576) : M.s_EventText e = some (bif oneE e then (txtE e, true) else (ByteArray.mk #[], false)) ∧ M.i_EventText e = some (bif oneE e then (txtE e, true) else (ByteArray.mk #[], false)) := by
  unfold M.s_EventText M.i_EventText
  rw [s_oneE e (by omega), i_oneE e (by omega), Option.bind_some, Option.bind_some]
  cases hg : oneE e with
  | false => exact ⟨rfl, rfl⟩
  | true =>
    simp only [Bool.not_true, cond_false, cond_true, s_text e hg, i_text e hg, Option.bind_some]
    exact ⟨trivial, trivial⟩
theorem nolet {n : Nat} (h : n ≤ 100000) : (117 : UInt8) ∉ Lib.decDigits n ∧ (99 : UInt8) ∉ Lib.decDigits n := by
  constructor <;> intro hm
  · have := (dec_digit 6 n (by omega) _ hm).2
    simp at this
  · have := (dec_digit 6 n (by omega) _ hm).2
    simp at this
theorem fine_txt {e : Event} (h : oneE e = true) (hk : okKd e.Kind = true) : fine (txtE e) := by
  unfold fine
  rw [txt_list h]
  unfold oneE at h
  simp only [Bool.and_eq_true, decide_eq_true_eq] at h
  obtain ⟨⟨t0, t1⟩, ⟨g0, g1⟩, ⟨_, k0, k1⟩, v0, v1⟩ := h
  unfold okKd at hk
  simp only [Bool.and_eq_true, Bool.or_eq_true, decide_eq_true_eq, Bool.not_eq_true', List.contains_eq_mem, decide_eq_false_iff_not] at hk
  have hK : (117 : UInt8) ∉ e.Kind.data.toList ∧ (99 : UInt8) ∉ e.Kind.data.toList := by
    rcases hk.2 with h8 | h8
    · omega
    · exact h8
  obtain ⟨a1, a2⟩ := nolet (n := e.Tick.toNat) (by omega)
  obtain ⟨b1, b2⟩ := nolet (n := e.Guest.toNat) (by omega)
  obtain ⟨d1, d2⟩ := nolet (n := e.Value.toNat) (by omega)
  have T1 : (117 : UInt8) ∉ tailL e := by
    unfold tailL
    split <;> simp [hK.1, d1]
  have T2 : (99 : UInt8) ∉ tailL e := by
    unfold tailL
    split <;> simp [hK.2, d2]
  rintro ⟨h1, h2⟩
  unfold midL at h1 h2
  split at h1
  · rename_i hg
    rw [if_pos hg] at h2
    simp [gstL, a2, b2, T2] at h2
  · simp [oldM, a1, T1] at h1
theorem fine_nil : fine (ByteArray.mk #[]) := fun ⟨h, _⟩ => by simp at h
theorem drawE_ok (code : List Int) (h : okL okU code) : ∃ e, M.s_DrawEventText code = some e ∧ okKd e.Kind = true := by
  unfold M.s_DrawEventText M.s_DrawIsEvent
  obtain ⟨a, ha, _, hac⟩ := among_ok ⟨code, 0, 0⟩ [0, 12, 100000] 0 (cur0E h) (by omega) (by simp)
  obtain ⟨e, he, hk, _⟩ := event_okK ⟨code, a.2.1, a.2.2⟩ a.1 _ hac (by omega)
  simp only [ha, he, Option.bind_some]
  exact ⟨_, rfl, hk⟩
theorem kd_size {k : ByteArray} (h : okKd k = true) : k.size ≤ 16 := by
  unfold okKd at h
  simp only [Bool.and_eq_true, decide_eq_true_eq] at h
  exact h.1
theorem val_fine {e : Event} (hk : okKd e.Kind = true) : fine (bif oneE e then (txtE e, true) else (ByteArray.mk #[], false)).1 ∧ (bif oneE e then (txtE e, true) else (ByteArray.mk #[], false)).1.size ≤ 40 := by
  cases h : oneE e with
  | true => exact ⟨fine_txt h hk, txt_size h⟩
  | false => exact ⟨fine_nil, by
    show (0 : Nat) ≤ 40
    omega⟩
theorem drawP_ok (code : List Int) (h : okL okU code) : ∃ s, M.s_DrawParseEvent code = some s ∧ s.size ≤ 1001 ∧ fine s := by
  unfold M.s_DrawParseEvent
  obtain ⟨a, ha, _, hac⟩ := among_ok ⟨code, 0, 0⟩ [0, 12, 100000] 0 (cur0E h) (by omega) (by simp)
  obtain ⟨e, he, hk, hec⟩ := event_okK ⟨code, a.2.1, a.2.2⟩ a.1 _ hac (by omega)
  obtain ⟨f, hf, hfc⟩ := one_ok ⟨code, e.2.1, e.2.2⟩ 4 _ hec (by omega) (by omega)
  have hv := val_fine hk
  simp only [ha, he, hf, (Text_val e.1 (by have := kd_size hk; omega)).1, Option.bind_some]
  generalize (bif oneE e.1 then (txtE e.1, true) else (ByteArray.mk #[], false)).1 = t at hv ⊢
  cases f.1 with
  | true =>
    obtain ⟨r, hr, h1, h2⟩ := spoilt_ok ⟨code, f.2.1, f.2.2⟩ t _ hfc (by omega) (by omega)
    simp only [cond_true, hr, Option.bind_some]
    exact ⟨_, rfl, h1, sub_fine h2 hv.1⟩
  | false =>
    simp only [cond_false, Option.bind_some]
    exact ⟨_, rfl, by omega, hv.1⟩
theorem guest_ok (c : l1Cur) (n : Nat) (h : curI c n) (hn : n ≤ 1099510000000) : ∃ r, M.s_l1Cur_guest22 c = some r := by
  unfold M.s_l1Cur_guest22
  obtain ⟨a, ha, ha0, _, ha1, hac⟩ := pick_ok c 24 n h (by omega) (by omega)
  have ha1 := ha1 (by omega)
  obtain ⟨i, hi⟩ : ∃ i : Nat, a.1 = i := ⟨a.1.toNat, by omega⟩
  have et : w64 (5 + w64 (a.1.tdiv 11)) = ((5 + i / 11 : Nat) : Int) := by
    rw [hi, show ((i : Int).tdiv 11) = ((i / 11 : Nat) : Int) from rfl, w64_nat (by omega), w64_id (by omega) (by omega)]
    omega
  have hsl : gxSlice [0, 1, 2, 3, 4, (-1), 5] 0 (((5 + i / 11 : Nat)) : Int) = some (([0, 1, 2, 3, 4, (-1), 5] : List Int).take (5 + i / 11)) := gxSlice_take (by simp only [List.length_cons, List.length_nil]; omega)
  obtain ⟨f, hf, _, _⟩ := among_ok ⟨c.code, a.2.1, a.2.2⟩ (([0, 1, 2, 3, 4, (-1), 5] : List Int).take (5 + i / 11)) _ hac (by omega) (by simp only [List.length_take, List.length_cons, List.length_nil]; omega)
  simp only [ha, et, hsl, hf, Option.bind_some]
  exact ⟨_, rfl⟩
theorem drawO_ok (code : List Int) (h : okL okU code) : ∃ r, M.s_DrawEventsOf code = some r ∧ fitE r.1 := by
  unfold M.s_DrawEventsOf
  obtain ⟨a, ha, haf, hac⟩ := record_ok ⟨code, 0, 0⟩ 0 (cur0E h) (by omega)
  obtain ⟨b, hb⟩ := guest_ok ⟨code, a.2.1, a.2.2⟩ _ hac (by omega)
  simp only [ha, hb, Option.bind_some]
  exact ⟨_, rfl, haf⟩
theorem drawC_ok (code : List Int) (h : okL okU code) : ∃ r, M.s_DrawCountKinds code = some r ∧ fitE r := by
  unfold M.s_DrawCountKinds M.s_DrawIsRecord
  obtain ⟨a, ha, haf, hac⟩ := record_ok ⟨code, 0, 0⟩ 0 (cur0E h) (by omega)
  simp only [ha, Option.bind_some]
  exact ⟨_, rfl, haf⟩

end Go.Proofs.YtimffallbjpcjaaGreatDoor
