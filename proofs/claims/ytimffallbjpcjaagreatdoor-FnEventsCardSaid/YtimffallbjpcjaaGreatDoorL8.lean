/- Plain laws of the models: no program in sight. -/
import Derived.Test.YtimffallbjpcjaaGreatDoorM
import Derived.Test.YtimffallbjpcjaaGreatDoorL7
set_option linter.unusedVariables false
set_option linter.unusedSimpArgs false
set_option maxHeartbeats 4000000
namespace Go.Proofs.YtimffallbjpcjaaGreatDoor
open Go.Gx
/-! ### Draws -/
/-- The code is of bytes; so many steps at most have been made. -/
def curI (c : l1Cur) (n : Nat) : Prop := okL okU c.code ∧ 0 ≤ c.at_ ∧ c.at_ ≤ n
theorem u8_range {x : Int} (h : okU x) : 0 ≤ x ∧ x ≤ 255 := by
  unfold okU at h
  simp [Lit.wf, IntKind.min, IntKind.max, IntKind.bits, IntKind.signed] at h
  omega
theorem and255 (x : Int) : 0 ≤ gxAnd .u64 x 255 ∧ gxAnd .u64 x 255 ≤ 255 := by
  unfold gxAnd
  have h1 : (BitVec.ofInt 64 x &&& BitVec.ofInt 64 255).toNat ≤ 255 := by
    rw [BitVec.toNat_and]
    have : (BitVec.ofInt 64 255).toNat = 255 := rfl
    rw [this]
    exact Nat.and_le_right
  show 0 ≤ IntKind.u64.wrap ((BitVec.ofInt 64 x &&& BitVec.ofInt 64 255).toNat : Int) ∧ IntKind.u64.wrap ((BitVec.ofInt 64 x &&& BitVec.ofInt 64 255).toNat : Int) ≤ 255
  generalize (BitVec.ofInt 64 x &&& BitVec.ofInt 64 255).toNat = n at h1
  have h2 : IntKind.u64.wrap (n : Int) = n := by
    simp [IntKind.wrap, IntKind.bits, IntKind.signed]
    omega
  rw [h2]
  omega
theorem next_ok (c : l1Cur) (n : Nat) (h : curI c n) (hn : n ≤ 1099511627776) : ∃ r, M.s_l1Cur_next c = some r ∧ (0 ≤ r.1 ∧ r.1 ≤ 255) ∧ 0 ≤ r.2.1 ∧ r.2.1 ≤ ((n + 1 : Nat) : Int) := by
  obtain ⟨hc, h0, h1⟩ := h
  unfold M.s_l1Cur_next
  rw [w64_id (z := c.at_ + 1) (by omega) (by omega)]
  have hfst : ∃ b, (bif decide (c.at_ < (c.code.length : Int)) then (Option.bind (gxIdx c.code c.at_) fun y7680 => some (w64 y7680)) else some 0) = some b ∧ 0 ≤ b ∧ b ≤ 255 := by
    by_cases hlt : c.at_ < (c.code.length : Int)
    · obtain ⟨i, hi⟩ : ∃ i : Nat, c.at_ = i := ⟨c.at_.toNat, by omega⟩
      rw [hi] at hlt ⊢
      have hil : i < c.code.length := by omega
      have hb := u8_range (hc.2 _ (List.getElem_mem hil))
      simp only [hlt, decide_true, cond_true, gxIdx_nat hil, Option.bind_some, w64_id (z := c.code[i]) (by omega) (by omega)]
      exact ⟨_, rfl, hb.1, hb.2⟩
    · simp only [hlt, decide_false, cond_false]
      exact ⟨0, rfl, by omega, by omega⟩
  obtain ⟨b, hb, hb1⟩ := hfst
  rw [hb, Option.bind_some]
  by_cases hle : c.at_ + 1 ≤ (c.code.length : Int)
  · simp only [hle, decide_true, cond_true]
    exact ⟨_, rfl, hb1, by simp only; omega, by simp only; omega⟩
  · simp only [hle, decide_false, cond_false]
    refine ⟨_, rfl, ?_, by simp only; omega, by simp only; omega⟩
    have := and255 ((IntKind.u64.wrap ((IntKind.u64.wrap ((IntKind.u64.wrap (c.seed * 6364136223846793005)) + (IntKind.u64.wrap b))) + 843843)).fdiv (2 ^ 40))
    simp only
    rw [w64_id (by omega) (by omega)]
    exact this
/-- What a pick among k gives. -/
theorem pick_ok (c : l1Cur) (k : Int) (n : Nat) (h : curI c n) (hn : n ≤ 1099511000000) (hk : k ≤ 9223372036854775807) : ∃ r, M.s_l1Cur_pick c k = some r ∧ 0 ≤ r.1 ∧ (r.1 < k ∨ r.1 = 0) ∧ (k ≥ 1 → r.1 < k) ∧ curI ⟨c.code, r.2.1, r.2.2⟩ (n + 2) := by
  unfold M.s_l1Cur_pick
  by_cases h1 : k ≤ 1
  · simp only [h1, decide_true, cond_true]
    exact ⟨_, rfl, by simp, Or.inr rfl, fun h => by simp only; omega, h.1, h.2.1, by have := h.2.2; simp only; omega⟩
  · simp only [h1, decide_false, cond_false]
    obtain ⟨r, hr, hb, ha0, ha1⟩ := next_ok c n h (by omega)
    rw [hr, Option.bind_some]
    have hrem : ∀ v : Int, 0 ≤ v → gxRem v k = some (v % k) := by
      intro v hv
      unfold gxRem
      rw [if_neg (by omega), Int.tmod_eq_emod_of_nonneg hv]
    by_cases h2 : k > 200
    · simp only [h2, decide_true, cond_true]
      obtain ⟨r2, hr2, hb2, ha2, ha3⟩ := next_ok ⟨c.code, r.2.1, r.2.2⟩ (n + 1) ⟨h.1, ha0, ha1⟩ (by omega)
      rw [hr2, Option.bind_some, Option.bind_some]
      have e : w64 ((w64 (r.1 * 256)) + r2.1) = r.1 * 256 + r2.1 := by
        rw [w64_id (z := r.1 * 256) (by omega) (by omega), w64_id (by omega) (by omega)]
      simp only [e, hrem (r.1 * 256 + r2.1) (by omega), Option.bind_some]
      have p1 := Int.emod_nonneg (r.1 * 256 + r2.1) (show k ≠ 0 by omega)
      have p2 := Int.emod_lt_of_pos (r.1 * 256 + r2.1) (show 0 < k by omega)
      exact ⟨_, rfl, p1, Or.inl p2, fun _ => p2, h.1, ha2, by simp only; omega⟩
    · simp only [h2, decide_false, cond_false, Option.bind_some, hrem r.1 hb.1]
      have p1 := Int.emod_nonneg r.1 (show k ≠ 0 by omega)
      have p2 := Int.emod_lt_of_pos r.1 (show 0 < k by omega)
      exact ⟨_, rfl, p1, Or.inl p2, fun _ => p2, h.1, ha0, by simp only; omega⟩
theorem among_ok (c : l1Cur) (l : List Int) (n : Nat) (h : curI c n) (hn : n ≤ 1099511000000) (hl : 0 < l.length ∧ l.length ≤ 1000) : ∃ r, M.s_l1Cur_among c l = some r ∧ r.1 ∈ l ∧ curI ⟨c.code, r.2.1, r.2.2⟩ (n + 2) := by
  unfold M.s_l1Cur_among
  obtain ⟨r, hr, h0, _, h1, hc⟩ := pick_ok c (l.length : Int) n h hn (by omega)
  have h1 := h1 (by omega)
  rw [hr, Option.bind_some]
  obtain ⟨i, hi⟩ : ∃ i : Nat, r.1 = i := ⟨r.1.toNat, by omega⟩
  have hil : i < l.length := by omega
  rw [hi, gxIdx_nat hil, Option.bind_some]
  exact ⟨_, rfl, List.getElem_mem hil, hc⟩

theorem one_ok (c : l1Cur) (k : Int) (n : Nat) (h : curI c n) (hn : n ≤ 1099511000000) (hk : k ≤ 9223372036854775807) : ∃ r, M.s_l1Cur_one c k = some r ∧ curI ⟨c.code, r.2.1, r.2.2⟩ (n + 2) := by
  unfold M.s_l1Cur_one
  obtain ⟨r, hr, _, _, _, hc⟩ := pick_ok c k n h hn hk
  rw [hr, Option.bind_some]
  exact ⟨_, rfl, hc⟩

theorem curI.mono {c : l1Cur} {n m : Nat} (h : curI c n) (hm : n ≤ m) : curI c m := ⟨h.1, h.2.1, by have := h.2.2; omega⟩

/-! ### Draws of events -/
def fitE (xs : List Event) : Prop := xs.length ≤ 40 ∧ ∀ e ∈ xs, e.Kind.size ≤ 16
theorem fit_small {xs : List Event} (h : fitE xs) : smallE xs := ⟨by have := h.1; omega, fun e he => by have := h.2 e he; omega⟩
/-- A kind that can be drawn: short, and either too long or without two letters. -/
def okKd (k : ByteArray) : Bool := decide (k.size ≤ 16) && (decide (k.size > 8) || (!(k.data.toList.contains 117) && !(k.data.toList.contains 99)))
theorem of_okK (c : l1Cur) (l : List ByteArray) (n : Nat) (h : curI c n) (hn : n ≤ 1099511000000) (hl : 0 < l.length ∧ l.length ≤ 1000) (hs : l.all okKd = true) : ∃ r, M.s_l1Cur_of c l = some r ∧ okKd r.1 = true ∧ curI ⟨c.code, r.2.1, r.2.2⟩ (n + 2) := by
  unfold M.s_l1Cur_of
  obtain ⟨r, hr, h0, _, h1, hc⟩ := pick_ok c (l.length : Int) n h hn (by omega)
  have h1 := h1 (by omega)
  rw [hr, Option.bind_some]
  obtain ⟨i, hi⟩ : ∃ i : Nat, r.1 = i := ⟨r.1.toNat, by omega⟩
  have hil : i < l.length := by omega
  rw [hi, gxIdx_nat hil, Option.bind_some]
  exact ⟨_, rfl, List.all_eq_true.1 hs _ (List.getElem_mem hil), hc⟩
theorem event_okK (c : l1Cur) (t : Int) (n : Nat) (h : curI c n) (hn : n ≤ 1099510000000) : ∃ r, M.s_l1Cur_event c t = some r ∧ okKd r.1.Kind = true ∧ curI ⟨c.code, r.2.1, r.2.2⟩ (n + 40) := by
  unfold M.s_l1Cur_event
  obtain ⟨a, ha, _, _, _, hac⟩ := pick_ok c 5 n h (by omega) (by omega)
  obtain ⟨b, hb, hbs, hbc⟩ := of_okK ⟨c.code, a.2.1, a.2.2⟩ [(ByteArray.mk #[116, 114, 97, 112]), (ByteArray.mk #[116, 114, 97, 112]), (ByteArray.mk #[104, 97, 108, 116]), (ByteArray.mk #[105, 114, 113]), (ByteArray.mk #[119, 97, 107, 101]), (ByteArray.mk #[97]), (ByteArray.mk #[108, 111, 110, 103, 119, 111, 114, 100])] _ hac (by omega) (by simp) (by decide)
  obtain ⟨d, hd, _, hdc⟩ := among_ok ⟨c.code, b.2.1, b.2.2⟩ [0, 0, 1, 7, 255, 65535] _ hbc (by omega) (by simp)
  obtain ⟨e, he, _, _, _, hec⟩ := pick_ok ⟨c.code, d.2.1, d.2.2⟩ 80 _ hdc (by omega) (by omega)
  simp only [ha, hb, hd, he, Option.bind_some]
  cases h0 : (e.1 == 0) with
  | true =>
    obtain ⟨f, hf, _, hfc⟩ := among_ok ⟨c.code, e.2.1, e.2.2⟩ [(-1), 100000, 100001] _ hec (by omega) (by simp)
    simp only [cond_true, hf, Option.bind_some]
    exact ⟨_, rfl, hbs, hfc.mono (by omega)⟩
  | false => cases h1 : (e.1 == 1) with
    | true =>
      obtain ⟨f, hf, _, hfc⟩ := among_ok ⟨c.code, e.2.1, e.2.2⟩ [(-1), 5] _ hec (by omega) (by simp)
      simp only [cond_true, cond_false, hf, Option.bind_some]
      exact ⟨_, rfl, hbs, hfc.mono (by omega)⟩
    | false => cases h2 : (e.1 == 2) with
      | true =>
        obtain ⟨f, hf, hfs, hfc⟩ := of_okK ⟨c.code, e.2.1, e.2.2⟩ [(ByteArray.mk #[]), (ByteArray.mk #[65]), (ByteArray.mk #[110, 105, 110, 101, 99, 104, 97, 114, 115])] _ hec (by omega) (by simp) (by decide)
        simp only [cond_true, cond_false, hf, Option.bind_some]
        exact ⟨_, rfl, hfs, hfc.mono (by omega)⟩
      | false => cases h3 : (e.1 == 3) with
        | true =>
          obtain ⟨f, hf, _, hfc⟩ := among_ok ⟨c.code, e.2.1, e.2.2⟩ [(-1), 65536] _ hec (by omega) (by simp)
          simp only [cond_true, cond_false, hf, Option.bind_some]
          exact ⟨_, rfl, hbs, hfc.mono (by omega)⟩
        | false =>
          simp only [cond_false, Option.bind_some]
          exact ⟨_, rfl, hbs, hec.mono (by omega)⟩
theorem event_ok (c : l1Cur) (t : Int) (n : Nat) (h : curI c n) (hn : n ≤ 1099510000000) : ∃ r, M.s_l1Cur_event c t = some r ∧ r.1.Kind.size ≤ 16 ∧ curI ⟨c.code, r.2.1, r.2.2⟩ (n + 40) := by
  obtain ⟨r, hr, hk, hc⟩ := event_okK c t n h hn
  unfold okKd at hk
  simp only [Bool.and_eq_true, decide_eq_true_eq] at hk
  exact ⟨r, hr, hk.1, hc⟩
theorem least_ok (a b : Int) : ∃ v, M.s_l1Least a b = some v := by
  unfold M.s_l1Least
  cases decide (a < b) <;> exact ⟨_, rfl⟩
theorem fit_app {xs : List Event} {e : Event} (h : ∀ y ∈ xs, y.Kind.size ≤ 16) (he : e.Kind.size ≤ 16) : ∀ y ∈ xs ++ [e], y.Kind.size ≤ 16 := fun y hy => by
  rcases List.mem_append.1 hy with hy | hy
  · exact h y hy
  · rw [List.mem_singleton] at hy
    rw [hy]
    exact he
theorem record_ok (c : l1Cur) (n : Nat) (h : curI c n) (hn : n ≤ 1000000) : ∃ r, M.s_l1Cur_record22 c = some r ∧ fitE r.1 ∧ curI ⟨c.code, r.2.1, r.2.2⟩ (n + 3000) := by
  unfold M.s_l1Cur_record22
  obtain ⟨a, ha, _, hac⟩ := among_ok c [0, 3, 99990] n h (by omega) (by simp)
  obtain ⟨b, hb, hb0, _, hb1, hbc⟩ := pick_ok ⟨c.code, a.2.1, a.2.2⟩ 9 _ hac (by omega) (by omega)
  have hb1 := hb1 (by omega)
  rw [ha, Option.bind_some, hb, Option.bind_some]
  obtain ⟨q, hq, hqk, hql, hqc⟩ := while_inv (body := fun s11111 : List Event × Int × Int × Int × Int =>
    bif decide (s11111.2.2.1 > 0) then (Option.bind (M.s_l1Cur_event (⟨c.code, s11111.2.2.2.1, s11111.2.2.2.2⟩ : l1Cur) s11111.2.1) fun r11133 =>
    Option.bind (gxApp 40 s11111.1 [r11133.1]) fun ap11144 =>
    Option.bind (M.s_l1Cur_among (⟨c.code, r11133.2.1, r11133.2.2⟩ : l1Cur) [0, 0, 1, 5, 30]) fun r11159 =>
    Option.bind (M.s_l1Least 100000 (w64 (s11111.2.1 + r11159.1))) fun r11163 =>
    some (Sum.inl (β := List Event × Int × Int) (ap11144, r11163, w64 (s11111.2.2.1 - 1), r11159.2.1, r11159.2.2)))
    else some (.inr (s11111.1, s11111.2.2.2.1, s11111.2.2.2.2))) (s0 := (([] : List Event), a.1, b.1, b.2.1, b.2.2))
    (fun i s => s.2.2.1 = b.1 - i ∧ (∀ y ∈ s.1, y.Kind.size ≤ 16) ∧ s.1.length = i ∧ curI ⟨c.code, s.2.2.2.1, s.2.2.2.2⟩ (n + 4 + 50 * i))
    (fun r => (∀ y ∈ r.1, y.Kind.size ≤ 16) ∧ r.1.length ≤ 8 ∧ curI ⟨c.code, r.2.1, r.2.2⟩ (n + 4 + 400)) b.1.toNat (by omega) ⟨by simp, by simp, rfl, hbc⟩ (fun i s hi hR => by
      obtain ⟨X, t, k, p, sd⟩ := s
      obtain ⟨h1, h2, h3, h4⟩ := hR
      simp only at h1 h2 h3 h4
      have e0 : k > 0 := by omega
      obtain ⟨e, he, hes, hec⟩ := event_ok ⟨c.code, p, sd⟩ t _ h4 (by omega)
      obtain ⟨f, hf, _, hfc⟩ := among_ok ⟨c.code, e.2.1, e.2.2⟩ [0, 0, 1, 5, 30] _ hec (by omega) (by simp)
      obtain ⟨v, hv⟩ := least_ok 100000 (w64 (t + f.1))
      have p1 : gxApp 40 X [e.1] = some (X ++ [e.1]) := gxApp_ok (by simp; omega)
      simp only [e0, decide_true, cond_true, he, Option.bind_some, p1, hf, hv]
      refine Or.inl ⟨_, rfl, ?_, fit_app h2 hes, by simp [h3], hfc.mono (by omega)⟩
      simp only
      rw [w64_id (by omega) (by omega)]
      omega) (fun s hR => by
      obtain ⟨X, t, k, p, sd⟩ := s
      obtain ⟨h1, h2, h3, h4⟩ := hR
      simp only at h1 h2 h3 h4
      have e0 : ¬ (k > 0) := by omega
      simp only [e0, decide_false, cond_false]
      exact ⟨_, rfl, h2, by simp only; omega, h4.mono (by omega)⟩)
  rw [hq, Option.bind_some]
  obtain ⟨d, hd, _, _, _, hdc⟩ := pick_ok ⟨c.code, q.2.1, q.2.2⟩ 30 _ hqc (by omega) (by omega)
  rw [hd, Option.bind_some]
  cases h0 : (d.1 == 0) with
  | true =>
    obtain ⟨e, he, hes, hec⟩ := event_ok ⟨c.code, d.2.1, d.2.2⟩ 1 _ hdc (by omega)
    have p1 : gxApp 40 q.1 [e.1] = some (q.1 ++ [e.1]) := gxApp_ok (by simp; omega)
    simp only [cond_true, he, Option.bind_some, p1]
    exact ⟨_, rfl, ⟨by simp; omega, fit_app hqk hes⟩, hec.mono (by omega)⟩
  | false => cases h1 : (d.1 == 1) with
    | true =>
      simp only [cond_false, cond_true]
      obtain ⟨u, hu, hu1, hu2, hu3⟩ := while_inv (body := fun s11562 : List Event × Int × Int =>
        Option.bind (M.s_l1Cur_pick (⟨c.code, s11562.2.1, s11562.2.2⟩ : l1Cur) 2) fun r11583 =>
        bif decide ((s11562.1.length : Int) < (w64 (30 + r11583.1))) then (Option.bind (gxApp 40 s11562.1 [(⟨100000, 0, (ByteArray.mk #[120]), 0⟩ : Event)]) fun ap11595 =>
        some (Sum.inl (β := List Event × Int × Int) (ap11595, r11583.2.1, r11583.2.2)))
        else some (.inr (s11562.1, r11583.2.1, r11583.2.2))) (s0 := (q.1, d.2.1, d.2.2))
        (fun i s => (∀ y ∈ s.1, y.Kind.size ≤ 16) ∧ s.1.length = q.1.length + i ∧ curI ⟨c.code, s.2.1, s.2.2⟩ (n + 500 + 3 * i))
        (fun r => (∀ y ∈ r.1, y.Kind.size ≤ 16) ∧ r.1.length ≤ 40 ∧ curI ⟨c.code, r.2.1, r.2.2⟩ (n + 1000)) (31 - q.1.length) (by omega) ⟨hqk, rfl, hdc.mono (by omega)⟩ (fun i s hi hR => by
          obtain ⟨X, p, sd⟩ := s
          obtain ⟨h1, h2, h3⟩ := hR
          simp only at h1 h2 h3
          obtain ⟨e, he, he0, _, he1, hec⟩ := pick_ok ⟨c.code, p, sd⟩ 2 _ h3 (by omega) (by omega)
          have p1 : gxApp 40 X [(⟨100000, 0, (ByteArray.mk #[120]), 0⟩ : Event)] = some (X ++ [(⟨100000, 0, (ByteArray.mk #[120]), 0⟩ : Event)]) := gxApp_ok (by simp; omega)
          simp only [he, Option.bind_some, p1]
          cases decide ((X.length : Int) < w64 (30 + e.1)) with
          | true => exact Or.inl ⟨_, rfl, fit_app h1 (by decide), by simp; omega, hec.mono (by omega)⟩
          | false => exact Or.inr ⟨_, rfl, h1, by simp only; omega, hec.mono (by omega)⟩) (fun s hR => by
          obtain ⟨X, p, sd⟩ := s
          obtain ⟨h1, h2, h3⟩ := hR
          simp only at h1 h2 h3
          obtain ⟨e, he, he0, _, he1, hec⟩ := pick_ok ⟨c.code, p, sd⟩ 2 _ h3 (by omega) (by omega)
          have he1 := he1 (by omega)
          have e0 : ¬ ((X.length : Int) < w64 (30 + e.1)) := by rw [w64_id (by omega) (by omega)]; omega
          simp only [he, Option.bind_some, e0, decide_false, cond_false]
          exact ⟨_, rfl, h1, by simp only; omega, hec.mono (by omega)⟩)
      rw [hu, Option.bind_some, Option.bind_some, Option.bind_some]
      exact ⟨_, rfl, ⟨hu2, hu1⟩, hu3.mono (by omega)⟩
    | false =>
      simp only [cond_false, Option.bind_some]
      exact ⟨_, rfl, ⟨by simp only; omega, hqk⟩, hdc.mono (by omega)⟩
theorem cur0E {code : List Int} (h : okL okU code) : curI ⟨code, 0, 0⟩ 0 := ⟨h, by simp, by simp⟩

end Go.Proofs.YtimffallbjpcjaaGreatDoor
