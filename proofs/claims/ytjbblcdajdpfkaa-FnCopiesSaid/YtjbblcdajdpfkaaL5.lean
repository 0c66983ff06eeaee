/- Plain laws of the models: no program in sight. -/
import Derived.Test.YtjbblcdajdpfkaaM
import Derived.Test.YtjbblcdajdpfkaaL4
set_option linter.unusedVariables false
set_option linter.unusedSimpArgs false
set_option maxHeartbeats 4000000
namespace Go.Proofs.Ytjbblcdajdpfkaa
open Go.Gx
/-! ### Draws -/
/-- The code is of bytes; so many steps at most have been made. -/
def curI (c : l1Cur) (n : Nat) : Prop := okL okU c.code ∧ 0 ≤ c.at_ ∧ c.at_ ≤ n
theorem u8_range {x : Int} (h : okU x) : 0 ≤ x ∧ x ≤ 255 := by
  unfold okU at h
  simp [Lit.wf, IntKind.min, IntKind.max, IntKind.bits, IntKind.signed] at h
  omega
theorem and255 (x : Int) : 0 ≤ gxAnd .u64 x 255 ∧ gxAnd .u64 x 255 ≤ 255 := by
  unfold gxAnd
  have h1 : (BitVec.ofInt 64 x &&& BitVec.ofInt 64 255).toNat ≤ 255 := by
    rw [BitVec.toNat_and]
    have : (BitVec.ofInt 64 255).toNat = 255 := rfl
    rw [this]
    exact Nat.and_le_right
  show 0 ≤ IntKind.u64.wrap ((BitVec.ofInt 64 x &&& BitVec.ofInt 64 255).toNat : Int) ∧ IntKind.u64.wrap ((BitVec.ofInt 64 x &&& BitVec.ofInt 64 255).toNat : Int) ≤ 255
  generalize (BitVec.ofInt 64 x &&& BitVec.ofInt 64 255).toNat = n at h1
  have h2 : IntKind.u64.wrap (n : Int) = n := by
    simp [IntKind.wrap, IntKind.bits, IntKind.signed]
    omega
  rw [h2]
  omega
theorem next_ok (c : l1Cur) (n : Nat) (h : curI c n) (hn : n ≤ 1099511627776) : ∃ r, M.s_l1Cur_next c = some r ∧ (0 ≤ r.1 ∧ r.1 ≤ 255) ∧ 0 ≤ r.2.1 ∧ r.2.1 ≤ ((n + 1 : Nat) : Int) := by
  obtain ⟨hc, h0, h1⟩ := h
  unfold M.s_l1Cur_next
  rw [w64_id (z := c.at_ + 1) (by omega) (by omega)]
  have hfst : ∃ b, (bif decide (c.at_ < (c.code.length : Int)) then (Option.bind (gxIdx c.code c.at_) fun y7680 => some (w64 y7680)) else some 0) = some b ∧ 0 ≤ b ∧ b ≤ 255 := by
    by_cases hlt : c.at_ < (c.code.length : Int)
    · obtain ⟨i, hi⟩ : ∃ i : Nat, c.at_ = i := ⟨c.at_.toNat, by omega⟩
      rw [hi] at hlt ⊢
      have hil : i < c.code.length := by omega
      have hb := u8_range (hc.2 _ (List.getElem_mem hil))
      simp only [hlt, decide_true, cond_true, gxIdx_nat hil, Option.bind_some, w64_id (z := c.code[i]) (by omega) (by omega)]
      exact ⟨_, rfl, hb.1, hb.2⟩
    · simp only [hlt, decide_false, cond_false]
      exact ⟨0, rfl, by omega, by omega⟩
  obtain ⟨b, hb, hb1⟩ := hfst
  rw [hb, Option.bind_some]
  by_cases hle : c.at_ + 1 ≤ (c.code.length : Int)
  · simp only [hle, decide_true, cond_true]
    exact ⟨_, rfl, hb1, by simp only; omega, by simp only; omega⟩
  · simp only [hle, decide_false, cond_false]
    refine ⟨_, rfl, ?_, by simp only; omega, by simp only; omega⟩
    have := and255 ((IntKind.u64.wrap ((IntKind.u64.wrap ((IntKind.u64.wrap (c.seed * 6364136223846793005)) + (IntKind.u64.wrap b))) + 843843)).fdiv (2 ^ 40))
    simp only
    rw [w64_id (by omega) (by omega)]
    exact this
/-- What a pick among k gives. -/
theorem pick_ok (c : l1Cur) (k : Int) (n : Nat) (h : curI c n) (hn : n ≤ 1099511000000) (hk : k ≤ 9223372036854775807) : ∃ r, M.s_l1Cur_pick c k = some r ∧ 0 ≤ r.1 ∧ (r.1 < k ∨ r.1 = 0) ∧ (k ≥ 1 → r.1 < k) ∧ curI ⟨c.code, r.2.1, r.2.2⟩ (n + 2) := by
  unfold M.s_l1Cur_pick
  by_cases h1 : k ≤ 1
  · simp only [h1, decide_true, cond_true]
    exact ⟨_, rfl, by simp, Or.inr rfl, fun h => by simp only; omega, h.1, h.2.1, by have := h.2.2; simp only; omega⟩
  · simp only [h1, decide_false, cond_false]
    obtain ⟨r, hr, hb, ha0, ha1⟩ := next_ok c n h (by omega)
    rw [hr, Option.bind_some]
    have hrem : ∀ v : Int, 0 ≤ v → gxRem v k = some (v % k) := by
      intro v hv
      unfold gxRem
      rw [if_neg (by omega), Int.tmod_eq_emod_of_nonneg hv]
    by_cases h2 : k > 200
    · simp only [h2, decide_true, cond_true]
      obtain ⟨r2, hr2, hb2, ha2, ha3⟩ := next_ok ⟨c.code, r.2.1, r.2.2⟩ (n + 1) ⟨h.1, ha0, ha1⟩ (by omega)
      rw [hr2, Option.bind_some, Option.bind_some]
      have e : w64 ((w64 (r.1 * 256)) + r2.1) = r.1 * 256 + r2.1 := by
        rw [w64_id (z := r.1 * 256) (by omega) (by omega), w64_id (by omega) (by omega)]
      simp only [e, hrem (r.1 * 256 + r2.1) (by omega), Option.bind_some]
      have p1 := Int.emod_nonneg (r.1 * 256 + r2.1) (show k ≠ 0 by omega)
      have p2 := Int.emod_lt_of_pos (r.1 * 256 + r2.1) (show 0 < k by omega)
      exact ⟨_, rfl, p1, Or.inl p2, fun _ => p2, h.1, ha2, by simp only; omega⟩
    · simp only [h2, decide_false, cond_false, Option.bind_some, hrem r.1 hb.1]
      have p1 := Int.emod_nonneg r.1 (show k ≠ 0 by omega)
      have p2 := Int.emod_lt_of_pos r.1 (show 0 < k by omega)
      exact ⟨_, rfl, p1, Or.inl p2, fun _ => p2, h.1, ha0, by simp only; omega⟩
theorem among_ok (c : l1Cur) (l : List Int) (n : Nat) (h : curI c n) (hn : n ≤ 1099511000000) (hl : 0 < l.length ∧ l.length ≤ 1000) : ∃ r, M.s_l1Cur_among c l = some r ∧ r.1 ∈ l ∧ curI ⟨c.code, r.2.1, r.2.2⟩ (n + 2) := by
  unfold M.s_l1Cur_among
  obtain ⟨r, hr, h0, _, h1, hc⟩ := pick_ok c (l.length : Int) n h hn (by omega)
  have h1 := h1 (by omega)
  rw [hr, Option.bind_some]
  obtain ⟨i, hi⟩ : ∃ i : Nat, r.1 = i := ⟨r.1.toNat, by omega⟩
  have hil : i < l.length := by omega
  rw [hi, gxIdx_nat hil, Option.bind_some]
  exact ⟨_, rfl, List.getElem_mem hil, hc⟩
theorem one_ok (c : l1Cur) (k : Int) (n : Nat) (h : curI c n) (hn : n ≤ 1099511000000) (hk : k ≤ 9223372036854775807) : ∃ r, M.s_l1Cur_one c k = some r ∧ curI ⟨c.code, r.2.1, r.2.2⟩ (n + 2) := by
  unfold M.s_l1Cur_one
  obtain ⟨r, hr, _, _, _, hc⟩ := pick_ok c k n h hn hk
  rw [hr, Option.bind_some]
  exact ⟨_, rfl, hc⟩
/-! ### Draws of copyings -/
theorem curI.mono {c : l1Cur} {n m : Nat} (h : curI c n) (hm : n ≤ m) : curI c m := ⟨h.1, h.2.1, by have := h.2.2; omega⟩
theorem cur0 {code : List Int} (h : okL okU code) : curI ⟨code, 0, 0⟩ 0 := ⟨h, by simp, by simp⟩
theorem memory_ok (c : l1Cur) (n : Nat) (h : curI c n) (hn : n ≤ 1099500000000) : ∃ r, M.s_l1Cur_memory c = some r ∧ r.1.length ≤ 20 ∧ curI ⟨c.code, r.2.1, r.2.2⟩ (n + 100) := by
  unfold M.s_l1Cur_memory
  obtain ⟨a, ha, ha0, _, ha1, hac⟩ := pick_ok c 8 n h (by omega) (by omega)
  have ha1 := ha1 (by omega)
  rw [ha, Option.bind_some, w64_id (z := 1 + a.1) (by omega) (by omega)]
  obtain ⟨q, hq, hq1, hq2, hqc⟩ := while_inv (body := fun s10026 : List Int × Int × Int × Int =>
    bif decide (s10026.2.1 > 0) then (Option.bind (M.s_l1Cur_among (⟨c.code, s10026.2.2.1, s10026.2.2.2⟩ : l1Cur) [0, 0, 1, 2, 255, 4096, 65535]) fun r10055 =>
    Option.bind (gxApp 8 s10026.1 [r10055.1]) fun ap10066 =>
    some (Sum.inl (β := List Int × Int × Int) (ap10066, w64 (s10026.2.1 - 1), r10055.2.1, r10055.2.2)))
    else some (.inr (s10026.1, s10026.2.2.1, s10026.2.2.2))) (s0 := (([] : List Int), 1 + a.1, a.2.1, a.2.2)) (fun i s => s.1.length = i ∧ s.2.1 = 1 + a.1 - (i : Int) ∧ 0 ≤ s.2.1 ∧ curI ⟨c.code, s.2.2.1, s.2.2.2⟩ (n + 2 + 2 * i)) (fun r => 1 ≤ r.1.length ∧ r.1.length ≤ 8 ∧ curI ⟨c.code, r.2.1, r.2.2⟩ (n + 20)) 8 (by omega) ⟨rfl, by simp, by simp only; omega, hac⟩ (fun i s hi hR => by
      obtain ⟨xs, k, u, v⟩ := s
      obtain ⟨hx, hk, hk0, hc⟩ := hR
      simp only at hx hk hk0 hc
      by_cases hk1 : k > 0
      · obtain ⟨r, hr, _, hrc⟩ := among_ok ⟨c.code, u, v⟩ [0, 0, 1, 2, 255, 4096, 65535] _ hc (by omega) (by simp)
        simp only [hk1, decide_true, cond_true, hr, Option.bind_some, w64_id (z := k - 1) (by omega) (by omega)]
        rw [gxApp_ok (by simp; omega), Option.bind_some]
        exact Or.inl ⟨_, rfl, by simp; omega, by simp only; omega, by simp only; omega, hrc.mono (by omega)⟩
      · simp only [hk1, decide_false, cond_false]
        exact Or.inr ⟨_, rfl, by simp only; omega, by simp only; omega, hc.mono (by omega)⟩) (fun s hR => by
      obtain ⟨xs, k, u, v⟩ := s
      obtain ⟨hx, hk, hk0, hc⟩ := hR
      simp only at hx hk hk0 hc
      have hk1 : ¬ (k > 0) := by omega
      simp only [hk1, decide_false, cond_false]
      exact ⟨_, rfl, by simp only; omega, by simp only; omega, hc.mono (by omega)⟩)
  rw [hq, Option.bind_some]
  obtain ⟨b, hb, hb0, _, hb1, hbc⟩ := pick_ok ⟨c.code, q.2.1, q.2.2⟩ 32 _ hqc (by omega) (by omega)
  rw [hb, Option.bind_some]
  cases b.1 == 0 with
  | true =>
    obtain ⟨r, hr, _, hrc⟩ := among_ok ⟨c.code, b.2.1, b.2.2⟩ [(-1), 65536] _ hbc (by omega) (by simp)
    have hi : gxIdx q.1 0 = some (q.1[0]'(by omega)) := gxIdx_nat (show 0 < q.1.length by omega)
    simp only [cond_true, hr, hi, Option.bind_some]
    exact ⟨_, rfl, by simp; omega, hrc.mono (by omega)⟩
  | false => cases b.1 == 1 with
    | true =>
      simp only [cond_true, cond_false, Option.bind_some]
      exact ⟨_, rfl, by simp, hbc.mono (by omega)⟩
    | false => cases b.1 == 2 with
      | false =>
        simp only [cond_false, Option.bind_some]
        exact ⟨_, rfl, by simp only; omega, hbc.mono (by omega)⟩
      | true =>
        simp only [cond_true, cond_false]
        obtain ⟨q2, hq2', hq3, hqc2⟩ := while_inv (body := fun s10905 : List Int × Int × Int =>
          Option.bind (M.s_l1Cur_pick (⟨c.code, s10905.2.1, s10905.2.2⟩ : l1Cur) 2) fun r10926 =>
          bif decide ((s10905.1.length : Int) < (w64 (12 + r10926.1))) then (Option.bind (gxApp 8 s10905.1 [7]) fun ap10938 =>
          some (Sum.inl (β := List Int × Int × Int) (ap10938, r10926.2.1, r10926.2.2)))
          else some (.inr (s10905.1, r10926.2.1, r10926.2.2))) (s0 := (q.1, b.2.1, b.2.2)) (fun i s => s.1.length = q.1.length + i ∧ curI ⟨c.code, s.2.1, s.2.2⟩ (n + 22 + 2 * i)) (fun r => r.1.length ≤ 20 ∧ curI ⟨c.code, r.2.1, r.2.2⟩ (n + 60)) 12 (by omega) ⟨rfl, hbc⟩ (fun i s hi hR => by
            obtain ⟨xs, u, v⟩ := s
            obtain ⟨hx, hc⟩ := hR
            simp only at hx hc
            obtain ⟨r, hr, hr0, _, hr1, hrc⟩ := pick_ok ⟨c.code, u, v⟩ 2 _ hc (by omega) (by omega)
            have hr1 := hr1 (by omega)
            simp only [hr, Option.bind_some, w64_id (z := 12 + r.1) (by omega) (by omega)]
            by_cases hlt : (xs.length : Int) < 12 + r.1
            · simp only [hlt, decide_true, cond_true]
              rw [gxApp_ok (by simp; omega), Option.bind_some]
              exact Or.inl ⟨_, rfl, by simp; omega, hrc.mono (by omega)⟩
            · simp only [hlt, decide_false, cond_false]
              exact Or.inr ⟨_, rfl, by simp only; omega, hrc.mono (by omega)⟩) (fun s hR => by
            obtain ⟨xs, u, v⟩ := s
            obtain ⟨hx, hc⟩ := hR
            simp only at hx hc
            obtain ⟨r, hr, hr0, _, hr1, hrc⟩ := pick_ok ⟨c.code, u, v⟩ 2 _ hc (by omega) (by omega)
            have hr1 := hr1 (by omega)
            have hlt : ¬ ((xs.length : Int) < 12 + r.1) := by omega
            simp only [hr, Option.bind_some, w64_id (z := 12 + r.1) (by omega) (by omega), hlt, decide_false, cond_false]
            exact ⟨_, rfl, by simp only; omega, hrc.mono (by omega)⟩)
        rw [hq2']
        simp only [Option.bind_some]
        exact ⟨_, rfl, hq3, hqc2.mono (by omega)⟩
theorem storeIn_ok (c : l1Cur) (k : Int) (n : Nat) (h : curI c n) (hn : n ≤ 1099510000000) (hk : 0 ≤ k ∧ k ≤ 1000) : ∃ r, M.s_l1Cur_storeIn c k = some r ∧ curI ⟨c.code, r.2.1, r.2.2⟩ (n + 6) := by
  unfold M.s_l1Cur_storeIn
  obtain ⟨a, ha, hac⟩ := one_ok c 32 n h (by omega) (by omega)
  rw [ha, Option.bind_some]
  cases a.1 with
  | true =>
    obtain ⟨b, hb, _, hbc⟩ := among_ok ⟨c.code, a.2.1, a.2.2⟩ [(-1), k, 0] _ hac (by omega) (by simp)
    obtain ⟨d, hd, _, hdc⟩ := among_ok ⟨c.code, b.2.1, b.2.2⟩ [(-1), 65536] _ hbc (by omega) (by simp)
    simp only [cond_true, hb, hd, Option.bind_some]
    exact ⟨_, rfl, hdc⟩
  | false =>
    have hm : ∃ m, M.s_l1Most 1 k = some m ∧ m ≤ 1000 := by
      unfold M.s_l1Most
      by_cases h1 : (1 : Int) > k
      · exact ⟨1, by simp [h1], by omega⟩
      · exact ⟨k, by simp [h1], by omega⟩
    obtain ⟨m, hm, hm1⟩ := hm
    obtain ⟨b, hb, _, _, _, hbc⟩ := pick_ok ⟨c.code, a.2.1, a.2.2⟩ m _ hac (by omega) (by omega)
    obtain ⟨d, hd, _, hdc⟩ := among_ok ⟨c.code, b.2.1, b.2.2⟩ [0, 1, 5, 300, 65535] _ hbc (by omega) (by simp)
    simp only [cond_false, hm, hb, hd, Option.bind_some]
    exact ⟨_, rfl, hdc⟩
/-! ### What rounds and stores keep -/
theorem isC_iff {x : Copying} : isC x = true ↔ (memy x.Memory = true ∧ memy x.Copy = true ∧ x.Copy.length = x.Memory.length ∧ x.Dirty.length = x.Memory.length) ∧ ∀ i, i < x.Memory.length → okC x i = true := by
  unfold isC
  simp only [Bool.and_eq_true, beq_iff_eq, List.all_eq_true, List.mem_range]
  constructor
  · rintro ⟨a, b, c, d, e⟩
    exact ⟨⟨a, b, by omega, by omega⟩, e⟩
  · rintro ⟨⟨a, b, c, d⟩, e⟩
    exact ⟨a, b, by omega, by omega, e⟩
theorem memy_iff {V : List Int} : memy V = true ↔ (∀ v ∈ V, word v = true) ∧ 1 ≤ V.length ∧ V.length ≤ 12 := by
  unfold memy
  simp only [Bool.and_eq_true, List.all_eq_true, decide_eq_true_eq]
  constructor
  · rintro ⟨a, b, c⟩; exact ⟨a, by omega, by omega⟩
  · rintro ⟨a, b, c⟩; exact ⟨a, by omega, by omega⟩
theorem memy_set {V : List Int} (h : memy V = true) (i : Nat) {v : Int} (hv : word v = true) : memy (V.set i v) = true := by
  rw [memy_iff] at h ⊢
  refine ⟨fun u hu => ?_, by simpa using h.2.1, by simpa using h.2.2⟩
  rcases List.mem_or_eq_of_mem_set hu with hu | hu
  · exact h.1 u hu
  · exact hu ▸ hv
theorem getD_set {α : Type} (l : List α) (i j : Nat) (v z : α) : (l.set i v).getD j z = if i = j ∧ j < l.length then v else l.getD j z := by
  simp only [List.getD_eq_getElem?_getD, List.getElem?_set]
  by_cases h : i = j
  · subst h
    by_cases h2 : i < l.length
    · simp [h2]
    · simp [h2]
  · simp [h]
theorem dl_congr {D D' : List Bool} : ∀ i, (∀ j, j < i → D.getD j false = D'.getD j false) → dl D i = dl D' i
  | 0, _ => rfl
  | i + 1, h => by
    simp only [dl]
    rw [h i (by omega), dl_congr i fun j hj => h j (by omega)]
theorem dl_none {D : List Bool} : ∀ i, (∀ j, j < i → D.getD j false = false) → dl D i = []
  | 0, _ => rfl
  | i + 1, h => by
    simp only [dl]
    rw [h i (by omega), dl_none i fun j hj => h j (by omega)]
    rfl
theorem dl_mem {D : List Bool} : ∀ i j, j < i → D.getD j false = true → (j : Int) ∈ dl D i
  | 0, j, h, _ => by omega
  | i + 1, j, h, hd => by
    simp only [dl]
    by_cases hj : j = i
    · subst hj
      rw [hd]
      simp
    · have := dl_mem i j (by omega) hd
      exact List.mem_append_left _ this
theorem rd_same (x : Copying) (m : Int) {i j : Nat} (h : j ≠ i) : (rd x m (i + 1)).2.2.getD j false = (rd x m i).2.2.getD j false := by
  simp only [rd]
  cases x.Dirty.getD i false && decide (((rd x m i).1 : Int) < m) with
  | false => rfl
  | true =>
    simp only [cond_true]
    rw [getD_set, if_neg (by omega)]
theorem rd_sum (x : Copying) (m : Int) : ∀ i, i ≤ x.Dirty.length → (dl (rd x m i).2.2 i).length + (rd x m i).1 = (dl x.Dirty i).length
  | 0, _ => rfl
  | i + 1, hi => by
    have ih := rd_sum x m i (by omega)
    have hl := (rd_lens x m i).2.2
    have hc : dl (rd x m (i + 1)).2.2 i = dl (rd x m i).2.2 i := dl_congr i fun j hj => rd_same x m (by omega)
    have hlat := rd_later x m i i (Nat.le_refl _)
    simp only [dl]
    rw [hc]
    cases hd : x.Dirty.getD i false with
    | false =>
      have e : rd x m (i + 1) = rd x m i := by simp only [rd, hd, Bool.false_and, cond_false]
      rw [e, hlat, hd]
      simp only [cond_false, List.append_nil]
      exact ih
    | true =>
      by_cases hm : ((rd x m i).1 : Int) < m
      · have e : rd x m (i + 1) = ((rd x m i).1 + 1, (rd x m i).2.1.set i (x.Memory.getD i 0), (rd x m i).2.2.set i false) := by simp only [rd, hd, hm, decide_true, Bool.and_self, cond_true]
        rw [e]
        simp only
        rw [getD_set, if_pos ⟨rfl, by omega⟩]
        simp only [cond_false, cond_true, List.length_append, List.length_singleton, List.length_nil]
        omega
      · have e : rd x m (i + 1) = rd x m i := by simp only [rd, hd, hm, decide_false, Bool.and_false, cond_false]
        rw [e, hlat, hd]
        simp only [cond_true, List.length_append, List.length_singleton]
        omega
theorem rd_most (x : Copying) (m : Int) (h0 : 0 ≤ m) : ∀ i, ((rd x m i).1 : Int) ≤ m
  | 0 => by simpa [rd] using h0
  | i + 1 => by
    have ih := rd_most x m h0 i
    simp only [rd]
    by_cases hm : ((rd x m i).1 : Int) < m
    · cases x.Dirty.getD i false
      · simp only [Bool.false_and, cond_false]; exact ih
      · simp only [hm, decide_true, Bool.and_self, cond_true]; omega
    · simp only [hm, decide_false, Bool.and_false, cond_false]
      exact ih
theorem rd_grow (x : Copying) (m : Int) (i : Nat) : (rd x m i).1 ≤ (rd x m (i + 1)).1 := by
  simp only [rd]
  cases x.Dirty.getD i false && decide (((rd x m i).1 : Int) < m)
  · exact Nat.le_refl _
  · simp only [cond_true]; omega
theorem rd_clean (x : Copying) (m : Int) : ∀ i, i ≤ x.Dirty.length → ((rd x m i).1 : Int) < m → ∀ j, j < i → (rd x m i).2.2.getD j false = false
  | 0, _, _, j, hj => by omega
  | i + 1, hi, h, j, hj => by
    have hg := rd_grow x m i
    have hm : ((rd x m i).1 : Int) < m := by omega
    have ih := rd_clean x m i (by omega) hm
    have hl := (rd_lens x m i).2.2
    by_cases hji : j = i
    · subst hji
      cases hd : x.Dirty.getD j false with
      | false =>
        have e : rd x m (j + 1) = rd x m j := by simp only [rd, hd, Bool.false_and, cond_false]
        rw [e, rd_later x m j j (Nat.le_refl _), hd]
      | true =>
        simp only [rd, hd, hm, decide_true, Bool.and_self, cond_true]
        rw [getD_set, if_pos ⟨rfl, by omega⟩]
    · rw [rd_same x m hji]
      exact ih j (by omega)
theorem rd_good (x : Copying) (m : Int) (h : isC x = true) : ∀ i, i ≤ x.Memory.length → isC ⟨x.Memory, (rd x m i).2.1, (rd x m i).2.2⟩ = true
  | 0, _ => h
  | i + 1, hi => by
    have ih := rd_good x m h i (by omega)
    have hl := rd_lens x m i
    have hx := isC_lens h
    by_cases hc : (x.Dirty.getD i false && decide (((rd x m i).1 : Int) < m)) = true
    · have e : rd x m (i + 1) = ((rd x m i).1 + 1, (rd x m i).2.1.set i (x.Memory.getD i 0), (rd x m i).2.2.set i false) := by simp only [rd, hc, cond_true]
      rw [e]
      rw [isC_iff] at ih ⊢
      obtain ⟨⟨a, b, c, d⟩, f⟩ := ih
      simp only at a b c d f ⊢
      have hw : word (x.Memory.getD i 0) = true := by
        rw [List.getD_eq_getElem?_getD, List.getElem?_eq_getElem (show i < x.Memory.length by omega)]
        exact (memy_iff.1 a).1 _ (List.getElem_mem _)
      refine ⟨⟨a, memy_set b i hw, by simpa using c, by simpa using d⟩, fun j hj => ?_⟩
      have := f j hj
      unfold okC at this ⊢
      simp only at this ⊢
      rw [getD_set, getD_set]
      by_cases hij : i = j
      · subst hij
        rw [if_pos ⟨rfl, by omega⟩]
        simp
      · rw [if_neg (by omega), if_neg (by omega)]
        exact this
    · have hc' : (x.Dirty.getD i false && decide (((rd x m i).1 : Int) < m)) = false := by simpa using hc
      have e : rd x m (i + 1) = rd x m i := by simp only [rd, hc', cond_false]
      rw [e]
      exact ih
theorem put_good {x : Copying} {p : Store} (h : isC x = true) (hc : canStore x p = true) : isC (put x p) = true := by
  have hin := canStore_in (isC_lens h) hc
  have hx := isC_lens h
  have hw : word p.Value = true := by
    unfold canStore at hc
    rw [Bool.and_eq_true] at hc
    exact hc.2
  rw [isC_iff] at h ⊢
  obtain ⟨⟨a, b, c, d⟩, f⟩ := h
  unfold put
  simp only
  refine ⟨⟨memy_set a _ hw, b, by simpa using c, by simpa using d⟩, fun j hj => ?_⟩
  rw [List.length_set] at hj
  have := f j hj
  unfold okC at this ⊢
  simp only at this ⊢
  rw [getD_set, getD_set]
  by_cases hij : p.Word.toNat = j
  · rw [if_pos ⟨hij, hj⟩, if_pos ⟨hij, by omega⟩]
    simp
  · rw [if_neg (by omega), if_neg (by omega)]
    exact this
theorem vInts_refl (xs : List Int) (h : xs.length ≤ 4611686018427387904) : M.l_vInts xs xs = some true := by
  unfold M.l_vInts
  rw [while_run (fun i => (i : Int)) (Sum.inl ()) xs.length (by simp) h]
  · simp
  · intro i hi
    have h1 : ((i : Int) < (xs.length : Int)) := by omega
    simp [h1, gxIdx_nat hi, w64_succ (show i ≤ 4611686018427387904 by omega)]
  · simp
theorem vBools_refl (xs : List Bool) (h : xs.length ≤ 4611686018427387904) : M.l_vBools xs xs = some true := by
  unfold M.l_vBools
  rw [while_run (fun i => (i : Int)) (Sum.inl ()) xs.length (by simp) h]
  · simp
  · intro i hi
    have h1 : ((i : Int) < (xs.length : Int)) := by omega
    simp [h1, gxIdx_nat hi, w64_succ (show i ≤ 4611686018427387904 by omega)]
  · simp
theorem vCopying_refl (x : Copying) (h : fits x 1048576) : M.l_vCopying x x = some true := by
  obtain ⟨a, b, c⟩ := h
  unfold M.l_vCopying
  rw [vInts_refl _ (by omega), vInts_refl _ (by omega), vBools_refl _ (by omega)]
  rfl
theorem vHas_mem (xs : List Int) (v : Int) (h : xs.length ≤ 4611686018427387904) (hm : v ∈ xs) : M.l_vHas xs v = some true := by
  obtain ⟨i, hi, hiv⟩ := List.mem_iff_getElem.1 hm
  unfold M.l_vHas
  rw [while_first (fun i => (i : Int)) (fun i => xs.getD i 0 == v) (fun _ => (Sum.inr true : Unit ⊕ Bool)) (.inl ()) xs.length (by simp) (by omega) ?_ ?_]
  · cases hf : (List.range xs.length).find? (fun i => xs.getD i 0 == v) with
    | some k => rfl
    | none =>
      rw [List.find?_eq_none] at hf
      have := hf i (List.mem_range.2 hi)
      rw [getD_at hi, hiv] at this
      simp at this
  · intro k hk
    have e0 : ((k : Int) < (xs.length : Int)) := by omega
    rw [getD_at hk]
    simp only [e0, decide_true, cond_true, gxIdx_nat hk, Option.bind_some, w64_succ (show k ≤ 4611686018427387904 by omega)]
    cases (xs[k] == v) <;> rfl
  · simp only [Int.lt_irrefl, decide_false, cond_false]
/-- What a memory gives to begin with. -/
theorem start_lens (V : List Int) (hV : V.length ≤ 1048576) : ∃ r, M.s_StartCopy V = some r ∧ (lensC r.1 ∨ r.1 = ⟨[], [], []⟩) := by
  unfold M.s_StartCopy
  simp only [s_memory V (by omega), Option.bind_some]
  cases h : memy V with
  | false => exact ⟨_, rfl, Or.inr rfl⟩
  | true =>
    have hl := memy_len h
    simp only [own_ok V (by omega), gxMake_nat (show V.length * 8 ≤ 140737488355328 by omega), Option.bind_some, Bool.not_true, cond_false]
    refine ⟨(⟨V, List.replicate V.length 0, List.replicate V.length true⟩, true), ?_, Or.inl ⟨hl.1, hl.2, by simp, by simp⟩⟩
    rw [while_run (fun i => ((i : Int), List.replicate i true)) (List.replicate V.length true) V.length (by simp) (by omega)]
    · rfl
    · intro i hi
      have e0 : ((i : Int) < (V.length : Int)) := by omega
      simp only [e0, decide_true, cond_true, gxApp_ok (show ((List.replicate i true).length + [true].length) * 1 ≤ 140737488355328 by simp; omega), Option.bind_some, w64_succ (show i ≤ 4611686018427387904 by omega)]
      rw [List.replicate_succ']
    · simp only [Int.lt_irrefl, decide_false, cond_false]
theorem copying_ok (c : l1Cur) (n : Nat) (h : curI c n) (hn : n ≤ 1099500000000) : ∃ r, M.s_l1Cur_copying c = some r ∧ (r.1.Memory.length ≤ 12 ∧ r.1.Copy.length ≤ 12 ∧ r.1.Dirty.length ≤ 13) ∧ curI ⟨c.code, r.2.1, r.2.2⟩ (n + 300) := by
  unfold M.s_l1Cur_copying
  obtain ⟨a, ha, hal, hac⟩ := memory_ok c n h (by omega)
  obtain ⟨s, hs, hsl⟩ := start_lens a.1 (by omega)
  obtain ⟨b, hb, hb0, _, hb1, hbc⟩ := pick_ok ⟨c.code, a.2.1, a.2.2⟩ 6 _ hac (by omega) (by omega)
  have hb1 := hb1 (by omega)
  simp only [ha, hs, hb, Option.bind_some]
  obtain ⟨q, hq, hql, hqc⟩ := while_inv (body := fun s11721 : Int × Int × Int × List Int × List Int × List Bool =>
    Option.bind (α := Bool) (bif decide (s11721.1 > 0) then some (decide ((s11721.2.2.2.1.length : Int) > 0))
    else some false) fun o11763 =>
    bif o11763 then (Option.bind (M.s_l1Cur_one (⟨c.code, s11721.2.1, s11721.2.2.1⟩ : l1Cur) 2) fun r11772 =>
    Option.bind (α := Int × Int × List Int × List Int × List Bool) (bif r11772.1 then (Option.bind (M.s_l1Cur_pick (⟨c.code, r11772.2.1, r11772.2.2⟩ : l1Cur) 6) fun r11935 =>
    Option.bind (M.s_l19Round (⟨s11721.2.2.2.1, s11721.2.2.2.2.1, s11721.2.2.2.2.2⟩ : Copying) r11935.1) fun r11936 =>
    some (r11935.2.1, r11935.2.2, r11936.1.Memory, r11936.1.Copy, r11936.1.Dirty))
    else (Option.bind (M.s_l1Cur_storeIn (⟨c.code, r11772.2.1, r11772.2.2⟩ : l1Cur) (s11721.2.2.2.1.length : Int)) fun r11990 =>
    Option.bind (M.s_l19Store (⟨s11721.2.2.2.1, s11721.2.2.2.2.1, s11721.2.2.2.2.2⟩ : Copying) r11990.1) fun r12000 =>
    Option.bind (α := List Int × List Int × List Bool) (bif r12000 then (Option.bind (M.s_l19Write (⟨s11721.2.2.2.1, s11721.2.2.2.2.1, s11721.2.2.2.2.2⟩ : Copying) r11990.1) fun r12045 =>
    some (r12045.Memory, r12045.Copy, r12045.Dirty))
    else some (s11721.2.2.2.1, s11721.2.2.2.2.1, s11721.2.2.2.2.2)) fun o12026 =>
    some (r11990.2.1, r11990.2.2, o12026.1, o12026.2.1, o12026.2.2))) fun o11914 =>
    some (Sum.inl (β := Int × Int × List Int × List Int × List Bool) (w64 (s11721.1 - 1), o11914.1, o11914.2.1, o11914.2.2.1, o11914.2.2.2.1, o11914.2.2.2.2)))
    else some (.inr (s11721.2.1, s11721.2.2.1, s11721.2.2.2.1, s11721.2.2.2.2.1, s11721.2.2.2.2.2))) (s0 := (b.1, b.2.1, b.2.2, s.1.Memory, s.1.Copy, s.1.Dirty))
    (fun i st => 0 ≤ st.1 ∧ st.1 ≤ 6 - (i : Int) ∧ (lensC ⟨st.2.2.2.1, st.2.2.2.2.1, st.2.2.2.2.2⟩ ∨ (st.2.2.2.1 = [] ∧ st.2.2.2.2.1 = [] ∧ st.2.2.2.2.2 = [])) ∧ curI ⟨c.code, st.2.1, st.2.2.1⟩ (n + 102 + 10 * i))
    (fun r => (lensC ⟨r.2.2.1, r.2.2.2.1, r.2.2.2.2⟩ ∨ (r.2.2.1 = [] ∧ r.2.2.2.1 = [] ∧ r.2.2.2.2 = [])) ∧ curI ⟨c.code, r.1, r.2.1⟩ (n + 170)) 6 (by omega) ⟨hb0, by simp only; omega, by
      rcases hsl with hsl | hsl
      · exact Or.inl hsl
      · rw [hsl]; exact Or.inr ⟨rfl, rfl, rfl⟩, hbc⟩ (fun i st hi hR => by
      obtain ⟨k, u, v, xm, xc, xd⟩ := st
      obtain ⟨hk0, hk1, hx, hc⟩ := hR
      simp only at hk0 hk1 hx hc
      by_cases hgo : k > 0 ∧ (xm.length : Int) > 0
      · have hx : lensC ⟨xm, xc, xd⟩ := by
          rcases hx with hx | ⟨hx, _, _⟩
          · exact hx
          · rw [hx] at hgo
            simp at hgo
        have hxl := hx.2.1
        simp only at hxl
        obtain ⟨o, ho, hoc⟩ := one_ok ⟨c.code, u, v⟩ 2 _ hc (by omega) (by omega)
        simp only [hgo.1, hgo.2, decide_true, cond_true, Option.bind_some, ho, w64_id (z := k - 1) (by omega) (by omega)]
        cases o.1 with
        | true =>
          obtain ⟨p, hp, _, _, _, hpc⟩ := pick_ok ⟨c.code, o.2.1, o.2.2⟩ 6 _ hoc (by omega) (by omega)
          simp only [cond_true, hp, Option.bind_some, s_round ⟨xm, xc, xd⟩ p.1 (lensC_fits hx) hx]
          have hr := roundC_len p.1 hx
          exact Or.inl ⟨_, rfl, by simp only; omega, by simp only; omega, Or.inl hr.1, hpc.mono (by omega)⟩
        | false =>
          obtain ⟨p, hp, hpc⟩ := storeIn_ok ⟨c.code, o.2.1, o.2.2⟩ (xm.length : Int) _ hoc (by omega) (by omega)
          simp only [cond_false, hp, Option.bind_some, s_canStore]
          cases hcan : canStore ⟨xm, xc, xd⟩ p.1 with
          | false =>
            simp only [cond_false, Option.bind_some]
            exact Or.inl ⟨_, rfl, by simp only; omega, by simp only; omega, Or.inl hx, hpc.mono (by omega)⟩
          | true =>
            simp only [cond_true, s_put (lensC_fits hx) hx hcan, Option.bind_some]
            have hr := put_len p.1 hx
            exact Or.inl ⟨_, rfl, by simp only; omega, by simp only; omega, Or.inl hr.1, hpc.mono (by omega)⟩
      · have hg : (bif decide (k > 0) then some (decide ((xm.length : Int) > 0)) else some false) = some false := by
          by_cases hk : k > 0
          · have : ¬ ((xm.length : Int) > 0) := fun h => hgo ⟨hk, h⟩
            simp only [hk, this, decide_true, decide_false, cond_true]
          · simp only [hk, decide_false, cond_false]
        simp only [hg, Option.bind_some, cond_false]
        exact Or.inr ⟨_, rfl, hx, hc.mono (by omega)⟩) (fun st hR => by
      obtain ⟨k, u, v, xm, xc, xd⟩ := st
      obtain ⟨hk0, hk1, hx, hc⟩ := hR
      simp only at hk0 hk1 hx hc
      have hk : ¬ (k > 0) := by omega
      simp only [hk, decide_false, cond_false, Option.bind_some]
      exact ⟨_, rfl, hx, hc.mono (by omega)⟩)
  obtain ⟨qu, qv, xm, xc, xd⟩ := q
  simp only at hql hqc
  have hlen : xm.length ≤ 12 ∧ xc.length ≤ 12 ∧ xd.length ≤ 12 ∧ xc.length = xm.length ∧ xd.length = xm.length := by
    rcases hql with hx | ⟨h1, h2, h3⟩
    · unfold lensC at hx
      simp only at hx
      omega
    · rw [h1, h2, h3]; simp
  rw [hq]
  simp only [Option.bind_some]
  obtain ⟨d, hd, _, _, _, hdc⟩ := pick_ok ⟨c.code, qu, qv⟩ 24 _ hqc (by omega) (by omega)
  simp only [hd, Option.bind_some]
  cases d.1 == 0 with
  | true =>
    simp only [cond_true]
    rw [gxApp_ok (by simp; omega)]
    exact ⟨_, rfl, ⟨hlen.1, hlen.2.1, by simp; omega⟩, hdc.mono (by omega)⟩
  | false => cases d.1 == 1 with
    | false =>
      simp only [cond_false, Option.bind_some]
      exact ⟨_, rfl, ⟨hlen.1, hlen.2.1, by simp only; omega⟩, hdc.mono (by omega)⟩
    | true =>
      simp only [cond_true, cond_false]
      by_cases hz : (xc.length : Int) > 0
      · obtain ⟨e, he, _, hec⟩ := among_ok ⟨c.code, d.2.1, d.2.2⟩ [(-1), 9] _ hdc (by omega) (by simp)
        obtain ⟨f, hf, hfc⟩ := one_ok ⟨c.code, e.2.1, e.2.2⟩ 2 _ hec (by omega) (by omega)
        have i1 : gxIdx xc 0 = some (xc[0]'(by omega)) := gxIdx_nat (show 0 < xc.length by omega)
        have i2 : gxIdx xd 0 = some (xd[0]'(by omega)) := gxIdx_nat (show 0 < xd.length by omega)
        simp only [hz, decide_true, cond_true, he, hf, i1, i2, Option.bind_some]
        exact ⟨_, rfl, ⟨hlen.1, by simp; omega, by simp; omega⟩, hfc.mono (by omega)⟩
      · simp only [hz, decide_false, cond_false, Option.bind_some]
        exact ⟨_, rfl, ⟨hlen.1, hlen.2.1, by simp only; omega⟩, hdc.mono (by omega)⟩
theorem drawRound_ok (code : List Int) (h : okL okU code) : ∃ r, M.s_DrawCopyRound code = some r ∧ fits r.1 1048576 := by
  unfold M.s_DrawCopyRound
  obtain ⟨r, hr, hl, hc⟩ := copying_ok ⟨code, 0, 0⟩ 0 (cur0 h) (by omega)
  obtain ⟨a, ha, _, _⟩ := among_ok ⟨code, r.2.1, r.2.2⟩ [0, 1, 2, 3, 12, 13, (-1), 4] _ hc (by omega) (by simp)
  rw [hr, Option.bind_some, ha, Option.bind_some]
  exact ⟨_, rfl, by simp only; omega, by simp only; omega, by simp only; omega⟩
theorem drawStore_ok (code : List Int) (h : okL okU code) : ∃ r, M.s_DrawStoreWord code = some r ∧ fits r.1 1048576 := by
  unfold M.s_DrawStoreWord
  obtain ⟨r, hr, hl, hc⟩ := copying_ok ⟨code, 0, 0⟩ 0 (cur0 h) (by omega)
  obtain ⟨a, ha, _⟩ := storeIn_ok ⟨code, r.2.1, r.2.2⟩ (r.1.Memory.length : Int) _ hc (by omega) (by omega)
  rw [hr, Option.bind_some, ha, Option.bind_some]
  exact ⟨_, rfl, by simp only; omega, by simp only; omega, by simp only; omega⟩
theorem drawStart_ok (code : List Int) (h : okL okU code) : ∃ r, M.s_DrawStartCopy code = some r ∧ r.length ≤ 1048576 := by
  unfold M.s_DrawStartCopy
  obtain ⟨r, hr, hl, hc⟩ := memory_ok ⟨code, 0, 0⟩ 0 (cur0 h) (by omega)
  rw [hr, Option.bind_some]
  exact ⟨_, rfl, by omega⟩
theorem drawDirty_ok (code : List Int) (h : okL okU code) : ∃ r, M.s_DrawDirtyWords code = some r ∧ fits r 1048576 := by
  unfold M.s_DrawDirtyWords M.s_DrawIsCopying
  obtain ⟨r, hr, hl, hc⟩ := copying_ok ⟨code, 0, 0⟩ 0 (cur0 h) (by omega)
  rw [hr, Option.bind_some, Option.bind_some]
  exact ⟨_, rfl, by omega, by omega, by omega⟩
theorem i_dirtyWords_ok (x : Copying) (hf : fits x 1048576) : M.i_DirtyWords x = some (bif isC x then (dl x.Dirty x.Dirty.length, true) else ([], false)) := by
  unfold M.i_DirtyWords
  simp only [i_good x hf, i_dirty x hf.2.2, Option.bind_some]
  cases isC x <;> rfl
theorem dl_fit (x : Copying) (hf : fits x 1048576) : (dl x.Dirty x.Dirty.length).length ≤ 1048576 := by
  have := dl_length x.Dirty x.Dirty.length
  have := hf.2.2
  omega
theorem i_round_is (x : Copying) (m : Int) (hf : fits x 1048576) : M.i_CopyRound x m = some (bif isC x && (decide (0 ≤ m) && decide (m ≤ 12)) then (roundC x m, cntC x m, true) else (⟨[], [], []⟩, 0, false)) := by
  unfold M.i_CopyRound
  simp only [i_good x hf, i_in, Option.bind_some]
  cases h : isC x with
  | false => rfl
  | true => cases hc : (decide (0 ≤ m) && decide (m ≤ 12)) with
    | false => rfl
    | true =>
      simp only [i_new x hf, i_round x m hf (isC_lens h), Option.bind_some, Bool.not_true, cond_false, Bool.and_self, cond_true]
      rfl
theorem i_store_is (x : Copying) (p : Store) (hf : fits x 1048576) : M.i_StoreWord x p = some (bif isC x && canStore x p then (put x p, true) else (⟨[], [], []⟩, false)) := by
  unfold M.i_StoreWord
  simp only [i_good x hf, i_canStore, Option.bind_some]
  cases h : isC x with
  | false => rfl
  | true => cases hc : canStore x p with
    | false => rfl
    | true =>
      simp only [i_new x hf, i_put (isC_lens h) hc, Option.bind_some, Bool.not_true, cond_false, Bool.and_self, cond_true]
theorem plain_FnRounds (code : List Int) (h : okL okU code) : M.l_FnRounds code = some true := by
  unfold M.l_FnRounds M.l_vBig
  rw [Option.bind_some]
  cases decide ((code.length : Int) > 65536) with
  | true => rfl
  | false =>
    obtain ⟨d, hd, hdf⟩ := drawRound_ok code h
    obtain ⟨x, m⟩ := d
    simp only at hdf
    obtain ⟨e, he, hef⟩ := drawStore_ok code h
    obtain ⟨z, p⟩ := e
    simp only at hef
    obtain ⟨v, hv, hvl⟩ := drawStart_ok code h
    obtain ⟨t, ht, htf⟩ := drawDirty_ok code h
    obtain ⟨r1, hr1, hr2, hrf⟩ := round_eq x m hdf
    obtain ⟨s1, hs1, hs2, hsf⟩ := store_eq z p hef
    obtain ⟨u1, hu1, hu2, huf⟩ := start_eq v hvl
    obtain ⟨w1, hw1, hw2, hwf⟩ := dirty_eq t htf
    have v1 := vCopying_refl r1.1 hrf
    have v2 := vCopying_refl s1.1 hsf
    have v3 := vCopying_refl u1.1 huf
    have v4 := vInts_refl w1.1 (by omega)
    simp only [cond_false, hd, he, hv, ht, hr1, hr2, hs1, hs2, hu1, hu2, hw1, hw2, v1, v2, v3, v4, Option.bind_some, beq_self_eq_true, bne_self_eq_false, Bool.not_true, cond_true]
    -- the round
    have hround : (bif r1.2.2 then (Option.bind (M.i_DirtyWords x) fun r5929 =>
      Option.bind (M.i_DirtyWords r1.1) fun r5938 =>
      Option.bind (α := Bool) (bif !r5929.2 then some true
      else (bif !r5938.2 then some true
      else (bif (r5938.1.length : Int) != (w64 ((r5929.1.length : Int) - r1.2.1)) then some true
      else (bif decide (r1.2.1 > m) then some true
      else (bif decide (r1.2.1 < m) then (bif (r5938.1.length : Int) != 0 then some true
      else (Option.bind (M.l_vInts r1.1.Memory x.Memory) fun r5970 =>
      some (!r5970)))
      else (Option.bind (M.l_vInts r1.1.Memory x.Memory) fun r5974 =>
      some (!r5974))))))) fun o5961 =>
      bif o5961 then some (.inr false)
      else some (.inl ()))
      else some (.inl ())) = some (Sum.inl () : Unit ⊕ Bool) := by
      have hr3 := i_round_is x m hdf
      rw [hr2] at hr3
      have hr3 := Option.some.inj hr3
      cases hg : (isC x && (decide (0 ≤ m) && decide (m ≤ 12))) with
      | false =>
        rw [hg, cond_false] at hr3
        rw [hr3]
        rfl
      | true =>
        rw [hg, cond_true] at hr3
        simp only [Bool.and_eq_true, decide_eq_true_eq] at hg
        obtain ⟨hgc, hm0, hm1⟩ := hg
        have hl := isC_lens hgc
        have hlr := rd_lens x m x.Memory.length
        have hgood : isC (roundC x m) = true := rd_good x m hgc x.Memory.length (Nat.le_refl _)
        have hfr : fits (roundC x m) 1048576 := lensC_fits (roundC_len m (isC_lens hgc)).1
        have hsum := rd_sum x m x.Memory.length (by omega)
        have hmost := rd_most x m hm0 x.Memory.length
        have hdl := dl_length x.Dirty x.Memory.length
        have hdr : (roundC x m).Dirty.length = x.Memory.length := by simp only [roundC]; omega
        have hdx : x.Dirty.length = x.Memory.length := hl.2.2.2
        have hDr : (dl (roundC x m).Dirty (roundC x m).Dirty.length).length + (rd x m x.Memory.length).1 = (dl x.Dirty x.Dirty.length).length := by rw [hdr, hdx]; exact hsum
        rw [hr3]
        have vm := vInts_refl x.Memory (by omega)
        have e1 : ((dl (roundC x m).Dirty (roundC x m).Dirty.length).length : Int) = w64 (((dl x.Dirty x.Dirty.length).length : Int) - cntC x m) := by
          rw [hdx] at hDr ⊢
          unfold cntC
          rw [w64_id (by omega) (by omega)]
          omega
        have e2 : ¬ (cntC x m > m) := by unfold cntC; omega
        have vm' : M.l_vInts (roundC x m).Memory x.Memory = some true := vm
        simp only [cond_true, i_dirtyWords_ok x hdf, i_dirtyWords_ok (roundC x m) hfr, hgc, hgood, Option.bind_some, Bool.not_true, cond_false, ← e1, bne_self_eq_false, e2, decide_false, vm']
        by_cases hlt : cntC x m < m
        · have hcl := rd_clean x m x.Memory.length (by omega) hlt
          have e3 : dl (roundC x m).Dirty (roundC x m).Dirty.length = [] := by
            rw [hdr]
            exact dl_none _ hcl
          simp only [hlt, decide_true, cond_true, e3, List.length_nil]
          rfl
        · simp only [hlt, decide_false, cond_false]
          rfl
    -- the store
    have hstore : (bif s1.2 then (Option.bind (M.i_DirtyWords s1.1) fun r6659 =>
      Option.bind (α := Bool) (bif !r6659.2 then some true
      else (Option.bind (M.l_vHas r6659.1 p.Word) fun r6694 =>
      bif !r6694 then some true
      else (Option.bind (gxIdx s1.1.Memory p.Word) fun y6701 =>
      bif y6701 != p.Value then some true
      else (Option.bind (M.l_vInts s1.1.Copy z.Copy) fun r6705 =>
      some (!r6705))))) fun o6688 =>
      bif o6688 then some (.inr false)
      else some (.inl ()))
      else some (.inl ())) = some (Sum.inl () : Unit ⊕ Bool) := by
      have hs3 := i_store_is z p hef
      rw [hs2] at hs3
      have hs3 := Option.some.inj hs3
      cases hg : (isC z && canStore z p) with
      | false =>
        rw [hg, cond_false] at hs3
        rw [hs3]
        rfl
      | true =>
        rw [hg, cond_true] at hs3
        rw [Bool.and_eq_true] at hg
        have hl := isC_lens hg.1
        have hin := canStore_in hl hg.2
        have hpg := put_good hg.1 hg.2
        have hpf : fits (put z p) 1048576 := lensC_fits (put_len p (isC_lens hg.1)).1
        obtain ⟨i, hi⟩ : ∃ i : Nat, p.Word = i := ⟨p.Word.toNat, by omega⟩
        have hil : i < z.Memory.length := by omega
        have hmem : (p.Word) ∈ dl (put z p).Dirty (put z p).Dirty.length := by
          rw [hi]
          have hdlen : (put z p).Dirty.length = z.Memory.length := by simp only [put, List.length_set]; omega
          refine dl_mem _ i (by omega) ?_
          simp only [put, hi, Int.toNat_natCast]
          rw [getD_set, if_pos ⟨rfl, by omega⟩]
        have hhas := vHas_mem _ p.Word (by have := dl_fit (put z p) hpf; omega) hmem
        have hidx : gxIdx (put z p).Memory p.Word = some p.Value := by
          have : i < (put z p).Memory.length := by simp only [put, List.length_set]; exact hil
          rw [hi, gxIdx_nat this]
          simp [put, hi]
        have hcp : M.l_vInts (put z p).Copy z.Copy = some true := vInts_refl z.Copy (by omega)
        rw [hs3]
        simp only [cond_true, i_dirtyWords_ok (put z p) hpf, hpg, Option.bind_some, Bool.not_true, cond_false, hhas, hidx, bne_self_eq_false, hcp]
    rw [hround]
    simp only [Option.bind_some, Sum.elim_inl]
    rw [hstore]
    simp only [Option.bind_some, Sum.elim_inl]
end Go.Proofs.Ytjbblcdajdpfkaa
