/- Plain laws of the models: no program in sight. -/
import Derived.Test.YtjbblcdajdpfkaaM
import Derived.Test.YtjbblcdajdpfkaaL5
set_option linter.unusedVariables false
set_option linter.unusedSimpArgs false
set_option maxHeartbeats 4000000
namespace Go.Proofs.Ytjbblcdajdpfkaa
open Go.Gx
/-! ### What runs keep -/
theorem cntC_le (x : Copying) {m : Int} (h0 : 0 ≤ m) : 0 ≤ cntC x m ∧ cntC x m ≤ m := by
  have := rd_most x m h0 x.Memory.length
  unfold cntC
  omega
theorem putAll_good : ∀ (l : List Store) {x : Copying}, isC x = true → (∀ p ∈ l, canStore x p = true) → isC (putAll x l) = true
  | [], x, h, _ => h
  | p :: r, x, h, hl => by
    have h1 := put_good h (hl p (by simp))
    have h2 := putAll_good r h1 fun q hq => by
      rw [canStore_same (x := x) (put_len p (isC_lens h)).2]
      exact hl q (by simp [hq])
    exact h2
theorem runC_keep {x : Copying} {m : Int} {ls : List (List Store)} (h : isC x = true) (ho : okLists x ls = true) : ∀ i, i ≤ ls.length → isC (runC x m (ls.take i)).2 = true ∧ (runC x m (ls.take i)).2.Memory.length = x.Memory.length
  | 0, _ => by
    have : runC x m (ls.take 0) = (0, x) := by simp [runC]
    rw [this]
    exact ⟨h, rfl⟩
  | i + 1, hi => by
    obtain ⟨h1, h2⟩ := runC_keep (m := m) h ho i (by omega)
    have hs := runC_len m (ls.take (i + 1)) (isC_lens h)
    refine ⟨?_, hs.2⟩
    rw [runC_take (show i < ls.length by omega)]
    simp only [stepC]
    have hr : isC (roundC (runC x m (ls.take i)).2 m) = true := rd_good _ m h1 _ (Nat.le_refl _)
    refine putAll_good _ hr fun p hp => ?_
    rw [canStore_same (x := x) (by rw [(roundC_len m (isC_lens h1)).2, h2])]
    have := okLists_at ho (show i < ls.length by omega)
    unfold okList at this
    rw [Bool.and_eq_true] at this
    exact List.all_eq_true.1 this.1 p hp
theorem runC_good {x : Copying} {m : Int} {ls : List (List Store)} (h : isC x = true) (ho : okLists x ls = true) : isC (runC x m ls).2 = true := by
  have := (runC_keep (m := m) h ho ls.length (Nat.le_refl _)).1
  rwa [List.take_length] at this
theorem runC_count {x : Copying} {m : Int} {ls : List (List Store)} (h0 : 0 ≤ m) (hm : m ≤ 12) (hl : ls.length ≤ 8) : ∀ i, i ≤ ls.length → 0 ≤ (runC x m (ls.take i)).1 ∧ (runC x m (ls.take i)).1 ≤ m * (i : Int)
  | 0, _ => by simp [runC]
  | i + 1, hi => by
    obtain ⟨h1, h2⟩ := runC_count (x := x) h0 hm hl i (by omega)
    have hc := cntC_le (runC x m (ls.take i)).2 h0
    have hb : m * (i : Int) ≤ 12 * 8 := by
      have h3 : (i : Int) ≤ 8 := by omega
      calc m * (i : Int) ≤ 12 * (i : Int) := Int.mul_le_mul_of_nonneg_right hm (by omega)
        _ ≤ 12 * 8 := by omega
    rw [runC_take (show i < ls.length by omega)]
    simp only
    rw [w64_id (by omega) (by omega)]
    have e : m * ((i + 1 : Nat) : Int) = m * (i : Int) + m := by
      rw [show ((i + 1 : Nat) : Int) = (i : Int) + 1 by omega, Int.mul_add, Int.mul_one]
    rw [e]
    omega
def memPut (V : List Int) (p : Store) : List Int := V.set p.Word.toNat p.Value
def memAll (V : List Int) (l : List Store) : List Int := l.foldl memPut V
def memRun (V : List Int) (ls : List (List Store)) : List Int := ls.foldl memAll V
theorem putAll_mem : ∀ (l : List Store) (x : Copying), (putAll x l).Memory = memAll x.Memory l
  | [], x => rfl
  | p :: r, x => putAll_mem r (put x p)
theorem memAll_len : ∀ (l : List Store) (V : List Int), (memAll V l).length = V.length
  | [], V => rfl
  | p :: r, V => (memAll_len r (memPut V p)).trans (by simp [memPut])
theorem memRun_len : ∀ (ls : List (List Store)) (V : List Int), (memRun V ls).length = V.length
  | [], V => rfl
  | l :: r, V => (memRun_len r (memAll V l)).trans (memAll_len l V)
theorem memAll_take {V : List Int} {l : List Store} {i : Nat} (hi : i < l.length) : memAll V (l.take (i + 1)) = memPut (memAll V (l.take i)) l[i] := by
  unfold memAll
  rw [List.take_add_one, List.getElem?_eq_getElem hi, Option.toList_some, List.foldl_append]
  rfl
theorem memRun_take {V : List Int} {l : List (List Store)} {i : Nat} (hi : i < l.length) : memRun V (l.take (i + 1)) = memAll (memRun V (l.take i)) l[i] := by
  unfold memRun
  rw [List.take_add_one, List.getElem?_eq_getElem hi, Option.toList_some, List.foldl_append]
  rfl
theorem runC_mem {x : Copying} {m : Int} {ls : List (List Store)} : ∀ i, i ≤ ls.length → (runC x m (ls.take i)).2.Memory = memRun x.Memory (ls.take i)
  | 0, _ => by simp [runC, memRun]
  | i + 1, hi => by
    rw [runC_take (show i < ls.length by omega), memRun_take (show i < ls.length by omega)]
    simp only [stepC]
    rw [putAll_mem]
    have : (roundC (runC x m (ls.take i)).2 m).Memory = (runC x m (ls.take i)).2.Memory := rfl
    rw [this, runC_mem i (by omega)]
def runsOk (c : Copying) (ls : List (List Store)) (m : Int) : Bool := isC c && (okLists c ls && (decide (0 ≤ m) && decide (m ≤ 12)))
theorem i_run_is (c : Copying) (ls : List (List Store)) (m : Int) (hc : fits c 1048576) (hf : fitS ls) : M.i_RunRounds c ls m = some (bif runsOk c ls m then ((runC c m ls).2, (runC c m ls).1, true) else (⟨[], [], []⟩, 0, false)) := by
  obtain ⟨r, h1, h2, _⟩ := RunRounds_eq c ls m hc hf
  rw [h2, ← h1]
  unfold M.s_RunRounds runsOk
  simp only [s_good c hc, s_storesOk c ls hf, s_in, Option.bind_some]
  cases hg : isC c with
  | false => rfl
  | true => cases ho : okLists c ls with
    | false => rfl
    | true => cases (decide (0 ≤ m) && decide (m ≤ 12)) with
      | false => rfl
      | true =>
        simp only [Bool.not_true, cond_false, Option.bind_some, Bool.and_self, s_run c ls m (isC_lens hg) hf ho, cond_true]
theorem runsOk_take {c : Copying} {ls : List (List Store)} {m : Int} (h : runsOk c ls m = true) (n : Nat) : runsOk c (ls.take n) m = true := by
  unfold runsOk at h ⊢
  simp only [Bool.and_eq_true] at h ⊢
  exact ⟨h.1, okLists_take h.2.1 n, h.2.2⟩
theorem i_until_is (c : Copying) (ls : List (List Store)) (m rest : Int) (hc : fits c 1048576) (hf : fitS ls) : ∃ r, M.i_RoundsUntil c ls m rest = some r ∧ (r.2 = true → runsOk c ls m = true ∧ 0 ≤ rest ∧ ∃ n : Nat, r.1 = (n : Int) ∧ n ≤ ls.length ∧ calmC c m rest ls n = true ∧ ∀ j, j < n → calmC c m rest ls j = false) := by
  obtain ⟨r, h1, h2⟩ := RoundsUntil_eq c ls m rest hc hf
  refine ⟨r, h2, fun hr => ?_⟩
  unfold M.s_RoundsUntil at h1
  simp only [s_good c hc, s_storesOk c ls hf, s_in, Option.bind_some] at h1
  cases hg : isC c with
  | false => rw [hg] at h1; simp at h1; rw [← h1] at hr; cases hr
  | true => cases ho : okLists c ls with
    | false => rw [hg, ho] at h1; simp at h1; rw [← h1] at hr; cases hr
    | true => cases hm : (decide (0 ≤ m) && decide (m ≤ 12)) with
      | false => rw [hg, ho, hm] at h1; simp at h1; rw [← h1] at hr; cases hr
      | true => cases hrest : decide (rest < 0) with
        | true => rw [hg, ho, hm, hrest] at h1; simp at h1; rw [← h1] at hr; cases hr
        | false =>
          rw [hg, ho, hm, hrest] at h1
          have hlc : lensC c := isC_lens hg
          simp only [Bool.not_true, cond_false, Option.bind_some] at h1
          rw [while_first (fun n => (n : Int)) (calmC c m rest ls) (fun n => (Sum.inr ((n : Int), true) : Unit ⊕ (Int × Bool))) (.inl ()) (ls.length + 1) (by simp) (by have := hf.1; omega) ?_ ?_] at h1
          · refine ⟨by unfold runsOk; rw [hg, ho, hm]; rfl, by simpa using hrest, ?_⟩
            cases hfd : (List.range (ls.length + 1)).find? (calmC c m rest ls) with
            | none => rw [hfd] at h1; simp at h1; rw [← h1] at hr; cases hr
            | some n =>
              rw [hfd] at h1
              simp only [Option.bind_some, Sum.elim_inr, Option.some.injEq] at h1
              obtain ⟨q1, q2, q3⟩ := List.find?_range_eq_some.1 hfd
              have q2 := List.mem_range.1 q2
              refine ⟨n, by rw [← h1], by omega, q1, fun j hj => by simpa using q3 j hj⟩
          · intro n hn
            have hl := hf.1
            have e0 : ((n : Int) ≤ (ls.length : Int)) := by omega
            have hx := runC_len m (ls.take n) hlc
            have hfx := lensC_fits hx.1
            have hd := s_dirty (runC c m (ls.take n)).2 hfx.2.2
            unfold calmC
            simp only [e0, decide_true, cond_true, gxSlice_take (show n ≤ ls.length by omega), Option.bind_some, s_run c (ls.take n) m hlc (fitS_take hf n) (okLists_take ho n), hd, w64_succ (show n ≤ 4611686018427387904 by omega)]
            cases decide (((dl (runC c m (ls.take n)).2.Dirty (runC c m (ls.take n)).2.Dirty.length).length : Int) ≤ rest) <;> rfl
          · have e0 : ¬ (((ls.length + 1 : Nat) : Int) ≤ (ls.length : Int)) := by omega
            simp only [e0, decide_false, cond_false]
/-! ### Lists of stores drawn -/
theorem storeLists_ok (c : l1Cur) (k : Int) (n : Nat) (h : curI c n) (hn : n ≤ 1099500000000) (hk : 0 ≤ k ∧ k ≤ 1000) : ∃ r, M.s_l1Cur_storeLists c k = some r ∧ fitS r.1 ∧ curI ⟨c.code, r.2.1, r.2.2⟩ (n + 1000) := by
  unfold M.s_l1Cur_storeLists
  obtain ⟨a, ha, ha0, _, ha1, hac⟩ := pick_ok c 6 n h (by omega) (by omega)
  have ha1 := ha1 (by omega)
  rw [ha, Option.bind_some]
  obtain ⟨q, hq, hq1, hq2, hqc⟩ := while_inv (body := fun s13094 : List (List Store) × Int × Int × Int =>
    bif decide (s13094.2.1 > 0) then (Option.bind (M.s_l1Cur_pick (⟨c.code, s13094.2.2.1, s13094.2.2.2⟩ : l1Cur) 4) fun r13125 =>
    Option.bind (whileM (σ := List Store × Int × Int × Int) (ρ := List Store × Int × Int) (fun s13174 =>
      bif decide (s13174.2.1 > 0) then (Option.bind (M.s_l1Cur_storeIn (⟨c.code, s13174.2.2.1, s13174.2.2.2⟩ : l1Cur) k) fun r13196 =>
      Option.bind (gxApp 16 s13174.1 [r13196.1]) fun ap13207 =>
      some (.inl (ap13207, w64 (s13174.2.1 - 1), r13196.2.1, r13196.2.2)))
      else some (.inr (s13174.1, s13174.2.2.1, s13174.2.2.2))) gxFuel (([] : List Store), r13125.1, r13125.2.1, r13125.2.2)) fun out13181 =>
    Option.bind (gxApp 24 s13094.1 [out13181.1]) fun ap13229 =>
    some (Sum.inl (β := List (List Store) × Int × Int) (ap13229, w64 (s13094.2.1 - 1), out13181.2.1, out13181.2.2)))
    else some (.inr (s13094.1, s13094.2.2.1, s13094.2.2.2))) (s0 := (([] : List (List Store)), a.1, a.2.1, a.2.2))
    (fun i s => s.1.length = i ∧ totS s.1 ≤ 4 * i ∧ s.2.1 = a.1 - (i : Int) ∧ 0 ≤ s.2.1 ∧ curI ⟨c.code, s.2.2.1, s.2.2.2⟩ (n + 2 + 100 * i)) (fun r => r.1.length ≤ 6 ∧ totS r.1 ≤ 24 ∧ curI ⟨c.code, r.2.1, r.2.2⟩ (n + 700)) 6 (by omega) ⟨rfl, by simp [totS], by simp, by simp only; omega, hac⟩ (fun i s hi hR => by
      obtain ⟨xs, m, u, v⟩ := s
      obtain ⟨hx, ht, hm, hm0, hc⟩ := hR
      simp only at hx ht hm hm0 hc
      by_cases hm1 : m > 0
      · obtain ⟨b, hb, hb0, _, hb1, hbc⟩ := pick_ok ⟨c.code, u, v⟩ 4 _ hc (by omega) (by omega)
        have hb1 := hb1 (by omega)
        simp only [hm1, decide_true, cond_true, hb, Option.bind_some]
        obtain ⟨p, hp, hp1, hpc⟩ := while_inv (body := fun s13174 : List Store × Int × Int × Int =>
          bif decide (s13174.2.1 > 0) then (Option.bind (M.s_l1Cur_storeIn (⟨c.code, s13174.2.2.1, s13174.2.2.2⟩ : l1Cur) k) fun r13196 =>
          Option.bind (gxApp 16 s13174.1 [r13196.1]) fun ap13207 =>
          some (Sum.inl (β := List Store × Int × Int) (ap13207, w64 (s13174.2.1 - 1), r13196.2.1, r13196.2.2)))
          else some (.inr (s13174.1, s13174.2.2.1, s13174.2.2.2))) (s0 := (([] : List Store), b.1, b.2.1, b.2.2))
          (fun j s => s.1.length = j ∧ s.2.1 = b.1 - (j : Int) ∧ 0 ≤ s.2.1 ∧ curI ⟨c.code, s.2.2.1, s.2.2.2⟩ (n + 2 + 100 * i + 2 + 6 * j)) (fun r => r.1.length ≤ 4 ∧ curI ⟨c.code, r.2.1, r.2.2⟩ (n + 2 + 100 * (i + 1))) 4 (by omega) ⟨rfl, by simp, by simp only; omega, hbc⟩ (fun j s hj hR => by
            obtain ⟨ys, m2, u2, v2⟩ := s
            obtain ⟨hy, hm2, hm20, hc2⟩ := hR
            simp only at hy hm2 hm20 hc2
            by_cases hm3 : m2 > 0
            · obtain ⟨d, hd, hdc⟩ := storeIn_ok ⟨c.code, u2, v2⟩ k _ hc2 (by omega) hk
              simp only [hm3, decide_true, cond_true, hd, Option.bind_some, w64_id (z := m2 - 1) (by omega) (by omega)]
              rw [gxApp_ok (by simp; omega), Option.bind_some]
              exact Or.inl ⟨_, rfl, by simp; omega, by simp only; omega, by simp only; omega, hdc.mono (by omega)⟩
            · simp only [hm3, decide_false, cond_false]
              exact Or.inr ⟨_, rfl, by simp only; omega, hc2.mono (by omega)⟩) (fun s hR => by
            obtain ⟨ys, m2, u2, v2⟩ := s
            obtain ⟨hy, hm2, hm20, hc2⟩ := hR
            simp only at hy hm2 hm20 hc2
            have hm3 : ¬ (m2 > 0) := by omega
            simp only [hm3, decide_false, cond_false]
            exact ⟨_, rfl, by simp only; omega, hc2.mono (by omega)⟩)
        rw [hp]
        simp only [Option.bind_some, w64_id (z := m - 1) (by omega) (by omega)]
        rw [gxApp_ok (by simp; omega), Option.bind_some]
        exact Or.inl ⟨_, rfl, by simp; omega, by simp only [totS_app, totS]; omega, by simp only; omega, by simp only; omega, hpc⟩
      · simp only [hm1, decide_false, cond_false]
        exact Or.inr ⟨_, rfl, by simp only; omega, by simp only; omega, hc.mono (by omega)⟩) (fun s hR => by
      obtain ⟨xs, m, u, v⟩ := s
      obtain ⟨hx, ht, hm, hm0, hc⟩ := hR
      simp only at hx ht hm hm0 hc
      have hm1 : ¬ (m > 0) := by omega
      simp only [hm1, decide_false, cond_false]
      exact ⟨_, rfl, by simp only; omega, by simp only; omega, hc.mono (by omega)⟩)
  rw [hq, Option.bind_some]
  obtain ⟨e, he, hec⟩ := one_ok ⟨c.code, q.2.1, q.2.2⟩ 32 _ hqc (by omega) (by omega)
  rw [he, Option.bind_some]
  cases e.1 with
  | false =>
    simp only [cond_false, Option.bind_some]
    exact ⟨_, rfl, ⟨by simp only; omega, by simp only; omega⟩, hec.mono (by omega)⟩
  | true =>
    simp only [cond_true]
    obtain ⟨p, hp, hp1, hp2, hpc⟩ := while_inv (body := fun s13487 : List (List Store) × Int × Int =>
      Option.bind (M.s_l1Cur_pick (⟨c.code, s13487.2.1, s13487.2.2⟩ : l1Cur) 2) fun r13510 =>
      bif decide ((s13487.1.length : Int) < (w64 (8 + r13510.1))) then (Option.bind (gxApp 24 s13487.1 [([] : List Store)]) fun ap13532 =>
      some (Sum.inl (β := List (List Store) × Int × Int) (ap13532, r13510.2.1, r13510.2.2)))
      else some (.inr (s13487.1, r13510.2.1, r13510.2.2))) (s0 := (q.1, e.2.1, e.2.2)) (fun i s => s.1.length = q.1.length + i ∧ totS s.1 = totS q.1 ∧ curI ⟨c.code, s.2.1, s.2.2⟩ (n + 702 + 2 * i)) (fun r => r.1.length ≤ 20 ∧ totS r.1 ≤ 24 ∧ curI ⟨c.code, r.2.1, r.2.2⟩ (n + 800)) 10 (by omega) ⟨rfl, rfl, hec⟩ (fun i s hi hR => by
        obtain ⟨xs, u, v⟩ := s
        obtain ⟨hx, ht, hc⟩ := hR
        simp only at hx ht hc
        obtain ⟨r, hr, hr0, _, hr1, hrc⟩ := pick_ok ⟨c.code, u, v⟩ 2 _ hc (by omega) (by omega)
        have hr1 := hr1 (by omega)
        simp only [hr, Option.bind_some, w64_id (z := 8 + r.1) (by omega) (by omega)]
        by_cases hlt : (xs.length : Int) < 8 + r.1
        · simp only [hlt, decide_true, cond_true]
          rw [gxApp_ok (by simp; omega), Option.bind_some]
          exact Or.inl ⟨_, rfl, by simp; omega, by simp only [totS_app, totS]; simpa using ht, hrc.mono (by omega)⟩
        · simp only [hlt, decide_false, cond_false]
          exact Or.inr ⟨_, rfl, by simp only; omega, by simp only; omega, hrc.mono (by omega)⟩) (fun s hR => by
        obtain ⟨xs, u, v⟩ := s
        obtain ⟨hx, ht, hc⟩ := hR
        simp only at hx ht hc
        obtain ⟨r, hr, hr0, _, hr1, hrc⟩ := pick_ok ⟨c.code, u, v⟩ 2 _ hc (by omega) (by omega)
        have hr1 := hr1 (by omega)
        have hlt : ¬ ((xs.length : Int) < 8 + r.1) := by omega
        simp only [hr, Option.bind_some, w64_id (z := 8 + r.1) (by omega) (by omega), hlt, decide_false, cond_false]
        exact ⟨_, rfl, by simp only; omega, by simp only; omega, hrc.mono (by omega)⟩)
    rw [hp]
    simp only [Option.bind_some]
    exact ⟨_, rfl, ⟨by simp only; omega, by simp only; omega⟩, hpc.mono (by omega)⟩
theorem drawRuns_ok (code : List Int) (h : okL okU code) : ∃ r, M.s_DrawRunRounds code = some r ∧ fits r.1 1048576 ∧ fitS r.2.1 := by
  unfold M.s_DrawRunRounds
  obtain ⟨a, ha, hal, hac⟩ := copying_ok ⟨code, 0, 0⟩ 0 (cur0 h) (by omega)
  obtain ⟨b, hb, hbf, hbc⟩ := storeLists_ok ⟨code, a.2.1, a.2.2⟩ (a.1.Memory.length : Int) _ hac (by omega) (by omega)
  obtain ⟨d, hd, _, hdc⟩ := among_ok ⟨code, b.2.1, b.2.2⟩ [0, 1, 2, 3, 12, 13, 4] _ hbc (by omega) (by simp)
  simp only [ha, hb, hd, Option.bind_some]
  exact ⟨_, rfl, ⟨by simp only; omega, by simp only; omega, by simp only; omega⟩, hbf⟩
theorem drawUntil_ok (code : List Int) (h : okL okU code) : ∃ r, M.s_DrawRoundsUntil code = some r ∧ fits r.1 1048576 ∧ fitS r.2.1 := by
  unfold M.s_DrawRoundsUntil
  obtain ⟨a, ha, hal, hac⟩ := copying_ok ⟨code, 0, 0⟩ 0 (cur0 h) (by omega)
  obtain ⟨b, hb, hbf, hbc⟩ := storeLists_ok ⟨code, a.2.1, a.2.2⟩ (a.1.Memory.length : Int) _ hac (by omega) (by omega)
  obtain ⟨d, hd, _, hdc⟩ := among_ok ⟨code, b.2.1, b.2.2⟩ [1, 2, 3, 12, 4, 0] _ hbc (by omega) (by simp)
  obtain ⟨e, he, _, _, _, hec⟩ := pick_ok ⟨code, d.2.1, d.2.2⟩ 5 _ hdc (by omega) (by omega)
  obtain ⟨f, hf, _, _, _, hfc⟩ := pick_ok ⟨code, e.2.1, e.2.2⟩ 9 _ hec (by omega) (by omega)
  simp only [ha, hb, hd, he, hf, Option.bind_some]
  exact ⟨_, rfl, ⟨by simp only; omega, by simp only; omega, by simp only; omega⟩, hbf⟩
theorem drawFinish_ok (code : List Int) (h : okL okU code) : ∃ r, M.s_DrawFinishCopy code = some r ∧ fits r 1048576 := by
  unfold M.s_DrawFinishCopy M.s_DrawIsCopying
  obtain ⟨r, hr, hl, hc⟩ := copying_ok ⟨code, 0, 0⟩ 0 (cur0 h) (by omega)
  rw [hr, Option.bind_some, Option.bind_some]
  exact ⟨_, rfl, by omega, by omega, by omega⟩
theorem i_finish_is (x : Copying) (hf : fits x 1048576) : M.i_FinishCopy x = some (bif isC x then (x.Memory, ((dl x.Dirty x.Dirty.length).length : Int), true) else ([], 0, false)) := by
  unfold M.i_FinishCopy
  have hcp : M.i_copyInts x.Memory = some x.Memory := by
    unfold M.i_copyInts
    rw [gxApp_ok (by have := hf.1; simp; omega)]
    rfl
  simp only [i_good x hf, hcp, i_dirty x hf.2.2, Option.bind_some]
  cases isC x <;> rfl
theorem memory_law (V : List Int) (ls : List (List Store)) (hf : fitS ls) (h : ∀ l ∈ ls, ∀ p ∈ l, 0 ≤ p.Word ∧ p.Word < V.length) : whileM (σ := Int × List Int) (ρ := List Int) (fun s15655 =>
    bif decide (s15655.1 < (ls.length : Int)) then (Option.bind (whileM (σ := Int × List Int) (ρ := List Int) (fun s15867 =>
      Option.bind (gxIdx ls s15655.1) fun y15882 =>
      bif decide (s15867.1 < (y15882.length : Int)) then (Option.bind (gxIdx ls s15655.1) fun y15893 =>
      Option.bind (gxIdx y15893 s15867.1) fun y15897 =>
      Option.bind (gxIdx ls s15655.1) fun y15898 =>
      Option.bind (gxIdx y15898 s15867.1) fun y15902 =>
      Option.bind (gxIdx s15867.2 y15897.Word) fun y15974 =>
      some (.inl (w64 (s15867.1 + 1), (s15867.2.set y15897.Word.toNat y15902.Value))))
      else some (.inr s15867.2)) gxFuel (0, s15655.2)) fun out15874 =>
    some (.inl (w64 (s15655.1 + 1), out15874)))
    else some (.inr s15655.2)) gxFuel (0, V) = some (memRun V ls) := by
  have hl := hf.1
  rw [while_run (fun i => ((i : Int), memRun V (ls.take i))) (memRun V ls) ls.length (by simp [memRun]) (by omega)]
  · intro i hi
    have e0 : ((i : Int) < (ls.length : Int)) := by omega
    have hil := fitS_at hf hi
    have hVl := memRun_len (ls.take i) V
    simp only [e0, decide_true, cond_true]
    rw [while_run (fun k => ((k : Int), memAll (memRun V (ls.take i)) (ls[i].take k))) (memAll (memRun V (ls.take i)) ls[i]) ls[i].length (by simp [memAll]) (by omega)]
    · simp only [Option.bind_some, w64_succ (show i ≤ 4611686018427387904 by omega), memRun_take hi]
    · intro k hk
      have e1 : ((k : Int) < (ls[i].length : Int)) := by omega
      have hp := h _ (List.getElem_mem hi) _ (List.getElem_mem hk)
      have hml := memAll_len (ls[i].take k) (memRun V (ls.take i))
      obtain ⟨w, hw⟩ : ∃ n : Nat, ls[i][k].Word = n := ⟨ls[i][k].Word.toNat, by omega⟩
      have hwl : w < (memAll (memRun V (ls.take i)) (ls[i].take k)).length := by omega
      simp only [gxIdx_nat hi, Option.bind_some, e1, decide_true, cond_true, gxIdx_nat hk, hw, gxIdx_nat hwl, w64_succ (show k ≤ 4611686018427387904 by omega), memAll_take hk, memPut]
    · simp only [gxIdx_nat hi, Option.bind_some, Int.lt_irrefl, decide_false, cond_false, List.take_length]
  · simp only [Int.lt_irrefl, decide_false, cond_false, List.take_length]
theorem plain_FnCopies (code : List Int) (h : okL okU code) : M.l_FnCopies code = some true := by
  unfold M.l_FnCopies M.l_vBig
  rw [Option.bind_some]
  cases decide ((code.length : Int) > 65536) with
  | true => rfl
  | false =>
    obtain ⟨d, hd, hdf, hds⟩ := drawRuns_ok code h
    obtain ⟨c, ls, m⟩ := d
    simp only at hdf hds
    obtain ⟨e, he, hef, hes⟩ := drawUntil_ok code h
    obtain ⟨x, lx, mx, rest⟩ := e
    simp only at hef hes
    obtain ⟨y, hy, hyf⟩ := drawFinish_ok code h
    obtain ⟨r1, hr1, hr2, hrf⟩ := RunRounds_eq c ls m hdf hds
    obtain ⟨u1, hu1, hu2⟩ := RoundsUntil_eq x lx mx rest hef hes
    obtain ⟨f1, hf1, hf2, hff⟩ := finish_eq y hyf
    have v1 := vCopying_refl r1.1 hrf
    have v2 := vInts_refl f1.1 (by omega)
    have hI : M.s_IsCopying c = M.i_IsCopying c := by
      unfold M.s_IsCopying
      rw [s_good c hdf, i_good c hdf]
      rfl
    have hI2 := i_good c hdf
    simp only [cond_false, hd, he, hy, hr1, hr2, hu1, hu2, hf1, hf2, hI, hI2, v1, v2, Option.bind_some, beq_self_eq_true, bne_self_eq_false, Bool.not_true, cond_true]
    -- the finished copy
    have hfin : (bif r1.2.2 then (Option.bind (M.i_DirtyWords r1.1) fun r14960 =>
      Option.bind (M.i_FinishCopy r1.1) fun r14969 =>
      Option.bind (α := Bool) (bif !r14960.2 then some true
      else (bif !r14969.2.2 then some true
      else (bif r14969.2.1 != (r14960.1.length : Int) then some true
      else (Option.bind (M.l_vInts r14969.1 r1.1.Memory) fun r14997 =>
      bif !r14997 then some true
      else (bif decide (r1.2.1 > (w64 (m * (ls.length : Int)))) then some true
      else (Option.bind (M.i_IsCopying r1.1) fun r15003 =>
      some (!r15003))))))) fun o14991 =>
      bif o14991 then some (.inr false)
      else (Option.bind (gxApp 8 ([] : List Int) c.Memory) fun ap15019 =>
      Option.bind (whileM (σ := Int × List Int) (ρ := List Int) (fun s15655 =>
        bif decide (s15655.1 < (ls.length : Int)) then (Option.bind (whileM (σ := Int × List Int) (ρ := List Int) (fun s15867 =>
          Option.bind (gxIdx ls s15655.1) fun y15882 =>
          bif decide (s15867.1 < (y15882.length : Int)) then (Option.bind (gxIdx ls s15655.1) fun y15893 =>
          Option.bind (gxIdx y15893 s15867.1) fun y15897 =>
          Option.bind (gxIdx ls s15655.1) fun y15898 =>
          Option.bind (gxIdx y15898 s15867.1) fun y15902 =>
          Option.bind (gxIdx s15867.2 y15897.Word) fun y15974 =>
          some (.inl (w64 (s15867.1 + 1), (s15867.2.set y15897.Word.toNat y15902.Value))))
          else some (.inr s15867.2)) gxFuel (0, s15655.2)) fun out15874 =>
        some (.inl (w64 (s15655.1 + 1), out15874)))
        else some (.inr s15655.2)) gxFuel (0, ap15019)) fun out15662 =>
      Option.bind (M.l_vInts r14969.1 out15662) fun r15987 =>
      bif !r15987 then some (.inr false)
      else some (.inl ())))
      else some (.inl ())) = some (Sum.inl () : Unit ⊕ Bool) := by
      have hr3 := i_run_is c ls m hdf hds
      rw [hr2] at hr3
      have hr3 := Option.some.inj hr3
      cases hg : runsOk c ls m with
      | false =>
        rw [hg, cond_false] at hr3
        rw [hr3]
        rfl
      | true =>
        rw [hg, cond_true] at hr3
        unfold runsOk at hg
        simp only [Bool.and_eq_true, decide_eq_true_eq] at hg
        obtain ⟨hgc, hgl, hm0, hm1⟩ := hg
        have hlc := isC_lens hgc
        have hgood := runC_good (m := m) hgc hgl
        have hlr := runC_len m ls (isC_lens hgc)
        have hfr : fits (runC c m ls).2 1048576 := lensC_fits hlr.1
        have h8 : ls.length ≤ 8 := by
          unfold okLists at hgl
          rw [Bool.and_eq_true, decide_eq_true_eq] at hgl
          omega
        have hcount := runC_count (x := c) (m := m) (ls := ls) hm0 hm1 h8 ls.length (Nat.le_refl _)
        rw [List.take_length] at hcount
        have hmul : 0 ≤ m * (ls.length : Int) ∧ m * (ls.length : Int) ≤ 12 * 8 := by
          refine ⟨Int.mul_nonneg hm0 (by omega), ?_⟩
          calc m * (ls.length : Int) ≤ 12 * (ls.length : Int) := Int.mul_le_mul_of_nonneg_right hm1 (by omega)
            _ ≤ 12 * 8 := by omega
        have hmem := runC_mem (x := c) (m := m) (ls := ls) ls.length (Nat.le_refl _)
        rw [List.take_length] at hmem
        have hin : ∀ l ∈ ls, ∀ p ∈ l, 0 ≤ p.Word ∧ p.Word < c.Memory.length := fun l hl p hp => by
          obtain ⟨i, hi, rfl⟩ := List.getElem_of_mem hl
          obtain ⟨k, hk, rfl⟩ := List.getElem_of_mem hp
          have := canStore_in hlc (okList_at (okLists_at hgl hi) hk)
          omega
        have hlaw := memory_law c.Memory ls hds hin
        have vm := vInts_refl (memRun c.Memory ls) (by rw [memRun_len]; have := hdf.1; omega)
        have e2 : ¬ ((runC c m ls).1 > m * (ls.length : Int)) := by omega
        have hap : gxApp 8 ([] : List Int) c.Memory = some c.Memory := by
          rw [gxApp_ok (by have := hdf.1; simp; omega)]
          rfl
        rw [hr3]
        simp only [cond_true, i_dirtyWords_ok (runC c m ls).2 hfr, i_finish_is (runC c m ls).2 hfr, hgood, Option.bind_some, Bool.not_true, cond_false, bne_self_eq_false, hmem, vm, w64_id (z := m * (ls.length : Int)) (by omega) (by omega), e2, decide_false, i_good (runC c m ls).2 hfr, hap, hlaw]
    rw [hfin]
    simp only [Option.bind_some, Sum.elim_inl]
    have huntil : (bif u1.2 then (Option.bind (gxSlice lx 0 u1.1) fun ys16586 =>
      Option.bind (M.i_RunRounds x ys16586 mx) fun r16596 =>
      Option.bind (M.i_DirtyWords r16596.1) fun r16674 =>
      Option.bind (α := Bool) (bif !r16596.2.2 then some true
      else (bif !r16674.2 then some true
      else some (decide ((r16674.1.length : Int) > rest)))) fun o16685 =>
      bif o16685 then some (.inr false)
      else (Option.bind (α := (Unit) ⊕ (Bool)) (bif decide (u1.1 > 0) then (Option.bind (gxSlice lx 0 (w64 (u1.1 - 1))) fun ys16814 =>
      Option.bind (M.i_RunRounds x ys16814 mx) fun r16820 =>
      Option.bind (M.i_DirtyWords r16820.1) fun r16902 =>
      Option.bind (α := Bool) (bif !r16820.2.2 then some true
      else (bif !r16902.2 then some true
      else some (decide ((r16902.1.length : Int) ≤ rest)))) fun o16913 =>
      bif o16913 then some (.inr false)
      else some (.inl ()))
      else some (.inl ())) fun out16810 => Sum.elim (fun (o16807 : Unit) =>
      some (.inl ())) (fun r => some (.inr r)) out16810))
      else some (.inl ())) = some (Sum.inl () : Unit ⊕ Bool) := by
      obtain ⟨q, hq, hq2⟩ := i_until_is x lx mx rest hef hes
      rw [hu2] at hq
      have hq := Option.some.inj hq
      subst hq
      cases hb : u1.2 with
      | false => rfl
      | true =>
        obtain ⟨hg, hr0, n, hn, hnl, hc1, hc2⟩ := hq2 hb
        have hgc : isC x = true := by
          unfold runsOk at hg
          rw [Bool.and_eq_true] at hg
          exact hg.1
        have hgl : okLists x lx = true := by
          unfold runsOk at hg
          simp only [Bool.and_eq_true] at hg
          exact hg.2.1
        have run : ∀ k, k ≤ lx.length → M.i_RunRounds x (lx.take k) mx = some ((runC x mx (lx.take k)).2, (runC x mx (lx.take k)).1, true) ∧ M.i_DirtyWords (runC x mx (lx.take k)).2 = some (dl (runC x mx (lx.take k)).2.Dirty (runC x mx (lx.take k)).2.Dirty.length, true) := fun k hk => by
          refine ⟨?_, ?_⟩
          · rw [i_run_is x (lx.take k) mx hef (fitS_take hes k), runsOk_take hg k]
            rfl
          · have hlr := runC_len mx (lx.take k) (isC_lens hgc)
            rw [i_dirtyWords_ok _ (lensC_fits hlr.1), (runC_keep (m := mx) hgc hgl k hk).1]
            rfl
        obtain ⟨h1, h2⟩ := run n hnl
        unfold calmC at hc1
        rw [decide_eq_true_eq] at hc1
        have e1 : ¬ (((dl (runC x mx (lx.take n)).2.Dirty (runC x mx (lx.take n)).2.Dirty.length).length : Int) > rest) := by omega
        rw [hn]
        simp only [cond_true, gxSlice_take hnl, Option.bind_some, h1, h2, Bool.not_true, cond_false, e1, decide_false]
        by_cases hn0 : n = 0
        · subst hn0
          simp
        · have hn1 : ((n : Int) > 0) := by omega
          have ew : w64 ((n : Int) - 1) = ((n - 1 : Nat) : Int) := by
            have := hes.1
            rw [w64_id (by omega) (by omega)]
            omega
          obtain ⟨h3, h4⟩ := run (n - 1) (by omega)
          have hc3 := hc2 (n - 1) (by omega)
          unfold calmC at hc3
          rw [decide_eq_false_iff_not] at hc3
          simp only [hn1, decide_true, cond_true, ew, gxSlice_take (show n - 1 ≤ lx.length by omega), Option.bind_some, h3, h4, Bool.not_true, cond_false, hc3, decide_false, Sum.elim_inl]
    rw [huntil]
    simp only [Option.bind_some, Sum.elim_inl]
end Go.Proofs.Ytjbblcdajdpfkaa
