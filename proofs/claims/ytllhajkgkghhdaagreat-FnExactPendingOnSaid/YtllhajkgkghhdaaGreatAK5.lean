/- Plain laws of the models: no program in sight. -/
import Derived.Test.YtllhajkgkghhdaaGreatAM
import Derived.Test.YtllhajkgkghhdaaGreatAK4
set_option linter.unusedVariables false
set_option linter.unusedSimpArgs false
set_option maxHeartbeats 4000000
namespace Go.Proofs.YtllhajkgkghhdaaGreat
open Go.Gx
theorem i_routesZ (xs : List Route) (c : Int) (h : xs.length ≤ 1048576) : M.i_areRoutes xs c = some (okRts xs c) := by
  unfold M.i_areRoutes M.slices_ContainsFunc_109__i_areRoutes_1 M.slices_IndexFunc_159__i_areRoutes_1 okRts
  simp only [i_in, Option.bind_some]
  cases (decide (1 ≤ c) && decide (c ≤ 2)) with
  | false => rfl
  | true => cases ((xs.length : Int) == 8) with
    | false => rfl
    | true =>
      simp only [cond_true, Bool.true_and]
      rw [while_first (fun i => (i : Int)) (fun i => !(okRt c (xs.getD i ⟨0, 0⟩))) (fun i => (Sum.inr (i : Int) : Unit ⊕ Int)) (Sum.inl ()) xs.length (by simp) (by omega)]
      · cases hf : (List.range xs.length).find? (fun i => !(okRt c (xs.getD i ⟨0, 0⟩))) with
        | none =>
          have : (List.range xs.length).all (fun i => okRt c (xs.getD i ⟨0, 0⟩)) = true := by
            rw [List.all_eq_true]
            intro i hi
            have := List.find?_eq_none.1 hf i hi
            simpa using this
          rw [this]
          rfl
        | some i =>
          have h1 := List.find?_some hf
          have h2 := List.mem_of_find?_eq_some hf
          have : (List.range xs.length).all (fun i => okRt c (xs.getD i ⟨0, 0⟩)) = false := by
            rw [List.all_eq_false]
            exact ⟨i, h2, by simpa using h1⟩
          have hge : ((i : Int) ≥ 0) := by omega
          rw [this]
          simp only [Option.bind_some, Sum.elim_inr, hge, decide_true, Bool.not_true]
      · intro i hi
        have e0 : ((i : Int) < (xs.length : Int)) := by omega
        simp only [e0, decide_true, cond_true, gxIdx_nat hi, Option.bind_some, M.i_areRoutes_1, M.i_isPriority, i_in, getD_at hi, w64_succ (show i ≤ 4611686018427387904 by omega)]
        unfold okRt
        cases (decide (0 ≤ xs[i].Priority) && decide (xs[i].Priority ≤ 15)) with
        | false => rfl
        | true =>
          simp only [Bool.not_true, cond_false, Option.bind_some, Bool.true_and]
          cases (decide (0 ≤ xs[i].Target) && decide (xs[i].Target ≤ w64 (c - 1))) <;> rfl
      · simp
/-! ### Whole machines -/
def okQueue (x : Queue) : Prop := okL okSlot x.Slots ∧ okL okWaiter x.Waiting
def okInterface (x : Interface) : Prop := okI x.Mask ∧ okL okI x.Stack ∧ okQueue x.Queue
def okMachine (x : Machine) : Prop := okL okRoute x.Routes ∧ okL okB x.Enabled ∧ okL okB x.Raised ∧ okL okInterface x.Cpus
theorem toIf_id (x : Interface) (h : fitIf x) : M.l_toInterface x = some x := by
  unfold M.l_toInterface M.l_toQueue
  simp only [toIntS_id _ (show x.Stack.length ≤ 1099511627776 by have := h.1; omega), toSlotS_id _ (show x.Queue.Slots.length ≤ 1099511627776 by have := h.2.1; omega), toWaiterS_id _ (show x.Queue.Waiting.length ≤ 1099511627776 by have := h.2.2; omega), Option.bind_some]
theorem toIfS_id (xs : List Interface) (hl : xs.length ≤ 1048576) (h : ∀ x ∈ xs, fitIf x) : M.l_toInterfaceS xs = some xs := by
  unfold M.l_toInterfaceS
  rw [gxMake_nat (by omega), Option.bind_some, while_run (fun i => ((i : Int), taken xs ⟨0, [], ⟨[], []⟩⟩ i)) xs xs.length (by simp [taken_zero]) (by omega)]
  · rfl
  · intro i hi
    have h1 : ((i : Int) < (xs.length : Int)) := by omega
    have h2 : i < (taken xs (⟨0, [], ⟨[], []⟩⟩ : Interface) i).length := by rw [taken_length (by omega)]; exact hi
    have h3 := toIf_id xs[i] (h _ (List.getElem_mem hi))
    simp only [h1, decide_true, cond_true, gxIdx_nat hi, gxIdx_nat h2, Option.bind_some]
    rw [h3]
    simp only [Option.bind_some, w64_succ (show i ≤ 4611686018427387904 by omega), Int.toNat_natCast]
    have := taken_set (z := (⟨0, [], ⟨[], []⟩⟩ : Interface)) hi
    rw [← this]
  · simp [taken_all]
theorem toMachine_id (m : Machine) (h : fitM m) : M.l_toMachine m = some m := by
  obtain ⟨h1, h2, h3, h4, h5, _⟩ := h
  unfold M.l_toMachine
  simp only [toRouteS_id _ (show m.Routes.length ≤ 1099511627776 by omega), toBoolS_id _ (show m.Enabled.length ≤ 1099511627776 by omega), toBoolS_id _ (show m.Raised.length ≤ 1099511627776 by omega), toIfS_id _ h4 h5, Option.bind_some]
theorem sz_len (n : Nat) (left : Int) (h : n ≤ 9223372036854775807) (hl : -1 ≤ left ∧ left ≤ 1048576) : ∃ q, (bif decide (w64 (left - (n : Int)) < 0) then some (-1 : Int) else some (w64 (left - (n : Int)))) = some q ∧ (q < 0 ∨ (0 ≤ q ∧ q ≤ left ∧ q + (n : Int) = left)) := by
  rw [w64_id (by omega) (by omega)]
  by_cases hc : left - (n : Int) < 0
  · exact ⟨-1, by simp [hc], Or.inl (by omega)⟩
  · exact ⟨left - n, by simp [hc], Or.inr (by omega)⟩
def nIf (x : Interface) : Nat := x.Stack.length + x.Queue.Slots.length + x.Queue.Waiting.length
theorem szIf_ex (x : Interface) (left : Int) (h : okInterface x) (hl : 0 ≤ left ∧ left ≤ 1048576) : ∃ q, M.l_szInterface x left = some q ∧ (q < 0 ∨ (0 ≤ q ∧ q ≤ left ∧ q + (nIf x : Int) = left)) := by
  unfold M.l_szInterface M.l_szQueue M.l_szIntS M.l_szSlotS M.l_szWaiterS nIf
  obtain ⟨q1, h1, e1⟩ := sz_len x.Stack.length left h.2.1.1 (by omega)
  rw [h1, Option.bind_some]
  rcases e1 with e1 | e1
  · simp only [e1, decide_true, cond_true]
    exact ⟨_, rfl, Or.inl (by omega)⟩
  obtain ⟨q2, h2, e2⟩ := sz_len x.Queue.Slots.length q1 h.2.2.1.1 (by omega)
  have hn1 : ¬ (q1 < 0) := by omega
  simp only [hn1, decide_false, cond_false]
  rw [h2, Option.bind_some]
  rcases e2 with e2 | e2
  · simp only [e2, decide_true, cond_true, Option.bind_some]
    exact ⟨_, rfl, Or.inl (by omega)⟩
  obtain ⟨q3, h3, e3⟩ := sz_len x.Queue.Waiting.length q2 h.2.2.2.1 (by omega)
  have hn2 : ¬ (q2 < 0) := by omega
  simp only [hn2, decide_false, cond_false]
  rw [h3, Option.bind_some]
  rcases e3 with e3 | e3
  · simp only [e3, decide_true, cond_true, Option.bind_some]
    exact ⟨_, rfl, Or.inl (by omega)⟩
  have hn3 : ¬ (q3 < 0) := by omega
  simp only [hn3, decide_false, cond_false, Option.bind_some]
  exact ⟨_, rfl, Or.inr (by omega)⟩
def nIfs (xs : List Interface) : Nat := (xs.map nIf).sum
theorem nIfs_snoc (xs : List Interface) (x : Interface) : nIfs (xs ++ [x]) = nIfs xs + nIf x := by simp [nIfs]
theorem szIfS_ex (xs : List Interface) (left : Int) (h : okL okInterface xs) (hl : -1 ≤ left ∧ left ≤ 1048576) : ∃ q, M.l_szInterfaceS xs left = some q ∧ (q < 0 ∨ (0 ≤ q ∧ q ≤ left ∧ q + (nIfs xs : Int) + (xs.length : Int) = left)) := by
  unfold M.l_szInterfaceS
  have h1 := h.1
  rw [w64_id (by omega) (by omega)]
  by_cases hc : left - (xs.length : Int) < 0
  · simp only [hc, decide_true, cond_true]
    exact ⟨-1, rfl, Or.inl (by omega)⟩
  · simp only [hc, decide_false, cond_false]
    obtain ⟨r, hr, hq⟩ := while_inv (body := fun s185 : Int × Int =>
      bif decide (s185.2 < (xs.length : Int)) then (Option.bind (gxIdx xs s185.2) fun y197 =>
      Option.bind (M.l_szInterface (⟨y197.Mask, y197.Stack, (⟨y197.Queue.Slots, y197.Queue.Waiting⟩ : Queue)⟩ : Interface) s185.1) fun r207 =>
      bif decide (r207 < 0) then some (Sum.inr (α := Int × Int) (Sum.inr (α := Int) (-1 : Int)))
      else some (.inl (r207, w64 (s185.2 + 1))))
      else some (.inr (.inl s185.1))) (s0 := (left - (xs.length : Int), 0)) (fun i s => s.2 = (i : Int) ∧ 0 ≤ s.1 ∧ s.1 + (nIfs (xs.take i) : Int) = left - (xs.length : Int)) (fun r => (∃ q, r = Sum.inl q ∧ 0 ≤ q ∧ q + (nIfs xs : Int) = left - (xs.length : Int)) ∨ r = Sum.inr (-1)) xs.length (by omega) ⟨rfl, by simp only; omega, by simp [nIfs]⟩ (fun i s hi hR => by
        obtain ⟨l, j⟩ := s
        obtain ⟨hj, hl0, hls⟩ := hR
        simp only at hj hl0 hls
        subst hj
        have e0 : ((i : Int) < (xs.length : Int)) := by omega
        obtain ⟨q, hq, e⟩ := szIf_ex xs[i] l (h.2 _ (List.getElem_mem hi)) (by omega)
        simp only [e0, decide_true, cond_true, gxIdx_nat hi, Option.bind_some]
        rw [hq, Option.bind_some]
        rcases e with e | e
        · simp only [e, decide_true, cond_true]
          exact Or.inr ⟨_, rfl, Or.inr rfl⟩
        · have hn : ¬ (q < 0) := by omega
          simp only [hn, decide_false, cond_false, w64_succ (show i ≤ 4611686018427387904 by omega)]
          refine Or.inl ⟨_, rfl, rfl, by simp only; omega, ?_⟩
          rw [List.take_add_one, List.getElem?_eq_getElem hi, Option.toList_some, nIfs_snoc]
          simp only
          omega) (fun s hR => by
        obtain ⟨l, j⟩ := s
        obtain ⟨hj, hl0, hls⟩ := hR
        simp only at hj hl0 hls
        subst hj
        rw [List.take_length] at hls
        simp only [Int.lt_irrefl, decide_false, cond_false]
        exact ⟨_, rfl, Or.inl ⟨_, rfl, hl0, hls⟩⟩)
    rw [hr, Option.bind_some]
    rcases hq with ⟨q, rfl, h2, h3⟩ | rfl
    · exact ⟨q, rfl, Or.inr (by omega)⟩
    · exact ⟨-1, rfl, Or.inl (by omega)⟩
theorem mem_nIfs {xs : List Interface} {x : Interface} (h : x ∈ xs) : nIf x ≤ nIfs xs := by
  induction xs with
  | nil => cases h
  | cons y r ih =>
    simp only [nIfs, List.map_cons, List.sum_cons]
    rcases List.mem_cons.1 h with rfl | h
    · omega
    · have := ih h
      unfold nIfs at this
      omega
theorem wIfs_le (xs : List Interface) : wIfs xs ≤ 3 * nIfs xs + xs.length := by
  induction xs with
  | nil => simp [wIfs, nIfs]
  | cons y r ih =>
    simp only [wIfs, nIfs, List.map_cons, List.sum_cons, List.length_cons] at ih ⊢
    have : wIf y ≤ 3 * nIf y + 1 := by unfold wIf nIf; omega
    omega
theorem szMachine_ex (m : Machine) (left : Int) (h : okMachine m) (hl : 0 ≤ left ∧ left ≤ 1048576) : ∃ q, M.l_szMachine m left = some q ∧ (q < 0 ∨ (0 ≤ q ∧ q ≤ left ∧ fitM m)) := by
  unfold M.l_szMachine M.l_szRouteS M.l_szBoolS
  obtain ⟨q1, h1, e1⟩ := sz_len m.Routes.length left h.1.1 (by omega)
  rw [h1, Option.bind_some]
  rcases e1 with e1 | e1
  · simp only [e1, decide_true, cond_true]
    exact ⟨_, rfl, Or.inl (by omega)⟩
  have hn1 : ¬ (q1 < 0) := by omega
  simp only [hn1, decide_false, cond_false]
  obtain ⟨q2, h2, e2⟩ := sz_len m.Enabled.length q1 h.2.1.1 (by omega)
  rw [h2, Option.bind_some]
  rcases e2 with e2 | e2
  · simp only [e2, decide_true, cond_true]
    exact ⟨_, rfl, Or.inl (by omega)⟩
  have hn2 : ¬ (q2 < 0) := by omega
  simp only [hn2, decide_false, cond_false]
  obtain ⟨q3, h3, e3⟩ := sz_len m.Raised.length q2 h.2.2.1.1 (by omega)
  rw [h3, Option.bind_some]
  rcases e3 with e3 | e3
  · simp only [e3, decide_true, cond_true]
    exact ⟨_, rfl, Or.inl (by omega)⟩
  have hn3 : ¬ (q3 < 0) := by omega
  simp only [hn3, decide_false, cond_false]
  obtain ⟨q4, h4, e4⟩ := szIfS_ex m.Cpus q3 h.2.2.2 (by omega)
  rw [h4, Option.bind_some]
  rcases e4 with e4 | e4
  · simp only [e4, decide_true, cond_true]
    exact ⟨_, rfl, Or.inl (by omega)⟩
  have hn4 : ¬ (q4 < 0) := by omega
  simp only [hn4, decide_false, cond_false]
  have hw := wIfs_le m.Cpus
  exact ⟨_, rfl, Or.inr ⟨e4.1, by omega, by omega, by omega, by omega, by omega, fun x hx => by
    have := mem_nIfs hx
    unfold nIf at this
    exact ⟨by omega, by omega, by omega⟩, by omega⟩⟩
/-! ### The routes of a processor -/
def gR : Route := ⟨0, 0⟩
def rtOk (rs : List Route) (k q p : Int) : Bool := (rs.getD q.toNat gR).Target == k && (rs.getD q.toNat gR).Priority == p
def fitOk (rs : List Route) (k : Int) (x : Interface) : Bool := (x.Queue.Slots.all fun s => !(s.State == 3)) && ((x.Queue.Slots.all fun s => (s.State == 0) || rtOk rs k s.Irq s.Priority) && (x.Queue.Waiting.all fun w => rtOk rs k w.Irq w.Priority))
theorem goodI_irqs {x : Interface} (h : goodI x = true) : (∀ s ∈ x.Queue.Slots, 0 ≤ s.Irq ∧ s.Irq ≤ 7) ∧ ∀ w ∈ x.Queue.Waiting, 0 ≤ w.Irq ∧ w.Irq ≤ 7 := by
  unfold goodI goodQ goodP goodS at h
  simp only [Bool.and_eq_true, List.all_eq_true] at h
  constructor
  · intro s hs
    obtain ⟨i, hi, rfl⟩ := List.getElem_of_mem hs
    have := h.2.1.1.1.2 i (List.mem_range.2 hi)
    unfold okSl inR at this
    rw [getD_at hi] at this
    simp only [Bool.and_eq_true, decide_eq_true_eq] at this
    exact this.2.1
  · intro w hw
    obtain ⟨i, hi, rfl⟩ := List.getElem_of_mem hw
    have := h.2.1.1.2 i (List.mem_range.2 hi)
    unfold okW inR at this
    rw [getD_at hi] at this
    simp only [Bool.and_eq_true, decide_eq_true_eq] at this
    exact this.1
theorem gxIdx_irq {rs : List Route} (hr : rs.length = 8) {q : Int} (hq : 0 ≤ q ∧ q ≤ 7) : gxIdx rs q = some (rs.getD q.toNat gR) := by
  obtain ⟨n, rfl⟩ : ∃ n : Nat, q = n := ⟨q.toNat, by omega⟩
  rw [gxIdx_nat (by omega), Int.toNat_natCast, getD_at (by omega)]
theorem range_all {α : Type} (xs : List α) (z : α) (p : α → Bool) : (List.range xs.length).all (fun i => p (xs.getD i z)) = xs.all p := by
  rw [Bool.eq_iff_iff, List.all_eq_true, List.all_eq_true]
  constructor
  · intro h x hx
    obtain ⟨i, hi, rfl⟩ := List.getElem_of_mem hx
    have := h i (List.mem_range.2 hi)
    rwa [getD_at hi] at this
  · intro h i hi
    have hi := List.mem_range.1 hi
    rw [getD_at hi]
    exact h _ (List.getElem_mem hi)
theorem s_fit (rs : List Route) (k : Int) (x : Interface) (hr : rs.length = 8) (h : fitIf x) (hg : goodI x = true) : M.s_l21Queue rs x.Queue k = some (fitOk rs k x) := by
  obtain ⟨g1, g2⟩ := goodI_irqs hg
  have hs := h.2.1
  have hw := h.2.2
  unfold M.s_l21Queue
  rw [while_all (fun i => (i : Int)) (fun i => (fun s : Slot => !(s.State == 3) && ((s.State == 0) || rtOk rs k s.Irq s.Priority)) (x.Queue.Slots.getD i gS)) (Sum.inr false : Unit ⊕ Bool) (Sum.inl ()) x.Queue.Slots.length (by simp) (by omega)]
  · rw [range_all x.Queue.Slots gS (fun s : Slot => !(s.State == 3) && ((s.State == 0) || rtOk rs k s.Irq s.Priority)), while_all (fun i => (i : Int)) (fun i => (fun w : Waiter => rtOk rs k w.Irq w.Priority) (x.Queue.Waiting.getD i gW)) (Sum.inr false : Unit ⊕ Bool) (Sum.inl ()) x.Queue.Waiting.length (by simp) (by omega)]
    · rw [range_all x.Queue.Waiting gW (fun w : Waiter => rtOk rs k w.Irq w.Priority)]
      unfold fitOk
      have : (x.Queue.Slots.all fun s : Slot => !(s.State == 3) && ((s.State == 0) || rtOk rs k s.Irq s.Priority)) = ((x.Queue.Slots.all fun s => !(s.State == 3)) && (x.Queue.Slots.all fun s => (s.State == 0) || rtOk rs k s.Irq s.Priority)) := by
        rw [Bool.eq_iff_iff]
        simp only [Bool.and_eq_true, List.all_eq_true]
        exact ⟨fun hh => ⟨fun s hs => (hh s hs).1, fun s hs => (hh s hs).2⟩, fun hh s hs => ⟨hh.1 s hs, hh.2 s hs⟩⟩
      rw [this, ← Bool.and_assoc]
      cases ((x.Queue.Slots.all fun s => !(s.State == 3)) && (x.Queue.Slots.all fun s => (s.State == 0) || rtOk rs k s.Irq s.Priority)) with
      | false => rfl
      | true => cases (x.Queue.Waiting.all fun w : Waiter => rtOk rs k w.Irq w.Priority) <;> rfl
    · intro i hi
      have e0 : ((i : Int) < (x.Queue.Waiting.length : Int)) := by omega
      simp only [e0, decide_true, cond_true, gxIdx_nat hi, Option.bind_some, gxIdx_irq hr (g2 _ (List.getElem_mem hi)), getD_at hi, w64_succ (show i ≤ 4611686018427387904 by omega), rtOk, bne]
      cases ((rs.getD x.Queue.Waiting[i].Irq.toNat gR).Target == k) with
      | false => rfl
      | true => cases ((rs.getD x.Queue.Waiting[i].Irq.toNat gR).Priority == x.Queue.Waiting[i].Priority) <;> rfl
    · simp
  · intro i hi
    have e0 : ((i : Int) < (x.Queue.Slots.length : Int)) := by omega
    simp only [e0, decide_true, cond_true, gxIdx_nat hi, Option.bind_some, gxIdx_irq hr (g1 _ (List.getElem_mem hi)), getD_at hi, w64_succ (show i ≤ 4611686018427387904 by omega), rtOk, bne]
    cases (x.Queue.Slots[i].State == 3) with
    | true => rfl
    | false => cases (x.Queue.Slots[i].State == 0) with
      | true => rfl
      | false => cases ((rs.getD x.Queue.Slots[i].Irq.toNat gR).Target == k) with
        | false => rfl
        | true => cases ((rs.getD x.Queue.Slots[i].Irq.toNat gR).Priority == x.Queue.Slots[i].Priority) <;> rfl
  · simp
theorem i_fit (rs : List Route) (k : Int) (x : Interface) (hr : rs.length = 8) (h : fitIf x) (hg : goodI x = true) : M.i_fitsRoutes rs k x = some (fitOk rs k x) := by
  obtain ⟨g1, g2⟩ := goodI_irqs hg
  have hs := h.2.1
  have hw := h.2.2
  unfold M.i_fitsRoutes
  have hcl : M.slices_Clone_118 x.Queue.Waiting = some x.Queue.Waiting := by
    unfold M.slices_Clone_118
    rw [gxApp_ok (by simp; omega)]
    rfl
  rw [hcl, Option.bind_some]
  rw [while_upto (fun i => (x.Queue.Waiting ++ ((x.Queue.Slots.take i).filter (fun s => s.State != 0)).map (fun s => (⟨s.Irq, s.Priority⟩ : Waiter)), (i : Int))) (fun i => !((x.Queue.Slots.getD i gS).State == 3)) (Sum.inr false : List Waiter ⊕ Bool) (Sum.inl (x.Queue.Waiting ++ (x.Queue.Slots.filter (fun s => s.State != 0)).map (fun s => (⟨s.Irq, s.Priority⟩ : Waiter)))) x.Queue.Slots.length (by simp) (by omega)]
  · rw [range_all x.Queue.Slots gS (fun s => !(s.State == 3))]
    unfold fitOk
    cases (x.Queue.Slots.all fun s => !(s.State == 3)) with
    | false => rfl
    | true =>
      simp only [cond_true, Option.bind_some, Sum.elim_inl, Bool.true_and]
      unfold M.slices_ContainsFunc_120__i_fitsRoutes_1 M.slices_IndexFunc_166__i_fitsRoutes_1
      generalize hL : x.Queue.Waiting ++ (x.Queue.Slots.filter (fun s => s.State != 0)).map (fun s => (⟨s.Irq, s.Priority⟩ : Waiter)) = L
      have hLl : L.length ≤ 4194304 := by
        rw [← hL, List.length_append, List.length_map]
        have := List.length_filter_le (fun s : Slot => s.State != 0) x.Queue.Slots
        omega
      have hLi : ∀ w ∈ L, 0 ≤ w.Irq ∧ w.Irq ≤ 7 := fun w hwm => by
        rw [← hL, List.mem_append] at hwm
        rcases hwm with h1 | h1
        · exact g2 w h1
        · obtain ⟨s, hs1, rfl⟩ := List.mem_map.1 h1
          exact g1 s (List.mem_filter.1 hs1).1
      have hval : (L.all fun w => rtOk rs k w.Irq w.Priority) = ((x.Queue.Slots.all fun s => (s.State == 0) || rtOk rs k s.Irq s.Priority) && (x.Queue.Waiting.all fun w => rtOk rs k w.Irq w.Priority)) := by
        rw [← hL, List.all_append, Bool.and_comm]
        congr 1
        rw [Bool.eq_iff_iff]
        simp only [List.all_eq_true, List.mem_map, List.mem_filter, bne, Bool.not_eq_true', Bool.or_eq_true]
        constructor
        · intro hh s hs1
          cases hz : (s.State == 0) with
          | true => exact Or.inl rfl
          | false => exact Or.inr (hh _ ⟨s, ⟨hs1, hz⟩, rfl⟩)
        · rintro hh w ⟨s, ⟨hs1, hz⟩, rfl⟩
          rcases hh s hs1 with h1 | h1
          · rw [hz] at h1; cases h1
          · exact h1
      rw [← hval]
      rw [while_first (fun i => (i : Int)) (fun i => !(rtOk rs k (L.getD i gW).Irq (L.getD i gW).Priority)) (fun i => (Sum.inr (i : Int) : Unit ⊕ Int)) (Sum.inl ()) L.length (by simp) (by omega)]
      · cases hf : (List.range L.length).find? (fun i => !(rtOk rs k (L.getD i gW).Irq (L.getD i gW).Priority)) with
        | none =>
          have : (L.all fun w => rtOk rs k w.Irq w.Priority) = true := by
            rw [← range_all L gW (fun w => rtOk rs k w.Irq w.Priority), List.all_eq_true]
            intro i hi
            have := List.find?_eq_none.1 hf i hi
            simpa using this
          rw [this]
          rfl
        | some i =>
          obtain ⟨h1, h2, _⟩ := List.find?_range_eq_some.1 hf
          have : (L.all fun w => rtOk rs k w.Irq w.Priority) = false := by
            rw [← range_all L gW (fun w => rtOk rs k w.Irq w.Priority), List.all_eq_false]
            exact ⟨i, h2, by simpa using h1⟩
          have hge : ((i : Int) ≥ 0) := by omega
          rw [this]
          simp [hge]
      · intro i hi
        have e0 : ((i : Int) < (L.length : Int)) := by omega
        simp only [e0, decide_true, cond_true, gxIdx_nat hi, Option.bind_some, M.i_fitsRoutes_1, gxIdx_irq hr (hLi _ (List.getElem_mem hi)), getD_at hi, w64_succ (show i ≤ 4611686018427387904 by omega), rtOk, Bool.and_true]
        cases ((rs.getD L[i].Irq.toNat gR).Priority == L[i].Priority) with
        | false => cases ((rs.getD L[i].Irq.toNat gR).Target == k) <;> rfl
        | true => cases ((rs.getD L[i].Irq.toNat gR).Target == k) <;> rfl
      · simp
  · intro i hi _
    have e0 : ((i : Int) < (x.Queue.Slots.length : Int)) := by omega
    have htk : (x.Queue.Slots.take (i + 1)).filter (fun s => s.State != 0) = (x.Queue.Slots.take i).filter (fun s => s.State != 0) ++ (bif x.Queue.Slots[i].State != 0 then [x.Queue.Slots[i]] else []) := by
      rw [List.take_add_one, List.getElem?_eq_getElem hi, Option.toList_some, List.filter_append]
      cases hz : (x.Queue.Slots[i].State != 0) <;> simp [hz]
    have hll : ((x.Queue.Slots.take i).filter (fun s => s.State != 0)).length ≤ i := by
      have := List.length_filter_le (fun s : Slot => s.State != 0) (x.Queue.Slots.take i)
      have h2 : (x.Queue.Slots.take i).length ≤ i := by simp; omega
      omega
    simp only [e0, decide_true, cond_true, gxIdx_nat hi, Option.bind_some, getD_at hi, M.i_waiterOf, w64_succ (show i ≤ 4611686018427387904 by omega), htk]
    cases (x.Queue.Slots[i].State == 3) with
    | true => rfl
    | false => cases (x.Queue.Slots[i].State != 0) with
      | false => simp
      | true =>
        simp only [cond_false, cond_true, Bool.not_false]
        rw [gxApp_ok (by simp; omega)]
        simp
  · intro _
    simp
def goodMc (m : Machine) : Bool := okRts m.Routes (m.Cpus.length : Int) && (((m.Enabled.length : Int) == 8) && (((m.Raised.length : Int) == 8) && (List.range m.Cpus.length).all (fun k => goodI (m.Cpus.getD k ⟨0, [], ⟨[], []⟩⟩) && fitOk m.Routes (k : Int) (m.Cpus.getD k ⟨0, [], ⟨[], []⟩⟩))))
theorem okRts_len {rs : List Route} {c : Int} (h : okRts rs c = true) : rs.length = 8 := by
  unfold okRts at h
  simp only [Bool.and_eq_true, beq_iff_eq] at h
  omega
theorem s_goodMc (m : Machine) (h : fitM m) : M.s_l21Good m = some (goodMc m) := by
  obtain ⟨h1, h2, h3, h4, h5, _⟩ := h
  unfold M.s_l21Good goodMc
  rw [s_routes m.Routes _ h1, Option.bind_some]
  cases hr : okRts m.Routes (m.Cpus.length : Int) with
  | false => rfl
  | true =>
    have hr8 := okRts_len hr
    simp only [bne, Bool.not_true, cond_false, Bool.true_and]
    cases ((m.Enabled.length : Int) == 8) with
    | false => rfl
    | true => cases ((m.Raised.length : Int) == 8) with
      | false => rfl
      | true =>
        simp only [Bool.not_true, cond_false, Bool.true_and, Option.bind_some]
        rw [while_all (fun i => (i : Int)) (fun k => goodI (m.Cpus.getD k ⟨0, [], ⟨[], []⟩⟩) && fitOk m.Routes (k : Int) (m.Cpus.getD k ⟨0, [], ⟨[], []⟩⟩)) (Sum.inr false : Unit ⊕ Bool) (Sum.inl ()) m.Cpus.length (by simp) (by omega)]
        · cases (List.range m.Cpus.length).all (fun k => goodI (m.Cpus.getD k ⟨0, [], ⟨[], []⟩⟩) && fitOk m.Routes (k : Int) (m.Cpus.getD k ⟨0, [], ⟨[], []⟩⟩)) <;> simp
        · intro k hk
          have e0 : ((k : Int) < (m.Cpus.length : Int)) := by omega
          have hf := h5 _ (List.getElem_mem hk)
          have hgi := s_goodI m.Cpus[k] hf
          simp only [e0, decide_true, cond_true, gxIdx_nat hk, Option.bind_some, getD_at hk, w64_succ (show k ≤ 4611686018427387904 by omega)]
          rw [hgi, Option.bind_some]
          cases hg : goodI m.Cpus[k] with
          | false => rfl
          | true =>
            have hft := s_fit m.Routes (k : Int) m.Cpus[k] hr8 hf hg
            simp only [Bool.not_true, cond_false, Bool.true_and]
            rw [hft, Option.bind_some]
            cases fitOk m.Routes (k : Int) m.Cpus[k] <;> rfl
        · simp
theorem i_goodMc (m : Machine) (h : fitM m) : M.i_IsMachine m = some (goodMc m) := by
  obtain ⟨h1, h2, h3, h4, h5, _⟩ := h
  unfold M.i_IsMachine goodMc
  rw [i_routesZ m.Routes _ h1, Option.bind_some]
  cases hr : okRts m.Routes (m.Cpus.length : Int) with
  | false => rfl
  | true =>
    have hr8 := okRts_len hr
    simp only [bne, Bool.not_true, cond_false, Bool.true_and]
    cases ((m.Enabled.length : Int) == 8) with
    | false => rfl
    | true => cases ((m.Raised.length : Int) == 8) with
      | false => rfl
      | true =>
        simp only [Bool.not_true, cond_false, Bool.true_and, Option.bind_some]
        rw [while_all (fun i => (i : Int)) (fun k => goodI (m.Cpus.getD k ⟨0, [], ⟨[], []⟩⟩) && fitOk m.Routes (k : Int) (m.Cpus.getD k ⟨0, [], ⟨[], []⟩⟩)) (Sum.inr false : Unit ⊕ Bool) (Sum.inl ()) m.Cpus.length (by simp) (by omega)]
        · cases (List.range m.Cpus.length).all (fun k => goodI (m.Cpus.getD k ⟨0, [], ⟨[], []⟩⟩) && fitOk m.Routes (k : Int) (m.Cpus.getD k ⟨0, [], ⟨[], []⟩⟩)) <;> simp
        · intro k hk
          have e0 : ((k : Int) < (m.Cpus.length : Int)) := by omega
          have hf := h5 _ (List.getElem_mem hk)
          have hgi := i_goodI m.Cpus[k] hf
          simp only [e0, decide_true, cond_true, gxIdx_nat hk, Option.bind_some, getD_at hk, w64_succ (show k ≤ 4611686018427387904 by omega)]
          rw [hgi, Option.bind_some]
          cases hg : goodI m.Cpus[k] with
          | false => rfl
          | true =>
            have hft := i_fit m.Routes (k : Int) m.Cpus[k] hr8 hf hg
            simp only [Bool.not_true, cond_false, Bool.true_and]
            rw [hft, Option.bind_some]
            cases fitOk m.Routes (k : Int) m.Cpus[k] <;> rfl
        · simp
theorem IsMachine_eq (m : Machine) (h : fitM m) : ∃ r, M.s_IsMachine m = some r ∧ M.i_IsMachine m = some r := by
  unfold M.s_IsMachine
  rw [s_goodMc m h, i_goodMc m h]
  exact ⟨_, rfl, rfl⟩
theorem RunningOn_eq (m : Machine) (c : Int) (h : fitM m) : ∃ r, M.s_RunningOn m c = some r ∧ M.i_RunningOn m c = some r ∧ r.1.length ≤ 1048576 := by
  unfold M.s_RunningOn M.i_RunningOn M.s_l21Cpu M.i_Machine_hasCpu
  have h4 := h.2.2.2.1
  rw [s_goodMc m h, i_goodMc m h]
  simp only [s_in, i_in, Option.bind_some, w64_id (z := (m.Cpus.length : Int) - 1) (by omega) (by omega)]
  cases goodMc m with
  | false => exact ⟨_, rfl, rfl, by simp⟩
  | true =>
    by_cases hc : 0 ≤ c ∧ c ≤ (m.Cpus.length : Int) - 1
    · obtain ⟨k, rfl⟩ : ∃ k : Nat, c = k := ⟨c.toNat, by omega⟩
      have hk : k < m.Cpus.length := by omega
      have hd : (decide ((0 : Int) ≤ (k : Int)) && decide ((k : Int) ≤ (m.Cpus.length : Int) - 1)) = true := by simp; omega
      have hst := (h.2.2.2.2.1 _ (List.getElem_mem hk)).1
      have ho : M.s_l1Own m.Cpus[k].Stack = some m.Cpus[k].Stack := by
        unfold M.s_l1Own
        rw [gxApp_ok (by simp; omega)]
        rfl
      have hcp : M.i_copyInts m.Cpus[k].Stack = some m.Cpus[k].Stack := by
        unfold M.i_copyInts
        rw [gxApp_ok (by simp; omega)]
        rfl
      simp only [hd, Bool.not_true, cond_true, cond_false, Option.bind_some, gxIdx_nat hk, ho, hcp]
      exact ⟨_, rfl, rfl, hst⟩
    · have hd : (decide ((0 : Int) ≤ c) && decide (c ≤ (m.Cpus.length : Int) - 1)) = false := by
        rw [← Bool.decide_and]
        exact decide_eq_false hc
      simp only [hd, Bool.not_true, Bool.not_false, cond_true, cond_false, Option.bind_some]
      exact ⟨_, rfl, rfl, by simp⟩

end Go.Proofs.YtllhajkgkghhdaaGreat
