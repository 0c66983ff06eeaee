/- Plain laws of the models: no program in sight. -/
import Derived.Test.YtimffallbjpcjaaGreatDoorM
import Derived.Test.YtimffallbjpcjaaGreatDoorL9
set_option linter.unusedVariables false
set_option linter.unusedSimpArgs false
set_option maxHeartbeats 4000000
namespace Go.Proofs.YtimffallbjpcjaaGreatDoor
open Go.Gx
/-! ### The law of events -/
theorem rEvents_refl (xs : List Event) (h : xs.length ≤ 4611686018427387904) : M.l_rEvents xs xs = some true := by
  unfold M.l_rEvents
  simp only [bne_self_eq_false, cond_false]
  rw [while_run (fun i => (i : Int)) (Sum.inl ()) xs.length (by simp) h]
  · rfl
  · intro i hi
    have h1 : ((i : Int) < (xs.length : Int)) := by omega
    simp only [h1, decide_true, cond_true, gxIdx_nat hi, Option.bind_some, beq_self_eq_true, Bool.and_self, Bool.not_true, cond_false, w64_succ (show i ≤ 4611686018427387904 by omega)]
  · simp only [Int.lt_irrefl, decide_false, cond_false]
theorem rTexts_refl (xs : List ByteArray) (h : xs.length ≤ 4611686018427387904) : M.l_rTexts xs xs = some true := by
  unfold M.l_rTexts
  simp only [bne_self_eq_false, cond_false]
  rw [while_run (fun i => (i : Int)) (Sum.inl ()) xs.length (by simp) h]
  · rfl
  · intro i hi
    have h1 : ((i : Int) < (xs.length : Int)) := by omega
    simp only [h1, decide_true, cond_true, gxIdx_nat hi, Option.bind_some, beq_self_eq_true, Bool.not_true, cond_false, w64_succ (show i ≤ 4611686018427387904 by omega)]
  · simp only [Int.lt_irrefl, decide_false, cond_false]
theorem rInts_refl (xs : List Int) (h : xs.length ≤ 4611686018427387904) : M.l_rInts xs xs = some true := by
  unfold M.l_rInts
  simp only [bne_self_eq_false, cond_false]
  rw [while_run (fun i => (i : Int)) (Sum.inl ()) xs.length (by simp) h]
  · rfl
  · intro i hi
    have h1 : ((i : Int) < (xs.length : Int)) := by omega
    simp only [h1, decide_true, cond_true, gxIdx_nat hi, Option.bind_some, bne_self_eq_false, cond_false, w64_succ (show i ≤ 4611686018427387904 by omega)]
  · simp only [Int.lt_irrefl, decide_false, cond_false]
theorem sum_bd : ∀ (xs : List Int), (∀ x ∈ xs, 0 ≤ x ∧ x ≤ 1000000) → 0 ≤ xs.sum ∧ xs.sum ≤ 1000000 * (xs.length : Int)
  | [], _ => by simp
  | a :: r, h => by
    have h1 := h a (by simp)
    have h2 := sum_bd r (fun x hx => h x (by simp [hx]))
    simp only [List.sum_cons, List.length_cons]
    omega
theorem rSum_ok (xs : List Int) (hl : xs.length ≤ 1000000) (h : ∀ x ∈ xs, 0 ≤ x ∧ x ≤ 1000000) : M.l_rSum xs = some xs.sum := by
  unfold M.l_rSum
  rw [while_run (fun i => ((xs.take i).sum, (i : Int))) xs.sum xs.length (by simp) (by omega)]
  · rfl
  · intro i hi
    have h1 : ((i : Int) < (xs.length : Int)) := by omega
    have hb := sum_bd (xs.take i) (fun x hx => h x (List.mem_of_mem_take hx))
    have hx := h xs[i] (List.getElem_mem hi)
    have hlt : (xs.take i).length ≤ 1000000 := by rw [List.length_take]; omega
    have e1 : w64 ((xs.take i).sum + xs[i]) = (xs.take (i + 1)).sum := by
      rw [w64_id (by omega) (by omega), List.take_add_one, List.getElem?_eq_getElem hi, Option.toList_some, List.sum_append, List.sum_cons, List.sum_nil, Int.add_zero]
    simp only [h1, decide_true, cond_true, gxIdx_nat hi, Option.bind_some, w64_succ (show i ≤ 4611686018427387904 by omega), e1]
  · simp only [Int.lt_irrefl, decide_false, cond_false, List.take_length]
theorem cntK_cons (e : Event) (xs : List Event) (k : ByteArray) : cntK (e :: xs) k = (if e.Kind = k then 1 else 0) + cntK xs k := by
  unfold cntK
  rw [List.filter_cons, ba_beq]
  by_cases hk : e.Kind = k
  · simp only [hk, decide_true, if_true, List.length_cons]
    omega
  · simp [hk]
theorem sum_add {α : Type} (f g : α → Int) : ∀ (K : List α), (K.map fun k => f k + g k).sum = (K.map f).sum + (K.map g).sum
  | [] => rfl
  | a :: K => by
    simp only [List.map_cons, List.sum_cons, sum_add f g K]
    omega
theorem sum_zero {α : Type} (f : α → Int) : ∀ (K : List α), (∀ k ∈ K, f k = 0) → (K.map f).sum = 0
  | [], _ => rfl
  | a :: K, h => by
    simp only [List.map_cons, List.sum_cons, h a (by simp), sum_zero f K (fun k hk => h k (by simp [hk]))]
    rfl
theorem sum_one (x : ByteArray) : ∀ (K : List ByteArray), K.Pairwise ltK → x ∈ K → (K.map fun k => if x = k then (1 : Int) else 0).sum = 1
  | [], _, h => by simp at h
  | a :: K, hp, h => by
    rw [List.pairwise_cons] at hp
    simp only [List.map_cons, List.sum_cons]
    by_cases hx : x = a
    · rw [if_pos hx, sum_zero _ K (fun k hk => if_neg (fun e => by
        have := hp.1 k hk
        rw [← hx, e] at this
        exact ltK_irr _ this))]
      rfl
    · rw [if_neg hx, sum_one x K hp.2 ((List.mem_cons.1 h).resolve_left hx)]
      rfl
theorem sum_cnt (K : List ByteArray) (hp : K.Pairwise ltK) : ∀ (xs : List Event), (∀ e ∈ xs, e.Kind ∈ K) → (K.map (cntK xs)).sum = (xs.length : Int)
  | [], _ => sum_zero _ K (fun k _ => rfl)
  | e :: xs, h => by
    have ih := sum_cnt K hp xs (fun y hy => h y (by simp [hy]))
    have hm : K.map (cntK (e :: xs)) = K.map (fun k => (if e.Kind = k then (1 : Int) else 0) + cntK xs k) := List.map_congr_left fun k _ => cntK_cons e xs k
    rw [hm, sum_add, sum_one e.Kind K hp (h e (by simp)), ih, List.length_cons]
    omega
def atG (xs : List Event) (g : Int) : Int := ((xs.filter (fun e => e.Guest == g)).length : Int)
theorem atG_cons (e : Event) (xs : List Event) (g : Int) : atG (e :: xs) g = (if e.Guest = g then 1 else 0) + atG xs g := by
  unfold atG
  rw [List.filter_cons]
  by_cases hk : e.Guest = g
  · simp only [hk, beq_self_eq_true, if_true, List.length_cons]
    omega
  · simp [hk]
theorem atG_sum : ∀ (xs : List Event), (∀ e ∈ xs, 0 ≤ e.Guest ∧ e.Guest ≤ 4) → atG xs 0 + atG xs 1 + atG xs 2 + atG xs 3 + atG xs 4 = (xs.length : Int)
  | [], _ => rfl
  | e :: xs, h => by
    have ih := atG_sum xs (fun y hy => h y (by simp [hy]))
    obtain ⟨h0, h1⟩ := h e (by simp)
    simp only [atG_cons, List.length_cons]
    have : e.Guest = 0 ∨ e.Guest = 1 ∨ e.Guest = 2 ∨ e.Guest = 3 ∨ e.Guest = 4 := by omega
    rcases this with h | h | h | h | h <;> simp only [h] <;> simp <;> omega
theorem good_one {xs : List Event} (h : goodE xs = true) : xs.length ≤ 30 ∧ ∀ e ∈ xs, oneE e = true := by
  unfold goodE at h
  rw [Bool.and_eq_true, decide_eq_true_eq] at h
  refine ⟨by omega, fun e he => ?_⟩
  obtain ⟨i, hi, rfl⟩ := List.mem_iff_getElem.1 he
  have := List.all_eq_true.1 h.1 i (by rw [List.mem_range]; exact hi)
  unfold badE at this
  rw [getD_at hi] at this
  cases hx : oneE xs[i] with
  | true => rfl
  | false =>
    rw [hx] at this
    simp at this
theorem OfGood (xs : List Event) (g : Int) (h : smallE xs) (hg : goodE xs = true) (h0 : 0 ≤ g) (h1 : g ≤ 4) : M.i_EventsOf xs g = some (xs.filter (fun e => e.Guest == g), true) := by
  obtain ⟨r, _, hi, _, hr⟩ := EventsOf_eq xs g h
  rw [hi, hr hg h0 h1]
theorem Of_good {xs : List Event} {g : Int} {r : List Event × Bool} (h : smallE xs) (hr : M.i_EventsOf xs g = some r) (h2 : r.2 = true) : goodE xs = true := by
  unfold M.i_EventsOf at hr
  rw [i_goodE xs h, Option.bind_some] at hr
  cases hg : goodE xs with
  | true => rfl
  | false =>
    rw [hg] at hr
    simp only [Bool.not_false, cond_true, Option.bind_some, Option.some.injEq] at hr
    subst hr
    simp at h2
theorem secC (xs : List Event) (h : smallE xs) (hg : goodE xs = true) : (Option.bind (whileM (σ := Int × Int) (ρ := (Int) ⊕ (Bool)) (fun s4373 =>
    bif decide (s4373.2 ≤ 4) then (Option.bind (M.i_EventsOf xs s4373.2) fun r4385 =>
    bif !r4385.2 then some (.inr (.inr false))
    else some (.inl (w64 (s4373.1 + (r4385.1.length : Int)), w64 (s4373.2 + 1))))
    else some (.inr (.inl s4373.1))) gxFuel (0, 0)) fun out4380 => Sum.elim (fun (o4383 : Int) =>
  Option.bind (M.i_CountKinds xs) fun r4399 =>
  Option.bind (α := Bool) (bif o4383 != (xs.length : Int) then some true
  else (bif !r4399.2.2 then some true
  else (Option.bind (M.l_rSum r4399.2.1) fun r4425 =>
  bif r4425 != o4383 then some true
  else some ((r4399.1.length : Int) != (r4399.2.1.length : Int))))) fun o4420 =>
  bif o4420 then some (Sum.inr (α := Unit) false)
  else some (.inl ())) (fun r => some (.inr r)) out4380) = some (.inl ()) := by
  obtain ⟨hl, hone⟩ := good_one hg
  have hG : ∀ e ∈ xs, 0 ≤ e.Guest ∧ e.Guest ≤ 4 := fun e he => by
    have := hone e he
    unfold oneE at this
    simp only [Bool.and_eq_true, decide_eq_true_eq] at this
    exact this.2.1
  have hsum := atG_sum xs hG
  have hat : ∀ g, 0 ≤ atG xs g ∧ atG xs g ≤ 30 := fun g => by
    unfold atG
    have := List.length_filter_le (fun e : Event => e.Guest == g) xs
    omega
  have a0 := hat 0
  have a1 := hat 1
  have a2 := hat 2
  have a3 := hat 3
  have a4 := hat 4
  rw [while_run (s0 := ((0 : Int), (0 : Int))) (fun i => ((match i with
    | 0 => 0
    | 1 => atG xs 0
    | 2 => atG xs 0 + atG xs 1
    | 3 => atG xs 0 + atG xs 1 + atG xs 2
    | 4 => atG xs 0 + atG xs 1 + atG xs 2 + atG xs 3
    | _ => (xs.length : Int) : Int), (i : Int))) (Sum.inl (xs.length : Int)) 5 rfl (by omega)]
  · obtain ⟨r, _, hi, _, _, hr⟩ := CountKinds_eq xs h
    obtain ⟨hr2, hI⟩ := hr hg
    have hs : r.2.1.sum = (xs.length : Int) := by
      rw [hI.cnt]
      exact sum_cnt _ hI.strict xs (fun e he => (hI.mem _).2 (List.mem_map_of_mem he))
    have hlen : r.2.1.length = r.1.length := by rw [hI.cnt, List.length_map]
    have hK := hI.len
    have hrs : M.l_rSum r.2.1 = some r.2.1.sum := rSum_ok _ (by omega) (fun x hx => by
      rw [hI.cnt] at hx
      obtain ⟨k, _, rfl⟩ := List.mem_map.1 hx
      have := cntK_le xs k
      omega)
    simp only [Option.bind_some, Sum.elim_inl, hi, bne_self_eq_false, cond_false, hr2, Bool.not_true, hrs, hs, hlen]
  · intro i hi
    have hc : ((i : Int) ≤ 4) := by omega
    simp only [hc, decide_true, cond_true, OfGood xs (i : Int) h hg (by omega) hc, Option.bind_some, Bool.not_true, cond_false, w64_succ (show i ≤ 4611686018427387904 by omega)]
    have key : ∀ (v g : Int), 0 ≤ v → v ≤ 1000 → w64 (v + ((xs.filter (fun e => e.Guest == g)).length : Int)) = v + atG xs g := fun v g v0 v1 => by
      have := hat g
      unfold atG at this ⊢
      exact w64_id (by omega) (by omega)
    congr 3
    match i, hi with
    | 0, _ => exact (key 0 0 (by omega) (by omega)).trans (Int.zero_add _)
    | 1, _ => exact key (atG xs 0) 1 (by omega) (by omega)
    | 2, _ => exact key (atG xs 0 + atG xs 1) 2 (by omega) (by omega)
    | 3, _ => exact key (atG xs 0 + atG xs 1 + atG xs 2) 3 (by omega) (by omega)
    | 4, _ => exact (key (atG xs 0 + atG xs 1 + atG xs 2 + atG xs 3) 4 (by omega) (by omega)).trans hsum
  · rfl
theorem plain_FnEvents (code : List Int) (h : okL okU code) : M.l_FnEvents code = some true := by
  unfold M.l_FnEvents M.l_rBig
  rw [Option.bind_some]
  cases decide ((code.length : Int) > 65536) with
  | true => rfl
  | false =>
    obtain ⟨e, he, hk⟩ := drawE_ok code h
    have hks := kd_size hk
    obtain ⟨ht1, ht2⟩ := Text_val e (by omega)
    obtain ⟨s, hs, hss, hsf⟩ := drawP_ok code h
    obtain ⟨p, hp1, hp2⟩ := Parse_eq s (by omega) hsf
    obtain ⟨o, ho, hof⟩ := drawO_ok code h
    have hos := fit_small hof
    obtain ⟨q, hq1, hq2, hq3, _⟩ := EventsOf_eq o.1 o.2 hos
    obtain ⟨c, hc, hcf⟩ := drawC_ok code h
    obtain ⟨d, hd1, hd2, hd3, hd4, _⟩ := CountKinds_eq c (fit_small hcf)
    have hv := val_fine hk
    simp only [cond_false, he, ht1, ht2, Option.bind_some, beq_self_eq_true, Bool.not_true, i_oneE e (by omega)]
    have hB : ((bif oneE e then (txtE e, true) else (ByteArray.mk #[], false)).2 == oneE e) = true := by cases oneE e <;> rfl
    rw [hB]
    simp only [Bool.not_true, cond_false]
    have hP : ∃ r, M.i_ParseEvent (bif oneE e then (txtE e, true) else (ByteArray.mk #[], false)).1 = some r ∧ (oneE e = true → r = (e, true)) := by
      cases hx : oneE e with
      | true => exact ⟨_, i_valid hx (fine_txt hx hk), fun _ => rfl⟩
      | false => exact ⟨_, i_parse _ (by show (0 : Nat) ≤ 100000; omega), fun h => by cases h⟩
    obtain ⟨r, hr, hrv⟩ := hP
    rw [hr, Option.bind_some]
    have hC2 : (bif (bif oneE e then (txtE e, true) else (ByteArray.mk #[], false)).2 then (bif !r.2 then some true
      else some (!((r.1.Tick == e.Tick) && ((r.1.Guest == e.Guest) && ((r.1.Kind.toList == e.Kind.toList) && ((r.1.Value == e.Value) && true))))))
      else some false) = some false := by
      cases hx : oneE e with
      | false => rfl
      | true =>
        rw [hrv hx]
        simp
    rw [hC2]
    simp only [Option.bind_some, cond_false, hs, hp1, hp2, beq_self_eq_true, Bool.and_self, Bool.not_true, ho, hq1, hq2, rEvents_refl q.1 (by omega)]
    have tail : (Option.bind (M.s_DrawCountKinds code) fun r4482 =>
      Option.bind (M.i_CountKinds r4482) fun r4491 =>
      Option.bind (M.s_CountKinds r4482) fun r6378 =>
      Option.bind (α := Bool) (bif r4491.2.2 == r6378.2.2 then (Option.bind (M.l_rTexts r4491.1 r6378.1) fun r6494 =>
      bif r6494 then (Option.bind (M.l_rInts r4491.2.1 r6378.2.1) fun r6499 =>
      some r6499)
      else some false)
      else some false) fun o6490 =>
      some o6490) = some true := by
      simp only [hc, hd1, hd2, Option.bind_some, beq_self_eq_true, cond_true, rTexts_refl d.1 (by omega), rInts_refl d.2.1 (by omega)]
    cases hb : q.2 with
    | false =>
      simp only [cond_false, Option.bind_some, Sum.elim_inl]
      exact tail
    | true =>
      simp only [cond_true]
      rw [secC o.1 hos (Of_good hos hq2 hb)]
      exact tail

end Go.Proofs.YtimffallbjpcjaaGreatDoor
