/- Plain laws of the models: no program in sight. -/
import Derived.Test.YtfcebglkdfadcaaKM
import Derived.Test.YtfcebglkdfadcaaKL3
set_option linter.unusedVariables false
set_option linter.unusedSimpArgs false
set_option maxHeartbeats 4000000
namespace Go.Proofs.Ytfcebglkdfadcaa
open Go.Gx
/-! ### Kinds, counted -/
theorem take_takeWhile {α : Type} (p : α → Bool) (xs : List α) : xs.take (xs.takeWhile p).length = xs.takeWhile p := by
  conv => lhs; arg 2; rw [← List.takeWhile_append_dropWhile (p := p) (l := xs)]
  rw [List.take_left]
theorem drop_takeWhile {α : Type} (p : α → Bool) (xs : List α) : xs.drop (xs.takeWhile p).length = xs.dropWhile p := by
  conv => lhs; arg 2; rw [← List.takeWhile_append_dropWhile (p := p) (l := xs)]
  rw [List.drop_left]
def cntK (ys : List Event) (k : ByteArray) : Int := ((ys.filter fun e => e.Kind.toList == k.toList).length : Int)
theorem cntK_snoc (ys : List Event) (e : Event) (k : ByteArray) : cntK (ys ++ [e]) k = cntK ys k + if e.Kind = k then 1 else 0 := by
  unfold cntK
  rw [List.filter_append, List.length_append]
  by_cases h : e.Kind = k
  · rw [if_pos h]
    have : (e.Kind.toList == k.toList) = true := (same_dec _ _).2 h
    simp [this]
  · rw [if_neg h]
    have : (e.Kind.toList == k.toList) = false := by
      rw [Bool.eq_false_iff]
      exact fun hc => h ((same_dec _ _).1 hc)
    simp [this]
theorem cntK_none {ys : List Event} {k : ByteArray} (h : k ∉ ys.map (·.Kind)) : cntK ys k = 0 := by
  unfold cntK
  have : (ys.filter fun e => e.Kind.toList == k.toList) = [] := by
    rw [List.filter_eq_nil_iff]
    intro e he hc
    exact h (List.mem_map.2 ⟨e, he, (same_dec _ _).1 hc⟩)
  rw [this]
  rfl
structure InvK (ys : List Event) (K : List ByteArray) (C : List Int) : Prop where
  strict : K.Pairwise ltK
  mem : ∀ k, k ∈ K ↔ k ∈ ys.map (·.Kind)
  cnt : C = K.map (cntK ys)
  len : K.length ≤ ys.length
theorem cntK_le (ys : List Event) (k : ByteArray) : 0 ≤ cntK ys k ∧ cntK ys k ≤ ys.length := by
  unfold cntK
  have := List.length_filter_le (fun e : Event => e.Kind.toList == k.toList) ys
  omega
/-- The step over one event. -/
theorem stepK {ys : List Event} {K : List ByteArray} {C : List Int} (h : InvK ys K C) (e : Event) :
    let A := K.takeWhile (fun s => Op.bytesLess s.toList e.Kind.toList)
    let B := K.dropWhile (fun s => Op.bytesLess s.toList e.Kind.toList)
    K = A ++ B ∧ ((∃ B', B = e.Kind :: B' ∧ InvK (ys ++ [e]) K (A.map (cntK ys) ++ (cntK ys e.Kind + 1) :: B'.map (cntK ys))) ∨ ((∀ b B', B = b :: B' → b ≠ e.Kind) ∧ InvK (ys ++ [e]) (A ++ e.Kind :: B) (A.map (cntK ys) ++ 1 :: B.map (cntK ys)))) := by
  intro A B
  have hK : K = A ++ B := (List.takeWhile_append_dropWhile).symm
  refine ⟨hK, ?_⟩
  have hA : ∀ a ∈ A, ltK a e.Kind := fun a ha => by
    have := List.all_takeWhile (p := fun s : ByteArray => Op.bytesLess s.toList e.Kind.toList) (l := K)
    rw [List.all_eq_true] at this
    exact (less_dec _ _).1 (this a ha)
  have hs : (A ++ B).Pairwise ltK := hK ▸ h.strict
  obtain ⟨hsA, hsB, hsAB⟩ := List.pairwise_append.1 hs
  have hne : ∀ k, k ≠ e.Kind → cntK (ys ++ [e]) k = cntK ys k := fun k hk => by rw [cntK_snoc, if_neg (fun h => hk h.symm), Int.add_zero]
  have hmapA : A.map (cntK (ys ++ [e])) = A.map (cntK ys) := List.map_congr_left fun a ha => hne a fun hc => ltK_irr a (by have := hA a ha; rw [← hc] at this; exact this)
  have hmem : ∀ k, k ∈ (ys ++ [e]).map (·.Kind) ↔ k ∈ K ∨ k = e.Kind := fun k => by
    rw [List.map_append, List.mem_append, h.mem]
    simp
  cases hB : B with
  | nil =>
    refine Or.inr ⟨(fun b B' hc => (by cases hc)), ?_, fun k => ?_, ?_, ?_⟩
    · rw [List.pairwise_append]
      exact ⟨hsA, by simp, fun a ha b hb => by rw [List.mem_singleton.1 hb]; exact hA a ha⟩
    · rw [hmem, hK, hB]
      simp
    · rw [List.map_append, hmapA]
      have : cntK (ys ++ [e]) e.Kind = 1 := by
        rw [cntK_snoc, if_pos rfl, cntK_none]
        · rfl
        · intro hc
          have := (h.mem e.Kind).2 hc
          rw [hK, hB, List.append_nil] at this
          exact ltK_irr _ (hA _ this)
      simp [this]
    · have := h.len
      rw [hK, hB] at this
      simp at this ⊢
      omega
  | cons b B' =>
    have hb : ¬ ltK b e.Kind := by
      have := List.head_dropWhile_not (fun s : ByteArray => Op.bytesLess s.toList e.Kind.toList) (l := K) (by show B ≠ []; rw [hB]; simp)
      intro hc
      have h2 : (K.dropWhile (fun s : ByteArray => Op.bytesLess s.toList e.Kind.toList)).head (by show B ≠ []; rw [hB]; simp) = b := by
        have : B.head (by rw [hB]; simp) = b := by simp [hB]
        exact this
      rw [h2] at this
      have h3 := (less_dec b e.Kind).2 hc
      rw [h3] at this
      cases this
    rw [hB] at hsB hsAB
    rw [List.pairwise_cons] at hsB
    have hmapB : (∀ k ∈ B', k ≠ e.Kind) → B'.map (cntK (ys ++ [e])) = B'.map (cntK ys) := fun hh => List.map_congr_left fun a ha => hne a (hh a ha)
    by_cases hbe : b = e.Kind
    · refine Or.inl ⟨B', by rw [hbe], h.strict, fun k => ?_, ?_, by have := h.len; simp; omega⟩
      · rw [hmem]
        constructor
        · exact Or.inl
        · rintro (hk | rfl)
          · exact hk
          · rw [hK, hB, hbe]; simp
      · rw [hK, hB, List.map_append, List.map_cons, hmapA, hmapB fun k hk hc => ltK_irr b (by have := hsB.1 k hk; rw [hc, ← hbe] at this; exact this), hbe, cntK_snoc, if_pos rfl]
    · have hlt : ltK e.Kind b := ltK_tri hb hbe
      have hall : ∀ k ∈ b :: B', ltK e.Kind k := fun k hk => by
        rcases List.mem_cons.1 hk with rfl | hk
        · exact hlt
        · exact ltK_trans hlt (hsB.1 k hk)
      refine Or.inr ⟨(fun b2 B2 hc => (by cases hc; exact hbe)), ?_, fun k => ?_, ?_, ?_⟩
      · rw [List.pairwise_append]
        refine ⟨hsA, ?_, fun a ha c hc => ?_⟩
        · rw [List.pairwise_cons]
          exact ⟨hall, List.pairwise_cons.2 hsB⟩
        · rcases List.mem_cons.1 hc with rfl | hc
          · exact hA a ha
          · exact hsAB a ha c hc
      · rw [hmem, hK, hB]
        simp only [List.mem_append, List.mem_cons]
        constructor
        · rintro (h1 | h1 | h1)
          · exact Or.inl (Or.inl h1)
          · exact Or.inr h1
          · exact Or.inl (Or.inr h1)
        · rintro ((h1 | h1) | h1)
          · exact Or.inl h1
          · exact Or.inr (Or.inr h1)
          · exact Or.inr (Or.inl h1)
      · have hcnt : cntK (ys ++ [e]) e.Kind = 1 := by
          rw [cntK_snoc, if_pos rfl, cntK_none]
          · rfl
          · intro hc
            have := (h.mem e.Kind).2 hc
            rw [hK, hB, List.mem_append] at this
            rcases this with h1 | h1
            · exact ltK_irr _ (hA _ h1)
            · exact ltK_irr _ (hall _ h1)
        have hmB : (b :: B').map (cntK (ys ++ [e])) = (b :: B').map (cntK ys) := List.map_congr_left fun a ha => hne a fun hc => ltK_irr a (by have := hall a ha; rw [← hc] at this; exact this)
        rw [List.map_append, hmapA, List.map_cons (f := cntK (ys ++ [e])), hcnt, hmB]
      · have := h.len
        rw [hK, hB] at this
        simp at this ⊢
        omega
theorem i_whereKind (xs : List Event) (k : ByteArray) (hl : xs.length ≤ 1048576) : M.i_eventsWhere__i_CountKinds_1 xs k = some (xs.filter fun e => e.Kind.toList == k.toList) := by
  unfold M.i_eventsWhere__i_CountKinds_1
  rw [gxApp_ok (by simp; omega), Option.bind_some, List.nil_append]
  obtain ⟨q, hq, hq2⟩ := delM_ok (cl := fun y => M.i_eventsWhere_1__i_CountKinds_1 y k) (fun y => !(y.Kind.toList == k.toList)) (fun y => rfl) xs hl
  have hq' : M.slices_DeleteFunc_81__i_eventsWhere_1__i_CountKinds_1 xs k = some q := hq
  rw [hq', Option.bind_some, hq2]
  simp
theorem set_mid {α : Type} (A B : List α) (x y : α) : (A ++ x :: B).set A.length y = A ++ y :: B := by
  rw [List.set_append_right _ _ (Nat.le_refl _), Nat.sub_self, List.set_cons_zero]
theorem CountKinds_eq (xs : List Event) (h : smallE xs) : ∃ r, M.s_CountKinds xs = some r ∧ M.i_CountKinds xs = some r ∧ r.1.length ≤ 1048576 ∧ r.2.1.length ≤ 1048576 := by
  have hl := h.1
  unfold M.s_CountKinds M.i_CountKinds
  simp only [s_goodE xs h, i_goodE xs h, Option.bind_some]
  cases hg : goodE xs with
  | false => exact ⟨_, rfl, rfl, by simp, by simp⟩
  | true =>
    have h30 : xs.length ≤ 30 := by
      unfold goodE at hg
      rw [Bool.and_eq_true, decide_eq_true_eq] at hg
      omega
    simp only [Bool.not_true, cond_false]
    -- the kinds in order
    obtain ⟨hstr, hmem⟩ := sort_comp (xs.map (·.Kind))
    have hlenS : (gxSortS (xs.map (·.Kind))).length = xs.length := by simp [gxSortS]
    have hlenC := gxCompS_len (gxSortS (xs.map (·.Kind)))
    rw [hlenS] at hlenC
    rw [while_filter (xs := xs) (fun _ => true) (·.Kind) (by omega)]
    · rw [List.filter_eq_self.2 (fun _ _ => rfl), Option.bind_some]
      unfold M.slices_Sort_70 M.slices_Compact_71
      have d1 : decide ((xs.map (·.Kind)).length < 4611686018427387904) = true := decide_eq_true (by simp; omega)
      have d2 : decide ((gxSortS (xs.map (·.Kind))).length < 4611686018427387904) = true := decide_eq_true (by omega)
      simp only [d1, d2, cond_true, Option.bind_some]
      generalize gxCompS (gxSortS (xs.map (·.Kind))) = K at hstr hmem hlenC
      obtain ⟨q, hq, hq2⟩ := while_inv (body := fun s1677 : List ByteArray × List Int × Int × List Int =>
        bif decide (s1677.2.2.1 < (xs.length : Int)) then (Option.bind (α := List ByteArray × List Int × List Int) (Option.bind (whileM (σ := Int) (ρ := Int) (fun s2060 =>
          Option.bind (α := Bool) (bif decide (s2060 < (s1677.1.length : Int)) then (Option.bind (gxIdx s1677.1 s2060) fun y2082 =>
          Option.bind (gxIdx xs s1677.2.2.1) fun y2083 =>
          some (Op.bytesLess y2082.toList y2083.Kind.toList))
          else some false) fun o2078 =>
          bif o2078 then some (.inl (w64 (s2060 + 1)))
          else some (.inr s2060)) gxFuel 0) fun out2067 =>
        Option.bind (α := Bool) (bif decide (out2067 < (s1677.1.length : Int)) then (Option.bind (gxIdx s1677.1 out2067) fun y2108 =>
        Option.bind (gxIdx xs s1677.2.2.1) fun y2109 =>
        some (y2108.toList == y2109.Kind.toList))
        else some false) fun o2104 =>
        bif o2104 then (Option.bind (gxIdx s1677.2.1 out2067) fun y2119 =>
        Option.bind (gxIdx s1677.2.1 out2067) fun y2120 =>
        some (s1677.1, (s1677.2.1.set out2067.toNat (w64 (y2119 + 1))), (s1677.2.1.set out2067.toNat (w64 (y2119 + 1)))))
        else (Option.bind (gxSlice s1677.1 0 out2067) fun ys2132 =>
        Option.bind (gxApp 16 ([] : List ByteArray) ys2132) fun ap2134 =>
        Option.bind (gxIdx xs s1677.2.2.1) fun y2140 =>
        Option.bind (gxApp 16 ap2134 [y2140.Kind]) fun ap2146 =>
        Option.bind (gxSlice s1677.1 out2067 (s1677.1.length : Int)) fun ys2152 =>
        Option.bind (gxApp 16 ap2146 ys2152) fun ap2217 =>
        Option.bind (gxSlice s1677.2.1 0 out2067) fun ys2232 =>
        Option.bind (gxApp 8 ([] : List Int) ys2232) fun ap2234 =>
        Option.bind (gxApp 8 ap2234 [1]) fun ap2245 =>
        Option.bind (gxSlice s1677.2.1 out2067 (s1677.2.1.length : Int)) fun ys2251 =>
        Option.bind (gxApp 8 ap2245 ys2251) fun ap2296 =>
        some (ap2217, ap2296, s1677.2.1))) fun o2001 =>
        some (Sum.inl (β := List ByteArray × List Int × List Int) (o2001.1, o2001.2.1, w64 (s1677.2.2.1 + 1), s1677.2.2.2)))
        else some (.inr (s1677.1, s1677.2.1, s1677.2.2.2))) (s0 := (([] : List ByteArray), ([] : List Int), 0, ([] : List Int))) (fun i s => s.2.2.1 = (i : Int) ∧ InvK (xs.take i) s.1 s.2.1) (fun r => InvK xs r.1 r.2.1) xs.length (by omega) ⟨rfl, List.Pairwise.nil, by simp, rfl, by simp⟩ (fun i s hi hR => by
          obtain ⟨K, C, j, C2⟩ := s
          obtain ⟨hj, hI⟩ := hR
          simp only at hj hI
          subst hj
          have e0 : ((i : Int) < (xs.length : Int)) := by omega
          have hKl : K.length ≤ 30 := by have := hI.len; simp at this; omega
          have htk : xs.take (i + 1) = xs.take i ++ [xs[i]] := by rw [List.take_add_one, List.getElem?_eq_getElem hi]; rfl
          have hCl : C.length = K.length := by rw [hI.cnt]; simp
          obtain ⟨hK, hstep⟩ := stepK hI xs[i]
          generalize hAe : K.takeWhile (fun s => Op.bytesLess s.toList xs[i].Kind.toList) = A at hK hstep
          generalize hBe : K.dropWhile (fun s => Op.bytesLess s.toList xs[i].Kind.toList) = B at hK hstep
          simp only [e0, decide_true, cond_true]
          rw [while_place (xs := K) (fun s => Op.bytesLess s.toList xs[i].Kind.toList) (by omega), hAe]
          · have hAK : A.length + B.length = K.length := by rw [hK, List.length_append]
            have htA : K.take A.length = A := by rw [hK]; simp
            have hdB : K.drop A.length = B := by rw [hK]; simp
            have hC : C = A.map (cntK (xs.take i)) ++ B.map (cntK (xs.take i)) := by rw [hI.cnt, hK, List.map_append]
            have htC : C.take A.length = A.map (cntK (xs.take i)) := by rw [hC]; simp
            have hdC : C.drop A.length = B.map (cntK (xs.take i)) := by rw [hC]; simp
            simp only [Option.bind_some, gxIdx_nat hi]
            rcases hstep with ⟨B', hB, hI'⟩ | ⟨hB, hI'⟩
            · have hp : A.length < K.length := by rw [← hAK, hB]; simp
              have hpC : A.length < C.length := by omega
              have hat : K[A.length] = xs[i].Kind := by
                have : K[A.length]? = some xs[i].Kind := by rw [hK, hB]; simp
                rw [List.getElem?_eq_getElem hp] at this
                exact Option.some.inj this
              have hatC : C[A.length] = cntK (xs.take i) xs[i].Kind := by
                have : C[A.length]? = some (cntK (xs.take i) xs[i].Kind) := by rw [hC, hB]; simp
                rw [List.getElem?_eq_getElem hpC] at this
                exact Option.some.inj this
              have e1 : ((A.length : Int) < (K.length : Int)) := by omega
              have hc := cntK_le (xs.take i) xs[i].Kind
              have hset : C.set A.length (cntK (xs.take i) xs[i].Kind + 1) = A.map (cntK (xs.take i)) ++ (cntK (xs.take i) xs[i].Kind + 1) :: B'.map (cntK (xs.take i)) := by
                rw [hC, hB, List.map_cons]
                have := set_mid (A.map (cntK (xs.take i))) (B'.map (cntK (xs.take i))) (cntK (xs.take i) xs[i].Kind) (cntK (xs.take i) xs[i].Kind + 1)
                rw [List.length_map] at this
                exact this
              have hw : w64 (cntK (xs.take i) xs[i].Kind + 1) = cntK (xs.take i) xs[i].Kind + 1 := w64_id (by omega) (by simp at hc; omega)
              simp only [e1, decide_true, cond_true, gxIdx_nat hp, gxIdx_nat hpC, hat, hatC, beq_self_eq_true, Option.bind_some, Int.toNat_natCast, hw, hset, w64_succ (show i ≤ 4611686018427387904 by omega)]
              rw [← htk] at hI'
              exact Or.inl ⟨_, rfl, rfl, hI'⟩
            · have hnot : (bif decide ((A.length : Int) < (K.length : Int)) then (Option.bind (gxIdx K (A.length : Int)) fun y2108 => some (y2108.toList == xs[i].Kind.toList)) else some false) = some false := by
                by_cases hp : A.length < K.length
                · have e1 : ((A.length : Int) < (K.length : Int)) := by omega
                  simp only [e1, decide_true, cond_true, gxIdx_nat hp, Option.bind_some]
                  cases hBc : B with
                  | nil => rw [hBc] at hAK; simp at hAK; omega
                  | cons b B' =>
                    have hat : K[A.length] = b := by
                      have : K[A.length]? = some b := by rw [hK, hBc]; simp
                      rw [List.getElem?_eq_getElem hp] at this
                      exact Option.some.inj this
                    have : (b.toList == xs[i].Kind.toList) = false := by
                      rw [Bool.eq_false_iff]
                      exact fun hc => hB b B' hBc ((same_dec _ _).1 hc)
                    rw [hat, this]
                · have e1 : ¬ ((A.length : Int) < (K.length : Int)) := by omega
                  simp only [e1, decide_false, cond_false]
              rw [hnot]
              have hAl : A.length ≤ K.length := by omega
              have hCl2 : A.length ≤ C.length := by omega
              simp only [Option.bind_some, cond_false, gxSlice_take hAl, gxSlice_drop hAl, gxSlice_take hCl2, gxSlice_drop hCl2, htA, hdB, htC, hdC]
              rw [gxApp_ok (by simp; omega), Option.bind_some, gxApp_ok (by simp; omega), Option.bind_some, gxApp_ok (by simp; omega), Option.bind_some, gxApp_ok (by simp; omega), Option.bind_some, gxApp_ok (by simp; omega), Option.bind_some, gxApp_ok (by simp; omega), Option.bind_some, Option.bind_some, w64_succ (show i ≤ 4611686018427387904 by omega)]
              rw [← htk] at hI'
              exact Or.inl ⟨_, rfl, rfl, by simpa using hI'⟩
          · intro j hj
            have e1 : ((j : Int) < (K.length : Int)) := by omega
            simp only [e1, decide_true, cond_true, gxIdx_nat hj, gxIdx_nat hi, Option.bind_some]
            cases Op.bytesLess K[j].toList xs[i].Kind.toList <;> rfl
          · simp only [Int.lt_irrefl, decide_false, cond_false, Option.bind_some]) (fun s hR => by
          obtain ⟨K, C, j, C2⟩ := s
          obtain ⟨hj, hI⟩ := hR
          simp only at hj hI
          subst hj
          rw [List.take_length] at hI
          simp only [Int.lt_irrefl, decide_false, cond_false]
          exact ⟨_, rfl, hI⟩)
      have hKK : q.1 = K := strict_uniq hq2.strict hstr fun k => by rw [hq2.mem, hmem]
      rw [hq, while_run (fun i => ((K.take i).map (cntK xs), (i : Int))) (K.map (cntK xs)) K.length (by simp) (by omega)]
      · refine ⟨(K, K.map (cntK xs), true), ?_, rfl, by simp only; omega, by simp; omega⟩
        simp only [Option.bind_some, hq2.cnt, hKK]
      · intro i hi
        have e0 : ((i : Int) < (K.length : Int)) := by omega
        simp only [e0, decide_true, cond_true, gxIdx_nat hi, Option.bind_some, i_whereKind xs _ (show xs.length ≤ 1048576 by omega)]
        rw [gxApp_ok (by simp; omega), Option.bind_some, w64_succ (show i ≤ 4611686018427387904 by omega), List.take_add_one, List.getElem?_eq_getElem hi, Option.toList_some, List.map_append]
        rfl
      · simp only [Int.lt_irrefl, decide_false, cond_false, List.take_length]
    · intro i hi acc hacc
      have e0 : ((i : Int) < (xs.length : Int)) := by omega
      simp only [e0, decide_true, cond_true, gxIdx_nat hi, Option.bind_some]
      rw [gxApp_ok (by simp; omega), Option.bind_some]
    · intro acc
      simp only [Int.lt_irrefl, decide_false, cond_false]
theorem markEventS_held (xs : List Event) (k : Nat) (h : k + 4 * xs.length ≤ 1099511627776) : ∃ (n : Nat) (m : List Event), M.l_markEventS xs k = some ((n : Int), m) ∧ True ∧ k ≤ n ∧ n = k + 4 * xs.length := by
  have hf : ∀ (x : Event) (k : Nat), k ≤ (mkEvent x k).1 := fun x k => by simp only [mkEvent]; omega
  have hc : (gmk mkEvent xs k).1 = k + 4 * xs.length := gmk_const (fun _ _ => rfl) xs k
  refine ⟨(gmk mkEvent xs k).1, (gmk mkEvent xs k).2, ?_, trivial, gmk_mono hf _ _, hc⟩
  · unfold M.l_markEventS
    rw [mark_run mkEvent hf (by omega) (by omega)]
    · rfl
    · intro i hi K L hL hK hLi hLl
      have h1 : ((i : Int) < (L.length : Int)) := by omega
      have hK : K + 4 ≤ 1099511627776 := hK
      simp only [h1, decide_true, cond_true, gxIdx_nat hL, gxIdx_same hL, List.set_set, Option.bind_some, Int.toNat_natCast, w64_succ (show K ≤ 4611686018427387904 by omega), w64_succ (show K + 1 ≤ 4611686018427387904 by omega), w64_succ (show K + 2 ≤ 4611686018427387904 by omega), w64_succ (show K + 3 ≤ 4611686018427387904 by omega), markText_ok (K + 2) (by omega), Nat.add_assoc, Nat.reduceAdd, mkEvent]
      all_goals rfl
    · intro K L hL
      simp only [hL, Int.lt_irrefl, decide_false, cond_false]

theorem plain_CountKinds (a0 : List Event) (k0 : okL okEvent a0) : M.l_FnExactCountKinds a0 = some true := by
  unfold M.l_FnExactCountKinds
  obtain ⟨q0, hq0, hf0⟩ := szEventS_ex a0 1048576 k0 (by omega)
  rw [hq0, Option.bind_some]
  rcases hf0 with hf0 | hf0
  · simp only [hf0, decide_true, cond_true]
  have hn0 : ¬ (q0 < 0) := by omega
  simp only [hn0, decide_false, cond_false]
  have hz0 := hf0.2.2
  have hw0 : (a0.length : Int) ≤ 1048576 := hz0.1
  obtain ⟨r, hs, hi, hr0, hr1⟩ := CountKinds_eq a0 hz0
  have ht0 := toEventS_id a0 (by omega)
  have he0 := eqEventS_refl a0 (by omega)
  obtain ⟨na0, ma0, hma0, _, hla0, hua0⟩ := markEventS_held a0 1 (by omega)
  have hma0 : M.l_markEventS a0 1 = _ := hma0
  obtain ⟨nr0, mr0, hmr0, hhr0, hlr0, hur0⟩ := markStringS_held r.1 1 (by omega)
  have hmr0 : M.l_markStringS r.1 1 = _ := hmr0
  have hhr0 : M.l_heldStringS mr0 1 = _ := hhr0
  have her0 := eqStringS_refl r.1 (by omega)
  obtain ⟨nr1, mr1, hmr1, hhr1, hlr1, hur1⟩ := markIntS_held r.2.1 nr0 (by omega)
  have her1 := eqIntS_refl r.2.1 (by omega)
  simp only [hs, hi, ht0, he0, hma0, hmr0, hhr0, her0, hmr1, hhr1, her1, nat_nlt, Option.bind_some, Bool.not_true, cond_false, cond_true, beq_self_eq_true, bne_self_eq_false, decide_false]

end Go.Proofs.Ytfcebglkdfadcaa
