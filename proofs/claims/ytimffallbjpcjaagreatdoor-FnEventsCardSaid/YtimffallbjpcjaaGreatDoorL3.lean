/- Plain laws of the models: no program in sight. -/
import Derived.Test.YtimffallbjpcjaaGreatDoorM
import Derived.Test.YtimffallbjpcjaaGreatDoorL2
set_option linter.unusedVariables false
set_option linter.unusedSimpArgs false
set_option maxHeartbeats 4000000
namespace Go.Proofs.YtimffallbjpcjaaGreatDoor
open Go.Gx
/-! ### Loops with an invariant -/
theorem while_inv_fuel {σ ρ : Type} {body : σ → Option (σ ⊕ ρ)} (R : Nat → σ → Prop) (Q : ρ → Prop) (n : Nat) (hstep : ∀ i s, i < n → R i s → (∃ s', body s = some (.inl s') ∧ R (i + 1) s') ∨ (∃ r, body s = some (.inr r) ∧ Q r)) (hend : ∀ s, R n s → ∃ r, body s = some (.inr r) ∧ Q r) : ∀ (k i fuel : Nat) (s : σ), i + k = n → k < fuel → R i s → ∃ r, whileM body fuel s = some r ∧ Q r
  | 0, i, fuel, s, hi, hf, hR => by
    obtain ⟨m, rfl⟩ : ∃ m, fuel = m + 1 := ⟨fuel - 1, by omega⟩
    obtain ⟨r, hr, hq⟩ := hend s (by rw [← hi]; exact hR)
    exact ⟨r, by simp only [whileM, hr], hq⟩
  | k + 1, i, fuel, s, hi, hf, hR => by
    obtain ⟨m, rfl⟩ : ∃ m, fuel = m + 1 := ⟨fuel - 1, by omega⟩
    rcases hstep i s (by omega) hR with ⟨s', hs, hR'⟩ | ⟨r, hr, hq⟩
    · obtain ⟨r, hr, hq⟩ := while_inv_fuel R Q n hstep hend k (i + 1) m s' (by omega) (by omega) hR'
      exact ⟨r, by simp only [whileM, hs]; exact hr, hq⟩
    · exact ⟨r, by simp only [whileM, hr], hq⟩
theorem while_inv {σ ρ : Type} {body : σ → Option (σ ⊕ ρ)} {s0 : σ} (R : Nat → σ → Prop) (Q : ρ → Prop) (n : Nat) (hn : n ≤ 4611686018427387904) (h0 : R 0 s0) (hstep : ∀ i s, i < n → R i s → (∃ s', body s = some (.inl s') ∧ R (i + 1) s') ∨ (∃ r, body s = some (.inr r) ∧ Q r)) (hend : ∀ s, R n s → ∃ r, body s = some (.inr r) ∧ Q r) : ∃ r, whileM body gxFuel s0 = some r ∧ Q r :=
  while_inv_fuel R Q n hstep hend n 0 gxFuel s0 (by omega) (by unfold gxFuel; omega) h0
theorem while_map {β : Type} (F : Nat → β) {n : Nat} {body : List β × Int → Option ((List β × Int) ⊕ List β)} (hl : n ≤ 1099511627776)
    (h : ∀ (i : Nat) (hi : i < n) (acc : List β), acc.length = i → body (acc, (i : Int)) = some (.inl (acc ++ [F i], w64 ((i : Int) + 1))))
    (he : ∀ acc : List β, acc.length = n → body (acc, (n : Int)) = some (.inr acc)) : whileM body gxFuel ([], 0) = some ((List.range n).map F) := by
  refine while_run (fun i => ((List.range i).map F, (i : Int))) _ n (by simp) (by omega) (fun i hi => ?_) (he _ (by simp))
  rw [h i hi _ (by simp), w64_succ (by omega), List.range_succ, List.map_append]
  rfl

/-! ### The two ways to cut a text -/
def mkB (l : List UInt8) : ByteArray := ⟨l.toArray⟩
theorem mkB_data (s : ByteArray) : mkB s.data.toList = s := by
  unfold mkB
  exact ba_ext (by simp)
theorem data_mkB (l : List UInt8) : (mkB l).data.toList = l := by simp [mkB]
theorem ext_data (s : ByteArray) (a b : Nat) : (s.extract a b).data.toList = (s.data.toList.drop a).take (b - a) := by
  rw [ByteArray.data_extract, Array.toList_extract]
theorem size_list (s : ByteArray) : s.data.toList.length = s.size := by simp
theorem byteN_list {s : ByteArray} {i : Nat} (h : i < s.data.toList.length) : byteN s i = ((s.data.toList[i]).toNat : Int) := by
  have h2 : i < s.size := by rw [size_list] at h; exact h
  unfold byteN
  have : s[i]? = some s[i] := by simp [h2]
  rw [this]
  simp only [Option.map_some, Option.getD_some]
  rfl
theorem i_split (s : ByteArray) (h : s.size ≤ 1048576) : M.strings_Split s (ByteArray.mk #[32]) = some ((cutL s.data.toList).map mkB) := by
  unfold M.strings_Split
  have h1 : 1 ≤ (ByteArray.mk #[32]).size := by decide
  simp only [h, h1, decide_true, Bool.and_true, cond_true]
  congr 1
  have e := Lib.splitB_data (ByteArray.mk #[32]) 0 (Lib.countB s (ByteArray.mk #[32])) s
  have e2 : Lib.splitK [32] 0 (Lib.count s.data.toList [32]) s.data.toList = cutL s.data.toList := split_cut _ _ (Nat.le_refl _)
  have e3 : (gxSplit s (ByteArray.mk #[32])).map (·.data.toList) = cutL s.data.toList := e.trans e2
  rw [← e3, List.map_map]
  conv => lhs; rw [← List.map_id (gxSplit s (ByteArray.mk #[32]))]
  refine List.map_congr_left fun x _ => ?_
  exact (mkB_data x).symm
theorem i_repl (s : ByteArray) (h : s.size ≤ 1048576) : M.strings_Replace s (ByteArray.mk #[32, 109, 97, 99, 104, 105, 110, 101, 32]) (ByteArray.mk #[32, 103, 117, 101, 115, 116, 32, 48, 32]) 1 = some (mkB (Lib.replace s.data.toList oldM newM 1)) := by
  unfold M.strings_Replace
  have h1 : 1 ≤ (ByteArray.mk #[32, 109, 97, 99, 104, 105, 110, 101, 32]).size := by decide
  have h2 : (ByteArray.mk #[32, 103, 117, 101, 115, 116, 32, 48, 32]).size ≤ 1000 := by decide
  simp only [h, h1, h2, decide_true, Bool.and_true, cond_true]
  rfl
theorem seg_end (L : List UInt8) (f : Nat) : (L.drop f).take (L.length - f) = L.drop f := by
  apply List.take_of_length_le
  simp
theorem s_split (s : ByteArray) (h : s.size ≤ 100000) : M.s_l1Split s 32 = some ((cutL s.data.toList).map mkB) := by
  unfold M.s_l1Split
  refine Exists.elim (while_inv (σ := List ByteArray × Int × Int) (ρ := List ByteArray × Int) (s0 := (([] : List ByteArray), 0, 0)) (body := fun s1641 =>
    bif decide (s1641.2.2 < (s.size : Int)) then (Option.bind (gxSIdx s s1641.2.2) fun q1663 =>
    Option.bind (α := List ByteArray × Int) (bif q1663 == 32 then (Option.bind (gxSSub s s1641.2.1 s1641.2.2) fun q1690 =>
    Option.bind (gxApp 16 s1641.1 [q1690]) fun ap1698 =>
    some (ap1698, w64 (s1641.2.2 + 1)))
    else some (s1641.1, s1641.2.1)) fun o1681 =>
    some (.inl (o1681.1, o1681.2, w64 (s1641.2.2 + 1))))
    else some (.inr (s1641.1, s1641.2.1)))
    (fun i t => t.2.2 = (i : Int) ∧ ∃ f : Nat, t.2.1 = (f : Int) ∧ f ≤ i ∧ t.1.length ≤ i ∧ (32 : UInt8) ∉ (s.data.toList.drop f).take (i - f) ∧ t.1 ++ (cutL (s.data.toList.drop f)).map mkB = (cutL s.data.toList).map mkB)
    (fun r => ∃ f : Nat, r.2 = (f : Int) ∧ f ≤ s.size ∧ r.1.length ≤ s.size ∧ (32 : UInt8) ∉ s.data.toList.drop f ∧ r.1 ++ (cutL (s.data.toList.drop f)).map mkB = (cutL s.data.toList).map mkB) s.size (by omega)
    ⟨rfl, 0, rfl, Nat.le_refl _, Nat.le_refl _, by simp, by simp⟩ ?_ ?_) ?_
  · rintro i ⟨out, fr, k⟩ hi ⟨hk, f, hf, h1, h2, h3, h4⟩
    simp only at hk hf h2 h4
    subst hk hf
    have hl : i < s.data.toList.length := by rw [size_list]; exact hi
    have c1 : (i : Int) < (s.size : Int) := by omega
    have es : w64 ((i : Int) + 1) = ((i + 1 : Nat) : Int) := w64_succ (by omega)
    have hx : (s.data.toList.drop f).take (i + 1 - f) = (s.data.toList.drop f).take (i - f) ++ [s.data.toList[i]] := by
      have e : i + 1 - f = (i - f) + 1 := by omega
      rw [e, List.take_add_one]
      congr 1
      rw [List.getElem?_drop, show f + (i - f) = i by omega, List.getElem?_eq_getElem hl]
      rfl
    refine Or.inl ?_
    simp only [c1, decide_true, cond_true, gxSIdx_ok hi, Option.bind_some, es]
    by_cases hb : s.data.toList[i] = 32
    · have e0 : (byteN s i == 32) = true := by rw [byteN_list hl, hb]; rfl
      have e1 : gxSSub s (f : Int) (i : Int) = some (s.extract f i) := by
        unfold gxSSub
        rw [if_pos ⟨by omega, by omega, by omega⟩]
        simp
      have e2 : s.extract f i = mkB ((s.data.toList.drop f).take (i - f)) := by
        refine ba_ext ?_
        rw [ext_data, data_mkB]
      simp only [e0, cond_true, e1, Option.bind_some, gxApp_ok (xs := out) (ys := [s.extract f i]) (B := 16) (by simp only [List.length_cons, List.length_nil]; omega)]
      refine ⟨_, rfl, rfl, i + 1, rfl, Nat.le_refl _, by simp only [List.length_append, List.length_cons, List.length_nil]; omega, by simp, ?_⟩
      have e3 : s.data.toList.drop f = (s.data.toList.drop f).take (i - f) ++ 32 :: s.data.toList.drop (i + 1) := by
        conv => lhs; rw [← List.take_append_drop (i - f) (s.data.toList.drop f)]
        congr 1
        rw [List.drop_drop, show f + (i - f) = i by omega, List.drop_eq_getElem_cons hl, hb]
      rw [← h4, e3, cut_app h3, e2]
      simp
    · have e0 : (byteN s i == 32) = false := by
        rw [byteN_list hl, beq_eq_false_iff_ne]
        intro e
        apply hb
        have e' : (s.data.toList[i]).toNat = 32 := by omega
        exact UInt8.toNat.inj e'
      simp only [e0, cond_false, Option.bind_some]
      refine ⟨_, rfl, rfl, f, rfl, by omega, by simp only; omega, ?_, h4⟩
      rw [hx]
      intro hm
      rcases List.mem_append.1 hm with e | e
      · exact h3 e
      · simp only [List.mem_singleton] at e
        exact hb e.symm
  · rintro ⟨out, fr, k⟩ ⟨hk, f, hf, h1, h2, h3, h4⟩
    simp only at hk hf h2 h4
    subst hk hf
    have c1 : ¬ ((s.size : Int) < (s.size : Int)) := by omega
    simp only [c1, decide_false, cond_false]
    refine ⟨_, rfl, f, rfl, h1, h2, ?_, h4⟩
    rw [← size_list, seg_end] at h3
    exact h3
  · rintro r ⟨hr, q⟩
    rw [hr]
    obtain ⟨f, hf, h1, h2, h3, h4⟩ := q
    have e1 : gxSSub s r.2 (s.size : Int) = some (s.extract f s.size) := by
      unfold gxSSub
      rw [hf, if_pos ⟨by omega, by omega, by omega⟩]
      simp
    have e2 : s.extract f s.size = mkB (s.data.toList.drop f) := by
      refine ba_ext ?_
      rw [ext_data, data_mkB, ← size_list, seg_end]
    simp only [Option.bind_some, e1, gxApp_ok (xs := r.1) (ys := [s.extract f s.size]) (B := 16) (by simp only [List.length_cons, List.length_nil]; omega)]
    rw [← h4, cut_none h3, e2, List.map_cons, List.map_nil]

end Go.Proofs.YtimffallbjpcjaaGreatDoor
