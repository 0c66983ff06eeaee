/- Plain laws of the models: no program in sight. -/
import Derived.Test.YtllhajkgkghhdaaGreatAM
import Derived.Test.YtllhajkgkghhdaaGreatAK3
set_option linter.unusedVariables false
set_option linter.unusedSimpArgs false
set_option maxHeartbeats 4000000
namespace Go.Proofs.YtllhajkgkghhdaaGreat
open Go.Gx
/-! ### Loops that choose, loops that look for a place -/
theorem while_filter {α β : Type} {xs : List α} (p : α → Bool) (f : α → β) {body : List β × Int → Option ((List β × Int) ⊕ List β)} (hl : xs.length ≤ 1099511627776)
    (h : ∀ (i : Nat) (hi : i < xs.length) (acc : List β), acc.length ≤ i → body (acc, (i : Int)) = some (.inl (bif p xs[i] then acc ++ [f xs[i]] else acc, w64 ((i : Int) + 1))))
    (he : ∀ acc, body (acc, (xs.length : Int)) = some (.inr acc)) : whileM body gxFuel ([], 0) = some ((xs.filter p).map f) := by
  refine while_run (fun i => (((xs.take i).filter p).map f, (i : Int))) _ xs.length (by simp) (by omega) (fun i hi => ?_) ?_
  · have hle : (((xs.take i).filter p).map f).length ≤ i := by
      rw [List.length_map]
      exact Nat.le_trans (List.length_filter_le _ _) (by simp; omega)
    rw [h i hi _ hle, w64_succ (by omega), List.take_add_one, List.getElem?_eq_getElem hi, Option.toList_some, List.filter_append, List.map_append]
    cases hp : p xs[i] <;> simp [hp]
  · rw [he, List.take_length]
theorem while_place {α : Type} {xs : List α} (p : α → Bool) {body : Int → Option (Int ⊕ Int)} (hl : xs.length ≤ 1099511627776)
    (h : ∀ (i : Nat) (hi : i < xs.length), body (i : Int) = some (bif p xs[i] then .inl (w64 ((i : Int) + 1)) else .inr (i : Int)))
    (he : body (xs.length : Int) = some (.inr (xs.length : Int))) : whileM body gxFuel 0 = some ((xs.takeWhile p).length : Int) := by
  have hk : (xs.takeWhile p).length ≤ xs.length := (List.takeWhile_prefix p).length_le
  refine while_run (fun i => (i : Int)) _ (xs.takeWhile p).length (by simp) (by omega) (fun i hi => ?_) ?_
  · have hi' : i < xs.length := by omega
    have hp : p xs[i] = true := by
      have h1 : (xs.takeWhile p)[i] = xs[i] := (List.takeWhile_prefix p).getElem hi
      have h2 := List.all_takeWhile (p := p) (l := xs)
      rw [List.all_eq_true] at h2
      rw [← h1]
      exact h2 _ (List.getElem_mem hi)
    rw [h i hi', hp, w64_succ (by omega)]
    rfl
  · by_cases hlt : (xs.takeWhile p).length < xs.length
    · have hp : p xs[(xs.takeWhile p).length] = false := by
        have h1 : xs = xs.takeWhile p ++ xs.dropWhile p := (List.takeWhile_append_dropWhile).symm
        cases hd : xs.dropWhile p with
        | nil => rw [hd, List.append_nil] at h1; rw [← h1] at hlt; omega
        | cons y r =>
          have h2 : p y = false := by
            have := List.head_dropWhile_not p (l := xs) (by rw [hd]; simp)
            simpa [hd] using this
          have h3 : xs[(xs.takeWhile p).length]? = some y := by
            conv => lhs; arg 1; rw [h1]
            rw [List.getElem?_append_right (Nat.le_refl _), Nat.sub_self, hd]
            rfl
          rw [List.getElem?_eq_getElem hlt] at h3
          rw [Option.some.inj h3]
          exact h2
      rw [h _ hlt, hp]
      rfl
    · rw [show (xs.takeWhile p).length = xs.length by omega, he]
theorem while_more {σ ρ : Type} {body : σ → Option (σ ⊕ ρ)} {r : ρ} : ∀ (n m : Nat) (s : σ), n ≤ m → whileM body n s = some r → whileM body m s = some r
  | 0, _, s, _, h => by simp [whileM] at h
  | n + 1, 0, s, hm, _ => by omega
  | n + 1, m + 1, s, hm, h => by
    simp only [whileM] at h ⊢
    split at h
    · exact h
    · rename_i hb
      first
        | exact while_more n m _ (by omega) h
        | exact h
    · exact h
theorem while_small {σ ρ : Type} {body : σ → Option (σ ⊕ ρ)} {r : ρ} {s : σ} (n : Nat) (hn : n ≤ 1000000) (h : whileM body n s = some r) : whileM body gxFuel s = some r :=
  while_more n gxFuel s (by unfold gxFuel; omega) h
theorem gxSlice_take {α : Type} {xs : List α} {k : Nat} (h : k ≤ xs.length) : gxSlice xs 0 (k : Int) = some (xs.take k) := by
  unfold gxSlice
  rw [if_pos ⟨by omega, by omega, by omega⟩]
  simp
theorem gxSlice_drop {α : Type} {xs : List α} {k : Nat} (h : k ≤ xs.length) : gxSlice xs (k : Int) (xs.length : Int) = some (xs.drop k) := by
  unfold gxSlice
  rw [if_pos ⟨by omega, by omega, by omega⟩]
  simp
/-! ### Insertion from the right -/
def insRev {α : Type} (lt : α → α → Bool) (x : α) : List α → List α
  | [] => [x]
  | y :: r => bif lt x y then y :: insRev lt x r else x :: y :: r
def insR {α : Type} (lt : α → α → Bool) (pre : List α) (x : α) : List α := (insRev lt x pre.reverse).reverse
def isortL {α : Type} (lt : α → α → Bool) (xs : List α) : List α := xs.foldl (insR lt) []
theorem inner_run {α : Type} (lt : α → α → Bool) {body : Int × List α → Option ((Int × List α) ⊕ List α)}
    (hstep : ∀ (j : Nat) (L : List α) (h1 : j + 1 < L.length), j ≤ 1099511627776 → body (((j + 1 : Nat) : Int), L) = some (bif lt L[j + 1] (L[j]'(by omega)) then .inl ((j : Int), (L.set (j + 1) (L[j]'(by omega))).set j L[j + 1]) else .inr L))
    (h0 : ∀ L, body (0, L) = some (.inr L)) (x : α) : ∀ (rp post : List α) (fuel : Nat), rp.length < fuel → rp.length ≤ 1099511627776 → whileM body fuel ((rp.length : Int), rp.reverse ++ x :: post) = some ((insRev lt x rp).reverse ++ post)
  | [], post, fuel + 1, _, _ => by
    have := h0 ([].reverse ++ x :: post)
    simp only [List.length_nil] at this ⊢
    simp only [whileM, show ((0 : Nat) : Int) = 0 from rfl, this]
    rfl
  | y :: r, post, fuel + 1, hf, hb => by
    have hl : r.length + 1 < ((y :: r).reverse ++ x :: post).length := by simp
    have e1 : ((y :: r).reverse ++ x :: post)[r.length + 1] = x := by
      rw [List.getElem_append_right (by simp)]
      simp
    have e0 : ((y :: r).reverse ++ x :: post)[r.length]'(by omega) = y := by
      rw [List.getElem_append_left (by simp)]
      simp
    have := hstep r.length _ hl (by simp at hb; omega)
    rw [e1, e0] at this
    simp only [whileM, List.length_cons, this]
    cases hxy : lt x y with
    | false =>
      simp only [cond_false, insRev, hxy]
      simp
    | true =>
      simp only [cond_true, insRev, hxy]
      have e2 : (((y :: r).reverse ++ x :: post).set (r.length + 1) y).set r.length x = r.reverse ++ x :: (y :: post) := by
        simp only [List.reverse_cons, List.append_assoc, List.cons_append, List.nil_append]
        rw [List.set_append_right _ _ (by simp), List.set_append_right _ _ (by simp)]
        simp
      rw [e2]
      have ih := inner_run lt hstep h0 x r (y :: post) fuel (by simp at hf; omega) (by simp at hb; omega)
      rw [ih]
      simp
theorem insRev_len {α : Type} (lt : α → α → Bool) (x : α) : ∀ l : List α, (insRev lt x l).length = l.length + 1
  | [] => rfl
  | y :: r => by
    simp only [insRev]
    cases lt x y <;> simp [insRev_len lt x r]
theorem insR_len {α : Type} (lt : α → α → Bool) (pre : List α) (x : α) : (insR lt pre x).length = pre.length + 1 := by simp [insR, insRev_len]
theorem isortL_snoc {α : Type} (lt : α → α → Bool) (xs : List α) (x : α) : isortL lt (xs ++ [x]) = insR lt (isortL lt xs) x := by simp [isortL]
theorem isortL_len {α : Type} (lt : α → α → Bool) (xs : List α) : (isortL lt xs).length = xs.length := by
  have : ∀ (ys acc : List α), (ys.foldl (insR lt) acc).length = acc.length + ys.length := by
    intro ys
    induction ys with
    | nil => intro acc; simp
    | cons y r ih => intro acc; rw [List.foldl_cons, ih, insR_len, List.length_cons]; omega
  simpa [isortL] using this xs []
theorem insRev_perm {α : Type} (lt : α → α → Bool) (x : α) : ∀ l : List α, (insRev lt x l).Perm (x :: l)
  | [] => List.Perm.refl _
  | y :: r => by
    simp only [insRev]
    cases lt x y with
    | false => exact List.Perm.refl _
    | true => exact ((insRev_perm lt x r).cons y).trans (List.Perm.swap x y r)
theorem insR_perm {α : Type} (lt : α → α → Bool) (pre : List α) (x : α) : (insR lt pre x).Perm (x :: pre) :=
  (List.reverse_perm _).trans ((insRev_perm lt x _).trans ((List.reverse_perm pre).cons x))
theorem isortL_perm {α : Type} (lt : α → α → Bool) (xs : List α) : (isortL lt xs).Perm xs := by
  have : ∀ (ys acc : List α), (ys.foldl (insR lt) acc).Perm (acc ++ ys) := by
    intro ys
    induction ys with
    | nil => intro acc; simp
    | cons y r ih =>
      intro acc
      rw [List.foldl_cons]
      refine (ih _).trans ?_
      refine ((insR_perm lt acc y).append_right r).trans ?_
      exact (List.perm_middle (l₁ := acc) (a := y) (l₂ := r)).symm
  simpa [isortL] using this xs []
/-- In the order of keys. -/
def ordered {α : Type} (key : α → Int) (l : List α) : Prop := l.Pairwise fun a b => key a ≤ key b
theorem insRev_ord {α : Type} (key : α → Int) (x : α) : ∀ l : List α, (l.Pairwise fun a b => key b ≤ key a) → (insRev (fun a b => decide (key a < key b)) x l).Pairwise fun a b => key b ≤ key a
  | [], _ => by simp [insRev]
  | y :: r, h => by
    rw [List.pairwise_cons] at h
    simp only [insRev]
    by_cases hxy : key x < key y
    · simp only [hxy, decide_true, cond_true, List.pairwise_cons]
      refine ⟨fun a ha => ?_, insRev_ord key x r h.2⟩
      rcases List.mem_cons.1 ((insRev_perm _ x r).mem_iff.1 ha) with rfl | ha
      · omega
      · exact h.1 a ha
    · simp only [hxy, decide_false, cond_false, List.pairwise_cons]
      refine ⟨fun a ha => ?_, h.1, h.2⟩
      rcases List.mem_cons.1 ha with rfl | ha
      · omega
      · have := h.1 a ha; omega
theorem insR_ord {α : Type} (key : α → Int) {pre : List α} (h : ordered key pre) (x : α) : ordered key (insR (fun a b => decide (key a < key b)) pre x) := by
  unfold ordered insR
  rw [List.pairwise_reverse]
  exact insRev_ord key x _ (by rw [List.pairwise_reverse]; exact h)
theorem isortL_ord {α : Type} (key : α → Int) (xs : List α) : ordered key (isortL (fun a b => decide (key a < key b)) xs) := by
  have : ∀ (ys acc : List α), ordered key acc → ordered key (ys.foldl (insR (fun a b => decide (key a < key b))) acc) := by
    intro ys
    induction ys with
    | nil => intro acc h; exact h
    | cons y r ih => intro acc h; exact ih _ (insR_ord key h y)
  exact this xs [] (by simp [ordered])
theorem ordered_uniq {α : Type} (key : α → Int) : ∀ {A B : List α}, (A.Pairwise fun a b => key a < key b) → ordered key B → A.Perm B → A = B
  | [], B, _, _, hp => (List.Perm.nil_eq hp)
  | a :: A, [], _, _, hp => by have := hp.length_eq; simp at this
  | a :: A, b :: B, hA, hB, hp => by
    unfold ordered at hB
    rw [List.pairwise_cons] at hA hB
    have hab : a = b := by
      have h1 : a ∈ b :: B := hp.mem_iff.1 (by simp)
      have h2 : b ∈ a :: A := hp.mem_iff.2 (by simp)
      rcases List.mem_cons.1 h1 with h1 | h1
      · exact h1
      · rcases List.mem_cons.1 h2 with h2 | h2
        · exact h2.symm
        · have := hA.1 b h2
          have := hB.1 a h1
          omega
    subst hab
    rw [ordered_uniq key hA.2 hB.2 (List.Perm.cons_inv hp)]
theorem outer_run {α : Type} (lt : α → α → Bool) {xs : List α} {body : Int × List α → Option ((Int × List α) ⊕ List α)} (hl : xs.length ≤ 1099511627776)
    (h : ∀ (i : Nat) (pre post : List α) (x : α), pre.length = i → i < xs.length → body ((i : Int), pre ++ x :: post) = some (.inl (w64 ((i : Int) + 1), insR lt pre x ++ post)))
    (he : ∀ (i : Int) (L : List α), (xs.length : Int) ≤ i → body (i, L) = some (.inr L)) : whileM body gxFuel (1, xs) = some (isortL lt xs) := by
  cases xs with
  | nil =>
    refine while_small 1 (by omega) ?_
    simp only [whileM, he 1 [] (by simp)]
    rfl
  | cons x0 r =>
    refine while_run (fun i => (((i + 1 : Nat) : Int), isortL lt ((x0 :: r).take (i + 1)) ++ (x0 :: r).drop (i + 1))) _ r.length (by simp [isortL, insR, insRev]) (by simp at hl; omega) (fun i hi => ?_) ?_
    · have hi' : i + 1 < (x0 :: r).length := by simp; omega
      have hlen : (isortL lt ((x0 :: r).take (i + 1))).length = i + 1 := by rw [isortL_len]; simp; omega
      rw [List.drop_eq_getElem_cons hi', h (i + 1) _ _ _ hlen hi', w64_succ (by simp at hl; omega), ← isortL_snoc]
      congr 4
      conv => rhs; rw [List.take_add_one, List.getElem?_eq_getElem hi', Option.toList_some]
    · have := he ((r.length + 1 : Nat) : Int) (isortL lt ((x0 :: r).take (r.length + 1)) ++ (x0 :: r).drop (r.length + 1)) (by simp)
      rw [this]
      simp

/-! ### Loops with an invariant -/
theorem while_inv_fuel {σ ρ : Type} {body : σ → Option (σ ⊕ ρ)} (R : Nat → σ → Prop) (Q : ρ → Prop) (n : Nat) (hstep : ∀ i s, i < n → R i s → (∃ s', body s = some (.inl s') ∧ R (i + 1) s') ∨ (∃ r, body s = some (.inr r) ∧ Q r)) (hend : ∀ s, R n s → ∃ r, body s = some (.inr r) ∧ Q r) : ∀ (k i fuel : Nat) (s : σ), i + k = n → k < fuel → R i s → ∃ r, whileM body fuel s = some r ∧ Q r
  | 0, i, fuel, s, hi, hf, hR => by
    obtain ⟨m, rfl⟩ : ∃ m, fuel = m + 1 := ⟨fuel - 1, by omega⟩
    obtain ⟨r, hr, hq⟩ := hend s (by rw [← hi]; exact hR)
    exact ⟨r, by simp only [whileM, hr], hq⟩
  | k + 1, i, fuel, s, hi, hf, hR => by
    obtain ⟨m, rfl⟩ : ∃ m, fuel = m + 1 := ⟨fuel - 1, by omega⟩
    rcases hstep i s (by omega) hR with ⟨s', hs, hR'⟩ | ⟨r, hr, hq⟩
    · obtain ⟨r, hr, hq⟩ := while_inv_fuel R Q n hstep hend k (i + 1) m s' (by omega) (by omega) hR'
      exact ⟨r, by simp only [whileM, hs]; exact hr, hq⟩
    · exact ⟨r, by simp only [whileM, hr], hq⟩
theorem while_inv {σ ρ : Type} {body : σ → Option (σ ⊕ ρ)} {s0 : σ} (R : Nat → σ → Prop) (Q : ρ → Prop) (n : Nat) (hn : n ≤ 4611686018427387904) (h0 : R 0 s0) (hstep : ∀ i s, i < n → R i s → (∃ s', body s = some (.inl s') ∧ R (i + 1) s') ∨ (∃ r, body s = some (.inr r) ∧ Q r)) (hend : ∀ s, R n s → ∃ r, body s = some (.inr r) ∧ Q r) : ∃ r, whileM body gxFuel s0 = some r ∧ Q r :=
  while_inv_fuel R Q n hstep hend n 0 gxFuel s0 (by omega) (by unfold gxFuel; omega) h0
theorem while_map {β : Type} (F : Nat → β) {n : Nat} {body : List β × Int → Option ((List β × Int) ⊕ List β)} (hl : n ≤ 1099511627776)
    (h : ∀ (i : Nat) (hi : i < n) (acc : List β), acc.length = i → body (acc, (i : Int)) = some (.inl (acc ++ [F i], w64 ((i : Int) + 1))))
    (he : ∀ acc : List β, acc.length = n → body (acc, (n : Int)) = some (.inr acc)) : whileM body gxFuel ([], 0) = some ((List.range n).map F) := by
  refine while_run (fun i => ((List.range i).map F, (i : Int))) _ n (by simp) (by omega) (fun i hi => ?_) (he _ (by simp))
  rw [h i hi _ (by simp), w64_succ (by omega), List.range_succ, List.map_append]
  rfl

/-! ### The interface of a processor -/
def isAct (s : Slot) : Bool := s.State == 2 || s.State == 3
def actS (xs : List Slot) : List Int := (xs.filter isAct).map (·.Irq)
theorem actS_snoc (xs : List Slot) (s : Slot) : actS (xs ++ [s]) = actS xs ++ (bif isAct s then [s.Irq] else []) := by
  unfold actS
  rw [List.filter_append, List.map_append]
  cases h : isAct s <;> simp [h]
theorem isAct_ne {s : Slot} (h : isAct s = true) : (s.State == 0) = false := by
  unfold isAct at h
  simp only [Bool.or_eq_true, beq_iff_eq] at h
  have : s.State ≠ 0 := by omega
  simp [this]
theorem actS_new {xs : List Slot} (hg : goodS xs = true) {i : Nat} (hi : i < xs.length) (ha : isAct xs[i] = true) : xs[i].Irq ∉ actS (xs.take i) := by
  intro hc
  obtain ⟨s, hs, he⟩ := List.mem_map.1 hc
  obtain ⟨hm, hs2⟩ := List.mem_filter.1 hs
  obtain ⟨k, hk, hk2⟩ := List.getElem_of_mem hm
  have hki : k < i := by simp at hk; omega
  rw [List.getElem_take] at hk2
  exact irq_ne hg hki hi (isAct_ne ha) (by rw [hk2]; exact isAct_ne hs2) (by rw [hk2, he])
theorem actS_nodup {xs : List Slot} (hg : goodS xs = true) : ∀ i, i ≤ xs.length → (actS (xs.take i)).Nodup
  | 0, _ => by simp [actS]
  | i + 1, hi => by
    have ih := actS_nodup hg i (by omega)
    rw [List.take_add_one, List.getElem?_eq_getElem (show i < xs.length by omega), Option.toList_some, actS_snoc]
    cases ha : isAct (xs[i]'(by omega)) with
    | false => simpa using ih
    | true =>
      have hn := actS_new hg (show i < xs.length by omega) ha
      simp only [cond_true]
      rw [List.nodup_append]
      refine ⟨ih, by simp, fun a ha2 b hb => ?_⟩
      rw [List.mem_singleton.1 hb]
      exact fun e => hn (e ▸ ha2)
theorem s_put (l : List Int) (x : Int) (hl : l.length ≤ 1048576) (hx : x ∉ l) : ∃ r, M.s_l1Put l x = some r ∧ r.Perm (x :: l) := by
  unfold M.s_l1Put
  have hk : (l.takeWhile (fun y => decide (y < x))).length ≤ l.length := (List.takeWhile_prefix _).length_le
  rw [while_place (xs := l) (fun y => decide (y < x)) (by omega)]
  · have hno : (bif decide (((l.takeWhile (fun y => decide (y < x))).length : Int) < (l.length : Int)) then (Option.bind (gxIdx l ((l.takeWhile (fun y => decide (y < x))).length : Int)) fun y2907 => some (y2907 == x)) else some false) = some false := by
      by_cases hlt : (l.takeWhile (fun y => decide (y < x))).length < l.length
      · have e1 : (((l.takeWhile (fun y => decide (y < x))).length : Int) < (l.length : Int)) := by omega
        simp only [e1, decide_true, cond_true, gxIdx_nat hlt, Option.bind_some]
        have : (l[(l.takeWhile (fun y => decide (y < x))).length] == x) = false := by
          rw [beq_eq_false_iff_ne]
          exact fun e => hx (e ▸ List.getElem_mem hlt)
        rw [this]
      · have e1 : ¬ (((l.takeWhile (fun y => decide (y < x))).length : Int) < (l.length : Int)) := by omega
        simp only [e1, decide_false, cond_false]
    simp only [Option.bind_some]
    rw [hno]
    simp only [Option.bind_some, cond_false, gxSlice_take hk, gxSlice_drop hk]
    rw [gxApp_ok (by simp; omega), Option.bind_some, gxApp_ok (by simp; omega), Option.bind_some, gxApp_ok (by simp; omega), Option.bind_some]
    refine ⟨_, rfl, ?_⟩
    rw [List.nil_append, List.append_assoc, List.singleton_append]
    refine List.perm_middle.trans ?_
    rw [List.take_append_drop]
  · intro i hi
    have e0 : ((i : Int) < (l.length : Int)) := by omega
    simp only [e0, decide_true, cond_true, gxIdx_nat hi, Option.bind_some]
    cases decide (l[i] < x) <;> rfl
  · simp
theorem s_active (xs : List Slot) (hg : goodS xs = true) : ∃ A, M.s_l8Active xs = some A ∧ A.Perm (actS xs) := by
  have h4 : xs.length = 4 := by
    unfold goodS at hg
    simp only [Bool.and_eq_true, beq_iff_eq] at hg
    omega
  unfold M.s_l8Active
  obtain ⟨A, hA, hp⟩ := while_inv (body := fun s3081 : List Int × Int =>
    bif decide (s3081.2 < (xs.length : Int)) then (Option.bind (α := Bool) (Option.bind (gxIdx xs s3081.2) fun y3109 =>
    bif y3109.State == 2 then some true
    else (Option.bind (gxIdx xs s3081.2) fun y3111 =>
    some (y3111.State == 3))) fun o3106 =>
    Option.bind (α := List Int) (bif o3106 then (Option.bind (gxIdx xs s3081.2) fun y3136 =>
    Option.bind (M.s_l1Put s3081.1 y3136.Irq) fun r3137 =>
    some r3137)
    else some s3081.1) fun o3127 =>
    some (Sum.inl (β := List Int) (o3127, w64 (s3081.2 + 1))))
    else some (.inr s3081.1)) (s0 := (([] : List Int), 0)) (fun i s => s.2 = (i : Int) ∧ s.1.Perm (actS (xs.take i))) (fun A => A.Perm (actS xs)) xs.length (by omega) ⟨rfl, by simp [actS]⟩ (fun i s hi hR => by
      obtain ⟨l, j⟩ := s
      obtain ⟨hj, hp⟩ := hR
      simp only at hj hp
      subst hj
      have e0 : ((i : Int) < (xs.length : Int)) := by omega
      have hact : (Option.bind (some xs[i]) fun (y3109 : Slot) => bif y3109.State == 2 then some true else (Option.bind (some xs[i]) fun (y3111 : Slot) => some (y3111.State == 3))) = some (isAct xs[i]) := by
        unfold isAct
        simp only [Option.bind_some]
        cases (xs[i].State == 2) <;> rfl
      simp only [e0, decide_true, cond_true, gxIdx_nat hi]
      rw [hact]
      simp only [Option.bind_some, w64_succ (show i ≤ 4611686018427387904 by omega)]
      have hsn : actS (xs.take (i + 1)) = actS (xs.take i) ++ (bif isAct xs[i] then [xs[i].Irq] else []) := by
        rw [List.take_add_one, List.getElem?_eq_getElem hi, Option.toList_some, actS_snoc]
      have hll : l.length ≤ 4 := by
        rw [hp.length_eq]
        unfold actS
        rw [List.length_map]
        have := List.length_filter_le isAct (xs.take i)
        have h2 : (xs.take i).length ≤ 4 := by simp; omega
        omega
      cases ha : isAct xs[i] with
      | false =>
        rw [ha] at hsn
        simp only [cond_false, List.append_nil] at hsn
        simp only [cond_false, Option.bind_some]
        exact Or.inl ⟨_, rfl, rfl, by simp only; rw [hsn]; exact hp⟩
      | true =>
        rw [ha] at hsn
        simp only [cond_true] at hsn
        have hn := actS_new hg hi ha
        obtain ⟨r, hr, hrp⟩ := s_put l xs[i].Irq (by omega) (fun hc => hn (hp.mem_iff.1 hc))
        simp only [cond_true, hr, Option.bind_some]
        refine Or.inl ⟨_, rfl, rfl, ?_⟩
        simp only
        rw [hsn]
        exact (hrp.trans (hp.cons _)).trans (List.perm_append_comm (l₁ := [xs[i].Irq])) ) (fun s hR => by
      obtain ⟨l, j⟩ := s
      obtain ⟨hj, hp⟩ := hR
      simp only at hj hp
      subst hj
      simp only [Int.lt_irrefl, decide_false, cond_false]
      rw [List.take_length] at hp
      exact ⟨_, rfl, hp⟩)
  rw [hA]
  exact ⟨A, rfl, hp⟩
theorem i_active (xs : List Slot) (h : xs.length ≤ 1048576) : M.i_activeIrqs xs = some (gxSortI (actS xs)) := by
  unfold M.i_activeIrqs
  rw [while_filter (xs := xs) isAct (·.Irq) (by omega)]
  · have hl : (actS xs).length < 4611686018427387904 := by
      unfold actS
      rw [List.length_map]
      have := List.length_filter_le isAct xs
      omega
    simp only [Option.bind_some]
    unfold M.slices_Sort_114
    have hl' : decide (((xs.filter isAct).map (·.Irq)).length < 4611686018427387904) = true := decide_eq_true hl
    rw [hl']
    rfl
  · intro i hi acc hacc
    have e0 : ((i : Int) < (xs.length : Int)) := by omega
    have hact : M.i_isActive xs[i] = some (isAct xs[i]) := by
      unfold M.i_isActive isAct
      cases (xs[i].State == 2) <;> rfl
    simp only [e0, decide_true, cond_true, gxIdx_nat hi, Option.bind_some, hact]
    cases isAct xs[i] with
    | false => rfl
    | true =>
      simp only [cond_true]
      rw [gxApp_ok (by simp; omega)]
      rfl
  · intro acc
    simp
theorem s_has (l : List Int) (x : Int) (h : l.length ≤ 1048576) : M.s_l1Has l x = some (decide (x ∈ l)) := by
  unfold M.s_l1Has
  rw [while_first (fun i => (i : Int)) (fun i => l.getD i 0 == x) (fun _ => (Sum.inr true : Unit ⊕ Bool)) (Sum.inl ()) l.length (by simp) (by omega)]
  · cases hf : (List.range l.length).find? (fun i => l.getD i 0 == x) with
    | none =>
      have : x ∉ l := fun hx => by
        obtain ⟨i, hi, he⟩ := List.getElem_of_mem hx
        have := List.find?_eq_none.1 hf i (List.mem_range.2 hi)
        rw [getD_at hi, he] at this
        simp at this
      simp [this]
    | some i =>
      obtain ⟨h1, h2, _⟩ := List.find?_range_eq_some.1 hf
      have h2 := List.mem_range.1 h2
      rw [getD_at h2, beq_iff_eq] at h1
      have : x ∈ l := h1 ▸ List.getElem_mem h2
      simp [this]
  · intro i hi
    have e0 : ((i : Int) < (l.length : Int)) := by omega
    simp only [e0, decide_true, cond_true, gxIdx_nat hi, Option.bind_some, getD_at hi, w64_succ (show i ≤ 4611686018427387904 by omega)]
    cases (l[i] == x) <;> rfl
  · simp
theorem i_equal (a b : List Int) (h : a.length ≤ 1048576) : M.slices_Equal_115 a b = some (decide (a = b)) := by
  unfold M.slices_Equal_115
  by_cases hl : a.length = b.length
  · have hlI : ((a.length : Int) != (b.length : Int)) = false := by simp [hl]
    rw [hlI, cond_false, while_all (fun i => (i : Int)) (fun i => a.getD i 0 == b.getD i 0) (Sum.inr false : Unit ⊕ Bool) (Sum.inl ()) a.length (by simp) (by omega)]
    · cases ha : (List.range a.length).all (fun i => a.getD i 0 == b.getD i 0) with
      | true =>
        have : a = b := by
          apply List.ext_getElem hl
          intro i h1 h2
          have := List.all_eq_true.1 ha i (List.mem_range.2 h1)
          rw [getD_at h1, getD_at h2] at this
          simpa using this
        simp [this]
      | false =>
        have : a ≠ b := fun e => by
          subst e
          rw [List.all_eq_false] at ha
          obtain ⟨i, _, hi⟩ := ha
          simp at hi
        simp [this]
    · intro i hi
      have e0 : ((i : Int) < (a.length : Int)) := by omega
      simp only [e0, decide_true, cond_true, gxIdx_nat hi, gxIdx_nat (show i < b.length by omega), Option.bind_some, getD_at hi, getD_at (show i < b.length by omega), bne, w64_succ (show i ≤ 4611686018427387904 by omega)]
      cases (a[i] == b[i]) <;> rfl
    · simp
  · have hlI : ((a.length : Int) != (b.length : Int)) = true := by simp; omega
    have : a ≠ b := fun e => hl (by rw [e])
    rw [hlI, cond_true]
    simp [this]
theorem sort_eq_iff (a b : List Int) : gxSortI a = gxSortI b ↔ a.Perm b := by
  unfold gxSortI
  constructor
  · intro h
    have h1 := (List.mergeSort_perm a (fun x y => decide (x ≤ y))).symm
    rw [h] at h1
    exact h1.trans (List.mergeSort_perm b _)
  · intro h
    have hs : ∀ l : List Int, (l.mergeSort fun x y => decide (x ≤ y)).Pairwise fun x y => decide (x ≤ y) = true := fun l => List.pairwise_mergeSort (fun a b c h1 h2 => by
      rw [decide_eq_true_eq] at *
      omega) (fun a b => by
      rw [Bool.or_eq_true, decide_eq_true_eq, decide_eq_true_eq]
      omega) l
    refine List.Perm.eq_of_pairwise (le := fun x y => decide (x ≤ y) = true) (fun x y _ _ h1 h2 => by
      rw [decide_eq_true_eq] at *
      omega) (hs a) (hs b) ?_
    exact ((List.mergeSort_perm a _).trans h).trans (List.mergeSort_perm b _).symm
def levS (xs : List Slot) (q : Int) : Int := (xs.getD (fndS xs q).toNat gS).Priority
theorem act_find {xs : List Slot} {q : Int} (h : q ∈ actS xs) : ¬ fndS xs q < 0 := by
  intro hn
  obtain ⟨s, hs, rfl⟩ := List.mem_map.1 h
  obtain ⟨hm, ha⟩ := List.mem_filter.1 hs
  obtain ⟨i, hi, rfl⟩ := List.getElem_of_mem hm
  have := fndS_neg.1 hn i hi
  unfold mtS at this
  simp [bne, isAct_ne ha] at this
theorem s_level (q : Queue) (irq : Int) (h : q.Slots.length ≤ 1048576) (hf : ¬ fndS q.Slots irq < 0) : M.s_l10Level q irq = some (levS q.Slots irq) := by
  unfold M.s_l10Level levS
  obtain ⟨i, hi, he, _⟩ := fndS_at hf
  rw [s_find _ _ h, Option.bind_some, he, gxIdx_nat hi, Option.bind_some, Int.toNat_natCast, getD_at hi]
theorem i_level (xs : List Slot) (irq : Int) (h : xs.length ≤ 1048576) (hf : ¬ fndS xs irq < 0) : M.i_priorityIn xs irq = some (levS xs irq) := by
  unfold M.i_priorityIn levS
  obtain ⟨i, hi, he, _⟩ := fndS_at hf
  rw [i_find _ _ h, Option.bind_some, he, gxIdx_nat hi, Option.bind_some, Int.toNat_natCast, getD_at hi]
def levsOk (xs : List Slot) (st : List Int) : Bool := (List.range st.length).all fun i => decide (i = 0) || decide (levS xs (st.getD (i - 1) 0) > levS xs (st.getD i 0))
def goodI (x : Interface) : Bool := inR x.Mask 0 16 && (goodQ x.Queue && (decide (gxSortI x.Stack = gxSortI (actS x.Queue.Slots)) && levsOk x.Queue.Slots x.Stack))
theorem goodQ_slots {q : Queue} (h : goodQ q = true) : goodS q.Slots = true := by
  unfold goodQ goodP at h
  simp only [Bool.and_eq_true] at h
  exact h.1.1
theorem s_goodI (x : Interface) (h : fitIf x) : M.s_l10Good x = some (goodI x) := by
  have hx := h.1
  have hq := h.2
  unfold M.s_l10Good goodI inR
  have hgq : M.s_l9Good (⟨x.Queue.Slots, x.Queue.Waiting⟩ : Queue) = some (goodQ x.Queue) := s_goodQ x.Queue hq
  simp only [s_in, hgq, Option.bind_some]
  cases (decide (0 ≤ x.Mask) && decide (x.Mask ≤ 16)) with
  | false => rfl
  | true => cases hg : goodQ x.Queue with
    | false => rfl
    | true =>
      have hs := goodQ_slots hg
      obtain ⟨A, hA, hp⟩ := s_active x.Queue.Slots hs
      have hnd : A.Nodup := hp.nodup_iff.2 (by have := actS_nodup hs x.Queue.Slots.length (Nat.le_refl _); rwa [List.take_length] at this)
      have hAl : A.length ≤ 1048576 := by
        rw [hp.length_eq]
        unfold actS
        rw [List.length_map]
        have := List.length_filter_le isAct x.Queue.Slots
        omega
      simp only [hA, Bool.not_true, cond_false, Option.bind_some, Bool.true_and]
      rw [while_upto (fun i => (i : Int)) (fun i => (decide (x.Stack.getD i 0 ∈ A) && !(decide (x.Stack.getD i 0 ∈ x.Stack.take i))) && (decide (i = 0) || decide (levS x.Queue.Slots (x.Stack.getD (i - 1) 0) > levS x.Queue.Slots (x.Stack.getD i 0)))) (Sum.inr false : Unit ⊕ Bool) (Sum.inl ()) x.Stack.length (by simp) (by omega)]
      · by_cases hperm : x.Stack.Perm A
        · have hsort : gxSortI x.Stack = gxSortI (actS x.Queue.Slots) := (sort_eq_iff _ _).2 (hperm.trans hp)
          have hndS : x.Stack.Nodup := hperm.nodup_iff.2 hnd
          have hlen : ((x.Stack.length : Int) == (A.length : Int)) = true := by rw [hperm.length_eq]; simp
          have hall : (List.range x.Stack.length).all (fun i => (decide (x.Stack.getD i 0 ∈ A) && !(decide (x.Stack.getD i 0 ∈ x.Stack.take i))) && (decide (i = 0) || decide (levS x.Queue.Slots (x.Stack.getD (i - 1) 0) > levS x.Queue.Slots (x.Stack.getD i 0)))) = levsOk x.Queue.Slots x.Stack := by
            unfold levsOk
            rw [Bool.eq_iff_iff, List.all_eq_true, List.all_eq_true]
            have hin : ∀ i, i < x.Stack.length → (decide (x.Stack.getD i 0 ∈ A) && !(decide (x.Stack.getD i 0 ∈ x.Stack.take i))) = true := fun i hi => by
              rw [getD_at hi]
              have h1 : x.Stack[i] ∈ A := hperm.mem_iff.1 (List.getElem_mem hi)
              have h2 : x.Stack[i] ∉ x.Stack.take i := fun hc => by
                obtain ⟨k, hk, hk2⟩ := List.getElem_of_mem hc
                have hki : k < i := by simp at hk; omega
                rw [List.getElem_take] at hk2
                have := (List.pairwise_iff_getElem.1 hndS) k i (by omega) hi hki
                exact this hk2
              simp [h1, h2]
            exact ⟨fun hh i hi => by have := hh i hi; rw [hin i (List.mem_range.1 hi)] at this; simpa using this, fun hh i hi => by rw [hin i (List.mem_range.1 hi)]; simpa using hh i hi⟩
          rw [hall, decide_eq_true hsort, Bool.true_and]
          cases levsOk x.Queue.Slots x.Stack with
          | false => rfl
          | true => simp only [cond_true, Option.bind_some, Sum.elim_inl, hlen]
        · have hsort : ¬ (gxSortI x.Stack = gxSortI (actS x.Queue.Slots)) := fun e => hperm (((sort_eq_iff _ _).1 e).trans hp.symm)
          rw [decide_eq_false hsort, Bool.false_and]
          cases hall : (List.range x.Stack.length).all (fun i => (decide (x.Stack.getD i 0 ∈ A) && !(decide (x.Stack.getD i 0 ∈ x.Stack.take i))) && (decide (i = 0) || decide (levS x.Queue.Slots (x.Stack.getD (i - 1) 0) > levS x.Queue.Slots (x.Stack.getD i 0)))) with
          | false => rfl
          | true =>
            rw [List.all_eq_true] at hall
            have hlen : ((x.Stack.length : Int) == (A.length : Int)) = false := by
              rw [beq_eq_false_iff_ne]
              intro hl
              refine hperm (nodup_perm ?_ (fun y hy => ?_) (by omega))
              · rw [List.Nodup, List.pairwise_iff_getElem]
                intro i j hi hj hij he
                have := hall j (List.mem_range.2 hj)
                simp only [Bool.and_eq_true, Bool.not_eq_true', decide_eq_false_iff_not] at this
                rw [getD_at hj] at this
                refine this.1.2 ?_
                rw [← he]
                have : x.Stack[i] = (x.Stack.take j)[i]'(by simp; omega) := by rw [List.getElem_take]
                rw [this]
                exact List.getElem_mem _
              · obtain ⟨i, hi, rfl⟩ := List.getElem_of_mem hy
                have := hall i (List.mem_range.2 hi)
                simp only [Bool.and_eq_true, decide_eq_true_eq] at this
                rw [getD_at hi] at this
                exact this.1.1
            simp only [cond_true, Option.bind_some, Sum.elim_inl, hlen]
      · intro i hi hprev
        have e0 : ((i : Int) < (x.Stack.length : Int)) := by omega
        have hsl : gxSlice x.Stack 0 (i : Int) = some (x.Stack.take i) := by
          unfold gxSlice
          rw [if_pos ⟨by omega, by omega, by omega⟩]
          simp
        simp only [e0, decide_true, cond_true, gxIdx_nat hi, Option.bind_some, s_has A _ hAl, hsl, s_has (x.Stack.take i) _ (show (x.Stack.take i).length ≤ 1048576 by simp; omega), getD_at hi, w64_succ (show i ≤ 4611686018427387904 by omega)]
        by_cases hin : x.Stack[i] ∈ A
        · by_cases hdup : x.Stack[i] ∈ x.Stack.take i
          · simp [hin, hdup]
          · by_cases h0 : i = 0
            · subst h0
              have hz : ¬ (((0 : Nat) : Int) > 0) := by omega
              simp [hin, hdup, hz]
            · have hz : ((i : Int) > 0) := by omega
              have hpl : i - 1 < x.Stack.length := by omega
              have hp1 := hprev (i - 1) (by omega)
              simp only [Bool.and_eq_true, decide_eq_true_eq] at hp1
              have hpa : x.Stack.getD (i - 1) 0 ∈ A := hp1.1.1
              have hl1 := s_level (⟨x.Queue.Slots, x.Queue.Waiting⟩ : Queue) (x.Stack.getD (i - 1) 0) hq.1 (act_find (hp.mem_iff.1 hpa))
              have hl2 := s_level (⟨x.Queue.Slots, x.Queue.Waiting⟩ : Queue) x.Stack[i] hq.1 (act_find (hp.mem_iff.1 hin))
              simp only [hin, hdup, hz, h0, decide_true, decide_false, Bool.not_true, Bool.not_false, cond_true, cond_false, Option.bind_some, Bool.true_and, Bool.false_or, gxIdx_prevZ (z := (0 : Int)) hi (show 0 < i by omega) (by omega), hl1, hl2]
              by_cases hlev : levS x.Queue.Slots (x.Stack.getD (i - 1) 0) ≤ levS x.Queue.Slots x.Stack[i]
              · have : ¬ (levS x.Queue.Slots (x.Stack.getD (i - 1) 0) > levS x.Queue.Slots x.Stack[i]) := by omega
                simp only [hlev, this, decide_true, decide_false, cond_true, cond_false]
              · have : (levS x.Queue.Slots (x.Stack.getD (i - 1) 0) > levS x.Queue.Slots x.Stack[i]) := by omega
                simp only [hlev, this, decide_true, decide_false, cond_true, cond_false]
        · simp [hin]
      · intro _
        simp
theorem i_goodI (x : Interface) (h : fitIf x) : M.i_IsInterface x = some (goodI x) := by
  have hx := h.1
  have hq := h.2
  unfold M.i_IsInterface goodI inR
  have hgq : M.i_IsQueue (⟨x.Queue.Slots, x.Queue.Waiting⟩ : Queue) = some (goodQ x.Queue) := i_goodQ x.Queue hq
  simp only [M.i_isMask, i_in, hgq, Option.bind_some]
  cases (decide (0 ≤ x.Mask) && decide (x.Mask ≤ 16)) with
  | false => rfl
  | true => cases hg : goodQ x.Queue with
    | false => rfl
    | true =>
      have hcp : M.i_copyInts x.Stack = some x.Stack := by
        unfold M.i_copyInts
        rw [gxApp_ok (by simp; omega)]
        rfl
      have hso : M.slices_Sort_114 x.Stack = some (gxSortI x.Stack) := by
        unfold M.slices_Sort_114
        rw [decide_eq_true (show x.Stack.length < 4611686018427387904 by omega)]
        rfl
      have hsl : (gxSortI x.Stack).length ≤ 1048576 := by simp [gxSortI]; omega
      simp only [Bool.not_true, cond_false, Bool.true_and, hcp, hso, i_active _ hq.1, i_equal _ _ hsl, Option.bind_some]
      by_cases hsort : gxSortI x.Stack = gxSortI (actS x.Queue.Slots)
      · have hperm := (sort_eq_iff _ _).1 hsort
        rw [decide_eq_true hsort]
        simp only [Bool.not_true, cond_false, Bool.true_and]
        have hin : ∀ i, (hi : i < x.Stack.length) → ¬ fndS x.Queue.Slots x.Stack[i] < 0 := fun i hi => act_find (hperm.mem_iff.1 (List.getElem_mem hi))
        rw [while_all (fun j => ((j + 1 : Nat) : Int)) (fun j => decide (levS x.Queue.Slots (x.Stack.getD j 0) > levS x.Queue.Slots (x.Stack.getD (j + 1) 0))) (Sum.inr false : Unit ⊕ Bool) (Sum.inl ()) (x.Stack.length - 1) (by simp) (by omega)]
        · have hlev : (List.range (x.Stack.length - 1)).all (fun j => decide (levS x.Queue.Slots (x.Stack.getD j 0) > levS x.Queue.Slots (x.Stack.getD (j + 1) 0))) = levsOk x.Queue.Slots x.Stack := by
            unfold levsOk
            rw [Bool.eq_iff_iff, List.all_eq_true, List.all_eq_true]
            constructor
            · intro hh i hi
              have hi := List.mem_range.1 hi
              by_cases h0 : i = 0
              · simp [h0]
              · have := hh (i - 1) (List.mem_range.2 (by omega))
                rw [Nat.sub_add_cancel (by omega)] at this
                simp only [h0, decide_false, Bool.false_or]
                exact this
            · intro hh j hj
              have := hh (j + 1) (List.mem_range.2 (by have := List.mem_range.1 hj; omega))
              simpa using this
          rw [hlev]
          cases levsOk x.Queue.Slots x.Stack <;> simp
        · intro j hj
          have hj1 : j + 1 < x.Stack.length := by omega
          have e0 : (((j + 1 : Nat) : Int) < (x.Stack.length : Int)) := by omega
          have hpr : gxIdx x.Stack (w64 (((j + 1 : Nat) : Int) - 1)) = some (x.Stack[j]'(by omega)) := by
            rw [w64_id (by omega) (by omega)]
            have e : ((j + 1 : Nat) : Int) - 1 = (j : Int) := by omega
            rw [e, gxIdx_nat (by omega)]
          simp only [e0, decide_true, cond_true, gxIdx_nat hj1, Option.bind_some, i_level _ _ hq.1 (hin (j + 1) hj1), hpr, i_level _ _ hq.1 (hin j (by omega)), getD_at hj1, getD_at (show j < x.Stack.length by omega), w64_succ (show j + 1 ≤ 4611686018427387904 by omega)]
          by_cases hlev : levS x.Queue.Slots x.Stack[j + 1] ≥ levS x.Queue.Slots (x.Stack[j]'(by omega))
          · have : ¬ (levS x.Queue.Slots (x.Stack[j]'(by omega)) > levS x.Queue.Slots x.Stack[j + 1]) := by omega
            simp only [hlev, this, decide_true, decide_false, cond_true, cond_false]
          · have : (levS x.Queue.Slots (x.Stack[j]'(by omega)) > levS x.Queue.Slots x.Stack[j + 1]) := by omega
            simp only [hlev, this, decide_true, decide_false, cond_true, cond_false]
        · have e0 : ¬ ((((x.Stack.length - 1) + 1 : Nat) : Int) < (x.Stack.length : Int)) := by omega
          simp only [e0, decide_false, cond_false]
      · rw [decide_eq_false hsort]
        rfl

end Go.Proofs.YtllhajkgkghhdaaGreat
