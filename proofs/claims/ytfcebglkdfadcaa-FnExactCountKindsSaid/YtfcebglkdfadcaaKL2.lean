/- Plain laws of the models: no program in sight. -/
import Derived.Test.YtfcebglkdfadcaaKM
import Derived.Test.YtfcebglkdfadcaaKL1
set_option linter.unusedVariables false
set_option linter.unusedSimpArgs false
set_option maxHeartbeats 4000000
namespace Go.Proofs.Ytfcebglkdfadcaa
open Go.Gx
theorem while_filter {α β : Type} {xs : List α} (p : α → Bool) (f : α → β) {body : List β × Int → Option ((List β × Int) ⊕ List β)} (hl : xs.length ≤ 1099511627776)
    (h : ∀ (i : Nat) (hi : i < xs.length) (acc : List β), acc.length ≤ i → body (acc, (i : Int)) = some (.inl (bif p xs[i] then acc ++ [f xs[i]] else acc, w64 ((i : Int) + 1))))
    (he : ∀ acc, body (acc, (xs.length : Int)) = some (.inr acc)) : whileM body gxFuel ([], 0) = some ((xs.filter p).map f) := by
  refine while_run (fun i => (((xs.take i).filter p).map f, (i : Int))) _ xs.length (by simp) (by omega) (fun i hi => ?_) ?_
  · have hle : (((xs.take i).filter p).map f).length ≤ i := by
      rw [List.length_map]
      exact Nat.le_trans (List.length_filter_le _ _) (by simp; omega)
    rw [h i hi _ hle, w64_succ (by omega), List.take_add_one, List.getElem?_eq_getElem hi, Option.toList_some, List.filter_append, List.map_append]
    cases hp : p xs[i] <;> simp [hp]
  · rw [he, List.take_length]

/-! ### Loops that choose, loops that look for a place -/
theorem while_place {α : Type} {xs : List α} (p : α → Bool) {body : Int → Option (Int ⊕ Int)} (hl : xs.length ≤ 1099511627776)
    (h : ∀ (i : Nat) (hi : i < xs.length), body (i : Int) = some (bif p xs[i] then .inl (w64 ((i : Int) + 1)) else .inr (i : Int)))
    (he : body (xs.length : Int) = some (.inr (xs.length : Int))) : whileM body gxFuel 0 = some ((xs.takeWhile p).length : Int) := by
  have hk : (xs.takeWhile p).length ≤ xs.length := (List.takeWhile_prefix p).length_le
  refine while_run (fun i => (i : Int)) _ (xs.takeWhile p).length (by simp) (by omega) (fun i hi => ?_) ?_
  · have hi' : i < xs.length := by omega
    have hp : p xs[i] = true := by
      have h1 : (xs.takeWhile p)[i] = xs[i] := (List.takeWhile_prefix p).getElem hi
      have h2 := List.all_takeWhile (p := p) (l := xs)
      rw [List.all_eq_true] at h2
      rw [← h1]
      exact h2 _ (List.getElem_mem hi)
    rw [h i hi', hp, w64_succ (by omega)]
    rfl
  · by_cases hlt : (xs.takeWhile p).length < xs.length
    · have hp : p xs[(xs.takeWhile p).length] = false := by
        have h1 : xs = xs.takeWhile p ++ xs.dropWhile p := (List.takeWhile_append_dropWhile).symm
        cases hd : xs.dropWhile p with
        | nil => rw [hd, List.append_nil] at h1; rw [← h1] at hlt; omega
        | cons y r =>
          have h2 : p y = false := by
            have := List.head_dropWhile_not p (l := xs) (by rw [hd]; simp)
            simpa [hd] using this
          have h3 : xs[(xs.takeWhile p).length]? = some y := by
            conv => lhs; arg 1; rw [h1]
            rw [List.getElem?_append_right (Nat.le_refl _), Nat.sub_self, hd]
            rfl
          rw [List.getElem?_eq_getElem hlt] at h3
          rw [Option.some.inj h3]
          exact h2
      rw [h _ hlt, hp]
      rfl
    · rw [show (xs.takeWhile p).length = xs.length by omega, he]
theorem while_more {σ ρ : Type} {body : σ → Option (σ ⊕ ρ)} {r : ρ} : ∀ (n m : Nat) (s : σ), n ≤ m → whileM body n s = some r → whileM body m s = some r
  | 0, _, s, _, h => by simp [whileM] at h
  | n + 1, 0, s, hm, _ => by omega
  | n + 1, m + 1, s, hm, h => by
    simp only [whileM] at h ⊢
    split at h
    · exact h
    · rename_i hb
      first
        | exact while_more n m _ (by omega) h
        | exact h
    · exact h
theorem while_small {σ ρ : Type} {body : σ → Option (σ ⊕ ρ)} {r : ρ} {s : σ} (n : Nat) (hn : n ≤ 1000000) (h : whileM body n s = some r) : whileM body gxFuel s = some r :=
  while_more n gxFuel s (by unfold gxFuel; omega) h
theorem gxSlice_take {α : Type} {xs : List α} {k : Nat} (h : k ≤ xs.length) : gxSlice xs 0 (k : Int) = some (xs.take k) := by
  unfold gxSlice
  rw [if_pos ⟨by omega, by omega, by omega⟩]
  simp
theorem gxSlice_drop {α : Type} {xs : List α} {k : Nat} (h : k ≤ xs.length) : gxSlice xs (k : Int) (xs.length : Int) = some (xs.drop k) := by
  unfold gxSlice
  rw [if_pos ⟨by omega, by omega, by omega⟩]
  simp
/-! ### Insertion from the right -/
def insRev {α : Type} (lt : α → α → Bool) (x : α) : List α → List α
  | [] => [x]
  | y :: r => bif lt x y then y :: insRev lt x r else x :: y :: r
def insR {α : Type} (lt : α → α → Bool) (pre : List α) (x : α) : List α := (insRev lt x pre.reverse).reverse
def isortL {α : Type} (lt : α → α → Bool) (xs : List α) : List α := xs.foldl (insR lt) []
theorem inner_run {α : Type} (lt : α → α → Bool) {body : Int × List α → Option ((Int × List α) ⊕ List α)}
    (hstep : ∀ (j : Nat) (L : List α) (h1 : j + 1 < L.length), j ≤ 1099511627776 → body (((j + 1 : Nat) : Int), L) = some (bif lt L[j + 1] (L[j]'(by omega)) then .inl ((j : Int), (L.set (j + 1) (L[j]'(by omega))).set j L[j + 1]) else .inr L))
    (h0 : ∀ L, body (0, L) = some (.inr L)) (x : α) : ∀ (rp post : List α) (fuel : Nat), rp.length < fuel → rp.length ≤ 1099511627776 → whileM body fuel ((rp.length : Int), rp.reverse ++ x :: post) = some ((insRev lt x rp).reverse ++ post)
  | [], post, fuel + 1, _, _ => by
    have := h0 ([].reverse ++ x :: post)
    simp only [List.length_nil] at this ⊢
    simp only [whileM, show ((0 : Nat) : Int) = 0 from rfl, this]
    rfl
  | y :: r, post, fuel + 1, hf, hb => by
    have hl : r.length + 1 < ((y :: r).reverse ++ x :: post).length := by simp
    have e1 : ((y :: r).reverse ++ x :: post)[r.length + 1] = x := by
      rw [List.getElem_append_right (by simp)]
      simp
    have e0 : ((y :: r).reverse ++ x :: post)[r.length]'(by omega) = y := by
      rw [List.getElem_append_left (by simp)]
      simp
    have := hstep r.length _ hl (by simp at hb; omega)
    rw [e1, e0] at this
    simp only [whileM, List.length_cons, this]
    cases hxy : lt x y with
    | false =>
      simp only [cond_false, insRev, hxy]
      simp
    | true =>
      simp only [cond_true, insRev, hxy]
      have e2 : (((y :: r).reverse ++ x :: post).set (r.length + 1) y).set r.length x = r.reverse ++ x :: (y :: post) := by
        simp only [List.reverse_cons, List.append_assoc, List.cons_append, List.nil_append]
        rw [List.set_append_right _ _ (by simp), List.set_append_right _ _ (by simp)]
        simp
      rw [e2]
      have ih := inner_run lt hstep h0 x r (y :: post) fuel (by simp at hf; omega) (by simp at hb; omega)
      rw [ih]
      simp
theorem insRev_len {α : Type} (lt : α → α → Bool) (x : α) : ∀ l : List α, (insRev lt x l).length = l.length + 1
  | [] => rfl
  | y :: r => by
    simp only [insRev]
    cases lt x y <;> simp [insRev_len lt x r]
theorem insR_len {α : Type} (lt : α → α → Bool) (pre : List α) (x : α) : (insR lt pre x).length = pre.length + 1 := by simp [insR, insRev_len]
theorem isortL_snoc {α : Type} (lt : α → α → Bool) (xs : List α) (x : α) : isortL lt (xs ++ [x]) = insR lt (isortL lt xs) x := by simp [isortL]
theorem isortL_len {α : Type} (lt : α → α → Bool) (xs : List α) : (isortL lt xs).length = xs.length := by
  have : ∀ (ys acc : List α), (ys.foldl (insR lt) acc).length = acc.length + ys.length := by
    intro ys
    induction ys with
    | nil => intro acc; simp
    | cons y r ih => intro acc; rw [List.foldl_cons, ih, insR_len, List.length_cons]; omega
  simpa [isortL] using this xs []
theorem insRev_perm {α : Type} (lt : α → α → Bool) (x : α) : ∀ l : List α, (insRev lt x l).Perm (x :: l)
  | [] => List.Perm.refl _
  | y :: r => by
    simp only [insRev]
    cases lt x y with
    | false => exact List.Perm.refl _
    | true => exact ((insRev_perm lt x r).cons y).trans (List.Perm.swap x y r)
theorem insR_perm {α : Type} (lt : α → α → Bool) (pre : List α) (x : α) : (insR lt pre x).Perm (x :: pre) :=
  (List.reverse_perm _).trans ((insRev_perm lt x _).trans ((List.reverse_perm pre).cons x))
theorem isortL_perm {α : Type} (lt : α → α → Bool) (xs : List α) : (isortL lt xs).Perm xs := by
  have : ∀ (ys acc : List α), (ys.foldl (insR lt) acc).Perm (acc ++ ys) := by
    intro ys
    induction ys with
    | nil => intro acc; simp
    | cons y r ih =>
      intro acc
      rw [List.foldl_cons]
      refine (ih _).trans ?_
      refine ((insR_perm lt acc y).append_right r).trans ?_
      exact (List.perm_middle (l₁ := acc) (a := y) (l₂ := r)).symm
  simpa [isortL] using this xs []
/-- In the order of keys. -/
def ordered {α : Type} (key : α → Int) (l : List α) : Prop := l.Pairwise fun a b => key a ≤ key b
theorem insRev_ord {α : Type} (key : α → Int) (x : α) : ∀ l : List α, (l.Pairwise fun a b => key b ≤ key a) → (insRev (fun a b => decide (key a < key b)) x l).Pairwise fun a b => key b ≤ key a
  | [], _ => by simp [insRev]
  | y :: r, h => by
    rw [List.pairwise_cons] at h
    simp only [insRev]
    by_cases hxy : key x < key y
    · simp only [hxy, decide_true, cond_true, List.pairwise_cons]
      refine ⟨fun a ha => ?_, insRev_ord key x r h.2⟩
      rcases List.mem_cons.1 ((insRev_perm _ x r).mem_iff.1 ha) with rfl | ha
      · omega
      · exact h.1 a ha
    · simp only [hxy, decide_false, cond_false, List.pairwise_cons]
      refine ⟨fun a ha => ?_, h.1, h.2⟩
      rcases List.mem_cons.1 ha with rfl | ha
      · omega
      · have := h.1 a ha; omega
theorem insR_ord {α : Type} (key : α → Int) {pre : List α} (h : ordered key pre) (x : α) : ordered key (insR (fun a b => decide (key a < key b)) pre x) := by
  unfold ordered insR
  rw [List.pairwise_reverse]
  exact insRev_ord key x _ (by rw [List.pairwise_reverse]; exact h)
theorem isortL_ord {α : Type} (key : α → Int) (xs : List α) : ordered key (isortL (fun a b => decide (key a < key b)) xs) := by
  have : ∀ (ys acc : List α), ordered key acc → ordered key (ys.foldl (insR (fun a b => decide (key a < key b))) acc) := by
    intro ys
    induction ys with
    | nil => intro acc h; exact h
    | cons y r ih => intro acc h; exact ih _ (insR_ord key h y)
  exact this xs [] (by simp [ordered])
theorem ordered_uniq {α : Type} (key : α → Int) : ∀ {A B : List α}, (A.Pairwise fun a b => key a < key b) → ordered key B → A.Perm B → A = B
  | [], B, _, _, hp => (List.Perm.nil_eq hp)
  | a :: A, [], _, _, hp => by have := hp.length_eq; simp at this
  | a :: A, b :: B, hA, hB, hp => by
    unfold ordered at hB
    rw [List.pairwise_cons] at hA hB
    have hab : a = b := by
      have h1 : a ∈ b :: B := hp.mem_iff.1 (by simp)
      have h2 : b ∈ a :: A := hp.mem_iff.2 (by simp)
      rcases List.mem_cons.1 h1 with h1 | h1
      · exact h1
      · rcases List.mem_cons.1 h2 with h2 | h2
        · exact h2.symm
        · have := hA.1 b h2
          have := hB.1 a h1
          omega
    subst hab
    rw [ordered_uniq key hA.2 hB.2 (List.Perm.cons_inv hp)]
theorem outer_run {α : Type} (lt : α → α → Bool) {xs : List α} {body : Int × List α → Option ((Int × List α) ⊕ List α)} (hl : xs.length ≤ 1099511627776)
    (h : ∀ (i : Nat) (pre post : List α) (x : α), pre.length = i → i < xs.length → body ((i : Int), pre ++ x :: post) = some (.inl (w64 ((i : Int) + 1), insR lt pre x ++ post)))
    (he : ∀ (i : Int) (L : List α), (xs.length : Int) ≤ i → body (i, L) = some (.inr L)) : whileM body gxFuel (1, xs) = some (isortL lt xs) := by
  cases xs with
  | nil =>
    refine while_small 1 (by omega) ?_
    simp only [whileM, he 1 [] (by simp)]
    rfl
  | cons x0 r =>
    refine while_run (fun i => (((i + 1 : Nat) : Int), isortL lt ((x0 :: r).take (i + 1)) ++ (x0 :: r).drop (i + 1))) _ r.length (by simp [isortL, insR, insRev]) (by simp at hl; omega) (fun i hi => ?_) ?_
    · have hi' : i + 1 < (x0 :: r).length := by simp; omega
      have hlen : (isortL lt ((x0 :: r).take (i + 1))).length = i + 1 := by rw [isortL_len]; simp; omega
      rw [List.drop_eq_getElem_cons hi', h (i + 1) _ _ _ hlen hi', w64_succ (by simp at hl; omega), ← isortL_snoc]
      congr 4
      conv => rhs; rw [List.take_add_one, List.getElem?_eq_getElem hi', Option.toList_some]
    · have := he ((r.length + 1 : Nat) : Int) (isortL lt ((x0 :: r).take (r.length + 1)) ++ (x0 :: r).drop (r.length + 1)) (by simp)
      rw [this]
      simp

/-! ### Elements deleted -/
theorem take_set_end {α : Type} {L : List α} {i : Nat} (h : i < L.length) (v : α) : (L.set i v).take (i + 1) = L.take i ++ [v] := by
  rw [List.take_add_one, List.getElem?_set_self h, Option.toList_some, List.take_set_of_le (by omega)]
theorem del_loop {α : Type} (del : α → Bool) {xs : List α} {body : Int × Int × List α → Option ((Int × Int × List α) ⊕ (Int × List α))} (hl : xs.length ≤ 1099511627776) (i0 : Nat) (h0 : i0 < xs.length) (hb : ∀ j (hj : j < i0), del (xs[j]'(by omega)) = false) (hat : del xs[i0] = true)
    (hstep : ∀ (i j : Nat) (L : List α) (hj : j < L.length) (hi : i < L.length), j ≤ 1099511627776 → i ≤ 1099511627776 → body ((i : Int), (j : Int), L) = some (.inl (bif del L[j] then ((i : Int), ((j + 1 : Nat) : Int), L) else (((i + 1 : Nat) : Int), ((j + 1 : Nat) : Int), L.set i L[j]))))
    (hend : ∀ (i j : Int) (L : List α), (L.length : Int) ≤ j → body (i, j, L) = some (.inr (i, L))) :
    ∃ L, whileM body gxFuel ((i0 : Int), ((i0 + 1 : Nat) : Int), xs) = some (((xs.filter fun x => !(del x)).length : Int), L) ∧ L.length = xs.length ∧ L.take (xs.filter fun x => !(del x)).length = xs.filter fun x => !(del x) := by
  have hkeep : ∀ j, j ≤ i0 → (xs.take j).filter (fun x => !(del x)) = xs.take j := by
    intro j hj
    rw [List.filter_eq_self]
    intro a ha
    obtain ⟨k, hk, rfl⟩ := List.mem_iff_getElem.1 ha
    have hk' : k < j := by simp at hk; omega
    rw [List.getElem_take, hb k (by omega)]
    rfl
  have hlen : ∀ j, ((xs.take j).filter (fun x => !(del x))).length ≤ j := fun j => Nat.le_trans (List.length_filter_le _ _) (by simp; omega)
  have hsucc : ∀ j (hj : j < xs.length), (xs.take (j + 1)).filter (fun x => !(del x)) = bif del xs[j] then (xs.take j).filter (fun x => !(del x)) else (xs.take j).filter (fun x => !(del x)) ++ [xs[j]] := by
    intro j hj
    rw [List.take_add_one, List.getElem?_eq_getElem hj, Option.toList_some, List.filter_append]
    cases hd : del xs[j] <;> simp [hd]
  obtain ⟨q, hq, hq2⟩ := while_inv (body := body) (s0 := ((i0 : Int), ((i0 + 1 : Nat) : Int), xs)) (fun k s => s.2.1 = ((i0 + 1 + k : Nat) : Int) ∧ s.1 = (((xs.take (i0 + 1 + k)).filter fun x => !(del x)).length : Int) ∧ s.2.2.length = xs.length ∧ s.2.2.take ((xs.take (i0 + 1 + k)).filter fun x => !(del x)).length = (xs.take (i0 + 1 + k)).filter (fun x => !(del x)) ∧ s.2.2.drop (i0 + 1 + k) = xs.drop (i0 + 1 + k))
    (fun r => r.1 = ((xs.filter fun x => !(del x)).length : Int) ∧ r.2.length = xs.length ∧ r.2.take (xs.filter fun x => !(del x)).length = xs.filter fun x => !(del x)) (xs.length - (i0 + 1)) (by omega)
    (by
      have h1 := hsucc i0 h0
      rw [hat, cond_true, hkeep i0 (Nat.le_refl _)] at h1
      have h2 : (xs.take i0).length = i0 := by simp; omega
      refine ⟨rfl, ?_, rfl, ?_, rfl⟩
      · simp only [Nat.add_zero, h1, h2]
      · simp only [Nat.add_zero, h1, h2])
    (fun k s hk hR => by
      obtain ⟨a, b, L⟩ := s
      obtain ⟨hb', ha', hL, ht, hd⟩ := hR
      simp only at hb' ha' hL ht hd
      subst hb' ha'
      have hj : i0 + 1 + k < xs.length := by omega
      have hjL : i0 + 1 + k < L.length := by omega
      have hkl := hlen (i0 + 1 + k)
      have hv : L[i0 + 1 + k] = xs[i0 + 1 + k] := by
        have e1 : (L.drop (i0 + 1 + k))[0]? = (xs.drop (i0 + 1 + k))[0]? := by rw [hd]
        rw [List.getElem?_drop, List.getElem?_drop, Nat.add_zero, List.getElem?_eq_getElem hjL, List.getElem?_eq_getElem hj] at e1
        exact Option.some.inj e1
      have hdr : L.drop (i0 + 1 + (k + 1)) = xs.drop (i0 + 1 + (k + 1)) := by
        have : L.drop (i0 + 1 + (k + 1)) = (L.drop (i0 + 1 + k)).drop 1 := by rw [List.drop_drop]; rfl
        rw [this, hd, List.drop_drop]
        rfl
      rw [hstep _ _ L hjL (by omega) (by omega) (by omega), hv]
      have hs := hsucc (i0 + 1 + k) hj
      cases hdel : del xs[i0 + 1 + k] with
      | true =>
        rw [hdel, cond_true] at hs
        exact Or.inl ⟨_, rfl, rfl, by rw [show i0 + 1 + (k + 1) = i0 + 1 + k + 1 by omega, hs]; rfl, hL, by rw [show i0 + 1 + (k + 1) = i0 + 1 + k + 1 by omega, hs]; exact ht, hdr⟩
      | false =>
        rw [hdel, cond_false] at hs
        refine Or.inl ⟨_, rfl, rfl, ?_, ?_, ?_, ?_⟩
        · rw [show i0 + 1 + (k + 1) = i0 + 1 + k + 1 by omega, hs, List.length_append]
          rfl
        · simp only [cond_false, List.length_set]
          exact hL
        · rw [show i0 + 1 + (k + 1) = i0 + 1 + k + 1 by omega, hs, List.length_append, List.length_singleton]
          simp only [cond_false]
          rw [take_set_end (by omega), ht]
        · simp only [cond_false]
          rw [List.drop_set_of_lt (by omega)]
          exact hdr)
    (fun s hR => by
      obtain ⟨a, b, L⟩ := s
      obtain ⟨hb', ha', hL, ht, hd⟩ := hR
      simp only at hb' ha' hL ht hd
      have e : i0 + 1 + (xs.length - (i0 + 1)) = xs.length := by omega
      rw [e, List.take_length] at ht ha'
      rw [e] at hb'
      subst hb' ha'
      rw [hend _ _ L (by omega)]
      exact ⟨_, rfl, rfl, hL, ht⟩)
  obtain ⟨qa, L⟩ := q
  obtain ⟨h1, h2, h3⟩ := hq2
  simp only at h1 h2 h3
  subst h1
  exact ⟨L, hq, h2, h3⟩
theorem del_result {α : Type} {L : List α} {n : Nat} (z : α) (hn : n ≤ L.length) : gxSlice L (n : Int) (L.length : Int) = some (L.drop n) ∧ gxSlice (gxClear L (n : Int) (L.length : Int) z) 0 (n : Int) = some (L.take n) := by
  constructor
  · unfold gxSlice
    rw [if_pos ⟨by omega, by omega, by omega⟩]
    simp
  · have hl : (gxClear L (n : Int) (L.length : Int) z).length = L.length := by simp [gxClear]; omega
    unfold gxSlice
    rw [if_pos ⟨by omega, by omega, by rw [hl]; omega⟩]
    simp only [Int.toNat_zero, List.drop_zero, Int.toNat_natCast]
    unfold gxClear
    simp only [Int.toNat_natCast, List.append_assoc]
    rw [List.take_append_of_le_length (by simp; omega), List.take_take]
    simp
theorem find_none_filter {α : Type} {xs : List α} (del : α → Bool) (z : α) (h : (List.range xs.length).find? (fun i => del (xs.getD i z)) = none) : (xs.filter fun x => !(del x)) = xs := by
  rw [List.filter_eq_self]
  rw [List.find?_eq_none] at h
  intro a ha
  obtain ⟨i, hi, rfl⟩ := List.mem_iff_getElem.1 ha
  have := h i (List.mem_range.2 hi)
  rw [getD_at hi] at this
  simpa using this
theorem find_some_first {α : Type} {xs : List α} (del : α → Bool) (z : α) {i : Nat} (h : (List.range xs.length).find? (fun i => del (xs.getD i z)) = some i) : ∃ hi : i < xs.length, del xs[i] = true ∧ ∀ j (hj : j < i), del (xs[j]'(by omega)) = false := by
  rw [List.find?_range_eq_some] at h
  obtain ⟨h1, h2, h3⟩ := h
  have hi := List.mem_range.1 h2
  refine ⟨hi, by rwa [getD_at hi] at h1, fun j hj => ?_⟩
  have := h3 j hj
  rw [getD_at (show j < xs.length by omega)] at this
  simpa using this

/-! ### Marks of texts -/
theorem str1_size (b : Int) : (gxStr [b]).size = 1 := by
  simp [gxStr]
theorem markText_ex (k : Nat) (h : k ≤ 1099511627776) : ∃ t, M.l_markText (k : Int) = some t := by
  unfold M.l_markText
  by_cases hk : (k : Int) ≤ 0
  · exact ⟨ByteArray.mk #[109, 48], by simp only [hk, decide_true, cond_true]⟩
  · simp only [hk, decide_false, cond_false]
    have := while_inv (body := fun s1506 : Int × ByteArray =>
      bif decide (s1506.1 > 0) then (Option.bind (gxSCat (gxStr [IntKind.u8.wrap (w64 (48 + (s1506.1.tmod 10)))]) s1506.2) fun q1525 =>
      some (Sum.inl (β := ByteArray) (w64 (s1506.1.tdiv 10), q1525)))
      else some (.inr s1506.2)) (s0 := ((k : Int), (ByteArray.mk #[]))) (fun i s => 0 ≤ s.1 ∧ s.1 * 10 ^ i ≤ 1099511627776 ∧ s.2.size ≤ i) (fun r => r.size ≤ 20) 20 (by omega) ⟨by omega, by simp; omega, Nat.le_refl 0⟩ (fun i s hi hR => by
        obtain ⟨a, t⟩ := s
        obtain ⟨h0, h1, h2⟩ := hR
        simp only at h0 h1 h2
        by_cases ha : a > 0
        · have hp : (1 : Int) ≤ 10 ^ i := by
            have := Int.pow_pos (n := 10) (m := i) (by omega)
            omega
          have hle : a ≤ 1099511627776 := by
            have : a * 1 ≤ a * 10 ^ i := Int.mul_le_mul_of_nonneg_left hp h0
            omega
          have hc : gxSCat (gxStr [IntKind.u8.wrap (w64 (48 + (a.tmod 10)))]) t = some (gxStr [IntKind.u8.wrap (w64 (48 + (a.tmod 10)))] ++ t) := by
            unfold gxSCat
            rw [if_neg (by rw [str1_size]; omega)]
          have hd : a.tdiv 10 = a / 10 := Int.tdiv_eq_ediv_of_nonneg h0
          simp only [ha, decide_true, cond_true, hc, Option.bind_some, hd, w64_id (z := a / 10) (by omega) (by omega)]
          refine Or.inl ⟨_, rfl, by simp only; omega, ?_, ?_⟩
          · simp only
            have e1 : a / 10 * 10 ≤ a := by omega
            have e2 : a / 10 * 10 * 10 ^ i ≤ a * 10 ^ i := Int.mul_le_mul_of_nonneg_right e1 (by omega)
            rw [Int.pow_succ, Int.mul_comm (10 ^ i) 10, ← Int.mul_assoc]
            omega
          · simp only [ByteArray.size_append, str1_size]
            omega
        · simp only [ha, decide_false, cond_false]
          exact Or.inr ⟨_, rfl, by omega⟩) (fun s hR => by
        obtain ⟨a, t⟩ := s
        obtain ⟨h0, h1, h2⟩ := hR
        simp only at h0 h1 h2
        have ha : ¬ (a > 0) := by omega
        simp only [ha, decide_false, cond_false]
        exact ⟨_, rfl, h2⟩)
    obtain ⟨q, hq, hq2⟩ := this
    rw [hq, Option.bind_some]
    have hc : gxSCat (ByteArray.mk #[109]) q = some ((ByteArray.mk #[109]) ++ q) := by
      unfold gxSCat
      rw [if_neg (by have : (ByteArray.mk #[109]).size = 1 := rfl; omega)]
    rw [hc]
    exact ⟨_, rfl⟩
def txt (k : Nat) : ByteArray := (M.l_markText (k : Int)).getD ByteArray.empty
theorem markText_ok (k : Nat) (h : k ≤ 1099511627776) : M.l_markText ((k : Nat) : Int) = some (txt k) := by
  obtain ⟨t, ht⟩ := markText_ex k h
  unfold txt
  rw [ht]
  rfl

def mkEvent (x : Event) (k : Nat) : Nat × Event := (k + 4, ⟨((k : Nat) : Int), (((k + 1) : Nat) : Int), txt (k + 2), (((k + 3) : Nat) : Int)⟩)
/-! ### Chosen events -/
/-- What slices.DeleteFunc computes, for any choice. -/
def delM (cl : Event → Option Bool) (x1176 : List Event) : Option ((List Event) × (List Event)) :=
  Option.bind (Option.bind (whileM (σ := Int) (ρ := (Unit) ⊕ (Int)) (fun s1125 =>
    bif decide (s1125 < (x1176.length : Int)) then (Option.bind (gxIdx x1176 s1125) fun y1137 =>
    Option.bind (cl y1137) fun r1138 =>
    bif r1138 then some (.inr (.inr s1125))
    else some (.inl (w64 (s1125 + 1))))
    else some (.inr (.inl ()))) gxFuel 0) fun out1132 => Sum.elim (fun (o1135 : Unit) =>
  some (-1)) (fun r => some r) out1132) fun r1194 =>
  bif r1194 == (-1) then some (x1176, x1176)
  else (Option.bind (whileM (σ := Int × Int × List Event) (ρ := Int × List Event) (fun s1270 =>
    bif decide (s1270.2.1 < (s1270.2.2.length : Int)) then (Option.bind (gxIdx s1270.2.2 s1270.2.1) fun y1288 =>
    Option.bind (cl y1288) fun r1295 =>
    Option.bind (α := Int × List Event) (bif !r1295 then (Option.bind (gxIdx s1270.2.2 s1270.1) fun y1312 =>
    some (w64 (s1270.1 + 1), (s1270.2.2.set s1270.1.toNat y1288)))
    else some (s1270.1, s1270.2.2)) fun o1305 =>
    some (.inl (o1305.1, w64 (s1270.2.1 + 1), o1305.2)))
    else some (.inr (s1270.1, s1270.2.2))) gxFuel (r1194, w64 (r1194 + 1), x1176)) fun out1277 =>
  Option.bind (gxSlice out1277.2 out1277.1 (out1277.2.length : Int)) fun ys1325 =>
  Option.bind (gxSlice (gxClear out1277.2 out1277.1 (out1277.2.length : Int) ((⟨0, 0, ByteArray.empty, 0⟩ : Event) : Event)) 0 out1277.1) fun ys1331 =>
  some (ys1331, (gxClear out1277.2 out1277.1 (out1277.2.length : Int) ((⟨0, 0, ByteArray.empty, 0⟩ : Event) : Event))))
theorem delM_ok {cl : Event → Option Bool} (del : Event → Bool) (hcl : ∀ y, cl y = some (del y)) (xs : List Event) (hl : xs.length ≤ 1048576) : ∃ q, delM cl xs = some q ∧ q.1 = xs.filter (fun y => !(del y)) := by
  unfold delM
  rw [while_first (fun i => (i : Int)) (fun i => del (xs.getD i gE)) (fun i => (.inr (i : Int))) (.inl ()) xs.length (by simp) (by omega) ?_ ?_]
  · cases hf : (List.range xs.length).find? (fun i => del (xs.getD i gE)) with
    | none => exact ⟨(xs, xs), rfl, (find_none_filter del gE hf).symm⟩
    | some i =>
      obtain ⟨hi, h1, h2⟩ := find_some_first del gE hf
      have hne : ((i : Int) == (-1)) = false := by simp
      simp only [Option.bind_some, Sum.elim_inr, hne, cond_false, w64_succ (show i ≤ 4611686018427387904 by omega)]
      obtain ⟨L, hL, hL2, hL3⟩ := del_loop del (xs := xs) (body := fun s1270 : Int × Int × List Event =>
        bif decide (s1270.2.1 < (s1270.2.2.length : Int)) then (Option.bind (gxIdx s1270.2.2 s1270.2.1) fun y1288 =>
        Option.bind (cl y1288) fun r1295 =>
        Option.bind (α := Int × List Event) (bif !r1295 then (Option.bind (gxIdx s1270.2.2 s1270.1) fun y1312 =>
        some (w64 (s1270.1 + 1), (s1270.2.2.set s1270.1.toNat y1288)))
        else some (s1270.1, s1270.2.2)) fun o1305 =>
        some (.inl (o1305.1, w64 (s1270.2.1 + 1), o1305.2)))
        else some (.inr (s1270.1, s1270.2.2))) (by omega) i hi h2 h1 (fun i' j L hj hi' hjl hil => by
          have e0 : ((j : Int) < (L.length : Int)) := by omega
          simp only [e0, decide_true, cond_true, gxIdx_nat hj, gxIdx_nat hi', hcl, Option.bind_some, w64_succ (show j ≤ 4611686018427387904 by omega), w64_succ (show i' ≤ 4611686018427387904 by omega), Int.toNat_natCast]
          cases del L[j] <;> rfl) (fun i' j L hj => by
          have e0 : ¬ (j < (L.length : Int)) := by omega
          simp only [e0, decide_false, cond_false])
      have hcnt : (xs.filter fun e => !(del e)).length ≤ L.length := by rw [hL2]; exact List.length_filter_le _ _
      rw [hL, Option.bind_some]
      simp only [(del_result (⟨0, 0, ByteArray.empty, 0⟩ : Event) hcnt).1, (del_result (⟨0, 0, ByteArray.empty, 0⟩ : Event) hcnt).2, Option.bind_some, hL3]
      exact ⟨_, rfl, rfl⟩
  · intro i hi
    have e0 : ((i : Int) < (xs.length : Int)) := by omega
    rw [getD_at hi]
    simp only [e0, decide_true, cond_true, gxIdx_nat hi, hcl, Option.bind_some, w64_succ (show i ≤ 4611686018427387904 by omega)]
    cases del xs[i] <;> rfl
  · simp only [Int.lt_irrefl, decide_false, cond_false]
end Go.Proofs.Ytfcebglkdfadcaa
