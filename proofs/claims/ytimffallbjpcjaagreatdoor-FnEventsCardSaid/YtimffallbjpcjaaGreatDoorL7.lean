/- Plain laws of the models: no program in sight. -/
import Derived.Test.YtimffallbjpcjaaGreatDoorM
import Derived.Test.YtimffallbjpcjaaGreatDoorL6
set_option linter.unusedVariables false
set_option linter.unusedSimpArgs false
set_option maxHeartbeats 4000000
namespace Go.Proofs.YtimffallbjpcjaaGreatDoor
open Go.Gx
/-! ### Loops that choose, loops that look for a place -/
theorem while_filter {α β : Type} {xs : List α} (p : α → Bool) (f : α → β) {body : List β × Int → Option ((List β × Int) ⊕ List β)} (hl : xs.length ≤ 1099511627776)
    (h : ∀ (i : Nat) (hi : i < xs.length) (acc : List β), acc.length ≤ i → body (acc, (i : Int)) = some (.inl (bif p xs[i] then acc ++ [f xs[i]] else acc, w64 ((i : Int) + 1))))
    (he : ∀ acc, body (acc, (xs.length : Int)) = some (.inr acc)) : whileM body gxFuel ([], 0) = some ((xs.filter p).map f) := by
  refine while_run (fun i => (((xs.take i).filter p).map f, (i : Int))) _ xs.length (by simp) (by omega) (fun i hi => ?_) ?_
  · have hle : (((xs.take i).filter p).map f).length ≤ i := by
      rw [List.length_map]
      exact Nat.le_trans (List.length_filter_le _ _) (by simp; omega)
    rw [h i hi _ hle, w64_succ (by omega), List.take_add_one, List.getElem?_eq_getElem hi, Option.toList_some, List.filter_append, List.map_append]
    cases hp : p xs[i] <;> simp [hp]
  · rw [he, List.take_length]
theorem while_place {α : Type} {xs : List α} (p : α → Bool) {body : Int → Option (Int ⊕ Int)} (hl : xs.length ≤ 1099511627776)
    (h : ∀ (i : Nat) (hi : i < xs.length), body (i : Int) = some (bif p xs[i] then .inl (w64 ((i : Int) + 1)) else .inr (i : Int)))
    (he : body (xs.length : Int) = some (.inr (xs.length : Int))) : whileM body gxFuel 0 = some ((xs.takeWhile p).length : Int) := by
  have hk : (xs.takeWhile p).length ≤ xs.length := (List.takeWhile_prefix p).length_le
  refine while_run (fun i => (i : Int)) _ (xs.takeWhile p).length (by simp) (by omega) (fun i hi => ?_) ?_
  · have hi' : i < xs.length := by omega
    have hp : p xs[i] = true := by
      have h1 : (xs.takeWhile p)[i] = xs[i] := (List.takeWhile_prefix p).getElem hi
      have h2 := List.all_takeWhile (p := p) (l := xs)
      rw [List.all_eq_true] at h2
      rw [← h1]
      exact h2 _ (List.getElem_mem hi)
    rw [h i hi', hp, w64_succ (by omega)]
    rfl
  · by_cases hlt : (xs.takeWhile p).length < xs.length
    · have hp : p xs[(xs.takeWhile p).length] = false := by
        have h1 : xs = xs.takeWhile p ++ xs.dropWhile p := (List.takeWhile_append_dropWhile).symm
        cases hd : xs.dropWhile p with
        | nil => rw [hd, List.append_nil] at h1; rw [← h1] at hlt; omega
        | cons y r =>
          have h2 : p y = false := by
            have := List.head_dropWhile_not p (l := xs) (by rw [hd]; simp)
            simpa [hd] using this
          have h3 : xs[(xs.takeWhile p).length]? = some y := by
            conv => lhs; arg 1; rw [h1]
            rw [List.getElem?_append_right (Nat.le_refl _), Nat.sub_self, hd]
            rfl
          rw [List.getElem?_eq_getElem hlt] at h3
          rw [Option.some.inj h3]
          exact h2
      rw [h _ hlt, hp]
      rfl
    · rw [show (xs.takeWhile p).length = xs.length by omega, he]
theorem while_more {σ ρ : Type} {body : σ → Option (σ ⊕ ρ)} {r : ρ} : ∀ (n m : Nat) (s : σ), n ≤ m → whileM body n s = some r → whileM body m s = some r
  | 0, _, s, _, h => by simp [whileM] at h
  | n + 1, 0, s, hm, _ => by omega
  | n + 1, m + 1, s, hm, h => by
    simp only [whileM] at h ⊢
    split at h
    · exact h
    · rename_i hb
      first
        | exact while_more n m _ (by omega) h
        | exact h
    · exact h
theorem while_small {σ ρ : Type} {body : σ → Option (σ ⊕ ρ)} {r : ρ} {s : σ} (n : Nat) (hn : n ≤ 1000000) (h : whileM body n s = some r) : whileM body gxFuel s = some r :=
  while_more n gxFuel s (by unfold gxFuel; omega) h
theorem gxSlice_take {α : Type} {xs : List α} {k : Nat} (h : k ≤ xs.length) : gxSlice xs 0 (k : Int) = some (xs.take k) := by
  unfold gxSlice
  rw [if_pos ⟨by omega, by omega, by omega⟩]
  simp
theorem gxSlice_drop {α : Type} {xs : List α} {k : Nat} (h : k ≤ xs.length) : gxSlice xs (k : Int) (xs.length : Int) = some (xs.drop k) := by
  unfold gxSlice
  rw [if_pos ⟨by omega, by omega, by omega⟩]
  simp
/-! ### Insertion from the right -/
def insRev {α : Type} (lt : α → α → Bool) (x : α) : List α → List α
  | [] => [x]
  | y :: r => bif lt x y then y :: insRev lt x r else x :: y :: r
def insR {α : Type} (lt : α → α → Bool) (pre : List α) (x : α) : List α := (insRev lt x pre.reverse).reverse
def isortL {α : Type} (lt : α → α → Bool) (xs : List α) : List α := xs.foldl (insR lt) []
theorem inner_run {α : Type} (lt : α → α → Bool) {body : Int × List α → Option ((Int × List α) ⊕ List α)}
    (hstep : ∀ (j : Nat) (L : List α) (h1 : j + 1 < L.length), j ≤ 1099511627776 → body (((j + 1 : Nat) : Int), L) = some (bif lt L[j + 1] (L[j]'(by omega)) then .inl ((j : Int), (L.set (j + 1) (L[j]'(by omega))).set j L[j + 1]) else .inr L))
    (h0 : ∀ L, body (0, L) = some (.inr L)) (x : α) : ∀ (rp post : List α) (fuel : Nat), rp.length < fuel → rp.length ≤ 1099511627776 → whileM body fuel ((rp.length : Int), rp.reverse ++ x :: post) = some ((insRev lt x rp).reverse ++ post)
  | [], post, fuel + 1, _, _ => by
    have := h0 ([].reverse ++ x :: post)
    simp only [List.length_nil] at this ⊢
    simp only [whileM, show ((0 : Nat) : Int) = 0 from rfl, this]
    rfl
  | y :: r, post, fuel + 1, hf, hb => by
    have hl : r.length + 1 < ((y :: r).reverse ++ x :: post).length := by simp
    have e1 : ((y :: r).reverse ++ x :: post)[r.length + 1] = x := by
      rw [List.getElem_append_right (by simp)]
      simp
    have e0 : ((y :: r).reverse ++ x :: post)[r.length]'(by omega) = y := by
      rw [List.getElem_append_left (by simp)]
      simp
    have := hstep r.length _ hl (by simp at hb; omega)
    rw [e1, e0] at this
    simp only [whileM, List.length_cons, this]
    cases hxy : lt x y with
    | false =>
      simp only [cond_false, insRev, hxy]
      simp
    | true =>
      simp only [cond_true, insRev, hxy]
      have e2 : (((y :: r).reverse ++ x :: post).set (r.length + 1) y).set r.length x = r.reverse ++ x :: (y :: post) := by
        simp only [List.reverse_cons, List.append_assoc, List.cons_append, List.nil_append]
        rw [List.set_append_right _ _ (by simp), List.set_append_right _ _ (by simp)]
        simp
      rw [e2]
      have ih := inner_run lt hstep h0 x r (y :: post) fuel (by simp at hf; omega) (by simp at hb; omega)
      rw [ih]
      simp
theorem insRev_len {α : Type} (lt : α → α → Bool) (x : α) : ∀ l : List α, (insRev lt x l).length = l.length + 1
  | [] => rfl
  | y :: r => by
    simp only [insRev]
    cases lt x y <;> simp [insRev_len lt x r]
theorem insR_len {α : Type} (lt : α → α → Bool) (pre : List α) (x : α) : (insR lt pre x).length = pre.length + 1 := by simp [insR, insRev_len]
theorem isortL_snoc {α : Type} (lt : α → α → Bool) (xs : List α) (x : α) : isortL lt (xs ++ [x]) = insR lt (isortL lt xs) x := by simp [isortL]
theorem isortL_len {α : Type} (lt : α → α → Bool) (xs : List α) : (isortL lt xs).length = xs.length := by
  have : ∀ (ys acc : List α), (ys.foldl (insR lt) acc).length = acc.length + ys.length := by
    intro ys
    induction ys with
    | nil => intro acc; simp
    | cons y r ih => intro acc; rw [List.foldl_cons, ih, insR_len, List.length_cons]; omega
  simpa [isortL] using this xs []
theorem insRev_perm {α : Type} (lt : α → α → Bool) (x : α) : ∀ l : List α, (insRev lt x l).Perm (x :: l)
  | [] => List.Perm.refl _
  | y :: r => by
    simp only [insRev]
    cases lt x y with
    | false => exact List.Perm.refl _
    | true => exact ((insRev_perm lt x r).cons y).trans (List.Perm.swap x y r)
theorem insR_perm {α : Type} (lt : α → α → Bool) (pre : List α) (x : α) : (insR lt pre x).Perm (x :: pre) :=
  (List.reverse_perm _).trans ((insRev_perm lt x _).trans ((List.reverse_perm pre).cons x))
theorem isortL_perm {α : Type} (lt : α → α → Bool) (xs : List α) : (isortL lt xs).Perm xs := by
  have : ∀ (ys acc : List α), (ys.foldl (insR lt) acc).Perm (acc ++ ys) := by
    intro ys
    induction ys with
    | nil => intro acc; simp
    | cons y r ih =>
      intro acc
      rw [List.foldl_cons]
      refine (ih _).trans ?_
      refine ((insR_perm lt acc y).append_right r).trans ?_
      exact (List.perm_middle (l₁ := acc) (a := y) (l₂ := r)).symm
  simpa [isortL] using this xs []
/-- In the order of keys. -/
def ordered {α : Type} (key : α → Int) (l : List α) : Prop := l.Pairwise fun a b => key a ≤ key b
theorem insRev_ord {α : Type} (key : α → Int) (x : α) : ∀ l : List α, (l.Pairwise fun a b => key b ≤ key a) → (insRev (fun a b => decide (key a < key b)) x l).Pairwise fun a b => key b ≤ key a
  | [], _ => by simp [insRev]
  | y :: r, h => by
    rw [List.pairwise_cons] at h
    simp only [insRev]
    by_cases hxy : key x < key y
    · simp only [hxy, decide_true, cond_true, List.pairwise_cons]
      refine ⟨fun a ha => ?_, insRev_ord key x r h.2⟩
      rcases List.mem_cons.1 ((insRev_perm _ x r).mem_iff.1 ha) with rfl | ha
      · omega
      · exact h.1 a ha
    · simp only [hxy, decide_false, cond_false, List.pairwise_cons]
      refine ⟨fun a ha => ?_, h.1, h.2⟩
      rcases List.mem_cons.1 ha with rfl | ha
      · omega
      · have := h.1 a ha; omega
theorem insR_ord {α : Type} (key : α → Int) {pre : List α} (h : ordered key pre) (x : α) : ordered key (insR (fun a b => decide (key a < key b)) pre x) := by
  unfold ordered insR
  rw [List.pairwise_reverse]
  exact insRev_ord key x _ (by rw [List.pairwise_reverse]; exact h)
theorem isortL_ord {α : Type} (key : α → Int) (xs : List α) : ordered key (isortL (fun a b => decide (key a < key b)) xs) := by
  have : ∀ (ys acc : List α), ordered key acc → ordered key (ys.foldl (insR (fun a b => decide (key a < key b))) acc) := by
    intro ys
    induction ys with
    | nil => intro acc h; exact h
    | cons y r ih => intro acc h; exact ih _ (insR_ord key h y)
  exact this xs [] (by simp [ordered])
theorem ordered_uniq {α : Type} (key : α → Int) : ∀ {A B : List α}, (A.Pairwise fun a b => key a < key b) → ordered key B → A.Perm B → A = B
  | [], B, _, _, hp => (List.Perm.nil_eq hp)
  | a :: A, [], _, _, hp => by have := hp.length_eq; simp at this
  | a :: A, b :: B, hA, hB, hp => by
    unfold ordered at hB
    rw [List.pairwise_cons] at hA hB
    have hab : a = b := by
      have h1 : a ∈ b :: B := hp.mem_iff.1 (by simp)
      have h2 : b ∈ a :: A := hp.mem_iff.2 (by simp)
      rcases List.mem_cons.1 h1 with h1 | h1
      · exact h1
      · rcases List.mem_cons.1 h2 with h2 | h2
        · exact h2.symm
        · have := hA.1 b h2
          have := hB.1 a h1
          omega
    subst hab
    rw [ordered_uniq key hA.2 hB.2 (List.Perm.cons_inv hp)]
theorem outer_run {α : Type} (lt : α → α → Bool) {xs : List α} {body : Int × List α → Option ((Int × List α) ⊕ List α)} (hl : xs.length ≤ 1099511627776)
    (h : ∀ (i : Nat) (pre post : List α) (x : α), pre.length = i → i < xs.length → body ((i : Int), pre ++ x :: post) = some (.inl (w64 ((i : Int) + 1), insR lt pre x ++ post)))
    (he : ∀ (i : Int) (L : List α), (xs.length : Int) ≤ i → body (i, L) = some (.inr L)) : whileM body gxFuel (1, xs) = some (isortL lt xs) := by
  cases xs with
  | nil =>
    refine while_small 1 (by omega) ?_
    simp only [whileM, he 1 [] (by simp)]
    rfl
  | cons x0 r =>
    refine while_run (fun i => (((i + 1 : Nat) : Int), isortL lt ((x0 :: r).take (i + 1)) ++ (x0 :: r).drop (i + 1))) _ r.length (by simp [isortL, insR, insRev]) (by simp at hl; omega) (fun i hi => ?_) ?_
    · have hi' : i + 1 < (x0 :: r).length := by simp; omega
      have hlen : (isortL lt ((x0 :: r).take (i + 1))).length = i + 1 := by rw [isortL_len]; simp; omega
      rw [List.drop_eq_getElem_cons hi', h (i + 1) _ _ _ hlen hi', w64_succ (by simp at hl; omega), ← isortL_snoc]
      congr 4
      conv => rhs; rw [List.take_add_one, List.getElem?_eq_getElem hi', Option.toList_some]
    · have := he ((r.length + 1 : Nat) : Int) (isortL lt ((x0 :: r).take (r.length + 1)) ++ (x0 :: r).drop (r.length + 1)) (by simp)
      rw [this]
      simp

/-! ### Marks of texts -/
theorem str1_size (b : Int) : (gxStr [b]).size = 1 := by
  simp [gxStr]
/-! ### Elements deleted -/
theorem take_set_end {α : Type} {L : List α} {i : Nat} (h : i < L.length) (v : α) : (L.set i v).take (i + 1) = L.take i ++ [v] := by
  rw [List.take_add_one, List.getElem?_set_self h, Option.toList_some, List.take_set_of_le (by omega)]
theorem del_loop {α : Type} (del : α → Bool) {xs : List α} {body : Int × Int × List α → Option ((Int × Int × List α) ⊕ (Int × List α))} (hl : xs.length ≤ 1099511627776) (i0 : Nat) (h0 : i0 < xs.length) (hb : ∀ j (hj : j < i0), del (xs[j]'(by omega)) = false) (hat : del xs[i0] = true)
    (hstep : ∀ (i j : Nat) (L : List α) (hj : j < L.length) (hi : i < L.length), j ≤ 1099511627776 → i ≤ 1099511627776 → body ((i : Int), (j : Int), L) = some (.inl (bif del L[j] then ((i : Int), ((j + 1 : Nat) : Int), L) else (((i + 1 : Nat) : Int), ((j + 1 : Nat) : Int), L.set i L[j]))))
    (hend : ∀ (i j : Int) (L : List α), (L.length : Int) ≤ j → body (i, j, L) = some (.inr (i, L))) :
    ∃ L, whileM body gxFuel ((i0 : Int), ((i0 + 1 : Nat) : Int), xs) = some (((xs.filter fun x => !(del x)).length : Int), L) ∧ L.length = xs.length ∧ L.take (xs.filter fun x => !(del x)).length = xs.filter fun x => !(del x) := by
  have hkeep : ∀ j, j ≤ i0 → (xs.take j).filter (fun x => !(del x)) = xs.take j := by
    intro j hj
    rw [List.filter_eq_self]
    intro a ha
    obtain ⟨k, hk, rfl⟩ := List.mem_iff_getElem.1 ha
    have hk' : k < j := by simp at hk; omega
    rw [List.getElem_take, hb k (by omega)]
    rfl
  have hlen : ∀ j, ((xs.take j).filter (fun x => !(del x))).length ≤ j := fun j => Nat.le_trans (List.length_filter_le _ _) (by simp; omega)
  have hsucc : ∀ j (hj : j < xs.length), (xs.take (j + 1)).filter (fun x => !(del x)) = bif del xs[j] then (xs.take j).filter (fun x => !(del x)) else (xs.take j).filter (fun x => !(del x)) ++ [xs[j]] := by
    intro j hj
    rw [List.take_add_one, List.getElem?_eq_getElem hj, Option.toList_some, List.filter_append]
    cases hd : del xs[j] <;> simp [hd]
  obtain ⟨q, hq, hq2⟩ := while_inv (body := body) (s0 := ((i0 : Int), ((i0 + 1 : Nat) : Int), xs)) (fun k s => s.2.1 = ((i0 + 1 + k : Nat) : Int) ∧ s.1 = (((xs.take (i0 + 1 + k)).filter fun x => !(del x)).length : Int) ∧ s.2.2.length = xs.length ∧ s.2.2.take ((xs.take (i0 + 1 + k)).filter fun x => !(del x)).length = (xs.take (i0 + 1 + k)).filter (fun x => !(del x)) ∧ s.2.2.drop (i0 + 1 + k) = xs.drop (i0 + 1 + k))
    (fun r => r.1 = ((xs.filter fun x => !(del x)).length : Int) ∧ r.2.length = xs.length ∧ r.2.take (xs.filter fun x => !(del x)).length = xs.filter fun x => !(del x)) (xs.length - (i0 + 1)) (by omega)
    (by
      have h1 := hsucc i0 h0
      rw [hat, cond_true, hkeep i0 (Nat.le_refl _)] at h1
      have h2 : (xs.take i0).length = i0 := by simp; omega
      refine ⟨rfl, ?_, rfl, ?_, rfl⟩
      · simp only [Nat.add_zero, h1, h2]
      · simp only [Nat.add_zero, h1, h2])
    (fun k s hk hR => by
      obtain ⟨a, b, L⟩ := s
      obtain ⟨hb', ha', hL, ht, hd⟩ := hR
      simp only at hb' ha' hL ht hd
      subst hb' ha'
      have hj : i0 + 1 + k < xs.length := by omega
      have hjL : i0 + 1 + k < L.length := by omega
      have hkl := hlen (i0 + 1 + k)
      have hv : L[i0 + 1 + k] = xs[i0 + 1 + k] := by
        have e1 : (L.drop (i0 + 1 + k))[0]? = (xs.drop (i0 + 1 + k))[0]? := by rw [hd]
        rw [List.getElem?_drop, List.getElem?_drop, Nat.add_zero, List.getElem?_eq_getElem hjL, List.getElem?_eq_getElem hj] at e1
        exact Option.some.inj e1
      have hdr : L.drop (i0 + 1 + (k + 1)) = xs.drop (i0 + 1 + (k + 1)) := by
        have : L.drop (i0 + 1 + (k + 1)) = (L.drop (i0 + 1 + k)).drop 1 := by rw [List.drop_drop]; rfl
        rw [this, hd, List.drop_drop]
        rfl
      rw [hstep _ _ L hjL (by omega) (by omega) (by omega), hv]
      have hs := hsucc (i0 + 1 + k) hj
      cases hdel : del xs[i0 + 1 + k] with
      | true =>
        rw [hdel, cond_true] at hs
        exact Or.inl ⟨_, rfl, rfl, by rw [show i0 + 1 + (k + 1) = i0 + 1 + k + 1 by omega, hs]; rfl, hL, by rw [show i0 + 1 + (k + 1) = i0 + 1 + k + 1 by omega, hs]; exact ht, hdr⟩
      | false =>
        rw [hdel, cond_false] at hs
        refine Or.inl ⟨_, rfl, rfl, ?_, ?_, ?_, ?_⟩
        · rw [show i0 + 1 + (k + 1) = i0 + 1 + k + 1 by omega, hs, List.length_append]
          rfl
        · simp only [cond_false, List.length_set]
          exact hL
        · rw [show i0 + 1 + (k + 1) = i0 + 1 + k + 1 by omega, hs, List.length_append, List.length_singleton]
          simp only [cond_false]
          rw [take_set_end (by omega), ht]
        · simp only [cond_false]
          rw [List.drop_set_of_lt (by omega)]
          exact hdr)
    (fun s hR => by
      obtain ⟨a, b, L⟩ := s
      obtain ⟨hb', ha', hL, ht, hd⟩ := hR
      simp only at hb' ha' hL ht hd
      have e : i0 + 1 + (xs.length - (i0 + 1)) = xs.length := by omega
      rw [e, List.take_length] at ht ha'
      rw [e] at hb'
      subst hb' ha'
      rw [hend _ _ L (by omega)]
      exact ⟨_, rfl, rfl, hL, ht⟩)
  obtain ⟨qa, L⟩ := q
  obtain ⟨h1, h2, h3⟩ := hq2
  simp only at h1 h2 h3
  subst h1
  exact ⟨L, hq, h2, h3⟩
theorem del_result {α : Type} {L : List α} {n : Nat} (z : α) (hn : n ≤ L.length) : gxSlice L (n : Int) (L.length : Int) = some (L.drop n) ∧ gxSlice (gxClear L (n : Int) (L.length : Int) z) 0 (n : Int) = some (L.take n) := by
  constructor
  · unfold gxSlice
    rw [if_pos ⟨by omega, by omega, by omega⟩]
    simp
  · have hl : (gxClear L (n : Int) (L.length : Int) z).length = L.length := by simp [gxClear]; omega
    unfold gxSlice
    rw [if_pos ⟨by omega, by omega, by rw [hl]; omega⟩]
    simp only [Int.toNat_zero, List.drop_zero, Int.toNat_natCast]
    unfold gxClear
    simp only [Int.toNat_natCast, List.append_assoc]
    rw [List.take_append_of_le_length (by simp; omega), List.take_take]
    simp
theorem find_none_filter {α : Type} {xs : List α} (del : α → Bool) (z : α) (h : (List.range xs.length).find? (fun i => del (xs.getD i z)) = none) : (xs.filter fun x => !(del x)) = xs := by
  rw [List.filter_eq_self]
  rw [List.find?_eq_none] at h
  intro a ha
  obtain ⟨i, hi, rfl⟩ := List.mem_iff_getElem.1 ha
  have := h i (List.mem_range.2 hi)
  rw [getD_at hi] at this
  simpa using this
theorem find_some_first {α : Type} {xs : List α} (del : α → Bool) (z : α) {i : Nat} (h : (List.range xs.length).find? (fun i => del (xs.getD i z)) = some i) : ∃ hi : i < xs.length, del xs[i] = true ∧ ∀ j (hj : j < i), del (xs[j]'(by omega)) = false := by
  rw [List.find?_range_eq_some] at h
  obtain ⟨h1, h2, h3⟩ := h
  have hi := List.mem_range.1 h2
  refine ⟨hi, by rwa [getD_at hi] at h1, fun j hj => ?_⟩
  have := h3 j hj
  rw [getD_at (show j < xs.length by omega)] at this
  simpa using this

/-! ### Chosen events -/
/-- What slices.DeleteFunc computes, for any choice. -/
def delM (cl : Event → Option Bool) (x1176 : List Event) : Option ((List Event) × (List Event)) :=
  Option.bind (Option.bind (whileM (σ := Int) (ρ := (Unit) ⊕ (Int)) (fun s1125 =>
    bif decide (s1125 < (x1176.length : Int)) then (Option.bind (gxIdx x1176 s1125) fun y1137 =>
    Option.bind (cl y1137) fun r1138 =>
    bif r1138 then some (.inr (.inr s1125))
    else some (.inl (w64 (s1125 + 1))))
    else some (.inr (.inl ()))) gxFuel 0) fun out1132 => Sum.elim (fun (o1135 : Unit) =>
  some (-1)) (fun r => some r) out1132) fun r1194 =>
  bif r1194 == (-1) then some (x1176, x1176)
  else (Option.bind (whileM (σ := Int × Int × List Event) (ρ := Int × List Event) (fun s1270 =>
    bif decide (s1270.2.1 < (s1270.2.2.length : Int)) then (Option.bind (gxIdx s1270.2.2 s1270.2.1) fun y1288 =>
    Option.bind (cl y1288) fun r1295 =>
    Option.bind (α := Int × List Event) (bif !r1295 then (Option.bind (gxIdx s1270.2.2 s1270.1) fun y1312 =>
    some (w64 (s1270.1 + 1), (s1270.2.2.set s1270.1.toNat y1288)))
    else some (s1270.1, s1270.2.2)) fun o1305 =>
    some (.inl (o1305.1, w64 (s1270.2.1 + 1), o1305.2)))
    else some (.inr (s1270.1, s1270.2.2))) gxFuel (r1194, w64 (r1194 + 1), x1176)) fun out1277 =>
  Option.bind (gxSlice out1277.2 out1277.1 (out1277.2.length : Int)) fun ys1325 =>
  Option.bind (gxSlice (gxClear out1277.2 out1277.1 (out1277.2.length : Int) ((⟨0, 0, ByteArray.empty, 0⟩ : Event) : Event)) 0 out1277.1) fun ys1331 =>
  some (ys1331, (gxClear out1277.2 out1277.1 (out1277.2.length : Int) ((⟨0, 0, ByteArray.empty, 0⟩ : Event) : Event))))
theorem delM_ok {cl : Event → Option Bool} (del : Event → Bool) (hcl : ∀ y, cl y = some (del y)) (xs : List Event) (hl : xs.length ≤ 1048576) : ∃ q, delM cl xs = some q ∧ q.1 = xs.filter (fun y => !(del y)) := by
  unfold delM
  rw [while_first (fun i => (i : Int)) (fun i => del (xs.getD i gE)) (fun i => (.inr (i : Int))) (.inl ()) xs.length (by simp) (by omega) ?_ ?_]
  · cases hf : (List.range xs.length).find? (fun i => del (xs.getD i gE)) with
    | none => exact ⟨(xs, xs), rfl, (find_none_filter del gE hf).symm⟩
    | some i =>
      obtain ⟨hi, h1, h2⟩ := find_some_first del gE hf
      have hne : ((i : Int) == (-1)) = false := by simp
      simp only [Option.bind_some, Sum.elim_inr, hne, cond_false, w64_succ (show i ≤ 4611686018427387904 by omega)]
      obtain ⟨L, hL, hL2, hL3⟩ := del_loop del (xs := xs) (body := fun s1270 : Int × Int × List Event =>
        bif decide (s1270.2.1 < (s1270.2.2.length : Int)) then (Option.bind (gxIdx s1270.2.2 s1270.2.1) fun y1288 =>
        Option.bind (cl y1288) fun r1295 =>
        Option.bind (α := Int × List Event) (bif !r1295 then (Option.bind (gxIdx s1270.2.2 s1270.1) fun y1312 =>
        some (w64 (s1270.1 + 1), (s1270.2.2.set s1270.1.toNat y1288)))
        else some (s1270.1, s1270.2.2)) fun o1305 =>
        some (.inl (o1305.1, w64 (s1270.2.1 + 1), o1305.2)))
        else some (.inr (s1270.1, s1270.2.2))) (by omega) i hi h2 h1 (fun i' j L hj hi' hjl hil => by
          have e0 : ((j : Int) < (L.length : Int)) := by omega
          simp only [e0, decide_true, cond_true, gxIdx_nat hj, gxIdx_nat hi', hcl, Option.bind_some, w64_succ (show j ≤ 4611686018427387904 by omega), w64_succ (show i' ≤ 4611686018427387904 by omega), Int.toNat_natCast]
          cases del L[j] <;> rfl) (fun i' j L hj => by
          have e0 : ¬ (j < (L.length : Int)) := by omega
          simp only [e0, decide_false, cond_false])
      have hcnt : (xs.filter fun e => !(del e)).length ≤ L.length := by rw [hL2]; exact List.length_filter_le _ _
      rw [hL, Option.bind_some]
      simp only [(del_result (⟨0, 0, ByteArray.empty, 0⟩ : Event) hcnt).1, (del_result (⟨0, 0, ByteArray.empty, 0⟩ : Event) hcnt).2, Option.bind_some, hL3]
      exact ⟨_, rfl, rfl⟩
  · intro i hi
    have e0 : ((i : Int) < (xs.length : Int)) := by omega
    rw [getD_at hi]
    simp only [e0, decide_true, cond_true, gxIdx_nat hi, hcl, Option.bind_some, w64_succ (show i ≤ 4611686018427387904 by omega)]
    cases del xs[i] <;> rfl
  · simp only [Int.lt_irrefl, decide_false, cond_false]
theorem i_whereOf (xs : List Event) (g : Int) (hl : xs.length ≤ 1048576) : M.i_eventsWhere__i_EventsOf_1 xs g = some (xs.filter fun e => e.Guest == g) := by
  unfold M.i_eventsWhere__i_EventsOf_1
  rw [gxApp_ok (by simp; omega), Option.bind_some, List.nil_append]
  obtain ⟨q, hq, hq2⟩ := delM_ok (cl := fun y => M.i_eventsWhere_1__i_EventsOf_1 y g) (fun y => !(y.Guest == g)) (fun y => rfl) xs hl
  have hq' : M.slices_DeleteFunc_68__i_eventsWhere_1__i_EventsOf_1 xs g = some q := hq
  rw [hq', Option.bind_some, hq2]
  simp
theorem EventsOf_eq (xs : List Event) (g : Int) (h : smallE xs) : ∃ r, M.s_EventsOf xs g = some r ∧ M.i_EventsOf xs g = some r ∧ r.1.length ≤ 1048576 ∧ (goodE xs = true → 0 ≤ g → g ≤ 4 → r = (xs.filter (fun e => e.Guest == g), true)) := by
  have hl := h.1
  unfold M.s_EventsOf M.i_EventsOf M.s_l22Guest M.i_isParty
  simp only [s_goodE xs h, i_goodE xs h, s_in, i_in, Option.bind_some]
  cases goodE xs with
  | false => exact ⟨_, rfl, rfl, by simp, fun h => by cases h⟩
  | true => cases hd : (decide (0 ≤ g) && decide (g ≤ 4)) with
    | false => exact ⟨_, rfl, rfl, by simp, fun _ h0 h1 => by simp [h0, h1] at hd⟩
    | true =>
      simp only [Bool.not_true, cond_false, Option.bind_some, i_whereOf xs g (show xs.length ≤ 1048576 by omega)]
      rw [while_filter (fun e : Event => e.Guest == g) (fun e => e) (xs := xs) (by omega) ?_ ?_]
      · refine ⟨_, rfl, by simp, ?_, fun _ _ _ => by simp⟩
        simp only [List.length_map]
        exact Nat.le_trans (List.length_filter_le _ _) (by omega)
      · intro i hi acc hacc
        have e0 : ((i : Int) < (xs.length : Int)) := by omega
        simp only [e0, decide_true, cond_true, gxIdx_nat hi, Option.bind_some, gxApp_ok (show (acc.length + [xs[i]].length) * 40 ≤ 140737488355328 by simp; omega)]
        cases (xs[i].Guest == g) <;> rfl
      · intro acc
        simp only [Int.lt_irrefl, decide_false, cond_false]
/-! ### Texts in order -/
def ky (s : ByteArray) : List UInt8 := s.data.toList
theorem ky_toList (s : ByteArray) : s.toList = ky s := ByteArray.toList_eq s
theorem ky_inj {a b : ByteArray} (h : ky a = ky b) : a = b := by
  cases a with
  | mk a => cases b with
    | mk b =>
      unfold ky at h
      simp only at h
      rw [Array.toList_inj.1 h]
theorem ky_mk (l : List UInt8) : ky ⟨l.toArray⟩ = l := rfl
theorem bytesLess_lt : ∀ (x y : List UInt8), Op.bytesLess x y = decide (x < y)
  | [], [] => by simp [Op.bytesLess]
  | _ :: _, [] => by simp [Op.bytesLess]
  | [], _ :: _ => by simp [Op.bytesLess]
  | a :: x, b :: y => by
    rw [Op.bytesLess, bytesLess_lt x y]
    simp only [List.cons_lt_cons_iff]
    by_cases h1 : a < b <;> by_cases h2 : a = b <;> by_cases h3 : x < y <;> simp [h1, h2, h3]
def ltK (a b : ByteArray) : Prop := ky a < ky b
theorem ltK_irr (a : ByteArray) : ¬ ltK a a := List.lt_irrefl _
theorem ltK_trans {a b c : ByteArray} (h1 : ltK a b) (h2 : ltK b c) : ltK a c := List.lt_trans h1 h2
theorem ltK_tri {a b : ByteArray} (h1 : ¬ ltK a b) (h2 : a ≠ b) : ltK b a := by
  by_cases h3 : ltK b a
  · exact h3
  · exact absurd (ky_inj (List.le_antisymm (List.not_lt.1 h3) (List.not_lt.1 h1))) h2
theorem less_dec (a b : ByteArray) : Op.bytesLess a.toList b.toList = true ↔ ltK a b := by
  rw [ky_toList, ky_toList, bytesLess_lt, decide_eq_true_eq]
  rfl
theorem same_dec (a b : ByteArray) : (a.toList == b.toList) = true ↔ a = b := by
  rw [ky_toList, ky_toList, beq_iff_eq]
  exact ⟨ky_inj, fun h => by rw [h]⟩
theorem strict_uniq : ∀ {A B : List ByteArray}, A.Pairwise ltK → B.Pairwise ltK → (∀ x, x ∈ A ↔ x ∈ B) → A = B
  | [], [], _, _, _ => rfl
  | [], b :: B, _, _, h => absurd ((h b).2 List.mem_cons_self) List.not_mem_nil
  | a :: A, [], _, _, h => absurd ((h a).1 List.mem_cons_self) List.not_mem_nil
  | a :: A, b :: B, h1, h2, h => by
    rw [List.pairwise_cons] at h1 h2
    have hab : a = b := by
      rcases List.mem_cons.1 ((h a).1 List.mem_cons_self) with e | e
      · exact e
      · rcases List.mem_cons.1 ((h b).2 List.mem_cons_self) with e2 | e2
        · exact e2.symm
        · exact absurd (ltK_trans (h1.1 b e2) (h2.1 a e)) (ltK_irr a)
    subst hab
    congr 1
    refine strict_uniq h1.2 h2.2 fun x => ⟨fun hx => ?_, fun hx => ?_⟩
    · rcases List.mem_cons.1 ((h x).1 (List.mem_cons_of_mem _ hx)) with e | e
      · subst e; exact absurd (h1.1 x hx) (ltK_irr x)
      · exact e
    · rcases List.mem_cons.1 ((h x).2 (List.mem_cons_of_mem _ hx)) with e | e
      · subst e; exact absurd (h2.1 x hx) (ltK_irr x)
      · exact e
/-! ### Sort and Compact -/
theorem comp_inv (d : Array (List UInt8)) (hs : ∀ i j, i < j → j < d.size → ¬ d[j]! < d[i]!) : ∀ m, m ≤ d.size → (Lib.compactUpTo d m).Pairwise (· < ·) ∧ ∀ x, x ∈ Lib.compactUpTo d m ↔ ∃ j, j < m ∧ d[j]! = x := by
  intro m
  induction m with
  | zero => intro _; simp [Lib.compactUpTo]
  | succ m ih =>
    intro hm
    obtain ⟨h1, h2⟩ := ih (by omega)
    rw [Lib.compactUpTo_succ]
    cases hk : Lib.keeps d m with
    | true =>
      simp only [if_true]
      refine ⟨?_, fun x => ?_⟩
      · rw [List.pairwise_append]
        refine ⟨h1, by simp, fun a ha b hb => ?_⟩
        rw [List.mem_singleton.1 hb]
        obtain ⟨j, hj, rfl⟩ := (h2 a).1 ha
        have hne : d[m]! ≠ d[m - 1]! := by
          unfold Lib.keeps at hk
          rcases of_decide_eq_true hk with e | e
          · omega
          · exact e
        have hlt : d[m - 1]! < d[m]! := by
          by_cases h3 : d[m - 1]! < d[m]!
          · exact h3
          · exact absurd (List.le_antisymm (List.not_lt.1 h3) (List.not_lt.1 (hs (m - 1) m (by omega) (by omega)))) hne
        by_cases hjm : j = m - 1
        · rw [hjm]; exact hlt
        · have h4 := hs j (m - 1) (by omega) (by omega)
          exact List.lt_of_le_of_lt (List.not_lt.1 h4) hlt
      · rw [List.mem_append, h2, List.mem_singleton]
        constructor
        · rintro (⟨j, hj, e⟩ | e)
          · exact ⟨j, by omega, e⟩
          · exact ⟨m, by omega, e.symm⟩
        · rintro ⟨j, hj, e⟩
          by_cases hjm : j = m
          · subst hjm; exact Or.inr e.symm
          · exact Or.inl ⟨j, by omega, e⟩
    | false =>
      simp only [Bool.false_eq_true, if_false, List.append_nil]
      refine ⟨h1, fun x => ?_⟩
      rw [h2]
      have hm0 : m ≠ 0 ∧ d[m]! = d[m - 1]! := by
        unfold Lib.keeps at hk
        have := of_decide_eq_false hk
        simp only [not_or, ne_eq, Decidable.not_not] at this
        exact this
      constructor
      · rintro ⟨j, hj, e⟩
        exact ⟨j, by omega, e⟩
      · rintro ⟨j, hj, e⟩
        by_cases hjm : j = m
        · subst hjm; exact ⟨j - 1, by omega, by rw [← hm0.2]; exact e⟩
        · exact ⟨j, by omega, e⟩
theorem sort_comp (xs : List ByteArray) : (gxCompS (gxSortS xs)).Pairwise ltK ∧ ∀ k, k ∈ gxCompS (gxSortS xs) ↔ k ∈ xs := by
  have hle : ∀ x y : List UInt8, decide (x ≤ y) = true ↔ ¬ y < x := fun x y => by rw [decide_eq_true_eq, List.not_lt]
  have hp := List.mergeSort_perm (xs.map ky) fun x y => decide (x ≤ y)
  have hs := List.pairwise_mergeSort (le := fun x y : List UInt8 => decide (x ≤ y)) (fun a b c h1 h2 => by
    rw [decide_eq_true_eq] at *
    exact List.le_trans h1 h2) (fun a b => by
    rw [Bool.or_eq_true, decide_eq_true_eq, decide_eq_true_eq]
    by_cases h : a ≤ b
    · exact Or.inl h
    · exact Or.inr (List.le_of_lt (List.not_le.1 h))) (xs.map ky)
  have hback : (gxSortS xs).map (fun s => s.data.toList) = (xs.map ky).mergeSort fun x y => decide (x ≤ y) := by
    unfold gxSortS
    rw [List.map_map]
    simp [Function.comp_def]
    rfl
  generalize (xs.map ky).mergeSort (fun x y => decide (x ≤ y)) = S at hp hs hback
  have hinv := comp_inv S.toArray (fun i j hij hj => by
    have hj' : j < S.length := by simpa using hj
    have := (List.pairwise_iff_getElem.1 hs) i j (by omega) hj' hij
    rw [hle] at this
    rw [getElem!_pos _ j hj, getElem!_pos _ i (by simpa using (show i < S.length by omega))]
    simpa using this) S.length (by simp)
  unfold gxCompS
  rw [hback]
  unfold Lib.compact
  refine ⟨?_, fun k => ?_⟩
  · rw [List.pairwise_map]
    exact hinv.1
  · rw [List.mem_map]
    constructor
    · rintro ⟨l, hl, rfl⟩
      obtain ⟨j, hj, e⟩ := (hinv.2 l).1 hl
      rw [getElem!_pos _ j (by simpa using hj)] at e
      have hm : l ∈ S := by rw [← e]; simp
      obtain ⟨s, hs1, hs2⟩ := List.mem_map.1 (hp.mem_iff.1 hm)
      have : (⟨l.toArray⟩ : ByteArray) = s := ky_inj (by rw [ky_mk, hs2])
      rw [this]
      exact hs1
    · intro hk
      have hm : ky k ∈ S := hp.mem_iff.2 (List.mem_map_of_mem hk)
      obtain ⟨j, hj, e⟩ := List.getElem_of_mem hm
      refine ⟨ky k, (hinv.2 _).2 ⟨j, hj, ?_⟩, ky_inj rfl⟩
      rw [getElem!_pos _ j (by simpa using hj)]
      simpa using e
/-! ### Slices of texts -/
/-! ### Kinds, counted -/
theorem take_takeWhile {α : Type} (p : α → Bool) (xs : List α) : xs.take (xs.takeWhile p).length = xs.takeWhile p := by
  conv => lhs; arg 2; rw [← List.takeWhile_append_dropWhile (p := p) (l := xs)]
  rw [List.take_left]
theorem drop_takeWhile {α : Type} (p : α → Bool) (xs : List α) : xs.drop (xs.takeWhile p).length = xs.dropWhile p := by
  conv => lhs; arg 2; rw [← List.takeWhile_append_dropWhile (p := p) (l := xs)]
  rw [List.drop_left]
def cntK (ys : List Event) (k : ByteArray) : Int := ((ys.filter fun e => e.Kind.toList == k.toList).length : Int)
theorem cntK_snoc (ys : List Event) (e : Event) (k : ByteArray) : cntK (ys ++ [e]) k = cntK ys k + if e.Kind = k then 1 else 0 := by
  unfold cntK
  rw [List.filter_append, List.length_append]
  by_cases h : e.Kind = k
  · rw [if_pos h]
    have : (e.Kind.toList == k.toList) = true := (same_dec _ _).2 h
    simp [this]
  · rw [if_neg h]
    have : (e.Kind.toList == k.toList) = false := by
      rw [Bool.eq_false_iff]
      exact fun hc => h ((same_dec _ _).1 hc)
    simp [this]
theorem cntK_none {ys : List Event} {k : ByteArray} (h : k ∉ ys.map (·.Kind)) : cntK ys k = 0 := by
  unfold cntK
  have : (ys.filter fun e => e.Kind.toList == k.toList) = [] := by
    rw [List.filter_eq_nil_iff]
    intro e he hc
    exact h (List.mem_map.2 ⟨e, he, (same_dec _ _).1 hc⟩)
  rw [this]
  rfl
structure InvK (ys : List Event) (K : List ByteArray) (C : List Int) : Prop where
  strict : K.Pairwise ltK
  mem : ∀ k, k ∈ K ↔ k ∈ ys.map (·.Kind)
  cnt : C = K.map (cntK ys)
  len : K.length ≤ ys.length
theorem cntK_le (ys : List Event) (k : ByteArray) : 0 ≤ cntK ys k ∧ cntK ys k ≤ ys.length := by
  unfold cntK
  have := List.length_filter_le (fun e : Event => e.Kind.toList == k.toList) ys
  omega
/-- The step over one event. -/
theorem stepK {ys : List Event} {K : List ByteArray} {C : List Int} (h : InvK ys K C) (e : Event) :
    let A := K.takeWhile (fun s => Op.bytesLess s.toList e.Kind.toList)
    let B := K.dropWhile (fun s => Op.bytesLess s.toList e.Kind.toList)
    K = A ++ B ∧ ((∃ B', B = e.Kind :: B' ∧ InvK (ys ++ [e]) K (A.map (cntK ys) ++ (cntK ys e.Kind + 1) :: B'.map (cntK ys))) ∨ ((∀ b B', B = b :: B' → b ≠ e.Kind) ∧ InvK (ys ++ [e]) (A ++ e.Kind :: B) (A.map (cntK ys) ++ 1 :: B.map (cntK ys)))) := by
  intro A B
  have hK : K = A ++ B := (List.takeWhile_append_dropWhile).symm
  refine ⟨hK, ?_⟩
  have hA : ∀ a ∈ A, ltK a e.Kind := fun a ha => by
    have := List.all_takeWhile (p := fun s : ByteArray => Op.bytesLess s.toList e.Kind.toList) (l := K)
    rw [List.all_eq_true] at this
    exact (less_dec _ _).1 (this a ha)
  have hs : (A ++ B).Pairwise ltK := hK ▸ h.strict
  obtain ⟨hsA, hsB, hsAB⟩ := List.pairwise_append.1 hs
  have hne : ∀ k, k ≠ e.Kind → cntK (ys ++ [e]) k = cntK ys k := fun k hk => by rw [cntK_snoc, if_neg (fun h => hk h.symm), Int.add_zero]
  have hmapA : A.map (cntK (ys ++ [e])) = A.map (cntK ys) := List.map_congr_left fun a ha => hne a fun hc => ltK_irr a (by have := hA a ha; rw [← hc] at this; exact this)
  have hmem : ∀ k, k ∈ (ys ++ [e]).map (·.Kind) ↔ k ∈ K ∨ k = e.Kind := fun k => by
    rw [List.map_append, List.mem_append, h.mem]
    simp
  cases hB : B with
  | nil =>
    refine Or.inr ⟨(fun b B' hc => (by cases hc)), ?_, fun k => ?_, ?_, ?_⟩
    · rw [List.pairwise_append]
      exact ⟨hsA, by simp, fun a ha b hb => by rw [List.mem_singleton.1 hb]; exact hA a ha⟩
    · rw [hmem, hK, hB]
      simp
    · rw [List.map_append, hmapA]
      have : cntK (ys ++ [e]) e.Kind = 1 := by
        rw [cntK_snoc, if_pos rfl, cntK_none]
        · rfl
        · intro hc
          have := (h.mem e.Kind).2 hc
          rw [hK, hB, List.append_nil] at this
          exact ltK_irr _ (hA _ this)
      simp [this]
    · have := h.len
      rw [hK, hB] at this
      simp at this ⊢
      omega
  | cons b B' =>
    have hb : ¬ ltK b e.Kind := by
      have := List.head_dropWhile_not (fun s : ByteArray => Op.bytesLess s.toList e.Kind.toList) (l := K) (by show B ≠ []; rw [hB]; simp)
      intro hc
      have h2 : (K.dropWhile (fun s : ByteArray => Op.bytesLess s.toList e.Kind.toList)).head (by show B ≠ []; rw [hB]; simp) = b := by
        have : B.head (by rw [hB]; simp) = b := by simp [hB]
        exact this
      rw [h2] at this
      have h3 := (less_dec b e.Kind).2 hc
      rw [h3] at this
      cases this
    rw [hB] at hsB hsAB
    rw [List.pairwise_cons] at hsB
    have hmapB : (∀ k ∈ B', k ≠ e.Kind) → B'.map (cntK (ys ++ [e])) = B'.map (cntK ys) := fun hh => List.map_congr_left fun a ha => hne a (hh a ha)
    by_cases hbe : b = e.Kind
    · refine Or.inl ⟨B', by rw [hbe], h.strict, fun k => ?_, ?_, by have := h.len; simp; omega⟩
      · rw [hmem]
        constructor
        · exact Or.inl
        · rintro (hk | rfl)
          · exact hk
          · rw [hK, hB, hbe]; simp
      · rw [hK, hB, List.map_append, List.map_cons, hmapA, hmapB fun k hk hc => ltK_irr b (by have := hsB.1 k hk; rw [hc, ← hbe] at this; exact this), hbe, cntK_snoc, if_pos rfl]
    · have hlt : ltK e.Kind b := ltK_tri hb hbe
      have hall : ∀ k ∈ b :: B', ltK e.Kind k := fun k hk => by
        rcases List.mem_cons.1 hk with rfl | hk
        · exact hlt
        · exact ltK_trans hlt (hsB.1 k hk)
      refine Or.inr ⟨(fun b2 B2 hc => (by cases hc; exact hbe)), ?_, fun k => ?_, ?_, ?_⟩
      · rw [List.pairwise_append]
        refine ⟨hsA, ?_, fun a ha c hc => ?_⟩
        · rw [List.pairwise_cons]
          exact ⟨hall, List.pairwise_cons.2 hsB⟩
        · rcases List.mem_cons.1 hc with rfl | hc
          · exact hA a ha
          · exact hsAB a ha c hc
      · rw [hmem, hK, hB]
        simp only [List.mem_append, List.mem_cons]
        constructor
        · rintro (h1 | h1 | h1)
          · exact Or.inl (Or.inl h1)
          · exact Or.inr h1
          · exact Or.inl (Or.inr h1)
        · rintro ((h1 | h1) | h1)
          · exact Or.inl h1
          · exact Or.inr (Or.inr h1)
          · exact Or.inr (Or.inl h1)
      · have hcnt : cntK (ys ++ [e]) e.Kind = 1 := by
          rw [cntK_snoc, if_pos rfl, cntK_none]
          · rfl
          · intro hc
            have := (h.mem e.Kind).2 hc
            rw [hK, hB, List.mem_append] at this
            rcases this with h1 | h1
            · exact ltK_irr _ (hA _ h1)
            · exact ltK_irr _ (hall _ h1)
        have hmB : (b :: B').map (cntK (ys ++ [e])) = (b :: B').map (cntK ys) := List.map_congr_left fun a ha => hne a fun hc => ltK_irr a (by have := hall a ha; rw [← hc] at this; exact this)
        rw [List.map_append, hmapA, List.map_cons (f := cntK (ys ++ [e])), hcnt, hmB]
      · have := h.len
        rw [hK, hB] at this
        simp at this ⊢
        omega
theorem i_whereKind (xs : List Event) (k : ByteArray) (hl : xs.length ≤ 1048576) : M.i_eventsWhere__i_CountKinds_1 xs k = some (xs.filter fun e => e.Kind.toList == k.toList) := by
  unfold M.i_eventsWhere__i_CountKinds_1
  rw [gxApp_ok (by simp; omega), Option.bind_some, List.nil_append]
  obtain ⟨q, hq, hq2⟩ := delM_ok (cl := fun y => M.i_eventsWhere_1__i_CountKinds_1 y k) (fun y => !(y.Kind.toList == k.toList)) (fun y => rfl) xs hl
  have hq' : M.slices_DeleteFunc_68__i_eventsWhere_1__i_CountKinds_1 xs k = some q := hq
  rw [hq', Option.bind_some, hq2]
  simp
theorem set_mid {α : Type} (A B : List α) (x y : α) : (A ++ x :: B).set A.length y = A ++ y :: B := by
  rw [List.set_append_right _ _ (Nat.le_refl _), Nat.sub_self, List.set_cons_zero]
theorem CountKinds_eq (xs : List Event) (h : smallE xs) : ∃ r, M.s_CountKinds xs = some r ∧ M.i_CountKinds xs = some r ∧ r.1.length ≤ 1048576 ∧ r.2.1.length ≤ 1048576 ∧ (goodE xs = true → r.2.2 = true ∧ InvK xs r.1 r.2.1) := by
  have hl := h.1
  unfold M.s_CountKinds M.i_CountKinds
  simp only [s_goodE xs h, i_goodE xs h, Option.bind_some]
  cases hg : goodE xs with
  | false => exact ⟨_, rfl, rfl, by simp, by simp, fun h => by cases h⟩
  | true =>
    have h30 : xs.length ≤ 30 := by
      unfold goodE at hg
      rw [Bool.and_eq_true, decide_eq_true_eq] at hg
      omega
    simp only [Bool.not_true, cond_false]
    -- the kinds in order
    obtain ⟨hstr, hmem⟩ := sort_comp (xs.map (·.Kind))
    have hlenS : (gxSortS (xs.map (·.Kind))).length = xs.length := by simp [gxSortS]
    have hlenC := gxCompS_len (gxSortS (xs.map (·.Kind)))
    rw [hlenS] at hlenC
    rw [while_filter (xs := xs) (fun _ => true) (·.Kind) (by omega)]
    · rw [List.filter_eq_self.2 (fun _ _ => rfl), Option.bind_some]
      unfold M.slices_Sort_46 M.slices_Compact_47
      have d1 : decide ((xs.map (·.Kind)).length < 4611686018427387904) = true := decide_eq_true (by simp; omega)
      have d2 : decide ((gxSortS (xs.map (·.Kind))).length < 4611686018427387904) = true := decide_eq_true (by omega)
      simp only [d1, d2, cond_true, Option.bind_some]
      generalize gxCompS (gxSortS (xs.map (·.Kind))) = K at hstr hmem hlenC
      obtain ⟨q, hq, hq2⟩ := while_inv (body := fun s1677 : List ByteArray × List Int × Int × List Int =>
        bif decide (s1677.2.2.1 < (xs.length : Int)) then (Option.bind (α := List ByteArray × List Int × List Int) (Option.bind (whileM (σ := Int) (ρ := Int) (fun s2060 =>
          Option.bind (α := Bool) (bif decide (s2060 < (s1677.1.length : Int)) then (Option.bind (gxIdx s1677.1 s2060) fun y2082 =>
          Option.bind (gxIdx xs s1677.2.2.1) fun y2083 =>
          some (Op.bytesLess y2082.toList y2083.Kind.toList))
          else some false) fun o2078 =>
          bif o2078 then some (.inl (w64 (s2060 + 1)))
          else some (.inr s2060)) gxFuel 0) fun out2067 =>
        Option.bind (α := Bool) (bif decide (out2067 < (s1677.1.length : Int)) then (Option.bind (gxIdx s1677.1 out2067) fun y2108 =>
        Option.bind (gxIdx xs s1677.2.2.1) fun y2109 =>
        some (y2108.toList == y2109.Kind.toList))
        else some false) fun o2104 =>
        bif o2104 then (Option.bind (gxIdx s1677.2.1 out2067) fun y2119 =>
        Option.bind (gxIdx s1677.2.1 out2067) fun y2120 =>
        some (s1677.1, (s1677.2.1.set out2067.toNat (w64 (y2119 + 1))), (s1677.2.1.set out2067.toNat (w64 (y2119 + 1)))))
        else (Option.bind (gxSlice s1677.1 0 out2067) fun ys2132 =>
        Option.bind (gxApp 16 ([] : List ByteArray) ys2132) fun ap2134 =>
        Option.bind (gxIdx xs s1677.2.2.1) fun y2140 =>
        Option.bind (gxApp 16 ap2134 [y2140.Kind]) fun ap2146 =>
        Option.bind (gxSlice s1677.1 out2067 (s1677.1.length : Int)) fun ys2152 =>
        Option.bind (gxApp 16 ap2146 ys2152) fun ap2217 =>
        Option.bind (gxSlice s1677.2.1 0 out2067) fun ys2232 =>
        Option.bind (gxApp 8 ([] : List Int) ys2232) fun ap2234 =>
        Option.bind (gxApp 8 ap2234 [1]) fun ap2245 =>
        Option.bind (gxSlice s1677.2.1 out2067 (s1677.2.1.length : Int)) fun ys2251 =>
        Option.bind (gxApp 8 ap2245 ys2251) fun ap2296 =>
        some (ap2217, ap2296, s1677.2.1))) fun o2001 =>
        some (Sum.inl (β := List ByteArray × List Int × List Int) (o2001.1, o2001.2.1, w64 (s1677.2.2.1 + 1), s1677.2.2.2)))
        else some (.inr (s1677.1, s1677.2.1, s1677.2.2.2))) (s0 := (([] : List ByteArray), ([] : List Int), 0, ([] : List Int))) (fun i s => s.2.2.1 = (i : Int) ∧ InvK (xs.take i) s.1 s.2.1) (fun r => InvK xs r.1 r.2.1) xs.length (by omega) ⟨rfl, List.Pairwise.nil, by simp, rfl, by simp⟩ (fun i s hi hR => by
          obtain ⟨K, C, j, C2⟩ := s
          obtain ⟨hj, hI⟩ := hR
          simp only at hj hI
          subst hj
          have e0 : ((i : Int) < (xs.length : Int)) := by omega
          have hKl : K.length ≤ 30 := by have := hI.len; simp at this; omega
          have htk : xs.take (i + 1) = xs.take i ++ [xs[i]] := by rw [List.take_add_one, List.getElem?_eq_getElem hi]; rfl
          have hCl : C.length = K.length := by rw [hI.cnt]; simp
          obtain ⟨hK, hstep⟩ := stepK hI xs[i]
          generalize hAe : K.takeWhile (fun s => Op.bytesLess s.toList xs[i].Kind.toList) = A at hK hstep
          generalize hBe : K.dropWhile (fun s => Op.bytesLess s.toList xs[i].Kind.toList) = B at hK hstep
          simp only [e0, decide_true, cond_true]
          rw [while_place (xs := K) (fun s => Op.bytesLess s.toList xs[i].Kind.toList) (by omega), hAe]
          · have hAK : A.length + B.length = K.length := by rw [hK, List.length_append]
            have htA : K.take A.length = A := by rw [hK]; simp
            have hdB : K.drop A.length = B := by rw [hK]; simp
            have hC : C = A.map (cntK (xs.take i)) ++ B.map (cntK (xs.take i)) := by rw [hI.cnt, hK, List.map_append]
            have htC : C.take A.length = A.map (cntK (xs.take i)) := by rw [hC]; simp
            have hdC : C.drop A.length = B.map (cntK (xs.take i)) := by rw [hC]; simp
            simp only [Option.bind_some, gxIdx_nat hi]
            rcases hstep with ⟨B', hB, hI'⟩ | ⟨hB, hI'⟩
            · have hp : A.length < K.length := by rw [← hAK, hB]; simp
              have hpC : A.length < C.length := by omega
              have hat : K[A.length] = xs[i].Kind := by
                have : K[A.length]? = some xs[i].Kind := by rw [hK, hB]; simp
                rw [List.getElem?_eq_getElem hp] at this
                exact Option.some.inj this
              have hatC : C[A.length] = cntK (xs.take i) xs[i].Kind := by
                have : C[A.length]? = some (cntK (xs.take i) xs[i].Kind) := by rw [hC, hB]; simp
                rw [List.getElem?_eq_getElem hpC] at this
                exact Option.some.inj this
              have e1 : ((A.length : Int) < (K.length : Int)) := by omega
              have hc := cntK_le (xs.take i) xs[i].Kind
              have hset : C.set A.length (cntK (xs.take i) xs[i].Kind + 1) = A.map (cntK (xs.take i)) ++ (cntK (xs.take i) xs[i].Kind + 1) :: B'.map (cntK (xs.take i)) := by
                rw [hC, hB, List.map_cons]
                have := set_mid (A.map (cntK (xs.take i))) (B'.map (cntK (xs.take i))) (cntK (xs.take i) xs[i].Kind) (cntK (xs.take i) xs[i].Kind + 1)
                rw [List.length_map] at this
                exact this
              have hw : w64 (cntK (xs.take i) xs[i].Kind + 1) = cntK (xs.take i) xs[i].Kind + 1 := w64_id (by omega) (by simp at hc; omega)
              simp only [e1, decide_true, cond_true, gxIdx_nat hp, gxIdx_nat hpC, hat, hatC, beq_self_eq_true, Option.bind_some, Int.toNat_natCast, hw, hset, w64_succ (show i ≤ 4611686018427387904 by omega)]
              rw [← htk] at hI'
              exact Or.inl ⟨_, rfl, rfl, hI'⟩
            · have hnot : (bif decide ((A.length : Int) < (K.length : Int)) then (Option.bind (gxIdx K (A.length : Int)) fun y2108 => some (y2108.toList == xs[i].Kind.toList)) else some false) = some false := by
                by_cases hp : A.length < K.length
                · have e1 : ((A.length : Int) < (K.length : Int)) := by omega
                  simp only [e1, decide_true, cond_true, gxIdx_nat hp, Option.bind_some]
                  cases hBc : B with
                  | nil => rw [hBc] at hAK; simp at hAK; omega
                  | cons b B' =>
                    have hat : K[A.length] = b := by
                      have : K[A.length]? = some b := by rw [hK, hBc]; simp
                      rw [List.getElem?_eq_getElem hp] at this
                      exact Option.some.inj this
                    have : (b.toList == xs[i].Kind.toList) = false := by
                      rw [Bool.eq_false_iff]
                      exact fun hc => hB b B' hBc ((same_dec _ _).1 hc)
                    rw [hat, this]
                · have e1 : ¬ ((A.length : Int) < (K.length : Int)) := by omega
                  simp only [e1, decide_false, cond_false]
              rw [hnot]
              have hAl : A.length ≤ K.length := by omega
              have hCl2 : A.length ≤ C.length := by omega
              simp only [Option.bind_some, cond_false, gxSlice_take hAl, gxSlice_drop hAl, gxSlice_take hCl2, gxSlice_drop hCl2, htA, hdB, htC, hdC]
              rw [gxApp_ok (by simp; omega), Option.bind_some, gxApp_ok (by simp; omega), Option.bind_some, gxApp_ok (by simp; omega), Option.bind_some, gxApp_ok (by simp; omega), Option.bind_some, gxApp_ok (by simp; omega), Option.bind_some, gxApp_ok (by simp; omega), Option.bind_some, Option.bind_some, w64_succ (show i ≤ 4611686018427387904 by omega)]
              rw [← htk] at hI'
              exact Or.inl ⟨_, rfl, rfl, by simpa using hI'⟩
          · intro j hj
            have e1 : ((j : Int) < (K.length : Int)) := by omega
            simp only [e1, decide_true, cond_true, gxIdx_nat hj, gxIdx_nat hi, Option.bind_some]
            cases Op.bytesLess K[j].toList xs[i].Kind.toList <;> rfl
          · simp only [Int.lt_irrefl, decide_false, cond_false, Option.bind_some]) (fun s hR => by
          obtain ⟨K, C, j, C2⟩ := s
          obtain ⟨hj, hI⟩ := hR
          simp only at hj hI
          subst hj
          rw [List.take_length] at hI
          simp only [Int.lt_irrefl, decide_false, cond_false]
          exact ⟨_, rfl, hI⟩)
      have hKK : q.1 = K := strict_uniq hq2.strict hstr fun k => by rw [hq2.mem, hmem]
      rw [hq, while_run (fun i => ((K.take i).map (cntK xs), (i : Int))) (K.map (cntK xs)) K.length (by simp) (by omega)]
      · have hqI := hq2
        rw [hKK] at hqI
        refine ⟨(K, K.map (cntK xs), true), ?_, rfl, by simp only; omega, by simp; omega, fun _ => ⟨rfl, ⟨hqI.strict, hqI.mem, rfl, hqI.len⟩⟩⟩
        simp only [Option.bind_some, hq2.cnt, hKK]
      · intro i hi
        have e0 : ((i : Int) < (K.length : Int)) := by omega
        simp only [e0, decide_true, cond_true, gxIdx_nat hi, Option.bind_some, i_whereKind xs _ (show xs.length ≤ 1048576 by omega)]
        rw [gxApp_ok (by simp; omega), Option.bind_some, w64_succ (show i ≤ 4611686018427387904 by omega), List.take_add_one, List.getElem?_eq_getElem hi, Option.toList_some, List.map_append]
        rfl
      · simp only [Int.lt_irrefl, decide_false, cond_false, List.take_length]
    · intro i hi acc hacc
      have e0 : ((i : Int) < (xs.length : Int)) := by omega
      simp only [e0, decide_true, cond_true, gxIdx_nat hi, Option.bind_some]
      rw [gxApp_ok (by simp; omega), Option.bind_some]
    · intro acc
      simp only [Int.lt_irrefl, decide_false, cond_false]
end Go.Proofs.YtimffallbjpcjaaGreatDoor
