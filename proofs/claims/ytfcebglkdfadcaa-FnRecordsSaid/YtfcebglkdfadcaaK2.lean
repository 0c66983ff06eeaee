/- Plain laws of the models: no program in sight. -/
import Derived.Test.YtfcebglkdfadcaaM
import Derived.Test.YtfcebglkdfadcaaK1
set_option linter.unusedVariables false
set_option linter.unusedSimpArgs false
set_option maxHeartbeats 4000000
namespace Go.Proofs.Ytfcebglkdfadcaa
open Go.Gx
/-! ### Loops that choose, loops that look for a place -/
theorem while_filter {α β : Type} {xs : List α} (p : α → Bool) (f : α → β) {body : List β × Int → Option ((List β × Int) ⊕ List β)} (hl : xs.length ≤ 1099511627776)
    (h : ∀ (i : Nat) (hi : i < xs.length) (acc : List β), acc.length ≤ i → body (acc, (i : Int)) = some (.inl (bif p xs[i] then acc ++ [f xs[i]] else acc, w64 ((i : Int) + 1))))
    (he : ∀ acc, body (acc, (xs.length : Int)) = some (.inr acc)) : whileM body gxFuel ([], 0) = some ((xs.filter p).map f) := by
  refine while_run (fun i => (((xs.take i).filter p).map f, (i : Int))) _ xs.length (by simp) (by omega) (fun i hi => ?_) ?_
  · have hle : (((xs.take i).filter p).map f).length ≤ i := by
      rw [List.length_map]
      exact Nat.le_trans (List.length_filter_le _ _) (by simp; omega)
    rw [h i hi _ hle, w64_succ (by omega), List.take_add_one, List.getElem?_eq_getElem hi, Option.toList_some, List.filter_append, List.map_append]
    cases hp : p xs[i] <;> simp [hp]
  · rw [he, List.take_length]
theorem while_place {α : Type} {xs : List α} (p : α → Bool) {body : Int → Option (Int ⊕ Int)} (hl : xs.length ≤ 1099511627776)
    (h : ∀ (i : Nat) (hi : i < xs.length), body (i : Int) = some (bif p xs[i] then .inl (w64 ((i : Int) + 1)) else .inr (i : Int)))
    (he : body (xs.length : Int) = some (.inr (xs.length : Int))) : whileM body gxFuel 0 = some ((xs.takeWhile p).length : Int) := by
  have hk : (xs.takeWhile p).length ≤ xs.length := (List.takeWhile_prefix p).length_le
  refine while_run (fun i => (i : Int)) _ (xs.takeWhile p).length (by simp) (by omega) (fun i hi => ?_) ?_
  · have hi' : i < xs.length := by omega
    have hp : p xs[i] = true := by
      have h1 : (xs.takeWhile p)[i] = xs[i] := (List.takeWhile_prefix p).getElem hi
      have h2 := List.all_takeWhile (p := p) (l := xs)
      rw [List.all_eq_true] at h2
      rw [← h1]
      exact h2 _ (List.getElem_mem hi)
    rw [h i hi', hp, w64_succ (by omega)]
    rfl
  · by_cases hlt : (xs.takeWhile p).length < xs.length
    · have hp : p xs[(xs.takeWhile p).length] = false := by
        have h1 : xs = xs.takeWhile p ++ xs.dropWhile p := (List.takeWhile_append_dropWhile).symm
        cases hd : xs.dropWhile p with
        | nil => rw [hd, List.append_nil] at h1; rw [← h1] at hlt; omega
        | cons y r =>
          have h2 : p y = false := by
            have := List.head_dropWhile_not p (l := xs) (by rw [hd]; simp)
            simpa [hd] using this
          have h3 : xs[(xs.takeWhile p).length]? = some y := by
            conv => lhs; arg 1; rw [h1]
            rw [List.getElem?_append_right (Nat.le_refl _), Nat.sub_self, hd]
            rfl
          rw [List.getElem?_eq_getElem hlt] at h3
          rw [Option.some.inj h3]
          exact h2
      rw [h _ hlt, hp]
      rfl
    · rw [show (xs.takeWhile p).length = xs.length by omega, he]
theorem while_more {σ ρ : Type} {body : σ → Option (σ ⊕ ρ)} {r : ρ} : ∀ (n m : Nat) (s : σ), n ≤ m → whileM body n s = some r → whileM body m s = some r
  | 0, _, s, _, h => by simp [whileM] at h
  | n + 1, 0, s, hm, _ => by omega
  | n + 1, m + 1, s, hm, h => by
    simp only [whileM] at h ⊢
    split at h
    · exact h
    · rename_i hb
      first
        | exact while_more n m _ (by omega) h
        | exact h
    · exact h
theorem while_small {σ ρ : Type} {body : σ → Option (σ ⊕ ρ)} {r : ρ} {s : σ} (n : Nat) (hn : n ≤ 1000000) (h : whileM body n s = some r) : whileM body gxFuel s = some r :=
  while_more n gxFuel s (by unfold gxFuel; omega) h
theorem gxSlice_take {α : Type} {xs : List α} {k : Nat} (h : k ≤ xs.length) : gxSlice xs 0 (k : Int) = some (xs.take k) := by
  unfold gxSlice
  rw [if_pos ⟨by omega, by omega, by omega⟩]
  simp
theorem gxSlice_drop {α : Type} {xs : List α} {k : Nat} (h : k ≤ xs.length) : gxSlice xs (k : Int) (xs.length : Int) = some (xs.drop k) := by
  unfold gxSlice
  rw [if_pos ⟨by omega, by omega, by omega⟩]
  simp
/-! ### Insertion from the right -/
def insRev {α : Type} (lt : α → α → Bool) (x : α) : List α → List α
  | [] => [x]
  | y :: r => bif lt x y then y :: insRev lt x r else x :: y :: r
def insR {α : Type} (lt : α → α → Bool) (pre : List α) (x : α) : List α := (insRev lt x pre.reverse).reverse
def isortL {α : Type} (lt : α → α → Bool) (xs : List α) : List α := xs.foldl (insR lt) []
theorem inner_run {α : Type} (lt : α → α → Bool) {body : Int × List α → Option ((Int × List α) ⊕ List α)}
    (hstep : ∀ (j : Nat) (L : List α) (h1 : j + 1 < L.length), j ≤ 1099511627776 → body (((j + 1 : Nat) : Int), L) = some (bif lt L[j + 1] (L[j]'(by omega)) then .inl ((j : Int), (L.set (j + 1) (L[j]'(by omega))).set j L[j + 1]) else .inr L))
    (h0 : ∀ L, body (0, L) = some (.inr L)) (x : α) : ∀ (rp post : List α) (fuel : Nat), rp.length < fuel → rp.length ≤ 1099511627776 → whileM body fuel ((rp.length : Int), rp.reverse ++ x :: post) = some ((insRev lt x rp).reverse ++ post)
  | [], post, fuel + 1, _, _ => by
    have := h0 ([].reverse ++ x :: post)
    simp only [List.length_nil] at this ⊢
    simp only [whileM, show ((0 : Nat) : Int) = 0 from rfl, this]
    rfl
  | y :: r, post, fuel + 1, hf, hb => by
    have hl : r.length + 1 < ((y :: r).reverse ++ x :: post).length := by simp
    have e1 : ((y :: r).reverse ++ x :: post)[r.length + 1] = x := by
      rw [List.getElem_append_right (by simp)]
      simp
    have e0 : ((y :: r).reverse ++ x :: post)[r.length]'(by omega) = y := by
      rw [List.getElem_append_left (by simp)]
      simp
    have := hstep r.length _ hl (by simp at hb; omega)
    rw [e1, e0] at this
    simp only [whileM, List.length_cons, this]
    cases hxy : lt x y with
    | false =>
      simp only [cond_false, insRev, hxy]
      simp
    | true =>
      simp only [cond_true, insRev, hxy]
      have e2 : (((y :: r).reverse ++ x :: post).set (r.length + 1) y).set r.length x = r.reverse ++ x :: (y :: post) := by
        simp only [List.reverse_cons, List.append_assoc, List.cons_append, List.nil_append]
        rw [List.set_append_right _ _ (by simp), List.set_append_right _ _ (by simp)]
        simp
      rw [e2]
      have ih := inner_run lt hstep h0 x r (y :: post) fuel (by simp at hf; omega) (by simp at hb; omega)
      rw [ih]
      simp
theorem insRev_len {α : Type} (lt : α → α → Bool) (x : α) : ∀ l : List α, (insRev lt x l).length = l.length + 1
  | [] => rfl
  | y :: r => by
    simp only [insRev]
    cases lt x y <;> simp [insRev_len lt x r]
theorem insR_len {α : Type} (lt : α → α → Bool) (pre : List α) (x : α) : (insR lt pre x).length = pre.length + 1 := by simp [insR, insRev_len]
theorem isortL_snoc {α : Type} (lt : α → α → Bool) (xs : List α) (x : α) : isortL lt (xs ++ [x]) = insR lt (isortL lt xs) x := by simp [isortL]
theorem isortL_len {α : Type} (lt : α → α → Bool) (xs : List α) : (isortL lt xs).length = xs.length := by
  have : ∀ (ys acc : List α), (ys.foldl (insR lt) acc).length = acc.length + ys.length := by
    intro ys
    induction ys with
    | nil => intro acc; simp
    | cons y r ih => intro acc; rw [List.foldl_cons, ih, insR_len, List.length_cons]; omega
  simpa [isortL] using this xs []
theorem insRev_perm {α : Type} (lt : α → α → Bool) (x : α) : ∀ l : List α, (insRev lt x l).Perm (x :: l)
  | [] => List.Perm.refl _
  | y :: r => by
    simp only [insRev]
    cases lt x y with
    | false => exact List.Perm.refl _
    | true => exact ((insRev_perm lt x r).cons y).trans (List.Perm.swap x y r)
theorem insR_perm {α : Type} (lt : α → α → Bool) (pre : List α) (x : α) : (insR lt pre x).Perm (x :: pre) :=
  (List.reverse_perm _).trans ((insRev_perm lt x _).trans ((List.reverse_perm pre).cons x))
theorem isortL_perm {α : Type} (lt : α → α → Bool) (xs : List α) : (isortL lt xs).Perm xs := by
  have : ∀ (ys acc : List α), (ys.foldl (insR lt) acc).Perm (acc ++ ys) := by
    intro ys
    induction ys with
    | nil => intro acc; simp
    | cons y r ih =>
      intro acc
      rw [List.foldl_cons]
      refine (ih _).trans ?_
      refine ((insR_perm lt acc y).append_right r).trans ?_
      exact (List.perm_middle (l₁ := acc) (a := y) (l₂ := r)).symm
  simpa [isortL] using this xs []
/-- In the order of keys. -/
def ordered {α : Type} (key : α → Int) (l : List α) : Prop := l.Pairwise fun a b => key a ≤ key b
theorem insRev_ord {α : Type} (key : α → Int) (x : α) : ∀ l : List α, (l.Pairwise fun a b => key b ≤ key a) → (insRev (fun a b => decide (key a < key b)) x l).Pairwise fun a b => key b ≤ key a
  | [], _ => by simp [insRev]
  | y :: r, h => by
    rw [List.pairwise_cons] at h
    simp only [insRev]
    by_cases hxy : key x < key y
    · simp only [hxy, decide_true, cond_true, List.pairwise_cons]
      refine ⟨fun a ha => ?_, insRev_ord key x r h.2⟩
      rcases List.mem_cons.1 ((insRev_perm _ x r).mem_iff.1 ha) with rfl | ha
      · omega
      · exact h.1 a ha
    · simp only [hxy, decide_false, cond_false, List.pairwise_cons]
      refine ⟨fun a ha => ?_, h.1, h.2⟩
      rcases List.mem_cons.1 ha with rfl | ha
      · omega
      · have := h.1 a ha; omega
theorem insR_ord {α : Type} (key : α → Int) {pre : List α} (h : ordered key pre) (x : α) : ordered key (insR (fun a b => decide (key a < key b)) pre x) := by
  unfold ordered insR
  rw [List.pairwise_reverse]
  exact insRev_ord key x _ (by rw [List.pairwise_reverse]; exact h)
theorem isortL_ord {α : Type} (key : α → Int) (xs : List α) : ordered key (isortL (fun a b => decide (key a < key b)) xs) := by
  have : ∀ (ys acc : List α), ordered key acc → ordered key (ys.foldl (insR (fun a b => decide (key a < key b))) acc) := by
    intro ys
    induction ys with
    | nil => intro acc h; exact h
    | cons y r ih => intro acc h; exact ih _ (insR_ord key h y)
  exact this xs [] (by simp [ordered])
theorem ordered_uniq {α : Type} (key : α → Int) : ∀ {A B : List α}, (A.Pairwise fun a b => key a < key b) → ordered key B → A.Perm B → A = B
  | [], B, _, _, hp => (List.Perm.nil_eq hp)
  | a :: A, [], _, _, hp => by have := hp.length_eq; simp at this
  | a :: A, b :: B, hA, hB, hp => by
    unfold ordered at hB
    rw [List.pairwise_cons] at hA hB
    have hab : a = b := by
      have h1 : a ∈ b :: B := hp.mem_iff.1 (by simp)
      have h2 : b ∈ a :: A := hp.mem_iff.2 (by simp)
      rcases List.mem_cons.1 h1 with h1 | h1
      · exact h1
      · rcases List.mem_cons.1 h2 with h2 | h2
        · exact h2.symm
        · have := hA.1 b h2
          have := hB.1 a h1
          omega
    subst hab
    rw [ordered_uniq key hA.2 hB.2 (List.Perm.cons_inv hp)]
theorem outer_run {α : Type} (lt : α → α → Bool) {xs : List α} {body : Int × List α → Option ((Int × List α) ⊕ List α)} (hl : xs.length ≤ 1099511627776)
    (h : ∀ (i : Nat) (pre post : List α) (x : α), pre.length = i → i < xs.length → body ((i : Int), pre ++ x :: post) = some (.inl (w64 ((i : Int) + 1), insR lt pre x ++ post)))
    (he : ∀ (i : Int) (L : List α), (xs.length : Int) ≤ i → body (i, L) = some (.inr L)) : whileM body gxFuel (1, xs) = some (isortL lt xs) := by
  cases xs with
  | nil =>
    refine while_small 1 (by omega) ?_
    simp only [whileM, he 1 [] (by simp)]
    rfl
  | cons x0 r =>
    refine while_run (fun i => (((i + 1 : Nat) : Int), isortL lt ((x0 :: r).take (i + 1)) ++ (x0 :: r).drop (i + 1))) _ r.length (by simp [isortL, insR, insRev]) (by simp at hl; omega) (fun i hi => ?_) ?_
    · have hi' : i + 1 < (x0 :: r).length := by simp; omega
      have hlen : (isortL lt ((x0 :: r).take (i + 1))).length = i + 1 := by rw [isortL_len]; simp; omega
      rw [List.drop_eq_getElem_cons hi', h (i + 1) _ _ _ hlen hi', w64_succ (by simp at hl; omega), ← isortL_snoc]
      congr 4
      conv => rhs; rw [List.take_add_one, List.getElem?_eq_getElem hi', Option.toList_some]
    · have := he ((r.length + 1 : Nat) : Int) (isortL lt ((x0 :: r).take (r.length + 1)) ++ (x0 :: r).drop (r.length + 1)) (by simp)
      rw [this]
      simp
/-! ### Stable order -/
def steq {α : Type} (key : α → Int) (A B : List α) : Prop := ∀ k, A.filter (fun x => key x == k) = B.filter (fun x => key x == k)
theorem steq_refl {α : Type} (key : α → Int) (A : List α) : steq key A A := fun _ => rfl
theorem steq_trans {α : Type} {key : α → Int} {A B C : List α} (h : steq key A B) (g : steq key B C) : steq key A C := fun k => (h k).trans (g k)
theorem steq_symm {α : Type} {key : α → Int} {A B : List α} (h : steq key A B) : steq key B A := fun k => (h k).symm
theorem steq_app {α : Type} {key : α → Int} {A A' B B' : List α} (h : steq key A A') (g : steq key B B') : steq key (A ++ B) (A' ++ B') := fun k => by rw [List.filter_append, List.filter_append, h k, g k]
theorem steq_swap {α : Type} {key : α → Int} {A B : List α} (h : ∀ a ∈ A, ∀ b ∈ B, key a ≠ key b) : steq key (A ++ B) (B ++ A) := fun k => by
  rw [List.filter_append, List.filter_append]
  by_cases ha : ∃ a ∈ A, key a = k
  · obtain ⟨a, ha, rfl⟩ := ha
    have : B.filter (fun x => key x == key a) = [] := by
      rw [List.filter_eq_nil_iff]
      intro b hb
      have := h a ha b hb
      simp only [beq_iff_eq]
      omega
    rw [this]
    simp
  · have : A.filter (fun x => key x == k) = [] := by
      rw [List.filter_eq_nil_iff]
      intro a ha'
      have : key a ≠ k := fun e => ha ⟨a, ha', e⟩
      simpa using this
    rw [this]
    simp
theorem steq_mem {α : Type} {key : α → Int} {A B : List α} (h : steq key A B) {x : α} (hx : x ∈ A) : x ∈ B := by
  have h1 : x ∈ A.filter (fun y => key y == key x) := List.mem_filter.2 ⟨hx, by simp⟩
  rw [h (key x)] at h1
  exact (List.mem_filter.1 h1).1
theorem steq_uniq {α : Type} {key : α → Int} : ∀ {A B : List α}, ordered key A → ordered key B → steq key A B → A = B
  | [], [], _, _, _ => rfl
  | [], b :: B, _, _, h => by
    have := steq_mem (steq_symm h) (x := b) (by simp)
    cases this
  | a :: A, [], _, _, h => by
    have := steq_mem h (x := a) (by simp)
    cases this
  | a :: A, b :: B, hA, hB, h => by
    unfold ordered at hA hB
    rw [List.pairwise_cons] at hA hB
    have e : key a = key b := by
      have h1 := steq_mem h (x := a) (by simp)
      have h2 := steq_mem (steq_symm h) (x := b) (by simp)
      rcases List.mem_cons.1 h1 with q | q
      · rw [q]
      · have := hB.1 a q
        rcases List.mem_cons.1 h2 with r | r
        · rw [r]
        · have := hA.1 b r
          omega
    have h0 := h (key a)
    rw [List.filter_cons_of_pos (by simp), List.filter_cons_of_pos (by simp [e])] at h0
    have h1 := List.cons.inj h0
    have : steq key A B := fun k => by
      by_cases hk : key a = k
      · subst hk
        exact h1.2
      · have := h k
        rwa [List.filter_cons_of_neg (by simpa using hk), List.filter_cons_of_neg (by rw [e] at hk; simpa using hk)] at this
    rw [h1.1, steq_uniq hA.2 hB.2 this]
theorem ordered_app {α : Type} {key : α → Int} {A B : List α} : ordered key (A ++ B) ↔ ordered key A ∧ ordered key B ∧ ∀ a ∈ A, ∀ b ∈ B, key a ≤ key b := by
  unfold ordered
  exact List.pairwise_append
def ltK {α : Type} (key : α → Int) (a b : α) : Bool := decide (key a < key b)
theorem insRev_steq {α : Type} (key : α → Int) (x : α) : ∀ l : List α, steq key ((insRev (ltK key) x l).reverse) (l.reverse ++ [x])
  | [] => steq_refl _ _
  | y :: r => by
    simp only [insRev, ltK]
    by_cases h : key x < key y
    · simp only [h, decide_true, cond_true, List.reverse_cons, List.append_assoc]
      refine steq_trans (steq_app (insRev_steq key x r) (steq_refl key [y])) ?_
      rw [List.append_assoc]
      refine steq_app (steq_refl key _) (steq_swap ?_)
      intro a ha b hb
      rw [List.mem_singleton] at ha hb
      subst ha
      subst hb
      omega
    · simp only [h, decide_false, cond_false, List.reverse_cons]
      exact steq_refl _ _
theorem insR_steq {α : Type} (key : α → Int) (pre : List α) (x : α) : steq key (insR (ltK key) pre x) (pre ++ [x]) := by
  have := insRev_steq key x pre.reverse
  rwa [List.reverse_reverse] at this
theorem foldl_steq {α : Type} (key : α → Int) : ∀ (ys acc : List α), steq key (ys.foldl (insR (ltK key)) acc) (acc ++ ys)
  | [], acc => by
    rw [List.append_nil]
    exact steq_refl _ _
  | y :: r, acc => by
    rw [List.foldl_cons]
    refine steq_trans (foldl_steq key r _) ?_
    have := steq_app (insR_steq key acc y) (steq_refl key r)
    rwa [List.append_assoc] at this
theorem foldl_ord {α : Type} (key : α → Int) : ∀ (ys acc : List α), ordered key acc → ordered key (ys.foldl (insR (ltK key)) acc)
  | [], _, h => h
  | y :: r, acc, h => foldl_ord key r _ (insR_ord key h y)
theorem isortL_steq {α : Type} (key : α → Int) (xs : List α) : steq key (isortL (ltK key) xs) xs := foldl_steq key xs []
/-! ### Looks into lists that are put together -/
theorem at_mid {α : Type} {P X S : List α} {i : Nat} (hi : i < X.length) (hl : P.length + i ≤ 1099511627776) : gxIdx (P ++ X ++ S) ((P.length + i : Nat) : Int) = some X[i] := by
  rw [gxIdx_nat (by simp; omega)]
  congr 1
  rw [List.getElem_append_left (by simp; omega), List.getElem_append_right (by omega)]
  congr 1
  omega
/-! ### Search by halves -/
theorem half_run {ρ : Type} {body : Int × Int → Option ((Int × Int) ⊕ ρ)} (out : Nat → ρ) (p : Nat → Bool) (lo hi : Nat) (hb : hi ≤ 1099511627776)
    (hm : ∀ c d, lo ≤ c → c ≤ d → d < hi → p d = true → p c = true)
    (hs : ∀ i j, lo ≤ i → i < j → j ≤ hi → body ((i : Int), (j : Int)) = some (.inl (bif p ((i + j) / 2) then ((((i + j) / 2 + 1 : Nat) : Int), (j : Int)) else ((i : Int), (((i + j) / 2 : Nat) : Int)))))
    (he : ∀ i, lo ≤ i → i ≤ hi → body ((i : Int), (i : Int)) = some (.inr (out i))) (hlh : lo ≤ hi) :
    ∃ k, whileM body gxFuel ((lo : Int), (hi : Int)) = some (out k) ∧ lo ≤ k ∧ k ≤ hi ∧ (∀ c, lo ≤ c → c < k → p c = true) ∧ (∀ c, k ≤ c → c < hi → p c = false) := by
  have key : ∀ (n i j fuel : Nat), j - i ≤ n → n < fuel → lo ≤ i → i ≤ j → j ≤ hi → (∀ c, lo ≤ c → c < i → p c = true) → (∀ c, j ≤ c → c < hi → p c = false) → ∃ k, whileM body fuel ((i : Int), (j : Int)) = some (out k) ∧ lo ≤ k ∧ k ≤ hi ∧ (∀ c, lo ≤ c → c < k → p c = true) ∧ (∀ c, k ≤ c → c < hi → p c = false) := by
    intro n
    induction n with
    | zero =>
      intro i j fuel h1 h2 h3 h4 h5 h6 h7
      obtain ⟨f, rfl⟩ : ∃ f, fuel = f + 1 := ⟨fuel - 1, by omega⟩
      have e : j = i := by omega
      subst e
      refine ⟨j, ?_, h3, h5, h6, h7⟩
      simp only [whileM, he j h3 h5]
    | succ n ih =>
      intro i j fuel h1 h2 h3 h4 h5 h6 h7
      obtain ⟨f, rfl⟩ : ∃ f, fuel = f + 1 := ⟨fuel - 1, by omega⟩
      by_cases e : i = j
      · subst e
        refine ⟨i, ?_, h3, h5, h6, h7⟩
        simp only [whileM, he i h3 h5]
      · have hlt : i < j := by omega
        simp only [whileM, hs i j h3 hlt h5]
        cases hp : p ((i + j) / 2) with
        | true =>
          exact ih ((i + j) / 2 + 1) j f (by omega) (by omega) (by omega) (by omega) h5 (fun c hc1 hc2 => hm c ((i + j) / 2) hc1 (by omega) (by omega) hp) h7
        | false =>
          refine ih i ((i + j) / 2) f (by omega) (by omega) h3 (by omega) (by omega) h6 (fun c hc1 hc2 => ?_)
          cases hq : p c with
          | false => rfl
          | true =>
            rw [hm ((i + j) / 2) c (by omega) hc1 hc2 hq] at hp
            cases hp
  exact key (hi - lo) lo hi gxFuel (Nat.le_refl _) (by unfold gxFuel; omega) (Nat.le_refl _) hlh (Nat.le_refl _) (fun c h1 h2 => absurd h2 (by omega)) (fun c h1 h2 => absurd h2 (by omega))
/-! ### The library's stable sort, for any elements in the order of a number -/
theorem idx_at {α : Type} {A B : List α} {x : α} {j : Nat} (h : j = A.length) : gxIdx (A ++ x :: B) (j : Int) = some x := by
  subst h
  rw [gxIdx_nat (by simp)]
  congr 1
  rw [List.getElem_append_right (Nat.le_refl _)]
  simp
theorem set_at {α : Type} {A B : List α} {x y : α} {j : Nat} (h : j = A.length) : (A ++ x :: B).set j y = A ++ y :: B := by
  subst h
  rw [List.set_append_right _ _ (Nat.le_refl _)]
  simp
theorem two_at {α : Type} {U V W : List α} {x y : α} {i j : Nat} (hi : i = U.length) (hj : j = U.length + 1 + V.length) :
    gxIdx (U ++ x :: (V ++ y :: W)) (i : Int) = some x ∧ gxIdx (U ++ x :: (V ++ y :: W)) (j : Int) = some y ∧
    (∀ z, ∃ u, gxIdx ((U ++ x :: (V ++ y :: W)).set i z) (j : Int) = some u) ∧ (∀ z, ∃ u, gxIdx ((U ++ x :: (V ++ y :: W)).set j z) (i : Int) = some u) ∧
    ((U ++ x :: (V ++ y :: W)).set i y).set j x = U ++ y :: (V ++ x :: W) ∧ ((U ++ x :: (V ++ y :: W)).set j x).set i y = U ++ y :: (V ++ x :: W) := by
  have e : ∀ a b : α, U ++ a :: (V ++ b :: W) = (U ++ a :: V) ++ b :: W := fun a b => by simp
  have hj' : ∀ a : α, j = (U ++ a :: V).length := fun a => by simp; omega
  refine ⟨idx_at hi, ?_, fun z => ⟨y, ?_⟩, fun z => ⟨x, ?_⟩, ?_, ?_⟩
  · rw [e, idx_at (hj' x)]
  · rw [set_at hi, e, idx_at (hj' z)]
  · rw [e, set_at (hj' x), ← e, idx_at hi]
  · rw [set_at hi, e, set_at (hj' y), ← e]
  · rw [e x y, set_at (hj' x), ← e, set_at hi]
theorem half_w {i j : Nat} (h : i + j ≤ 4611686018427387904) : w64 ((IntKind.u64.wrap (w64 ((i : Int) + (j : Int)))).fdiv (2 ^ 1)) = (((i + j) / 2 : Nat) : Int) := by
  rw [w64_id (z := (i : Int) + (j : Int)) (by omega) (by omega)]
  have : IntKind.u64.wrap ((i : Int) + (j : Int)) = (i : Int) + j := by
    simp [IntKind.wrap, IntKind.bits, IntKind.signed]
    omega
  rw [this, Int.fdiv_eq_ediv_of_nonneg _ (by omega), w64_id (by omega) (by omega)]
  omega
def gSwap {α : Type} (x : List α) (a b n : Int) : Option (List α) :=
  Option.bind (whileM (σ := Int × List α) (ρ := List α) (fun s =>
    bif decide (s.1 < n) then (Option.bind (gxIdx s.2 (w64 (b + s.1))) fun y1 =>
    Option.bind (gxIdx s.2 (w64 (a + s.1))) fun y2 =>
    Option.bind (gxIdx s.2 (w64 (a + s.1))) fun y3 =>
    Option.bind (gxIdx (s.2.set (w64 (a + s.1)).toNat y1) (w64 (b + s.1))) fun y4 =>
    some (.inl (w64 (s.1 + 1), ((s.2.set (w64 (a + s.1)).toNat y1).set (w64 (b + s.1)).toNat y2))))
    else some (.inr s.2)) gxFuel (0, x)) fun out =>
  some out
theorem swap_law {α : Type} (P A X B S : List α) (hl : A.length = B.length) (hb : (P ++ A ++ X ++ B ++ S).length ≤ 1099511627776) {a b n : Int} (ha : a = (P.length : Int)) (hbb : b = ((P.length + A.length + X.length : Nat) : Int)) (hn : n = (A.length : Int)) :
    gSwap (P ++ A ++ X ++ B ++ S) a b n = some (P ++ B ++ X ++ A ++ S) := by
  subst ha hbb hn
  unfold gSwap
  simp only [List.length_append] at hb
  rw [while_run (fun k => ((k : Int), (P ++ B.take k) ++ (A.drop k ++ X ++ A.take k) ++ (B.drop k ++ S))) (P ++ B ++ X ++ A ++ S) A.length (by simp) (by omega)]
  · rfl
  · intro k hk
    have hkB : k < B.length := by omega
    have e0 : ((k : Int) < (A.length : Int)) := by omega
    have e1 : w64 ((P.length : Int) + (k : Int)) = ((P.length + k : Nat) : Int) := by rw [w64_id (by omega) (by omega)]; omega
    have e2 : w64 (((P.length + A.length + X.length : Nat) : Int) + (k : Int)) = ((P.length + A.length + X.length + k : Nat) : Int) := by rw [w64_id (by omega) (by omega)]; omega
    have hL : (P ++ B.take k) ++ (A.drop k ++ X ++ A.take k) ++ (B.drop k ++ S) = (P ++ B.take k) ++ A[k] :: ((A.drop (k + 1) ++ X ++ A.take k) ++ B[k] :: (B.drop (k + 1) ++ S)) := by
      rw [List.drop_eq_getElem_cons hk, List.drop_eq_getElem_cons hkB]
      simp only [List.append_assoc, List.cons_append]
    have tA : A.take (k + 1) = A.take k ++ [A[k]] := by rw [List.take_add_one, List.getElem?_eq_getElem hk]; rfl
    have tB : B.take (k + 1) = B.take k ++ [B[k]] := by rw [List.take_add_one, List.getElem?_eq_getElem hkB]; rfl
    have hR : (P ++ B.take (k + 1)) ++ (A.drop (k + 1) ++ X ++ A.take (k + 1)) ++ (B.drop (k + 1) ++ S) = (P ++ B.take k) ++ B[k] :: ((A.drop (k + 1) ++ X ++ A.take k) ++ A[k] :: (B.drop (k + 1) ++ S)) := by
      rw [tA, tB]
      simp only [List.append_assoc, List.cons_append, List.nil_append]
    obtain ⟨t1, t2, t3, _, t5, _⟩ := two_at (U := P ++ B.take k) (V := A.drop (k + 1) ++ X ++ A.take k) (W := B.drop (k + 1) ++ S) (x := A[k]) (y := B[k]) (i := P.length + k) (j := P.length + A.length + X.length + k) (by simp; omega) (by simp; omega)
    obtain ⟨u, hu⟩ := t3 B[k]
    simp only [e0, decide_true, cond_true, e1, e2, hL, hR, t1, t2, hu, t5, Option.bind_some, Int.toNat_natCast, w64_succ (show k ≤ 4611686018427387904 by omega)]
  · have hB1 : B.take A.length = B := by rw [hl]; exact List.take_length
    have hB2 : B.drop A.length = [] := by rw [hl]; exact List.drop_length
    simp only [Int.lt_irrefl, decide_false, cond_false, hB1, hB2, List.take_length, List.drop_length]
    simp
def gRotB {α : Type} (m : Int) : Int × Int × List α → Option ((Int × Int × List α) ⊕ (Int × List α)) := fun s =>
    bif s.1 != s.2.1 then (Option.bind (α := Int × Int × List α) (bif decide (s.1 > s.2.1) then (Option.bind (gSwap s.2.2 (w64 (m - s.1)) m s.2.1) fun r =>
    some (w64 (s.1 - s.2.1), s.2.1, r))
    else (Option.bind (gSwap s.2.2 (w64 (m - s.1)) (w64 ((w64 (m + s.2.1)) - s.1)) s.1) fun r =>
    some (s.1, w64 (s.2.1 - s.1), r))) fun o =>
    some (.inl (o.1, o.2.1, o.2.2)))
    else some (.inr (s.1, s.2.2))
def gRot {α : Type} (x : List α) (a m b : Int) : Option (List α) :=
  Option.bind (whileM (gRotB m) gxFuel (w64 (m - a), w64 (b - m), x)) fun out =>
  Option.bind (gSwap out.2 (w64 (m - out.1)) m out.1) fun r =>
  some r
theorem rot_loop {α : Type} (m : Nat) : ∀ (n fuel : Nat) (U A B W : List α), A.length + B.length ≤ n → n < fuel → A ≠ [] → B ≠ [] → U.length + A.length = m → (U ++ A ++ B ++ W).length ≤ 1099511627776 →
    ∃ U' A' B' W', whileM (gRotB (m : Int)) fuel ((A.length : Int), (B.length : Int), U ++ A ++ B ++ W) = some ((A'.length : Int), U' ++ A' ++ B' ++ W') ∧ A'.length = B'.length ∧ U'.length + A'.length = m ∧ U' ++ B' ++ A' ++ W' = U ++ B ++ A ++ W ∧ (U' ++ A' ++ B' ++ W').length ≤ 1099511627776 := by
  intro n
  induction n with
  | zero =>
    intro fuel U A B W h1 h2 hA
    exact absurd (List.length_eq_zero_iff.1 (by omega)) hA
  | succ n ih =>
    intro fuel U A B W h1 h2 hA hB hm hb
    obtain ⟨f, rfl⟩ : ∃ f, fuel = f + 1 := ⟨fuel - 1, by omega⟩
    have hA1 : 1 ≤ A.length := List.length_pos_iff.2 hA
    have hB1 : 1 ≤ B.length := List.length_pos_iff.2 hB
    have hb' := hb
    simp only [List.length_append] at hb'
    have e1 : w64 ((m : Int) - (A.length : Int)) = (U.length : Int) := by rw [w64_id (by omega) (by omega)]; omega
    by_cases h : A.length = B.length
    · refine ⟨U, A, B, W, ?_, h, hm, rfl, hb⟩
      have : ((A.length : Int) != (B.length : Int)) = false := by simp [h]
      simp only [whileM, gRotB, this, cond_false]
    · have hne : ((A.length : Int) != (B.length : Int)) = true := by simp; omega
      by_cases h2 : B.length < A.length
      · have hgt : ((A.length : Int) > (B.length : Int)) := by omega
        have hsp : A.take B.length ++ A.drop B.length = A := List.take_append_drop _ _
        have l1 : (A.take B.length).length = B.length := by simp; omega
        have l2 : (A.drop B.length).length = A.length - B.length := by simp
        have hsw := swap_law U (A.take B.length) (A.drop B.length) B W l1 (by simp; omega) (a := (U.length : Int)) (b := (m : Int)) (n := (B.length : Int)) rfl (by rw [l1, l2]; omega) (by rw [l1])
        have hL : U ++ A ++ B ++ W = U ++ A.take B.length ++ A.drop B.length ++ B ++ W := by
          conv => lhs; rw [← hsp]
          simp
        rw [← hL] at hsw
        obtain ⟨U', A', B', W', g1, g2, g3, g4, g5⟩ := ih f (U ++ B) (A.drop B.length) (A.take B.length) W (by rw [l1, l2]; omega) (by omega) (by intro e; rw [e] at l2; simp at l2; omega) (by intro e; rw [e] at l1; simp at l1; omega) (by rw [l2, List.length_append]; omega) (by simp; omega)
        refine ⟨U', A', B', W', ?_, g2, g3, ?_, g5⟩
        · have e2 : w64 ((A.length : Int) - (B.length : Int)) = ((A.drop B.length).length : Int) := by rw [l2, w64_id (by omega) (by omega)]; omega
          rw [l1] at g1
          simp only [whileM, gRotB, hne, cond_true, hgt, decide_true, e1, hsw, Option.bind_some, e2]
          exact g1
        · rw [g4, List.append_assoc (U ++ B), hsp]
      · have hgt : ¬ ((A.length : Int) > (B.length : Int)) := by omega
        have hsp : B.take (B.length - A.length) ++ B.drop (B.length - A.length) = B := List.take_append_drop _ _
        have l1 : (B.take (B.length - A.length)).length = B.length - A.length := by simp
        have l2 : (B.drop (B.length - A.length)).length = A.length := by simp; omega
        have hsw := swap_law U A (B.take (B.length - A.length)) (B.drop (B.length - A.length)) W l2.symm (by simp; omega) (a := (U.length : Int)) (b := ((m + B.length - A.length : Nat) : Int)) (n := (A.length : Int)) rfl (by rw [l1]; omega) rfl
        have hL : U ++ A ++ B ++ W = U ++ A ++ B.take (B.length - A.length) ++ B.drop (B.length - A.length) ++ W := by
          conv => lhs; rw [← hsp]
          simp
        rw [← hL] at hsw
        obtain ⟨U', A', B', W', g1, g2, g3, g4, g5⟩ := ih f U (B.drop (B.length - A.length)) (B.take (B.length - A.length)) (A ++ W) (by rw [l1, l2]; omega) (by omega) (by intro e; rw [e] at l2; simp at l2; omega) (by intro e; rw [e] at l1; simp at l1; omega) (by rw [l2]; omega) (by simp; omega)
        refine ⟨U', A', B', W', ?_, g2, g3, ?_, g5⟩
        · have e2 : w64 ((B.length : Int) - (A.length : Int)) = ((B.take (B.length - A.length)).length : Int) := by rw [l1, w64_id (by omega) (by omega)]; omega
          have e3 : w64 (w64 ((m : Int) + (B.length : Int)) - (A.length : Int)) = ((m + B.length - A.length : Nat) : Int) := by rw [w64_id (z := (m : Int) + (B.length : Int)) (by omega) (by omega), w64_id (by omega) (by omega)]; omega
          rw [l2] at g1
          simp only [whileM, gRotB, hne, cond_true, hgt, decide_false, cond_false, e1, e3, hsw, Option.bind_some, e2]
          rw [← g1]
          simp
        · rw [g4]
          conv => rhs; rw [← hsp]
          simp
theorem rot_law {α : Type} (P A B S : List α) (hA : A ≠ []) (hB : B ≠ []) (hb : (P ++ A ++ B ++ S).length ≤ 1099511627776) {a m b : Int} (ha : a = (P.length : Int)) (hm : m = ((P.length + A.length : Nat) : Int)) (hbb : b = ((P.length + A.length + B.length : Nat) : Int)) :
    gRot (P ++ A ++ B ++ S) a m b = some (P ++ B ++ A ++ S) := by
  subst ha hm hbb
  unfold gRot
  have hb' := hb
  simp only [List.length_append] at hb'
  have e1 : w64 (((P.length + A.length : Nat) : Int) - (P.length : Int)) = (A.length : Int) := by rw [w64_id (by omega) (by omega)]; omega
  have e2 : w64 (((P.length + A.length + B.length : Nat) : Int) - ((P.length + A.length : Nat) : Int)) = (B.length : Int) := by rw [w64_id (by omega) (by omega)]; omega
  obtain ⟨U, A', B', W, g1, g2, g3, g4, g5⟩ := rot_loop (P.length + A.length) (A.length + B.length) gxFuel P A B S (Nat.le_refl _) (by unfold gxFuel; omega) hA hB rfl hb
  have e3 : w64 (((P.length + A.length : Nat) : Int) - (A'.length : Int)) = (U.length : Int) := by rw [w64_id (by omega) (by omega)]; omega
  have hsw := swap_law U A' [] B' W g2 (by simpa using g5) (a := (U.length : Int)) (b := ((P.length + A.length : Nat) : Int)) (n := (A'.length : Int)) rfl (by simp only [List.length_nil]; omega) rfl
  simp only [List.append_nil] at hsw
  rw [e1, e2, g1]
  simp only [Option.bind_some, e3, hsw, g4]
/-! ### Insertion within a list -/
def gIns {α : Type} (cl : α → α → Option Int) (x : List α) (a b : Int) : Option (List α) :=
  Option.bind (whileM (σ := Int × List α) (ρ := List α) (fun s =>
    bif decide (s.1 < b) then (Option.bind (whileM (σ := Int × List α) (ρ := List α) (fun t =>
      Option.bind (α := Bool) (bif decide (t.1 > a) then (Option.bind (gxIdx t.2 t.1) fun y1 =>
      Option.bind (gxIdx t.2 (w64 (t.1 - 1))) fun y2 =>
      Option.bind (cl y1 y2) fun r =>
      some (decide (r < 0)))
      else some false) fun o =>
      bif o then (Option.bind (gxIdx t.2 (w64 (t.1 - 1))) fun y3 =>
      Option.bind (gxIdx t.2 t.1) fun y4 =>
      Option.bind (gxIdx t.2 t.1) fun y5 =>
      Option.bind (gxIdx (t.2.set t.1.toNat y3) (w64 (t.1 - 1))) fun y6 =>
      some (.inl (w64 (t.1 - 1), ((t.2.set t.1.toNat y3).set (w64 (t.1 - 1)).toNat y4))))
      else some (.inr t.2)) gxFuel (s.1, s.2)) fun out =>
    some (.inl (w64 (s.1 + 1), out)))
    else some (.inr s.2)) gxFuel (w64 (a + 1), x)) fun out =>
  some out
/-- The comparing function answers in the order of keys. -/
def keyed {α : Type} (cl : α → α → Option Int) (key : α → Int) : Prop := ∀ x y, ∃ r, cl x y = some r ∧ decide (r < 0) = ltK key x y
theorem inner_P {α : Type} (lt : α → α → Bool) {body : Int × List α → Option ((Int × List α) ⊕ List α)} (P : List α)
    (hstep : ∀ (A B : List α) (v u : α), P.length ≤ A.length → A.length ≤ 1099511627776 → body (((A.length + 1 : Nat) : Int), A ++ v :: u :: B) = some (bif lt u v then .inl ((A.length : Int), A ++ u :: v :: B) else .inr (A ++ v :: u :: B)))
    (h0 : ∀ L, body ((P.length : Int), L) = some (.inr L)) (x : α) : ∀ (rp post : List α) (fuel : Nat), rp.length < fuel → P.length + rp.length ≤ 1099511627776 → whileM body fuel (((P.length + rp.length : Nat) : Int), P ++ (rp.reverse ++ x :: post)) = some (P ++ ((insRev lt x rp).reverse ++ post))
  | [], post, fuel + 1, _, _ => by
    have := h0 (P ++ ([].reverse ++ x :: post))
    simp only [List.length_nil, Nat.add_zero, whileM, this]
    simp [insRev]
  | y :: r, post, fuel + 1, hf, hb => by
    have e : P ++ ((y :: r).reverse ++ x :: post) = (P ++ r.reverse) ++ y :: x :: post := by simp
    have h := hstep (P ++ r.reverse) post y x (by simp) (by simp at hb ⊢; omega)
    have hl : (P ++ r.reverse).length = P.length + r.length := by simp
    rw [hl] at h
    rw [e]
    simp only [List.length_cons, ← Nat.add_assoc, whileM, h]
    cases hxy : lt x y with
    | false =>
      simp [insRev, hxy]
    | true =>
      have ih := inner_P lt P hstep h0 x r (y :: post) fuel (by simp at hf; omega) (by simp at hb; omega)
      rw [← List.append_assoc] at ih
      simp only [cond_true, insRev, hxy]
      have e2 : P ++ r.reverse ++ x :: y :: post = P ++ (r.reverse ++ x :: y :: post) := by simp
      rw [e2]
      rw [List.append_assoc] at ih
      rw [ih]
      simp
theorem ins_law {α : Type} {cl : α → α → Option Int} {key : α → Int} (hcl : keyed cl key) (P A S : List α) (hb : (P ++ A ++ S).length ≤ 1099511627000) {a b : Int} (ha : a = (P.length : Int)) (hbb : b = ((P.length + A.length : Nat) : Int)) :
    gIns cl (P ++ A ++ S) a b = some (P ++ isortL (ltK key) A ++ S) := by
  subst ha hbb
  simp only [List.length_append] at hb
  unfold gIns
  rw [w64_succ (by omega)]
  cases A with
  | nil =>
    have : ¬ (((P.length + 1 : Nat) : Int) < ((P.length + ([] : List α).length : Nat) : Int)) := by simp; omega
    rw [while_small (r := P ++ ([] ++ S)) 1 (by omega) (by simp only [whileM, this, decide_false, cond_false]; simp)]
    simp [isortL]
  | cons x0 r =>
    rw [while_run (fun i => (((P.length + i + 1 : Nat) : Int), P ++ (isortL (ltK key) ((x0 :: r).take (i + 1)) ++ ((x0 :: r).drop (i + 1) ++ S)))) (P ++ (isortL (ltK key) (x0 :: r) ++ S)) r.length (by simp [isortL, insR, insRev]) (by simp at hb; omega)]
    · simp
    · intro i hi
      have hi' : i + 1 < (x0 :: r).length := by simp; omega
      have hlr : (x0 :: r).length = r.length + 1 := by simp
      have hlen : (isortL (ltK key) ((x0 :: r).take (i + 1))).length = i + 1 := by rw [isortL_len]; simp; omega
      have e0 : (((P.length + i + 1 : Nat) : Int) < ((P.length + (x0 :: r).length : Nat) : Int)) := by omega
      have hd : (x0 :: r).drop (i + 1) ++ S = (x0 :: r)[i + 1] :: ((x0 :: r).drop (i + 1 + 1) ++ S) := by
        rw [List.drop_eq_getElem_cons hi']
        rfl
      have hin := inner_P (ltK key) (body := fun t : Int × List α =>
          Option.bind (α := Bool) (bif decide (t.1 > (P.length : Int)) then (Option.bind (gxIdx t.2 t.1) fun y1 =>
          Option.bind (gxIdx t.2 (w64 (t.1 - 1))) fun y2 =>
          Option.bind (cl y1 y2) fun r =>
          some (decide (r < 0)))
          else some false) fun o =>
          bif o then (Option.bind (gxIdx t.2 (w64 (t.1 - 1))) fun y3 =>
          Option.bind (gxIdx t.2 t.1) fun y4 =>
          Option.bind (gxIdx t.2 t.1) fun y5 =>
          Option.bind (gxIdx (t.2.set t.1.toNat y3) (w64 (t.1 - 1))) fun y6 =>
          some (.inl (w64 (t.1 - 1), ((t.2.set t.1.toNat y3).set (w64 (t.1 - 1)).toNat y4))))
          else some (.inr t.2)) P (fun A B v u h1 h2 => by
        have g0 : (((A.length + 1 : Nat) : Int) > (P.length : Int)) := by omega
        have g1 : w64 (((A.length + 1 : Nat) : Int) - 1) = (A.length : Int) := by rw [w64_id (by omega) (by omega)]; omega
        obtain ⟨t1, t2, _, t4, _, t6⟩ := two_at (U := A) (V := []) (W := B) (x := v) (y := u) (i := A.length) (j := A.length + 1) rfl (by simp)
        simp only [List.nil_append] at t1 t2 t4 t6
        obtain ⟨w, hw⟩ := t4 v
        obtain ⟨q, hq, hq2⟩ := hcl u v
        simp only [g0, decide_true, cond_true, g1, t1, t2, hq, hq2, Option.bind_some]
        cases ltK key u v with
        | false => rfl
        | true => simp only [cond_true, Int.toNat_natCast, hw, t6, Option.bind_some]) (fun L => by
        have : ¬ ((P.length : Int) > (P.length : Int)) := by omega
        simp only [this, decide_false, cond_false, Option.bind_some]) (x0 :: r)[i + 1] (isortL (ltK key) ((x0 :: r).take (i + 1))).reverse ((x0 :: r).drop (i + 1 + 1) ++ S) gxFuel (by rw [List.length_reverse, hlen]; unfold gxFuel; omega) (by rw [List.length_reverse, hlen]; omega)
      rw [List.length_reverse, hlen, List.reverse_reverse, ← Nat.add_assoc] at hin
      rw [hd]
      simp only [e0, decide_true, cond_true]
      rw [hin, Option.bind_some, w64_succ (by omega)]
      have hs : isortL (ltK key) ((x0 :: r).take (i + 1 + 1)) = (insRev (ltK key) (x0 :: r)[i + 1] (isortL (ltK key) ((x0 :: r).take (i + 1))).reverse).reverse := by
        rw [List.take_add_one (i := i + 1), List.getElem?_eq_getElem hi', Option.toList_some, isortL_snoc]
        rfl
      rw [hs]
      rfl
    · have e0 : ¬ (((P.length + r.length + 1 : Nat) : Int) < ((P.length + (x0 :: r).length : Nat) : Int)) := by simp only [List.length_cons]; omega
      simp only [e0, decide_false, cond_false]
      have h1 : (x0 :: r).take (r.length + 1) = x0 :: r := by simp
      have h2 : (x0 :: r).drop (r.length + 1) = [] := by simp
      rw [h1, h2, List.nil_append]
/-! ### Merging in place -/
def gSym {α : Type} (cl : α → α → Option Int) : Nat → (List α) → Int → Int → Int → Option ((List α))
  | 0, _, _, _, _ => none
  | n_ + 1, x, a, m, b =>
    bif (w64 (m - a)) == 1 then (Option.bind (whileM (σ := Int × Int) (ρ := Int) (fun s =>
      bif decide (s.1 < s.2) then (Option.bind (gxIdx x (w64 ((IntKind.u64.wrap (w64 (s.1 + s.2))).fdiv (2 ^ 1)))) fun y1 =>
      Option.bind (gxIdx x a) fun y2 =>
      Option.bind (cl y1 y2) fun r =>
      Option.bind (α := Int × Int) (bif decide (r < 0) then some (w64 ((w64 ((IntKind.u64.wrap (w64 (s.1 + s.2))).fdiv (2 ^ 1))) + 1), s.2)
      else some (s.1, w64 ((IntKind.u64.wrap (w64 (s.1 + s.2))).fdiv (2 ^ 1)))) fun o =>
      some (.inl (o.1, o.2)))
      else some (.inr s.1)) gxFuel (m, b)) fun out =>
    Option.bind (whileM (σ := Int × List α) (ρ := List α) (fun s =>
      bif decide (s.1 < (w64 (out - 1))) then (Option.bind (gxIdx s.2 (w64 (s.1 + 1))) fun y1 =>
      Option.bind (gxIdx s.2 s.1) fun y2 =>
      Option.bind (gxIdx s.2 s.1) fun y3 =>
      Option.bind (gxIdx (s.2.set s.1.toNat y1) (w64 (s.1 + 1))) fun y4 =>
      some (.inl (w64 (s.1 + 1), ((s.2.set s.1.toNat y1).set (w64 (s.1 + 1)).toNat y2))))
      else some (.inr s.2)) gxFuel (a, x)) fun out2 =>
    some out2)
    else (bif (w64 (b - m)) == 1 then (Option.bind (whileM (σ := Int × Int) (ρ := Int) (fun s =>
      bif decide (s.1 < s.2) then (Option.bind (gxIdx x m) fun y1 =>
      Option.bind (gxIdx x (w64 ((IntKind.u64.wrap (w64 (s.1 + s.2))).fdiv (2 ^ 1)))) fun y2 =>
      Option.bind (cl y1 y2) fun r =>
      Option.bind (α := Int × Int) (bif !(decide (r < 0)) then some (w64 ((w64 ((IntKind.u64.wrap (w64 (s.1 + s.2))).fdiv (2 ^ 1))) + 1), s.2)
      else some (s.1, w64 ((IntKind.u64.wrap (w64 (s.1 + s.2))).fdiv (2 ^ 1)))) fun o =>
      some (.inl (o.1, o.2)))
      else some (.inr s.1)) gxFuel (a, m)) fun out =>
    Option.bind (whileM (σ := Int × List α) (ρ := List α) (fun s =>
      bif decide (s.1 > out) then (Option.bind (gxIdx s.2 (w64 (s.1 - 1))) fun y1 =>
      Option.bind (gxIdx s.2 s.1) fun y2 =>
      Option.bind (gxIdx s.2 s.1) fun y3 =>
      Option.bind (gxIdx (s.2.set s.1.toNat y1) (w64 (s.1 - 1))) fun y4 =>
      some (.inl (w64 (s.1 - 1), ((s.2.set s.1.toNat y1).set (w64 (s.1 - 1)).toNat y2))))
      else some (.inr s.2)) gxFuel (m, x)) fun out2 =>
    some out2)
    else (Option.bind (α := Int × Int) (bif decide (m > (w64 ((IntKind.u64.wrap (w64 (a + b))).fdiv (2 ^ 1)))) then some (w64 ((w64 ((w64 ((IntKind.u64.wrap (w64 (a + b))).fdiv (2 ^ 1))) + m)) - b), w64 ((IntKind.u64.wrap (w64 (a + b))).fdiv (2 ^ 1)))
    else some (a, m)) fun o1 =>
    Option.bind (whileM (σ := Int × Int) (ρ := Int) (fun s =>
      bif decide (s.1 < s.2) then (Option.bind (gxIdx x (w64 ((w64 ((w64 ((w64 ((IntKind.u64.wrap (w64 (a + b))).fdiv (2 ^ 1))) + m)) - 1)) - (w64 ((IntKind.u64.wrap (w64 (s.1 + s.2))).fdiv (2 ^ 1)))))) fun y1 =>
      Option.bind (gxIdx x (w64 ((IntKind.u64.wrap (w64 (s.1 + s.2))).fdiv (2 ^ 1)))) fun y2 =>
      Option.bind (cl y1 y2) fun r =>
      Option.bind (α := Int × Int) (bif !(decide (r < 0)) then some (w64 ((w64 ((IntKind.u64.wrap (w64 (s.1 + s.2))).fdiv (2 ^ 1))) + 1), s.2)
      else some (s.1, w64 ((IntKind.u64.wrap (w64 (s.1 + s.2))).fdiv (2 ^ 1)))) fun o =>
      some (.inl (o.1, o.2)))
      else some (.inr s.1)) gxFuel (o1.1, o1.2)) fun out =>
    Option.bind (α := Bool) (bif decide (out < m) then some (decide (m < (w64 ((w64 ((w64 ((IntKind.u64.wrap (w64 (a + b))).fdiv (2 ^ 1))) + m)) - out))))
    else some false) fun o2 =>
    Option.bind (α := List α) (bif o2 then (Option.bind (gRot x out m (w64 ((w64 ((w64 ((IntKind.u64.wrap (w64 (a + b))).fdiv (2 ^ 1))) + m)) - out))) fun r =>
    some r)
    else some x) fun o3 =>
    Option.bind (α := Bool) (bif decide (a < out) then some (decide (out < (w64 ((IntKind.u64.wrap (w64 (a + b))).fdiv (2 ^ 1)))))
    else some false) fun o4 =>
    Option.bind (α := List α) (bif o4 then (Option.bind (gSym cl n_ o3 a out (w64 ((IntKind.u64.wrap (w64 (a + b))).fdiv (2 ^ 1)))) fun r =>
    some r)
    else some o3) fun o5 =>
    Option.bind (α := Bool) (bif decide ((w64 ((IntKind.u64.wrap (w64 (a + b))).fdiv (2 ^ 1))) < (w64 ((w64 ((w64 ((IntKind.u64.wrap (w64 (a + b))).fdiv (2 ^ 1))) + m)) - out))) then some (decide ((w64 ((w64 ((w64 ((IntKind.u64.wrap (w64 (a + b))).fdiv (2 ^ 1))) + m)) - out)) < b))
    else some false) fun o6 =>
    Option.bind (α := List α) (bif o6 then (Option.bind (gSym cl n_ o5 (w64 ((IntKind.u64.wrap (w64 (a + b))).fdiv (2 ^ 1))) (w64 ((w64 ((w64 ((IntKind.u64.wrap (w64 (a + b))).fdiv (2 ^ 1))) + m)) - out)) b) fun r =>
    some r)
    else some o5) fun o7 =>
    some o7))
theorem ordered_get {α : Type} {key : α → Int} {A : List α} (h : ordered key A) {c d : Nat} (hc : c ≤ d) (hd : d < A.length) : key (A[c]'(by omega)) ≤ key A[d] := by
  by_cases e : c = d
  · subst e
    omega
  · exact (List.pairwise_iff_getElem.1 h) c d (by omega) hd (by omega)
/-- One before many. -/
theorem sym_one {α : Type} {cl : α → α → Option Int} {key : α → Int} (hcl : keyed cl key) (f : Nat) (P B S : List α) (x : α) (hB : ordered key B) (hb : (P ++ [x] ++ B ++ S).length ≤ 1099511627000) {a m b : Int} (ha : a = (P.length : Int)) (hm : m = ((P.length + 1 : Nat) : Int)) (hbb : b = ((P.length + 1 + B.length : Nat) : Int)) :
    ∃ C, gSym cl (f + 1) (P ++ [x] ++ B ++ S) a m b = some (P ++ C ++ S) ∧ ordered key C ∧ steq key C ([x] ++ B) ∧ C.length = 1 + B.length := by
  subst ha hm hbb
  simp only [List.length_append, List.length_cons, List.length_nil] at hb
  have e1 : (w64 (((P.length + 1 : Nat) : Int) - (P.length : Int)) == 1) = true := by
    rw [w64_id (by omega) (by omega), beq_iff_eq]
    omega
  have hx : gxIdx (P ++ [x] ++ B ++ S) (P.length : Int) = some x := by
    have : P ++ [x] ++ B ++ S = P ++ x :: (B ++ S) := by simp
    rw [this, idx_at rfl]
  have hy : ∀ t, (ht : t < B.length) → gxIdx (P ++ [x] ++ B ++ S) ((P.length + 1 + t : Nat) : Int) = some B[t] := fun t ht => by
    have := at_mid (P := P ++ [x]) (X := B) (S := S) ht (by simp; omega)
    simpa using this
  obtain ⟨k, hk, hk1, hk2, hk3, hk4⟩ := half_run (ρ := Int) (body := fun s : Int × Int =>
      bif decide (s.1 < s.2) then (Option.bind (gxIdx (P ++ [x] ++ B ++ S) (w64 ((IntKind.u64.wrap (w64 (s.1 + s.2))).fdiv (2 ^ 1)))) fun y1 =>
      Option.bind (gxIdx (P ++ [x] ++ B ++ S) (P.length : Int)) fun y2 =>
      Option.bind (cl y1 y2) fun r =>
      Option.bind (α := Int × Int) (bif decide (r < 0) then some (w64 ((w64 ((IntKind.u64.wrap (w64 (s.1 + s.2))).fdiv (2 ^ 1))) + 1), s.2)
      else some (s.1, w64 ((IntKind.u64.wrap (w64 (s.1 + s.2))).fdiv (2 ^ 1)))) fun o =>
      some (.inl (o.1, o.2)))
      else some (.inr s.1)) (fun k => (k : Int)) (fun c => ltK key (B.getD (c - (P.length + 1)) x) x) (P.length + 1) (P.length + 1 + B.length) (by omega) (fun c d h1 h2 h3 h4 => by
    simp only [ltK] at h4 ⊢
    rw [getD_at (show d - (P.length + 1) < B.length by omega), decide_eq_true_eq] at h4
    rw [getD_at (show c - (P.length + 1) < B.length by omega), decide_eq_true_eq]
    have := ordered_get hB (show c - (P.length + 1) ≤ d - (P.length + 1) by omega) (by omega)
    omega) (fun i j h1 h2 h3 => by
    have g0 : ((i : Int) < (j : Int)) := by omega
    have g1 := half_w (i := i) (j := j) (by omega)
    have g2 := hy ((i + j) / 2 - (P.length + 1)) (by omega)
    have g3 : P.length + 1 + ((i + j) / 2 - (P.length + 1)) = (i + j) / 2 := by omega
    rw [g3] at g2
    obtain ⟨q, hq, hq2⟩ := hcl (B[(i + j) / 2 - (P.length + 1)]'(by omega)) x
    simp only [g0, decide_true, cond_true, g1, g2, hx, hq, hq2, Option.bind_some, getD_at (show (i + j) / 2 - (P.length + 1) < B.length by omega), w64_succ (show (i + j) / 2 ≤ 4611686018427387904 by omega)]
    cases ltK key (B[(i + j) / 2 - (P.length + 1)]'(by omega)) x <;> rfl) (fun i h1 h2 => by
    simp only [Int.lt_irrefl, decide_false, cond_false]) (by omega)
  obtain ⟨t, rfl⟩ : ∃ t, k = P.length + 1 + t := ⟨k - (P.length + 1), by omega⟩
  have ht : t ≤ B.length := by omega
  have hlow : ∀ y ∈ B.take t, key y < key x := fun y hy => by
    obtain ⟨c, hc, rfl⟩ := List.getElem_of_mem hy
    have hc' : c < t := by simp at hc; omega
    have := hk3 (P.length + 1 + c) (by omega) (by omega)
    rw [show P.length + 1 + c - (P.length + 1) = c by omega, getD_at (show c < B.length by omega)] at this
    rw [List.getElem_take]
    simpa [ltK] using this
  have hhigh : ∀ y ∈ B.drop t, key x ≤ key y := fun y hy => by
    obtain ⟨c, hc, rfl⟩ := List.getElem_of_mem hy
    have hc' : t + c < B.length := by simp at hc; omega
    have := hk4 (P.length + 1 + (t + c)) (by omega) (by omega)
    rw [show P.length + 1 + (t + c) - (P.length + 1) = t + c by omega, getD_at hc'] at this
    rw [List.getElem_drop]
    simpa [ltK] using this
  have hBs : B.take t ++ B.drop t = B := List.take_append_drop _ _
  have hBo : ordered key (B.take t) ∧ ordered key (B.drop t) ∧ ∀ a ∈ B.take t, ∀ b ∈ B.drop t, key a ≤ key b := by
    rw [← hBs] at hB
    exact ordered_app.1 hB
  refine ⟨B.take t ++ x :: B.drop t, ?_, ?_, ?_, ?_⟩
  · rw [gSym, e1, cond_true, hk, Option.bind_some]
    have e2 : w64 (((P.length + 1 + t : Nat) : Int) - 1) = ((P.length + t : Nat) : Int) := by rw [w64_id (by omega) (by omega)]; omega
    rw [e2, while_run (fun s => (((P.length + s : Nat) : Int), (P ++ B.take s) ++ x :: (B.drop s ++ S))) (P ++ (B.take t ++ x :: B.drop t) ++ S) t (by simp) (by omega)]
    · rfl
    · intro s hs
      have g0 : (((P.length + s : Nat) : Int) < ((P.length + t : Nat) : Int)) := by omega
      have hsB : s < B.length := by omega
      obtain ⟨t1, t2, t3, _, t5, _⟩ := two_at (U := P ++ B.take s) (V := []) (W := B.drop (s + 1) ++ S) (x := x) (y := B[s]) (i := P.length + s) (j := P.length + s + 1) (by simp; omega) (by simp; omega)
      simp only [List.nil_append] at t1 t2 t3 t5
      obtain ⟨u, hu⟩ := t3 B[s]
      have hd : B.drop s ++ S = B[s] :: (B.drop (s + 1) ++ S) := by rw [List.drop_eq_getElem_cons hsB]; rfl
      have tB : B.take (s + 1) = B.take s ++ [B[s]] := by rw [List.take_add_one, List.getElem?_eq_getElem hsB]; rfl
      have hR : (P ++ B.take (s + 1)) ++ x :: (B.drop (s + 1) ++ S) = (P ++ B.take s) ++ B[s] :: x :: (B.drop (s + 1) ++ S) := by rw [tB]; simp only [List.append_assoc, List.cons_append, List.nil_append]
      simp only [g0, decide_true, cond_true, hd, w64_succ (show P.length + s ≤ 4611686018427387904 by omega), t1, t2, hu, t5, Option.bind_some, Int.toNat_natCast, ← Nat.add_assoc, hR]
    · simp only [Int.lt_irrefl, decide_false, cond_false]
      simp
  · rw [ordered_app]
    refine ⟨hBo.1, ?_, fun a ha b hb => ?_⟩
    · unfold ordered
      rw [List.pairwise_cons]
      exact ⟨hhigh, hBo.2.1⟩
    · have h1 := hlow a ha
      rcases List.mem_cons.1 hb with rfl | hb
      · omega
      · have := hhigh b hb
        omega
  · have h1 : steq key (B.take t ++ [x] ++ B.drop t) ([x] ++ B.take t ++ B.drop t) := steq_app (steq_swap fun a ha b hb => by
      rw [List.mem_singleton] at hb
      subst hb
      have := hlow a ha
      omega) (steq_refl key _)
    have h2 : B.take t ++ [x] ++ B.drop t = B.take t ++ x :: B.drop t := by simp
    have h3 : [x] ++ B.take t ++ B.drop t = [x] ++ B := by rw [List.append_assoc, hBs]
    rw [h2, h3] at h1
    exact h1
  · simp
    omega
/-- Many before one. -/
theorem sym_last {α : Type} {cl : α → α → Option Int} {key : α → Int} (hcl : keyed cl key) (f : Nat) (P A S : List α) (y : α) (hA : ordered key A) (hA1 : A.length ≠ 1) (hb : (P ++ A ++ [y] ++ S).length ≤ 1099511627000) {a m b : Int} (ha : a = (P.length : Int)) (hm : m = ((P.length + A.length : Nat) : Int)) (hbb : b = ((P.length + A.length + 1 : Nat) : Int)) :
    ∃ C, gSym cl (f + 1) (P ++ A ++ [y] ++ S) a m b = some (P ++ C ++ S) ∧ ordered key C ∧ steq key C (A ++ [y]) ∧ C.length = A.length + 1 := by
  subst ha hm hbb
  simp only [List.length_append, List.length_cons, List.length_nil] at hb
  have e1 : (w64 (((P.length + A.length : Nat) : Int) - (P.length : Int)) == 1) = false := by
    rw [w64_id (by omega) (by omega), beq_eq_false_iff_ne]
    omega
  have e2 : (w64 (((P.length + A.length + 1 : Nat) : Int) - ((P.length + A.length : Nat) : Int)) == 1) = true := by
    rw [w64_id (by omega) (by omega), beq_iff_eq]
    omega
  have hx : gxIdx (P ++ A ++ [y] ++ S) ((P.length + A.length : Nat) : Int) = some y := by
    have : P ++ A ++ [y] ++ S = (P ++ A) ++ y :: S := by simp
    rw [this, idx_at (by simp)]
  have hy : ∀ t, (ht : t < A.length) → gxIdx (P ++ A ++ [y] ++ S) ((P.length + t : Nat) : Int) = some A[t] := fun t ht => by
    have := at_mid (P := P) (X := A) (S := [y] ++ S) ht (by omega)
    rw [← List.append_assoc] at this
    exact this
  obtain ⟨k, hk, hk1, hk2, hk3, hk4⟩ := half_run (ρ := Int) (body := fun s : Int × Int =>
      bif decide (s.1 < s.2) then (Option.bind (gxIdx (P ++ A ++ [y] ++ S) ((P.length + A.length : Nat) : Int)) fun y1 =>
      Option.bind (gxIdx (P ++ A ++ [y] ++ S) (w64 ((IntKind.u64.wrap (w64 (s.1 + s.2))).fdiv (2 ^ 1)))) fun y2 =>
      Option.bind (cl y1 y2) fun r =>
      Option.bind (α := Int × Int) (bif !(decide (r < 0)) then some (w64 ((w64 ((IntKind.u64.wrap (w64 (s.1 + s.2))).fdiv (2 ^ 1))) + 1), s.2)
      else some (s.1, w64 ((IntKind.u64.wrap (w64 (s.1 + s.2))).fdiv (2 ^ 1)))) fun o =>
      some (.inl (o.1, o.2)))
      else some (.inr s.1)) (fun k => (k : Int)) (fun c => !(ltK key y (A.getD (c - P.length) y))) P.length (P.length + A.length) (by omega) (fun c d h1 h2 h3 h4 => by
    simp only [ltK] at h4 ⊢
    rw [getD_at (show d - P.length < A.length by omega), Bool.not_eq_true', decide_eq_false_iff_not] at h4
    rw [getD_at (show c - P.length < A.length by omega), Bool.not_eq_true', decide_eq_false_iff_not]
    have := ordered_get hA (show c - P.length ≤ d - P.length by omega) (by omega)
    omega) (fun i j h1 h2 h3 => by
    have g0 : ((i : Int) < (j : Int)) := by omega
    have g1 := half_w (i := i) (j := j) (by omega)
    have g2 := hy ((i + j) / 2 - P.length) (by omega)
    have g3 : P.length + ((i + j) / 2 - P.length) = (i + j) / 2 := by omega
    rw [g3] at g2
    obtain ⟨q, hq, hq2⟩ := hcl y (A[(i + j) / 2 - P.length]'(by omega))
    simp only [g0, decide_true, cond_true, g1, g2, hx, hq, hq2, Option.bind_some, getD_at (show (i + j) / 2 - P.length < A.length by omega), w64_succ (show (i + j) / 2 ≤ 4611686018427387904 by omega)]
    cases ltK key y (A[(i + j) / 2 - P.length]'(by omega)) <;> rfl) (fun i h1 h2 => by
    simp only [Int.lt_irrefl, decide_false, cond_false]) (by omega)
  obtain ⟨t, rfl⟩ : ∃ t, k = P.length + t := ⟨k - P.length, by omega⟩
  have ht : t ≤ A.length := by omega
  have hlow : ∀ z ∈ A.take t, key z ≤ key y := fun z hz => by
    obtain ⟨c, hc, rfl⟩ := List.getElem_of_mem hz
    have hc' : c < t := by simp at hc; omega
    have := hk3 (P.length + c) (by omega) (by omega)
    rw [show P.length + c - P.length = c by omega, getD_at (show c < A.length by omega)] at this
    rw [List.getElem_take]
    simpa [ltK] using this
  have hhigh : ∀ z ∈ A.drop t, key y < key z := fun z hz => by
    obtain ⟨c, hc, rfl⟩ := List.getElem_of_mem hz
    have hc' : t + c < A.length := by simp at hc; omega
    have := hk4 (P.length + (t + c)) (by omega) (by omega)
    rw [show P.length + (t + c) - P.length = t + c by omega, getD_at hc'] at this
    rw [List.getElem_drop]
    simpa [ltK] using this
  have hAs : A.take t ++ A.drop t = A := List.take_append_drop _ _
  have hAo : ordered key (A.take t) ∧ ordered key (A.drop t) ∧ ∀ a ∈ A.take t, ∀ b ∈ A.drop t, key a ≤ key b := by
    rw [← hAs] at hA
    exact ordered_app.1 hA
  refine ⟨A.take t ++ y :: A.drop t, ?_, ?_, ?_, ?_⟩
  · rw [gSym, e1, cond_false, e2, cond_true, hk, Option.bind_some]
    rw [while_run (fun s => (((P.length + (A.length - s) : Nat) : Int), (P ++ A.take (A.length - s)) ++ y :: (A.drop (A.length - s) ++ S))) (P ++ (A.take t ++ y :: A.drop t) ++ S) (A.length - t) (by simp) (by omega)]
    · rfl
    · intro s hs
      obtain ⟨c, hc⟩ : ∃ c, A.length - s = c + 1 := ⟨A.length - s - 1, by omega⟩
      have hc2 : A.length - (s + 1) = c := by omega
      have g0 : (((P.length + (c + 1) : Nat) : Int) > ((P.length + t : Nat) : Int)) := by omega
      have hcA : c < A.length := by omega
      obtain ⟨t1, t2, _, t4, _, t6⟩ := two_at (U := P ++ A.take c) (V := []) (W := A.drop (c + 1) ++ S) (x := A[c]) (y := y) (i := P.length + c) (j := P.length + (c + 1)) (by simp; omega) (by simp; omega)
      simp only [List.nil_append] at t1 t2 t4 t6
      obtain ⟨u, hu⟩ := t4 A[c]
      have hd : A.drop c ++ S = A[c] :: (A.drop (c + 1) ++ S) := by rw [List.drop_eq_getElem_cons hcA]; rfl
      have tA : A.take (c + 1) = A.take c ++ [A[c]] := by rw [List.take_add_one, List.getElem?_eq_getElem hcA]; rfl
      have hL : (P ++ A.take (c + 1)) ++ y :: (A.drop (c + 1) ++ S) = (P ++ A.take c) ++ A[c] :: y :: (A.drop (c + 1) ++ S) := by rw [tA]; simp only [List.append_assoc, List.cons_append, List.nil_append]
      have g1 : w64 (((P.length + (c + 1) : Nat) : Int) - 1) = ((P.length + c : Nat) : Int) := by rw [w64_id (by omega) (by omega)]; omega
      rw [hc, hc2]
      simp only [g0, decide_true, cond_true, g1, hL, t1, t2, hu, t6, hd, Option.bind_some, Int.toNat_natCast]
    · have g : A.length - (A.length - t) = t := by omega
      have g0 : ¬ (((P.length + t : Nat) : Int) > ((P.length + t : Nat) : Int)) := by omega
      rw [g]
      simp only [g0, decide_false, cond_false]
      simp
  · rw [ordered_app]
    refine ⟨hAo.1, ?_, fun a ha b hb => ?_⟩
    · unfold ordered
      rw [List.pairwise_cons]
      exact ⟨fun z hz => by have := hhigh z hz; omega, hAo.2.1⟩
    · have h1 := hlow a ha
      rcases List.mem_cons.1 hb with rfl | hb
      · omega
      · have := hhigh b hb
        omega
  · have h1 : steq key (A.take t ++ ([y] ++ A.drop t)) (A.take t ++ (A.drop t ++ [y])) := steq_app (steq_refl key _) (steq_swap fun a ha b hb => by
      rw [List.mem_singleton] at ha
      subst ha
      have := hhigh b hb
      omega)
    have h2 : A.take t ++ ([y] ++ A.drop t) = A.take t ++ y :: A.drop t := by simp
    have h3 : A.take t ++ (A.drop t ++ [y]) = A ++ [y] := by rw [← List.append_assoc, hAs]
    rw [h2, h3] at h1
    exact h1
  · simp
    omega
/-! ### Where two runs are cut -/
theorem sym_cut {α : Type} {key : α → Int} {A B : List α} (hA : ordered key A) (hB : ordered key B) {h lo hi t : Nat} (hh : h = (A.length + B.length) / 2)
    (hlo : lo = bif decide (A.length > h) then h - B.length else 0) (hhi : hi = bif decide (A.length > h) then h else A.length) (h1 : lo ≤ t) (h2 : t ≤ hi)
    (hlow : ∀ c, lo ≤ c → c < t → ∀ (ha : c < A.length) (hb : h - 1 - c < B.length), key A[c] ≤ key B[h - 1 - c]) (hhigh : ∀ c, t ≤ c → c < hi → ∀ (ha : c < A.length) (hb : h - 1 - c < B.length), key B[h - 1 - c] < key A[c]) :
    (∀ x ∈ A.take t, ∀ y ∈ B.drop (h - t), key x ≤ key y) ∧ (∀ y ∈ B.take (h - t), ∀ x ∈ A.drop t, key y < key x) := by
  have hcase : (A.length > h ∧ lo = h - B.length ∧ hi = h) ∨ (A.length ≤ h ∧ lo = 0 ∧ hi = A.length) := by
    by_cases hc : A.length > h
    · simp only [hc, decide_true, cond_true] at hlo hhi
      exact Or.inl ⟨hc, hlo, hhi⟩
    · simp only [hc, decide_false, cond_false] at hlo hhi
      exact Or.inr ⟨by omega, hlo, hhi⟩
  constructor
  · intro x hx y hy
    obtain ⟨c, hc, rfl⟩ := List.getElem_of_mem hx
    obtain ⟨e, he, rfl⟩ := List.getElem_of_mem hy
    have hc' : c < t := by simp at hc; omega
    have hcA : c < A.length := by simp at hc; omega
    have he' : h - t + e < B.length := by simp at he; omega
    rw [List.getElem_take, List.getElem_drop]
    have hlt : lo ≤ t - 1 := by omega
    have h3 := hlow (t - 1) hlt (by omega) (by omega) (by omega)
    have h4 := ordered_get hA (show c ≤ t - 1 by omega) (by omega)
    have h5 := ordered_get hB (show h - 1 - (t - 1) ≤ h - t + e by omega) he'
    omega
  · intro y hy x hx
    obtain ⟨c, hc, rfl⟩ := List.getElem_of_mem hx
    obtain ⟨e, he, rfl⟩ := List.getElem_of_mem hy
    have hcA : t + c < A.length := by simp at hc; omega
    have he' : e < h - t := by simp at he; omega
    have heB : e < B.length := by simp at he; omega
    rw [List.getElem_take, List.getElem_drop]
    have hlt : t < hi := by omega
    have h3 := hhigh t (Nat.le_refl _) hlt (by omega) (by omega)
    have h4 := ordered_get hA (show t ≤ t + c by omega) hcA
    have h5 := ordered_get hB (show e ≤ h - 1 - t by omega) (by omega)
    omega
theorem sym_law {α : Type} {cl : α → α → Option Int} {key : α → Int} (hcl : keyed cl key) : ∀ (n fuel : Nat) (P A B S : List α), A.length + B.length ≤ n → n < fuel → A ≠ [] → B ≠ [] → ordered key A → ordered key B → (P ++ A ++ B ++ S).length ≤ 1099511627000 → ∀ {a m b : Int}, a = (P.length : Int) → m = ((P.length + A.length : Nat) : Int) → b = ((P.length + A.length + B.length : Nat) : Int) →
    ∃ C, gSym cl fuel (P ++ A ++ B ++ S) a m b = some (P ++ C ++ S) ∧ ordered key C ∧ steq key C (A ++ B) ∧ C.length = A.length + B.length := by
  intro n
  induction n with
  | zero =>
    intro fuel P A B S h1 h2 hA
    exact absurd (List.length_eq_zero_iff.1 (by omega)) hA
  | succ n ih =>
    intro fuel P A B S hn hf hA hB oA oB hb a m b ha hm hbb
    obtain ⟨f, rfl⟩ : ∃ f, fuel = f + 1 := ⟨fuel - 1, by omega⟩
    have lA : 1 ≤ A.length := List.length_pos_iff.2 hA
    have lB : 1 ≤ B.length := List.length_pos_iff.2 hB
    by_cases h1 : A.length = 1
    · obtain ⟨x, rfl⟩ := List.length_eq_one_iff.1 h1
      exact sym_one hcl f P B S x oB hb ha hm hbb
    by_cases h2 : B.length = 1
    · obtain ⟨y, rfl⟩ := List.length_eq_one_iff.1 h2
      exact sym_last hcl f P A S y oA h1 hb ha hm hbb
    subst ha hm hbb
    have hb' := hb
    simp only [List.length_append] at hb'
    have e1 : (w64 (((P.length + A.length : Nat) : Int) - (P.length : Int)) == 1) = false := by
      rw [w64_id (by omega) (by omega), beq_eq_false_iff_ne]
      omega
    have e2 : (w64 (((P.length + A.length + B.length : Nat) : Int) - ((P.length + A.length : Nat) : Int)) == 1) = false := by
      rw [w64_id (by omega) (by omega), beq_eq_false_iff_ne]
      omega
    obtain ⟨h, hh⟩ : ∃ h, h = (A.length + B.length) / 2 := ⟨_, rfl⟩
    have eM : w64 ((IntKind.u64.wrap (w64 ((P.length : Int) + ((P.length + A.length + B.length : Nat) : Int)))).fdiv (2 ^ 1)) = ((P.length + h : Nat) : Int) := by
      rw [half_w (by omega)]
      congr 1
      omega
    have eN : w64 (((P.length + h : Nat) : Int) + ((P.length + A.length : Nat) : Int)) = ((P.length + h + P.length + A.length : Nat) : Int) := by rw [w64_id (by omega) (by omega)]; omega
    obtain ⟨lo, hlo⟩ : ∃ lo, lo = bif decide (A.length > h) then h - B.length else 0 := ⟨_, rfl⟩
    obtain ⟨hi, hhi⟩ : ∃ hi, hi = bif decide (A.length > h) then h else A.length := ⟨_, rfl⟩
    have hcase : (A.length > h ∧ lo = h - B.length ∧ hi = h) ∨ (A.length ≤ h ∧ lo = 0 ∧ hi = A.length) := by
      by_cases hc : A.length > h
      · refine Or.inl ⟨hc, ?_, ?_⟩
        · rw [hlo]; simp only [hc, decide_true, cond_true]
        · rw [hhi]; simp only [hc, decide_true, cond_true]
      · refine Or.inr ⟨by omega, ?_, ?_⟩
        · rw [hlo]; simp only [hc, decide_false, cond_false]
        · rw [hhi]; simp only [hc, decide_false, cond_false]
    have eO : (bif decide (((P.length + A.length : Nat) : Int) > ((P.length + h : Nat) : Int)) then some (w64 (((P.length + h + P.length + A.length : Nat) : Int) - ((P.length + A.length + B.length : Nat) : Int)), ((P.length + h : Nat) : Int)) else some ((P.length : Int), ((P.length + A.length : Nat) : Int))) = some (((P.length + lo : Nat) : Int), ((P.length + hi : Nat) : Int)) := by
      rcases hcase with ⟨c1, c2, c3⟩ | ⟨c1, c2, c3⟩
      · have g : (((P.length + A.length : Nat) : Int) > ((P.length + h : Nat) : Int)) := by omega
        have g2 : w64 (((P.length + h + P.length + A.length : Nat) : Int) - ((P.length + A.length + B.length : Nat) : Int)) = ((P.length + lo : Nat) : Int) := by rw [w64_id (by omega) (by omega)]; omega
        simp only [g, decide_true, cond_true, g2, c3]
      · have g : ¬ (((P.length + A.length : Nat) : Int) > ((P.length + h : Nat) : Int)) := by omega
        simp only [g, decide_false, cond_false, c2, c3, Nat.add_zero]
    have getA : ∀ t, (ht : t < A.length) → gxIdx (P ++ A ++ B ++ S) ((P.length + t : Nat) : Int) = some A[t] := fun t ht => by
      have := at_mid (P := P) (X := A) (S := B ++ S) ht (by omega)
      rw [← List.append_assoc] at this
      exact this
    have getB : ∀ t, (ht : t < B.length) → gxIdx (P ++ A ++ B ++ S) ((P.length + A.length + t : Nat) : Int) = some B[t] := fun t ht => by
      have := at_mid (P := P ++ A) (X := B) (S := S) ht (by simp; omega)
      simpa using this
    have eP : w64 (((P.length + h + P.length + A.length : Nat) : Int) - 1) = ((P.length + h + P.length + A.length - 1 : Nat) : Int) := by rw [w64_id (by omega) (by omega)]; omega
    obtain ⟨k, hk, hk1, hk2, hk3, hk4⟩ := half_run (ρ := Int) (body := fun s : Int × Int =>
        bif decide (s.1 < s.2) then (Option.bind (gxIdx (P ++ A ++ B ++ S) (w64 (((P.length + h + P.length + A.length - 1 : Nat) : Int) - (w64 ((IntKind.u64.wrap (w64 (s.1 + s.2))).fdiv (2 ^ 1)))))) fun y1 =>
        Option.bind (gxIdx (P ++ A ++ B ++ S) (w64 ((IntKind.u64.wrap (w64 (s.1 + s.2))).fdiv (2 ^ 1)))) fun y2 =>
        Option.bind (cl y1 y2) fun r =>
        Option.bind (α := Int × Int) (bif !(decide (r < 0)) then some (w64 ((w64 ((IntKind.u64.wrap (w64 (s.1 + s.2))).fdiv (2 ^ 1))) + 1), s.2)
        else some (s.1, w64 ((IntKind.u64.wrap (w64 (s.1 + s.2))).fdiv (2 ^ 1)))) fun o =>
        some (.inl (o.1, o.2)))
        else some (.inr s.1)) (fun k => (k : Int)) (fun c => !(decide ((B.map key).getD (h - 1 - (c - P.length)) 0 < (A.map key).getD (c - P.length) 0))) (P.length + lo) (P.length + hi) (by omega) (fun c d q1 q2 q3 q4 => by
      have m1 : ∀ (X : List α) (i : Nat), (hi : i < X.length) → (X.map key).getD i 0 = key X[i] := fun X i hi => by rw [getD_at (by simpa using hi), List.getElem_map]
      rw [m1 B _ (by omega), m1 A _ (by omega), Bool.not_eq_true', decide_eq_false_iff_not] at q4 ⊢
      have g1 := ordered_get oA (show c - P.length ≤ d - P.length by omega) (by omega)
      have g2 := ordered_get oB (show h - 1 - (d - P.length) ≤ h - 1 - (c - P.length) by omega) (by omega)
      omega) (fun i j q1 q2 q3 => by
      have m1 : ∀ (X : List α) (i : Nat), (hi : i < X.length) → (X.map key).getD i 0 = key X[i] := fun X i hi => by rw [getD_at (by simpa using hi), List.getElem_map]
      have g0 : ((i : Int) < (j : Int)) := by omega
      have g1 := half_w (i := i) (j := j) (by omega)
      obtain ⟨c, hc⟩ : ∃ c, (i + j) / 2 = P.length + c := ⟨(i + j) / 2 - P.length, by omega⟩
      have hcA : c < A.length := by omega
      have hcB : h - 1 - c < B.length := by omega
      have g2 : w64 (((P.length + h + P.length + A.length - 1 : Nat) : Int) - ((P.length + c : Nat) : Int)) = ((P.length + A.length + (h - 1 - c) : Nat) : Int) := by rw [w64_id (by omega) (by omega)]; omega
      have g3 := getA c hcA
      have g4 := getB (h - 1 - c) hcB
      obtain ⟨q, hq, hq2⟩ := hcl B[h - 1 - c] A[c]
      unfold ltK at hq2
      have g5 : P.length + c - P.length = c := by omega
      rw [hc] at g1 ⊢
      simp only [g0, decide_true, cond_true, g1, g2, g3, g4, hq, hq2, Option.bind_some, g5, m1 A c hcA, m1 B (h - 1 - c) hcB, w64_succ (show P.length + c ≤ 4611686018427387904 by omega)]
      cases decide (key B[h - 1 - c] < key A[c]) <;> rfl) (fun i _ _ => by
      simp only [Int.lt_irrefl, decide_false, cond_false]) (by omega)
    obtain ⟨t, rfl⟩ : ∃ t, k = P.length + t := ⟨k - P.length, by omega⟩
    have htA : t ≤ A.length := by omega
    have hth : t ≤ h := by omega
    have hhB : h - t ≤ B.length := by omega
    have m1 : ∀ (X : List α) (i : Nat), (hi : i < X.length) → (X.map key).getD i 0 = key X[i] := fun X i hi => by rw [getD_at (by simpa using hi), List.getElem_map]
    obtain ⟨cut1, cut2⟩ := sym_cut (t := t) oA oB hh hlo hhi (by omega) (by omega) (fun c q1 q2 qa qb => by
      have := hk3 (P.length + c) (by omega) (by omega)
      rw [show P.length + c - P.length = c by omega, m1 A c qa, m1 B _ qb, Bool.not_eq_true', decide_eq_false_iff_not] at this
      omega) (fun c q1 q2 qa qb => by
      have := hk4 (P.length + c) (by omega) (by omega)
      rw [show P.length + c - P.length = c by omega, m1 A c qa, m1 B _ qb, Bool.not_eq_false', decide_eq_true_eq] at this
      exact this)
    obtain ⟨A1, hA1⟩ : ∃ A1, A1 = A.take t := ⟨_, rfl⟩
    obtain ⟨A2, hA2⟩ : ∃ A2, A2 = A.drop t := ⟨_, rfl⟩
    obtain ⟨B1, hB1⟩ : ∃ B1, B1 = B.take (h - t) := ⟨_, rfl⟩
    obtain ⟨B2, hB2⟩ : ∃ B2, B2 = B.drop (h - t) := ⟨_, rfl⟩
    have sA : A1 ++ A2 = A := by rw [hA1, hA2]; exact List.take_append_drop _ _
    have sB : B1 ++ B2 = B := by rw [hB1, hB2]; exact List.take_append_drop _ _
    have lA1 : A1.length = t := by rw [hA1]; simp; omega
    have lA2 : A2.length = A.length - t := by rw [hA2]; simp
    have lB1 : B1.length = h - t := by rw [hB1]; simp; omega
    have lB2 : B2.length = B.length - (h - t) := by rw [hB2]; simp
    rw [← hA1, ← hB2] at cut1
    rw [← hB1, ← hA2] at cut2
    have oA' : ordered key A1 ∧ ordered key A2 ∧ ∀ x ∈ A1, ∀ y ∈ A2, key x ≤ key y := by rw [← sA] at oA; exact ordered_app.1 oA
    have oB' : ordered key B1 ∧ ordered key B2 ∧ ∀ x ∈ B1, ∀ y ∈ B2, key x ≤ key y := by rw [← sB] at oB; exact ordered_app.1 oB
    have eEnd : w64 (((P.length + h + P.length + A.length : Nat) : Int) - ((P.length + t : Nat) : Int)) = ((P.length + h + A.length - t : Nat) : Int) := by rw [w64_id (by omega) (by omega)]; omega
    have hL : P ++ A ++ B ++ S = P ++ A1 ++ A2 ++ B1 ++ (B2 ++ S) := by rw [← sA, ← sB]; simp
    have hrot : (Option.bind (α := Bool) (bif decide (((P.length + t : Nat) : Int) < ((P.length + A.length : Nat) : Int)) then some (decide (((P.length + A.length : Nat) : Int) < ((P.length + h + A.length - t : Nat) : Int))) else some false) fun o2 =>
        (bif o2 then (Option.bind (gRot (P ++ A ++ B ++ S) ((P.length + t : Nat) : Int) ((P.length + A.length : Nat) : Int) ((P.length + h + A.length - t : Nat) : Int)) fun r => some r) else some (P ++ A ++ B ++ S))) = some (P ++ A1 ++ B1 ++ (A2 ++ B2 ++ S)) := by
      by_cases c1 : t < A.length
      · by_cases c2 : t < h
        · have g1 : (((P.length + t : Nat) : Int) < ((P.length + A.length : Nat) : Int)) := by omega
          have g2 : (((P.length + A.length : Nat) : Int) < ((P.length + h + A.length - t : Nat) : Int)) := by omega
          have hr := rot_law (P ++ A1) A2 B1 (B2 ++ S) (by intro e; rw [e] at lA2; simp at lA2; omega) (by intro e; rw [e] at lB1; simp at lB1; omega) (by rw [← hL]; omega) (a := ((P.length + t : Nat) : Int)) (m := ((P.length + A.length : Nat) : Int)) (b := ((P.length + h + A.length - t : Nat) : Int)) (by rw [List.length_append, lA1]) (by rw [List.length_append, lA1, lA2]; omega) (by rw [List.length_append, lA1, lA2, lB1]; omega)
          have e : P ++ A1 ++ B1 ++ A2 ++ (B2 ++ S) = P ++ A1 ++ B1 ++ (A2 ++ B2 ++ S) := by simp
          rw [← hL, e] at hr
          simp only [g1, g2, decide_true, cond_true, Option.bind_some, hr]
        · have g2 : ¬ (((P.length + A.length : Nat) : Int) < ((P.length + h + A.length - t : Nat) : Int)) := by omega
          have hz : B1 = [] := List.length_eq_zero_iff.1 (by omega)
          have e : P ++ A ++ B ++ S = P ++ A1 ++ B1 ++ (A2 ++ B2 ++ S) := by rw [hL, hz]; simp
          rw [e]
          simp only [g2, decide_false]
          cases decide (((P.length + t : Nat) : Int) < ((P.length + A.length : Nat) : Int)) <;> rfl
      · have g1 : ¬ (((P.length + t : Nat) : Int) < ((P.length + A.length : Nat) : Int)) := by omega
        have hz : A2 = [] := List.length_eq_zero_iff.1 (by omega)
        have e : P ++ A ++ B ++ S = P ++ A1 ++ B1 ++ (A2 ++ B2 ++ S) := by rw [hL, hz]; simp
        rw [e]
        simp only [g1, decide_false, cond_false, Option.bind_some]
    have hleft : ∃ C1, (Option.bind (α := Bool) (bif decide ((P.length : Int) < ((P.length + t : Nat) : Int)) then some (decide (((P.length + t : Nat) : Int) < ((P.length + h : Nat) : Int))) else some false) fun o4 =>
        (bif o4 then (Option.bind (gSym cl f (P ++ A1 ++ B1 ++ (A2 ++ B2 ++ S)) (P.length : Int) ((P.length + t : Nat) : Int) ((P.length + h : Nat) : Int)) fun r => some r) else some (P ++ A1 ++ B1 ++ (A2 ++ B2 ++ S)))) = some (P ++ C1 ++ (A2 ++ B2 ++ S)) ∧ ordered key C1 ∧ steq key C1 (A1 ++ B1) ∧ C1.length = h := by
      by_cases c1 : 0 < t
      · by_cases c2 : t < h
        · have g1 : ((P.length : Int) < ((P.length + t : Nat) : Int)) := by omega
          have g2 : (((P.length + t : Nat) : Int) < ((P.length + h : Nat) : Int)) := by omega
          obtain ⟨C, r1, r2, r3, r4⟩ := ih f P A1 B1 (A2 ++ B2 ++ S) (by omega) (by omega) (by intro e; rw [e] at lA1; simp at lA1; omega) (by intro e; rw [e] at lB1; simp at lB1; omega) oA'.1 oB'.1 (by simp only [List.length_append, lA1, lA2, lB1, lB2]; omega) (a := (P.length : Int)) (m := ((P.length + t : Nat) : Int)) (b := ((P.length + h : Nat) : Int)) rfl (by rw [lA1]) (by rw [lA1, lB1]; omega)
          refine ⟨C, ?_, r2, r3, by omega⟩
          simp only [g1, g2, decide_true, cond_true, Option.bind_some, r1]
        · have g2 : ¬ (((P.length + t : Nat) : Int) < ((P.length + h : Nat) : Int)) := by omega
          have hz : B1 = [] := List.length_eq_zero_iff.1 (by omega)
          refine ⟨A1, ?_, oA'.1, by rw [hz, List.append_nil]; exact steq_refl _ _, by omega⟩
          have e : P ++ A1 ++ B1 ++ (A2 ++ B2 ++ S) = P ++ A1 ++ (A2 ++ B2 ++ S) := by rw [hz]; simp
          rw [e]
          simp only [g2, decide_false]
          cases decide ((P.length : Int) < ((P.length + t : Nat) : Int)) <;> rfl
      · have g1 : ¬ ((P.length : Int) < ((P.length + t : Nat) : Int)) := by omega
        have hz : A1 = [] := List.length_eq_zero_iff.1 (by omega)
        refine ⟨B1, ?_, oB'.1, by rw [hz, List.nil_append]; exact steq_refl _ _, by omega⟩
        have e : P ++ A1 ++ B1 ++ (A2 ++ B2 ++ S) = P ++ B1 ++ (A2 ++ B2 ++ S) := by rw [hz]; simp
        rw [e]
        simp only [g1, decide_false, cond_false, Option.bind_some]
    obtain ⟨C1, hC1, oC1, qC1, lC1⟩ := hleft
    have hright : ∃ C2, (Option.bind (α := Bool) (bif decide (((P.length + h : Nat) : Int) < ((P.length + h + A.length - t : Nat) : Int)) then some (decide (((P.length + h + A.length - t : Nat) : Int) < ((P.length + A.length + B.length : Nat) : Int))) else some false) fun o6 =>
        (bif o6 then (Option.bind (gSym cl f (P ++ C1 ++ (A2 ++ B2 ++ S)) ((P.length + h : Nat) : Int) ((P.length + h + A.length - t : Nat) : Int) ((P.length + A.length + B.length : Nat) : Int)) fun r => some r) else some (P ++ C1 ++ (A2 ++ B2 ++ S)))) = some (P ++ (C1 ++ C2) ++ S) ∧ ordered key C2 ∧ steq key C2 (A2 ++ B2) ∧ C2.length = A2.length + B2.length := by
      by_cases c1 : t < A.length
      · by_cases c2 : h - t < B.length
        · have g1 : (((P.length + h : Nat) : Int) < ((P.length + h + A.length - t : Nat) : Int)) := by omega
          have g2 : (((P.length + h + A.length - t : Nat) : Int) < ((P.length + A.length + B.length : Nat) : Int)) := by omega
          obtain ⟨C, r1, r2, r3, r4⟩ := ih f (P ++ C1) A2 B2 S (by omega) (by omega) (by intro e; rw [e] at lA2; simp at lA2; omega) (by intro e; rw [e] at lB2; simp at lB2; omega) oA'.2.1 oB'.2.1 (by simp only [List.length_append, lC1, lA2, lB2]; omega) (a := ((P.length + h : Nat) : Int)) (m := ((P.length + h + A.length - t : Nat) : Int)) (b := ((P.length + A.length + B.length : Nat) : Int)) (by rw [List.length_append, lC1]) (by rw [List.length_append, lC1, lA2]; omega) (by rw [List.length_append, lC1, lA2, lB2]; omega)
          refine ⟨C, ?_, r2, r3, r4⟩
          have e : P ++ C1 ++ (A2 ++ B2 ++ S) = P ++ C1 ++ A2 ++ B2 ++ S := by simp
          simp only [g1, g2, decide_true, cond_true, Option.bind_some]
          rw [e, r1]
          simp
        · have g2 : ¬ (((P.length + h + A.length - t : Nat) : Int) < ((P.length + A.length + B.length : Nat) : Int)) := by omega
          have hz : B2 = [] := List.length_eq_zero_iff.1 (by omega)
          refine ⟨A2, ?_, oA'.2.1, by rw [hz, List.append_nil]; exact steq_refl _ _, by rw [hz]; simp⟩
          have e : P ++ C1 ++ (A2 ++ B2 ++ S) = P ++ (C1 ++ A2) ++ S := by rw [hz]; simp
          rw [e]
          simp only [g2, decide_false]
          cases decide (((P.length + h : Nat) : Int) < ((P.length + h + A.length - t : Nat) : Int)) <;> rfl
      · have g1 : ¬ (((P.length + h : Nat) : Int) < ((P.length + h + A.length - t : Nat) : Int)) := by omega
        have hz : A2 = [] := List.length_eq_zero_iff.1 (by omega)
        refine ⟨B2, ?_, oB'.2.1, by rw [hz, List.nil_append]; exact steq_refl _ _, by rw [hz]; simp⟩
        have e : P ++ C1 ++ (A2 ++ B2 ++ S) = P ++ (C1 ++ B2) ++ S := by rw [hz]; simp
        rw [e]
        simp only [g1, decide_false, cond_false, Option.bind_some]
    obtain ⟨C2, hC2, oC2, qC2, lC2⟩ := hright
    refine ⟨C1 ++ C2, ?_, ?_, ?_, ?_⟩
    · have bind_split : ∀ {X : Option Bool} {F : Bool → Option (List α)} {G : List α → Option (List α)} {r : List α}, (Option.bind X F) = some r → (Option.bind X fun o => Option.bind (F o) G) = G r := fun {X F G r} hXF => by
        rw [← Option.bind_assoc, hXF, Option.bind_some]
      rw [gSym, e1, cond_false, e2, cond_false]
      simp only [eM, eN, eO, eP, Option.bind_some]
      rw [hk, Option.bind_some]
      simp only [eEnd]
      rw [bind_split hrot, bind_split hC1, bind_split hC2]
    · rw [ordered_app]
      refine ⟨oC1, oC2, fun x hx y hy => ?_⟩
      have hx' := steq_mem qC1 hx
      have hy' := steq_mem qC2 hy
      rcases List.mem_append.1 hx' with hx' | hx' <;> rcases List.mem_append.1 hy' with hy' | hy'
      · exact oA'.2.2 x hx' y hy'
      · exact cut1 x hx' y hy'
      · have := cut2 x hx' y hy'
        omega
      · exact oB'.2.2 x hx' y hy'
    · have s1 := steq_app qC1 qC2
      have s2 : steq key ((A1 ++ B1) ++ (A2 ++ B2)) ((A1 ++ A2) ++ (B1 ++ B2)) := by
        have s3 : steq key (A1 ++ (B1 ++ A2) ++ B2) (A1 ++ (A2 ++ B1) ++ B2) := steq_app (steq_app (steq_refl key A1) (steq_swap fun x hx y hy => by have := cut2 x hx y hy; omega)) (steq_refl key B2)
        have g1 : A1 ++ (B1 ++ A2) ++ B2 = (A1 ++ B1) ++ (A2 ++ B2) := by simp
        have g2 : A1 ++ (A2 ++ B1) ++ B2 = (A1 ++ A2) ++ (B1 ++ B2) := by simp
        rwa [g1, g2] at s3
      rw [sA, sB] at s2
      exact steq_trans s1 s2
    · rw [List.length_append, lC1, lC2]
      omega
/-! ### The whole of it -/
def gStB1 {α : Type} (cl : α → α → Option Int) (n : Int) : Int × Int × List α → Option ((Int × Int × List α) ⊕ (Int × List α)) := fun s =>
    bif decide (s.2.1 ≤ n) then (Option.bind (gIns cl s.2.2 s.1 s.2.1) fun r =>
    some (.inl (s.2.1, w64 (s.2.1 + 20), r)))
    else some (.inr (s.1, s.2.2))
def gStB2 {α : Type} (cl : α → α → Option Int) (n s : Int) : Int × Int × List α → Option ((Int × Int × List α) ⊕ (Int × List α)) := fun t =>
      bif decide (t.2.1 ≤ n) then (Option.bind (gSym cl gxFuel t.2.2 t.1 (w64 (t.1 + s)) t.2.1) fun r =>
      some (.inl (t.2.1, w64 (t.2.1 + (w64 (2 * s))), r)))
      else some (.inr (t.1, t.2.2))
def gStB3 {α : Type} (cl : α → α → Option Int) (n : Int) : Int × List α → Option ((Int × List α) ⊕ List α) := fun s =>
    bif decide (s.1 < n) then (Option.bind (whileM (gStB2 cl n s.1) gxFuel (0, w64 (2 * s.1), s.2)) fun out =>
    Option.bind (α := List α) (bif decide ((w64 (out.1 + s.1)) < n) then (Option.bind (gSym cl gxFuel out.2 out.1 (w64 (out.1 + s.1)) n) fun r =>
    some r)
    else some out.2) fun o =>
    some (.inl (w64 (s.1 * 2), o)))
    else some (.inr s.2)
def gStable {α : Type} (cl : α → α → Option Int) (x : List α) (n : Int) : Option (List α) :=
  Option.bind (whileM (gStB1 cl n) gxFuel (0, 20, x)) fun out =>
  Option.bind (gIns cl out.2 out.1 n) fun r =>
  Option.bind (whileM (gStB3 cl n) gxFuel (20, r)) fun out2 =>
  some out2
theorem isortK_len {α : Type} (key : α → Int) (A : List α) : (isortL (ltK key) A).length = A.length := isortL_len _ _
theorem isortK_ord {α : Type} (key : α → Int) (A : List α) : ordered key (isortL (ltK key) A) := isortL_ord key A
theorem st1 {α : Type} {cl : α → α → Option Int} {key : α → Int} (hcl : keyed cl key) (n : Nat) (hn : n ≤ 1048576) : ∀ (k fuel : Nat) (D R : List α), R.length ≤ k → k < fuel → D.length + R.length = n →
    ∃ (Bs : List (List α)) (E : List α), whileM (gStB1 cl (n : Int)) fuel ((D.length : Int), ((D.length + 20 : Nat) : Int), D ++ R) = some (((D.length + 20 * Bs.length : Nat) : Int), D ++ (Bs.flatten ++ E)) ∧ (∀ B ∈ Bs, B.length = 20 ∧ ordered key B) ∧ E.length < 20 ∧ steq key (Bs.flatten ++ E) R ∧ (Bs.flatten ++ E).length = R.length := by
  intro k
  induction k with
  | zero =>
    intro fuel D R h1 h2 h3
    obtain ⟨f, rfl⟩ : ∃ f, fuel = f + 1 := ⟨fuel - 1, by omega⟩
    refine ⟨[], R, ?_, by simp, by omega, by simpa using steq_refl key R, by simp⟩
    have g : ¬ (((D.length + 20 : Nat) : Int) ≤ (n : Int)) := by omega
    simp only [whileM, gStB1, g, decide_false, cond_false]
    simp
  | succ k ih =>
    intro fuel D R h1 h2 h3
    obtain ⟨f, rfl⟩ : ∃ f, fuel = f + 1 := ⟨fuel - 1, by omega⟩
    by_cases hr : 20 ≤ R.length
    · have g : (((D.length + 20 : Nat) : Int) ≤ (n : Int)) := by omega
      have l1 : (R.take 20).length = 20 := by simp; omega
      have l2 : (R.drop 20).length = R.length - 20 := by simp
      have hs : R.take 20 ++ R.drop 20 = R := List.take_append_drop _ _
      have hi := ins_law hcl D (R.take 20) (R.drop 20) (by simp; omega) (a := (D.length : Int)) (b := ((D.length + 20 : Nat) : Int)) rfl (by rw [l1])
      rw [List.append_assoc D, hs] at hi
      have hlen : (D ++ isortL (ltK key) (R.take 20)).length = D.length + 20 := by rw [List.length_append, isortK_len, l1]
      obtain ⟨Bs, E, r1, r2, r3, r4, r5⟩ := ih f (D ++ isortL (ltK key) (R.take 20)) (R.drop 20) (by omega) (by omega) (by rw [hlen, l2]; omega)
      rw [hlen] at r1
      refine ⟨isortL (ltK key) (R.take 20) :: Bs, E, ?_, ?_, r3, ?_, ?_⟩
      · have e : w64 (((D.length + 20 : Nat) : Int) + 20) = ((D.length + 20 + 20 : Nat) : Int) := by rw [w64_id (by omega) (by omega)]; omega
        simp only [whileM, gStB1, g, decide_true, cond_true, hi, Option.bind_some, e]
        rw [r1]
        congr 2
        · simp only [List.length_cons]
          omega
        · simp
      · intro B hB
        rcases List.mem_cons.1 hB with rfl | hB
        · exact ⟨by rw [isortK_len, l1], isortK_ord key _⟩
        · exact r2 B hB
      · have := steq_app (isortL_steq key (R.take 20)) r4
        rw [hs] at this
        simpa [List.append_assoc] using this
      · simp only [List.flatten_cons, List.length_append, isortK_len, l1] at r5 ⊢
        omega
    · refine ⟨[], R, ?_, by simp, by omega, by simpa using steq_refl key R, by simp⟩
      have g : ¬ (((D.length + 20 : Nat) : Int) ≤ (n : Int)) := by omega
      simp only [whileM, gStB1, g, decide_false, cond_false]
      simp
theorem st2 {α : Type} {cl : α → α → Option Int} {key : α → Int} (hcl : keyed cl key) (n s : Nat) (hn : n ≤ 1048576) (hs : 1 ≤ s) (hs2 : s ≤ 2097152) (E : List α) (hE : E.length < s) : ∀ (k fuel : Nat) (Bs : List (List α)) (D : List α), Bs.length ≤ k → k < fuel → (∀ B ∈ Bs, B.length = s ∧ ordered key B) → D.length + Bs.flatten.length + E.length = n →
    ∃ (Cs : List (List α)) (T : List α), whileM (gStB2 cl (n : Int) (s : Int)) fuel ((D.length : Int), ((D.length + 2 * s : Nat) : Int), D ++ (Bs.flatten ++ E)) = some (((D.length + Cs.flatten.length : Nat) : Int), D ++ (Cs.flatten ++ T)) ∧ (∀ C ∈ Cs, C.length = 2 * s ∧ ordered key C) ∧ (T = E ∨ ∃ B, T = B ++ E ∧ B.length = s ∧ ordered key B) ∧ steq key (Cs.flatten ++ T) (Bs.flatten ++ E) ∧ (Cs.flatten ++ T).length = (Bs.flatten ++ E).length := by
  intro k
  induction k using Nat.strongRecOn with
  | ind k ih =>
    intro fuel Bs D h1 h2 h3 h4
    obtain ⟨f, rfl⟩ : ∃ f, fuel = f + 1 := ⟨fuel - 1, by omega⟩
    match Bs, h1, h3, h4 with
    | [], _, _, h4 =>
      refine ⟨[], E, ?_, by simp, Or.inl rfl, steq_refl key _, rfl⟩
      have g : ¬ (((D.length + 2 * s : Nat) : Int) ≤ (n : Int)) := by simp at h4; omega
      simp only [whileM, gStB2, g, decide_false, cond_false]
      simp
    | [B], _, h3, h4 =>
      have hB := h3 B (by simp)
      refine ⟨[], B ++ E, ?_, by simp, Or.inr ⟨B, rfl, hB⟩, by simpa using steq_refl key (B ++ E), by simp⟩
      have g : ¬ (((D.length + 2 * s : Nat) : Int) ≤ (n : Int)) := by simp at h4; omega
      simp only [whileM, gStB2, g, decide_false, cond_false]
      simp
    | B1 :: B2 :: r, h1, h3, h4 =>
      have hB1 := h3 B1 (by simp)
      have hB2 := h3 B2 (by simp)
      simp only [List.flatten_cons, List.length_append] at h4
      have g : (((D.length + 2 * s : Nat) : Int) ≤ (n : Int)) := by omega
      have e1 : w64 ((D.length : Int) + (s : Int)) = ((D.length + s : Nat) : Int) := by rw [w64_id (by omega) (by omega)]; omega
      have e2 : w64 (((D.length + 2 * s : Nat) : Int) + w64 (2 * (s : Int))) = ((D.length + 2 * s + 2 * s : Nat) : Int) := by rw [w64_id (z := 2 * (s : Int)) (by omega) (by omega), w64_id (by omega) (by omega)]; omega
      obtain ⟨C, c1, c2, c3, c4⟩ := sym_law hcl (B1.length + B2.length) gxFuel D B1 B2 (r.flatten ++ E) (Nat.le_refl _) (by unfold gxFuel; omega) (by intro e; rw [e] at hB1; simp at hB1; omega) (by intro e; rw [e] at hB2; simp at hB2; omega) hB1.2 hB2.2 (by simp only [List.length_append]; omega) (a := (D.length : Int)) (m := ((D.length + s : Nat) : Int)) (b := ((D.length + 2 * s : Nat) : Int)) rfl (by rw [hB1.1]) (by rw [hB1.1, hB2.1]; omega)
      have hL : D ++ ((B1 :: B2 :: r).flatten ++ E) = D ++ B1 ++ B2 ++ (r.flatten ++ E) := by simp
      have hlen : (D ++ C).length = D.length + 2 * s := by rw [List.length_append, c4, hB1.1, hB2.1]; omega
      obtain ⟨Cs, T, r1, r2, r3, r4, r5⟩ := ih (k - 2) (by simp at h1; omega) f r (D ++ C) (by simp at h1; omega) (by simp at h1; omega) (fun B hB => h3 B (by simp [hB])) (by rw [hlen]; omega)
      rw [hlen] at r1
      refine ⟨C :: Cs, T, ?_, ?_, r3, ?_, ?_⟩
      · rw [hL]
        simp only [whileM, gStB2, g, decide_true, cond_true, e1, c1, Option.bind_some, e2]
        rw [r1]
        congr 2
        · simp only [List.flatten_cons, List.length_append, c4, hB1.1, hB2.1]
          omega
        · simp
      · intro X hX
        rcases List.mem_cons.1 hX with rfl | hX
        · exact ⟨by rw [c4, hB1.1, hB2.1]; omega, c2⟩
        · exact r2 X hX
      · have := steq_app c3 r4
        simpa [List.append_assoc] using this
      · simp only [List.flatten_cons, List.length_append, c4] at r5 ⊢
        omega
theorem st3 {α : Type} {cl : α → α → Option Int} {key : α → Int} (hcl : keyed cl key) (n : Nat) (hn : n ≤ 1048576) : ∀ (k fuel s : Nat) (Bs : List (List α)) (E : List α), n - s ≤ k → k < fuel → 1 ≤ s → s ≤ 2097152 → (∀ B ∈ Bs, B.length = s ∧ ordered key B) → E.length < s → ordered key E → Bs.flatten.length + E.length = n →
    ∃ L, whileM (gStB3 cl (n : Int)) fuel ((s : Int), Bs.flatten ++ E) = some L ∧ ordered key L ∧ steq key L (Bs.flatten ++ E) ∧ L.length = n := by
  intro k
  induction k with
  | zero =>
    intro fuel s Bs E h1 h2 h3 hs2 h4 h5 h6 h7
    obtain ⟨f, rfl⟩ : ∃ f, fuel = f + 1 := ⟨fuel - 1, by omega⟩
    have g : ¬ ((s : Int) < (n : Int)) := by omega
    refine ⟨Bs.flatten ++ E, by simp only [whileM, gStB3, g, decide_false, cond_false], ?_, steq_refl _ _, by rw [List.length_append]; omega⟩
    match Bs, h4, h7 with
    | [], _, _ => simpa using h6
    | B :: r, h4, h7 =>
      have hB := h4 B (by simp)
      simp only [List.flatten_cons, List.length_append] at h7
      have e1 : r.flatten = [] := List.length_eq_zero_iff.1 (by omega)
      have e2 : E = [] := List.length_eq_zero_iff.1 (by omega)
      simp only [List.flatten_cons, e1, e2, List.append_nil]
      exact hB.2
  | succ k ih =>
    intro fuel s Bs E h1 h2 h3 hs2 h4 h5 h6 h7
    obtain ⟨f, rfl⟩ : ∃ f, fuel = f + 1 := ⟨fuel - 1, by omega⟩
    by_cases hlt : s < n
    · have g : ((s : Int) < (n : Int)) := by omega
      have hBl : Bs.length ≤ n := by
        have : ∀ l : List (List α), (∀ B ∈ l, B.length = s) → l.length ≤ l.flatten.length := by
          intro l
          induction l with
          | nil => simp
          | cons B r ih2 =>
            intro hl
            have := ih2 fun X hX => hl X (by simp [hX])
            have hB := hl B (by simp)
            simp only [List.flatten_cons, List.length_append, List.length_cons]
            omega
        have := this Bs fun B hB => (h4 B hB).1
        omega
      obtain ⟨Cs, T, r1, r2, r3, r4, r5⟩ := st2 hcl n s hn h3 hs2 E h5 Bs.length gxFuel Bs [] (Nat.le_refl _) (by unfold gxFuel; omega) h4 (by simpa using h7)
      have e0 : w64 (2 * (s : Int)) = ((2 * s : Nat) : Int) := by rw [w64_id (by omega) (by omega)]; omega
      have e1 : w64 ((s : Int) * 2) = ((2 * s : Nat) : Int) := by rw [w64_id (by omega) (by omega)]; omega
      simp only [List.length_nil, Nat.zero_add, List.nil_append] at r1
      have e00 : ((0 : Nat) : Int) = 0 := rfl
      rw [e00] at r1
      simp only [List.length_append] at r5
      have hmerge : ∃ E', (bif decide (w64 (((Cs.flatten.length : Nat) : Int) + (s : Int)) < (n : Int)) then (Option.bind (gSym cl gxFuel (Cs.flatten ++ T) ((Cs.flatten.length : Nat) : Int) (w64 (((Cs.flatten.length : Nat) : Int) + (s : Int))) (n : Int)) fun r => some r) else some (Cs.flatten ++ T)) = some (Cs.flatten ++ E') ∧ ordered key E' ∧ steq key E' T ∧ E'.length = T.length ∧ T.length < 2 * s := by
        have e2 : w64 (((Cs.flatten.length : Nat) : Int) + (s : Int)) = ((Cs.flatten.length + s : Nat) : Int) := by rw [w64_id (by omega) (by omega)]; omega
        rcases r3 with rfl | ⟨B, rfl, hB1, hB2⟩
        · have g2 : ¬ (((Cs.flatten.length + s : Nat) : Int) < (n : Int)) := by omega
          exact ⟨T, by simp only [e2, g2, decide_false, cond_false], h6, steq_refl _ _, rfl, by omega⟩
        · simp only [List.length_append] at r5 ⊢
          by_cases hE : E = []
          · have hz : E.length = 0 := by rw [hE]; rfl
            have g2 : ¬ (((Cs.flatten.length + s : Nat) : Int) < (n : Int)) := by omega
            refine ⟨B ++ E, by simp only [e2, g2, decide_false, cond_false], by rw [hE, List.append_nil]; exact hB2, steq_refl _ _, by simp, by omega⟩
          · have hz : 1 ≤ E.length := List.length_pos_iff.2 hE
            have g2 : (((Cs.flatten.length + s : Nat) : Int) < (n : Int)) := by omega
            obtain ⟨C, c1, c2, c3, c4⟩ := sym_law hcl (B.length + E.length) gxFuel Cs.flatten B E [] (Nat.le_refl _) (by unfold gxFuel; omega) (by intro e; rw [e] at hB1; simp at hB1; omega) hE hB2 h6 (by simp only [List.length_append, List.length_nil]; omega) (a := ((Cs.flatten.length : Nat) : Int)) (m := ((Cs.flatten.length + s : Nat) : Int)) (b := (n : Int)) rfl (by rw [hB1]) (by rw [hB1]; omega)
            simp only [List.append_nil, List.append_assoc] at c1
            exact ⟨C, by simp only [e2, g2, decide_true, cond_true, c1, Option.bind_some], c2, c3, c4, by omega⟩
      obtain ⟨E', m1, m2, m3, m4, m5⟩ := hmerge
      obtain ⟨L, l1, l2, l3, l4⟩ := ih f (2 * s) Cs E' (by omega) (by omega) (by omega) (by omega) r2 (by omega) m2 (by omega)
      refine ⟨L, ?_, l2, steq_trans l3 (steq_trans (steq_app (steq_refl key _) m3) r4), l4⟩
      simp only [whileM, gStB3, g, decide_true, cond_true, e0, r1, Option.bind_some]
      rw [m1]
      simp only [Option.bind_some, e1]
      exact l1
    · have g : ¬ ((s : Int) < (n : Int)) := by omega
      refine ⟨Bs.flatten ++ E, by simp only [whileM, gStB3, g, decide_false, cond_false], ?_, steq_refl _ _, by rw [List.length_append]; omega⟩
      match Bs, h4, h7 with
      | [], _, _ => simpa using h6
      | B :: r, h4, h7 =>
        have hB := h4 B (by simp)
        simp only [List.flatten_cons, List.length_append] at h7
        have e1 : r.flatten = [] := List.length_eq_zero_iff.1 (by omega)
        have e2 : E = [] := List.length_eq_zero_iff.1 (by omega)
        simp only [List.flatten_cons, e1, e2, List.append_nil]
        exact hB.2
theorem stable_law {α : Type} {cl : α → α → Option Int} {key : α → Int} (hcl : keyed cl key) (xs : List α) (h : xs.length ≤ 1048576) : ∃ L, gStable cl xs (xs.length : Int) = some L ∧ ordered key L ∧ steq key L xs ∧ L.length = xs.length := by
  unfold gStable
  obtain ⟨Bs, E, r1, r2, r3, r4, r5⟩ := st1 hcl xs.length h xs.length gxFuel [] xs (Nat.le_refl _) (by unfold gxFuel; omega) (by simp)
  simp only [List.length_nil, Nat.zero_add, List.nil_append] at r1
  have hfl : Bs.flatten.length = 20 * Bs.length := by
    have : ∀ l : List (List α), (∀ B ∈ l, B.length = 20) → l.flatten.length = 20 * l.length := by
      intro l
      induction l with
      | nil => simp
      | cons B r ih =>
        intro hl
        have := ih fun X hX => hl X (by simp [hX])
        have hB := hl B (by simp)
        simp only [List.flatten_cons, List.length_append, List.length_cons]
        omega
    exact this Bs fun B hB => (r2 B hB).1
  simp only [List.length_append] at r5
  have hi := ins_law hcl Bs.flatten E [] (by simp only [List.length_append, List.length_nil]; omega) (a := ((20 * Bs.length : Nat) : Int)) (b := (xs.length : Int)) (by rw [hfl]) (by omega)
  simp only [List.append_nil] at hi
  obtain ⟨L, l1, l2, l3, l4⟩ := st3 hcl xs.length h xs.length gxFuel 20 Bs (isortL (ltK key) E) (by omega) (by unfold gxFuel; omega) (by omega) (by omega) r2 (by rw [isortK_len]; exact r3) (isortK_ord key E) (by rw [isortK_len]; omega)
  refine ⟨L, ?_, l2, steq_trans l3 (steq_trans (steq_app (steq_refl key _) (isortL_steq key E)) r4), l4⟩
  have e20 : ((20 : Nat) : Int) = 20 := rfl
  have e00 : ((0 : Nat) : Int) = 0 := rfl
  rw [e20] at l1
  rw [e20, e00] at r1
  rw [r1, Option.bind_some]
  simp only [hi, Option.bind_some, l1]
end Go.Proofs.Ytfcebglkdfadcaa
