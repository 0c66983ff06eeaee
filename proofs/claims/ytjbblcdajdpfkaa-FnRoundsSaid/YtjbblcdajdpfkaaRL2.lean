/- Plain laws of the models: no program in sight. -/
import Derived.Test.YtjbblcdajdpfkaaRM
import Derived.Test.YtjbblcdajdpfkaaRL1
set_option linter.unusedVariables false
set_option linter.unusedSimpArgs false
set_option maxHeartbeats 4000000
namespace Go.Proofs.Ytjbblcdajdpfkaa
open Go.Gx
/-! ### Rounds with stores -/
theorem while_first {σ ρ : Type} {body : σ → Option (σ ⊕ ρ)} {s0 : σ} (st : Nat → σ) (p : Nat → Bool) (hit : Nat → ρ) (r : ρ) (n : Nat) (h0 : s0 = st 0) (hn : n ≤ 4611686018427387904) (h : ∀ i, i < n → body (st i) = some (bif p i then .inr (hit i) else .inl (st (i + 1)))) (he : body (st n) = some (.inr r)) :
    whileM body gxFuel s0 = some (match (List.range n).find? p with
      | some i => hit i
      | none => r) := by
  cases hf : (List.range n).find? p with
  | none =>
    rw [List.find?_eq_none] at hf
    refine while_run st r n h0 hn (fun i hi => ?_) he
    have : p i = false := by
      have := hf i (List.mem_range.2 hi)
      simpa using this
    rw [h i hi, this]
    rfl
  | some i =>
    rw [List.find?_range_eq_some] at hf
    obtain ⟨h1, h2, h3⟩ := hf
    have hi : i < n := List.mem_range.1 h2
    refine while_run st (hit i) i h0 (by omega) (fun j hj => ?_) (by rw [h i hi, h1]; rfl)
    have : p j = false := by
      have := h3 j hj
      simpa using this
    rw [h j (by omega), this]
    rfl
theorem find_any (p : Nat → Bool) (n : Nat) : (match (List.range n).find? p with | some _ => true | none => false) = (List.range n).any p := by
  cases hf : (List.range n).find? p with
  | none =>
    rw [List.find?_eq_none] at hf
    symm
    rw [List.any_eq_false]
    exact hf
  | some i =>
    symm
    rw [List.any_eq_true]
    exact ⟨i, List.mem_of_find?_eq_some hf, List.find?_some hf⟩
theorem getD_at {α : Type} {xs : List α} {i : Nat} {z : α} (h : i < xs.length) : xs.getD i z = xs[i] := by
  rw [List.getD_eq_getElem?_getD, List.getElem?_eq_getElem h]; rfl
abbrev L2 := List (List Store)
def totS : List (List Store) → Nat
  | [] => 0
  | l :: r => l.length + totS r
theorem totS_app : ∀ a b : List (List Store), totS (a ++ b) = totS a + totS b
  | [], b => by simp [totS]
  | x :: r, b => by simp only [List.cons_append, totS, totS_app r b]; omega
theorem totS_mem {xs : List (List Store)} {b : List Store} (h : b ∈ xs) : b.length ≤ totS xs := by
  obtain ⟨s, t, rfl⟩ := List.append_of_mem h
  rw [totS_app]
  simp only [totS]
  omega
def fitS (xs : List (List Store)) : Prop := xs.length ≤ 1048576 ∧ totS xs ≤ 1048576
theorem fitS_at {xs : List (List Store)} (hf : fitS xs) {i : Nat} (hi : i < xs.length) : xs[i].length ≤ 1048576 := by
  have := totS_mem (List.getElem_mem hi)
  have := hf.2
  omega
def mkStore (x : Store) (k : Nat) : Nat × Store := (k + 2, ⟨((k : Nat) : Int), ((k + 1 : Nat) : Int)⟩)
def mkStoreS (l : List Store) (k : Nat) : Nat × List Store := gmk mkStore l k
theorem gmk_storeS : ∀ (a : List (List Store)) (k : Nat), (gmk mkStoreS a k).1 = k + 2 * totS a
  | [], k => by simp [gmk, totS]
  | x :: r, k => by
    have hc : (gmk mkStore x k).1 = k + 2 * x.length := gmk_const (fun _ _ => rfl) x k
    simp only [gmk, gmk_storeS r, mkStoreS, hc, totS]
    omega
/-! the runs -/
def lensC (x : Copying) : Prop := 1 ≤ x.Memory.length ∧ x.Memory.length ≤ 12 ∧ x.Copy.length = x.Memory.length ∧ x.Dirty.length = x.Memory.length
theorem lensC_fits {x : Copying} (h : lensC x) : fits x 1048576 := by
  unfold lensC at h
  exact ⟨by omega, by omega, by omega⟩
def roundC (x : Copying) (m : Int) : Copying := ⟨x.Memory, (rd x m x.Memory.length).2.1, (rd x m x.Memory.length).2.2⟩
def cntC (x : Copying) (m : Int) : Int := ((rd x m x.Memory.length).1 : Int)
def putAll (x : Copying) (l : List Store) : Copying := l.foldl put x
theorem roundC_len {x : Copying} (m : Int) (h : lensC x) : lensC (roundC x m) ∧ (roundC x m).Memory.length = x.Memory.length := by
  have h2 := rd_lens x m x.Memory.length
  exact ⟨⟨h.1, h.2.1, h2.2.1.trans h.2.2.1, h2.2.2.trans h.2.2.2⟩, rfl⟩
theorem put_len {x : Copying} (p : Store) (h : lensC x) : lensC (put x p) ∧ (put x p).Memory.length = x.Memory.length := by
  have hm : (put x p).Memory.length = x.Memory.length := by simp only [put, List.length_set]
  have hd : (put x p).Dirty.length = x.Dirty.length := by simp only [put, List.length_set]
  exact ⟨⟨by rw [hm]; exact h.1, by rw [hm]; exact h.2.1, by rw [hm]; exact h.2.2.1, by rw [hm, hd]; exact h.2.2.2⟩, hm⟩
theorem putAll_len {x : Copying} (l : List Store) (h : lensC x) : lensC (putAll x l) ∧ (putAll x l).Memory.length = x.Memory.length := by
  unfold putAll
  induction l generalizing x with
  | nil => exact ⟨h, rfl⟩
  | cons p r ih =>
    have h1 := put_len p h
    have h2 := ih h1.1
    exact ⟨h2.1, h2.2.trans h1.2⟩
theorem canStore_same {x y : Copying} (h : y.Memory.length = x.Memory.length) (p : Store) : canStore y p = canStore x p := by
  unfold canStore
  rw [h]
theorem putAll_take {x : Copying} {l : List Store} {i : Nat} (hi : i < l.length) : putAll x (l.take (i + 1)) = put (putAll x (l.take i)) l[i] := by
  unfold putAll
  rw [List.take_add_one, List.getElem?_eq_getElem hi, Option.toList_some, List.foldl_append]
  rfl
def okList (c : Copying) (l : List Store) : Bool := l.all (canStore c) && decide ((l.length : Int) ≤ 12)
def okLists (c : Copying) (ls : List (List Store)) : Bool := ls.all (okList c) && decide ((ls.length : Int) ≤ 8)
theorem all_range {α : Type} (xs : List α) (z : α) (p : α → Bool) : (List.range xs.length).all (fun i => p (xs.getD i z)) = xs.all p := by
  rw [Bool.eq_iff_iff, List.all_eq_true, List.all_eq_true]
  constructor
  · intro h x hx
    obtain ⟨i, hi, rfl⟩ := List.mem_iff_getElem.1 hx
    have := h i (List.mem_range.2 hi)
    rwa [getD_at hi] at this
  · intro h i hi
    have hi := List.mem_range.1 hi
    rw [getD_at hi]
    exact h _ (List.getElem_mem hi)
theorem any_not {α : Type} (xs : List α) (z : α) (p : α → Bool) : (List.range xs.length).any (fun i => !(p (xs.getD i z))) = !(xs.all p) := by
  rw [← all_range xs z p]
  induction (List.range xs.length) with
  | nil => rfl
  | cons a r ih => simp only [List.any_cons, List.all_cons, ih, Bool.not_and]
/-- One round with its stores. -/
def stepC (x : Copying) (m : Int) (l : List Store) : Copying := putAll (roundC x m) l
theorem stepC_len {x : Copying} (m : Int) (l : List Store) (h : lensC x) : lensC (stepC x m l) ∧ (stepC x m l).Memory.length = x.Memory.length := by
  have h1 := roundC_len m h
  have h2 := putAll_len l h1.1
  exact ⟨h2.1, h2.2.trans h1.2⟩
def runC (x : Copying) (m : Int) (ls : List (List Store)) : Int × Copying := ls.foldl (fun s l => (w64 (s.1 + cntC s.2 m), stepC s.2 m l)) (0, x)
theorem runC_take {x : Copying} {m : Int} {ls : List (List Store)} {i : Nat} (hi : i < ls.length) : runC x m (ls.take (i + 1)) = (w64 ((runC x m (ls.take i)).1 + cntC (runC x m (ls.take i)).2 m), stepC (runC x m (ls.take i)).2 m ls[i]) := by
  unfold runC
  rw [List.take_add_one, List.getElem?_eq_getElem hi, Option.toList_some, List.foldl_append]
  rfl
theorem runC_len {x : Copying} (m : Int) (ls : List (List Store)) (h : lensC x) : lensC (runC x m ls).2 ∧ (runC x m ls).2.Memory.length = x.Memory.length := by
  have key : ∀ (ls : List (List Store)) (s : Int × Copying), lensC s.2 → s.2.Memory.length = x.Memory.length → lensC (ls.foldl (fun s l => (w64 (s.1 + cntC s.2 m), stepC s.2 m l)) s).2 ∧ (ls.foldl (fun s l => (w64 (s.1 + cntC s.2 m), stepC s.2 m l)) s).2.Memory.length = x.Memory.length := by
    intro ls
    induction ls with
    | nil => intro s h1 h2; exact ⟨h1, h2⟩
    | cons l r ih =>
      intro s h1 h2
      have h3 := stepC_len m l h1
      exact ih _ h3.1 (h3.2.trans h2)
  exact key ls (0, x) h rfl
theorem okList_at {c : Copying} {l : List Store} (h : okList c l = true) {k : Nat} (hk : k < l.length) : canStore c l[k] = true := by
  unfold okList at h
  rw [Bool.and_eq_true] at h
  exact List.all_eq_true.1 h.1 _ (List.getElem_mem hk)
theorem okLists_at {c : Copying} {ls : List (List Store)} (h : okLists c ls = true) {i : Nat} (hi : i < ls.length) : okList c ls[i] = true := by
  unfold okLists at h
  rw [Bool.and_eq_true] at h
  exact List.all_eq_true.1 h.1 _ (List.getElem_mem hi)
theorem okLists_take {c : Copying} {ls : List (List Store)} (h : okLists c ls = true) (n : Nat) : okLists c (ls.take n) = true := by
  unfold okLists at h ⊢
  simp only [Bool.and_eq_true, decide_eq_true_eq] at h ⊢
  refine ⟨List.all_eq_true.2 fun l hl => List.all_eq_true.1 h.1 l (List.mem_of_mem_take hl), ?_⟩
  have : (ls.take n).length ≤ ls.length := by simp; omega
  omega
theorem totS_take (xs : List (List Store)) (n : Nat) : totS (xs.take n) ≤ totS xs := by
  have := totS_app (xs.take n) (xs.drop n)
  rw [List.take_append_drop] at this
  omega
theorem fitS_take {xs : List (List Store)} (h : fitS xs) (n : Nat) : fitS (xs.take n) := by
  have := totS_take xs n
  have h1 := h.1
  have h2 := h.2
  exact ⟨by simp; omega, by omega⟩
theorem gxSlice_take {α : Type} {xs : List α} {k : Nat} (h : k ≤ xs.length) : gxSlice xs 0 (k : Int) = some (xs.take k) := by
  unfold gxSlice
  rw [if_pos ⟨by omega, by omega, by omega⟩]
  simp
def calmC (c : Copying) (m rest : Int) (ls : List (List Store)) (n : Nat) : Bool := decide (((dl (runC c m (ls.take n)).2.Dirty (runC c m (ls.take n)).2.Dirty.length).length : Int) ≤ rest)
/-! ### Draws -/
/-- The code is of bytes; so many steps at most have been made. -/
def curI (c : l1Cur) (n : Nat) : Prop := okL okU c.code ∧ 0 ≤ c.at_ ∧ c.at_ ≤ n
theorem u8_range {x : Int} (h : okU x) : 0 ≤ x ∧ x ≤ 255 := by
  unfold okU at h
  simp [Lit.wf, IntKind.min, IntKind.max, IntKind.bits, IntKind.signed] at h
  omega
theorem and255 (x : Int) : 0 ≤ gxAnd .u64 x 255 ∧ gxAnd .u64 x 255 ≤ 255 := by
  unfold gxAnd
  have h1 : (BitVec.ofInt 64 x &&& BitVec.ofInt 64 255).toNat ≤ 255 := by
    rw [BitVec.toNat_and]
    have : (BitVec.ofInt 64 255).toNat = 255 := rfl
    rw [this]
    exact Nat.and_le_right
  show 0 ≤ IntKind.u64.wrap ((BitVec.ofInt 64 x &&& BitVec.ofInt 64 255).toNat : Int) ∧ IntKind.u64.wrap ((BitVec.ofInt 64 x &&& BitVec.ofInt 64 255).toNat : Int) ≤ 255
  generalize (BitVec.ofInt 64 x &&& BitVec.ofInt 64 255).toNat = n at h1
  have h2 : IntKind.u64.wrap (n : Int) = n := by
    simp [IntKind.wrap, IntKind.bits, IntKind.signed]
    omega
  rw [h2]
  omega
theorem next_ok (c : l1Cur) (n : Nat) (h : curI c n) (hn : n ≤ 1099511627776) : ∃ r, M.s_l1Cur_next c = some r ∧ (0 ≤ r.1 ∧ r.1 ≤ 255) ∧ 0 ≤ r.2.1 ∧ r.2.1 ≤ ((n + 1 : Nat) : Int) := by
  obtain ⟨hc, h0, h1⟩ := h
  unfold M.s_l1Cur_next
  rw [w64_id (z := c.at_ + 1) (by omega) (by omega)]
  have hfst : ∃ b, (bif decide (c.at_ < (c.code.length : Int)) then (Option.bind (gxIdx c.code c.at_) fun y7680 => some (w64 y7680)) else some 0) = some b ∧ 0 ≤ b ∧ b ≤ 255 := by
    by_cases hlt : c.at_ < (c.code.length : Int)
    · obtain ⟨i, hi⟩ : ∃ i : Nat, c.at_ = i := ⟨c.at_.toNat, by omega⟩
      rw [hi] at hlt ⊢
      have hil : i < c.code.length := by omega
      have hb := u8_range (hc.2 _ (List.getElem_mem hil))
      simp only [hlt, decide_true, cond_true, gxIdx_nat hil, Option.bind_some, w64_id (z := c.code[i]) (by omega) (by omega)]
      exact ⟨_, rfl, hb.1, hb.2⟩
    · simp only [hlt, decide_false, cond_false]
      exact ⟨0, rfl, by omega, by omega⟩
  obtain ⟨b, hb, hb1⟩ := hfst
  rw [hb, Option.bind_some]
  by_cases hle : c.at_ + 1 ≤ (c.code.length : Int)
  · simp only [hle, decide_true, cond_true]
    exact ⟨_, rfl, hb1, by simp only; omega, by simp only; omega⟩
  · simp only [hle, decide_false, cond_false]
    refine ⟨_, rfl, ?_, by simp only; omega, by simp only; omega⟩
    have := and255 ((IntKind.u64.wrap ((IntKind.u64.wrap ((IntKind.u64.wrap (c.seed * 6364136223846793005)) + (IntKind.u64.wrap b))) + 843843)).fdiv (2 ^ 40))
    simp only
    rw [w64_id (by omega) (by omega)]
    exact this
/-- What a pick among k gives. -/
theorem pick_ok (c : l1Cur) (k : Int) (n : Nat) (h : curI c n) (hn : n ≤ 1099511000000) (hk : k ≤ 9223372036854775807) : ∃ r, M.s_l1Cur_pick c k = some r ∧ 0 ≤ r.1 ∧ (r.1 < k ∨ r.1 = 0) ∧ (k ≥ 1 → r.1 < k) ∧ curI ⟨c.code, r.2.1, r.2.2⟩ (n + 2) := by
  unfold M.s_l1Cur_pick
  by_cases h1 : k ≤ 1
  · simp only [h1, decide_true, cond_true]
    exact ⟨_, rfl, by simp, Or.inr rfl, fun h => by simp only; omega, h.1, h.2.1, by have := h.2.2; simp only; omega⟩
  · simp only [h1, decide_false, cond_false]
    obtain ⟨r, hr, hb, ha0, ha1⟩ := next_ok c n h (by omega)
    rw [hr, Option.bind_some]
    have hrem : ∀ v : Int, 0 ≤ v → gxRem v k = some (v % k) := by
      intro v hv
      unfold gxRem
      rw [if_neg (by omega), Int.tmod_eq_emod_of_nonneg hv]
    by_cases h2 : k > 200
    · simp only [h2, decide_true, cond_true]
      obtain ⟨r2, hr2, hb2, ha2, ha3⟩ := next_ok ⟨c.code, r.2.1, r.2.2⟩ (n + 1) ⟨h.1, ha0, ha1⟩ (by omega)
      rw [hr2, Option.bind_some, Option.bind_some]
      have e : w64 ((w64 (r.1 * 256)) + r2.1) = r.1 * 256 + r2.1 := by
        rw [w64_id (z := r.1 * 256) (by omega) (by omega), w64_id (by omega) (by omega)]
      simp only [e, hrem (r.1 * 256 + r2.1) (by omega), Option.bind_some]
      have p1 := Int.emod_nonneg (r.1 * 256 + r2.1) (show k ≠ 0 by omega)
      have p2 := Int.emod_lt_of_pos (r.1 * 256 + r2.1) (show 0 < k by omega)
      exact ⟨_, rfl, p1, Or.inl p2, fun _ => p2, h.1, ha2, by simp only; omega⟩
    · simp only [h2, decide_false, cond_false, Option.bind_some, hrem r.1 hb.1]
      have p1 := Int.emod_nonneg r.1 (show k ≠ 0 by omega)
      have p2 := Int.emod_lt_of_pos r.1 (show 0 < k by omega)
      exact ⟨_, rfl, p1, Or.inl p2, fun _ => p2, h.1, ha0, by simp only; omega⟩
theorem among_ok (c : l1Cur) (l : List Int) (n : Nat) (h : curI c n) (hn : n ≤ 1099511000000) (hl : 0 < l.length ∧ l.length ≤ 1000) : ∃ r, M.s_l1Cur_among c l = some r ∧ r.1 ∈ l ∧ curI ⟨c.code, r.2.1, r.2.2⟩ (n + 2) := by
  unfold M.s_l1Cur_among
  obtain ⟨r, hr, h0, _, h1, hc⟩ := pick_ok c (l.length : Int) n h hn (by omega)
  have h1 := h1 (by omega)
  rw [hr, Option.bind_some]
  obtain ⟨i, hi⟩ : ∃ i : Nat, r.1 = i := ⟨r.1.toNat, by omega⟩
  have hil : i < l.length := by omega
  rw [hi, gxIdx_nat hil, Option.bind_some]
  exact ⟨_, rfl, List.getElem_mem hil, hc⟩

theorem one_ok (c : l1Cur) (k : Int) (n : Nat) (h : curI c n) (hn : n ≤ 1099511000000) (hk : k ≤ 9223372036854775807) : ∃ r, M.s_l1Cur_one c k = some r ∧ curI ⟨c.code, r.2.1, r.2.2⟩ (n + 2) := by
  unfold M.s_l1Cur_one
  obtain ⟨r, hr, _, _, _, hc⟩ := pick_ok c k n h hn hk
  rw [hr, Option.bind_some]
  exact ⟨_, rfl, hc⟩

/-! ### Draws of copyings -/
theorem curI.mono {c : l1Cur} {n m : Nat} (h : curI c n) (hm : n ≤ m) : curI c m := ⟨h.1, h.2.1, by have := h.2.2; omega⟩
theorem cur0 {code : List Int} (h : okL okU code) : curI ⟨code, 0, 0⟩ 0 := ⟨h, by simp, by simp⟩
theorem memory_ok (c : l1Cur) (n : Nat) (h : curI c n) (hn : n ≤ 1099500000000) : ∃ r, M.s_l1Cur_memory c = some r ∧ r.1.length ≤ 20 ∧ curI ⟨c.code, r.2.1, r.2.2⟩ (n + 100) := by
  unfold M.s_l1Cur_memory
  obtain ⟨a, ha, ha0, _, ha1, hac⟩ := pick_ok c 8 n h (by omega) (by omega)
  have ha1 := ha1 (by omega)
  rw [ha, Option.bind_some, w64_id (z := 1 + a.1) (by omega) (by omega)]
  obtain ⟨q, hq, hq1, hq2, hqc⟩ := while_inv (body := fun s10026 : List Int × Int × Int × Int =>
    bif decide (s10026.2.1 > 0) then (Option.bind (M.s_l1Cur_among (⟨c.code, s10026.2.2.1, s10026.2.2.2⟩ : l1Cur) [0, 0, 1, 2, 255, 4096, 65535]) fun r10055 =>
    Option.bind (gxApp 8 s10026.1 [r10055.1]) fun ap10066 =>
    some (Sum.inl (β := List Int × Int × Int) (ap10066, w64 (s10026.2.1 - 1), r10055.2.1, r10055.2.2)))
    else some (.inr (s10026.1, s10026.2.2.1, s10026.2.2.2))) (s0 := (([] : List Int), 1 + a.1, a.2.1, a.2.2)) (fun i s => s.1.length = i ∧ s.2.1 = 1 + a.1 - (i : Int) ∧ 0 ≤ s.2.1 ∧ curI ⟨c.code, s.2.2.1, s.2.2.2⟩ (n + 2 + 2 * i)) (fun r => 1 ≤ r.1.length ∧ r.1.length ≤ 8 ∧ curI ⟨c.code, r.2.1, r.2.2⟩ (n + 20)) 8 (by omega) ⟨rfl, by simp, by simp only; omega, hac⟩ (fun i s hi hR => by
      obtain ⟨xs, k, u, v⟩ := s
      obtain ⟨hx, hk, hk0, hc⟩ := hR
      simp only at hx hk hk0 hc
      by_cases hk1 : k > 0
      · obtain ⟨r, hr, _, hrc⟩ := among_ok ⟨c.code, u, v⟩ [0, 0, 1, 2, 255, 4096, 65535] _ hc (by omega) (by simp)
        simp only [hk1, decide_true, cond_true, hr, Option.bind_some, w64_id (z := k - 1) (by omega) (by omega)]
        rw [gxApp_ok (by simp; omega), Option.bind_some]
        exact Or.inl ⟨_, rfl, by simp; omega, by simp only; omega, by simp only; omega, hrc.mono (by omega)⟩
      · simp only [hk1, decide_false, cond_false]
        exact Or.inr ⟨_, rfl, by simp only; omega, by simp only; omega, hc.mono (by omega)⟩) (fun s hR => by
      obtain ⟨xs, k, u, v⟩ := s
      obtain ⟨hx, hk, hk0, hc⟩ := hR
      simp only at hx hk hk0 hc
      have hk1 : ¬ (k > 0) := by omega
      simp only [hk1, decide_false, cond_false]
      exact ⟨_, rfl, by simp only; omega, by simp only; omega, hc.mono (by omega)⟩)
  rw [hq, Option.bind_some]
  obtain ⟨b, hb, hb0, _, hb1, hbc⟩ := pick_ok ⟨c.code, q.2.1, q.2.2⟩ 32 _ hqc (by omega) (by omega)
  rw [hb, Option.bind_some]
  cases b.1 == 0 with
  | true =>
    obtain ⟨r, hr, _, hrc⟩ := among_ok ⟨c.code, b.2.1, b.2.2⟩ [(-1), 65536] _ hbc (by omega) (by simp)
    have hi : gxIdx q.1 0 = some (q.1[0]'(by omega)) := gxIdx_nat (show 0 < q.1.length by omega)
    simp only [cond_true, hr, hi, Option.bind_some]
    exact ⟨_, rfl, by simp; omega, hrc.mono (by omega)⟩
  | false => cases b.1 == 1 with
    | true =>
      simp only [cond_true, cond_false, Option.bind_some]
      exact ⟨_, rfl, by simp, hbc.mono (by omega)⟩
    | false => cases b.1 == 2 with
      | false =>
        simp only [cond_false, Option.bind_some]
        exact ⟨_, rfl, by simp only; omega, hbc.mono (by omega)⟩
      | true =>
        simp only [cond_true, cond_false]
        obtain ⟨q2, hq2', hq3, hqc2⟩ := while_inv (body := fun s10905 : List Int × Int × Int =>
          Option.bind (M.s_l1Cur_pick (⟨c.code, s10905.2.1, s10905.2.2⟩ : l1Cur) 2) fun r10926 =>
          bif decide ((s10905.1.length : Int) < (w64 (12 + r10926.1))) then (Option.bind (gxApp 8 s10905.1 [7]) fun ap10938 =>
          some (Sum.inl (β := List Int × Int × Int) (ap10938, r10926.2.1, r10926.2.2)))
          else some (.inr (s10905.1, r10926.2.1, r10926.2.2))) (s0 := (q.1, b.2.1, b.2.2)) (fun i s => s.1.length = q.1.length + i ∧ curI ⟨c.code, s.2.1, s.2.2⟩ (n + 22 + 2 * i)) (fun r => r.1.length ≤ 20 ∧ curI ⟨c.code, r.2.1, r.2.2⟩ (n + 60)) 12 (by omega) ⟨rfl, hbc⟩ (fun i s hi hR => by
            obtain ⟨xs, u, v⟩ := s
            obtain ⟨hx, hc⟩ := hR
            simp only at hx hc
            obtain ⟨r, hr, hr0, _, hr1, hrc⟩ := pick_ok ⟨c.code, u, v⟩ 2 _ hc (by omega) (by omega)
            have hr1 := hr1 (by omega)
            simp only [hr, Option.bind_some, w64_id (z := 12 + r.1) (by omega) (by omega)]
            by_cases hlt : (xs.length : Int) < 12 + r.1
            · simp only [hlt, decide_true, cond_true]
              rw [gxApp_ok (by simp; omega), Option.bind_some]
              exact Or.inl ⟨_, rfl, by simp; omega, hrc.mono (by omega)⟩
            · simp only [hlt, decide_false, cond_false]
              exact Or.inr ⟨_, rfl, by simp only; omega, hrc.mono (by omega)⟩) (fun s hR => by
            obtain ⟨xs, u, v⟩ := s
            obtain ⟨hx, hc⟩ := hR
            simp only at hx hc
            obtain ⟨r, hr, hr0, _, hr1, hrc⟩ := pick_ok ⟨c.code, u, v⟩ 2 _ hc (by omega) (by omega)
            have hr1 := hr1 (by omega)
            have hlt : ¬ ((xs.length : Int) < 12 + r.1) := by omega
            simp only [hr, Option.bind_some, w64_id (z := 12 + r.1) (by omega) (by omega), hlt, decide_false, cond_false]
            exact ⟨_, rfl, by simp only; omega, hrc.mono (by omega)⟩)
        rw [hq2']
        simp only [Option.bind_some]
        exact ⟨_, rfl, hq3, hqc2.mono (by omega)⟩
theorem storeIn_ok (c : l1Cur) (k : Int) (n : Nat) (h : curI c n) (hn : n ≤ 1099510000000) (hk : 0 ≤ k ∧ k ≤ 1000) : ∃ r, M.s_l1Cur_storeIn c k = some r ∧ curI ⟨c.code, r.2.1, r.2.2⟩ (n + 6) := by
  unfold M.s_l1Cur_storeIn
  obtain ⟨a, ha, hac⟩ := one_ok c 32 n h (by omega) (by omega)
  rw [ha, Option.bind_some]
  cases a.1 with
  | true =>
    obtain ⟨b, hb, _, hbc⟩ := among_ok ⟨c.code, a.2.1, a.2.2⟩ [(-1), k, 0] _ hac (by omega) (by simp)
    obtain ⟨d, hd, _, hdc⟩ := among_ok ⟨c.code, b.2.1, b.2.2⟩ [(-1), 65536] _ hbc (by omega) (by simp)
    simp only [cond_true, hb, hd, Option.bind_some]
    exact ⟨_, rfl, hdc⟩
  | false =>
    have hm : ∃ m, M.s_l1Most 1 k = some m ∧ m ≤ 1000 := by
      unfold M.s_l1Most
      by_cases h1 : (1 : Int) > k
      · exact ⟨1, by simp [h1], by omega⟩
      · exact ⟨k, by simp [h1], by omega⟩
    obtain ⟨m, hm, hm1⟩ := hm
    obtain ⟨b, hb, _, _, _, hbc⟩ := pick_ok ⟨c.code, a.2.1, a.2.2⟩ m _ hac (by omega) (by omega)
    obtain ⟨d, hd, _, hdc⟩ := among_ok ⟨c.code, b.2.1, b.2.2⟩ [0, 1, 5, 300, 65535] _ hbc (by omega) (by simp)
    simp only [cond_false, hm, hb, hd, Option.bind_some]
    exact ⟨_, rfl, hdc⟩

end Go.Proofs.Ytjbblcdajdpfkaa
