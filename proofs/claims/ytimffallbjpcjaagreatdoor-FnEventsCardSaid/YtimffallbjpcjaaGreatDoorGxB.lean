/- What is owned of memory: a list of segments, each a list of blocks with their contents; what an argument reads as. -/
import Derived.Test.YtimffallbjpcjaaGreatDoorGxA
set_option linter.unusedVariables false
set_option linter.unusedSimpArgs false
namespace Go.Gx
abbrev Seg := List (Nat × Obj)
abbrev idsOf (Ls : List Seg) : List Nat := Ls.flatten.map (·.1)
/-- The part of a block that may not be written. -/
def fzOf : Option Obj → Nat × Nat
  | some (.cells _ _ fr) => fr
  | _ => (0, 0)
/-- Since w0: what was there, but for the blocks of F, is as it was; the blocks of Ls hold what Ls says, are new or of F, and differ. -/
structure Mem (F : List Nat) (w0 w : World) (Ls : List Seg) : Prop where
  os : w.os = w0.os
  tape : w.tape = w0.tape
  output : w.output = w0.output
  size : w0.heap.size ≤ w.heap.size
  old : ∀ k, k < w0.heap.size → k ∉ F → w.heap[k]? = w0.heap[k]?
  has : ∀ p ∈ Ls.flatten, w.heap[p.1]? = some p.2
  place : ∀ p ∈ Ls.flatten, w0.heap.size ≤ p.1 ∨ p.1 ∈ F
  nodup : (Ls.flatten.map (·.1)).Nodup
  frz : ∀ k : Nat, k < w0.heap.size → fzOf w.heap[k]? = fzOf w0.heap[k]?
theorem lt_of_heap {w : World} {k : Nat} {o : Obj} (h : w.heap[k]? = some o) : k < w.heap.size := (Array.getElem?_eq_some_iff.1 h).1
section
variable {F : List Nat} {w0 w w' : World} {Ls L2 : List Seg}
theorem Mem.refl (F : List Nat) (w : World) : Mem F w w [] := ⟨rfl, rfl, rfl, Nat.le_refl _, fun _ _ _ => rfl, by simp, by simp, by simp, fun _ _ => rfl⟩
theorem Mem.lt (h : Mem F w0 w Ls) {p : Nat × Obj} (hp : p ∈ Ls.flatten) : p.1 < w.heap.size := lt_of_heap (h.has p hp)
theorem Mem.drew (h : Mem F w0 w Ls) : Mem F w0 { w with drawn := w.drawn + 1 } Ls := ⟨h.os, h.tape, h.output, h.size, h.old, h.has, h.place, h.nodup, h.frz⟩
theorem Mem.call (h : Mem F w0 w Ls) (hc : Mem [] w w' L2) : Mem F w0 w' (Ls ++ L2) := by
  refine ⟨hc.os.trans h.os, hc.tape.trans h.tape, hc.output.trans h.output, Nat.le_trans h.size hc.size, ?_, ?_, ?_, ?_, fun k hk => (hc.frz k (Nat.lt_of_lt_of_le hk h.size)).trans (h.frz k hk)⟩
  · intro k hk hF
    rw [hc.old k (Nat.lt_of_lt_of_le hk h.size) (by simp), h.old k hk hF]
  · intro p hp
    rw [List.flatten_append, List.mem_append] at hp
    rcases hp with hp | hp
    · rw [hc.old p.1 (h.lt hp) (by simp), h.has p hp]
    · exact hc.has p hp
  · intro p hp
    rw [List.flatten_append, List.mem_append] at hp
    rcases hp with hp | hp
    · exact h.place p hp
    · rcases hc.place p hp with h1 | h1
      · exact Or.inl (Nat.le_trans h.size h1)
      · cases h1
  · rw [List.flatten_append, List.map_append, List.nodup_append]
    refine ⟨h.nodup, hc.nodup, ?_⟩
    intro a ha b hb hab
    subst hab
    obtain ⟨p, hp, rfl⟩ := List.mem_map.1 ha
    obtain ⟨q, hq, hqp⟩ := List.mem_map.1 hb
    have h1 := h.lt hp
    rcases hc.place q hq with h2 | h2
    · omega
    · cases h2
theorem Mem.call0 (h : Mem F w0 w Ls) (hc : Mem [] w w' []) : Mem F w0 w' Ls := by simpa using h.call hc
theorem Mem.call1 {s1 : Seg} (h : Mem F w0 w Ls) (hc : Mem [] w w' [s1]) : Mem F w0 w' (Ls ++ [s1]) := h.call hc
theorem Mem.new (w : World) (o : Obj) (ho : fzOf (some o) = (0, 0)) : Mem [] w (w.alloc o) [[(w.heap.size, o)]] :=
  ⟨rfl, rfl, rfl, by simp, fun k hk _ => heap_alloc_old w o hk, fun p hp => by simp at hp; subst hp; exact heap_alloc_new w o, by simp, by simp, fun k hk => by
    rw [heap_alloc_old w o hk]⟩
theorem Mem.alloc (h : Mem F w0 w Ls) (o : Obj) (ho : fzOf (some o) = (0, 0)) : Mem F w0 (w.alloc o) (Ls ++ [[(w.heap.size, o)]]) := h.call (Mem.new w o ho)
/-- A selection: other segments in another order, of the same blocks. -/
theorem Mem.part (h : Mem F w0 w Ls) (hs : ∀ p ∈ L2.flatten, p ∈ Ls.flatten) (hn : (L2.flatten.map (·.1)).Nodup) : Mem F w0 w L2 :=
  ⟨h.os, h.tape, h.output, h.size, h.old, fun p hp => h.has p (hs p hp), fun p hp => h.place p (hs p hp), hn, h.frz⟩
theorem Mem.perm (h : Mem F w0 w Ls) (hs : L2.Perm Ls) : Mem F w0 w L2 :=
  h.part (fun _ hp => (hs.flatten.mem_iff).1 hp) (((hs.flatten.map _).nodup_iff).2 h.nodup)
theorem Mem.permF (h : Mem F w0 w Ls) (hs : L2.flatten.Perm Ls.flatten) : Mem F w0 w L2 :=
  h.part (fun _ hp => (hs.mem_iff).1 hp) (((hs.map _).nodup_iff).2 h.nodup)
/-- Chosen by their places. -/
def pick (Ls : List Seg) : List Nat → List Seg
  | [] => []
  | i :: r => Ls.getD i [] :: pick Ls r
theorem getD_split : ∀ (Ls : List Seg) (i : Nat), i < Ls.length → ∃ A B, Ls = A ++ Ls.getD i [] :: B ∧ A.length = i
  | [], i, h => by simp at h
  | x :: r, 0, _ => ⟨[], r, by simp, rfl⟩
  | x :: r, i + 1, h => by
    obtain ⟨A, B, hA, hl⟩ := getD_split r i (by simpa using h)
    refine ⟨x :: A, B, ?_, by simp [hl]⟩
    simp only [List.getD_cons_succ, List.cons_append, List.cons.injEq, true_and]
    exact hA
theorem mem_getD {Ls : List Seg} {i : Nat} {p : Nat × Obj} (hp : p ∈ Ls.getD i []) : p ∈ Ls.flatten := by
  by_cases hi : i < Ls.length
  · rw [List.getD_eq_getElem?_getD, List.getElem?_eq_getElem hi] at hp
    exact List.mem_flatten.2 ⟨_, List.getElem_mem hi, hp⟩
  · rw [List.getD_eq_getElem?_getD, List.getElem?_eq_none (by omega)] at hp
    simp at hp
theorem apart_getD {Ls : List Seg} (hn : (Ls.flatten.map (·.1)).Nodup) {i j : Nat} (hij : i ≠ j) {p q : Nat × Obj} (hp : p ∈ Ls.getD i []) (hq : q ∈ Ls.getD j []) : p.1 ≠ q.1 := by
  have key : ∀ {i j : Nat}, i < j → ∀ {p q : Nat × Obj}, p ∈ Ls.getD i [] → q ∈ Ls.getD j [] → p.1 ≠ q.1 := by
    intro i j hlt p q hp hq
    have hi : i < Ls.length := by
      rcases Nat.lt_or_ge i Ls.length with h | h
      · exact h
      · rw [List.getD_eq_getElem?_getD, List.getElem?_eq_none h] at hp; simp at hp
    obtain ⟨A, B, hA, hl⟩ := getD_split Ls i hi
    have hq' : q ∈ B.flatten := by
      have : Ls.getD j [] = B.getD (j - i - 1) [] := by
        conv => lhs; rw [hA]
        rw [List.getD_eq_getElem?_getD, List.getElem?_append_right (by omega), hl, show j - i = (j - i - 1) + 1 by omega, List.getElem?_cons_succ, ← List.getD_eq_getElem?_getD]
        simp
      rw [this] at hq
      exact mem_getD hq
    rw [hA] at hn
    simp only [List.flatten_append, List.flatten_cons, List.map_append] at hn
    have h2 := (List.nodup_append.1 (List.nodup_append.1 hn).2.1).2.2
    exact h2 p.1 (List.mem_map_of_mem hp) q.1 (List.mem_map_of_mem hq')
  rcases Nat.lt_or_gt_of_ne hij with h | h
  · exact key h hp hq
  · exact fun e => key h hq hp e.symm
theorem nodup_getD {Ls : List Seg} (hn : (Ls.flatten.map (·.1)).Nodup) (i : Nat) : ((Ls.getD i []).map (·.1)).Nodup := by
  by_cases hi : i < Ls.length
  · obtain ⟨A, B, hA, _⟩ := getD_split Ls i hi
    rw [hA] at hn
    simp only [List.flatten_append, List.flatten_cons, List.map_append] at hn
    exact (List.nodup_append.1 (List.nodup_append.1 hn).2.1).1
  · rw [List.getD_eq_getElem?_getD, List.getElem?_eq_none (by omega)]
    simp
theorem mem_pick {Ls : List Seg} : ∀ (is : List Nat) {p : Nat × Obj}, p ∈ (pick Ls is).flatten → ∃ i ∈ is, p ∈ Ls.getD i []
  | [], _, h => by simp [pick] at h
  | i :: r, _, h => by
    simp only [pick, List.flatten_cons, List.mem_append] at h
    rcases h with h | h
    · exact ⟨i, by simp, h⟩
    · obtain ⟨j, hj, hp⟩ := mem_pick r h
      exact ⟨j, by simp [hj], hp⟩
theorem nodup_pick {Ls : List Seg} (hn : (Ls.flatten.map (·.1)).Nodup) : ∀ (is : List Nat), is.Nodup → ((pick Ls is).flatten.map (·.1)).Nodup
  | [], _ => by simp [pick]
  | i :: r, h => by
    rw [List.nodup_cons] at h
    simp only [pick, List.flatten_cons, List.map_append, List.nodup_append]
    refine ⟨nodup_getD hn i, nodup_pick hn r h.2, ?_⟩
    intro a ha b hb hab
    subst hab
    obtain ⟨p, hp, rfl⟩ := List.mem_map.1 ha
    obtain ⟨q, hq, hqp⟩ := List.mem_map.1 hb
    obtain ⟨j, hj, hqj⟩ := mem_pick r hq
    exact apart_getD hn (fun (e : i = j) => h.1 (e ▸ hj)) hp hqj hqp.symm
def distinct : List Nat → Bool
  | [] => true
  | i :: r => (!(r.any (Nat.beq i))) && distinct r
theorem distinct_spec : ∀ {l : List Nat}, distinct l = true → l.Nodup
  | [], _ => by simp
  | i :: r, h => by
    simp only [distinct, Bool.and_eq_true, Bool.not_eq_true'] at h
    rw [List.nodup_cons]
    refine ⟨fun hm => ?_, distinct_spec h.2⟩
    have : r.any (Nat.beq i) = true := List.any_eq_true.2 ⟨i, hm, by simp⟩
    rw [h.1] at this
    cases this
theorem Mem.pick (h : Mem F w0 w Ls) (is : List Nat) (hd : distinct is = true) : Mem F w0 w (Gx.pick Ls is) :=
  h.part (fun p hp => by obtain ⟨i, _, hi⟩ := mem_pick is hp; exact mem_getD hi) (nodup_pick h.nodup is (distinct_spec hd))
/-- A call that takes the segments at the places 'is' and hands back L2 in their place. -/
theorem Mem.callF (h : Mem F w0 w Ls) (is js : List Nat) (hd : distinct (is ++ js) = true) (hc : Mem ((Gx.pick Ls is).flatten.map (·.1)) w w' L2) : Mem F w0 w' (Gx.pick Ls js ++ L2) := by
  have hnd := distinct_spec hd
  rw [List.nodup_append] at hnd
  have hapart : ∀ p ∈ (Gx.pick Ls js).flatten, p.1 ∉ (Gx.pick Ls is).flatten.map (·.1) := by
    intro p hp hm
    obtain ⟨q, hq, hqp⟩ := List.mem_map.1 hm
    obtain ⟨j, hj, hpj⟩ := mem_pick js hp
    obtain ⟨i, hi, hqi⟩ := mem_pick is hq
    exact apart_getD h.nodup (hnd.2.2 i hi j hj) hqi hpj hqp
  have hF : ∀ k ∈ (Gx.pick Ls is).flatten.map (·.1), w0.heap.size ≤ k ∨ k ∈ F := by
    intro k hk
    obtain ⟨q, hq, rfl⟩ := List.mem_map.1 hk
    obtain ⟨i, _, hqi⟩ := mem_pick is hq
    exact h.place q (mem_getD hqi)
  have hlt : ∀ p ∈ (Gx.pick Ls js).flatten, p.1 < w.heap.size := fun p hp => by
    obtain ⟨j, _, hpj⟩ := mem_pick js hp
    exact h.lt (mem_getD hpj)
  refine ⟨hc.os.trans h.os, hc.tape.trans h.tape, hc.output.trans h.output, Nat.le_trans h.size hc.size, ?_, ?_, ?_, ?_, fun k hk => (hc.frz k (Nat.lt_of_lt_of_le hk h.size)).trans (h.frz k hk)⟩
  · intro k hk hkF
    rw [hc.old k (Nat.lt_of_lt_of_le hk h.size) (fun hm => by rcases hF k hm with h1 | h1; omega; exact hkF h1), h.old k hk hkF]
  · intro p hp
    rw [List.flatten_append, List.mem_append] at hp
    rcases hp with hp | hp
    · rw [hc.old p.1 (hlt p hp) (hapart p hp)]
      obtain ⟨j, _, hpj⟩ := mem_pick js hp
      exact h.has p (mem_getD hpj)
    · exact hc.has p hp
  · intro p hp
    rw [List.flatten_append, List.mem_append] at hp
    rcases hp with hp | hp
    · obtain ⟨j, _, hpj⟩ := mem_pick js hp
      exact h.place p (mem_getD hpj)
    · rcases hc.place p hp with h1 | h1
      · exact Or.inl (Nat.le_trans h.size h1)
      · exact hF _ h1
  · rw [List.flatten_append, List.map_append, List.nodup_append]
    refine ⟨nodup_pick h.nodup js hnd.2.1, hc.nodup, ?_⟩
    intro a ha b hb hab
    subst hab
    obtain ⟨p, hp, rfl⟩ := List.mem_map.1 ha
    obtain ⟨q, hq, hqp⟩ := List.mem_map.1 hb
    rcases hc.place q hq with h2 | h2
    · have := hlt p hp; omega
    · exact hapart p hp (hqp ▸ h2)
/-- What a function gets to change, at its beginning. -/
theorem Mem.start (w : World) (Ls : List Seg) (h : ∀ p ∈ Ls.flatten, w.heap[p.1]? = some p.2) (hn : (Ls.flatten.map (·.1)).Nodup) : Mem (Ls.flatten.map (·.1)) w w Ls :=
  ⟨rfl, rfl, rfl, Nat.le_refl _, fun _ _ _ => rfl, h, fun _ hp => Or.inr (List.mem_map_of_mem hp), hn, fun _ _ => rfl⟩
theorem Mem.hasPick (h : Mem F w0 w Ls) (is : List Nat) : ∀ q ∈ (Gx.pick Ls is).flatten, w.heap[q.1]? = some q.2 := fun q hq => by
  obtain ⟨i, _, hi⟩ := mem_pick is hq
  exact h.has q (mem_getD hi)
theorem Mem.nodupPick (h : Mem F w0 w Ls) (is : List Nat) (hd : distinct is = true) : (idsOf (Gx.pick Ls is)).Nodup := nodup_pick h.nodup is (distinct_spec hd)
/-- The same segments, gathered otherwise. -/
theorem Mem.regroup (h : Mem F w0 w Ls) (he : L2.flatten = Ls.flatten) : Mem F w0 w L2 :=
  h.part (fun _ hp => he ▸ hp) (he ▸ h.nodup)
theorem Mem.at_ (h : Mem F w0 w Ls) (i : Nat) {s : Seg} (hi : Ls.getD i [] = s) {p : Nat × Obj} (hp : p ∈ s) : w.heap[p.1]? = some p.2 :=
  h.has p (mem_getD (by rw [hi]; exact hp))
theorem Mem.blk (h : Mem F w0 w Ls) (i : Nat) {b : Nat} {o : Obj} (hi : Ls.getD i [] = [(b, o)]) : w.heap[b]? = some o :=
  h.at_ i hi (p := (b, o)) (by simp)
theorem set_flatten_ids {Ls : List Seg} : ∀ (i : Nat) {b : Nat} {o o' : Obj}, Ls.getD i [] = [(b, o)] → ((Ls.set i [(b, o')]).flatten.map (·.1)) = Ls.flatten.map (·.1) := by
  induction Ls with
  | nil => intro i b o o' h; simp at h
  | cons x r ih =>
    intro i b o o' h
    cases i with
    | zero => simp at h; subst h; simp
    | succ i => simp only [List.getD_cons_succ] at h; simp [ih i (o' := o') h]
theorem mem_set {Ls : List Seg} {i : Nat} {s : Seg} {p : Nat × Obj} (hp : p ∈ (Ls.set i s).flatten) : p ∈ s ∨ ∃ j, j ≠ i ∧ p ∈ Ls.getD j [] := by
  obtain ⟨t, ht, hpt⟩ := List.mem_flatten.1 hp
  obtain ⟨j, hj, rfl⟩ := List.mem_iff_getElem.1 ht
  rw [List.getElem_set] at hpt
  split at hpt
  · exact Or.inl hpt
  · rename_i hne
    refine Or.inr ⟨j, fun e => hne e.symm, ?_⟩
    rw [List.length_set] at hj
    rw [List.getD_eq_getElem?_getD, List.getElem?_eq_getElem hj]
    exact hpt
/-- One block of its own written anew. -/
theorem Mem.set (h : Mem F w0 w Ls) (i : Nat) {b : Nat} {o : Obj} (o' : Obj) (hi : Ls.getD i [] = [(b, o)])
    (h1 : w'.os = w.os) (h2 : w'.tape = w.tape) (h3 : w'.output = w.output) (h4 : w'.heap.size = w.heap.size) (h5 : w'.heap[b]? = some o') (h6 : ∀ k, k ≠ b → w'.heap[k]? = w.heap[k]?) (h7 : fzOf (some o') = fzOf (some o)) :
    Mem F w0 w' (Ls.set i [(b, o')]) := by
  have hb : w0.heap.size ≤ b ∨ b ∈ F := h.place (b, o) (mem_getD (i := i) (by rw [hi]; simp))
  refine ⟨h1.trans h.os, h2.trans h.tape, h3.trans h.output, by rw [h4]; exact h.size, ?_, ?_, ?_, ?_, fun k hk0 => ?_⟩
  · intro k hk hF
    rw [h6 k (fun e => by subst e; rcases hb with hb | hb; exact absurd hk (by omega); exact hF hb), h.old k hk hF]
  · intro p hp
    rcases mem_set hp with hp | ⟨j, hj, hp⟩
    · simp only [List.mem_singleton] at hp; subst hp; exact h5
    · have hne : p.1 ≠ b := apart_getD h.nodup hj hp (q := (b, o)) (by rw [hi]; simp)
      rw [h6 p.1 hne]
      exact h.has p (mem_getD hp)
  · intro p hp
    rcases mem_set hp with hp | ⟨j, hj, hp⟩
    · simp only [List.mem_singleton] at hp; subst hp; exact hb
    · exact h.place p (mem_getD hp)
  · rw [set_flatten_ids i hi]; exact h.nodup
  · rw [← h.frz k hk0]
    by_cases hk : k = b
    · subst hk
      rw [h5, h7, h.has (k, o) (mem_getD (i := i) (by rw [hi]; simp))]
    · rw [h6 k hk]
theorem Mem.kept (h : Mem [] w0 w Ls) (may : MemPlace → Prop) : w0.keptBut w may := by
  refine ⟨h.os, h.output, fun i hi => ?_⟩
  rw [h.old i hi (by simp)]
  cases hw : w0.heap[i]? with
  | none => trivial
  | some o => cases o <;> simp
end
end Go.Gx
