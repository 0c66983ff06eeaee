/- What a row's arguments read as: the data behind them, and that they can be read. -/
import Derived.Test.YtimffallbjpcjaaGreatDoorGxH
import Derived.Lib.SmallJoins
import Derived.Below
import Derived.Carry
import Derived.ChangeOld
set_option linter.unusedVariables false
set_option linter.unusedSimpArgs false
namespace Go.Gx
section
variable {P : Program} {α : Type} {E : Enc α} {w0 w : World} {Ls : List Seg}
theorem Mem.below (h : Mem [] w0 w Ls) : Go.RowKit.Below w0.heap.size w0 w := ⟨h.os, h.tape, h.output, h.size, fun k hk => h.old k hk (by simp)⟩
/-- Every reading at the type t is of cells that E makes. -/
def ReadsAs (P : Program) (t : TypeId) (E : Enc α) (ok : α → Prop) : Prop :=
  P.cellsOf t = E.k ∧ ∀ (H : Type) (enc : TypeId × Value → H) (w : World) (base : Nat) (spare : Nat → Bool) (held : Bool) (fuel : Nat) (cs : List Value) (y : DataW H × List MemPlace), DataW.trod enc P w base spare held fuel t cs = some y → ∃ x, cs = E.cells x ∧ ok x
theorem wf_i64 {n : Int} (h : (Lit.int .i64 n).wf = true) : okI n := by
  simp [Lit.wf, IntKind.min, IntKind.max, IntKind.bits, IntKind.signed] at h
  unfold okI
  omega
theorem readsInt {t : TypeId} (ht : P.underlying t = some (.int .i64)) (hc : P.cellsOf t = 1) : ReadsAs P t encI okI :=
  ⟨hc, fun _ _ _ _ _ _ _ _ _ h => by obtain ⟨n, rfl, _, hw⟩ := DataW.trod_int ht h; exact ⟨n, rfl, wf_i64 hw⟩⟩
theorem readsU8 {t : TypeId} (ht : P.underlying t = some (.int .u8)) (hc : P.cellsOf t = 1) : ReadsAs P t encU8 okU :=
  ⟨hc, fun _ _ _ _ _ _ _ _ _ h => by obtain ⟨n, rfl, _, hw⟩ := DataW.trod_int ht h; exact ⟨n, rfl, hw⟩⟩
theorem readsB {t : TypeId} (ht : P.underlying t = some .bool) (hc : P.cellsOf t = 1) : ReadsAs P t encB okB :=
  ⟨hc, fun _ _ _ _ _ _ _ _ _ h => by obtain ⟨n, rfl, _⟩ := DataW.trod_bool ht h; exact ⟨n, rfl, trivial⟩⟩
theorem readsS {t : TypeId} (ht : P.underlying t = some .string) (hc : P.cellsOf t = 1) : ReadsAs P t encS okS :=
  ⟨hc, fun _ _ _ _ _ _ _ _ _ h => by obtain ⟨n, rfl, _, hw⟩ := DataW.trod_string ht h; exact ⟨n, rfl, hw⟩⟩
theorem cell_block {a : Addr} {v : Value} (h : w.cell? a = some v) : ∃ cs e fr, a = ⟨a.block, a.off, none⟩ ∧ w.heap[a.block]? = some (.cells cs e fr) ∧ cs[a.off]? = some v := by
  have hs := World.cell?_spot h
  unfold World.cell? at h
  split at h
  · rename_i c t fr hb
    rw [hs] at h
    refine ⟨c, t, fr, ?_, hb, by simpa using h⟩
    cases a; simp at hs; subst hs; rfl
  · cases h
theorem add_plain {b o n : Nat} : (⟨b, o, none⟩ : Addr).add n = ⟨b, o + n, none⟩ := by
  unfold Addr.add
  split
  · rename_i h; subst h; rfl
  · rfl
theorem list_of {γ : Type} {n : Nat} {R : Nat → γ → Prop} (h : ∀ i, i < n → ∃ x, R i x) : ∃ xs : List γ, xs.length = n ∧ ∀ i x, xs[i]? = some x → R i x := by
  induction n with
  | zero => exact ⟨[], rfl, by simp⟩
  | succ n ih =>
    obtain ⟨xs, hl, hx⟩ := ih (fun i hi => h i (by omega))
    obtain ⟨x, hR⟩ := h n (by omega)
    refine ⟨xs ++ [x], by simp [hl], fun i y hy => ?_⟩
    rw [List.getElem?_append] at hy
    split at hy
    · exact hx i y hy
    · rename_i hge
      have : i < n + 1 := by
        have := (List.getElem?_eq_some_iff.1 hy).1
        simp at this; omega
      have hi : i = n := by omega
      subst hi
      simp [hl] at hy
      subst hy
      exact hR
theorem open_slice {t e : TypeId} {ok : α → Prop} (hE : ReadsAs P e E ok) (hpos : 0 < E.k) (ht : P.underlying t = some (.slice e)) {H : Type} {enc : TypeId × Value → H} {base : Nat} {spare : Nat → Bool} {held : Bool} {fuel : Nat} {cs : List Value} {y : DataW H × List MemPlace}
    (h : DataW.trod enc P w base spare held fuel t cs = some y) : ∃ (p : Option Addr) (c : Nat) (xs : List α), cs = [.slice p xs.length c] ∧ rdS E w xs p c ∧ xs.length ≤ 9223372036854775807 ∧ ∀ x ∈ xs, ok x := by
  rcases DataW.trod_slice ht h with ⟨rfl, _⟩ | ⟨a, len, cap, elems, rest, n, _, rfl, _, _, hl, hm, hlen, hel, _⟩
  · exact ⟨none, 0, [], rfl, rdS_nil, by simp, by simp⟩
  · have each : ∀ i, i < len → ∃ x : α, ok x ∧ ∀ j, j < E.k → w.cell? ((a.add (i * E.k)).add j) = (E.cells x)[j]? := by
      intro i hi
      have h1 := hel i hi
      rw [List.getElem?_eq_getElem (by omega)] at h1
      obtain ⟨ci, hc, hr⟩ := Option.bind_eq_some_iff.1 h1
      obtain ⟨x, rfl, hx⟩ := hE.2 _ _ _ _ _ _ _ _ _ hr
      obtain ⟨_, _, hc3⟩ := World.cells?_some hc
      rw [hE.1] at hc3
      exact ⟨x, hx, hc3⟩
    obtain ⟨xs, hxl, hxs⟩ := list_of each
    refine ⟨some a, cap, xs, by rw [hxl], ⟨by omega, ?_⟩, by have : cap ≤ 9223372036854775807 := hm; omega, fun x hx => ?_⟩
    · cases xs with
      | nil => exact Or.inl rfl
      | cons x0 r =>
        right
        have h0 := (hxs 0 x0 rfl).2 0 hpos
        rw [List.getElem?_eq_getElem (by rw [E.len]; exact hpos)] at h0
        have h1 : w.cell? a = some ((E.cells x0)[0]'(by rw [E.len]; exact hpos)) := by simpa [Addr.add] using h0
        obtain ⟨C, e', fr, ha, hb, _⟩ := cell_block h1
        refine ⟨a.block, a.off, C, e', fr, by rw [← ha], hb, fun i x hx j v hj => ?_⟩
        have hjk : j < E.k := by
          have := (List.getElem?_eq_some_iff.1 hj).1
          rw [E.len] at this; exact this
        have hcell := (hxs i x hx).2 j hjk
        rw [hj, ha, add_plain, add_plain] at hcell
        simpa [World.cell?, hb] using hcell
    · obtain ⟨i, hi, rfl⟩ := List.mem_iff_getElem.1 hx
      exact (hxs i _ (List.getElem?_eq_getElem hi)).1
theorem open_fields {t : TypeId} {fs : Array Field} (hs : P.underlying t = some (.struct fs)) {H : Type} {enc : TypeId × Value → H} {base : Nat} {spare : Nat → Bool} {held : Bool} {fuel : Nat} {cs : List Value} {y : DataW H × List MemPlace}
    (h : DataW.trod enc P w base spare held fuel t cs = some y) : ∃ n, ∀ (i : Nat) (f : Field), fs[i]? = some f → ∃ z, DataW.trod enc P w base spare held n f.type ((cs.drop f.offset).take (P.cellsOf f.type)) = some z := by
  obtain ⟨xs, n, _, _, _, hl, hf⟩ := DataW.trod_struct hs h
  refine ⟨n, fun i f hi => ?_⟩
  have hlt : i < xs.length := by rw [hl]; exact (Array.getElem?_eq_some_iff.1 hi).1
  exact ⟨xs[i], by rw [hf i f hi, List.getElem?_eq_getElem hlt]⟩
theorem trod_len {t : TypeId} {fs : Array Field} (hs : P.underlying t = some (.struct fs)) {H : Type} {enc : TypeId × Value → H} {base : Nat} {spare : Nat → Bool} {held : Bool} {fuel : Nat} {cs : List Value} {y : DataW H × List MemPlace}
    (h : DataW.trod enc P w base spare held fuel t cs = some y) : cs.length = P.cellsOf t := by
  obtain ⟨_, _, _, _, hl, _⟩ := DataW.trod_struct hs h
  exact hl
theorem field_of {H : Type} {enc : TypeId × Value → H} {base : Nat} {spare : Nat → Bool} {held : Bool} {n : Nat} {fs : Array Field} {cs : List Value}
    (h : ∀ (i : Nat) (f : Field), fs[i]? = some f → ∃ z, DataW.trod enc P w base spare held n f.type ((cs.drop f.offset).take (P.cellsOf f.type)) = some z) (i : Nat) (f : Field) (hf : fs[i]? = some f) (T : TypeId) (sub : List Value) (hT : f.type = T) (hs : (cs.drop f.offset).take (P.cellsOf f.type) = sub) :
    ∃ z, DataW.trod enc P w base spare held n T sub = some z := by
  subst hT hs
  exact h i f hf
end
end Go.Gx
