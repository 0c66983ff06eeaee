/- What arguments read as, when their elements have slices of their own. -/
import Derived.Test.YtllhajkgkghhdaaGreatGxR
import Derived.Test.YtllhajkgkghhdaaGreatGxI
set_option linter.unusedVariables false
set_option linter.unusedSimpArgs false
namespace Go.Gx
section
variable {P : Program} {α : Type} {D : Deep α} {w : World}
def ReadsDeep (P : Program) (t : TypeId) (D : Deep α) (ok : α → Prop) : Prop :=
  P.cellsOf t = D.E.k ∧ ∀ (H : Type) (enc : TypeId × Value → H) (w : World) (base : Nat) (spare : Nat → Bool) (held : Bool) (fuel : Nat) (cs : List Value) (y : DataW H × List MemPlace), DataW.trod enc P w base spare held fuel t cs = some y → ∃ z, cs = D.E.cells z ∧ rdI w (D.inner z) ∧ ok z.1
theorem rdI_nil : rdI w [] := fun i hi => by cases hi
theorem rdI_cons {i : Inn} {l : List Inn} (h : rdS i.E w i.xs i.p i.c) (h2 : rdI w l) : rdI w (i :: l) := fun j hj => by
  rcases List.mem_cons.1 hj with rfl | hj
  · exact h
  · exact h2 j hj
theorem readsL {β : Type} {E : Enc β} {t e : TypeId} {ok : β → Prop} (hE : ReadsAs P e E ok) (hpos : 0 < E.k) (ht : P.underlying t = some (.slice e)) (hc : P.cellsOf t = 1) : ReadsDeep P t (deepL E) (okL ok) :=
  ⟨hc, fun H enc w base spare held fuel cs y h => by
    obtain ⟨p, c, xs, rfl, hr, hl, ho⟩ := open_slice hE hpos ht h
    exact ⟨(xs, plOf [(p, c)]), rfl, rdI_cons (i := ⟨β, E, xs, p, c⟩) hr rdI_nil, hl, ho⟩⟩
theorem open_deep {t e : TypeId} {ok : α → Prop} (hE : ReadsDeep P e D ok) (hpos : 0 < D.E.k) (ht : P.underlying t = some (.slice e)) {H : Type} {enc : TypeId × Value → H} {base : Nat} {spare : Nat → Bool} {held : Bool} {fuel : Nat} {cs : List Value} {y : DataW H × List MemPlace}
    (h : DataW.trod enc P w base spare held fuel t cs = some y) : ∃ (p : Option Addr) (c : Nat) (xs : List α), cs = [.slice p xs.length c] ∧ rdD D w xs p c ∧ xs.length ≤ 9223372036854775807 ∧ ∀ x ∈ xs, ok x := by
  rcases DataW.trod_slice ht h with ⟨rfl, _⟩ | ⟨a, len, cap, elems, rest, n, _, rfl, _, _, hl, hm, hlen, hel, _⟩
  · exact ⟨none, 0, [], rfl, rdD_nil, by simp, by simp⟩
  · have each : ∀ i, i < len → ∃ z : α × Pl, (rdI w (D.inner z) ∧ ok z.1) ∧ ∀ j, j < D.E.k → w.cell? ((a.add (i * D.E.k)).add j) = (D.E.cells z)[j]? := by
      intro i hi
      have h1 := hel i hi
      rw [List.getElem?_eq_getElem (by omega)] at h1
      obtain ⟨ci, hc, hr⟩ := Option.bind_eq_some_iff.1 h1
      obtain ⟨x, rfl, hx⟩ := hE.2 _ _ _ _ _ _ _ _ _ hr
      obtain ⟨_, _, hc3⟩ := World.cells?_some hc
      rw [hE.1] at hc3
      exact ⟨x, hx, hc3⟩
    obtain ⟨zs, hxl, hxs⟩ := list_of each
    refine ⟨some a, cap, zs.map Prod.fst, by rw [List.length_map, hxl], ⟨zs, rfl, ⟨by omega, ?_⟩, fun i hi => ?_⟩, by rw [List.length_map]; have : cap ≤ 9223372036854775807 := hm; omega, fun x hx => ?_⟩
    · cases zs with
      | nil => exact Or.inl rfl
      | cons x0 r =>
        right
        have h0 := (hxs 0 x0 rfl).2 0 hpos
        rw [List.getElem?_eq_getElem (by rw [D.E.len]; exact hpos)] at h0
        have h1 : w.cell? a = some ((D.E.cells x0)[0]'(by rw [D.E.len]; exact hpos)) := by simpa [Addr.add] using h0
        obtain ⟨C, e', fr, ha, hb, _⟩ := cell_block h1
        refine ⟨a.block, a.off, C, e', fr, by rw [← ha], hb, fun i x hx j v hj => ?_⟩
        have hjk : j < D.E.k := by
          have := (List.getElem?_eq_some_iff.1 hj).1
          rw [D.E.len] at this; exact this
        have hcell := (hxs i x hx).2 j hjk
        rw [hj, ha, add_plain, add_plain] at hcell
        simpa [World.cell?, hb] using hcell
    · obtain ⟨z, hz, hi⟩ := List.mem_flatMap.1 hi
      obtain ⟨k, hk, rfl⟩ := List.mem_iff_getElem.1 hz
      exact (hxs k _ (List.getElem?_eq_getElem hk)).1.1 i hi
    · obtain ⟨z, hz, rfl⟩ := List.mem_map.1 hx
      obtain ⟨k, hk, rfl⟩ := List.mem_iff_getElem.1 hz
      exact (hxs k _ (List.getElem?_eq_getElem hk)).1.2
end
end Go.Gx
