/- strings.Split and strings.Replace by the library's contracts, with the variables that they look at. -/
import Derived.Test.YtimffallbjpcjaaGreatDoorGxN
import Derived.Test.YtimffallbjpcjaaGreatDoorGxT
import Derived.Lib.Replace
import Derived.Lib.ReplaceLaws
import Derived.Lib.Split
import Derived.Lib.SplitLaws
import Derived.Lib.AtoiAll
import Derived.Below
set_option linter.unusedVariables false
set_option linter.unusedSimpArgs false
namespace Go.Gx
open Go.RowKit (Below)
section
variable {F : List Nat} {w0 w w' : World} {Ls : List Seg}
variable {P : Program}
theorem Mem.ofBelow (h : Below w.heap.size w w') : Mem [] w w' [] :=
  ⟨h.os, h.tape, h.output, h.size, fun k hk _ => h.block k hk, by simp, by simp, by simp, fun k hk => by rw [h.block k hk]⟩
theorem var_mem {nm : String} {cs : Array Value} (h : w.var? P nm = some cs) (hM : Mem [] w w' Ls) : w'.var? P nm = some cs := by
  unfold World.var? at *
  cases hg : P.globalNamed nm with
  | none => rw [hg] at h; cases h
  | some g =>
    rw [hg] at h
    simp only [Option.bind_some] at h ⊢
    have hlt : g < w.heap.size := by
      cases hc : w.heap[g]? with
      | none => rw [hc] at h; cases h
      | some ob => exact lt_of_heap hc
    rw [hM.old g hlt (by simp)]
    exact h
/-- The table, how long a piece the search may compare, and the error of a text that is no number. -/
structure TabY (P : Program) (w : World) : Prop where
  tab : TabX P w
  max : ∃ m : Int, w.var? P "internal/bytealg.MaxLen" = some #[.int .i64 m]
  err : ∃ (tp : TypeId) (p : Value), w.var? P "strconv.ErrSyntax" = some #[.iface tp p]
theorem TabYM (h : TabY P w) (hM : Mem [] w w' Ls) : TabY P w' := by
  obtain ⟨h1, ⟨m, h2⟩, tp, p, h3⟩ := h
  exact ⟨TabM h1 hM, ⟨m, var_mem h2 hM⟩, tp, p, var_mem h3 hM⟩
/-! ### Split -/
def gxSplit (s sep : ByteArray) : List ByteArray := Lib.splitB sep 0 (Lib.countB s sep) s
theorem split_run {f : FuncId} {g : Nat} {t : TypeId} (hg : P.globalNamed "internal/bytealg.MaxLen" = some g)
    (hs : ∀ (s sep : ByteArray) (m : Int) (w : World), s.size < 4294967281 → w.cell? ⟨g, 0, none⟩ = some (.int .i64 m) → 1 ≤ sep.size → Calls P f #[.string s, .string sep] w fun e w' =>
      e = .returned (.slice (some ⟨w.heap.size, 0, none⟩) (Lib.countB s sep + 1) (Lib.countB s sep + 1)) ∧ w' = w.alloc (.cells ((Lib.splitB sep 0 (Lib.countB s sep) s).map Value.string).toArray t))
    (s sep : ByteArray) (w : World) (h0 : s.size ≤ 1048576) (h1 : 1 ≤ sep.size) (ht : TabY P w) :
    Calls P f #[.string s, .string sep] w fun e w' => ∃ (p : Option Addr) (c : Nat) (sg : Seg), e = .returned (.slice p (gxSplit s sep).length c) ∧ ownS encS (gxSplit s sep) p c sg ∧ Mem [] w w' [sg] := by
  obtain ⟨m, hm⟩ := ht.max
  have hc : w.cell? ⟨g, 0, none⟩ = some (.int .i64 m) := by simpa using World.var?_cell hg hm 0
  refine (hs s sep m w (by omega) hc h1).mono ?_
  rintro e w' ⟨rfl, rfl⟩
  have hl : (gxSplit s sep).length = Lib.countB s sep + 1 := Lib.splitB_all sep h1 0 _ s rfl
  have hb : Lib.countB s sep ≤ s.size := by
    have := Lib.countB_mul_le sep h1 s.size s (Nat.le_refl _)
    have h2 : Lib.countB s sep * 1 ≤ Lib.countB s sep * sep.size := Nat.mul_le_mul_left _ h1
    omega
  refine ⟨some ⟨w.heap.size, 0, none⟩, Lib.countB s sep + 1, [(w.heap.size, .cells ((gxSplit s sep).map Value.string).toArray t (0, 0))], by rw [hl], Or.inr ⟨w.heap.size, 0, _, t, rfl, rfl, by omega, by unfold maxLen; omega, ?_, ?_⟩, ?_⟩
  · simp [hl, encS]
  · intro i x hx j v hv
    have hj : j = 0 := by
      cases j with
      | zero => rfl
      | succ j => simp [encS] at hv
    subst hj
    simp only [encS, List.getElem?_cons_zero, Option.some.injEq] at hv
    subst hv
    simp [encS, hx]
  · exact Mem.new w _ rfl
/-! ### Replace -/
def gxRepl (s old new : ByteArray) (n : Int) : ByteArray := ⟨(Lib.replace s.data.toList old.data.toList new.data.toList n).toArray⟩
theorem repl_run {f : FuncId} {g : Nat} (hg : P.globalNamed "internal/bytealg.MaxLen" = some g)
    (hs : ∀ (s old new : ByteArray) (n m : Int) (w : World), s.size < 4294967281 → w.cell? ⟨g, 0, none⟩ = some (.int .i64 m) → 1 ≤ old.size → s.size + Lib.countB s old * new.size ≤ 140737488355328 →
      Calls P f #[.string s, .string old, .string new, .int .i64 n] w fun e w' => e = .returned (.string ⟨(Lib.replace s.data.toList old.data.toList new.data.toList n).toArray⟩) ∧ Below w.heap.size w w')
    (s old new : ByteArray) (n : Int) (w : World) (h0 : s.size ≤ 1048576) (h1 : 1 ≤ old.size) (h2 : new.size ≤ 1000) (ht : TabY P w) :
    Calls P f #[.string s, .string old, .string new, .int .i64 n] w fun e w' => e = .returned (.string (gxRepl s old new n)) ∧ Mem [] w w' [] := by
  obtain ⟨m, hm⟩ := ht.max
  have hc : w.cell? ⟨g, 0, none⟩ = some (.int .i64 m) := by simpa using World.var?_cell hg hm 0
  have hb : Lib.countB s old ≤ s.size := by
    have := Lib.countB_mul_le old h1 s.size s (Nat.le_refl _)
    have h2 : Lib.countB s old * 1 ≤ Lib.countB s old * old.size := Nat.mul_le_mul_left _ h1
    omega
  have hb2 : Lib.countB s old * new.size ≤ 1048576 * 1000 := Nat.mul_le_mul (by omega) h2
  refine (hs s old new n m w (by omega) hc h1 (by omega)).mono ?_
  rintro e w' ⟨rfl, hw⟩
  exact ⟨rfl, Mem.ofBelow hw⟩
/-! ### A text read as a number (impl.ParseInt: at most seven letters, within a million, and written back the same) -/
def gxParse (x : ByteArray) : Int × Bool :=
  bif decide ((x.size : Int) > 7) then (0, false) else match Lib.atoiAll x.data.toList with
  | .ok v => bif (decide (-999999 ≤ v) && decide (v ≤ 999999)) && decide (gxItoa v = x) then (v, true) else (0, false)
  | _ => (0, false)
end
end Go.Gx
