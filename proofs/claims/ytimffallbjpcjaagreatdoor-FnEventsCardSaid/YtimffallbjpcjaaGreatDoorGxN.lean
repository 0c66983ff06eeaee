/- Parts of texts; texts of numbers by the library's contract, with the table that it looks into. -/
import Derived.Test.YtimffallbjpcjaaGreatDoorGxL
import Derived.Lib.LaidTab
import Derived.Lib.ItoaNum
import Derived.Sort.Grow
import Derived.Deep.Draws
set_option linter.unusedVariables false
set_option linter.unusedSimpArgs false
namespace Go.Gx
section
variable {F : List Nat} {w0 w w' : World} {Ls : List Seg}
variable {P : Program} {ops : Array Oper} {n : Nat} {Q : Exit → Act → World → Prop} {S : Store} {rest : List Oper} {o : Oper}
def gxSSub (s : ByteArray) (l h : Int) : Option ByteArray := if 0 ≤ l ∧ l ≤ h ∧ h ≤ (s.size : Int) then some (s.extract l.toNat h.toNat) else none
theorem E_strSub (t : TypeId) (x : Operand) (lo hi : Option Operand) (s : ByteArray) (l h : Int) (z : ByteArray) (ho : o.op = .slice t x lo hi none)
    (hx : evalO S x = some (.string s)) (hl : (lo = none ∧ l = 0) ∨ ∃ y, lo = some y ∧ evalO S y = some (.int .i64 l)) (hh : (hi = none ∧ h = (s.size : Int)) ∨ ∃ y, hi = some y ∧ evalO S y = some (.int .i64 h))
    (ht : P.underlying t = some .string) (hm : gxSSub s l h = some z) :
    (execOp (rho S) o).run P w = .ok (.value (.string z)) w := by
  unfold gxSSub at hm
  split at hm
  · rename_i hc
    obtain ⟨h0, h1, h2⟩ := hc
    simp only [Option.some.injEq] at hm
    subst hm
    have hb1 : ∀ code, (Instr.sliceBound (.int .i64 h) s.size code).run P w = .ok h.toNat w := fun code => by
      have : 0 ≤ h ∧ h ≤ (s.size : Int) := ⟨by omega, by omega⟩
      simp only [Instr.sliceBound, asIntOf, Sem.run_bind, Sem.run_pure, Result.andThen_ok, if_pos this]
    have hb2 : ∀ code, (Instr.sliceBound (.int .i64 l) h.toNat code).run P w = .ok l.toNat w := fun code => by
      have : 0 ≤ l ∧ l ≤ (h.toNat : Int) := ⟨by omega, by omega⟩
      simp only [Instr.sliceBound, asIntOf, Sem.run_bind, Sem.run_pure, Result.andThen_ok, if_pos this]
    have key : (Instr.sliceBounds false s.size s.size (lo.map (rho S)) (hi.map (rho S)) none).run P w = .ok (l.toNat, h.toNat, s.size) w := by
      rcases hl with ⟨rfl, rfl⟩ | ⟨yl, rfl, hyl⟩ <;> rcases hh with ⟨rfl, rfl⟩ | ⟨yh, rfl, hyh⟩ <;> simp only [Instr.sliceBounds, Option.map_none, Option.map_some, rho, Option.getD_some, *] <;>
        simp [hb1, hb2]
      · have : l ≤ (s.size : Int) := by omega
        have hb3 : ∀ code, (Instr.sliceBound (.int .i64 l) s.size code).run P w = .ok l.toNat w := fun code => by simp [Instr.sliceBound, asIntOf, h0, this]
        simp [hb3]
    unfold execOp
    simp only [ho, Instr.sliceAt, Sem.run_bind, run_underlying ht, Result.andThen_ok, rho, hx, Option.getD_some, Instr.slice, Option.map_none]
    have key' : (Instr.sliceBounds false s.size s.size (Option.map (fun x => (evalO S x).getD undef) lo) (Option.map (fun x => (evalO S x).getD undef) hi) none).run P w = .ok (l.toNat, h.toNat, s.size) w := key
    simp [key, key', run_underlying ht]
  · cases hm
/-! ### Texts of numbers -/
def gxItoa (n : Int) : ByteArray := ⟨(Lib.itoa n).toArray⟩
def TabX (P : Program) (w : World) : Prop := Lib.TabIs P w "internal/strconv.uint64pow10" .u64 Lib.pow10Tab
theorem TabM (h : TabX P w) (hM : Mem [] w w' Ls) : TabX P w' := by
  unfold TabX Lib.TabIs World.var? at *
  cases hg : P.globalNamed "internal/strconv.uint64pow10" with
  | none => rw [hg] at h; cases h
  | some g =>
    rw [hg] at h
    simp only [Option.bind_some] at h ⊢
    have hlt : g < w.heap.size := by
      cases hc : w.heap[g]? with
      | none => rw [hc] at h; cases h
      | some ob => exact lt_of_heap hc
    rw [hM.old g hlt (by simp)]
    exact h
theorem Mem.grewN (w : World) (k : Nat) (os : Array Obj) : Mem [] w (Go.Sort.grow (w.drewN k) os) [] := by
  have hh : (w.drewN k).heap = w.heap := by
    simp
  have h : ∀ i, i < w.heap.size → (Go.Sort.grow (w.drewN k) os).heap[i]? = w.heap[i]? := fun i hi => by
    show ((w.drewN k).heap ++ os)[i]? = _
    rw [hh, Array.getElem?_append, if_pos hi]
  refine ⟨?_, ?_, ?_, ?_, fun i hi _ => h i hi, by simp, by simp, by simp, fun i hi => by rw [h i hi]⟩
  · rfl
  · rfl
  · rfl
  · show w.heap.size ≤ ((w.drewN k).heap ++ os).size
    rw [hh]
    simp
theorem itoa_run {f : FuncId} (hs : ∀ (n : Int), -9223372036854775808 ≤ n → n ≤ 9223372036854775807 → ∀ (w : World), Lib.TabIs P w "internal/strconv.uint64pow10" .u64 Lib.pow10Tab → Calls P f #[.int .i64 n] w fun e w' => e = .returned (.string ⟨(Lib.itoa n).toArray⟩) ∧ ∃ k os, w' = Go.Sort.grow (w.drewN k) os)
    (n : Int) (w : World) (h0 : -9223372036854775808 ≤ n) (h1 : n ≤ 9223372036854775807) (ht : TabX P w) : Calls P f #[.int .i64 n] w fun e w' => e = .returned (.string (gxItoa n)) ∧ Mem [] w w' [] := by
  refine (hs n h0 h1 w ht).mono ?_
  rintro e w' ⟨rfl, k, os, rfl⟩
  exact ⟨rfl, Mem.grewN w k os⟩
end
end Go.Gx
