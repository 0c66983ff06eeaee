/- Texts: their bytes, joining them, bytes made to texts. -/
import Derived.Test.YtimffallbjpcjaaGreatDoorGxI
import Derived.Laws.BytesString
set_option linter.unusedVariables false
set_option linter.unusedSimpArgs false
namespace Go.Gx
section
variable {α : Type} {E : Enc α} {F : List Nat} {w0 w w' : World} {Ls : List Seg} {xs ys : List α} {p q : Option Addr} {c : Nat} {seg : Seg}
variable {P : Program} {ops : Array Oper} {n : Nat} {Q : Exit → Act → World → Prop} {S : Store} {rest : List Oper} {o : Oper}
def gxSIdx (s : ByteArray) (i : Int) : Option Int := if 0 ≤ i then (s[i.toNat]?).map fun b => (b.toNat : Int) else none
theorem E_strIdx (t : TypeId) (x ix : Operand) (s : ByteArray) (kd : IntKind) (i b : Int) (ho : o.op = .index t x ix) (hx : evalO S x = some (.string s)) (hi : evalO S ix = some (.int kd i)) (ht : P.underlying t = some .string)
    (hm : gxSIdx s i = some b) : (execOp (rho S) o).run P w = .ok (.value (.int .u8 b)) w := by
  unfold gxSIdx at hm
  split at hm
  · rename_i h0
    obtain ⟨u, hu, rfl⟩ := Option.map_eq_some_iff.1 hm
    unfold execOp
    simp only [ho, rho, hx, hi, Option.getD_some]
    simp [Instr.index, asIntOf, run_underlying ht, h0, hu]
  · cases hm
def gxSCat (a b : ByteArray) : Option ByteArray := if ((a.size + b.size : Nat) : Int) > 9223372036854775807 then none else some (a ++ b)
theorem E_strCat (t : TypeId) (x y : Operand) (k2 : TypeId) (a b z : ByteArray) (ho : o.op = .binOp .add t x y k2) (hx : evalO S x = some (.string a)) (hy : evalO S y = some (.string b)) (hm : gxSCat a b = some z) :
    (execOp (rho S) o).run P w = .ok (.value (.string z)) w := by
  unfold gxSCat at hm
  split at hm
  · cases hm
  · rename_i hb
    simp only [Option.some.injEq] at hm
    subst hm
    have hb' : ¬ (((a.size + b.size : Nat) : Int) > IntKind.i64.max) := by simpa [IntKind.max, IntKind.signed, IntKind.bits] using hb
    unfold execOp
    simp only [ho, rho, hx, hy, Option.getD_some]
    simp [eqGuard, binOp, Op.stringOp, hb']
    omega
/-- The text of bytes. -/
def gxStr (xs : List Int) : ByteArray := xs.foldl (fun s n => s.push (UInt8.ofNat n.toNat)) .empty
theorem flat_u8 (zs : List Int) : flat encU8 zs = zs.map (Value.int .u8) := by
  induction zs with
  | nil => rfl
  | cons z r ih =>
    show encU8.cells z ++ flat encU8 r = _
    rw [ih]
    rfl
theorem E_bytesStr (src dst : TypeId) (e : TypeId) (x : Operand) (zs : List Int) (ho : o.op = .convert src dst x) (hs : P.underlying src = some (.slice e)) (he : P.underlying e = some (.int .u8)) (hd : P.underlying dst = some .string)
    (hx : evalO S x = some (.slice p zs.length c)) (hrd : rdS encU8 w zs p c) : (execOp (rho S) o).run P w = .ok (.value (.string (gxStr zs))) w := by
  have key : (Conv.bytesToString (.slice p zs.length c)).run P w = .ok (.string (gxStr zs)) w := by
    rcases hrd with ⟨hc, h | ⟨b, off, cs, e', fr, hp, hb, hh⟩⟩
    · subst h
      cases p with
      | none => simp [Conv.bytesToString, gxStr]
      | some a =>
        have := run_bytesToString (P := P) w a 0 c [] (by simp [loadCells, loadCellsFrom])
        simpa [gxStr] using this
    · subst hp
      have h1 := run_loadCells_list (P := P) w ⟨b, off, none⟩ (flat encU8 zs) (fun j v hv => by rw [addr_add, cell_of_heap hb]; exact holds_flat.1 hh j v hv)
      rw [flat_u8, List.length_map] at h1
      exact run_bytesToString w _ _ c zs h1
  unfold execOp
  simp only [ho, rho, hx, Option.getD_some, Sem.run_bind, run_convert_bytes_string w src dst e p zs.length c hs he hd, key, Result.andThen_ok, Sem.run_pure]
end
end Go.Gx
