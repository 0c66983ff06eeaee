/- append(nil, make(n)...) and slices of slices that lie elsewhere: for slices.Concat. -/
import Derived.Test.YtfcebglkdfadcaaGxT
import Derived.Lib.AppendZerosOnto
set_option linter.unusedVariables false
set_option linter.unusedSimpArgs false
namespace Go.Gx
/-- What slices.Grow(nil, n) makes: an empty slice. -/
def gxGrow {α : Type} (bytes : Nat) (n : Int) : Option (List α) := bif decide (0 ≤ n) && decide (n * (bytes : Int) ≤ 140737488355328) then some [] else none
theorem gxGrow_spec {α : Type} {bytes : Nat} {n : Int} {zs : List α} (h : gxGrow bytes n = some zs) : zs = [] ∧ 0 ≤ n ∧ n * (bytes : Int) ≤ 140737488355328 := by
  unfold gxGrow at h
  cases hc : (decide (0 ≤ n) && decide (n * (bytes : Int) ≤ 140737488355328)) with
  | false => rw [hc] at h; cases h
  | true =>
    rw [hc] at h
    rw [Bool.and_eq_true, decide_eq_true_eq, decide_eq_true_eq] at hc
    exact ⟨(Option.some.inj h).symm, hc⟩
theorem grow_sub {n : Int} (h0 : 0 ≤ n) (h1 : n ≤ 140737488355328) : w64 (n - w64 (0 - 0)) = n := by
  unfold w64
  simp [IntKind.wrap, IntKind.bits, IntKind.signed, Int.bmod]
  omega
section
variable {α : Type} {E : Enc α} {F : List Nat} {w0 w w' : World} {Ls : List Seg} {xs ys : List α} {p q : Option Addr} {c : Nat} {seg : Seg}
variable {P : Program} {ops : Array Oper} {n : Nat} {Q : Exit → Act → World → Prop} {S : Store} {rest : List Oper} {o : Oper}
theorem W_made (E : Enc α) (t tn : TypeId) (x y : Operand) (bytes : Nat) (zsv : List Value) (m : Int) (kn : IntKind) (hM : Mem F w0 w Ls)
    (hok : okAll ops n S o = true) (ho : o.op = .call { callee := .builtin .append, args := #[x, y], argTypes := #[t, tn] }) (hx : evalO S x = some (.slice none 0 0)) (hy : evalO S y = some (.int .i64 m))
    (hi : sliceInfo P t = some (E.k, bytes, zsv)) (hz : Nat.beq zsv.length E.k = true) (hk : Nat.blt 0 E.k = true) (hbp : Nat.blt 0 bytes = true) (htn : P.underlying tn = some (.int kn)) (h0 : m > 0) (h1 : m * (bytes : Int) ≤ 140737488355328)
    (kk : ∀ c' seg' w', m.toNat ≤ c' → ownS E ([] : List α) (some ⟨w.heap.size, 0, none⟩) c' seg' → Mem F w0 w' (Ls ++ [seg']) → W P ops n Q (putS S o.dst (.slice (some ⟨w.heap.size, 0, none⟩) m.toNat c')) w' rest) : W P ops n Q S w (o :: rest) := by
  obtain ⟨e, i, z, hu, hinf, hzero, hsz, hby, hzs⟩ := sliceInfo_spec hi
  have hk := Nat.blt_eq ▸ hk
  have hbp := Nat.blt_eq ▸ hbp
  have hz := Nat.eq_of_beq_eq_true hz
  have hzk : z.cells.size = E.k := by rw [← hz, ← hzs]; simp
  obtain ⟨k, rfl⟩ : ∃ k : Nat, m = k := ⟨m.toNat, by omega⟩
  have hk0 : 0 < k := by omega
  have hkb : k * bytes ≤ 140737488355328 := by
    have : ((k * bytes : Nat) : Int) ≤ 140737488355328 := by rw [Int.natCast_mul]; exact h1
    omega
  have hkm : k ≤ 140737488355328 := Nat.le_trans (Nat.le_mul_of_pos_right k hbp) hkb
  have hold : (Builtin.firstCells i.size 0 (.slice none 0 0)).run P w.drew = .ok (([] : List Value)).toArray w.drew := run_firstCells_none w.drew i.size 0 0 0
  have hr := Lib.run_append_grow_zeros (P := P) w t tn o.type e i z .i64 kn hu htn hinf hzero none 0 0 [] hold k hk0 (by omega) (by omega) (by omega) (by subst hby; omega) (by
    subst hby
    exact growslice_fits (by omega) (by simpa using hkb))
  rw [Nat.zero_add] at hr
  have hge := grownCap_ge w k 0 e
  have hcm := grownCap_le_maxLen w k 0 e (by simp only [maxLen]; omega)
  obtain ⟨C, hC⟩ : ∃ C, C = (([] : List Value).toArray ++ Builtin.zeroCells z.cells k ++ Builtin.zeroCells z.cells (grownCap w k 0 e - k)) := ⟨_, rfl⟩
  rw [← hC] at hr
  have hCs : 0 + grownCap w k 0 e * E.k ≤ C.size := by
    rw [hC]
    simp only [Array.size_append, List.size_toArray, List.length_nil, size_zeroCells, hzk, Nat.zero_add, ← Nat.add_mul]
    refine Nat.mul_le_mul_right _ ?_
    omega
  refine W_val (.slice (some ⟨w.heap.size, 0, none⟩) k (grownCap w k 0 e)) (w.drew.alloc (.cells C e)) hok ?_ (kk (grownCap w k 0 e) [(w.heap.size, .cells C e)] (w.drew.alloc (.cells C e)) hge (Or.inr ⟨w.heap.size, 0, C, e, rfl, rfl, by simp, hcm, hCs, fun i x hx => by simp at hx⟩) (Mem.alloc (w := w.drew) ⟨hM.os, hM.tape, hM.output, hM.size, hM.old, hM.has, hM.place, hM.nodup, hM.frz⟩ _ rfl))
  unfold execOp
  simp only [ho, resolve, invoke, builtin, Sem.run_bind, Sem.run_pure, Result.andThen_ok, List.map_toArray, List.map_cons, List.map_nil, rho, hx, hy, Option.getD_some, hr]
end
/-! ### Slices of slices that lie elsewhere -/
theorem rdI_nil {w : World} : rdI w [] := fun i hi => by cases hi
theorem rdI_cons {β : Type} {E : Enc β} {w : World} {xs : List β} {p : Option Addr} {c : Nat} {l : List Inn} (h : rdS E w xs p c) (g : rdI w l) : rdI w (⟨β, E, xs, p, c⟩ :: l) := fun i hi => by
  rcases List.mem_cons.1 hi with rfl | hi
  · exact h
  · exact g i hi
theorem apartI_nil {F : List Nat} : apartI F [] := fun i hi => by cases hi
theorem apartI_cons {β : Type} {E : Enc β} {F : List Nat} {xs : List β} {p : Option Addr} {c : Nat} {l : List Inn} (h : apartX F xs p) (g : apartI F l) : apartI F (⟨β, E, xs, p, c⟩ :: l) := fun i hi => by
  rcases List.mem_cons.1 hi with rfl | hi
  · exact h
  · exact g i hi
end Go.Gx
