/- Structures compared. -/
import Derived.Test.YtimffallbjpcjaaGreatDoorGxK
import Derived.Laws.StructEq
set_option linter.unusedVariables false
set_option linter.unusedSimpArgs false
namespace Go.Gx
section
variable {P : Program} {w : World} {S : Store} {o : Oper}
def cmp1 (P : Program) (t : TypeId) (a b : Value) : Option Bool :=
  match P.underlying t, a, b with
  | some (.int _), .int k x, .int k' y => if k = k' then some (x == y) else none
  | some .bool, .bool x, .bool y => some (x == y)
  | some .string, .string x, .string y => some (x.toList == y.toList)
  | _, _, _ => none
def eqFs (P : Program) (xs ys : Array Value) : List Field → Option Bool
  | [] => some true
  | f :: fs => bif f.name == "_" then none else
    match shapeT P f.type, xs[f.offset]?, ys[f.offset]? with
    | some (false, 1), some a, some b => match cmp1 P f.type a b, eqFs P xs ys fs with
      | some r, some q => some (r && q)
      | _, _ => none
    | _, _, _ => none
theorem cmp1_run {d : Nat} {t : TypeId} {a b : Value} {r : Bool} (h : cmp1 P t a b = some r) : (Op.equalIn (d + 1) t a b).run P w = .ok r w := by
  unfold cmp1 at h
  split at h
  · rename_i k' k x k2 y hu
    split at h
    · rename_i hk
      subst hk
      simp only [Option.some.injEq] at h
      subst h
      exact run_equalIn_int w d t k k' x y hu
    · cases h
  · rename_i hu
    simp only [Option.some.injEq] at h
    subst h
    exact run_equalIn_bool' w d t _ _ hu
  · rename_i hu
    simp only [Option.some.injEq] at h
    subst h
    exact run_equalIn_string w d t _ _ hu
  · cases h
theorem eqFs_run {d : Nat} {xs ys : Array Value} : ∀ (fs : List Field) {r : Bool}, eqFs P xs ys fs = some r → (Op.eqFields (d + 1) xs ys fs).run P w = .ok r w
  | [], r, h => by
    simp only [eqFs, Option.some.injEq] at h
    subst h
    simp [Op.eqFields]
  | f :: fs, r, h => by
    unfold eqFs at h
    cases hn : f.name == "_" with
    | true => simp [hn] at h
    | false =>
      rw [hn, cond_false] at h
      split at h
      · rename_i a b hs hx hy
        split at h
        · rename_i r1 q h1 h2
          simp only [Option.some.injEq] at h
          subst h
          have hne : f.name ≠ "_" := by simpa using hn
          obtain ⟨hagg, _⟩ := shapeT_spec hs w
          have p1 : (part f.type xs f.offset).run P w = .ok a w := by simp [part, hagg, hx]
          have p2 : (part f.type ys f.offset).run P w = .ok b w := by simp [part, hagg, hy]
          have ih := eqFs_run (d := d) fs h2
          have hc := cmp1_run (d := d) (w := w) h1
          simp only [Op.eqFields, hne, ne_eq, not_false_eq_true, if_true, Sem.run_bind, p1, p2, hc, Result.andThen_ok]
          cases r1 with
          | false => simp
          | true => simpa using ih
        · cases h
      · cases h
theorem E_eqAgg (t : TypeId) (x y : Operand) (k2 : TypeId) (xs ys : List Value) (r : Bool) (ho : o.op = .binOp .eql t x y k2) (hx : evalO S x = some (.agg ⟨xs⟩)) (hy : evalO S y = some (.agg ⟨ys⟩))
    (ht : P.underlying t = some (.struct (P.fieldsOf t))) (hp : P.stoodInHeld t = false) (hg : P.eqGuardType P.depth t = false) (hm : eqFs P ⟨xs⟩ ⟨ys⟩ (P.fieldsOf t).toList = some r) :
    (execOp (rho S) o).run P w = .ok (.value (.bool r)) w := by
  have h1 := eqFs_run (w := w) (d := 9998) _ hm
  have h2 : (Op.equalIn 10000 t (.agg ⟨xs⟩) (.agg ⟨ys⟩)).run P w = .ok r w := by rw [run_equalIn_agg w 9999 t _ _ ht hp]; exact h1
  unfold execOp
  simp only [ho, rho, hx, hy, Option.getD_some, Sem.run_bind, run_eqGuard_agg w .eql t x y _ _ hg, Result.andThen_ok, run_eql_struct w t, h2, Sem.run_pure]
theorem E_neqAgg (t : TypeId) (x y : Operand) (k2 : TypeId) (xs ys : List Value) (r : Bool) (ho : o.op = .binOp .neq t x y k2) (hx : evalO S x = some (.agg ⟨xs⟩)) (hy : evalO S y = some (.agg ⟨ys⟩))
    (ht : P.underlying t = some (.struct (P.fieldsOf t))) (hp : P.stoodInHeld t = false) (hg : P.eqGuardType P.depth t = false) (hm : eqFs P ⟨xs⟩ ⟨ys⟩ (P.fieldsOf t).toList = some r) :
    (execOp (rho S) o).run P w = .ok (.value (.bool (!r))) w := by
  have h1 := eqFs_run (w := w) (d := 9998) _ hm
  have h2 : (Op.equalIn 10000 t (.agg ⟨xs⟩) (.agg ⟨ys⟩)).run P w = .ok r w := by rw [run_equalIn_agg w 9999 t _ _ ht hp]; exact h1
  unfold execOp
  simp only [ho, rho, hx, hy, Option.getD_some, Sem.run_bind, run_eqGuard_agg w .neq t x y _ _ hg, Result.andThen_ok, run_neq_struct w t, h2, Sem.run_pure]
end
section
variable {F : List Nat} {w0 w : World} {Ls : List Seg}
theorem Mem.midJ {A R : List Seg} {s : Seg} (h : Mem F w0 w ((Ls ++ ([[]] ++ (A ++ ([] ++ R)))) ++ [s])) : Mem F w0 w (Ls ++ ([s ++ A.flatten] ++ R)) := h.permF (by
  simp only [List.flatten_append, List.flatten_cons, List.flatten_nil, List.append_nil, List.nil_append, List.append_assoc]
  refine List.Perm.append_left _ ?_
  rw [← List.append_assoc, ← List.append_assoc]
  exact (List.perm_append_comm (l₁ := s) (l₂ := A.flatten ++ R.flatten)).trans (by rw [List.append_assoc]) |>.symm.symm |> fun hp => by
    simpa [List.append_assoc] using hp)
theorem Mem.appMid {a b c d : Seg} {R : List Seg} (h : Mem F w0 w (Ls ++ ([a, b, c, d] ++ R))) : Mem F w0 w (Ls ++ ([a ++ (b ++ d)] ++ R)) := by
  have hn := h.nodup
  have hs : (Ls ++ ([a ++ (b ++ d)] ++ R)).flatten.Sublist (Ls ++ ([a, b, c, d] ++ R)).flatten := by
    simp only [List.flatten_append, List.flatten_cons, List.flatten_nil, List.append_nil, List.append_assoc, List.nil_append]
    refine List.Sublist.append_left (List.Sublist.append_left (List.Sublist.append_left ?_ _) _) _
    exact List.sublist_append_right _ _
  exact h.part (fun p hp => hs.subset hp) ((hs.map _).nodup hn)
end
end Go.Gx
