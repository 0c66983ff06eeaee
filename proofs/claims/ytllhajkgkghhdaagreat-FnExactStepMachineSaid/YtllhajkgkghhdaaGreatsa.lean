/- Part of a proof: what its last text rests on. -/
import Derived.WalkKit
import Derived.Deep.Quiet
import Derived.KernelRfl
import Derived.Deep.LoopGhost
import Derived.Laws.BytesString
import Derived.Laws.StructEq
import Derived.Sort.EncStr
import Derived.Sort.Grow
import Derived.Lib.SlicesCompact
import Derived.Lib.AppendZerosOnto
import Derived.Laws.CopyRow
import Derived.Lib.Overlaps
import Derived.Lib.BitFns
set_option linter.unusedVariables false
set_option linter.unusedSimpArgs false
namespace Go.Gx
abbrev Store := List (Nat × Value)
def look : Store → Nat → Option Value
  | [], _ => none
  | (i, v) :: r, k => bif Nat.beq i k then some v else look r k
def sub : Store → Store → Option Store
  | [], _ => some []
  | (k, _) :: r, S => match look S k, sub r S with
    | some v, some r' => some ((k, v) :: r')
    | _, _ => none
def evalO (S : Store) : Operand → Option Value
  | .tmp t => look S t
  | .const v => some v
  | .global g => some (.pointer (some ⟨g, 0, none⟩))
  | .func f => some (.func (.func f) #[] #[])
def rho (S : Store) (x : Operand) : Value := (evalO S x).getD undef
def w64 (x : Int) : Int := IntKind.i64.wrap x
def putS (S : Store) (dst : Option Tmp) (v : Value) : Store :=
  match dst with
  | some d => (d, v) :: S
  | none => S
structure Sat (n : Nat) (S : Store) (a : Act) : Prop where
  defers : a.defers = []
  size : a.tmps.size = n
  at_ : ∀ k v, look S k = some v → a.tmps[k]? = some v
theorem look_cons (i k : Nat) (v : Value) (S : Store) : look ((i, v) :: S) k = if i = k then some v else look S k := by
  by_cases h : i = k
  · subst h; simp [look]
  · have : Nat.beq i k = false := by
      cases hb : Nat.beq i k with
      | false => rfl
      | true => exact absurd (Nat.eq_of_beq_eq_true hb) h
    simp [look, this, h]
theorem look_sub {S' S1 : Store} : sub S' S1 = some S' → ∀ k v, look S' k = some v → look S1 k = some v := by
  induction S' with
  | nil => intro _ k v h; simp [look] at h
  | cons p r ih =>
    obtain ⟨i, x⟩ := p
    intro hs k v h
    simp only [sub] at hs
    split at hs
    · rename_i u r' hu hr
      simp only [Option.some.injEq, List.cons.injEq, Prod.mk.injEq, true_and] at hs
      obtain ⟨rfl, rfl⟩ := hs
      rw [look_cons] at h
      split at h
      · rename_i hk; subst hk; rw [hu]; exact h
      · exact ih hr k v h
    · cases hs
theorem Sat.sub {n : Nat} {S S' : Store} {a : Act} (h : Sat n S a) (hs : Gx.sub S' S = some S') : Sat n S' a :=
  ⟨h.defers, h.size, fun k v hk => h.at_ k v (look_sub hs k v hk)⟩
theorem Sat.put {n : Nat} {S : Store} {a : Act} (h : Sat n S a) (dst : Option Tmp) (v : Value) (hd : ∀ d, dst = some d → d < n) : Sat n (putS S dst v) (a.put dst v) := by
  cases dst with
  | none => exact h
  | some d =>
    have hdn := hd d rfl
    refine ⟨h.defers, by simp [Act.put, h.size], fun k u hk => ?_⟩
    simp only [putS, look_cons] at hk
    simp only [Act.put]
    by_cases hdk : d = k
    · subst hdk
      simp only [if_true, Option.some.injEq] at hk
      subst hk
      simp [h.size, hdn]
    · rw [if_neg hdk] at hk
      rw [Array.getElem?_setIfInBounds_ne hdk]
      exact h.at_ k u hk
theorem Sat.eval {n : Nat} {S : Store} {a : Act} (h : Sat n S a) {x : Operand} (hx : (evalO S x).isSome = true) : a.eval x = rho S x := by
  cases x with
  | tmp t =>
    simp only [evalO] at hx
    obtain ⟨v, hv⟩ := Option.isSome_iff_exists.1 hx
    have := h.at_ t v hv
    simp [Act.eval, rho, evalO, hv, Array.getD_eq_getD_getElem?, this]
  | const v => rfl
  | global g => rfl
  | func f => rfl
def noSelect (o : Oper) : Bool := match o.op with
  | .select .. => false
  | _ => true
def dstOk (n : Nat) (o : Oper) : Bool := match o.dst with
  | some d => Nat.blt d n
  | none => true
def okOps (S : Store) (n : Nat) (o : Oper) : Bool := (o.op.operands.all fun x => (evalO S x).isSome) && (noSelect o && dstOk n o)
theorem dstOk_spec {n : Nat} {o : Oper} (h : dstOk n o = true) : ∀ d, o.dst = some d → d < n := by
  intro d hd
  simp only [dstOk, hd] at h
  exact Nat.blt_eq ▸ h
theorem okOps_dst {S : Store} {n : Nat} {o : Oper} (h : okOps S n o = true) : ∀ d, o.dst = some d → d < n := by
  simp only [okOps, Bool.and_eq_true] at h
  exact dstOk_spec h.2.2
theorem exec_agree {n : Nat} {S : Store} {a : Act} {o : Oper} (h : Sat n S a) (hok : okOps S n o = true) : execOp a.eval o = execOp (rho S) o := by
  simp only [okOps, Bool.and_eq_true] at hok
  refine execOp_congr o ?_ ?_
  · intro cs b hsel
    have := hok.2.1
    simp [noSelect, hsel] at this
  · intro x hx
    exact h.eval (by simpa using (Array.all_eq_true'.1 hok.1) x hx)
def wantS (ops : Array Oper) (S : Store) (o : Oper) : Option Bool :=
  match o.guard with
  | none => some true
  | some (j, want) => match (ops[j]?).bind (·.dst) with
    | none => some false
    | some t => match look S t with
      | none => none
      | some (.bool b) => some (b == want)
      | some _ => some false
theorem wantS_spec {n : Nat} {ops : Array Oper} {S : Store} {a : Act} {o : Oper} {b : Bool} (h : Sat n S a) (hw : wantS ops S o = some b) :
    Region.wanted o (yielded ops a.tmps) = b := by
  unfold wantS at hw
  unfold Region.wanted
  cases hg : o.guard with
  | none => simpa [hg] using hw
  | some gw =>
    obtain ⟨j, want⟩ := gw
    simp only [hg] at hw ⊢
    unfold yielded
    cases ht : (ops[j]?).bind (·.dst) with
    | none => simp only [ht] at hw; simp only [Option.bind_none]; simpa using hw
    | some t =>
      simp only [ht] at hw
      cases hl : look S t with
      | none => simp [hl] at hw
      | some v =>
        have hv := h.at_ t v hl
        simp only [hl] at hw
        simp only [Option.bind_some, hv]
        cases v <;> first
          | (simp only [Option.some.injEq] at hw; subst hw; rfl)
          | (simp only [Option.some.injEq] at hw; subst hw; rename_i c; cases c <;> cases want <;> rfl)
def W (P : Program) (ops : Array Oper) (n : Nat) (Q : Exit → Act → World → Prop) (S : Store) (w : World) (l : List Oper) : Prop :=
  ∀ a, Sat n S a → wpList P ops Q l a w
def runP (P : Program) (ops : Array Oper) (n : Nat) : Nat → List Oper → Store → World → Option (Store × World)
  | 0, _, S, w => some (S, w)
  | _ + 1, [], _, _ => none
  | m + 1, o :: r, S, w => match wantS ops S o with
    | none => none
    | some true => bif okOps S n o then
        match (execOp (rho S) o).run P w with
        | .ok (.value v) w' => runP P ops n m r (putS S o.dst v) w'
        | .ok .skip w' => runP P ops n m r (putS S o.dst undef) w'
        | _ => none
      else none
    | some false => bif dstOk n o then runP P ops n m r (putS S o.dst undef) w else none
section
variable {P : Program} {ops : Array Oper} {n : Nat} {Q : Exit → Act → World → Prop} {S S' : Store} {w w' : World} {l rest : List Oper} {o : Oper}
theorem W_runP : ∀ (m : Nat) (l : List Oper) (S : Store) (w : World) {S1 : Store} {w1 : World}, runP P ops n m l S w = some (S1, w1) →
    W P ops n Q S1 w1 (l.drop m) → W P ops n Q S w l := by
  intro m
  induction m with
  | zero => intro l S w S1 w1 h k; simp only [runP, Option.some.injEq, Prod.mk.injEq] at h; obtain ⟨rfl, rfl⟩ := h; exact k
  | succ m ih =>
    intro l S w S1 w1 h k
    cases l with
    | nil => simp [runP] at h
    | cons o r =>
      simp only [List.drop_succ_cons] at k
      intro a ha
      unfold wpList
      simp only [runP] at h
      cases hw : wantS ops S o with
      | none => simp [hw] at h
      | some b =>
        rw [wantS_spec ha hw]
        cases b with
        | true =>
          simp only [hw] at h
          simp only [if_true]
          left
          cases hok : okOps S n o with
          | false => simp [hok] at h
          | true =>
            simp only [hok, cond_true] at h
            unfold Oper.wp
            rw [exec_agree ha hok]
            cases hr : (execOp (rho S) o).run P w with
            | halt x w2 => simp [hr] at h
            | ok nx w2 =>
              simp only [hr] at h
              cases nx <;> simp only [] at h <;> first
                | (cases h; done)
                | exact ih _ _ _ h k _ (ha.put _ _ (okOps_dst hok))
        | false =>
          simp only [hw] at h
          simp only [Bool.false_eq_true, if_false]
          cases hd : dstOk n o with
          | false => simp [hd] at h
          | true =>
            simp only [hd, cond_true] at h
            exact ih _ _ _ h k _ (ha.put _ _ (dstOk_spec hd))
theorem W_sub (S' : Store) (hs : sub S' S = some S') (k : W P ops n Q S' w l) : W P ops n Q S w l := fun a ha => k a (ha.sub hs)
theorem W_run (m : Nat) (S' : Store) (w' : World) (h : ((runP P ops n m l S w).bind fun r => (sub S' r.1).map fun s => (s, r.2)) = some (S', w'))
    (k : W P ops n Q S' w' (l.drop m)) : W P ops n Q S w l := by
  cases hr : runP P ops n m l S w with
  | none => simp [hr] at h
  | some r =>
    simp only [hr, Option.bind_some, Option.map_eq_some_iff, Prod.mk.injEq] at h
    obtain ⟨s, hs, rfl, rfl⟩ := h
    exact W_runP m l S w hr (W_sub _ hs k)
theorem W_one (hwant : wantS ops S o = some true) (hok : okOps S n o = true)
    (h : ∀ a, Sat n S a → (o.upon P a (wpList P ops Q rest) Q ((execOp (rho S) o).run P w))) : W P ops n Q S w (o :: rest) := by
  intro a ha
  unfold wpList
  rw [wantS_spec ha hwant]
  simp only [if_true]
  left
  unfold Oper.wp
  rw [exec_agree ha hok]
  exact h a ha
def okAll (ops : Array Oper) (n : Nat) (S : Store) (o : Oper) : Bool := (match wantS ops S o with | some true => true | _ => false) && okOps S n o
theorem okAll_spec (h : okAll ops n S o = true) : wantS ops S o = some true ∧ okOps S n o = true := by
  simp only [okAll, Bool.and_eq_true] at h
  refine ⟨?_, h.2⟩
  cases hw : wantS ops S o with
  | none => simp [hw] at h
  | some b => cases b with
    | true => rfl
    | false => simp [hw] at h
theorem W_val (v : Value) (w' : World) (hok : okAll ops n S o = true) (hr : (execOp (rho S) o).run P w = .ok (.value v) w')
    (k : W P ops n Q (putS S o.dst v) w' rest) : W P ops n Q S w (o :: rest) :=
  W_one (okAll_spec hok).1 (okAll_spec hok).2 fun a ha => by rw [hr]; exact k _ (ha.put _ _ (okOps_dst (okAll_spec hok).2))
theorem W_skip (w' : World) (hok : okAll ops n S o = true) (hr : (execOp (rho S) o).run P w = .ok .skip w')
    (k : W P ops n Q (putS S o.dst undef) w' rest) : W P ops n Q S w (o :: rest) :=
  W_one (okAll_spec hok).1 (okAll_spec hok).2 fun a ha => by rw [hr]; exact k _ (ha.put _ _ (okOps_dst (okAll_spec hok).2))
theorem W_call (f : FuncId) (args : Array Value) (hok : okAll ops n S o = true) (hr : (execOp (rho S) o).run P w = .ok (.enter f args) w)
    (hc : Calls P f args w fun e w' => ∃ v, e = .returned v ∧ W P ops n Q (putS S o.dst v) w' rest) : W P ops n Q S w (o :: rest) :=
  W_one (okAll_spec hok).1 (okAll_spec hok).2 fun a ha => by
    rw [hr]
    exact hc.mono fun e w' ⟨v, he, hk⟩ => by subst he; exact hk _ (ha.put _ _ (okOps_dst (okAll_spec hok).2))
end
def G (P : Program) (n : Nat) (c : Code) (Q : Exit → Act → World → Prop) (S : Store) (w : World) : Prop := ∀ a, Sat n S a → c.wp P Q a w
def N (n : Nat) (Q : Exit → Act → World → Prop) (e : Exit) (S : Store) (w : World) : Prop := ∀ a, Sat n S a → Q e a w
section
variable {P : Program} {n : Nat} {Q : Exit → Act → World → Prop} {S : Store} {w : World} {x y : Code}
theorem G_sub (S' : Store) (hs : sub S' S = some S') (k : G P n x Q S' w) : G P n x Q S w := fun a ha => k a (ha.sub hs)
theorem G_seq (h : G P n x (Exit.then (y.wp P Q) Q) S w) : G P n (.seq x y) Q S w := fun a ha => wp_seq (h a ha)
theorem G_region {id : Nat} {l : List Oper} (h : W P l.toArray n Q S w l) : G P n (.region id l.toArray false) Q S w := fun a ha => wp_region_lit (h a ha)
theorem W_nil {ops : Array Oper} (h : N n Q .normal S w) : W P ops n Q S w [] := fun a ha => h a ha
theorem G_skip (h : N n Q .normal S w) : G P n .skip Q S w := fun a ha => wp_skip (h a ha)
theorem G_exit {id : Nat} (h : N n Q (.exit id) S w) : G P n (.exit id) Q S w := fun a ha => wp_exit (h a ha)
theorem G_ret (h : N n Q .ret S w) : G P n .ret Q S w := fun a ha => wp_ret (h a ha)
theorem G_block {id : Nat} (h : G P n x (Exit.inBlock id Q) S w) : G P n (.block id x) Q S w := fun a ha => wp_block (h a ha)
theorem G_cond {c : Operand} (b : Bool) (hc : evalO S c = some (.bool b)) (ht : b = true → G P n x Q S w) (hf : b = false → G P n y Q S w) : G P n (.cond c x y) Q S w := by
  intro a ha
  have he : a.eval c = .bool b := by rw [ha.eval (by simp [hc])]; simp [rho, hc]
  exact wp_cond_split he (fun h => ht h a ha) (fun h => hf h a ha)
theorem G_cond_t {c : Operand} {b : Bool} (hb : b = true) (hc : evalO S c = some (.bool b)) (ht : G P n x Q S w) : G P n (.cond c x y) Q S w :=
  G_cond b hc (fun _ => ht) (fun h => by rw [hb] at h; cases h)
theorem G_cond_f {c : Operand} {b : Bool} (hb : b = false) (hc : evalO S c = some (.bool b)) (hf : G P n y Q S w) : G P n (.cond c x y) Q S w :=
  G_cond b hc (fun h => by rw [hb] at h; cases h) (fun _ => hf)
theorem N_then (h : G P n y Q S w) : N n (Exit.then (y.wp P Q) Q) .normal S w := h
theorem N_then_exit {K : Act → World → Prop} {id : Nat} (h : N n Q (.exit id) S w) : N n (Exit.then K Q) (.exit id) S w := h
theorem N_then_ret {K : Act → World → Prop} (h : N n Q .ret S w) : N n (Exit.then K Q) .ret S w := h
theorem N_block {id : Nat} (h : N n Q .normal S w) : N n (Exit.inBlock id Q) .normal S w := h
theorem N_block_ret {id : Nat} (h : N n Q .ret S w) : N n (Exit.inBlock id Q) .ret S w := h
theorem N_block_eq {id : Nat} (h : N n Q .normal S w) : N n (Exit.inBlock id Q) (.exit id) S w := fun a ha => by
  simp only [Exit.inBlock, if_true]; exact h a ha
end
def initS : Nat → List Value → Store
  | _, [] => []
  | i, v :: r => (i, v) :: initS (i + 1) r
theorem look_initS : ∀ (l : List Value) (i k : Nat) (v : Value), look (initS i l) k = some v → i ≤ k ∧ l[k - i]? = some v
  | [], i, k, v, h => by simp [initS, look] at h
  | x :: r, i, k, v, h => by
    simp only [initS, look_cons] at h
    split at h
    · rename_i hik; subst hik; simpa using h
    · have := look_initS r (i + 1) k v h
      refine ⟨by omega, ?_⟩
      rw [show k - i = (k - (i + 1)) + 1 by omega]
      simpa using this.2
theorem C_enter {P : Program} {f : FuncId} {fn : Func} {c : Code} {args : List Value} {w : World} {R : Ending → World → Prop}
    (hf : P.funcs[f]? = some fn) (hb : fn.body = some c) (hs : Nat.ble args.length fn.ntmps = true)
    (h : G P fn.ntmps c (bodyPost P fn R) (initS 0 args) w) : Calls P f args.toArray w R := by
  have hs : args.length ≤ fn.ntmps := Nat.ble_eq ▸ hs
  refine calls_of_wp hf hb (h _ ⟨rfl, by simp; omega, fun k v hk => ?_⟩)
  have := (look_initS args 0 k v hk).2
  simp only [Nat.sub_zero] at this
  have hlt : k < args.length := (List.getElem?_eq_some_iff.1 this).1
  rw [List.getElem?_eq_getElem hlt] at this
  simpa [Array.getElem?_append, hlt] using this
def RV (P : Program) (S : Store) (w : World) (r : ResultVar) (v : Value) : Prop :=
  match r with
  | .tmp t => look S t = some v
  | .cell t ty => ∃ a, look S t = some (.pointer (some a)) ∧ (loadVar ty a).run P w = .ok v w
def RVs (P : Program) (S : Store) (w : World) : List ResultVar → List Value → Prop
  | [], [] => True
  | r :: rs, v :: vs => RV P S w r v ∧ RVs P S w rs vs
  | _, _ => False
def retV : List Value → Value
  | [v] => v
  | vs => .tuple vs.toArray
def rvSem (tmps : Array Value) : ResultVar → Sem Value
  | .tmp t => pure (tmps.getD t undef)
  | .cell a t => do loadVar t (← asAddr (tmps.getD a undef))
theorem RV.run {P : Program} {S : Store} {w : World} {n : Nat} {a : Act} (ha : Sat n S a) {r : ResultVar} {v : Value} (h : RV P S w r v) :
    (rvSem a.tmps r).run P w = .ok v w := by
  cases r with
  | tmp t =>
    have := ha.at_ t v h
    simp [rvSem, this]
  | cell t ty =>
    obtain ⟨ad, h1, h2⟩ := h
    have := ha.at_ t _ h1
    simp [rvSem, this, asAddr, h2]
theorem RVs.run {P : Program} {S : Store} {w : World} {n : Nat} {a : Act} (ha : Sat n S a) : ∀ (rs : List ResultVar) (vs : List Value), RVs P S w rs vs →
    (rs.mapM (rvSem a.tmps)).run P w = .ok vs w
  | [], [], _ => by simp
  | r :: rs, v :: vs, h => by
    have h1 := RV.run ha h.1
    have h2 := RVs.run ha rs vs h.2
    simp only [List.mapM_cons, Sem.run_bind, h1, Result.andThen_ok, h2, Sem.run_pure]
  | [], _ :: _, h => h.elim
  | _ :: _, [], h => h.elim
theorem results_eq (fn : Func) (tmps : Array Value) : results fn tmps = (do
    let vs ← fn.results.mapM (rvSem tmps)
    pure (if h : vs.size = 1 then vs[0] else .tuple vs)) := by
  unfold results
  congr 2
theorem results_run {P : Program} {S : Store} {w : World} {n : Nat} {a : Act} (ha : Sat n S a) {fn : Func} {vs : List Value} (h : RVs P S w fn.results.toList vs) :
    (results fn a.tmps).run P w = .ok (retV vs) w := by
  rw [results_eq, Array.mapM_eq_mapM_toList]
  have := RVs.run ha _ _ h
  rw [show ((List.toArray <$> List.mapM (rvSem a.tmps) fn.results.toList : Sem (Array Value))) = (do let l ← List.mapM (rvSem a.tmps) fn.results.toList; pure l.toArray) from rfl]
  simp only [Sem.run_bind, this, Result.andThen_ok, Sem.run_pure]
  match vs with
  | [] => simp [retV]
  | [v] => simp [retV]
  | v :: u :: r => simp [retV]
theorem N_ret {P : Program} {fn : Func} {R : Ending → World → Prop} {S : Store} {w : World} {n : Nat} (vs : List Value) (h : RVs P S w fn.results.toList vs)
    (hR : R (.returned (retV vs)) w) : N n (bodyPost P fn R) .ret S w := fun _ ha => ⟨ha.defers, retV vs, results_run ha h, hR⟩
theorem N_end {P : Program} {fn : Func} {R : Ending → World → Prop} {S : Store} {w : World} {n : Nat} (vs : List Value) (h : RVs P S w fn.results.toList vs)
    (hR : R (.returned (retV vs)) w) : N n (bodyPost P fn R) .normal S w := fun _ ha => ⟨ha.defers, retV vs, results_run ha h, hR⟩
end Go.Gx
set_option linter.unusedVariables false
set_option linter.unusedSimpArgs false
namespace Go.Gx
abbrev Seg := List (Nat × Obj)
abbrev idsOf (Ls : List Seg) : List Nat := Ls.flatten.map (·.1)
def fzOf : Option Obj → Nat × Nat
  | some (.cells _ _ fr) => fr
  | _ => (0, 0)
structure Mem (F : List Nat) (w0 w : World) (Ls : List Seg) : Prop where
  os : w.os = w0.os
  tape : w.tape = w0.tape
  output : w.output = w0.output
  size : w0.heap.size ≤ w.heap.size
  old : ∀ k, k < w0.heap.size → k ∉ F → w.heap[k]? = w0.heap[k]?
  has : ∀ p ∈ Ls.flatten, w.heap[p.1]? = some p.2
  place : ∀ p ∈ Ls.flatten, w0.heap.size ≤ p.1 ∨ p.1 ∈ F
  nodup : (Ls.flatten.map (·.1)).Nodup
  frz : ∀ k : Nat, k < w0.heap.size → fzOf w.heap[k]? = fzOf w0.heap[k]?
theorem lt_of_heap {w : World} {k : Nat} {o : Obj} (h : w.heap[k]? = some o) : k < w.heap.size := (Array.getElem?_eq_some_iff.1 h).1
section
variable {F : List Nat} {w0 w w' : World} {Ls L2 : List Seg}
theorem Mem.refl (F : List Nat) (w : World) : Mem F w w [] := ⟨rfl, rfl, rfl, Nat.le_refl _, fun _ _ _ => rfl, by simp, by simp, by simp, fun _ _ => rfl⟩
theorem Mem.lt (h : Mem F w0 w Ls) {p : Nat × Obj} (hp : p ∈ Ls.flatten) : p.1 < w.heap.size := lt_of_heap (h.has p hp)
theorem Mem.drew (h : Mem F w0 w Ls) : Mem F w0 { w with drawn := w.drawn + 1 } Ls := ⟨h.os, h.tape, h.output, h.size, h.old, h.has, h.place, h.nodup, h.frz⟩
theorem Mem.call (h : Mem F w0 w Ls) (hc : Mem [] w w' L2) : Mem F w0 w' (Ls ++ L2) := by
  refine ⟨hc.os.trans h.os, hc.tape.trans h.tape, hc.output.trans h.output, Nat.le_trans h.size hc.size, ?_, ?_, ?_, ?_, fun k hk => (hc.frz k (Nat.lt_of_lt_of_le hk h.size)).trans (h.frz k hk)⟩
  · intro k hk hF
    rw [hc.old k (Nat.lt_of_lt_of_le hk h.size) (by simp), h.old k hk hF]
  · intro p hp
    rw [List.flatten_append, List.mem_append] at hp
    rcases hp with hp | hp
    · rw [hc.old p.1 (h.lt hp) (by simp), h.has p hp]
    · exact hc.has p hp
  · intro p hp
    rw [List.flatten_append, List.mem_append] at hp
    rcases hp with hp | hp
    · exact h.place p hp
    · rcases hc.place p hp with h1 | h1
      · exact Or.inl (Nat.le_trans h.size h1)
      · cases h1
  · rw [List.flatten_append, List.map_append, List.nodup_append]
    refine ⟨h.nodup, hc.nodup, ?_⟩
    intro a ha b hb hab
    subst hab
    obtain ⟨p, hp, rfl⟩ := List.mem_map.1 ha
    obtain ⟨q, hq, hqp⟩ := List.mem_map.1 hb
    have h1 := h.lt hp
    rcases hc.place q hq with h2 | h2
    · omega
    · cases h2
theorem Mem.call0 (h : Mem F w0 w Ls) (hc : Mem [] w w' []) : Mem F w0 w' Ls := by simpa using h.call hc
theorem Mem.new (w : World) (o : Obj) (ho : fzOf (some o) = (0, 0)) : Mem [] w (w.alloc o) [[(w.heap.size, o)]] :=
  ⟨rfl, rfl, rfl, by simp, fun k hk _ => heap_alloc_old w o hk, fun p hp => by simp at hp; subst hp; exact heap_alloc_new w o, by simp, by simp, fun k hk => by
    rw [heap_alloc_old w o hk]⟩
theorem Mem.alloc (h : Mem F w0 w Ls) (o : Obj) (ho : fzOf (some o) = (0, 0)) : Mem F w0 (w.alloc o) (Ls ++ [[(w.heap.size, o)]]) := h.call (Mem.new w o ho)
theorem Mem.part (h : Mem F w0 w Ls) (hs : ∀ p ∈ L2.flatten, p ∈ Ls.flatten) (hn : (L2.flatten.map (·.1)).Nodup) : Mem F w0 w L2 :=
  ⟨h.os, h.tape, h.output, h.size, h.old, fun p hp => h.has p (hs p hp), fun p hp => h.place p (hs p hp), hn, h.frz⟩
theorem Mem.perm (h : Mem F w0 w Ls) (hs : L2.Perm Ls) : Mem F w0 w L2 :=
  h.part (fun _ hp => (hs.flatten.mem_iff).1 hp) (((hs.flatten.map _).nodup_iff).2 h.nodup)
theorem Mem.permF (h : Mem F w0 w Ls) (hs : L2.flatten.Perm Ls.flatten) : Mem F w0 w L2 :=
  h.part (fun _ hp => (hs.mem_iff).1 hp) (((hs.map _).nodup_iff).2 h.nodup)
def pick (Ls : List Seg) : List Nat → List Seg
  | [] => []
  | i :: r => Ls.getD i [] :: pick Ls r
theorem getD_split : ∀ (Ls : List Seg) (i : Nat), i < Ls.length → ∃ A B, Ls = A ++ Ls.getD i [] :: B ∧ A.length = i
  | [], i, h => by simp at h
  | x :: r, 0, _ => ⟨[], r, by simp, rfl⟩
  | x :: r, i + 1, h => by
    obtain ⟨A, B, hA, hl⟩ := getD_split r i (by simpa using h)
    refine ⟨x :: A, B, ?_, by simp [hl]⟩
    simp only [List.getD_cons_succ, List.cons_append, List.cons.injEq, true_and]
    exact hA
theorem mem_getD {Ls : List Seg} {i : Nat} {p : Nat × Obj} (hp : p ∈ Ls.getD i []) : p ∈ Ls.flatten := by
  by_cases hi : i < Ls.length
  · rw [List.getD_eq_getElem?_getD, List.getElem?_eq_getElem hi] at hp
    exact List.mem_flatten.2 ⟨_, List.getElem_mem hi, hp⟩
  · rw [List.getD_eq_getElem?_getD, List.getElem?_eq_none (by omega)] at hp
    simp at hp
theorem apart_getD {Ls : List Seg} (hn : (Ls.flatten.map (·.1)).Nodup) {i j : Nat} (hij : i ≠ j) {p q : Nat × Obj} (hp : p ∈ Ls.getD i []) (hq : q ∈ Ls.getD j []) : p.1 ≠ q.1 := by
  have key : ∀ {i j : Nat}, i < j → ∀ {p q : Nat × Obj}, p ∈ Ls.getD i [] → q ∈ Ls.getD j [] → p.1 ≠ q.1 := by
    intro i j hlt p q hp hq
    have hi : i < Ls.length := by
      rcases Nat.lt_or_ge i Ls.length with h | h
      · exact h
      · rw [List.getD_eq_getElem?_getD, List.getElem?_eq_none h] at hp; simp at hp
    obtain ⟨A, B, hA, hl⟩ := getD_split Ls i hi
    have hq' : q ∈ B.flatten := by
      have : Ls.getD j [] = B.getD (j - i - 1) [] := by
        conv => lhs; rw [hA]
        rw [List.getD_eq_getElem?_getD, List.getElem?_append_right (by omega), hl, show j - i = (j - i - 1) + 1 by omega, List.getElem?_cons_succ, ← List.getD_eq_getElem?_getD]
        simp
      rw [this] at hq
      exact mem_getD hq
    rw [hA] at hn
    simp only [List.flatten_append, List.flatten_cons, List.map_append] at hn
    have h2 := (List.nodup_append.1 (List.nodup_append.1 hn).2.1).2.2
    exact h2 p.1 (List.mem_map_of_mem hp) q.1 (List.mem_map_of_mem hq')
  rcases Nat.lt_or_gt_of_ne hij with h | h
  · exact key h hp hq
  · exact fun e => key h hq hp e.symm
theorem nodup_getD {Ls : List Seg} (hn : (Ls.flatten.map (·.1)).Nodup) (i : Nat) : ((Ls.getD i []).map (·.1)).Nodup := by
  by_cases hi : i < Ls.length
  · obtain ⟨A, B, hA, _⟩ := getD_split Ls i hi
    rw [hA] at hn
    simp only [List.flatten_append, List.flatten_cons, List.map_append] at hn
    exact (List.nodup_append.1 (List.nodup_append.1 hn).2.1).1
  · rw [List.getD_eq_getElem?_getD, List.getElem?_eq_none (by omega)]
    simp
theorem mem_pick {Ls : List Seg} : ∀ (is : List Nat) {p : Nat × Obj}, p ∈ (pick Ls is).flatten → ∃ i ∈ is, p ∈ Ls.getD i []
  | [], _, h => by simp [pick] at h
  | i :: r, _, h => by
    simp only [pick, List.flatten_cons, List.mem_append] at h
    rcases h with h | h
    · exact ⟨i, by simp, h⟩
    · obtain ⟨j, hj, hp⟩ := mem_pick r h
      exact ⟨j, by simp [hj], hp⟩
theorem nodup_pick {Ls : List Seg} (hn : (Ls.flatten.map (·.1)).Nodup) : ∀ (is : List Nat), is.Nodup → ((pick Ls is).flatten.map (·.1)).Nodup
  | [], _ => by simp [pick]
  | i :: r, h => by
    rw [List.nodup_cons] at h
    simp only [pick, List.flatten_cons, List.map_append, List.nodup_append]
    refine ⟨nodup_getD hn i, nodup_pick hn r h.2, ?_⟩
    intro a ha b hb hab
    subst hab
    obtain ⟨p, hp, rfl⟩ := List.mem_map.1 ha
    obtain ⟨q, hq, hqp⟩ := List.mem_map.1 hb
    obtain ⟨j, hj, hqj⟩ := mem_pick r hq
    exact apart_getD hn (fun (e : i = j) => h.1 (e ▸ hj)) hp hqj hqp.symm
def distinct : List Nat → Bool
  | [] => true
  | i :: r => (!(r.any (Nat.beq i))) && distinct r
theorem distinct_spec : ∀ {l : List Nat}, distinct l = true → l.Nodup
  | [], _ => by simp
  | i :: r, h => by
    simp only [distinct, Bool.and_eq_true, Bool.not_eq_true'] at h
    rw [List.nodup_cons]
    refine ⟨fun hm => ?_, distinct_spec h.2⟩
    have : r.any (Nat.beq i) = true := List.any_eq_true.2 ⟨i, hm, by simp⟩
    rw [h.1] at this
    cases this
theorem Mem.pick (h : Mem F w0 w Ls) (is : List Nat) (hd : distinct is = true) : Mem F w0 w (Gx.pick Ls is) :=
  h.part (fun p hp => by obtain ⟨i, _, hi⟩ := mem_pick is hp; exact mem_getD hi) (nodup_pick h.nodup is (distinct_spec hd))
theorem Mem.callF (h : Mem F w0 w Ls) (is js : List Nat) (hd : distinct (is ++ js) = true) (hc : Mem ((Gx.pick Ls is).flatten.map (·.1)) w w' L2) : Mem F w0 w' (Gx.pick Ls js ++ L2) := by
  have hnd := distinct_spec hd
  rw [List.nodup_append] at hnd
  have hapart : ∀ p ∈ (Gx.pick Ls js).flatten, p.1 ∉ (Gx.pick Ls is).flatten.map (·.1) := by
    intro p hp hm
    obtain ⟨q, hq, hqp⟩ := List.mem_map.1 hm
    obtain ⟨j, hj, hpj⟩ := mem_pick js hp
    obtain ⟨i, hi, hqi⟩ := mem_pick is hq
    exact apart_getD h.nodup (hnd.2.2 i hi j hj) hqi hpj hqp
  have hF : ∀ k ∈ (Gx.pick Ls is).flatten.map (·.1), w0.heap.size ≤ k ∨ k ∈ F := by
    intro k hk
    obtain ⟨q, hq, rfl⟩ := List.mem_map.1 hk
    obtain ⟨i, _, hqi⟩ := mem_pick is hq
    exact h.place q (mem_getD hqi)
  have hlt : ∀ p ∈ (Gx.pick Ls js).flatten, p.1 < w.heap.size := fun p hp => by
    obtain ⟨j, _, hpj⟩ := mem_pick js hp
    exact h.lt (mem_getD hpj)
  refine ⟨hc.os.trans h.os, hc.tape.trans h.tape, hc.output.trans h.output, Nat.le_trans h.size hc.size, ?_, ?_, ?_, ?_, fun k hk => (hc.frz k (Nat.lt_of_lt_of_le hk h.size)).trans (h.frz k hk)⟩
  · intro k hk hkF
    rw [hc.old k (Nat.lt_of_lt_of_le hk h.size) (fun hm => by rcases hF k hm with h1 | h1; omega; exact hkF h1), h.old k hk hkF]
  · intro p hp
    rw [List.flatten_append, List.mem_append] at hp
    rcases hp with hp | hp
    · rw [hc.old p.1 (hlt p hp) (hapart p hp)]
      obtain ⟨j, _, hpj⟩ := mem_pick js hp
      exact h.has p (mem_getD hpj)
    · exact hc.has p hp
  · intro p hp
    rw [List.flatten_append, List.mem_append] at hp
    rcases hp with hp | hp
    · obtain ⟨j, _, hpj⟩ := mem_pick js hp
      exact h.place p (mem_getD hpj)
    · rcases hc.place p hp with h1 | h1
      · exact Or.inl (Nat.le_trans h.size h1)
      · exact hF _ h1
  · rw [List.flatten_append, List.map_append, List.nodup_append]
    refine ⟨nodup_pick h.nodup js hnd.2.1, hc.nodup, ?_⟩
    intro a ha b hb hab
    subst hab
    obtain ⟨p, hp, rfl⟩ := List.mem_map.1 ha
    obtain ⟨q, hq, hqp⟩ := List.mem_map.1 hb
    rcases hc.place q hq with h2 | h2
    · have := hlt p hp; omega
    · exact hapart p hp (hqp ▸ h2)
theorem Mem.start (w : World) (Ls : List Seg) (h : ∀ p ∈ Ls.flatten, w.heap[p.1]? = some p.2) (hn : (Ls.flatten.map (·.1)).Nodup) : Mem (Ls.flatten.map (·.1)) w w Ls :=
  ⟨rfl, rfl, rfl, Nat.le_refl _, fun _ _ _ => rfl, h, fun _ hp => Or.inr (List.mem_map_of_mem hp), hn, fun _ _ => rfl⟩
theorem Mem.hasPick (h : Mem F w0 w Ls) (is : List Nat) : ∀ q ∈ (Gx.pick Ls is).flatten, w.heap[q.1]? = some q.2 := fun q hq => by
  obtain ⟨i, _, hi⟩ := mem_pick is hq
  exact h.has q (mem_getD hi)
theorem Mem.nodupPick (h : Mem F w0 w Ls) (is : List Nat) (hd : distinct is = true) : (idsOf (Gx.pick Ls is)).Nodup := nodup_pick h.nodup is (distinct_spec hd)
theorem Mem.regroup (h : Mem F w0 w Ls) (he : L2.flatten = Ls.flatten) : Mem F w0 w L2 :=
  h.part (fun _ hp => he ▸ hp) (he ▸ h.nodup)
theorem Mem.at_ (h : Mem F w0 w Ls) (i : Nat) {s : Seg} (hi : Ls.getD i [] = s) {p : Nat × Obj} (hp : p ∈ s) : w.heap[p.1]? = some p.2 :=
  h.has p (mem_getD (by rw [hi]; exact hp))
theorem Mem.blk (h : Mem F w0 w Ls) (i : Nat) {b : Nat} {o : Obj} (hi : Ls.getD i [] = [(b, o)]) : w.heap[b]? = some o :=
  h.at_ i hi (p := (b, o)) (by simp)
theorem set_flatten_ids {Ls : List Seg} : ∀ (i : Nat) {b : Nat} {o o' : Obj}, Ls.getD i [] = [(b, o)] → ((Ls.set i [(b, o')]).flatten.map (·.1)) = Ls.flatten.map (·.1) := by
  induction Ls with
  | nil => intro i b o o' h; simp at h
  | cons x r ih =>
    intro i b o o' h
    cases i with
    | zero => simp at h; subst h; simp
    | succ i => simp only [List.getD_cons_succ] at h; simp [ih i (o' := o') h]
theorem mem_set {Ls : List Seg} {i : Nat} {s : Seg} {p : Nat × Obj} (hp : p ∈ (Ls.set i s).flatten) : p ∈ s ∨ ∃ j, j ≠ i ∧ p ∈ Ls.getD j [] := by
  obtain ⟨t, ht, hpt⟩ := List.mem_flatten.1 hp
  obtain ⟨j, hj, rfl⟩ := List.mem_iff_getElem.1 ht
  rw [List.getElem_set] at hpt
  split at hpt
  · exact Or.inl hpt
  · rename_i hne
    refine Or.inr ⟨j, fun e => hne e.symm, ?_⟩
    rw [List.length_set] at hj
    rw [List.getD_eq_getElem?_getD, List.getElem?_eq_getElem hj]
    exact hpt
theorem Mem.set (h : Mem F w0 w Ls) (i : Nat) {b : Nat} {o : Obj} (o' : Obj) (hi : Ls.getD i [] = [(b, o)])
    (h1 : w'.os = w.os) (h2 : w'.tape = w.tape) (h3 : w'.output = w.output) (h4 : w'.heap.size = w.heap.size) (h5 : w'.heap[b]? = some o') (h6 : ∀ k, k ≠ b → w'.heap[k]? = w.heap[k]?) (h7 : fzOf (some o') = fzOf (some o)) :
    Mem F w0 w' (Ls.set i [(b, o')]) := by
  have hb : w0.heap.size ≤ b ∨ b ∈ F := h.place (b, o) (mem_getD (i := i) (by rw [hi]; simp))
  refine ⟨h1.trans h.os, h2.trans h.tape, h3.trans h.output, by rw [h4]; exact h.size, ?_, ?_, ?_, ?_, fun k hk0 => ?_⟩
  · intro k hk hF
    rw [h6 k (fun e => by subst e; rcases hb with hb | hb; exact absurd hk (by omega); exact hF hb), h.old k hk hF]
  · intro p hp
    rcases mem_set hp with hp | ⟨j, hj, hp⟩
    · simp only [List.mem_singleton] at hp; subst hp; exact h5
    · have hne : p.1 ≠ b := apart_getD h.nodup hj hp (q := (b, o)) (by rw [hi]; simp)
      rw [h6 p.1 hne]
      exact h.has p (mem_getD hp)
  · intro p hp
    rcases mem_set hp with hp | ⟨j, hj, hp⟩
    · simp only [List.mem_singleton] at hp; subst hp; exact hb
    · exact h.place p (mem_getD hp)
  · rw [set_flatten_ids i hi]; exact h.nodup
  · rw [← h.frz k hk0]
    by_cases hk : k = b
    · subst hk
      rw [h5, h7, h.has (k, o) (mem_getD (i := i) (by rw [hi]; simp))]
    · rw [h6 k hk]
theorem Mem.kept (h : Mem [] w0 w Ls) (may : MemPlace → Prop) : w0.keptBut w may := by
  refine ⟨h.os, h.output, fun i hi => ?_⟩
  rw [h.old i hi (by simp)]
  cases hw : w0.heap[i]? with
  | none => trivial
  | some o => cases o <;> simp
end
end Go.Gx
set_option linter.unusedVariables false
set_option linter.unusedSimpArgs false
namespace Go.Gx
theorem addr_add (b off m : Nat) : (⟨b, off, none⟩ : Addr).add m = ⟨b, off + m, none⟩ := by
  unfold Addr.add; split <;> simp_all
structure Enc (α : Type) where
  cells : α → List Value
  k : Nat
  len : ∀ x, (cells x).length = k
  one : ∀ x, ∀ v ∈ cells x, v.oneCell' = true
def encI : Enc Int := ⟨fun x => [.int .i64 x], 1, fun _ => rfl, by simp [Value.oneCell']⟩
def encB : Enc Bool := ⟨fun x => [.bool x], 1, fun _ => rfl, by simp [Value.oneCell']⟩
section
variable {α : Type} {E : Enc α} {F : List Nat} {w0 w w' : World} {Ls : List Seg} {xs ys : List α} {p q : Option Addr} {c : Nat} {seg : Seg}
def holds (E : Enc α) (cs : Array Value) (off : Nat) (xs : List α) : Prop :=
  ∀ i x, xs[i]? = some x → ∀ j v, (E.cells x)[j]? = some v → cs[off + i * E.k + j]? = some v
def rdS (E : Enc α) (w : World) (xs : List α) (p : Option Addr) (c : Nat) : Prop :=
  xs.length ≤ c ∧ (xs = [] ∨ ∃ b off cs e fr, p = some ⟨b, off, none⟩ ∧ w.heap[b]? = some (.cells cs e fr) ∧ holds E cs off xs)
def ownS (E : Enc α) (xs : List α) (p : Option Addr) (c : Nat) (seg : Seg) : Prop :=
  (p = none ∧ xs = [] ∧ c = 0 ∧ seg = []) ∨
  ∃ b off cs e, p = some ⟨b, off, none⟩ ∧ seg = [(b, .cells cs e (0, 0))] ∧ xs.length ≤ c ∧ c ≤ maxLen ∧ off + c * E.k ≤ cs.size ∧ holds E cs off xs
def apartF (F : List Nat) (p : Option Addr) : Prop := ∀ a, p = some a → a.block ∉ F
theorem apartF_nil : apartF [] p := fun _ _ => by simp
theorem rdS.mem (h : rdS E w0 xs p c) (hF : apartF F p) (hM : Mem F w0 w Ls) : rdS E w xs p c := by
  rcases h with ⟨hc, h | ⟨b, off, cs, e, fr, hp, hb, hh⟩⟩
  · exact ⟨hc, Or.inl h⟩
  · exact ⟨hc, Or.inr ⟨b, off, cs, e, fr, hp, by rw [hM.old b (lt_of_heap hb) (hF _ hp)]; exact hb, hh⟩⟩
def apartX (F : List Nat) (xs : List α) (p : Option Addr) : Prop := xs = [] ∨ ∀ a, p = some a → a.block ∉ F
theorem rdS.memX (h : rdS E w0 xs p c) (hF : apartX F xs p) (hM : Mem F w0 w Ls) : rdS E w xs p c := by
  rcases hF with hF | hF
  · exact ⟨h.1, Or.inl hF⟩
  · exact h.mem hF hM
theorem apartX.old (h : rdS E w0 xs p c) (hF : apartX F xs p) (hM : Mem F w0 w Ls) (is : List Nat) : apartX (idsOf (pick Ls is)) xs p := by
  rcases hF with hF | hF
  · exact Or.inl hF
  · rcases h with ⟨_, h | ⟨b, off, cs, e, fr, hp, hb, hh⟩⟩
    · exact Or.inl h
    · refine Or.inr fun a ha hm => ?_
      rw [hp] at ha
      cases ha
      obtain ⟨q, hq, hqb⟩ := List.mem_map.1 hm
      obtain ⟨i, _, hi⟩ := mem_pick is hq
      have h1 := lt_of_heap hb
      rcases hM.place q (mem_getD hi) with h2 | h2
      · rw [hqb] at h2; simp only [] at h2; omega
      · rw [hqb] at h2; exact hF _ hp h2
theorem apartX.own (h : ownS E xs p c seg) (hM : Mem F w0 w Ls) (i : Nat) (hi : Ls.getD i [] = seg) (is : List Nat) (hd : distinct (i :: is) = true) : apartX (idsOf (pick Ls is)) xs p := by
  rcases h with ⟨_, h, _, _⟩ | ⟨b, off, cs, e, hp, hs, _, _, _, hh⟩
  · exact Or.inl h
  · refine Or.inr fun a ha hm => ?_
    rw [hp] at ha
    cases ha
    subst hs
    obtain ⟨q, hq, hqb⟩ := List.mem_map.1 hm
    obtain ⟨j, hj, hqj⟩ := mem_pick is hq
    have hne : i ≠ j := fun e => by
      have := distinct_spec hd
      rw [List.nodup_cons] at this
      exact this.1 (e ▸ hj)
    exact apart_getD hM.nodup hne (p := (b, .cells cs e (0, 0))) (by rw [hi]; simp) hqj hqb.symm
theorem rdS.mem0 (h : rdS E w0 xs p c) (hM : Mem [] w0 w Ls) : rdS E w xs p c := h.mem apartF_nil hM
theorem ownS.len_le (h : ownS E xs p c seg) : xs.length ≤ c := by
  rcases h with ⟨_, h, _, _⟩ | ⟨b, off, cs, e, hp, hs, hl, _, _, hh⟩
  · simp [h]
  · exact hl
theorem ownS.rd (h : ownS E xs p c seg) (hM : Mem F w0 w Ls) (i : Nat) (hi : Ls.getD i [] = seg) : rdS E w xs p c := by
  refine ⟨h.len_le, ?_⟩
  rcases h with ⟨_, h, _, _⟩ | ⟨b, off, cs, e, hp, hs, _, _, _, hh⟩
  · exact Or.inl h
  · subst hs; exact Or.inr ⟨b, off, cs, e, (0, 0), hp, hM.blk i hi, hh⟩
theorem rdS_nil : rdS E w [] p c := ⟨by simp, Or.inl rfl⟩
theorem ownS_nil : ownS E [] none 0 [] := Or.inl ⟨rfl, rfl, rfl, rfl⟩
def subP (p : Option Addr) (l c k : Nat) : Option Addr := if c = l then p else p.map fun a => a.add (l * k)
theorem rdS.slice (h : rdS E w xs p c) (l hi : Nat) (hl : l ≤ hi) (hx : hi ≤ xs.length) : rdS E w ((xs.take hi).drop l) (subP p l c E.k) (c - l) := by
  obtain ⟨hc, h⟩ := h
  have hlen : ((xs.take hi).drop l).length = hi - l := by simp; omega
  refine ⟨by omega, ?_⟩
  by_cases hcl : c = l
  · left
    have : hi - l = 0 := by omega
    exact List.eq_nil_of_length_eq_zero (by omega)
  · rcases h with h | ⟨b, off, cs, e, fr, hp, hb, hh⟩
    · exact Or.inl (by rw [h]; simp)
    · refine Or.inr ⟨b, off + l * E.k, cs, e, fr, by simp [subP, hcl, hp, addr_add], hb, fun i x hx' j v hv => ?_⟩
      rw [List.getElem?_drop, List.getElem?_take] at hx'
      split at hx'
      · have := hh (l + i) x hx' j v hv
        rwa [show off + l * E.k + i * E.k + j = off + (l + i) * E.k + j by rw [Nat.add_mul]; omega]
      · cases hx'
theorem ownS.slice (h : ownS E xs p c seg) (l hi : Nat) (hl : l ≤ hi) (hx : hi ≤ xs.length) : ∃ seg', ownS E ((xs.take hi).drop l) (subP p l c E.k) (c - l) seg' ∧ (seg' = seg ∨ seg' = []) := by
  have hlen : ((xs.take hi).drop l).length = hi - l := by simp; omega
  rcases h with ⟨h0, h1, h2, h3⟩ | ⟨b, off, cs, e, hp, hs, hc, hm, hsz, hh⟩
  · subst h0 h1 h2 h3
    refine ⟨[], Or.inl ⟨by simp [subP], by simp, by omega, rfl⟩, Or.inl rfl⟩
  · refine ⟨seg, Or.inr ?_, Or.inl rfl⟩
    by_cases hcl : c = l
    · refine ⟨b, off, cs, e, by simp [subP, hcl, hp], hs, by omega, by omega, ?_, fun i x hx' j v hv => ?_⟩
      · rw [hcl, Nat.sub_self, Nat.zero_mul]; omega
      · have : ((xs.take hi).drop l) = [] := List.eq_nil_of_length_eq_zero (by omega)
        rw [this] at hx'; simp at hx'
    · refine ⟨b, off + l * E.k, cs, e, by simp [subP, hcl, hp, addr_add], hs, by omega, by omega, ?_, fun i x hx' j v hv => ?_⟩
      · have : (c - l) * E.k + l * E.k = c * E.k := by rw [← Nat.add_mul]; congr 1; omega
        omega
      · rw [List.getElem?_drop, List.getElem?_take] at hx'
        split at hx'
        · have := hh (l + i) x hx' j v hv
          rwa [show off + l * E.k + i * E.k + j = off + (l + i) * E.k + j by rw [Nat.add_mul]; omega]
        · cases hx'
theorem rdS.isSome (h : rdS E w xs p c) {i : Nat} {x : α} (hx : xs[i]? = some x) : p.isSome = true := by
  rcases h with ⟨hc, h | ⟨b, off, cs, e, fr, hp, hb, hh⟩⟩
  · subst h; simp at hx
  · simp [hp]
def shapeT (P : Program) (t : TypeId) : Option (Bool × Nat) :=
  match P.underlying t, P.info? t with
  | some (.struct _), some i => some (true, i.size)
  | some (.array _ _), some i => some (true, i.size)
  | some _, some i => some (false, i.size)
  | _, _ => none
def loadV (agg : Bool) (k : Nat) (cs : List Value) (off : Nat) : Option Value :=
  match agg with
  | true => bif Nat.ble (off + k) cs.length then some (.agg ⟨(cs.drop off).take k⟩) else none
  | false => cs[off]?
theorem shapeT_spec {P : Program} {t : TypeId} {g : Bool} {k : Nat} (h : shapeT P t = some (g, k)) (w : World) :
    (isAgg t).run P w = .ok g w ∧ (sizeOf t).run P w = .ok k w := by
  unfold shapeT at h
  cases hu : P.underlying t with
  | none => simp [hu] at h
  | some d =>
    cases hi : P.info? t with
    | none => cases d <;> simp [hu, hi] at h
    | some i =>
      have hs : (sizeOf t).run P w = .ok i.size w := by simp [sizeOf, typeInfo, hi]
      cases d <;> simp only [hu, hi, Option.some.injEq, Prod.mk.injEq] at h <;> obtain ⟨rfl, rfl⟩ := h <;>
        exact ⟨by simp [isAgg, run_underlying hu], hs⟩
theorem run_loadVar_in {P : Program} {t : TypeId} {g : Bool} {k : Nat} (hs : shapeT P t = some (g, k)) {b m off : Nat} {cs : List Value} {v : Value}
    (hv : loadV g k cs off = some v) (hc : ∀ j u, cs[j]? = some u → w.cell? ⟨b, m + j, none⟩ = some u) :
    (loadVar t ⟨b, m + off, none⟩).run P w = .ok v w := by
  obtain ⟨h1, h2⟩ := shapeT_spec hs w
  unfold loadVar
  simp only [Sem.run_bind, h1, Result.andThen_ok]
  cases g with
  | false =>
    simp only [loadV] at hv
    have := hc off v hv
    simp [run_load, this]
  | true =>
    simp only [loadV] at hv
    cases hle : Nat.ble (off + k) cs.length with
    | false => simp [hle] at hv
    | true =>
      have hle' : off + k ≤ cs.length := Nat.ble_eq ▸ hle
      simp only [hle, cond_true, Option.some.injEq] at hv
      subst hv
      have hl : ((cs.drop off).take k).length = k := by simp; omega
      have hrun := run_loadCells_list (P := P) w ⟨b, m + off, none⟩ ((cs.drop off).take k) (fun j u hu => by
        rw [addr_add, Nat.add_assoc]
        refine hc (off + j) u ?_
        rw [List.getElem?_take] at hu
        split at hu
        · rwa [List.getElem?_drop] at hu
        · cases hu)
      rw [hl] at hrun
      simp [h2, hrun]
theorem cell_of_heap {b m : Nat} {cs : Array Value} {e : TypeId} {fr : Nat × Nat} (h : w.heap[b]? = some (.cells cs e fr)) : w.cell? ⟨b, m, none⟩ = cs[m]? := cell_of_row w b m cs e fr h
section ops
variable {P : Program} {ops : Array Oper} {n : Nat} {Q : Exit → Act → World → Prop} {S : Store} {rest : List Oper} {o : Oper}
theorem run_load_blk {t : TypeId} {x : Operand} {g : Bool} {k b off : Nat} {cs : List Value} {e : TypeId} {fr : Nat × Nat} {v : Value}
    (hs : shapeT P t = some (g, k)) (hb : w.heap[b]? = some (.cells ⟨cs⟩ e fr)) (hv : loadV g k cs off = some v) :
    (loadVar t ⟨b, off, none⟩).run P w = .ok v w := by
  have := run_loadVar_in (P := P) (w := w) (b := b) (m := 0) hs hv (fun j u hu => by rw [cell_of_heap hb]; simpa using hu)
  simpa using this
theorem RV_cell {t : Nat} {ty : TypeId} {g : Bool} {k b off : Nat} {cs : List Value} {e : TypeId} {fr : Nat × Nat} {v : Value}
    (hb : w.heap[b]? = some (.cells ⟨cs⟩ e fr)) (hx : look S t = some (.pointer (some ⟨b, off, none⟩))) (hs : shapeT P ty = some (g, k)) (hv : loadV g k cs off = some v) : RV P S w (.cell t ty) v :=
  ⟨_, hx, run_load_blk (x := .tmp t) hs hb hv⟩
def splice (cs : List Value) (off : Nat) (vs : List Value) : List Value := cs.take off ++ vs ++ cs.drop (off + vs.length)
def oneB (v : Value) : Bool := match v with
  | .agg _ | .tuple _ => false
  | _ => true
theorem run_storeVar_blk {t : TypeId} {b off k : Nat} {g : Bool} {cs : List Value} {e : TypeId} {v : Value} (hs : shapeT P t = some (g, k)) (hk : v.cells.toList.length = k)
    (hb : w.heap[b]? = some (.cells ⟨cs⟩ e (0, 0))) (hl : off + k ≤ cs.length) (h1 : ∀ u ∈ v.cells.toList, u.oneCell' = true) :
    (storeVar t ⟨b, off, none⟩ v).run P w = .ok () (w.setRow b ⟨splice cs off v.cells.toList⟩) := by
  obtain ⟨_, h2⟩ := shapeT_spec hs w
  unfold storeVar
  have hst := run_storeCells_at P b off e v.cells.toList 0 ⟨cs⟩ w hb (by simp only [Nat.add_zero, hk]; simpa using hl) h1
  simp only [Nat.add_zero] at hst
  have hk' : ¬ (v.cells.size ≠ k) := by simpa using hk
  simp only [Sem.run_bind, h2, Result.andThen_ok, if_neg hk', hst]
  rfl
theorem Mem.setRow (hM : Mem F w0 w Ls) (i : Nat) {b : Nat} {cs : Array Value} {e : TypeId} (cs' : Array Value) (hi : Ls.getD i [] = [(b, .cells cs e (0, 0))]) :
    Mem F w0 (w.setRow b cs') (Ls.set i [(b, .cells cs' e (0, 0))]) :=
  hM.set (w' := w.setRow b cs') i _ hi rfl rfl rfl (by simp) (setRow_heap w b cs cs' e (0, 0) (hM.blk i hi)) (fun k hk => setRow_other w b k cs' hk) rfl
theorem W_store (t : TypeId) (x y : Operand) (g : Bool) (k b off : Nat) (cs : List Value) (e : TypeId) (v : Value) (i : Nat) (cs' : List Value) (hM : Mem F w0 w Ls)
    (hok : okAll ops n S o = true) (ho : o.op = .store t x y) (hx : evalO S x = some (.pointer (some ⟨b, off, none⟩))) (hy : evalO S y = some v)
    (hs : shapeT P t = some (g, k)) (hk : Nat.beq v.cells.toList.length k = true) (hone : v.cells.toList.all oneB = true) (hi : Ls.getD i [] = [(b, .cells ⟨cs⟩ e (0, 0))])
    (hl : Nat.ble (off + k) cs.length = true) (hc' : splice cs off v.cells.toList = cs')
    (kk : ∀ w', Mem F w0 w' (Ls.set i [(b, .cells ⟨cs'⟩ e (0, 0))]) → W P ops n Q (putS S o.dst undef) w' rest) : W P ops n Q S w (o :: rest) := by
  have h1 : ∀ u ∈ v.cells.toList, u.oneCell' = true := fun u hu => by
    have := List.all_eq_true.1 hone u hu
    cases u <;> first | rfl | (simp [oneB] at this)
  refine W_skip (w.setRow b ⟨cs'⟩) hok ?_ (kk _ (hM.setRow i ⟨cs'⟩ hi))
  unfold execOp
  simp only [ho, Instr.storeAt, Instr.sureAddr, rho, hx, hy, Option.getD_some, Sem.run_bind, Sem.run_pure, Result.andThen_ok,
    run_storeVar_blk hs (Nat.eq_of_beq_eq_true hk) (hM.blk i hi) (Nat.ble_eq ▸ hl) h1, hc']
theorem W_new (fv : Nat → Value) (ob : Obj) (hM : Mem F w0 w Ls) (hfz : fzOf (some ob) = (0, 0)) (hok : okAll ops n S o = true) (hr : (execOp (rho S) o).run P w = .ok (.value (fv w.heap.size)) (w.alloc ob))
    (kk : ∀ b w', Mem F w0 w' (Ls ++ [[(b, ob)]]) → W P ops n Q (putS S o.dst (fv b)) w' rest) : W P ops n Q S w (o :: rest) :=
  W_val _ _ hok hr (kk _ _ (hM.alloc ob hfz))
def elemP (p : Option Addr) (m : Nat) : Value := match p with
  | some a => .pointer (some ⟨a.block, a.off + m, none⟩)
  | none => undef
def sliceElem (P : Program) (t : TypeId) : Option Nat :=
  match P.underlying t with
  | some (.slice e) => (P.info? e).map (·.size)
  | _ => none
theorem sliceElem_spec {t : TypeId} {k : Nat} (h : sliceElem P t = some k) : ∃ e i, P.underlying t = some (.slice e) ∧ P.info? e = some i ∧ i.size = k := by
  unfold sliceElem at h
  split at h
  · rename_i e he
    obtain ⟨i, hi, hk⟩ := Option.map_eq_some_iff.1 h
    exact ⟨e, i, he, hi, hk⟩
  · cases h
def plainP (p : Option Addr) : Prop := ∀ a, p = some a → a.spot = none
theorem rdS.plain (h : rdS E w xs p c) {i : Nat} {x : α} (hx : xs[i]? = some x) : plainP p := by
  rcases h with ⟨_, h | ⟨b, off, cs, e, fr, hp, hb, hh⟩⟩
  · subst h; simp at hx
  · intro a ha; rw [hp] at ha; cases ha; rfl
theorem holds_set {cs : Array Value} {off : Nat} (h : holds E cs off xs) (i : Nat) (y y' : α) (hy : xs[i]? = some y) (f : Nat) (vs : List Value) (hsp : splice (E.cells y) f vs = E.cells y') (hf : f + vs.length ≤ E.k)
    (hsz : off + xs.length * E.k ≤ cs.size) : holds E ⟨splice cs.toList (off + i * E.k + f) vs⟩ off (xs.set i y') := by
  have hlt : i < xs.length := (List.getElem?_eq_some_iff.1 hy).1
  have hbig : off + i * E.k + E.k ≤ cs.size := by
    have : (i + 1) * E.k ≤ xs.length * E.k := Nat.mul_le_mul_right _ hlt
    rw [Nat.add_mul] at this; omega
  intro i' x' hx' j v hv
  have hj : j < E.k := by
    have := (List.getElem?_eq_some_iff.1 hv).1
    rwa [E.len] at this
  have hlen : (E.cells y).length = E.k := E.len y
  simp only [List.getElem?_toArray, splice]
  rw [List.getElem?_set] at hx'
  by_cases hii : i = i'
  · subst hii
    simp only [hlt, if_true, Option.some.injEq] at hx'
    subst hx'
    rw [← hsp] at hv
    simp only [splice] at hv
    by_cases h1 : j < f
    · rw [List.append_assoc, List.getElem?_append_left (by simp; omega), List.getElem?_take, if_pos h1] at hv
      rw [List.append_assoc, List.getElem?_append_left (by simp; omega), List.getElem?_take, if_pos (by omega)]
      have := h i y hy j v hv
      simpa using this
    · by_cases h2 : j < f + vs.length
      · rw [List.append_assoc, List.getElem?_append_right (by simp; omega), List.getElem?_append_left (by simp; omega)] at hv
        rw [List.append_assoc, List.getElem?_append_right (by simp; omega), List.getElem?_append_left (by simp; omega)]
        rw [← hv]
        congr 1
        simp
        omega
      · rw [List.append_assoc, List.getElem?_append_right (by simp; omega), List.getElem?_append_right (by simp; omega), List.getElem?_drop] at hv
        rw [List.append_assoc, List.getElem?_append_right (by simp; omega), List.getElem?_append_right (by simp; omega), List.getElem?_drop]
        have e1 : f + vs.length + (j - (List.take f (E.cells y)).length - vs.length) = j := by simp; omega
        rw [e1] at hv
        have := h i y hy j v hv
        have e2 : off + i * E.k + f + vs.length + (off + i * E.k + j - (List.take (off + i * E.k + f) cs.toList).length - vs.length) = off + i * E.k + j := by simp; omega
        rw [e2]
        simpa using this
  · rw [if_neg hii] at hx'
    have := h i' x' hx' j v hv
    have this' : cs.toList[off + i' * E.k + j]? = some v := by simpa using this
    rcases Nat.lt_or_gt_of_ne hii with hlt' | hgt
    · have : (i + 1) * E.k ≤ i' * E.k := Nat.mul_le_mul_right _ hlt'
      rw [Nat.add_mul] at this
      rw [List.append_assoc, List.getElem?_append_right (by simp; omega), List.getElem?_append_right (by simp; omega), List.getElem?_drop]
      have e2 : off + i * E.k + f + vs.length + (off + i' * E.k + j - (List.take (off + i * E.k + f) cs.toList).length - vs.length) = off + i' * E.k + j := by simp; omega
      rw [e2]
      exact this'
    · have : (i' + 1) * E.k ≤ i * E.k := Nat.mul_le_mul_right _ hgt
      rw [Nat.add_mul] at this
      rw [List.append_assoc, List.getElem?_append_left (by simp; omega), List.getElem?_take, if_pos (by omega)]
      exact this'
theorem W_storeE (t : TypeId) (x z : Operand) (g : Bool) (k : Nat) (i f m : Nat) (y y' : α) (v : Value) (pl : Nat) (hM : Mem F w0 w Ls) (hown : ownS E xs p c seg) (hi : Ls.getD pl [] = seg)
    (hok : okAll ops n S o = true) (ho : o.op = .store t x z) (hx : evalO S x = some (elemP p m)) (hz : evalO S z = some v)
    (hs : shapeT P t = some (g, k)) (hk : Nat.beq v.cells.toList.length k = true) (hone : v.cells.toList.all oneB = true) (hfk : Nat.ble (f + k) E.k = true)
    (hsp : splice (E.cells y) f v.cells.toList = E.cells y') (hy : xs[i]? = some y) (hm : m = i * E.k + f)
    (kk : ∀ w' seg', ownS E (xs.set i y') p c seg' → Mem F w0 w' (Ls.set pl seg') → W P ops n Q (putS S o.dst undef) w' rest) : W P ops n Q S w (o :: rest) := by
  have h1 : ∀ u ∈ v.cells.toList, u.oneCell' = true := fun u hu => by
    have := List.all_eq_true.1 hone u hu
    cases u <;> first | rfl | (simp [oneB] at this)
  have hkv := Nat.eq_of_beq_eq_true hk
  have hkv' : v.cells.size = k := by simpa using hkv
  rcases hown with ⟨_, h, _, _⟩ | ⟨b, off, cs, e, hp, hseg, hlc, hcm, hsz, hh⟩
  · subst h; simp at hy
  · subst hp hm hseg
    have hlt : i < xs.length := (List.getElem?_eq_some_iff.1 hy).1
    have hxs : off + xs.length * E.k ≤ cs.size := by
      have : xs.length * E.k ≤ c * E.k := Nat.mul_le_mul_right _ hlc
      omega
    have hfk' : f + k ≤ E.k := Nat.ble_eq ▸ hfk
    have hbig : off + i * E.k + E.k ≤ cs.size := by
      have : (i + 1) * E.k ≤ xs.length * E.k := Nat.mul_le_mul_right _ hlt
      rw [Nat.add_mul] at this; omega
    have hspl : (splice cs.toList (off + i * E.k + f) v.cells.toList).length = cs.size := by simp [splice]; omega
    refine W_skip _ hok ?_ (kk _ _ (Or.inr ⟨b, off, ⟨splice cs.toList (off + i * E.k + f) v.cells.toList⟩, e, rfl, rfl, by simpa using hlc, hcm, by simpa [hspl] using hsz, holds_set hh i y y' hy f _ hsp (by omega) hxs⟩) (hM.setRow pl _ hi))
    have hst := run_storeVar_blk (P := P) (w := w) (b := b) (off := off + (i * E.k + f)) (cs := cs.toList) (e := e) hs hkv (hM.blk pl hi) (by simp; omega) h1
    unfold execOp
    simp only [ho, Instr.storeAt, Instr.sureAddr, rho, hx, hz, elemP, Option.getD_some, Sem.run_bind, Sem.run_pure, Result.andThen_ok, hst, Nat.add_assoc]
end ops
end
end Go.Gx
set_option linter.unusedVariables false
set_option linter.unusedSimpArgs false
namespace Go.Gx
section
variable {α : Type} {E : Enc α} {F : List Nat} {w0 w w' : World} {Ls : List Seg} {xs ys : List α} {p q : Option Addr} {c : Nat} {seg : Seg}
def flat (E : Enc α) (xs : List α) : List Value := xs.flatMap E.cells
def holdsF (cs : Array Value) (off : Nat) (vs : List Value) : Prop := ∀ m v, vs[m]? = some v → cs[off + m]? = some v
theorem flat_length (E : Enc α) : ∀ xs : List α, (flat E xs).length = xs.length * E.k
  | [] => by simp [flat]
  | x :: r => by
    have := flat_length E r
    simp only [flat, List.flatMap_cons, List.length_append, E.len, List.length_cons] at *
    rw [this, Nat.add_mul]; omega
theorem flat_append (E : Enc α) (xs ys : List α) : flat E (xs ++ ys) = flat E xs ++ flat E ys := by simp [flat]
theorem flat_one (E : Enc α) (xs : List α) : ∀ v ∈ flat E xs, v.oneCell' = true := by
  intro v hv
  obtain ⟨x, _, hx⟩ := List.mem_flatMap.1 hv
  exact E.one x v hx
theorem holds_flat {cs : Array Value} : ∀ {xs : List α} {off : Nat}, holds E cs off xs ↔ holdsF cs off (flat E xs)
  | [], off => by simp [holds, holdsF, flat]
  | x :: r, off => by
    have ih := @holds_flat cs r (off + E.k)
    have hk := E.len x
    constructor
    · intro h m v hm
      simp only [flat, List.flatMap_cons] at hm
      by_cases hlt : m < E.k
      · rw [List.getElem?_append_left (by omega)] at hm
        have := h 0 x (by simp) m v hm
        simpa using this
      · rw [List.getElem?_append_right (by omega), hk] at hm
        have h2 : holds E cs (off + E.k) r := fun i y hy j u hu => by
          have := h (i + 1) y (by simpa using hy) j u hu
          rwa [show off + E.k + i * E.k + j = off + (i + 1) * E.k + j by rw [Nat.add_mul]; omega]
        have := ih.1 h2 (m - E.k) v hm
        rwa [show off + E.k + (m - E.k) = off + m by omega] at this
    · intro h i y hy j u hu
      have hj : j < E.k := by have := (List.getElem?_eq_some_iff.1 hu).1; rwa [E.len] at this
      cases i with
      | zero =>
        simp only [List.getElem?_cons_zero, Option.some.injEq] at hy
        subst hy
        have := h j u (by simp only [flat, List.flatMap_cons]; rw [List.getElem?_append_left (by omega)]; exact hu)
        simpa using this
      | succ i =>
        have h2 : holdsF cs (off + E.k) (flat E r) := fun m v hm => by
          have := h (E.k + m) v (by
            simp only [flat, List.flatMap_cons]
            rw [List.getElem?_append_right (by omega), hk, show E.k + m - E.k = m by omega]; exact hm)
          rwa [← Nat.add_assoc] at this
        have := ih.2 h2 i y (by simpa using hy) j u hu
        rwa [show off + (i + 1) * E.k + j = off + E.k + i * E.k + j by rw [Nat.add_mul]; omega]
theorem rdS.cells (h : rdS E w xs p c) (hne : xs ≠ []) : ∃ a, p = some a ∧ ∀ j v, (flat E xs)[j]? = some v → w.cell? (a.add j) = some v := by
  rcases h with ⟨_, h | ⟨b, off, cs, e, fr, hp, hb, hh⟩⟩
  · exact absurd h hne
  · exact ⟨_, hp, fun j v hv => by rw [addr_add, cell_of_heap hb]; exact holds_flat.1 hh j v hv⟩
def sliceInfo (P : Program) (t : TypeId) : Option (Nat × Nat × List Value) :=
  match P.underlying t with
  | some (.slice e) => match P.info? e with
    | some i => i.zero.map fun z => (i.size, i.bytes, z.cells.toList)
    | none => none
  | _ => none
theorem sliceInfo_spec {P : Program} {t : TypeId} {k bytes : Nat} {zs : List Value} (h : sliceInfo P t = some (k, bytes, zs)) :
    ∃ e i z, P.underlying t = some (.slice e) ∧ P.info? e = some i ∧ i.zero = some z ∧ i.size = k ∧ i.bytes = bytes ∧ z.cells.toList = zs := by
  unfold sliceInfo at h
  split at h
  · rename_i e he
    split at h
    · rename_i i hi
      obtain ⟨z, hz, hk⟩ := Option.map_eq_some_iff.1 h
      simp only [Prod.mk.injEq] at hk
      exact ⟨e, i, z, he, hi, hz, hk.1, hk.2.1, hk.2.2⟩
    · cases h
  · cases h
def gxApp (B : Nat) (xs ys : List α) : Option (List α) := if (xs.length + ys.length) * B ≤ 140737488355328 then some (xs ++ ys) else none
theorem gxApp_spec {B : Nat} {xs ys zs : List α} (h : gxApp B xs ys = some zs) : (xs.length + ys.length) * B ≤ 140737488355328 ∧ zs = xs ++ ys := by
  unfold gxApp at h
  split at h
  · simp only [Option.some.injEq] at h; exact ⟨‹_›, h.symm⟩
  · cases h
theorem Mem.replace (hM : Mem F w0 w (Ls ++ [seg])) (pl : Nat) (hpl : pl < Ls.length) : Mem F w0 w (Ls.set pl seg) := by
  refine hM.part (fun p hp => ?_) ?_
  · rw [List.flatten_append, List.mem_append]
    rcases mem_set hp with h | ⟨j, _, h⟩
    · exact Or.inr (by simpa using h)
    · exact Or.inl (mem_getD h)
  · have hn := hM.nodup
    obtain ⟨A, B, hA, hl⟩ := getD_split Ls pl hpl
    have hset : Ls.set pl seg = A ++ seg :: B := by
      conv => lhs; rw [hA]
      rw [List.set_append_right _ _ (by omega), hl, Nat.sub_self]
      rfl
    rw [hset]
    rw [hA] at hn
    simp only [List.flatten_append, List.flatten_cons, List.map_append, List.flatten_nil, List.append_nil, List.append_assoc] at hn ⊢
    have hn2 : ((A.flatten.map (·.1)) ++ ((B.flatten.map (·.1)) ++ (seg.map (·.1)))).Nodup := by
      refine List.Nodup.sublist (List.Sublist.append (List.Sublist.refl _) ?_) hn
      exact List.sublist_append_right _ _
    refine ((List.Perm.append_left _ ?_).nodup_iff).2 hn2
    exact List.perm_append_comm
theorem run_appendG {P : Program} {t ty : TypeId} {bytes : Nat} {zs : List Value} {cy : Nat} {ysn : Nat} (hi : sliceInfo P t = some (E.k, bytes, zs)) (hz : zs.length = E.k) (hk : 0 < E.k)
    (hown : ownS E xs p c seg) (pl : Nat) (hM : Mem F w0 w Ls) (hpl : Ls.getD pl [] = seg) (hlt : pl < Ls.length) (hrd : rdS E w ys q cy)
    (hb : (xs.length + ys.length) * bytes ≤ 140737488355328) (hmax : xs.length + ys.length ≤ maxLen) :
    ∃ p' c' seg' w', (Builtin.append_ #[t, t] ty #[.slice p xs.length c, .slice q ys.length cy]).run P w = .ok (.slice p' (xs ++ ys).length c') w' ∧
      ownS E (xs ++ ys) p' c' seg' ∧ Mem F w0 w' (Ls.set pl seg') := by
  obtain ⟨e, i, z, hu, hinf, hzero, hsz, hby, hzs⟩ := sliceInfo_spec hi
  have hzk : z.cells.size = E.k := by rw [← hz, ← hzs]; simp
  have hmax' : xs.length + ys.length ≤ 9223372036854775807 := by simpa [maxLen] using hmax
  by_cases h0 : ys = []
  · subst h0
    refine ⟨p, c, seg, w, ?_, by simpa using hown, ?_⟩
    · have hroom : xs.length + 0 ≤ c := by have := hown.len_le; omega
      cases q <;> cases p <;> simp [Builtin.append_, run_underlying hu, sizeOf, typeInfo, hinf, Builtin.lenOf, hroom, Builtin.firstCells, loadCells, loadCellsFrom, storeCells, hown.len_le]
    · have : Ls.set pl seg = Ls := by
        rw [← hpl]
        apply List.ext_getElem?
        intro j
        rw [List.getElem?_set]
        split
        · rename_i hj; subst hj; simp [hlt, List.getD_eq_getElem?_getD]
        · rfl
      rw [this]; exact hM
  · have hn0 : 0 < ys.length := List.length_pos_iff.2 h0
    obtain ⟨a, hq, hcells⟩ := hrd.cells h0
    subst hq
    have hl : (flat E ys).length = ys.length * i.size := by rw [hsz]; exact flat_length E ys
    -- a new block
    have grown : ∀ (old : Nat) (olds : List Value), olds = flat E xs → ∃ seg', 
        ownS E (xs ++ ys) (some ⟨w.heap.size, 0, none⟩) (grownCap w (xs.length + ys.length) old e) seg' ∧
        Mem F w0 (w.drew.alloc (.cells (olds.toArray ++ (flat E ys).toArray ++ Builtin.zeroCells z.cells (grownCap w (xs.length + ys.length) old e - (xs.length + ys.length))) e)) (Ls.set pl seg') := by
      intro old olds ho
      subst ho
      have hge := grownCap_ge w (xs.length + ys.length) old e
      have hcm := grownCap_le_maxLen w (xs.length + ys.length) old e hmax
      refine ⟨_, Or.inr ⟨w.heap.size, 0, _, e, rfl, rfl, by simpa using hge, hcm, ?_, ?_⟩, Mem.replace (Mem.alloc (w := w.drew) ⟨hM.os, hM.tape, hM.output, hM.size, hM.old, hM.has, hM.place, hM.nodup, hM.frz⟩ _ rfl) pl hlt⟩
      · simp only [Array.size_append, List.size_toArray, flat_length, size_zeroCells, hzk, Nat.zero_add, ← Nat.add_mul]
        refine Nat.mul_le_mul_right _ ?_
        omega
      · rw [holds_flat, flat_append]
        intro m v hm
        have hlen : m < (flat E xs ++ flat E ys).length := (List.getElem?_eq_some_iff.1 hm).1
        rw [Nat.zero_add, Array.getElem?_append_left (by simpa using hlen)]
        simpa using hm
    rcases hown with ⟨hp, hx, hc, hs⟩ | ⟨b, off, cs, e', hp, hs, hlc, hcm, hsize, hh⟩
    · subst hp hx hc hs
      have hr := run_append_nil (P := P) w t ty e i z hu hinf hzero a ys.length cy (flat E ys) hl hcells hn0 (by simp only [List.length_nil] at hmax'; omega) (by subst hby; simp only [List.length_nil, Nat.zero_add] at hb; omega)
      obtain ⟨seg', h1, h2⟩ := grown 0 [] (by simp [flat])
      simp only [List.length_nil, Nat.zero_add, List.nil_append, Array.empty_append] at hr h1 h2 ⊢
      exact ⟨_, _, seg', _, hr, h1, h2⟩
    · subst hp hs
      have hxcells : ∀ j v, (flat E xs)[j]? = some v → w.cell? ((⟨b, off, none⟩ : Addr).add j) = some v := fun j v hv => by
        rw [addr_add, cell_of_heap (hM.blk pl hpl)]; exact holds_flat.1 hh j v hv
      by_cases hroom : xs.length + ys.length ≤ c
      · have hfit : (off + xs.length * E.k) + 0 + (flat E ys).length ≤ cs.size := by
          rw [flat_length]
          have : (xs.length + ys.length) * E.k ≤ c * E.k := Nat.mul_le_mul_right _ hroom
          rw [Nat.add_mul] at this; omega
        have hf := run_firstCells_some (P := P) w i.size ys.length a ys.length cy (flat E ys) hl hcells
        have hst := run_storeCells_at P b (off + xs.length * E.k) e' (flat E ys) 0 cs w (hM.blk pl hpl) hfit (flat_one E ys)
        refine ⟨some ⟨b, off, none⟩, c, [(b, .cells (cs.toList.take (off + xs.length * E.k + 0) ++ flat E ys ++ cs.toList.drop (off + xs.length * E.k + 0 + (flat E ys).length)).toArray e' (0, 0))], _, ?_, Or.inr ⟨b, off, _, e', rfl, rfl, ?_, hcm, ?_, ?_⟩, hM.setRow pl _ hpl⟩
        · rw [hsz] at hf
          simp only [Nat.add_zero] at hst
          simp [Builtin.append_, run_underlying hu, sizeOf, typeInfo, hinf, Builtin.lenOf, hroom, hf, addr_add, hsz]
          rw [hst]
          simp
        · simpa using hroom
        · simp only [List.size_toArray, List.length_append, List.length_take, List.length_drop, Array.length_toList]; omega
        · rw [holds_flat, flat_append]
          intro m v hm
          have hfx := flat_length E xs
          have hfy := flat_length E ys
          simp only [List.getElem?_toArray, Nat.add_zero]
          by_cases hlt' : m < (flat E xs).length
          · rw [List.getElem?_append_left hlt'] at hm
            rw [List.append_assoc, List.getElem?_append_left (by simp; omega), List.getElem?_take, if_pos (by omega)]
            have := holds_flat.1 hh m v hm
            simpa using this
          · rw [List.getElem?_append_right (by omega)] at hm
            have hml := (List.getElem?_eq_some_iff.1 hm).1
            rw [List.append_assoc, List.getElem?_append_right (by simp; omega), List.getElem?_append_left (by simp; omega)]
            rw [← hm]
            congr 1
            simp
            omega
      · have hr := run_append_grow (P := P) w t ty e i z hu hinf hzero ⟨b, off, none⟩ xs.length c (flat E xs) (by rw [hsz]; exact flat_length E xs) hxcells a ys.length cy (flat E ys) hl hcells (by omega) (by omega) (by subst hby; exact growslice_fits (by omega) hb)
        obtain ⟨seg', h1, h2⟩ := grown c _ rfl
        rw [← List.length_append] at hr h1 h2
        exact ⟨_, _, seg', _, hr, h1, h2⟩
section ops
variable {P : Program} {ops : Array Oper} {n : Nat} {Q : Exit → Act → World → Prop} {S : Store} {rest : List Oper} {o : Oper}
theorem W_append (t : TypeId) (s y : Operand) (bytes : Nat) (zsv : List Value) (pl : Nat) (cy : Nat) {zz : List α} (hM : Mem F w0 w Ls) (hown : ownS E xs p c seg) (hpl : Ls.getD pl [] = seg) (hlt : Nat.blt pl Ls.length = true)
    (hok : okAll ops n S o = true) (ho : o.op = .call { callee := .builtin .append, args := #[s, y], argTypes := #[t, t] }) (hs : evalO S s = some (.slice p xs.length c)) (hy : evalO S y = some (.slice q ys.length cy))
    (hi : sliceInfo P t = some (E.k, bytes, zsv)) (hz : Nat.beq zsv.length E.k = true) (hk : Nat.blt 0 E.k = true) (hbp : Nat.blt 0 bytes = true)
    (hrd : rdS E w ys q cy) (hm : gxApp bytes xs ys = some zz)
    (kk : ∀ p' c' seg' w', ownS E zz p' c' seg' → Mem F w0 w' (Ls.set pl seg') → W P ops n Q (putS S o.dst (.slice p' zz.length c')) w' rest) : W P ops n Q S w (o :: rest) := by
  obtain ⟨hb, hzz⟩ := gxApp_spec hm
  subst hzz
  have hbp' : 0 < bytes := Nat.blt_eq ▸ hbp
  have hmax : xs.length + ys.length ≤ maxLen := by
    have : (xs.length + ys.length) * 1 ≤ (xs.length + ys.length) * bytes := Nat.mul_le_mul_left _ hbp'
    simp only [maxLen]; omega
  obtain ⟨p', c', seg', w', hr, h1, h2⟩ := run_appendG (ty := o.type) (ysn := 0) hi (Nat.eq_of_beq_eq_true hz) (Nat.blt_eq ▸ hk) hown pl hM hpl (Nat.blt_eq ▸ hlt) hrd hb hmax
  refine W_val _ w' hok ?_ (kk p' c' seg' w' h1 h2)
  unfold execOp
  simp only [ho, resolve, invoke, builtin, Sem.run_bind, Sem.run_pure, Result.andThen_ok, List.map_toArray, List.map_cons, List.map_nil, rho, hs, hy, Option.getD_some, hr]
def gxMake (B : Nat) (n : Int) (z : α) : Option (List α) := if 0 ≤ n ∧ n * B ≤ 140737488355328 then some (List.replicate n.toNat z) else none
theorem gxMake_spec {B : Nat} {n : Int} {z : α} {zs : List α} (h : gxMake B n z = some zs) : 0 ≤ n ∧ n * B ≤ 140737488355328 ∧ zs = List.replicate n.toNat z := by
  unfold gxMake at h
  split at h
  · simp only [Option.some.injEq] at h; exact ⟨(‹_ ∧ _›).1, (‹_ ∧ _›).2, h.symm⟩
  · cases h
theorem holds_made (z : Array Value) (x : α) (hz : z.toList = E.cells x) (m : Nat) : holds E (madeCells z (m * E.k)) 0 (List.replicate m x) := by
  intro i y hy j v hv
  rw [List.getElem?_replicate] at hy
  split at hy
  · simp only [Option.some.injEq] at hy
    subst hy
    have hj : j < E.k := by have := (List.getElem?_eq_some_iff.1 hv).1; rwa [E.len] at this
    have hsize : z.size = E.k := by rw [← Array.length_toList, hz, E.len]
    have hlt : i * E.k + j < m * E.k := by
      have : (i + 1) * E.k ≤ m * E.k := Nat.mul_le_mul_right _ (by omega)
      rw [Nat.add_mul] at this; omega
    rw [Nat.zero_add]
    simp only [madeCells, Array.getElem?_map, Array.getElem?_range, hlt, if_true, Option.map_some]
    rw [hsize, Nat.mul_comm i E.k, Nat.mul_add_mod, Nat.mod_eq_of_lt hj]
    have hjz : j < z.size := by omega
    have : z[j]? = some v := by rw [← Array.getElem?_toList, hz]; exact hv
    simp [getElem!_def, this]
  · cases hy
theorem W_make (t : TypeId) (x y : Operand) (m : Int) (bytes : Nat) (zsv : List Value) (z0 : α) {zz : List α} (hM : Mem F w0 w Ls)
    (hok : okAll ops n S o = true) (ho : o.op = .makeSlice t x y) (hx : evalO S x = some (.int .i64 m)) (hy : evalO S y = some (.int .i64 m))
    (hi : sliceInfo P t = some (E.k, bytes, zsv)) (hz : zsv = E.cells z0) (hbp : Nat.blt 0 bytes = true) (hm : gxMake bytes m z0 = some zz)
    (kk : ∀ p' c' seg' w', ownS E zz p' c' seg' → Mem F w0 w' (Ls ++ [seg']) → W P ops n Q (putS S o.dst (.slice p' zz.length c')) w' rest) : W P ops n Q S w (o :: rest) := by
  obtain ⟨h0, hb, hzz⟩ := gxMake_spec hm
  subst hzz
  obtain ⟨e, i, z, hu, hinf, hzero, hsz, hby, hzs⟩ := sliceInfo_spec hi
  have hbp' : 0 < bytes := Nat.blt_eq ▸ hbp
  have hm47 : m ≤ 140737488355328 := by
    have : m * 1 ≤ m * (bytes : Int) := Int.mul_le_mul_of_nonneg_left (by omega) h0
    omega
  have hr := run_make (P := P) w t e i z hu hinf hzero .i64 .i64 m m h0 (Int.le_refl _) (by subst hby; rw [Int.mul_comm]; omega) (by omega)
  rw [hsz] at hr
  refine W_val (.slice (some ⟨w.heap.size, 0, none⟩) (List.replicate m.toNat z0).length m.toNat) _ hok ?_ (kk _ _ [(w.heap.size, .cells (madeCells z.cells (m.toNat * E.k)) e)] _ (Or.inr ⟨w.heap.size, 0, _, e, rfl, rfl, by simp, by simp only [maxLen]; omega, by simp [size_madeCells], holds_made z.cells z0 (by rw [hzs, hz]) m.toNat⟩) (hM.alloc _ rfl))
  unfold execOp
  simp only [ho, rho, hx, hy, Option.getD_some, Sem.run_bind, hr, Result.andThen_ok, Sem.run_pure, List.length_replicate]
def Meet (J : Act → World → Prop) (Q : Exit → Act → World → Prop) : Exit → Act → World → Prop
  | .normal, a, w => J a w
  | e, a, w => Q e a w
theorem G_meet {x : Code} (J : Act → World → Prop) (h : G P n x (Meet J Q) S w) (k : ∀ a w', J a w' → Q .normal a w') : G P n x Q S w :=
  fun a ha => wp_mono (h a ha) (fun e a w hm => by cases e <;> first | exact hm | exact k _ _ hm)
theorem N_meet_ret {J : Act → World → Prop} (h : N n Q .ret S w) : N n (Meet J Q) .ret S w := h
def whileM {σ ρ : Type} (body : σ → Option (σ ⊕ ρ)) : Nat → σ → Option ρ
  | 0, _ => none
  | m + 1, s => match body s with
    | none => none
    | some (.inl s') => whileM body m s'
    | some (.inr r) => some r
theorem G_while {σ ρ : Type} {body : σ → Option (σ ⊕ ρ)} {x : Code} {m : Nat} {s0 : σ} {out : ρ} (R : σ → Act → World → Prop) (hw : whileM body m s0 = some out) (h0 : ∀ a, Sat n S a → R s0 a w)
    (step : ∀ s r, body s = some r → (∀ u, r = .inr u → u = out) → ∀ a w, R s a w → x.wp P (Exit.then (fun a' w' => ∃ s', r = .inl s' ∧ R s' a' w') Q) a w) : G P n (.loop x) Q S w := by
  intro a ha
  refine wp_loop_ghost (fun k a w => ∃ s, whileM body k s = some out ∧ R s a w) m ⟨s0, hw, h0 a ha⟩ ?_
  intro k a w ⟨s, hk, hR⟩
  cases k with
  | zero => simp [whileM] at hk
  | succ k =>
    simp only [whileM] at hk
    cases hb : body s with
    | none => simp [hb] at hk
    | some r =>
      refine wp_mono (step s r hb (fun u hu => by subst hu; simpa [hb] using hk) a w hR) ?_
      intro e a' w' hq
      cases e with
      | normal =>
        obtain ⟨s', hr, hR'⟩ := hq
        subst hr
        exact ⟨k, Nat.lt_succ_self k, s', by simpa [hb] using hk, hR'⟩
      | exit id => exact hq
      | goto l => exact hq
      | ret => exact hq
      | panic ch => exact hq
      | outgrown => exact hq
end ops
end
end Go.Gx
set_option linter.unusedVariables false
set_option linter.unusedSimpArgs false
namespace Go.Gx
section
variable {P : Program} {n : Nat} {Q : Exit → Act → World → Prop} {S : Store} {w w0 : World} {F : List Nat} {Ls : List Seg}
def edgesOf (o : Oper) : List Nat := (o.after.toList.filter (Region.binds .any)).map (·.on)
def maskOf (o : Oper) (acc : List Nat) : Nat := (edgesOf o).foldl (fun s j => s ||| (2 ^ j ||| acc.getD j 0)) 0
def masks : List Oper → List Nat → List Nat
  | [], acc => acc
  | o :: r, acc => masks r (acc ++ [maskOf o acc])
def Waits (l : List Oper) (k j : Nat) : Prop := ∀ D : Nat → Prop, (∀ k' o, D k' → l[k']? = some o → ∀ x ∈ edgesOf o, D x) → (∀ o, l[k]? = some o → ∀ x ∈ edgesOf o, D x) → D j
theorem maskOf_spec {acc : List Nat} {o : Oper} {j : Nat} : ∀ (es : List Nat) (s : Nat), (es.foldl (fun s j => s ||| (2 ^ j ||| acc.getD j 0)) s).testBit j = true → s.testBit j = true ∨ ∃ x ∈ es, j = x ∨ (acc.getD x 0).testBit j = true
  | [], s, h => Or.inl h
  | e :: r, s, h => by
    rcases maskOf_spec (o := o) r _ h with h1 | ⟨x, hx, h1⟩
    · rw [Nat.testBit_or, Nat.testBit_or, Bool.or_eq_true, Bool.or_eq_true] at h1
      rcases h1 with h1 | h1 | h1
      · exact Or.inl h1
      · rw [Nat.testBit_two_pow] at h1
        exact Or.inr ⟨e, by simp, Or.inl (by simpa [eq_comm] using h1)⟩
      · exact Or.inr ⟨e, by simp, Or.inr h1⟩
    · exact Or.inr ⟨x, by simp [hx], h1⟩
theorem masks_spec {l : List Oper} : ∀ (r : List Oper) (acc : List Nat), l = l.take acc.length ++ r → (∀ k j, (acc.getD k 0).testBit j = true → Waits l k j) → ∀ k j, ((masks r acc).getD k 0).testBit j = true → Waits l k j
  | [], acc, _, h, k, j, hk => h k j hk
  | o :: r, acc, hl, h, k, j, hk => by
    have hlen : acc.length ≤ l.length := by
      have := congrArg List.length hl
      simp only [List.length_append, List.length_take, List.length_cons] at this
      omega
    have ho : l[acc.length]? = some o := by
      rw [hl, List.getElem?_append_right (by simp; omega)]
      simp [Nat.min_eq_left hlen]
    refine masks_spec r (acc ++ [maskOf o acc]) ?_ ?_ k j hk
    · rw [List.length_append, List.length_singleton]
      have : l.take (acc.length + 1) = l.take acc.length ++ [o] := by
        rw [List.take_add_one, ho]; rfl
      rw [this, List.append_assoc]
      exact hl
    · intro k' j' hk'
      rw [List.getD_eq_getElem?_getD] at hk'
      by_cases hlt : k' < acc.length
      · rw [List.getElem?_append_left hlt, ← List.getD_eq_getElem?_getD] at hk'
        exact h k' j' hk'
      · by_cases heq : k' = acc.length
        · subst heq
          rw [List.getElem?_append_right (Nat.le_refl _), Nat.sub_self] at hk'
          simp only [List.getElem?_cons_zero, Option.getD_some] at hk'
          intro D hD hE
          rcases maskOf_spec (o := o) (edgesOf o) 0 hk' with h1 | ⟨x, hx, h1⟩
          · simp at h1
          · rcases h1 with h1 | h1
            · subst h1; exact hE o ho _ hx
            · exact h x j' h1 D hD (fun o' ho' => hD x o' (hE o ho x hx) ho')
        · rw [List.getElem?_eq_none (by simp; omega)] at hk'
          simp at hk'
def waits? (l : List Oper) (k j : Nat) : Bool := ((masks l []).getD k 0).testBit j
theorem waits?_spec {l : List Oper} {k j : Nat} (h : waits? l k j = true) : Waits l k j := masks_spec l [] (by simp) (fun k j h => by simp at h) k j h
def mem? (l : List Nat) (j : Nat) : Bool := l.any (Nat.beq j)
theorem mem?_spec {l : List Nat} {j : Nat} : mem? l j = true ↔ j ∈ l := by
  simp [mem?, List.any_eq_true]
def at? (E : List (List Nat)) (i : Nat) : List Nat := E.getD i []
def dstIs (l : List Oper) (j d : Nat) : Bool := match l[j]? with
  | some o => match o.dst with
    | some e => Nat.beq e d
    | none => false
  | none => false
def dagOk1 (l : List Oper) (m : Nat) (S : Store) (E J N X Y Z : List (List Nat)) (i : Nat) : Bool :=
  match l[i]? with
  | none => false
  | some o => (edgesOf o).all (fun j => Nat.blt j i) &&
    bif Nat.blt i m then
      (match o.dst with
        | some d => (look S d).isNone && (List.range m).all (fun j => Nat.beq j i || !(dstIs l j d))
        | none => true) &&
      ((at? E i).all (fun j => waits? l i j && (List.range m).all (fun k => Nat.beq k i || (!(mem? (at? J k) j) || waits? l k i))) &&
      ((at? J i).all (mem? (at? E i)) && ((at? N i).all (mem? (at? E i)) && (distinct (at? J i ++ at? N i) && ((at? X i).all (waits? l i) && ((at? Y i).all (waits? l i) && ((at? Z i).all (fun k => Nat.blt k m && waits? l k i) && distinct (at? Z i))))))))
    else (List.range i).all (waits? l i)
def dagOk (l : List Oper) (m : Nat) (S : Store) (E J N X Y Z : List (List Nat)) : Bool := Nat.ble m l.length && (List.range l.length).all (dagOk1 l m S E J N X Y Z)
def upd (h : Nat → Value) (j : Nat) (v : Value) (k : Nat) : Value := bif Nat.beq k j then v else h k
theorem upd_self (h : Nat → Value) (j : Nat) : upd h j (h j) = h := by
  funext k
  unfold upd
  cases hb : Nat.beq k j with
  | false => rfl
  | true => rw [Nat.eq_of_beq_eq_true hb]; rfl
def only (Y : List Nat) (h : Nat → Value) (k : Nat) : Value := bif mem? Y k then h k else undef
theorem only_congr {Y : List Nat} {h h' : Nat → Value} (e : ∀ k ∈ Y, h k = h' k) : only Y h = only Y h' := by
  funext k
  unfold only
  cases hb : mem? Y k with
  | false => rfl
  | true => exact e k (mem?_spec.1 hb)
def left (J : List (List Nat)) (D : List Nat) (g : Nat → Seg) (j : Nat) : Seg := bif D.any (fun k => mem? (at? J k) j) then [] else g j
theorem perm_take : ∀ (L D : List Nat), L.Nodup → (∀ x ∈ L, x ∈ D) → ∃ R, D.Perm (L ++ R)
  | [], D, _, _ => ⟨D, by simp⟩
  | x :: r, D, hn, hs => by
    rw [List.nodup_cons] at hn
    have hx : x ∈ D := hs x (by simp)
    obtain ⟨R, hR⟩ := perm_take r (D.erase x) hn.2 (fun y hy => (List.mem_erase_of_ne (fun e => hn.1 (by subst e; exact hy))).2 (hs y (by simp [hy])))
    exact ⟨R, (List.perm_cons_erase hx).trans (by simpa using List.Perm.cons x hR)⟩
theorem upon_put {ops : Array Oper} {o : Oper} {a : Act} {K : Act → World → Prop} (r : Result Next) (h : o.upon P a K Q r) :
    o.upon P a (fun a' w' => K a' w' ∧ ∃ v, a'.tmps = (a.put o.dst v).tmps) Q r := by
  have hdef : ∀ d : Deferred, (({ a with defers := d :: a.defers } : Act).put o.dst undef).tmps = (a.put o.dst undef).tmps := by
    intro d; cases o.dst <;> rfl
  cases r with
  | ok nx w' =>
    cases nx <;> simp only [Oper.upon] at h ⊢ <;> first
      | exact ⟨h, _, rfl⟩
      | exact ⟨h, _, hdef _⟩
      | exact Calls.mono h (fun e w'' he => by cases e <;> first | exact ⟨he, _, rfl⟩ | exact he)
      | exact Rows.mono h (fun _ _ he => ⟨he, _, rfl⟩)
  | halt x w' => cases x <;> simp only [Oper.upon] at h ⊢ <;> exact h
def Q1 (J : Act → World → Prop) : Exit → Act → World → Prop
  | .normal, a, w => J a w
  | _, _, _ => False
theorem wpOp_of_list {ops : Array Oper} {i : Nat} {o : Oper} {a : Act} {J : Act → World → Prop} (hi : ops[i]? = some o) (h : wpList P ops (Q1 J) [o] a w) :
    wpOp P ops Q i (fun a' w' => J a' w' ∧ ∃ v, a'.tmps = (a.put o.dst v).tmps) a w := by
  unfold wpOp
  simp only [hi]
  unfold wpList at h
  split at h
  · rename_i hw
    rw [if_pos hw]
    rcases h with h | ⟨_, a1, w1, h2⟩
    · left
      unfold Oper.wp at *
      have h2 := upon_put (ops := ops) _ h
      generalize (execOp a.eval o).run P w = r at *
      cases r with
      | ok nx w' =>
        cases nx <;> simp only [Oper.upon] at h2 ⊢ <;> first
          | exact h2
          | exact Calls.mono h2 (fun e w'' he => by cases e <;> first | exact he | exact he.elim | (obtain ⟨a1, w1, h1⟩ := he; exact h1.elim))
          | exact Rows.mono h2 (fun _ _ he => he)
      | halt x w' => cases x <;> simp only [Oper.upon] at h2 ⊢ <;> exact h2.elim
    · exact h2.elim
  · rename_i hw
    rw [if_neg hw]
    exact ⟨h, _, rfl⟩
structure Done (l : List Oper) (n m : Nat) (S : Store) (F : List Nat) (w0 : World) (Ls : List Seg) (J Y : List (List Nat)) (pre : Nat → Seg) (B : Nat → (Nat → Value) → Value → Seg → Prop) (Bw : Nat → (Nat → Value) → Value → Prop) (D : List Nat) (a : Act) (w : World) : Prop where
  sat : Sat n S a
  ex : ∃ (g : Nat → Seg) (h : Nat → Value), Mem F w0 w (Ls ++ (D.map (left J D g) ++ (List.range m).map (fun i => bif mem? D i then [] else pre i))) ∧
    ∀ j ∈ D, ∃ o, l[j]? = some o ∧ (∀ d, o.dst = some d → a.tmps[d]? = some (h j)) ∧ Bw j (only (at? Y j) h) (h j) ∧ (D.any (fun k => mem? (at? J k) j) = false → B j (only (at? Y j) h) (h j) (g j))
theorem dagOk_at {l : List Oper} {m : Nat} {E J N X Y Z : List (List Nat)} (h : dagOk l m S E J N X Y Z = true) {i : Nat} {o : Oper} (hi : l[i]? = some o) :
    (∀ j ∈ edgesOf o, j < i) ∧ m ≤ l.length ∧
    (i < m → (∀ d, o.dst = some d → look S d = none ∧ ∀ j o', j < m → j ≠ i → l[j]? = some o' → o'.dst ≠ some d) ∧
      (∀ j ∈ at? E i, Waits l i j ∧ ∀ k, k < m → k ≠ i → j ∈ at? J k → Waits l k i) ∧ (∀ j ∈ at? J i, j ∈ at? E i) ∧ (∀ j ∈ at? N i, j ∈ at? E i) ∧ (at? J i ++ at? N i).Nodup ∧ (∀ j ∈ at? X i, Waits l i j) ∧ (∀ j ∈ at? Y i, Waits l i j) ∧ (∀ k ∈ at? Z i, k < m ∧ Waits l k i) ∧ (at? Z i).Nodup) ∧
    (m ≤ i → ∀ j, j < i → Waits l i j) := by
  simp only [dagOk, Bool.and_eq_true] at h
  have hlt : i < l.length := (List.getElem?_eq_some_iff.1 hi).1
  have h1 := List.all_eq_true.1 h.2 i (List.mem_range.2 hlt)
  simp only [dagOk1, hi, Bool.and_eq_true] at h1
  refine ⟨fun j hj => Nat.blt_eq ▸ List.all_eq_true.1 h1.1 j hj, Nat.ble_eq ▸ h.1, ?_, ?_⟩
  · intro him
    have : Nat.blt i m = true := Nat.blt_eq.symm ▸ him
    simp only [this, cond_true, Bool.and_eq_true] at h1
    obtain ⟨_, hd, hE, hJ, hN, hdis, hX, hY, hZ, hZd⟩ := h1
    refine ⟨?_, ?_, fun j hj => mem?_spec.1 (List.all_eq_true.1 hJ j hj), fun j hj => mem?_spec.1 (List.all_eq_true.1 hN j hj), distinct_spec hdis, fun j hj => waits?_spec (List.all_eq_true.1 hX j hj), fun j hj => waits?_spec (List.all_eq_true.1 hY j hj), fun k hk => ?_, distinct_spec hZd⟩
    · intro d hod
      simp only [hod, Bool.and_eq_true] at hd
      refine ⟨by simpa using hd.1, fun j o' hj hne ho' hde => ?_⟩
      have := List.all_eq_true.1 hd.2 j (List.mem_range.2 hj)
      simp only [dstIs, ho', hde, Bool.or_eq_true, Bool.not_eq_true'] at this
      rcases this with h2 | h2
      · exact hne (Nat.eq_of_beq_eq_true h2)
      · simp at h2
    · intro j hj
      have := List.all_eq_true.1 hE j hj
      simp only [Bool.and_eq_true] at this
      refine ⟨waits?_spec this.1, fun k hk hki hjk => ?_⟩
      have h3 := List.all_eq_true.1 this.2 k (List.mem_range.2 hk)
      simp only [Bool.or_eq_true, Bool.not_eq_true'] at h3
      rcases h3 with h3 | h3 | h3
      · exact absurd (Nat.eq_of_beq_eq_true h3) hki
      · rw [mem?_spec.2 hjk] at h3; cases h3
      · exact waits?_spec h3
    · have h3 := List.all_eq_true.1 hZ k hk
      rw [Bool.and_eq_true] at h3
      exact ⟨Nat.blt_eq ▸ h3.1, waits?_spec h3.2⟩
  · intro him j hj
    have : Nat.blt i m = false := by
      cases hb : Nat.blt i m with
      | false => rfl
      | true => have : i < m := Nat.blt_eq ▸ hb; omega
    simp only [this, cond_false] at h1
    exact waits?_spec (List.all_eq_true.1 h1.2 j (List.mem_range.2 hj))
theorem G_dag {id : Nat} {l : List Oper} (m : Nat) (E J N X Y Z : List (List Nat)) (pre : Nat → Seg) (B : Nat → (Nat → Value) → Value → Seg → Prop) (Bw : Nat → (Nat → Value) → Value → Prop) (hBw : ∀ j f v s, B j f v s → Bw j f v) (hmix : P.follows .mixedOrders = true) (hok : dagOk l m S E J N X Y Z = true) (hM : Mem F w0 w (Ls ++ (List.range m).map pre))
    (ob : ∀ i o, i < m → l[i]? = some o → ∀ (a : Act) (w : World) (g : Nat → Seg) (h : Nat → Value) (R : List Seg), Sat n S a →
      (∀ j ∈ at? E i, ∃ oj, l[j]? = some oj ∧ (∀ d, oj.dst = some d → a.tmps[d]? = some (h j)) ∧ B j (only (at? Y j) h) (h j) (g j)) →
      (∀ j ∈ at? X i, ∃ oj, l[j]? = some oj ∧ (∀ d, oj.dst = some d → a.tmps[d]? = some (h j)) ∧ Bw j (only (at? Y j) h) (h j)) →
      Mem F w0 w (Ls ++ ([pre i] ++ ((at? J i).map g ++ ((at? N i).map g ++ ((at? Z i).map pre ++ R))))) →
      wpList P l.toArray (Q1 fun a' w' => a'.defers = [] ∧ ∃ v s, (∀ d, o.dst = some d → a'.tmps[d]? = some v) ∧ B i (only (at? Y i) h) v s ∧ Mem F w0 w' (Ls ++ ([s] ++ ((at? N i).map g ++ ((at? Z i).map pre ++ R))))) [o] a w)
    (fin : ∀ (a : Act) (w : World) (D : List Nat), D.Perm (List.range m) → Done l n m S F w0 Ls J Y pre B Bw D a w → wpList P l.toArray Q (l.drop m) a w) : G P n (.region id l.toArray true) Q S w := by
  intro a0 ha0
  refine wp_region_any hmix ?_
  have hsz : l.toArray.size = l.length := by simp
  have hget : ∀ i : Nat, l.toArray[i]? = l[i]? := fun i => by simp
  have hml : m ≤ l.length := by
    have hh := hok
    simp only [dagOk, Bool.and_eq_true] at hh
    exact Nat.ble_eq ▸ hh.1
  -- the last ones, one behind the other
  have post : ∀ fuel k (listed : Array Bool) a w, k + fuel = l.length → m ≤ k → listed.size = l.length → (∀ i, i < l.length → (listed.getD i true = true ↔ i < k)) → wpList P l.toArray Q (l.drop k) a w →
      wpAny P .any l.toArray Q fuel listed a w := by
    intro fuel
    induction fuel with
    | zero =>
      intro k listed a w hk hmk hls hlist h
      have hk' : k = l.length := by omega
      subst hk'
      refine ⟨?_, by simpa [wpList] using h⟩
      refine List.eq_nil_iff_forall_not_mem.2 ?_
      intro i hi
      obtain ⟨h0, o, ho, _⟩ := mem_ready.1 hi
      rw [hget] at ho
      have hil := (List.getElem?_eq_some_iff.1 ho).1
      have := (hlist i hil).2 hil
      rw [h0] at this; cases this
    | succ fuel ih =>
      intro k listed a w hk hmk hls hlist h
      have hkl : k < l.length := by omega
      have hko : l[k]? = some l[k] := List.getElem?_eq_getElem hkl
      have hready : ∀ i, i ∈ Region.ready .any l.toArray listed → i = k := by
        intro i hi
        obtain ⟨h0, o, ho, hall⟩ := mem_ready.1 hi
        rw [hget] at ho
        have hil := (List.getElem?_eq_some_iff.1 ho).1
        have hge : k ≤ i := by
          rcases Nat.lt_or_ge i k with h' | h'
          · have := (hlist i hil).2 h'; rw [h0] at this; cases this
          · exact h'
        rcases Nat.lt_or_eq_of_le hge with h' | h'
        · have hw := (dagOk_at hok ho).2.2.2 (by omega) k h' (fun x => x < k) (fun k' o' hk' ho' x hx => by
            have := (dagOk_at hok ho').1 x hx; omega) (fun o' ho' x hx => by
            rw [ho] at ho'
            simp only [Option.some.injEq] at ho'
            subst ho'
            obtain ⟨e, he, hex⟩ := List.mem_map.1 hx
            simp only [List.mem_filter, Array.mem_toList_iff] at he
            have h1 := hall e he.1 he.2
            rw [hex] at h1
            have hxi := (dagOk_at hok ho).1 x hx
            refine (hlist x (by omega)).1 ?_
            rw [Array.getD_eq_getD_getElem?] at h1 ⊢
            rw [Array.getElem?_eq_getElem (by omega)] at h1 ⊢; exact h1)
          omega
        · exact h'.symm
      have hk0 : listed.getD k true = false := by
        cases hb : listed.getD k true with
        | false => rfl
        | true => exact absurd ((hlist k hkl).1 hb) (by omega)
      have hkready : k ∈ Region.ready .any l.toArray listed := by
        refine mem_ready.2 ⟨hk0, l[k], by rw [hget]; exact hko, fun e he hb => ?_⟩
        have hlt := (dagOk_at hok hko).1 e.on (List.mem_map.2 ⟨e, by simp [he, hb], rfl⟩)
        have h2 := (hlist e.on (by omega)).2 hlt
        have h3 : e.on < listed.size := by omega
        rw [Array.getD_eq_getD_getElem?, Array.getElem?_eq_getElem h3] at h2 ⊢
        exact h2
      refine ⟨fun hnil => (by rw [hnil] at hkready; cases hkready), fun i hi => ?_⟩
      have hik := hready i hi
      subst hik
      rw [List.drop_eq_getElem_cons hkl] at h
      have hw : wpOp P l.toArray Q i (wpList P l.toArray Q (l.drop (i + 1))) a w := by
        unfold wpOp
        rw [hget, hko]
        unfold wpList at h
        exact h
      refine wpOp_mono (fun a' w' h' => ih (i + 1) _ a' w' (by omega) (by omega) (by simpa using hls) (fun j hj => ?_) h') hw
      by_cases hij : i = j
      · subst hij
        rw [Array.getD_eq_getD_getElem?, Array.getElem?_setIfInBounds_self_of_lt (by omega)]
        simp
      · rw [getD_set_ne true hij, hlist j hj]; omega
  -- the first ones, in whatever order
  have first : ∀ fuel (D : List Nat) (listed : Array Bool) a w, D.length + fuel = l.length → D.Nodup → (∀ i ∈ D, i < m) → listed.size = l.length → (∀ i, i < l.length → (listed.getD i true = true ↔ i ∈ D)) →
      (∀ k ∈ D, ∀ o, l[k]? = some o → ∀ j ∈ edgesOf o, j ∈ D) → Done l n m S F w0 Ls J Y pre B Bw D a w → wpAny P .any l.toArray Q fuel listed a w := by
    intro fuel
    induction fuel with
    | zero =>
      intro D listed a w hD hn hDm hls hlist hclosed hdone
      have hperm : D.Perm (List.range m) := by
        have hsub := perm_take D (List.range m) hn (fun x hx => List.mem_range.2 (hDm x hx))
        obtain ⟨R, hR⟩ := hsub
        have hlen := hR.length_eq
        simp only [List.length_range, List.length_append] at hlen
        have hRn : R = [] := List.eq_nil_of_length_eq_zero (by omega)
        subst hRn
        simpa using hR.symm
      have hlm : m = l.length := by
        have := hperm.length_eq
        simp only [List.length_range] at this
        omega
      exact post 0 m listed a w (by omega) (Nat.le_refl _) hls (fun i hi => by rw [hlist i hi, hperm.mem_iff, List.mem_range]) (fin a w D hperm hdone)
    | succ fuel ih =>
      intro D listed a w hD hn hDm hls hlist hclosed hdone
      by_cases hall : ∀ i, i < m → i ∈ D
      · have hperm : D.Perm (List.range m) := by
          obtain ⟨R, hR⟩ := perm_take (List.range m) D List.nodup_range (fun x hx => hall x (List.mem_range.1 hx))
          have hRn : R = [] := by
            cases R with
            | nil => rfl
            | cons x r =>
              have hx : x ∈ D := hR.mem_iff.2 (by simp)
              have hnd := (hR.nodup_iff).1 hn
              rw [List.nodup_append] at hnd
              exact absurd rfl (hnd.2.2 x (List.mem_range.2 (hDm x hx)) x (by simp))
          subst hRn
          simpa using hR
        have hlen : D.length = m := by simpa using hperm.length_eq
        exact post (fuel + 1) m listed a w (by omega) (Nat.le_refl _) hls (fun i hi => by rw [hlist i hi, hperm.mem_iff, List.mem_range]) (fin a w D hperm hdone)
      · have hready0 : Region.ready .any l.toArray listed ≠ [] := by
          have hex : ∃ i, i < m ∧ i ∉ D := Classical.byContradiction fun hno => hall fun i hi => Classical.byContradiction fun hiD => hno ⟨i, hi, hiD⟩
          obtain ⟨i, ⟨hi, hiD⟩, hmin⟩ := exists_least hex
          have hil : i < l.length := by omega
          have hio : l[i]? = some l[i] := List.getElem?_eq_getElem hil
          intro hnil
          have : i ∈ Region.ready .any l.toArray listed := by
            refine mem_ready.2 ⟨?_, l[i], by rw [hget]; exact hio, fun e he hb => ?_⟩
            · cases hb : listed.getD i true with
              | false => rfl
              | true => exact absurd ((hlist i hil).1 hb) hiD
            · have hlt := (dagOk_at hok hio).1 e.on (List.mem_map.2 ⟨e, by simp [he, hb], rfl⟩)
              have hin : e.on ∈ D := Classical.byContradiction fun hno => by
                have := hmin e.on ⟨by omega, hno⟩; omega
              have h2 := (hlist e.on (by omega)).2 hin
              have h3 : e.on < listed.size := by omega
              rw [Array.getD_eq_getD_getElem?, Array.getElem?_eq_getElem h3] at h2 ⊢
              exact h2
          rw [hnil] at this; cases this
        refine ⟨fun hnil => absurd hnil hready0, fun i hi => ?_⟩
        obtain ⟨h0, o, ho, hedges⟩ := mem_ready.1 hi
        rw [hget] at ho
        have hil := (List.getElem?_eq_some_iff.1 ho).1
        have hspec := dagOk_at hok ho
        have hinD : ∀ j ∈ edgesOf o, j ∈ D := by
          intro j hj
          obtain ⟨e, he, hej⟩ := List.mem_map.1 hj
          simp only [List.mem_filter, Array.mem_toList_iff] at he
          have h1 := hedges e he.1 he.2
          rw [hej] at h1
          have hjl : j < l.length := by have := hspec.1 j hj; omega
          have h2 : listed.getD j true = true := by
            rw [Array.getD_eq_getD_getElem?] at h1 ⊢
            rw [Array.getElem?_eq_getElem (by omega)] at h1 ⊢; exact h1
          exact (hlist j hjl).1 h2
        have hiD : i ∉ D := fun hin => by have := (hlist i hil).2 hin; rw [h0] at this; cases this
        have him : i < m := by
          rcases Nat.lt_or_ge i m with h' | h'
          · exact h'
          · exact absurd (fun j hj => hspec.2.2.2 h' j (by omega) (fun x => x ∈ D) (fun k' o' hk' ho' x hx => hclosed k' hk' o' ho' x hx) (fun o' ho' x hx => by
              rw [ho] at ho'
              simp only [Option.some.injEq] at ho'
              subst ho'
              exact hinD x hx)) hall
        obtain ⟨hdsts, hEs, hJs, hNs, hJN, hXs, hYs, hZs, hZn⟩ := hspec.2.2.1 him
        have hwD : ∀ j, Waits l i j → j ∈ D := fun j hj => hj (fun x => x ∈ D) (fun k' o' hk' ho' x hx => hclosed k' hk' o' ho' x hx) (fun o' ho' x hx => by
          rw [ho] at ho'
          simp only [Option.some.injEq] at ho'
          subst ho'
          exact hinD x hx)
        have hwl : ∀ {k j}, k < l.length → Waits l k j → j < k := fun {k j} hk hj => hj (fun x => x < k) (fun k' o' hk' ho' x hx => by
          have := (dagOk_at hok ho').1 x hx; omega) (fun o' ho' x hx => (dagOk_at hok ho').1 x hx)
        obtain ⟨g, h, hMem, hB⟩ := hdone.ex
        have hEfree : ∀ j ∈ at? E i, D.any (fun k => mem? (at? J k) j) = false := by
          intro j hj
          rw [List.any_eq_false]
          intro k hk hkj
          exact hiD ((hEs j hj).2 k (hDm k hk) (fun e => hiD (e ▸ hk)) (mem?_spec.1 hkj) (fun x => x ∈ D) (fun k' o' hk' ho' x hx => hclosed k' hk' o' ho' x hx) (fun o' ho' x hx => hclosed k hk o' ho' x hx))
        obtain ⟨R0, hR0⟩ := perm_take (at? J i ++ at? N i) D hJN (fun x hx => by
          rcases List.mem_append.1 hx with h' | h'
          · exact hwD x (hEs x (hJs x h')).1
          · exact hwD x (hEs x (hNs x h')).1)
        have hZD : ∀ k ∈ at? Z i, k ∉ D := fun k hk hkD => hiD ((hZs k hk).2 (fun x => x ∈ D) (fun k' o' hk' ho' x hx => hclosed k' hk' o' ho' x hx) (fun o' ho' x hx => hclosed k hkD o' ho' x hx))
        have hZi : i ∉ at? Z i := fun hi => by have := hwl hil (hZs i hi).2; omega
        obtain ⟨T1, hT1⟩ := perm_take (i :: at? Z i) (List.range m) (List.nodup_cons.2 ⟨hZi, hZn⟩) (fun x hx => by
          rcases List.mem_cons.1 hx with h' | h'
          · subst h'; exact List.mem_range.2 him
          · exact List.mem_range.2 (hZs x h').1)
        obtain ⟨T0, hT0e⟩ : ∃ T0, T0 = at? Z i ++ T1 := ⟨_, rfl⟩
        have hT0 : (List.range m).Perm ([i] ++ T0) := by rw [hT0e]; exact hT1
        have hTZ : T0.map (fun i => bif mem? D i then [] else pre i) = (at? Z i).map pre ++ T1.map (fun i => bif mem? D i then [] else pre i) := by
          rw [hT0e, List.map_append]
          congr 1
          refine List.map_congr_left fun k hk => ?_
          have : mem? D k = false := by
            cases hb : mem? D k with
            | false => rfl
            | true => exact absurd (mem?_spec.1 hb) (hZD k hk)
          simp [this]
        have hmemD : mem? D i = false := by
          cases hb : mem? D i with
          | false => rfl
          | true => exact absurd (mem?_spec.1 hb) hiD
        have hleftE : ∀ j ∈ at? E i, left J D g j = g j := fun j hj => by simp [left, hEfree j hj]
        have hmapJ : (at? J i).map (left J D g) = (at? J i).map g := List.map_congr_left fun j hj => hleftE j (hJs j hj)
        have hmapN : (at? N i).map (left J D g) = (at? N i).map g := List.map_congr_left fun j hj => hleftE j (hNs j hj)
        have hpi : (fun i => bif mem? D i then [] else pre i) i = pre i := by simp [hmemD]
        have hM1 : Mem F w0 w (Ls ++ ([pre i] ++ ((at? J i).map g ++ ((at? N i).map g ++ (R0.map (left J D g) ++ T0.map (fun i => bif mem? D i then [] else pre i)))))) := by
          refine hMem.perm (List.Perm.append_left _ ?_)
          have e1 : ((at? J i).map g ++ ((at? N i).map g ++ R0.map (left J D g))).Perm (D.map (left J D g)) := by
            rw [← hmapJ, ← hmapN, ← List.map_append, ← List.map_append, ← List.append_assoc]
            exact (hR0.map _).symm
          have e2 : ([pre i] ++ T0.map (fun i => bif mem? D i then [] else pre i)).Perm ((List.range m).map (fun i => bif mem? D i then [] else pre i)) := by
            have := (hT0.map (fun i => bif mem? D i then [] else pre i)).symm
            rw [List.map_append, List.map_cons, List.map_nil] at this
            simpa [hmemD] using this
          have e3 := e1.append e2
          refine List.Perm.trans ?_ e3
          simp only [← List.append_assoc]
          refine List.Perm.append_right _ ?_
          simp only [List.append_assoc]
          exact List.perm_append_comm (l₁ := [pre i]) (l₂ := (at? J i).map g ++ ((at? N i).map g ++ R0.map (left J D g))) |>.trans (by simp)
        have hsw : ((at? Z i).map pre ++ (R0.map (left J D g) ++ T1.map (fun i => bif mem? D i then [] else pre i))).Perm (R0.map (left J D g) ++ T0.map (fun i => bif mem? D i then [] else pre i)) := by
          rw [hTZ, ← List.append_assoc, ← List.append_assoc]
          exact List.Perm.append_right _ List.perm_append_comm
        have hM1' := hM1.perm (List.Perm.append_left Ls (List.Perm.append_left [pre i] (List.Perm.append_left ((at? J i).map g) (List.Perm.append_left ((at? N i).map g) hsw))))
        have hwp := ob i o him ho a w g h (R0.map (left J D g) ++ T1.map (fun i => bif mem? D i then [] else pre i)) hdone.sat (fun j hj => by
          obtain ⟨oj, e1, e2, _, e5⟩ := hB j (hwD j (hEs j hj).1)
          exact ⟨oj, e1, e2, e5 (hEfree j hj)⟩) (fun j hj => by
          obtain ⟨oj, e1, e2, e4, _⟩ := hB j (hwD j (hXs j hj))
          exact ⟨oj, e1, e2, e4⟩) hM1'
        refine wpOp_mono (fun a' w' h' => ?_) (wpOp_of_list (Q := Q) (by rw [hget]; exact ho) hwp)
        obtain ⟨⟨hdef, v, s, hv, hBs, hM2'⟩, u, hu⟩ := h'
        have hM2 := hM2'.perm (List.Perm.append_left Ls (List.Perm.append_left [s] (List.Perm.append_left ((at? N i).map g) hsw.symm)))
        have hput : ∀ k, o.dst ≠ some k → a'.tmps[k]? = a.tmps[k]? := fun k hk => by
          rw [hu]
          cases hod : o.dst with
          | none => rfl
          | some d =>
            simp only [Act.put]
            exact Array.getElem?_setIfInBounds_ne (fun e => hk (by rw [hod, e]))
        have hsize : a'.tmps.size = n := by
          rw [hu]
          cases hod : o.dst with
          | none => exact hdone.sat.size
          | some d => simp [Act.put, hdone.sat.size]
        refine ih (i :: D) _ a' w' (by simp only [List.length_cons]; omega) (List.nodup_cons.2 ⟨hiD, hn⟩) (fun x hx => by
          rcases List.mem_cons.1 hx with h' | h'
          · subst h'; exact him
          · exact hDm x h') (by simpa using hls) (fun j hj => ?_) (fun k hk o' ho' j hj => ?_) ⟨⟨hdef, hsize, fun k x hk => ?_⟩, fun j => if j = i then s else g j, fun j => if j = i then v else h j, ?_, fun j hj => ?_⟩
        · by_cases hij : i = j
          · subst hij
            rw [Array.getD_eq_getD_getElem?, Array.getElem?_setIfInBounds_self_of_lt (by omega)]
            simp
          · rw [getD_set_ne true hij, hlist j hj]
            simp [Ne.symm hij]
        · rcases List.mem_cons.1 hk with h' | h'
          · subst h'
            rw [ho] at ho'
            simp only [Option.some.injEq] at ho'
            subst ho'
            exact List.mem_cons_of_mem _ (hinD j hj)
          · exact List.mem_cons_of_mem _ (hclosed k h' o' ho' j hj)
        · rw [hput k (fun e => by have := (hdsts k e).1; rw [this] at hk; cases hk)]
          exact hdone.sat.at_ k x hk
        · -- the memory
          have hi' : left J (i :: D) (fun j => if j = i then s else g j) i = s := by
            have : (i :: D).any (fun k => mem? (at? J k) i) = false := by
              rw [List.any_eq_false]
              intro k hk hki
              have hik := mem?_spec.1 hki
              have hkm : k < m := by
                rcases List.mem_cons.1 hk with h' | h'
                · subst h'; exact him
                · exact hDm k h'
              have hko : l[k]? = some l[k] := List.getElem?_eq_getElem (by omega)
              have hks := dagOk_at hok hko
              have h1 := ((hks.2.2.1 hkm).2.1 i ((hks.2.2.1 hkm).2.2.1 i hik)).1
              have h2 := hwl (by omega) h1
              rcases List.mem_cons.1 hk with h' | h'
              · omega
              · exact hiD (h1 (fun x => x ∈ D) (fun k' o' hk' ho' x hx => hclosed k' hk' o' ho' x hx) (fun o' ho' x hx => hclosed k h' o' ho' x hx))
            simp only [left, this, cond_false, if_true]
          have hnd := (hR0.nodup_iff).1 hn
          rw [List.nodup_append] at hnd
          have hnJN := List.nodup_append.1 hJN
          have hJ' : ((at? J i).map (left J (i :: D) (fun j => if j = i then s else g j))).flatten = [] := by
            rw [List.flatten_eq_nil_iff]
            intro x hx
            obtain ⟨j, hj, rfl⟩ := List.mem_map.1 hx
            have : (i :: D).any (fun k => mem? (at? J k) j) = true := List.any_eq_true.2 ⟨i, by simp, mem?_spec.2 hj⟩
            simp only [left, this, cond_true]
          have hN' : (at? N i).map (left J (i :: D) (fun j => if j = i then s else g j)) = (at? N i).map g := by
            refine List.map_congr_left fun j hj => ?_
            have h1 : mem? (at? J i) j = false := by
              cases hb : mem? (at? J i) j with
              | false => rfl
              | true => exact absurd rfl (hnJN.2.2 j (mem?_spec.1 hb) j hj)
            have hjD := hwD j (hEs j (hNs j hj)).1
            have hji : j ≠ i := fun e => hiD (e ▸ hjD)
            simp only [left, List.any_cons, h1, hEfree j (hNs j hj), Bool.or_false, cond_false, if_neg hji]
          have hR' : R0.map (left J (i :: D) (fun j => if j = i then s else g j)) = R0.map (left J D g) := by
            refine List.map_congr_left fun j hj => ?_
            have h1 : mem? (at? J i) j = false := by
              cases hb : mem? (at? J i) j with
              | false => rfl
              | true => exact absurd rfl (hnd.2.2 j (List.mem_append_left _ (mem?_spec.1 hb)) j hj)
            have hjD : j ∈ D := hR0.mem_iff.2 (List.mem_append_right _ hj)
            have hji : j ≠ i := fun e => hiD (e ▸ hjD)
            simp only [left, List.any_cons, h1, Bool.false_or, if_neg hji]
          have hTn := (hT0.nodup_iff).1 List.nodup_range
          rw [List.nodup_append] at hTn
          have hT' : T0.map (fun k => bif mem? (i :: D) k then [] else pre k) = T0.map (fun k => bif mem? D k then [] else pre k) := by
            refine List.map_congr_left fun j hj => ?_
            have hji : Nat.beq j i = false := by
              cases hb : Nat.beq j i with
              | false => rfl
              | true => exact absurd (Nat.eq_of_beq_eq_true hb).symm (hTn.2.2 i (by simp) j hj)
            simp only [mem?, List.any_cons, hji, Bool.false_or]
          refine hM2.permF ?_
          have h1 : ((i :: D).map (left J (i :: D) (fun j => if j = i then s else g j))).Perm ((i :: ((at? J i ++ at? N i) ++ R0)).map (left J (i :: D) (fun j => if j = i then s else g j))) := (hR0.cons i).map _
          have h2 : ((List.range m).map (fun k => bif mem? (i :: D) k then [] else pre k)).Perm (([i] ++ T0).map (fun k => bif mem? (i :: D) k then [] else pre k)) := hT0.map _
          refine ((List.Perm.append_left Ls (h1.append h2)).flatten).trans ?_
          have hself : mem? (i :: D) i = true := mem?_spec.2 (by simp)
          rw [List.map_cons, hi', List.map_append, List.map_append, hN', hR', List.map_append, List.map_cons, List.map_nil, hT', hself]
          simp [hJ']
        · rcases List.mem_cons.1 hj with h' | h'
          · subst h'
            have hY : only (at? Y j) (fun k => if k = j then v else h k) = only (at? Y j) h := only_congr fun k hk => by
              have : k ≠ j := fun e => hiD (e ▸ hwD k (hYs k hk))
              simp [this]
            rw [hY]
            refine ⟨o, ho, by simpa using hv, by simpa using hBw _ _ _ _ hBs, fun _ => by simpa using hBs⟩
          · have hji : j ≠ i := fun e => hiD (e ▸ h')
            obtain ⟨oj, h1, h2, h4, h5⟩ := hB j h'
            have hY : only (at? Y j) (fun k => if k = i then v else h k) = only (at? Y j) h := only_congr fun k hk => by
              have hjw := ((dagOk_at hok h1).2.2.1 (hDm j h')).2.2.2.2.2.2.1 k hk
              have hkD : k ∈ D := hjw (fun x => x ∈ D) (fun k' o' hk' ho' x hx => hclosed k' hk' o' ho' x hx) (fun o' ho' x hx => hclosed j h' o' ho' x hx)
              have : k ≠ i := fun e => hiD (e ▸ hkD)
              simp [this]
            rw [hY]
            simp only [if_neg hji]
            refine ⟨oj, h1, fun dj hdj => ?_, h4, fun hfree => ?_⟩
            · rw [hput dj (fun e => (hdsts dj e).2 j oj (hDm j h') hji h1 hdj)]
              exact h2 dj hdj
            · have hfree' : D.any (fun k => mem? (at? J k) j) = false := by
                rw [List.any_cons, Bool.or_eq_false_iff] at hfree
                exact hfree.2
              simpa [hji] using h5 hfree'
  refine first l.toArray.size [] _ a0 _ (by simp) (by simp) (by simp) (by simp) (fun i hi => by simp [Array.getD_eq_getD_getElem?, hi]) (by simp) ⟨ha0, fun _ => [], fun _ => undef, ?_, by simp⟩
  simpa [mem?] using Mem.drew hM
end
end Go.Gx
set_option linter.unusedVariables false
set_option linter.unusedSimpArgs false
namespace Go.Gx
section
variable {P : Program} {ops : Array Oper} {n : Nat} {Q : Exit → Act → World → Prop} {S : Store} {w w0 : World} {F : List Nat} {Ls : List Seg} {C : World → Prop} {K : Act → Prop} {l rest : List Oper} {o : Oper}
def Z (P : Program) (ops : Array Oper) (n : Nat) (C : World → Prop) (K : Act → Prop) (S : Store) (l : List Oper) : Prop := ∀ a, Sat n S a → wpQuiet P ops C K l a
theorem Z_sub (S' : Store) (hs : sub S' S = some S') (k : Z P ops n C K S' l) : Z P ops n C K S l := fun a ha => k a (ha.sub hs)
theorem Z_val (v : Value) (hok : okAll ops n S o = true) (hr : ∀ w, C w → (execOp (rho S) o).run P w = .ok (.value v) w) (k : Z P ops n C K (putS S o.dst v) rest) : Z P ops n C K S (o :: rest) := by
  intro a ha
  unfold wpQuiet
  rw [wantS_spec ha (okAll_spec hok).1]
  simp only [if_true]
  refine ⟨v, fun w hw => ?_, k _ (ha.put _ _ (okOps_dst (okAll_spec hok).2))⟩
  unfold Oper.quietAt
  rw [exec_agree ha (okAll_spec hok).2, hr w hw]
  exact ⟨rfl, rfl⟩
theorem Z_call (f : FuncId) (args : Array Value) (v : Value) (hok : okAll ops n S o = true) (hr : ∀ w, (execOp (rho S) o).run P w = .ok (.enter f args) w)
    (hc : ∀ w, C w → Calls P f args w fun e w' => e = .returned v ∧ C w') (k : Z P ops n C K (putS S o.dst v) rest) : Z P ops n C K S (o :: rest) := by
  intro a ha
  unfold wpQuiet
  rw [wantS_spec ha (okAll_spec hok).1]
  simp only [if_true]
  refine ⟨v, fun w hw => ?_, k _ (ha.put _ _ (okOps_dst (okAll_spec hok).2))⟩
  unfold Oper.quietAt
  rw [exec_agree ha (okAll_spec hok).2, hr w]
  exact ⟨rfl, hc w hw⟩
theorem Z_known (k : Nat) {b : Bool} (c : Bool) (hk : look S k = some (.bool b)) (hb : b = c) (h : Z P ops n C K ((k, .bool c) :: S) l) : Z P ops n C K S l := by
  subst hb
  refine fun a ha => h a ⟨ha.defers, ha.size, fun j v hj => ?_⟩
  rw [look_cons] at hj
  split at hj
  · rename_i he; subst he; exact ha.at_ _ _ (by rw [hk]; exact hj)
  · exact ha.at_ j v hj
theorem W_known (k : Nat) {b : Bool} (c : Bool) (hk : look S k = some (.bool b)) (hb : b = c) (h : W P ops n Q ((k, .bool c) :: S) w l) : W P ops n Q S w l := by
  subst hb
  refine fun a ha => h a ⟨ha.defers, ha.size, fun j v hj => ?_⟩
  rw [look_cons] at hj
  split at hj
  · rename_i he; subst he; exact ha.at_ _ _ (by rw [hk]; exact hj)
  · exact ha.at_ j v hj
theorem Z_not (hw : wantS ops S o = some false) (hd : dstOk n o = true) (k : Z P ops n C K (putS S o.dst undef) rest) : Z P ops n C K S (o :: rest) := by
  intro a ha
  unfold wpQuiet
  rw [wantS_spec ha hw]
  simp only [Bool.false_eq_true, if_false]
  exact k _ (ha.put _ _ (dstOk_spec hd))
def oneZ (P : Program) (ops : Array Oper) (n : Nat) (S : Store) (w : World) (o : Oper) : Option (Result Next) :=
  match wantS ops S o with
  | some true => bif okOps S n o then some ((execOp (rho S) o).run P w) else none
  | some false => bif dstOk n o then some (.ok (.value undef) w) else none
  | none => none
def resL (P : Program) (ops : Array Oper) (n : Nat) : List Value → List Oper → Store → World → List (Option (Result Next))
  | [], _, _, _ => []
  | _ :: _, [], _, _ => [none]
  | v :: vs, o :: r, S, w => oneZ P ops n S w o :: resL P ops n vs r (putS S o.dst v) w
def putL : List Value → List Oper → Store → Store
  | v :: vs, o :: r, S => putL vs r (putS S o.dst v)
  | _, _, S => S
theorem Z_runL : ∀ (vs : List Value) {l : List Oper} {S : Store}, (∀ w, resL P ops n vs l S w = vs.map (fun v => some (.ok (.value v) w))) → Z P ops n C K (putL vs l S) (l.drop vs.length) → Z P ops n C K S l
  | [], _, _, _, k => k
  | v :: vs, [], _, h, _ => by
    have := h default
    simp [resL] at this
  | v :: vs, o :: r, S, h, k => by
    have hd : ∀ w, oneZ P ops n S w o = some (.ok (.value v) w) := fun w => by
      have := h w
      simp only [resL, List.map_cons, List.cons.injEq] at this
      exact this.1
    have ht : ∀ w, resL P ops n vs r (putS S o.dst v) w = vs.map (fun v => some (.ok (.value v) w)) := fun w => by
      have := h w
      simp only [resL, List.map_cons, List.cons.injEq] at this
      exact this.2
    have ih := Z_runL vs (l := r) (S := putS S o.dst v) ht k
    unfold oneZ at hd
    cases hw : wantS ops S o with
    | none => have := hd default; simp [hw] at this
    | some b => cases b with
      | true =>
        cases hok : okOps S n o with
        | false => have := hd default; simp [hw, hok] at this
        | true =>
          refine Z_val v (by simp [okAll, hw, hok]) (fun w _ => ?_) ih
          have := hd w
          simpa [hw, hok] using this
      | false =>
        cases hok : dstOk n o with
        | false => have := hd default; simp [hw, hok] at this
        | true =>
          have := hd default
          simp only [hw, hok, cond_true, Option.some.injEq, Result.ok.injEq, Next.value.injEq, and_true] at this
          subst this
          exact Z_not hw hok ih
theorem G_quiet {id : Nat} (hmix : P.follows .mixedOrders = true) (hlex : Region.lexB .any l.toArray = true) (hM : Mem F w0 w Ls)
    (h : Z P l.toArray n (fun w' => Mem F w0 w' Ls) (fun a => ∀ w', Mem F w0 w' Ls → Q .normal a w') S l) : G P n (.region id l.toArray true) Q S w := fun a ha =>
  wp_region_quiet (C := fun w' => Mem F w0 w' Ls) hmix hlex (Mem.drew hM) (by simpa using h a ha)
def addS (l : List Oper) (j : Nat) (v : Value) (S : Store) : Store := match l[j]? with
  | some o => match o.dst with
    | some d => (d, v) :: S
    | none => S
  | none => S
def obE (l : List Oper) (B : Nat → (Nat → Value) → Value → Seg → Prop) (Y : List (List Nat)) (g : Nat → Seg) : List Nat → (Nat → Value) → Store → ((Nat → Value) → Store → Prop) → Prop
  | [], f, S, K => K f S
  | j :: r, f, S, K => ∀ v, B j (only (at? Y j) f) v (g j) → obE l B Y g r (upd f j v) (addS l j v S) K
def obX (l : List Oper) (Bw : Nat → (Nat → Value) → Value → Prop) (Y : List (List Nat)) : List Nat → (Nat → Value) → Store → ((Nat → Value) → Store → Prop) → Prop
  | [], f, S, K => K f S
  | j :: r, f, S, K => ∀ v, Bw j (only (at? Y j) f) v → obX l Bw Y r (upd f j v) (addS l j v S) K
def allOb (p : Nat → Oper → Prop) : Nat → List Oper → Prop
  | _, [] => True
  | i, o :: r => p i o ∧ allOb p (i + 1) r
theorem allOb_spec {p : Nat → Oper → Prop} : ∀ {l : List Oper} {k : Nat}, allOb p k l → ∀ i o, l[i]? = some o → p (k + i) o
  | [], _, _, i, o, h => by simp at h
  | x :: r, k, hp, 0, o, h => by simp at h; subst h; exact hp.1
  | x :: r, k, hp, i + 1, o, h => by
    have := allOb_spec hp.2 i o (by simpa using h)
    rwa [show k + 1 + i = k + (i + 1) by omega] at this
theorem Sat.addS {l : List Oper} {a : Act} {j : Nat} {oj : Oper} {v : Value} {S : Store} (ha : Sat n S a) (h1 : l[j]? = some oj) (h3 : ∀ d, oj.dst = some d → a.tmps[d]? = some v) : Sat n (Gx.addS l j v S) a := by
  unfold Gx.addS
  simp only [h1]
  cases hd : oj.dst with
  | none => exact ha
  | some d =>
    refine ⟨ha.defers, ha.size, fun k u hk => ?_⟩
    simp only [look_cons] at hk
    split at hk
    · rename_i he; subst he; rw [h3 d hd]; exact hk
    · exact ha.at_ k u hk
theorem obE_spec {l : List Oper} {B : Nat → (Nat → Value) → Value → Seg → Prop} {Y : List (List Nat)} {g : Nat → Seg} {h : Nat → Value} {a : Act} {R : (Nat → Value) → Store → Prop} : ∀ {js : List Nat} {S : Store}, obE l B Y g js h S R → Sat n S a →
    (∀ j ∈ js, ∃ oj, l[j]? = some oj ∧ (∀ d, oj.dst = some d → a.tmps[d]? = some (h j)) ∧ B j (only (at? Y j) h) (h j) (g j)) → ∃ S', Sat n S' a ∧ R h S'
  | [], S, hh, ha, _ => ⟨S, ha, hh⟩
  | j :: r, S, hh, ha, hj => by
    obtain ⟨oj, h1, h3, h4⟩ := hj j (by simp)
    have hh' := hh (h j) h4
    rw [upd_self] at hh'
    exact obE_spec hh' (ha.addS h1 h3) (fun i hi => hj i (by simp [hi]))
theorem obX_spec {l : List Oper} {Bw : Nat → (Nat → Value) → Value → Prop} {Y : List (List Nat)} {h : Nat → Value} {a : Act} {R : (Nat → Value) → Store → Prop} : ∀ {js : List Nat} {S : Store}, obX l Bw Y js h S R → Sat n S a →
    (∀ j ∈ js, ∃ oj, l[j]? = some oj ∧ (∀ d, oj.dst = some d → a.tmps[d]? = some (h j)) ∧ Bw j (only (at? Y j) h) (h j)) → ∃ S', Sat n S' a ∧ R h S'
  | [], S, hh, ha, _ => ⟨S, ha, hh⟩
  | j :: r, S, hh, ha, hj => by
    obtain ⟨oj, h1, h3, h4⟩ := hj j (by simp)
    have hh' := hh (h j) h4
    rw [upd_self] at hh'
    exact obX_spec hh' (ha.addS h1 h3) (fun i hi => hj i (by simp [hi]))
def ObOf (P : Program) (n : Nat) (l : List Oper) (S : Store) (F : List Nat) (w0 : World) (Ls : List Seg) (E J N X Y Z : List (List Nat)) (pre : Nat → Seg) (B : Nat → (Nat → Value) → Value → Seg → Prop) (Bw : Nat → (Nat → Value) → Value → Prop) (i : Nat) (o : Oper) : Prop :=
  ∀ (g : Nat → Seg) (f : Nat → Value), obX l Bw Y (at? X i) f S fun f1 S1 => obE l B Y g (at? E i) f1 S1 fun f2 S' => ∀ (R : List Seg) (w : World), Mem F w0 w (Ls ++ ([pre i] ++ ((at? J i).map g ++ ((at? N i).map g ++ ((at? Z i).map pre ++ R))))) →
    W P l.toArray n (Q1 fun a' w' => a'.defers = [] ∧ ∃ v s, (∀ d, o.dst = some d → a'.tmps[d]? = some v) ∧ B i (only (at? Y i) f2) v s ∧ Mem F w0 w' (Ls ++ ([s] ++ ((at? N i).map g ++ ((at? Z i).map pre ++ R))))) S' w [o]
def freeOf (J : List (List Nat)) (m : Nat) (j : Nat) : Bool := (List.range m).all (fun k => !(mem? (at? J k) j))
theorem G_dagL {id : Nat} (m : Nat) (E J N X Y Z : List (List Nat)) (pre : Nat → Seg) (B : Nat → (Nat → Value) → Value → Seg → Prop) (Bw : Nat → (Nat → Value) → Value → Prop) (OX O O' : List Nat) (hBw : ∀ j f v s, B j f v s → Bw j f v) (hmix : P.follows .mixedOrders = true) (hok : dagOk l m S E J N X Y Z = true) (hM : Mem F w0 w (Ls ++ (List.range m).map pre))
    (hOX : OX.all (fun j => Nat.blt j m) = true) (hO : O.all (fun j => Nat.blt j m && freeOf J m j) = true) (hO' : O'.all (fun j => Nat.blt j m && freeOf J m j) = true) (hOd : distinct O' = true)
    (ob : allOb (ObOf P n l S F w0 Ls E J N X Y Z pre B Bw) 0 (l.take m))
    (fin : ∀ (g : Nat → Seg) (f : Nat → Value), obX l Bw Y OX f S fun f1 S1 => obE l B Y g O f1 S1 fun f2 S' => ∀ w, Mem F w0 w (Ls ++ O'.map g) → W P l.toArray n Q S' w (l.drop m)) : G P n (.region id l.toArray true) Q S w := by
  have hml : m ≤ l.length := by
    have hh := hok
    simp only [dagOk, Bool.and_eq_true] at hh
    exact Nat.ble_eq ▸ hh.1
  have free : ∀ {L : List Nat}, L.all (fun j => Nat.blt j m && freeOf J m j) = true → ∀ j ∈ L, j < m ∧ ∀ k, k < m → j ∉ at? J k := by
    intro L hL j hj
    have h1 := List.all_eq_true.1 hL j hj
    rw [Bool.and_eq_true] at h1
    refine ⟨Nat.blt_eq ▸ h1.1, fun k hk hjk => ?_⟩
    have h2 := List.all_eq_true.1 h1.2 k (List.mem_range.2 hk)
    rw [mem?_spec.2 hjk] at h2
    cases h2
  refine G_dag m E J N X Y Z pre B Bw hBw hmix hok hM ?_ ?_
  · intro i o him ho a w g h R ha hE hX hM1
    have h1 := allOb_spec ob i o (by rw [List.getElem?_take, if_pos him]; exact ho)
    rw [Nat.zero_add] at h1
    obtain ⟨S1, hS1, hR1⟩ := obX_spec (h1 g h) ha hX
    obtain ⟨S', hS', hR⟩ := obE_spec hR1 hS1 hE
    exact hR R w hM1 a hS'
  · intro a w D hD hdone
    obtain ⟨g, h, hMem, hB⟩ := hdone.ex
    have hfree : ∀ j, (∀ k, k < m → j ∉ at? J k) → D.any (fun k => mem? (at? J k) j) = false := by
      intro j hj
      rw [List.any_eq_false]
      intro k hk hkj
      exact hj k (List.mem_range.1 (hD.mem_iff.1 hk)) (mem?_spec.1 hkj)
    obtain ⟨S1, hS1, hR1⟩ := obX_spec (fin g h) hdone.sat (fun j hj => by
      obtain ⟨oj, e1, e2, e4, _⟩ := hB j (hD.mem_iff.2 (List.mem_range.2 (Nat.blt_eq ▸ List.all_eq_true.1 hOX j hj)))
      exact ⟨oj, e1, e2, e4⟩)
    obtain ⟨S', hS', hR⟩ := obE_spec hR1 hS1 (fun j hj => by
      obtain ⟨oj, e1, e2, _, e5⟩ := hB j (hD.mem_iff.2 (List.mem_range.2 (free hO j hj).1))
      exact ⟨oj, e1, e2, e5 (hfree j (free hO j hj).2)⟩)
    refine hR w ?_ a hS'
    obtain ⟨R, hR'⟩ := perm_take O' D (distinct_spec hOd) (fun x hx => hD.mem_iff.2 (List.mem_range.2 (free hO' x hx).1))
    have h1 : Mem F w0 w (Ls ++ (O'.map (Gx.left J D g) ++ (R.map (Gx.left J D g) ++ (List.range m).map (fun i => bif mem? D i then [] else pre i)))) := hMem.perm (List.Perm.append_left _ (by
      rw [← List.append_assoc, ← List.map_append]
      exact List.Perm.append_right _ (hR'.map _).symm))
    have h2 : O'.map (Gx.left J D g) = O'.map g := List.map_congr_left fun j hj => by simp [Gx.left, hfree j (free hO' j hj).2]
    rw [h2, ← List.append_assoc] at h1
    exact h1.part (fun p hp => by rw [List.flatten_append]; exact List.mem_append_left _ hp) (by
      have := h1.nodup
      rw [List.flatten_append, List.map_append] at this
      exact (List.nodup_append.1 this).1)
def atPath : Value → List Nat → Value
  | v, [] => v
  | v, i :: r => match v with
    | .tuple vs => atPath (vs.toList.getD i undef) r
    | .agg cs => atPath (cs.toList.getD i undef) r
    | _ => undef
def blkOf : Value → Nat
  | .pointer (some a) => a.block
  | _ => 0
theorem ob_end {B1 : Value → Seg → Prop} {R : List Seg} {o : Oper} (v : Value) (s : Seg) {d : Nat} (hd : o.dst = some d) (hv : look S d = some v) (hb : B1 v s) (hM : Mem F w0 w (Ls ++ ([s] ++ R))) :
    N n (Q1 fun a' w' => a'.defers = [] ∧ ∃ v s, (∀ d, o.dst = some d → a'.tmps[d]? = some v) ∧ B1 v s ∧ Mem F w0 w' (Ls ++ ([s] ++ R))) .normal S w :=
  fun a ha => ⟨ha.defers, v, s, fun d' hd' => by rw [hd] at hd'; cases hd'; exact ha.at_ d v hv, hb, hM⟩
theorem ob_none {B1 : Value → Seg → Prop} {R : List Seg} {o : Oper} (s : Seg) (hd : o.dst = none) (hb : B1 undef s) (hM : Mem F w0 w (Ls ++ ([s] ++ R))) :
    N n (Q1 fun a' w' => a'.defers = [] ∧ ∃ v s, (∀ d, o.dst = some d → a'.tmps[d]? = some v) ∧ B1 v s ∧ Mem F w0 w' (Ls ++ ([s] ++ R))) .normal S w :=
  fun a ha => ⟨ha.defers, undef, s, fun d' hd' => (by rw [hd] at hd'; cases hd'), hb, hM⟩
end
theorem gx_bind {α β : Type} {e : Option α} {k : α → Option β} {r : β} (h : Option.bind e k = some r) : ∃ t, e = some t ∧ k t = some r := Option.bind_eq_some_iff.1 h
theorem gx_bif {α : Type} {b : Bool} {x y : Option α} {r : α} (h : (bif b then x else y) = some r) : (b = true ∧ x = some r) ∨ (b = false ∧ y = some r) := by
  cases b
  · exact Or.inr ⟨rfl, h⟩
  · exact Or.inl ⟨rfl, h⟩
def gxIdx {α : Type} (xs : List α) (i : Int) : Option α := if 0 ≤ i then xs[i.toNat]? else none
theorem gxIdx_spec {α : Type} {xs : List α} {i : Int} {x : α} (h : gxIdx xs i = some x) : 0 ≤ i ∧ xs[i.toNat]? = some x := by
  unfold gxIdx at h
  split at h
  · exact ⟨‹_›, h⟩
  · cases h
def gxSlice {α : Type} (xs : List α) (l h : Int) : Option (List α) := if 0 ≤ l ∧ l ≤ h ∧ h ≤ xs.length then some ((xs.take h.toNat).drop l.toNat) else none
theorem gxSlice_spec {α : Type} {xs ys : List α} {l h : Int} (hh : gxSlice xs l h = some ys) : 0 ≤ l ∧ l ≤ h ∧ h ≤ xs.length ∧ ys = (xs.take h.toNat).drop l.toNat := by
  unfold gxSlice at hh
  split at hh
  · rename_i hc
    simp only [Option.some.injEq] at hh
    exact ⟨hc.1, hc.2.1, hc.2.2, hh.symm⟩
  · cases hh
theorem gxSlice_len {α : Type} {xs ys : List α} {l h : Int} (hh : gxSlice xs l h = some ys) : ys.length = h.toNat - l.toNat := by
  obtain ⟨h1, h2, h3, rfl⟩ := gxSlice_spec hh
  simp
  omega
end Go.Gx
set_option linter.unusedVariables false
set_option linter.unusedSimpArgs false
namespace Go.Gx
section
variable {α : Type} {E : Enc α} {F : List Nat} {w0 w w' : World} {Ls : List Seg} {xs ys : List α} {p q : Option Addr} {c : Nat} {seg : Seg}
variable {P : Program} {ops : Array Oper} {n : Nat} {Q : Exit → Act → World → Prop} {S : Store} {rest : List Oper} {o : Oper}
theorem E_load (t : TypeId) (x : Operand) (g : Bool) (k b off : Nat) (cs : List Value) {e : TypeId} {fr : Nat × Nat} (v : Value) (ho : o.op = .load t x)
    (hx : evalO S x = some (.pointer (some ⟨b, off, none⟩))) (hs : shapeT P t = some (g, k)) (hv : loadV g k cs off = some v) (hb : w.heap[b]? = some (.cells ⟨cs⟩ e fr)) :
    (execOp (rho S) o).run P w = .ok (.value v) w := by
  unfold execOp
  simp only [ho, Instr.loadAt, Instr.sureAddr, rho, hx, Option.getD_some, Sem.run_bind, Sem.run_pure, Result.andThen_ok, run_load_blk (x := x) hs hb hv]
theorem E_index (t : TypeId) (x ix : Operand) (len c : Nat) (kd : IntKind) (i : Int) (k : Nat) {y : α} (ho : o.op = .indexAddr t x ix)
    (hx : evalO S x = some (.slice p len c)) (hi : evalO S ix = some (.int kd i)) (ht : sliceElem P t = some k)
    (hrd : rdS E w xs p c) (hlen : xs.length = len) (hm : gxIdx xs i = some y) : (execOp (rho S) o).run P w = .ok (.value (elemP p (i.toNat * k))) w := by
  obtain ⟨h0, hy⟩ := gxIdx_spec hm
  obtain ⟨e, inf, hu, hinf, hk⟩ := sliceElem_spec ht
  have hlt : i.toNat < xs.length := (List.getElem?_eq_some_iff.1 hy).1
  have hs := hrd.isSome hy
  have hpl := hrd.plain hy
  cases p with
  | none => simp at hs
  | some a =>
    obtain ⟨b, off, spot⟩ := a
    have : spot = none := hpl _ rfl
    subst this
    have hc : 0 ≤ i ∧ i < (len : Int) := ⟨h0, by omega⟩
    unfold execOp
    simp only [ho, Instr.indexAt, rho, hx, hi, Option.getD_some, asIntOf, Sem.run_bind, Sem.run_pure, Result.andThen_ok, run_underlying hu]
    simp [hc, sizeOf, typeInfo, hinf, hk, addr_add, elemP, run_underlying hu]
theorem E_loadE (t : TypeId) (x : Operand) (g : Bool) (k : Nat) (i : Int) (f m : Nat) (y : α) (v : Value) (ho : o.op = .load t x)
    (hx : evalO S x = some (elemP p m)) (hs : shapeT P t = some (g, k)) (hv : loadV g k (E.cells y) f = some v)
    (hrd : rdS E w xs p c) (hi : gxIdx xs i = some y) (hm : m = i.toNat * E.k + f) : (execOp (rho S) o).run P w = .ok (.value v) w := by
  obtain ⟨_, hy⟩ := gxIdx_spec hi
  rcases hrd with ⟨_, h | ⟨b, off, cs, e, fr, hp, hb, hh⟩⟩
  · subst h; simp at hy
  · subst hp hm
    have hl := run_loadVar_in (P := P) (w := w) (b := b) (m := off + i.toNat * E.k) (off := f) hs hv (fun j u hu => by rw [cell_of_heap hb]; exact hh _ y hy j u hu)
    unfold execOp
    simp only [ho, Instr.loadAt, Instr.sureAddr, rho, hx, elemP, Option.getD_some, Sem.run_bind, Sem.run_pure, Result.andThen_ok]
    rw [← Nat.add_assoc, hl]
    rfl
def fieldOff (P : Program) (s : TypeId) (fld : Nat) : Option Nat :=
  match P.underlying s with
  | some (.struct fs) => match fs[fld]? with
    | some f => match P.info? f.type with
      | some i => bif Nat.beq i.size 0 then none else some f.offset
      | none => none
    | none => none
  | _ => none
theorem fieldOff_spec {s : TypeId} {fld f : Nat} (h : fieldOff P s fld = some f) (b off : Nat) (w : World) :
    (Instr.fieldAt s (.pointer (some ⟨b, off, none⟩)) fld).run P w = .ok (.pointer (some ⟨b, off + f, none⟩)) w := by
  unfold fieldOff at h
  split at h
  · rename_i fs hfs
    split at h
    · rename_i fd hfd
      split at h
      · rename_i i hi
        cases hz : Nat.beq i.size 0 with
        | true => simp [hz] at h
        | false =>
          simp only [hz, cond_false, Option.some.injEq] at h
          subst h
          have hne : ¬ i.size = 0 := fun e => by rw [e] at hz; cases hz
          simp [Instr.fieldAt, run_underlying hfs, hfd, Instr.sureAddr, fieldPlace, sizeOf, typeInfo, hi, hne, addr_add]
      · cases h
    · cases h
  · cases h
theorem E_fieldE (s : TypeId) (x : Operand) (fld : Nat) (m f : Nat) {y : α} {i : Int} (ho : o.op = .fieldAddr s x fld) (hx : evalO S x = some (elemP p m)) (hf : fieldOff P s fld = some f)
    (hrd : rdS E w xs p c) (hi : gxIdx xs i = some y) : (execOp (rho S) o).run P w = .ok (.value (elemP p (m + f))) w := by
  obtain ⟨_, hy⟩ := gxIdx_spec hi
  have hsm := hrd.isSome hy
  cases p with
  | none => simp at hsm
  | some a =>
    unfold execOp
    simp only [ho, rho, hx, elemP, Option.getD_some, Sem.run_bind, fieldOff_spec hf, Result.andThen_ok, Nat.add_assoc, Sem.run_pure]
theorem rdS.sliceM (h : rdS E w xs p c) {l hi : Int} (hm : gxSlice xs l hi = some ys) : rdS E w ys (subP p l.toNat c E.k) (c - l.toNat) := by
  obtain ⟨h1, h2, h3, rfl⟩ := gxSlice_spec hm
  exact h.slice l.toNat hi.toNat (by omega) (by omega)
theorem E_slice (t : TypeId) (x : Operand) (lo hi : Option Operand) (len : Nat) (l h : Int) (ho : o.op = .slice t x lo hi none)
    (hx : evalO S x = some (.slice p len c)) (hl : (lo = none ∧ l = 0) ∨ ∃ y, lo = some y ∧ evalO S y = some (.int .i64 l)) (hh : (hi = none ∧ h = len) ∨ ∃ y, hi = some y ∧ evalO S y = some (.int .i64 h))
    (ht : sliceElem P t = some E.k) (hrd : rdS E w xs p c) (hlen : xs.length = len) (hm : gxSlice xs l h = some ys) :
    (execOp (rho S) o).run P w = .ok (.value (.slice (subP p l.toNat c E.k) ys.length (c - l.toNat))) w := by
  obtain ⟨h0, h1, h2, _⟩ := gxSlice_spec hm
  rw [gxSlice_len hm]
  have hlc := hrd.1
  obtain ⟨e, inf, hu, hinf, hk⟩ := sliceElem_spec ht
  have hb1 : ∀ code, (Instr.sliceBound (.int .i64 h) c code).run P w = .ok h.toNat w := fun code => by
    have : 0 ≤ h ∧ h ≤ (c : Int) := ⟨by omega, by omega⟩
    simp only [Instr.sliceBound, asIntOf, Sem.run_bind, Sem.run_pure, Result.andThen_ok, if_pos this]
  have hb2 : ∀ code, (Instr.sliceBound (.int .i64 l) h.toNat code).run P w = .ok l.toNat w := fun code => by
    have : 0 ≤ l ∧ l ≤ (h.toNat : Int) := ⟨by omega, by omega⟩
    simp only [Instr.sliceBound, asIntOf, Sem.run_bind, Sem.run_pure, Result.andThen_ok, if_pos this]
  have key : (Instr.sliceBounds true len c (lo.map (rho S)) (hi.map (rho S)) none).run P w = .ok (l.toNat, h.toNat, c) w := by
    rcases hl with ⟨rfl, rfl⟩ | ⟨yl, rfl, hyl⟩ <;> rcases hh with ⟨rfl, rfl⟩ | ⟨yh, rfl, hyh⟩ <;> simp only [Instr.sliceBounds, Option.map_none, Option.map_some, rho, Option.getD_some, *] <;> simp [hb1, hb2]
    · have : l ≤ (len : Int) := by omega
      have hb3 : (Instr.sliceBound (.int .i64 l) len .sliceB).run P w = .ok l.toNat w := by simp [Instr.sliceBound, asIntOf, h0, this]
      simp [hb3]
  unfold execOp
  simp only [ho, Instr.sliceAt, Sem.run_bind, run_underlying hu, Result.andThen_ok, rho, hx, Option.getD_some, Instr.slice, Option.map_none]
  simp only [sizeOf, typeInfo, Sem.run_bind, run_program, hinf, hk, Sem.run_pure, Result.andThen_ok]
  have key' : (Instr.sliceBounds true len c (Option.map (fun x => (evalO S x).getD undef) lo) (Option.map (fun x => (evalO S x).getD undef) hi) none).run P w = .ok (l.toNat, h.toNat, c) w := key
  first
    | (rw [key]; rfl)
    | (rw [key']; rfl)
theorem rdS.isAddr (h : rdS E w xs p c) {i : Int} {y : α} (hm : gxIdx xs i = some y) : ∃ b off, p = some ⟨b, off, none⟩ := by
  obtain ⟨_, hy⟩ := gxIdx_spec hm
  rcases h with ⟨hc, h | ⟨b, off, cs, e, fr, hp, hb, hh⟩⟩
  · subst h; simp at hy
  · exact ⟨b, off, hp⟩
theorem E_nilE (x : Operand) (m : Nat) {i : Int} {y : α} (ho : o.op = .nilCheck x) (hx : evalO S x = some (elemP p m)) (hrd : rdS E w xs p c) (hm : gxIdx xs i = some y) :
    (execOp (rho S) o).run P w = .ok (.value (elemP p m)) w := by
  obtain ⟨b, off, rfl⟩ := hrd.isAddr hm
  unfold execOp
  simp only [ho, rho, hx, Option.getD_some]
  simp [elemP]
theorem gxIdx_put {β : Type} {us : List β} {i : Int} {y : β} (z : β) (h : gxIdx us i = some y) : gxIdx (us.set i.toNat z) i = some z := by
  obtain ⟨h0, h1⟩ := gxIdx_spec h
  have hl := (List.getElem?_eq_some_iff.1 h1).1
  unfold gxIdx
  rw [if_pos h0, List.getElem?_set_self hl]
theorem own_lit {b : Nat} {cs : List Value} {e : TypeId} {m : Nat} (hcs : cs = flat E xs) (hm : xs.length = m) (hmax : m ≤ maxLen) : ownS E xs (some ⟨b, 0, none⟩) m [(b, .cells ⟨cs⟩ e (0, 0))] := by
  subst hcs hm
  refine Or.inr ⟨b, 0, _, e, rfl, rfl, Nat.le_refl _, hmax, by simp [flat_length], holds_flat.2 fun j v hv => by simpa using hv⟩
theorem W_lit (xs : List α) (ln : Nat) (ob : List Value) (e : TypeId) (hM : Mem F w0 w Ls) (hok : okAll ops n S o = true)
    (hr : (execOp (rho S) o).run P w = .ok (.value (.slice (some ⟨w.heap.size, 0, none⟩) ln ln)) (w.alloc (.cells ⟨ob⟩ e (0, 0)))) (hcs : ob = flat E xs) (hln : xs.length = ln) (hmax : Nat.ble ln 1000000 = true)
    (kk : ∀ p' c' seg' w', ownS E xs p' c' seg' → Mem F w0 w' (Ls ++ [seg']) → W P ops n Q (putS S o.dst (.slice p' xs.length c')) w' rest) : W P ops n Q S w (o :: rest) := by
  refine W_val _ _ hok hr ?_
  have hmax' : ln ≤ maxLen := by have : ln ≤ 1000000 := Nat.ble_eq ▸ hmax; simp only [maxLen]; omega
  have := kk (some ⟨w.heap.size, 0, none⟩) ln [(w.heap.size, .cells ⟨ob⟩ e (0, 0))] _ (own_lit hcs hln hmax') (hM.alloc _ rfl)
  rwa [hln] at this
theorem W_conv {l : List Oper} (k : Nat) (v v' : Value) (hk : look S k = some v) (he : v = v') (h : W P ops n Q ((k, v') :: S) w l) : W P ops n Q S w l := by
  subst he
  refine fun a ha => h a ⟨ha.defers, ha.size, fun j u hj => ?_⟩
  rw [look_cons] at hj
  split at hj
  · rename_i he; subst he; exact ha.at_ _ _ (by rw [hk]; exact hj)
  · exact ha.at_ j u hj
theorem apartX.slice (h : apartX F xs p) {l hi : Int} {k : Nat} (hm : gxSlice xs l hi = some ys) : apartX F ys (subP p l.toNat c k) := by
  obtain ⟨_, _, _, rfl⟩ := gxSlice_spec hm
  rcases h with h | h
  · exact Or.inl (by rw [h]; simp)
  · refine Or.inr fun a ha => ?_
    unfold subP at ha
    split at ha
    · exact h a ha
    · obtain ⟨a', ha', rfl⟩ := Option.map_eq_some_iff.1 ha
      have := h a' ha'
      unfold Addr.add
      split
      · exact this
      · exact this
theorem Mem.mid {R : List Seg} {s : Seg} (h : Mem F w0 w ((Ls ++ ([[]] ++ R)) ++ [s])) : Mem F w0 w (Ls ++ ([s] ++ R)) := h.permF (by
  simp only [List.flatten_append, List.flatten_cons, List.flatten_nil, List.append_nil, List.nil_append, List.append_assoc]
  exact List.Perm.append_left _ List.perm_append_comm)
theorem Mem.callMid {R : List Seg} {s : Seg} (h : Mem F w0 w (Ls ++ ([[]] ++ R))) (hc : Mem [] w w' [s]) : Mem F w0 w' (Ls ++ ([s] ++ R)) := (h.call hc).mid
theorem Mem.takeOver {R : List Seg} {s : Seg} (h : Mem F w0 w (Ls ++ ([[]] ++ ([s] ++ R)))) : Mem F w0 w (Ls ++ ([s] ++ R)) := h.permF (by simp)
theorem Mem.preNil (h : Mem F w0 w Ls) (m : Nat) : Mem F w0 w (Ls ++ (List.range m).map (fun _ => [])) := h.permF (by
  have : ((List.range m).map (fun _ => ([] : Seg))).flatten = [] := by
    rw [List.flatten_eq_nil_iff]
    intro x hx
    obtain ⟨_, _, rfl⟩ := List.mem_map.1 hx
    rfl
  rw [List.flatten_append, this, List.append_nil])
theorem allOb_nil {pr : Nat → Oper → Prop} {i : Nat} : allOb pr i [] := trivial
theorem allOb_cons {pr : Nat → Oper → Prop} {i : Nat} {r : List Oper} (h : pr i o) (hs : allOb pr (i + 1) r) : allOb pr i (o :: r) := ⟨h, hs⟩
theorem Mem.start' (w : World) (Ls : List Seg) (h : ∀ q ∈ Ls.flatten, w.heap[q.1]? = some q.2) (hn : (idsOf Ls).Nodup) : Mem (idsOf Ls) w w Ls := Mem.start w Ls h hn
theorem Mem.callF' {L2 : List Seg} (h : Mem F w0 w Ls) (is js : List Nat) (hd : distinct (is ++ js) = true) (hc : Mem (idsOf (Gx.pick Ls is)) w w' L2) : Mem F w0 w' (Gx.pick Ls js ++ L2) := h.callF is js hd hc
theorem N_use {e : Exit} {a : Act} (hS : Sat n S a) (h : N n Q e S w) : Q e a w := h a hS
theorem G_use {x : Code} {a : Act} (hS : Sat n S a) (h : G P n x Q S w) : x.wp P Q a w := h a hS
theorem N_loop {K : Act → World → Prop} (h : ∀ a, Sat n S a → K a w) : N n (Exit.then K Q) .normal S w := h
theorem Z_end {C : World → Prop} (h : ∀ w', C w' → N n Q .normal S w') : Z P ops n C (fun a => ∀ w', C w' → Q .normal a w') S [] := fun a ha w' hw => h w' hw a ha
theorem RV_tmp {t : Nat} {v : Value} (h : look S t = some v) : RV P S w (.tmp t) v := h
theorem RVs_nil : RVs P S w [] [] := trivial
theorem RVs_cons {r : ResultVar} {v : Value} {rs : List ResultVar} {vs : List Value} (h : RV P S w r v) (hs : RVs P S w rs vs) : RVs P S w (r :: rs) (v :: vs) := ⟨h, hs⟩
theorem Mem.addNil (hM : Mem F w0 w Ls) : Mem F w0 w (Ls ++ [[]]) := hM.permF (by simp)
theorem Mem.ro {ob : Obj} {b : Nat} (hM : Mem [] w0 w Ls) (hb : w0.heap[b]? = some ob) : w.heap[b]? = some ob := by
  rw [hM.old b (lt_of_heap hb) (by simp)]; exact hb
end
def gxFuel : Nat := 1180591620717411303424
def gxMin (a b : Int) : Int := if b < a then b else a
end Go.Gx
set_option linter.unusedVariables false
set_option linter.unusedSimpArgs false
namespace Go.Gx
abbrev Pl := Nat → Option Addr × Nat
def plOf (l : List (Option Addr × Nat)) : Pl := fun i => l.getD i (none, 0)
structure Inn where
  β : Type
  E : Enc β
  xs : List β
  p : Option Addr
  c : Nat
def rdI (w : World) (l : List Inn) : Prop := ∀ i ∈ l, rdS i.E w i.xs i.p i.c
def apartI (F : List Nat) (l : List Inn) : Prop := ∀ i ∈ l, apartX F i.xs i.p
def ownI : List Inn → Seg → Prop
  | [], s => s = []
  | i :: r, s => ∃ s1 s2, s = s1 ++ s2 ∧ ownS i.E i.xs i.p i.c s1 ∧ ownI r s2
structure Deep (α : Type) where
  E : Enc (α × Pl)
  inner : α × Pl → List Inn
section
variable {α : Type} {D : Deep α} {F : List Nat} {w0 w w' : World} {Ls : List Seg} {xs ys : List α} {p q : Option Addr} {c : Nat} {s0 s1 : Seg}
def rdD (D : Deep α) (w : World) (xs : List α) (p : Option Addr) (c : Nat) : Prop :=
  ∃ zs : List (α × Pl), zs.map Prod.fst = xs ∧ rdS D.E w zs p c ∧ rdI w (zs.flatMap D.inner)
def rdX (F : List Nat) (D : Deep α) (w : World) (xs : List α) (p : Option Addr) (c : Nat) : Prop :=
  ∃ zs : List (α × Pl), zs.map Prod.fst = xs ∧ rdS D.E w zs p c ∧ rdI w (zs.flatMap D.inner) ∧ apartX F zs p ∧ apartI F (zs.flatMap D.inner)
def ownD (D : Deep α) (xs : List α) (p : Option Addr) (c : Nat) (s0 s1 : Seg) : Prop :=
  ∃ zs : List (α × Pl), zs.map Prod.fst = xs ∧ ownS D.E zs p c s0 ∧ ownI (zs.flatMap D.inner) s1
theorem ownI_nil : ownI [] [] := rfl
theorem ownI_cons {i : Inn} {r : List Inn} {s1 s2 : Seg} (h : ownS i.E i.xs i.p i.c s1) (h2 : ownI r s2) : ownI (i :: r) (s1 ++ s2) := ⟨s1, s2, rfl, h, h2⟩
theorem ownI_app {a b : List Inn} {s1 s2 : Seg} (h1 : ownI a s1) (h2 : ownI b s2) : ownI (a ++ b) (s1 ++ s2) := by
  induction a generalizing s1 with
  | nil => cases h1; exact h2
  | cons i r ih =>
    obtain ⟨u, v, rfl, hu, hv⟩ := h1
    exact ⟨u, v ++ s2, by rw [List.append_assoc], hu, ih hv⟩
theorem ownI_split {a b : List Inn} {s : Seg} (h : ownI (a ++ b) s) : ∃ s1 s2, s = s1 ++ s2 ∧ ownI a s1 ∧ ownI b s2 := by
  induction a generalizing s with
  | nil => exact ⟨[], s, rfl, rfl, h⟩
  | cons i r ih =>
    obtain ⟨u, v, rfl, hu, hv⟩ := h
    obtain ⟨s1, s2, rfl, h1, h2⟩ := ih hv
    exact ⟨u ++ s1, s2, by rw [List.append_assoc], ⟨u, s1, rfl, hu, h1⟩, h2⟩
theorem ownS.rdH {β : Type} {E : Enc β} {xs : List β} {s : Seg} (h : ownS E xs p c s) (hs : ∀ q ∈ s, w.heap[q.1]? = some q.2) : rdS E w xs p c := by
  refine ⟨h.len_le, ?_⟩
  rcases h with ⟨_, h, _, _⟩ | ⟨b, off, cs, e, hp, hseg, _, _, _, hh⟩
  · exact Or.inl h
  · subst hseg; exact Or.inr ⟨b, off, cs, e, (0, 0), hp, hs (b, .cells cs e (0, 0)) (by simp), hh⟩
theorem ownS.apartH {β : Type} {E : Enc β} {xs : List β} {s : Seg} (h : ownS E xs p c s) (hs : ∀ q ∈ s, q.1 ∉ F) : apartX F xs p := by
  rcases h with ⟨_, h, _, _⟩ | ⟨b, off, cs, e, hp, hseg, _, _, _, hh⟩
  · exact Or.inl h
  · subst hseg hp; exact Or.inr fun a ha => by cases ha; exact hs (b, .cells cs e (0, 0)) (by simp)
theorem ownI.rdH {l : List Inn} {s : Seg} (h : ownI l s) (hs : ∀ q ∈ s, w.heap[q.1]? = some q.2) : rdI w l := by
  induction l generalizing s with
  | nil => exact fun i hi => by cases hi
  | cons i r ih =>
    obtain ⟨u, v, rfl, hu, hv⟩ := h
    intro j hj
    rcases List.mem_cons.1 hj with rfl | hj
    · exact hu.rdH fun q hq => hs q (List.mem_append_left _ hq)
    · exact ih hv (fun q hq => hs q (List.mem_append_right _ hq)) j hj
theorem ownI.apartH {l : List Inn} {s : Seg} (h : ownI l s) (hs : ∀ q ∈ s, q.1 ∉ F) : apartI F l := by
  induction l generalizing s with
  | nil => exact fun i hi => by cases hi
  | cons i r ih =>
    obtain ⟨u, v, rfl, hu, hv⟩ := h
    intro j hj
    rcases List.mem_cons.1 hj with rfl | hj
    · exact hu.apartH fun q hq => hs q (List.mem_append_left _ hq)
    · exact ih hv (fun q hq => hs q (List.mem_append_right _ hq)) j hj
theorem ownI.rd {l : List Inn} {s : Seg} (h : ownI l s) (hM : Mem F w0 w Ls) (i : Nat) (hi : Ls.getD i [] = s) : rdI w l :=
  h.rdH fun q hq => hM.has q (mem_getD (by rw [hi]; exact hq))
theorem getD_apart (hM : Mem F w0 w Ls) {s : Seg} (i : Nat) (hi : Ls.getD i [] = s) (is : List Nat) (hd : distinct (i :: is) = true) : ∀ q ∈ s, q.1 ∉ idsOf (pick Ls is) := by
  intro q hq hm
  obtain ⟨u, hu, hub⟩ := List.mem_map.1 hm
  obtain ⟨j, hj, hqj⟩ := mem_pick is hu
  have hne : i ≠ j := fun e => by
    have := distinct_spec hd
    rw [List.nodup_cons] at this
    exact this.1 (e ▸ hj)
  exact apart_getD hM.nodup hne (by rw [hi]; exact hq) hqj hub.symm
theorem ownI.apart {l : List Inn} {s : Seg} (h : ownI l s) (hM : Mem F w0 w Ls) (i : Nat) (hi : Ls.getD i [] = s) (is : List Nat) (hd : distinct (i :: is) = true) : apartI (idsOf (pick Ls is)) l :=
  h.apartH (getD_apart hM i hi is hd)
theorem rdI.mem0 {l : List Inn} (h : rdI w0 l) (hM : Mem [] w0 w Ls) : rdI w l := fun i hi => (h i hi).mem0 hM
theorem rdI.memX {l : List Inn} (h : rdI w0 l) (hF : apartI F l) (hM : Mem F w0 w Ls) : rdI w l := fun i hi => (h i hi).memX (hF i hi) hM
theorem apartI.old {l : List Inn} (h : rdI w0 l) (hF : apartI F l) (hM : Mem F w0 w Ls) (is : List Nat) : apartI (idsOf (pick Ls is)) l := fun i hi => apartX.old (h i hi) (hF i hi) hM is
theorem rdI.sub {l l2 : List Inn} (h : rdI w l) (hs : ∀ i ∈ l2, i ∈ l) : rdI w l2 := fun i hi => h i (hs i hi)
theorem apartI.sub {l l2 : List Inn} (h : apartI F l) (hs : ∀ i ∈ l2, i ∈ l) : apartI F l2 := fun i hi => h i (hs i hi)
theorem mem_at {zs : List (α × Pl)} {f : α × Pl → List Inn} {i : Int} {z : α × Pl} {l : List Inn} (hz : gxIdx zs i = some z) (hl : f z = l) : ∀ j ∈ l, j ∈ zs.flatMap f := fun j hj => by
  have h1 := (gxIdx_spec hz).2
  have h2 : z ∈ zs := List.mem_of_getElem? h1
  exact List.mem_flatMap.2 ⟨z, h2, hl ▸ hj⟩
theorem rdI.at_ {zs : List (α × Pl)} {f : α × Pl → List Inn} (h : rdI w (zs.flatMap f)) {i : Int} {z : α × Pl} (hz : gxIdx zs i = some z) (k : Nat) (j : Inn) (hk : (f z)[k]? = some j) : rdS j.E w j.xs j.p j.c :=
  h j (mem_at hz rfl j (List.mem_of_getElem? hk))
theorem apartI.at_ {zs : List (α × Pl)} {f : α × Pl → List Inn} (h : apartI F (zs.flatMap f)) {i : Int} {z : α × Pl} (hz : gxIdx zs i = some z) (k : Nat) (j : Inn) (hk : (f z)[k]? = some j) : apartX F j.xs j.p :=
  h j (mem_at hz rfl j (List.mem_of_getElem? hk))
theorem gxIdx_fst {zs : List (α × Pl)} (hz : zs.map Prod.fst = xs) {i : Int} {y : α} (h : gxIdx xs i = some y) : ∃ g, gxIdx zs i = some (y, g) := by
  obtain ⟨h0, h1⟩ := gxIdx_spec h
  subst hz
  rw [List.getElem?_map] at h1
  obtain ⟨z, h2, rfl⟩ := Option.map_eq_some_iff.1 h1
  refine ⟨z.2, ?_⟩
  unfold gxIdx
  rw [if_pos h0, h2]
theorem gxIdx_down {zs : List (α × Pl)} (hz : zs.map Prod.fst = xs) {i : Int} {z : α × Pl} (h : gxIdx zs i = some z) : gxIdx xs i = some z.1 := by
  obtain ⟨h0, h1⟩ := gxIdx_spec h
  subst hz
  unfold gxIdx
  rw [if_pos h0, List.getElem?_map, h1]
  rfl
theorem len_fst {zs : List (α × Pl)} (hz : zs.map Prod.fst = xs) : zs.length = xs.length := by rw [← hz, List.length_map]
theorem set_fst {zs : List (α × Pl)} (hz : zs.map Prod.fst = xs) (i : Nat) (z : α × Pl) : (zs.set i z).map Prod.fst = xs.set i z.1 := by rw [← hz, List.map_set]
theorem app_fst {zs us : List (α × Pl)} (hz : zs.map Prod.fst = xs) (hu : us.map Prod.fst = ys) : (zs ++ us).map Prod.fst = xs ++ ys := by rw [List.map_append, hz, hu]
theorem flatMap_setSame {β : Type 1} {γ : Type} {f : γ → List β} : ∀ {zs : List γ} {i : Nat} {z z' : γ}, zs[i]? = some z → f z' = f z → (zs.set i z').flatMap f = zs.flatMap f
  | [], i, z, z', h, _ => by simp at h
  | a :: r, 0, z, z', h, he => by simp at h; subst h; simp [he]
  | a :: r, i + 1, z, z', h, he => by
    simp only [List.getElem?_cons_succ] at h
    simp [flatMap_setSame h he]
theorem ownI.lens {γ : Type} {f : γ → List Inn} : ∀ {zs : List γ} {i : Nat} {z : γ} {s : Seg}, ownI (zs.flatMap f) s → zs[i]? = some z → ∃ sa sb sc, s = sa ++ (sb ++ sc) ∧ ownI (f z) sb ∧ ∀ z' sb', ownI (f z') sb' → ownI ((zs.set i z').flatMap f) (sa ++ (sb' ++ sc))
  | [], i, z, s, _, h => by simp at h
  | a :: r, 0, z, s, hs, h => by
    simp only [List.getElem?_cons_zero, Option.some.injEq] at h
    subst h
    rw [List.flatMap_cons] at hs
    obtain ⟨s1, s2, rfl, h1, h2⟩ := ownI_split hs
    refine ⟨[], s1, s2, rfl, h1, fun z' sb' h' => ?_⟩
    simp only [List.set_cons_zero, List.flatMap_cons, List.nil_append]
    exact ownI_app h' h2
  | a :: r, i + 1, z, s, hs, h => by
    simp only [List.getElem?_cons_succ] at h
    rw [List.flatMap_cons] at hs
    obtain ⟨s1, s2, rfl, h1, h2⟩ := ownI_split hs
    obtain ⟨sa, sb, sc, rfl, h3, h4⟩ := ownI.lens h2 h
    refine ⟨s1 ++ sa, sb, sc, by rw [List.append_assoc], h3, fun z' sb' h' => ?_⟩
    simp only [List.set_cons_succ, List.flatMap_cons, List.append_assoc]
    exact ownI_app h1 (h4 z' sb' h')
theorem holds_same {β : Type} {E : Enc β} {cs : Array Value} {off : Nat} {zs us : List β} (h : holds E cs off zs) (hl : ∀ (i : Nat) (u : β), us[i]? = some u → ∃ z, zs[i]? = some z ∧ E.cells u = E.cells z) : holds E cs off us := fun i u hu j v hv => by
  obtain ⟨z, hz, he⟩ := hl i u hu
  exact h i z hz j v (he ▸ hv)
theorem ownS.setSame {β : Type} {E : Enc β} {zs : List β} {s : Seg} (h : ownS E zs p c s) {i : Nat} {z z' : β} (hz : zs[i]? = some z) (he : E.cells z' = E.cells z) : ownS E (zs.set i z') p c s := by
  rcases h with ⟨_, h, _, _⟩ | ⟨b, off, cs, e, hp, hs, h1, h2, h3, hh⟩
  · subst h; simp at hz
  · refine Or.inr ⟨b, off, cs, e, hp, hs, by simpa using h1, h2, h3, holds_same hh fun i' u hu => ?_⟩
    rw [List.getElem?_set] at hu
    by_cases hii : i = i'
    · subst hii
      rw [if_pos rfl] at hu
      split at hu
      · cases hu; exact ⟨z, hz, he⟩
      · cases hu
    · rw [if_neg hii] at hu
      exact ⟨u, hu, rfl⟩
theorem ownI_none {γ : Type} {f : γ → List Inn} {z : γ} (h : ∀ i ∈ f z, i.p = none ∧ i.xs = [] ∧ i.c = 0) : ∀ n : Nat, ownI ((List.replicate n z).flatMap f) []
  | 0 => rfl
  | n + 1 => by
    rw [List.replicate_succ, List.flatMap_cons]
    have : ownI (f z) [] := by
      generalize f z = l at h
      induction l with
      | nil => rfl
      | cons i r ih => exact ⟨[], [], rfl, Or.inl ⟨(h i (by simp)).1, (h i (by simp)).2.1, (h i (by simp)).2.2, rfl⟩, ih fun j hj => h j (by simp [hj])⟩
    exact ownI_app this (ownI_none h n)
theorem rep_fst (n : Nat) (y : α) (g : Pl) : (List.replicate n (y, g)).map Prod.fst = List.replicate n y := by rw [List.map_replicate]
theorem ownD_nil : ownD D [] none 0 [] [] := ⟨[], rfl, ownS_nil, rfl⟩
theorem rdD_nil : rdD D w [] p c := ⟨[], rfl, rdS_nil, fun i hi => by cases hi⟩
theorem Mem.cut (hM : Mem F w0 w Ls) (pl : Nat) {sa sb sc : Seg} (hp : Ls.getD pl [] = sa ++ (sb ++ sc)) (hlt : Nat.blt pl Ls.length = true) : Mem F w0 w (Ls.set pl sa ++ [sb, sc]) := hM.permF (by
  have hl : pl < Ls.length := Nat.blt_eq ▸ hlt
  obtain ⟨A, B, hA, hlen⟩ := getD_split Ls pl hl
  rw [hp] at hA
  conv => lhs; rw [hA]
  conv => rhs; rw [hA]
  rw [← hlen, List.set_append_right _ _ (Nat.le_refl _), Nat.sub_self, List.set_cons_zero]
  simp only [List.flatten_append, List.flatten_cons, List.flatten_nil, List.append_nil, List.append_assoc]
  refine List.Perm.append_left _ (List.Perm.append_left _ ?_)
  exact (List.perm_append_comm).trans (by rw [List.append_assoc]))
theorem ownD.rd (h : ownD D xs p c s0 s1) (hM : Mem F w0 w Ls) (i : Nat) (hi : Ls.getD i [] = s0) (j : Nat) (hj : Ls.getD j [] = s1) : rdD D w xs p c := by
  obtain ⟨zs, hz, h0, h1⟩ := h
  exact ⟨zs, hz, h0.rd hM i hi, h1.rd hM j hj⟩
theorem ownD.rdX (h : ownD D xs p c s0 s1) (hM : Mem F w0 w Ls) (i : Nat) (hi : Ls.getD i [] = s0) (j : Nat) (hj : Ls.getD j [] = s1) (is : List Nat) (hd : distinct (i :: is) = true) (hd2 : distinct (j :: is) = true) : Gx.rdX (idsOf (pick Ls is)) D w xs p c := by
  obtain ⟨zs, hz, h0, h1⟩ := h
  exact ⟨zs, hz, h0.rd hM i hi, h1.rd hM j hj, apartX.own h0 hM i hi is hd, h1.apart hM j hj is hd2⟩
theorem rdD.mem0 (h : rdD D w0 xs p c) (hM : Mem [] w0 w Ls) : rdD D w xs p c := by
  obtain ⟨zs, hz, h0, h1⟩ := h
  exact ⟨zs, hz, h0.mem0 hM, h1.mem0 hM⟩
theorem rdX.mem (h : rdX F D w0 xs p c) (hM : Mem F w0 w Ls) : rdD D w xs p c := by
  obtain ⟨zs, hz, h0, h1, h2, h3⟩ := h
  exact ⟨zs, hz, h0.memX h2 hM, h1.memX h3 hM⟩
theorem rdX.old (h : rdX F D w0 xs p c) (hM : Mem F w0 w Ls) (is : List Nat) : rdX (idsOf (pick Ls is)) D w xs p c := by
  obtain ⟨zs, hz, h0, h1, h2, h3⟩ := h
  exact ⟨zs, hz, h0.memX h2 hM, h1.memX h3 hM, apartX.old h0 h2 hM is, apartI.old h1 h3 hM is⟩
theorem ownD.len_le (h : ownD D xs p c s0 s1) : xs.length ≤ c := by
  obtain ⟨zs, hz, h0, h1⟩ := h
  rw [← len_fst hz]
  exact h0.len_le
section ops
variable {P : Program} {ops : Array Oper} {n : Nat} {Q : Exit → Act → World → Prop} {S : Store} {rest : List Oper} {o : Oper}
theorem W_makeD (t : TypeId) (x y : Operand) (m : Int) (bytes : Nat) (zsv : List Value) (y0 : α) (g0 : Pl) {zz : List α} (hM : Mem F w0 w Ls)
    (hok : okAll ops n S o = true) (ho : o.op = .makeSlice t x y) (hx : evalO S x = some (.int .i64 m)) (hy : evalO S y = some (.int .i64 m))
    (hi : sliceInfo P t = some (D.E.k, bytes, zsv)) (hz : zsv = D.E.cells (y0, g0)) (hbp : Nat.blt 0 bytes = true) (hnone : ∀ i ∈ D.inner (y0, g0), i.p = none ∧ i.xs = [] ∧ i.c = 0) (hm : gxMake bytes m y0 = some zz)
    (kk : ∀ p' c' seg' w', ownD D zz p' c' seg' [] → Mem F w0 w' (Ls ++ [seg']) → W P ops n Q (putS S o.dst (.slice p' zz.length c')) w' rest) : W P ops n Q S w (o :: rest) := by
  obtain ⟨h0, hb, rfl⟩ := gxMake_spec hm
  have hm' : gxMake bytes m (y0, g0) = some (List.replicate m.toNat (y0, g0)) := by
    unfold gxMake
    rw [if_pos ⟨h0, hb⟩]
  refine W_make (E := D.E) t x y m bytes zsv (y0, g0) hM hok ho hx hy hi hz hbp hm' ?_
  intro p' c' seg' w' h1 h2
  have := kk p' c' seg' w' ⟨_, rep_fst _ _ _, h1, ownI_none hnone _⟩ h2
  rw [List.length_replicate] at this ⊢
  exact this
theorem W_litD (us : List (α × Pl)) (xs : List α) (hu : us.map Prod.fst = xs) (ln : Nat) (ob : List Value) (e : TypeId) (hM : Mem F w0 w Ls) (hok : okAll ops n S o = true)
    (hr : (execOp (rho S) o).run P w = .ok (.value (.slice (some ⟨w.heap.size, 0, none⟩) ln ln)) (w.alloc (.cells ⟨ob⟩ e (0, 0)))) (hcs : ob = flat D.E us) (hln : us.length = ln) (hmax : Nat.ble ln 1000000 = true) (hin : ownI (us.flatMap D.inner) s1)
    (kk : ∀ p' c' seg' w', ownD D xs p' c' seg' s1 → Mem F w0 w' (Ls ++ [seg']) → W P ops n Q (putS S o.dst (.slice p' xs.length c')) w' rest) : W P ops n Q S w (o :: rest) := by
  refine W_lit (E := D.E) us ln ob e hM hok hr hcs hln hmax ?_
  intro p' c' seg' w' h1 h2
  rw [len_fst hu]
  exact kk p' c' seg' w' ⟨us, hu, h1, hin⟩ h2
theorem W_appendD {us : List (α × Pl)} {s2 : Seg} (t : TypeId) (s y : Operand) (bytes : Nat) (zsv : List Value) (pl : Nat) (cy : Nat) {zz : List α} (hM : Mem F w0 w Ls) (hown : ownD D xs p c s0 s1) (hpl : Ls.getD pl [] = s0) (hlt : Nat.blt pl Ls.length = true)
    (hok : okAll ops n S o = true) (ho : o.op = .call { callee := .builtin .append, args := #[s, y], argTypes := #[t, t] }) (hs : evalO S s = some (.slice p xs.length c)) (hy : evalO S y = some (.slice q ys.length cy))
    (hi : sliceInfo P t = some (D.E.k, bytes, zsv)) (hz : Nat.beq zsv.length D.E.k = true) (hk : Nat.blt 0 D.E.k = true) (hbp : Nat.blt 0 bytes = true)
    (hrd : rdS D.E w us q cy) (hu : us.map Prod.fst = ys) (hin : ownI (us.flatMap D.inner) s2) (hm : gxApp bytes xs ys = some zz)
    (kk : ∀ p' c' seg' w', ownD D zz p' c' seg' (s1 ++ s2) → Mem F w0 w' (Ls.set pl seg') → W P ops n Q (putS S o.dst (.slice p' zz.length c')) w' rest) : W P ops n Q S w (o :: rest) := by
  obtain ⟨zs, hzs, h0, h1⟩ := hown
  obtain ⟨hb, rfl⟩ := gxApp_spec hm
  have hm' : gxApp bytes zs us = some (zs ++ us) := by
    unfold gxApp
    rw [if_pos (by rw [len_fst hzs, len_fst hu]; exact hb)]
  rw [← len_fst hzs] at hs
  rw [← len_fst hu] at hy
  refine W_append (E := D.E) t s y bytes zsv pl cy hM h0 hpl hlt hok ho hs hy hi hz hk hbp hrd hm' ?_
  intro p' c' seg' w' h3 h4
  rw [len_fst (app_fst hzs hu)]
  exact kk p' c' seg' w' ⟨_, app_fst hzs hu, h3, by rw [List.flatMap_append]; exact ownI_app h1 hin⟩ h4
end ops
end
end Go.Gx
set_option linter.unusedVariables false
set_option linter.unusedSimpArgs false
namespace Go.Gx
section
variable {α : Type} {E : Enc α} {F : List Nat} {w0 w w' : World} {Ls : List Seg} {xs ys : List α} {p q : Option Addr} {c : Nat} {seg : Seg}
theorem ownS.partM (h : ownS E xs p c seg) {l hi : Int} (hm : gxSlice xs l hi = some ys) : ownS E ys (subP p l.toNat c E.k) (c - l.toNat) seg := by
  obtain ⟨h1, h2, h3, rfl⟩ := gxSlice_spec hm
  have hl : l.toNat ≤ hi.toNat := by omega
  have hx : hi.toNat ≤ xs.length := by omega
  have hlen : ((xs.take hi.toNat).drop l.toNat).length = hi.toNat - l.toNat := by simp; omega
  rcases h with ⟨e0, e1, e2, e3⟩ | ⟨b, off, cs, e, hp, hs, hc, hm, hsz, hh⟩
  · subst e0 e1 e2 e3
    exact Or.inl ⟨by simp [subP], by simp, by omega, rfl⟩
  · refine Or.inr ?_
    by_cases hcl : c = l.toNat
    · refine ⟨b, off, cs, e, by simp [subP, hcl, hp], hs, by omega, by omega, ?_, fun i x hx' j v hv => ?_⟩
      · rw [hcl, Nat.sub_self, Nat.zero_mul]; omega
      · have : ((xs.take hi.toNat).drop l.toNat) = [] := List.eq_nil_of_length_eq_zero (by omega)
        rw [this] at hx'; simp at hx'
    · refine ⟨b, off + l.toNat * E.k, cs, e, by simp [subP, hcl, hp, addr_add], hs, by omega, by omega, ?_, fun i x hx' j v hv => ?_⟩
      · have : (c - l.toNat) * E.k + l.toNat * E.k = c * E.k := by rw [← Nat.add_mul]; congr 1; omega
        omega
      · rw [List.getElem?_drop, List.getElem?_take] at hx'
        split at hx'
        · have := hh (l.toNat + i) x hx' j v hv
          rwa [show off + l.toNat * E.k + i * E.k + j = off + (l.toNat + i) * E.k + j by rw [Nat.add_mul]; omega]
        · cases hx'
end
end Go.Gx
set_option linter.unusedVariables false
set_option linter.unusedSimpArgs false
namespace Go.Gx
section
variable {P : Program} {w : World} {S : Store} {o : Oper}
def cmp1 (P : Program) (t : TypeId) (a b : Value) : Option Bool :=
  match P.underlying t, a, b with
  | some (.int _), .int k x, .int k' y => if k = k' then some (x == y) else none
  | some .bool, .bool x, .bool y => some (x == y)
  | some .string, .string x, .string y => some (x.toList == y.toList)
  | _, _, _ => none
def eqFs (P : Program) (xs ys : Array Value) : List Field → Option Bool
  | [] => some true
  | f :: fs => bif f.name == "_" then none else
    match shapeT P f.type, xs[f.offset]?, ys[f.offset]? with
    | some (false, 1), some a, some b => match cmp1 P f.type a b, eqFs P xs ys fs with
      | some r, some q => some (r && q)
      | _, _ => none
    | _, _, _ => none
theorem cmp1_run {d : Nat} {t : TypeId} {a b : Value} {r : Bool} (h : cmp1 P t a b = some r) : (Op.equalIn (d + 1) t a b).run P w = .ok r w := by
  unfold cmp1 at h
  split at h
  · rename_i k' k x k2 y hu
    split at h
    · rename_i hk
      subst hk
      simp only [Option.some.injEq] at h
      subst h
      exact run_equalIn_int w d t k k' x y hu
    · cases h
  · rename_i hu
    simp only [Option.some.injEq] at h
    subst h
    exact run_equalIn_bool' w d t _ _ hu
  · rename_i hu
    simp only [Option.some.injEq] at h
    subst h
    exact run_equalIn_string w d t _ _ hu
  · cases h
theorem eqFs_run {d : Nat} {xs ys : Array Value} : ∀ (fs : List Field) {r : Bool}, eqFs P xs ys fs = some r → (Op.eqFields (d + 1) xs ys fs).run P w = .ok r w
  | [], r, h => by
    simp only [eqFs, Option.some.injEq] at h
    subst h
    simp [Op.eqFields]
  | f :: fs, r, h => by
    unfold eqFs at h
    cases hn : f.name == "_" with
    | true => simp [hn] at h
    | false =>
      rw [hn, cond_false] at h
      split at h
      · rename_i a b hs hx hy
        split at h
        · rename_i r1 q h1 h2
          simp only [Option.some.injEq] at h
          subst h
          have hne : f.name ≠ "_" := by simpa using hn
          obtain ⟨hagg, _⟩ := shapeT_spec hs w
          have p1 : (part f.type xs f.offset).run P w = .ok a w := by simp [part, hagg, hx]
          have p2 : (part f.type ys f.offset).run P w = .ok b w := by simp [part, hagg, hy]
          have ih := eqFs_run (d := d) fs h2
          have hc := cmp1_run (d := d) (w := w) h1
          simp only [Op.eqFields, hne, ne_eq, not_false_eq_true, if_true, Sem.run_bind, p1, p2, hc, Result.andThen_ok]
          cases r1 with
          | false => simp
          | true => simpa using ih
        · cases h
      · cases h
theorem E_eqAgg (t : TypeId) (x y : Operand) (k2 : TypeId) (xs ys : List Value) (r : Bool) (ho : o.op = .binOp .eql t x y k2) (hx : evalO S x = some (.agg ⟨xs⟩)) (hy : evalO S y = some (.agg ⟨ys⟩))
    (ht : P.underlying t = some (.struct (P.fieldsOf t))) (hp : P.stoodInHeld t = false) (hg : P.eqGuardType P.depth t = false) (hm : eqFs P ⟨xs⟩ ⟨ys⟩ (P.fieldsOf t).toList = some r) :
    (execOp (rho S) o).run P w = .ok (.value (.bool r)) w := by
  have h1 := eqFs_run (w := w) (d := 9998) _ hm
  have h2 : (Op.equalIn 10000 t (.agg ⟨xs⟩) (.agg ⟨ys⟩)).run P w = .ok r w := by rw [run_equalIn_agg w 9999 t _ _ ht hp]; exact h1
  unfold execOp
  simp only [ho, rho, hx, hy, Option.getD_some, Sem.run_bind, run_eqGuard_agg w .eql t x y _ _ hg, Result.andThen_ok, run_eql_struct w t, h2, Sem.run_pure]
theorem E_neqAgg (t : TypeId) (x y : Operand) (k2 : TypeId) (xs ys : List Value) (r : Bool) (ho : o.op = .binOp .neq t x y k2) (hx : evalO S x = some (.agg ⟨xs⟩)) (hy : evalO S y = some (.agg ⟨ys⟩))
    (ht : P.underlying t = some (.struct (P.fieldsOf t))) (hp : P.stoodInHeld t = false) (hg : P.eqGuardType P.depth t = false) (hm : eqFs P ⟨xs⟩ ⟨ys⟩ (P.fieldsOf t).toList = some r) :
    (execOp (rho S) o).run P w = .ok (.value (.bool (!r))) w := by
  have h1 := eqFs_run (w := w) (d := 9998) _ hm
  have h2 : (Op.equalIn 10000 t (.agg ⟨xs⟩) (.agg ⟨ys⟩)).run P w = .ok r w := by rw [run_equalIn_agg w 9999 t _ _ ht hp]; exact h1
  unfold execOp
  simp only [ho, rho, hx, hy, Option.getD_some, Sem.run_bind, run_eqGuard_agg w .neq t x y _ _ hg, Result.andThen_ok, run_neq_struct w t, h2, Sem.run_pure]
end
section
variable {F : List Nat} {w0 w : World} {Ls : List Seg}
theorem Mem.midJ {A R : List Seg} {s : Seg} (h : Mem F w0 w ((Ls ++ ([[]] ++ (A ++ ([] ++ R)))) ++ [s])) : Mem F w0 w (Ls ++ ([s ++ A.flatten] ++ R)) := h.permF (by
  simp only [List.flatten_append, List.flatten_cons, List.flatten_nil, List.append_nil, List.nil_append, List.append_assoc]
  refine List.Perm.append_left _ ?_
  rw [← List.append_assoc, ← List.append_assoc]
  exact (List.perm_append_comm (l₁ := s) (l₂ := A.flatten ++ R.flatten)).trans (by rw [List.append_assoc]) |>.symm.symm |> fun hp => by
    simpa [List.append_assoc] using hp)
end
end Go.Gx
set_option linter.unusedVariables false
set_option linter.unusedSimpArgs false
namespace Go.Gx
open Go.Sort Go.Proofs
def gxSortI (xs : List Int) : List Int := xs.mergeSort fun x y => decide (x ≤ y)
def gxSortS (xs : List ByteArray) : List ByteArray := ((xs.map fun s => s.data.toList).mergeSort fun x y => decide (x ≤ y)).map fun l => ⟨l.toArray⟩
section
variable {α β : Type} [Inhabited β] {w w' : World} {xs ys : List α} {p : Option Addr} {c : Nat} {seg : Seg}
theorem put_own (E : Enc α) (enc : β → Value) (to : α → β) (hE : ∀ x, E.cells x = [enc (to x)]) (hk : E.k = 1) (hlen : ys.length = xs.length) {b off : Nat} {cs : Array Value} {e : TypeId} {n : Nat} {os : Array Obj}
    (hseg : seg = [(b, .cells cs e (0, 0))]) (hc : xs.length ≤ c) (hcm : c ≤ maxLen) (hsz : off + c * E.k ≤ cs.size) (hb : w.heap[b]? = some (.cells cs e (0, 0)))
    (hw : w' = grow (putRow enc (Sort.ahead w n) b off (ys.map to).toArray) os) :
    ∃ seg', ownS E ys (some ⟨b, off, none⟩) c seg' ∧ Mem (idsOf [seg]) w w' [seg'] := by
  have hlt : b < w.heap.size := lt_of_heap hb
  have hheap : ∀ k, k < w.heap.size → w'.heap[k]? = if k = b then some (.cells (putCells enc off (ys.map to).toArray cs) e (0, 0)) else w.heap[k]? := by
    intro k hk0
    rw [hw]
    show ((w.heap.modify b (onCells (putCells enc off (ys.map to).toArray))) ++ os)[k]? = _
    rw [Array.getElem?_append, if_pos (by simpa using hk0), Array.getElem?_modify]
    by_cases hkb : k = b
    · subst hkb
      rw [if_pos rfl, if_pos rfl, hb]
      rfl
    · rw [if_neg (fun h => hkb h.symm), if_neg hkb]
  refine ⟨[(b, .cells (putCells enc off (ys.map to).toArray cs) e (0, 0))], Or.inr ⟨b, off, _, e, rfl, rfl, by omega, hcm, ?_, ?_⟩, ?_⟩
  · unfold putCells
    simpa using hsz
  · intro i x hx j v hv
    rw [hE] at hv
    have hil : i < ys.length := (List.getElem?_eq_some_iff.1 hx).1
    have hj : j = 0 := by
      cases j with
      | zero => rfl
      | succ j => simp at hv
    subst hj
    simp only [List.getElem?_cons_zero, Option.some.injEq] at hv
    subst hv
    rw [hk, Nat.mul_one, Nat.add_zero]
    have hin : off + i < cs.size := by rw [hk, Nat.mul_one] at hsz; omega
    unfold putCells
    rw [Array.getElem?_mapIdx, Array.getElem?_eq_getElem hin, Option.map_some, if_pos ⟨by omega, by simp; omega⟩]
    have he : off + i - off = i := by omega
    rw [he, getElem!_pos _ i (by simpa using hil)]
    simp only [List.getElem_toArray, List.getElem_map]
    rw [(List.getElem?_eq_some_iff.1 hx).2]
  · refine ⟨by rw [hw]; rfl, by rw [hw]; rfl, by rw [hw]; rfl, ?_, ?_, ?_, ?_, ?_, ?_⟩
    · rw [hw]
      simp [grow, putRow, mapBlock, Sort.ahead]
    · intro k hk0 hF
      rw [hheap k hk0, if_neg]
      intro hkb
      subst hkb
      exact hF (by rw [hseg]; simp [idsOf])
    · intro q hq
      simp only [List.flatten_cons, List.flatten_nil, List.append_nil, List.mem_singleton] at hq
      subst hq
      rw [hheap b hlt, if_pos rfl]
    · intro q hq
      simp only [List.flatten_cons, List.flatten_nil, List.append_nil, List.mem_singleton] at hq
      subst hq
      exact Or.inr (by rw [hseg]; simp [idsOf])
    · simp
    · intro k hk0
      rw [hheap k hk0]
      split
      · rename_i h
        subst h
        rw [hb]
        rfl
      · rfl
theorem own_holds (E : Enc α) (enc : β → Value) (to : α → β) (hE : ∀ x, E.cells x = [enc (to x)]) (hk : E.k = 1) {b off : Nat} {cs : Array Value} {e : TypeId} (hb : w.heap[b]? = some (.cells cs e (0, 0))) (hh : holds E cs off xs) :
    Holds enc w b off (xs.map to).toArray := by
  intro j hj
  have hj' : j < xs.length := by simpa using hj
  have h1 := hh j xs[j] (List.getElem?_eq_getElem hj') 0 (enc (to xs[j])) (by rw [hE]; rfl)
  rw [hk, Nat.mul_one, Nat.add_zero] at h1
  constructor
  · rw [getElem!_pos _ j hj]
    simp only [List.getElem_toArray, List.getElem_map]
    simp only [World.cell?, hb]
    exact h1
  · simp [World.frozen?, hb]
end
section
variable {P : Program} {f : FuncId}
theorem sortI_run (hs : ∀ (blk off cap : Nat) (zs : List Int) (w : World), Holds (Value.int .i64) w blk off zs.toArray → blk < w.heap.size → zs.length < 4611686018427387904 →
      Calls P f #[.slice (some ⟨blk, off, none⟩) zs.length cap] w fun e w' => e = .returned (.tuple #[]) ∧ ∃ n os, w' = grow (putRow (Value.int .i64) (Sort.ahead w n) blk off (zs.mergeSort fun x y => decide (x ≤ y)).toArray) os)
    (hn : ∀ (p : Option Addr) (cap : Nat) (w : World), Calls P f #[.slice p 0 cap] w fun e w' => e = .returned (.tuple #[]) ∧ w' = w)
    (w : World) (x : List Int) (p : Option Addr) (c : Nat) (sg : Seg) (ho : ownS encI x p c sg) (hA : ∀ q ∈ List.flatten [sg], w.heap[q.1]? = some q.2) (hN : (idsOf [sg]).Nodup) (hx : x.length < 4611686018427387904) :
    Calls P f #[.slice p x.length c] w fun e w' => ∃ (s2 : Seg), e = .returned (.tuple #[]) ∧ ownS encI (gxSortI x) p c s2 ∧ (gxSortI x).length = x.length ∧ Mem (idsOf [sg]) w w' [s2] := by
  have hlen : (gxSortI x).length = x.length := by simp [gxSortI]
  rcases ho with ⟨rfl, rfl, rfl, rfl⟩ | ⟨b, off, cs, e, rfl, hsg, hc, hcm, hsz, hh⟩
  · refine (hn none 0 w).mono ?_
    rintro e w' ⟨rfl, rfl⟩
    exact ⟨[], rfl, Or.inl ⟨rfl, by simp [gxSortS, gxSortI], rfl, rfl⟩, hlen, by simpa using (Mem.refl (idsOf [[]]) w').addNil⟩
  · have hb : w.heap[b]? = some (.cells cs e (0, 0)) := hA (b, _) (by rw [hsg]; simp)
    have hE : ∀ s : Int, encI.cells s = [Value.int .i64 (id s)] := fun s => rfl
    have hH := own_holds encI (Value.int .i64) id hE rfl hb hh
    rw [List.map_id] at hH
    refine (hs b off c x w hH (lt_of_heap hb) hx).mono ?_
    rintro e2 w' ⟨rfl, n, os, hw⟩
    have hback : (gxSortI x).map id = x.mergeSort fun x y => decide (x ≤ y) := by rw [List.map_id]; rfl
    rw [← hback] at hw
    obtain ⟨s2, h1, h2⟩ := put_own (xs := x) (ys := gxSortI x) encI (Value.int .i64) id hE rfl hlen hsg hc hcm hsz hb hw
    exact ⟨s2, rfl, h1, hlen, h2⟩
end
end Go.Gx
set_option linter.unusedVariables false
set_option linter.unusedSimpArgs false
namespace Go.Gx
def gxAlt {α β : Type} (a : Option α) (f : α → Option β) (g : Option β) : Option β := match a with
  | some x => f x
  | none => g
theorem gx_alt {α β : Type} {a : Option α} {f : α → Option β} {g : Option β} {r : β} (h : gxAlt a f g = some r) : (∃ y, a = some y ∧ f y = some r) ∨ g = some r := by
  cases a with
  | some x => exact Or.inl ⟨x, rfl, h⟩
  | none => exact Or.inr h
theorem gxAlt_some {α β : Type} (x : α) (f : α → Option β) (g : Option β) : gxAlt (some x) f g = f x := rfl
theorem gxAlt_none {α β : Type} (f : α → Option β) (g : Option β) : gxAlt none f g = g := rfl
theorem w64_idV {z : Int} (h1 : -9223372036854775808 ≤ z) (h2 : z ≤ 9223372036854775807) : w64 z = z := by
  unfold w64
  simp [IntKind.wrap, IntKind.bits, IntKind.signed, Int.bmod]
  omega
def wr (cs : Array Value) (o : Nat) (vs : List Value) : Array Value := (cs.toList.take o ++ vs ++ cs.toList.drop (o + vs.length)).toArray
theorem wr_size (cs : Array Value) (o : Nat) (vs : List Value) (h : o + vs.length ≤ cs.size) : (wr cs o vs).size = cs.size := by
  simp only [wr, List.size_toArray, List.length_append, List.length_take, List.length_drop, Array.length_toList]
  omega
theorem wr_in {cs : Array Value} {o : Nat} {vs : List Value} (h : o + vs.length ≤ cs.size) {j : Nat} (hj : j < vs.length) : (wr cs o vs)[o + j]? = vs[j]? := by
  simp only [wr, List.getElem?_toArray]
  have hl : (cs.toList.take o).length = o := by simp only [List.length_take, Array.length_toList]; omega
  rw [List.append_assoc, List.getElem?_append_right (by omega), List.getElem?_append_left (by omega)]
  congr 1
  omega
theorem wr_out {cs : Array Value} {o : Nat} {vs : List Value} (h : o + vs.length ≤ cs.size) {q : Nat} (hq : q < o ∨ o + vs.length ≤ q) : (wr cs o vs)[q]? = cs[q]? := by
  simp only [wr, List.getElem?_toArray]
  have hl : (cs.toList.take o).length = o := by simp only [List.length_take, Array.length_toList]; omega
  rcases hq with hq | hq
  · rw [List.append_assoc, List.getElem?_append_left (by omega), List.getElem?_take, if_pos hq, Array.getElem?_toList]
  · rw [List.getElem?_append_right (by rw [List.length_append]; omega), List.getElem?_drop, List.length_append, hl, ← Array.getElem?_toList]
    congr 1
    omega
theorem ins_holds {cs : Array Value} {off : Nat} {A V B : List Value} (h : holdsF cs off A) (hs : off + (A.length + V.length + B.length) ≤ cs.size) :
    holdsF (wr (wr cs (off + A.length) V) (off + A.length + V.length) B) off (A ++ V ++ B) ∧ holdsF (wr (wr cs (off + A.length + V.length) B) (off + A.length) V) off (A ++ V ++ B) := by
  have s1 : off + A.length + V.length ≤ cs.size := by omega
  have s2 : off + A.length + V.length + B.length ≤ cs.size := by omega
  have z1 := wr_size cs (off + A.length) V (by omega)
  have z2 := wr_size cs (off + A.length + V.length) B (by omega)
  constructor
  · intro m v hm
    by_cases h1 : m < A.length
    · rw [List.append_assoc, List.getElem?_append_left h1] at hm
      rw [wr_out (by omega) (Or.inl (by omega)), wr_out (by omega) (Or.inl (by omega))]
      exact h m v hm
    · by_cases h2 : m < A.length + V.length
      · rw [List.append_assoc, List.getElem?_append_right (by omega), List.getElem?_append_left (by omega)] at hm
        rw [wr_out (by omega) (Or.inl (by omega)), show off + m = off + A.length + (m - A.length) by omega, wr_in (by omega) (by omega)]
        exact hm
      · rw [List.getElem?_append_right (by rw [List.length_append]; omega), List.length_append] at hm
        have hl := (List.getElem?_eq_some_iff.1 hm).1
        rw [show off + m = off + A.length + V.length + (m - (A.length + V.length)) by omega, wr_in (by omega) (by omega)]
        exact hm
  · intro m v hm
    by_cases h1 : m < A.length
    · rw [List.append_assoc, List.getElem?_append_left h1] at hm
      rw [wr_out (by omega) (Or.inl (by omega)), wr_out (by omega) (Or.inl (by omega))]
      exact h m v hm
    · by_cases h2 : m < A.length + V.length
      · rw [List.append_assoc, List.getElem?_append_right (by omega), List.getElem?_append_left (by omega)] at hm
        rw [show off + m = off + A.length + (m - A.length) by omega, wr_in (by omega) (by omega)]
        exact hm
      · rw [List.getElem?_append_right (by rw [List.length_append]; omega), List.length_append] at hm
        have hl := (List.getElem?_eq_some_iff.1 hm).1
        rw [wr_out (by omega) (Or.inr (by omega)), show off + m = off + A.length + V.length + (m - (A.length + V.length)) by omega, wr_in (by omega) (by omega)]
        exact hm
section
variable {α : Type} {E : Enc α} {F : List Nat} {w0 w w' : World} {Ls : List Seg} {xs ys : List α} {p q : Option Addr} {c : Nat} {seg : Seg}
variable {P : Program} {ops : Array Oper} {n : Nat} {Q : Exit → Act → World → Prop} {S : Store} {rest : List Oper} {o : Oper}
theorem W_sliceC (t : TypeId) (x : Operand) (lo hi : Option Operand) (len : Nat) (l h : Int) (k : Nat) (hok : okAll ops n S o = true) (ho : o.op = .slice t x lo hi none)
    (hx : evalO S x = some (.slice p len c)) (hl : (lo = none ∧ l = 0) ∨ ∃ y, lo = some y ∧ evalO S y = some (.int .i64 l)) (hh : (hi = none ∧ h = len) ∨ ∃ y, hi = some y ∧ evalO S y = some (.int .i64 h))
    (ht : sliceElem P t = some k) (hlen : len ≤ c) (h0 : 0 ≤ l) (h1 : l ≤ h) (h2 : h ≤ c) {v : Value} (hv : Value.slice (subP p l.toNat c k) (h.toNat - l.toNat) (c - l.toNat) = v)
    (kk : W P ops n Q (putS S o.dst v) w rest) : W P ops n Q S w (o :: rest) := by
  subst hv
  obtain ⟨e, inf, hu, hinf, hk⟩ := sliceElem_spec ht
  refine W_val _ w hok ?_ kk
  have hb1 : ∀ code, (Instr.sliceBound (.int .i64 h) c code).run P w = .ok h.toNat w := fun code => by
    have : 0 ≤ h ∧ h ≤ (c : Int) := ⟨by omega, by omega⟩
    simp only [Instr.sliceBound, asIntOf, Sem.run_bind, Sem.run_pure, Result.andThen_ok, if_pos this]
  have hb2 : ∀ code, (Instr.sliceBound (.int .i64 l) h.toNat code).run P w = .ok l.toNat w := fun code => by
    have : 0 ≤ l ∧ l ≤ (h.toNat : Int) := ⟨by omega, by omega⟩
    simp only [Instr.sliceBound, asIntOf, Sem.run_bind, Sem.run_pure, Result.andThen_ok, if_pos this]
  have key : (Instr.sliceBounds true len c (lo.map (rho S)) (hi.map (rho S)) none).run P w = .ok (l.toNat, h.toNat, c) w := by
    rcases hl with ⟨rfl, rfl⟩ | ⟨yl, rfl, hyl⟩ <;> rcases hh with ⟨rfl, rfl⟩ | ⟨yh, rfl, hyh⟩ <;> simp only [Instr.sliceBounds, Option.map_none, Option.map_some, rho, Option.getD_some, *] <;> simp [hb1, hb2]
    · have : l ≤ (len : Int) := by omega
      have hb3 : (Instr.sliceBound (.int .i64 l) len .sliceB).run P w = .ok l.toNat w := by simp [Instr.sliceBound, asIntOf, h0, this]
      simp [hb3]
  unfold execOp
  simp only [ho, Instr.sliceAt, Sem.run_bind, run_underlying hu, Result.andThen_ok, rho, hx, Option.getD_some, Instr.slice, Option.map_none]
  simp only [sizeOf, typeInfo, Sem.run_bind, run_program, hinf, hk, Sem.run_pure, Result.andThen_ok]
  have key' : (Instr.sliceBounds true len c (Option.map (fun x => (evalO S x).getD undef) lo) (Option.map (fun x => (evalO S x).getD undef) hi) none).run P w = .ok (l.toNat, h.toNat, c) w := key
  first
    | (rw [key]; rfl)
    | (rw [key']; rfl)
theorem run_copyK (w : World) (dT sT ty elem : TypeId) (i : TypeInfo) (g o dLen dCap : Nat) (a : Addr) (sLen sCap : Nat) (cur : Array Value) (t : TypeId) (cs : List Value)
    (hu : P.underlying dT = some (.slice elem)) (hs : P.info? elem = some i)
    (hg : w.heap[g]? = some (.cells cur t (0, 0))) (hn : cs.length = Nat.min sLen dLen * i.size)
    (hsrc : ∀ j v, cs[j]? = some v → w.cell? (a.add j) = some v) (hfit : o + cs.length ≤ cur.size) (h1 : ∀ v ∈ cs, v.oneCell' = true) :
    (Builtin.copy_ #[dT, sT] ty #[.slice (some ⟨g, o, none⟩) dLen dCap, .slice (some a) sLen sCap]).run P w =
      .ok (goInt (Nat.min sLen dLen)) (w.setRow g (wr cur o cs)) := by
  have hl := run_loadCells_list (P := P) w a cs hsrc
  have hst := run_storeCells_at P g o t cs 0 cur w hg (by simpa using hfit) h1
  rw [hn] at hl
  simp only [Nat.add_zero] at hst
  simp [Builtin.copy_, run_underlying hu, Builtin.lenOf, Builtin.firstCells, sizeOf, typeInfo, hs, hl, hst, wr]
theorem W_copy (t : TypeId) (x y : Operand) (k bytes : Nat) (zsv : List Value) (pl b off dLen dCap : Nat) (cur : Array Value) (e : TypeId) (a : Addr) (sLen sCap : Nat) (vs : List Value) (hM : Mem F w0 w Ls) (hpl : Ls.getD pl [] = [(b, .cells cur e (0, 0))])
    (hok : okAll ops n S o = true) (ho : o.op = .call { callee := .builtin .copy, args := #[x, y], argTypes := #[t, t] }) (hx : evalO S x = some (.slice (some ⟨b, off, none⟩) dLen dCap)) (hy : evalO S y = some (.slice (some a) sLen sCap))
    (hi : sliceInfo P t = some (k, bytes, zsv)) (hn : vs.length = Nat.min sLen dLen * k) (hsrc : ∀ j v, vs[j]? = some v → w.cell? (a.add j) = some v) (hfit : off + vs.length ≤ cur.size) (h1 : ∀ v ∈ vs, v.oneCell' = true)
    (kk : ∀ w', Mem F w0 w' (Ls.set pl [(b, .cells (wr cur off vs) e (0, 0))]) → W P ops n Q (putS S o.dst (goInt (Nat.min sLen dLen))) w' rest) : W P ops n Q S w (o :: rest) := by
  obtain ⟨e', i, z, hu, hinf, hzero, hsz, hby, hzs⟩ := sliceInfo_spec hi
  have hr := run_copyK (P := P) w t t o.type e' i b off dLen dCap a sLen sCap cur e vs hu hinf (hM.blk pl hpl) (by rw [hsz]; exact hn) hsrc hfit h1
  refine W_val _ (w.setRow b (wr cur off vs)) hok ?_ (kk _ (hM.setRow pl _ hpl))
  unfold execOp
  simp only [ho, resolve, invoke, builtin, Sem.run_bind, Sem.run_pure, Result.andThen_ok, List.map_toArray, List.map_cons, List.map_nil, rho, hx, hy, Option.getD_some, hr]
theorem W_madeOn (E : Enc α) (t tn : TypeId) (x y : Operand) (bytes : Nat) (zsv : List Value) (kn : IntKind) (b off : Nat) (cs : Array Value) (e0 : TypeId) (A : List Value) (i m : Nat) (hM : Mem F w0 w Ls)
    (hok : okAll ops n S o = true) (ho : o.op = .call { callee := .builtin .append, args := #[x, y], argTypes := #[t, tn] }) (hx : evalO S x = some (.slice (some ⟨b, off, none⟩) i c)) (hy : evalO S y = some (.int .i64 (m : Int)))
    (hi : sliceInfo P t = some (E.k, bytes, zsv)) (hz : Nat.beq zsv.length E.k = true) (hk : Nat.blt 0 E.k = true) (hbp : Nat.blt 0 bytes = true) (htn : P.underlying tn = some (.int kn))
    (hb : w.heap[b]? = some (.cells cs e0 (0, 0))) (hA : A.length = i * E.k) (hh : holdsF cs off A) (hm : 0 < m) (hg : c < i + m) (hfit : (i + m) * bytes ≤ 140737488355328)
    (kk : ∀ c' cs' e w', i + m ≤ c' → c' ≤ maxLen → c' * E.k ≤ cs'.size → holdsF cs' 0 A → Mem F w0 w' (Ls ++ [[(w.heap.size, .cells cs' e (0, 0))]]) → W P ops n Q (putS S o.dst (.slice (some ⟨w.heap.size, 0, none⟩) (i + m) c')) w' rest) : W P ops n Q S w (o :: rest) := by
  obtain ⟨e, inf, z, hu, hinf, hzero, hsz, hby, hzs⟩ := sliceInfo_spec hi
  have hk := Nat.blt_eq ▸ hk
  have hbp := Nat.blt_eq ▸ hbp
  have hz := Nat.eq_of_beq_eq_true hz
  have hzk : z.cells.size = E.k := by rw [← hz, ← hzs]; simp
  have hmm : m * bytes ≤ (i + m) * bytes := Nat.mul_le_mul_right _ (by omega)
  have him : i + m ≤ 140737488355328 := Nat.le_trans (Nat.le_mul_of_pos_right _ hbp) hfit
  have hold : (Builtin.firstCells inf.size i (.slice (some ⟨b, off, none⟩) i c)).run P w.drew = .ok A.toArray w.drew := by
    exact run_firstCells_some w.drew inf.size i ⟨b, off, none⟩ i c A (by rw [hsz]; exact hA) (fun j v hj => by
      rw [addr_add]
      have : w.drew.cell? ⟨b, off + j, none⟩ = w.cell? ⟨b, off + j, none⟩ := rfl
      rw [this, cell_of_heap hb]
      exact hh j v hj)
  have hr := Lib.run_append_grow_zeros (P := P) w t tn o.type e inf z .i64 kn hu htn hinf hzero (some ⟨b, off, none⟩) i c A hold m hm (by omega) (by omega) (by omega) (by subst hby; omega) (by
    subst hby
    exact growslice_fits (by omega) (by simpa using hfit))
  have hge := grownCap_ge w (i + m) c e
  have hcm := grownCap_le_maxLen w (i + m) c e (by simp only [maxLen]; omega)
  obtain ⟨C, hC⟩ : ∃ C, C = (A.toArray ++ Builtin.zeroCells z.cells m ++ Builtin.zeroCells z.cells (grownCap w (i + m) c e - (i + m))) := ⟨_, rfl⟩
  rw [← hC] at hr
  have hCs : grownCap w (i + m) c e * E.k ≤ C.size := by
    rw [hC]
    simp only [Array.size_append, List.size_toArray, size_zeroCells, hzk, hA, ← Nat.add_mul]
    refine Nat.mul_le_mul_right _ ?_
    omega
  refine W_val (.slice (some ⟨w.heap.size, 0, none⟩) (i + m) (grownCap w (i + m) c e)) (w.drew.alloc (.cells C e)) hok ?_ (kk (grownCap w (i + m) c e) C e (w.drew.alloc (.cells C e)) hge hcm hCs ?_ (Mem.alloc (w := w.drew) ⟨hM.os, hM.tape, hM.output, hM.size, hM.old, hM.has, hM.place, hM.nodup, hM.frz⟩ _ rfl))
  · unfold execOp
    simp only [ho, resolve, invoke, builtin, Sem.run_bind, Sem.run_pure, Result.andThen_ok, List.map_toArray, List.map_cons, List.map_nil, rho, hx, hy, Option.getD_some, hr]
  · intro j v hj
    have hl := (List.getElem?_eq_some_iff.1 hj).1
    rw [hC, Nat.zero_add, Array.append_assoc, Array.getElem?_append_left (by simpa using hl)]
    simpa using hj
theorem W_overlaps (f : FuncId) (t tR : TypeId) (x y : Operand) (k bytes : Nat) (zsv : List Value) (fn : Func) (va vo la ca b o2 lb cb : Nat) (A B : Array Value) (ea eb : TypeId)
    (hok : okAll ops n S o = true) (ho : o.op = .call { callee := .value (.func f), args := #[x, y], argTypes := #[t, t] }) (hx : evalO S x = some (.slice (some ⟨va, vo, none⟩) la ca)) (hy : evalO S y = some (.slice (some ⟨b, o2, none⟩) lb cb))
    (hi : sliceInfo P t = some (k, bytes, zsv)) (hf : P.funcs[f]? = some fn) (hname : (fn.name == "runtime.NumGoroutine") = false) (hb : fn.body.isNone = true) (hn : Extern.findNext fn = none) (he : Extern.find fn = some (Extern.SlicesOverlaps.overlaps #[t, t] #[tR]))
    (hA : w.heap[va]? = some (.cells A ea (0, 0))) (hB : w.heap[b]? = some (.cells B eb (0, 0))) (hne : va ≠ b) (hB0 : 0 < B.size)
    (kk : W P ops n Q (putS S o.dst (.bool false)) w rest) : W P ops n Q S w (o :: rest) := by
  obtain ⟨e', i, z, hu, hinf, hzero, hsz, hby, hzs⟩ := sliceInfo_spec hi
  have hov := Lib.run_overlaps_apart (P := P) w t tR e' hu i.size (fun w => by simp [sizeOf, typeInfo, hinf]) ⟨va, vo, none⟩ ⟨b, o2, none⟩ la ca lb cb hne ea eb A.size B.size (by simp [World.shape?, hA]) (by simp [World.shape?, hB]) (by omega) (by simp [World.frozen?, hA]) (by simp [World.frozen?, hA])
  have hr := run_callFunc_extern hf hname hb hn he #[.slice (some ⟨va, vo, none⟩) la ca, .slice (some ⟨b, o2, none⟩) lb cb] w
  rw [hov, Result.andThen_ok] at hr
  refine W_val (.bool false) w hok ?_ kk
  have hf0 : evalO S (Operand.func f) = some (.func (.func f) #[] #[]) := rfl
  unfold execOp
  simp only [ho, resolve, rho, hf0, Option.getD_some, Deferred.ofValue, invoke, Sem.run_bind, Sem.run_pure, Result.andThen_ok, List.map_toArray, List.map_cons, List.map_nil, hx, hy, Array.append_empty, Array.empty_append, hr]
theorem holdsF_take {cs : Array Value} {off : Nat} {A : List Value} (h : holdsF cs off A) (m : Nat) : holdsF cs off (A.take m) := fun j v hj => by
  rw [List.getElem?_take] at hj
  split at hj
  · exact h j v hj
  · cases hj
theorem holdsF_drop {cs : Array Value} {off : Nat} {A : List Value} (h : holdsF cs off A) (m : Nat) : holdsF cs (off + m) (A.drop m) := fun j v hj => by
  rw [List.getElem?_drop] at hj
  rw [Nat.add_assoc]
  exact h (m + j) v hj
theorem flat_take (E : Enc α) : ∀ (i : Nat) (xs : List α), flat E (xs.take i) = (flat E xs).take (i * E.k)
  | 0, xs => by simp [flat]
  | i + 1, [] => by simp [flat]
  | i + 1, x :: r => by
    have ih := flat_take E i r
    have hk := E.len x
    simp only [flat, List.take_succ_cons, List.flatMap_cons] at *
    rw [ih, show (i + 1) * E.k = (E.cells x).length + i * E.k by rw [Nat.add_mul, hk]; omega, List.take_length_add_append]
theorem flat_drop (E : Enc α) : ∀ (i : Nat) (xs : List α), flat E (xs.drop i) = (flat E xs).drop (i * E.k)
  | 0, xs => by simp [flat]
  | i + 1, [] => by simp [flat]
  | i + 1, x :: r => by
    have ih := flat_drop E i r
    have hk := E.len x
    simp only [flat, List.drop_succ_cons, List.flatMap_cons] at *
    rw [ih, show (i + 1) * E.k = (E.cells x).length + i * E.k by rw [Nat.add_mul, hk]; omega, List.drop_length_add_append]
end
end Go.Gx
set_option linter.unusedVariables false
set_option maxRecDepth 100000
set_option maxHeartbeats 4000000
namespace Go.Proofs.YtllhajkgkghhdaaGreat
open Go.Gx
structure MachStep where
  Kind : Int
  Irq : Int
  Cpu : Int
  Value : Int
structure Slot where
  State : Int
  Irq : Int
  Priority : Int
def encSlot : Enc Slot := ⟨fun x => [.int .i64 x.State, .int .i64 x.Irq, .int .i64 x.Priority], 3, fun _ => rfl, by simp [Value.oneCell']⟩
structure Route where
  Priority : Int
  Target : Int
def encRoute : Enc Route := ⟨fun x => [.int .i64 x.Priority, .int .i64 x.Target], 2, fun _ => rfl, by simp [Value.oneCell']⟩
structure Waiter where
  Irq : Int
  Priority : Int
def encWaiter : Enc Waiter := ⟨fun x => [.int .i64 x.Irq, .int .i64 x.Priority], 2, fun _ => rfl, by simp [Value.oneCell']⟩
structure Queue where
  Slots : List Slot
  Waiting : List Waiter
structure Interface where
  Mask : Int
  Stack : List Int
  Queue : Queue
def deepInterface : Deep Interface := ⟨⟨fun z => [.int .i64 z.1.Mask, .slice ((z.2 0).1) z.1.Stack.length ((z.2 0).2), .slice ((z.2 1).1) z.1.Queue.Slots.length ((z.2 1).2), .slice ((z.2 2).1) z.1.Queue.Waiting.length ((z.2 2).2)], 4, fun _ => rfl, by simp [Value.oneCell']⟩, fun z => [⟨Int, Gx.encI, z.1.Stack, (z.2 0).1, (z.2 0).2⟩, ⟨Slot, encSlot, z.1.Queue.Slots, (z.2 1).1, (z.2 1).2⟩, ⟨Waiter, encWaiter, z.1.Queue.Waiting, (z.2 2).1, (z.2 2).2⟩]⟩
structure Machine where
  Routes : List Route
  Enabled : List Bool
  Raised : List Bool
  Cpus : List Interface
def M.l_szRouteS (x44 : List Route) (x49 : Int) : Option (Int) :=
  bif decide ((w64 (x49 - (x44.length : Int))) < 0) then some (-1)
  else some (w64 (x49 - (x44.length : Int)))
def M.l_szBoolS (x56 : List Bool) (x61 : Int) : Option (Int) :=
  bif decide ((w64 (x61 - (x56.length : Int))) < 0) then some (-1)
  else some (w64 (x61 - (x56.length : Int)))
def M.l_szIntS (x109 : List Int) (x114 : Int) : Option (Int) :=
  bif decide ((w64 (x114 - (x109.length : Int))) < 0) then some (-1)
  else some (w64 (x114 - (x109.length : Int)))
def M.l_szSlotS (x135 : List Slot) (x140 : Int) : Option (Int) :=
  bif decide ((w64 (x140 - (x135.length : Int))) < 0) then some (-1)
  else some (w64 (x140 - (x135.length : Int)))
def M.l_szWaiterS (x147 : List Waiter) (x152 : Int) : Option (Int) :=
  bif decide ((w64 (x152 - (x147.length : Int))) < 0) then some (-1)
  else some (w64 (x152 - (x147.length : Int)))
def M.l_szQueue (x121 : Queue) (x130 : Int) : Option (Int) :=
  Option.bind (M.l_szSlotS x121.Slots x130) fun r142 =>
  bif decide (r142 < 0) then some (-1)
  else (Option.bind (M.l_szWaiterS x121.Waiting r142) fun r154 =>
  bif decide (r154 < 0) then some (-1)
  else some r154)
def M.l_szInterface (x91 : Interface) (x104 : Int) : Option (Int) :=
  Option.bind (M.l_szIntS x91.Stack x104) fun r116 =>
  bif decide (r116 < 0) then some (-1)
  else (Option.bind (M.l_szQueue (⟨x91.Queue.Slots, x91.Queue.Waiting⟩ : Queue) r116) fun r159 =>
  bif decide (r159 < 0) then some (-1)
  else some r159)
def M.l_szInterfaceS (x73 : List Interface) (x78 : Int) : Option (Int) :=
  bif decide ((w64 (x78 - (x73.length : Int))) < 0) then some (-1)
  else (Option.bind (whileM (σ := Int × Int) (ρ := (Int) ⊕ (Int)) (fun s185 =>
    bif decide (s185.2 < (x73.length : Int)) then (Option.bind (gxIdx x73 s185.2) fun y197 =>
    Option.bind (M.l_szInterface (⟨y197.Mask, y197.Stack, (⟨y197.Queue.Slots, y197.Queue.Waiting⟩ : Queue)⟩ : Interface) s185.1) fun r207 =>
    bif decide (r207 < 0) then some (.inr (.inr (-1)))
    else some (.inl (r207, w64 (s185.2 + 1))))
    else some (.inr (.inl s185.1))) gxFuel (w64 (x78 - (x73.length : Int)), 0)) fun out192 => Sum.elim (fun (o195 : Int) =>
  some o195) (fun r => some r) out192)
def M.l_szMachine (x22 : Machine) (x39 : Int) : Option (Int) :=
  Option.bind (M.l_szRouteS x22.Routes x39) fun r51 =>
  bif decide (r51 < 0) then some (-1)
  else (Option.bind (M.l_szBoolS x22.Enabled r51) fun r63 =>
  bif decide (r63 < 0) then some (-1)
  else (Option.bind (M.l_szBoolS x22.Raised r63) fun r68 =>
  bif decide (r68 < 0) then some (-1)
  else (Option.bind (M.l_szInterfaceS x22.Cpus r68) fun r216 =>
  bif decide (r216 < 0) then some (-1)
  else some r216)))
def M.l_toRoute (x300 : Route) : Option (Route) :=
  some x300
def M.l_toRouteS (x280 : List Route) : Option ((List Route)) :=
  Option.bind (gxMake 16 (x280.length : Int) ((⟨0, 0⟩ : Route) : Route)) fun mk290 =>
  Option.bind (whileM (σ := Int × List Route) (ρ := List Route) (fun s341 =>
    bif decide (s341.1 < (x280.length : Int)) then (Option.bind (gxIdx x280 s341.1) fun y357 =>
    Option.bind (M.l_toRoute y357) fun r358 =>
    Option.bind (gxIdx s341.2 s341.1) fun y362 =>
    some (.inl (w64 (s341.1 + 1), (s341.2.set s341.1.toNat r358))))
    else some (.inr s341.2)) gxFuel (0, mk290)) fun out348 =>
  some out348
def M.l_toBoolS (x382 : List Bool) : Option ((List Bool)) :=
  Option.bind (gxMake 1 (x382.length : Int) (false : Bool)) fun mk392 =>
  Option.bind (whileM (σ := Int × List Bool) (ρ := List Bool) (fun s416 =>
    bif decide (s416.1 < (x382.length : Int)) then (Option.bind (gxIdx x382 s416.1) fun y432 =>
    Option.bind (gxIdx s416.2 s416.1) fun y433 =>
    some (.inl (w64 (s416.1 + 1), (s416.2.set s416.1.toNat y432))))
    else some (.inr s416.2)) gxFuel (0, mk392)) fun out423 =>
  some out423
def M.l_toIntS (x544 : List Int) : Option ((List Int)) :=
  Option.bind (gxMake 8 (x544.length : Int) (0 : Int)) fun mk554 =>
  Option.bind (whileM (σ := Int × List Int) (ρ := List Int) (fun s578 =>
    bif decide (s578.1 < (x544.length : Int)) then (Option.bind (gxIdx x544 s578.1) fun y594 =>
    Option.bind (gxIdx s578.2 s578.1) fun y595 =>
    some (.inl (w64 (s578.1 + 1), (s578.2.set s578.1.toNat y594))))
    else some (.inr s578.2)) gxFuel (0, mk554)) fun out585 =>
  some out585
def M.l_toSlot (x668 : Slot) : Option (Slot) :=
  some x668
def M.l_toSlotS (x648 : List Slot) : Option ((List Slot)) :=
  Option.bind (gxMake 24 (x648.length : Int) ((⟨0, 0, 0⟩ : Slot) : Slot)) fun mk658 =>
  Option.bind (whileM (σ := Int × List Slot) (ρ := List Slot) (fun s711 =>
    bif decide (s711.1 < (x648.length : Int)) then (Option.bind (gxIdx x648 s711.1) fun y727 =>
    Option.bind (M.l_toSlot y727) fun r728 =>
    Option.bind (gxIdx s711.2 s711.1) fun y732 =>
    some (.inl (w64 (s711.1 + 1), (s711.2.set s711.1.toNat r728))))
    else some (.inr s711.2)) gxFuel (0, mk658)) fun out718 =>
  some out718
def M.l_toWaiter (x772 : Waiter) : Option (Waiter) :=
  some x772
def M.l_toWaiterS (x752 : List Waiter) : Option ((List Waiter)) :=
  Option.bind (gxMake 16 (x752.length : Int) ((⟨0, 0⟩ : Waiter) : Waiter)) fun mk762 =>
  Option.bind (whileM (σ := Int × List Waiter) (ρ := List Waiter) (fun s813 =>
    bif decide (s813.1 < (x752.length : Int)) then (Option.bind (gxIdx x752 s813.1) fun y829 =>
    Option.bind (M.l_toWaiter y829) fun r830 =>
    Option.bind (gxIdx s813.2 s813.1) fun y834 =>
    some (.inl (w64 (s813.1 + 1), (s813.2.set s813.1.toNat r830))))
    else some (.inr s813.2)) gxFuel (0, mk762)) fun out820 =>
  some out820
def M.l_toQueue (x615 : Queue) : Option (Queue) :=
  Option.bind (M.l_toSlotS x615.Slots) fun r741 =>
  Option.bind (M.l_toWaiterS x615.Waiting) fun r843 =>
  some (⟨r741, r843⟩ : Queue)
def M.l_toInterface (x499 : Interface) : Option (Interface) :=
  Option.bind (M.l_toIntS x499.Stack) fun r604 =>
  Option.bind (M.l_toQueue (⟨x499.Queue.Slots, x499.Queue.Waiting⟩ : Queue)) fun r856 =>
  some (⟨x499.Mask, r604, r856⟩ : Interface)
def M.l_toInterfaceS (x464 : List Interface) : Option ((List Interface)) :=
  Option.bind (gxMake 80 (x464.length : Int) ((⟨0, [], (⟨[], []⟩ : Queue)⟩ : Interface) : Interface)) fun mk478 =>
  Option.bind (whileM (σ := Int × List Interface) (ρ := List Interface) (fun s976 =>
    bif decide (s976.1 < (x464.length : Int)) then (Option.bind (gxIdx x464 s976.1) fun y994 =>
    Option.bind (M.l_toInterface (⟨y994.Mask, y994.Stack, (⟨y994.Queue.Slots, y994.Queue.Waiting⟩ : Queue)⟩ : Interface)) fun r1004 =>
    Option.bind (gxIdx s976.2 s976.1) fun y1023 =>
    some (.inl (w64 (s976.1 + 1), (s976.2.set s976.1.toNat (⟨r1004.Mask, r1004.Stack, (⟨r1004.Queue.Slots, r1004.Queue.Waiting⟩ : Queue)⟩ : Interface)))))
    else some (.inr s976.2)) gxFuel (0, mk478)) fun out983 =>
  some out983
def M.l_toMachine (x226 : Machine) : Option (Machine) :=
  Option.bind (M.l_toRouteS x226.Routes) fun r371 =>
  Option.bind (M.l_toBoolS x226.Enabled) fun r442 =>
  Option.bind (M.l_toBoolS x226.Raised) fun r453 =>
  Option.bind (M.l_toInterfaceS x226.Cpus) fun r1052 =>
  some (⟨r371, r442, r453, r1052⟩ : Machine)
def M.s_l1In (x1142 : Int) (x1143 : Int) (x1144 : Int) : Option (Bool) :=
  Option.bind (α := Bool) (bif decide (x1142 ≥ x1143) then some (decide (x1142 ≤ x1144))
  else some false) fun o1146 =>
  some o1146
def M.s_l6Prio (x1141 : Int) : Option (Bool) :=
  Option.bind (M.s_l1In x1141 0 15) fun r1154 =>
  some r1154
def M.s_l21Routes (x1133 : List Route) (x1138 : Int) : Option (Bool) :=
  Option.bind (whileM (σ := Int) (ρ := (Unit) ⊕ (Bool)) (fun s1218 =>
    bif decide (s1218 < (x1133.length : Int)) then (Option.bind (α := Bool) (Option.bind (gxIdx x1133 s1218) fun y1244 =>
    Option.bind (M.s_l6Prio y1244.Priority) fun r1245 =>
    bif !r1245 then some true
    else (Option.bind (gxIdx x1133 s1218) fun y1250 =>
    Option.bind (M.s_l1In y1250.Target 0 (w64 (x1138 - 1))) fun r1251 =>
    some (!r1251))) fun o1241 =>
    bif o1241 then some (.inr (.inr false))
    else some (.inl (w64 (s1218 + 1))))
    else some (.inr (.inl ()))) gxFuel 0) fun out1225 => Sum.elim (fun (o1228 : Unit) =>
  Option.bind (α := Bool) (Option.bind (M.s_l1In x1138 1 2) fun r1272 =>
  bif r1272 then some ((x1133.length : Int) == 8)
  else some false) fun o1269 =>
  some o1269) (fun r => some r) out1225
def M.s_l6Irq (x1374 : Int) : Option (Bool) :=
  Option.bind (M.s_l1In x1374 0 7) fun r1375 =>
  some r1375
def M.s_l8Find (x1389 : List Slot) (x1394 : Int) : Option (Int) :=
  Option.bind (whileM (σ := Int) (ρ := (Unit) ⊕ (Int)) (fun s1425 =>
    bif decide (s1425 < (x1389.length : Int)) then (Option.bind (α := Bool) (Option.bind (gxIdx x1389 s1425) fun y1443 =>
    bif y1443.State != 0 then (Option.bind (gxIdx x1389 s1425) fun y1445 =>
    some (y1445.Irq == x1394))
    else some false) fun o1440 =>
    bif o1440 then some (.inr (.inr s1425))
    else some (.inl (w64 (s1425 + 1))))
    else some (.inr (.inl ()))) gxFuel 0) fun out1432 => Sum.elim (fun (o1435 : Unit) =>
  some (-1)) (fun r => some r) out1432
def M.s_l8Less (x1484 : Int) (x1485 : Int) (x1486 : Int) (x1487 : Int) : Option (Bool) :=
  Option.bind (α := Bool) (bif decide (x1484 < x1486) then some true
  else (bif x1484 == x1486 then some (decide (x1485 < x1487))
  else some false)) fun o1490 =>
  some o1490
def M.s_l8Good (x1797 : List Slot) : Option (Bool) :=
  Option.bind (whileM (σ := Int) (ρ := (Unit) ⊕ (Bool)) (fun s1958 =>
    bif decide (s1958 < (x1797.length : Int)) then (Option.bind (gxIdx x1797 s1958) fun y1970 =>
    Option.bind (α := Bool) (Option.bind (M.s_l1In y1970.State 0 3) fun r1994 =>
    bif !r1994 then some true
    else (Option.bind (M.s_l6Irq y1970.Irq) fun r1999 =>
    bif !r1999 then some true
    else (Option.bind (M.s_l6Prio y1970.Priority) fun r2004 =>
    some (!r2004)))) fun o1991 =>
    bif o1991 then some (.inr (.inr false))
    else (Option.bind (α := Bool) (bif y1970.State == 0 then (bif y1970.Irq != 0 then some true
    else (bif y1970.Priority != 0 then some true
    else (bif y1970.State != 0 then (Option.bind (M.s_l8Find x1797 y1970.Irq) fun r2033 =>
    some (r2033 != s1958))
    else some false)))
    else (bif y1970.State != 0 then (Option.bind (M.s_l8Find x1797 y1970.Irq) fun r2038 =>
    some (r2038 != s1958))
    else some false)) fun o2026 =>
    bif o2026 then some (.inr (.inr false))
    else some (.inl (w64 (s1958 + 1)))))
    else some (.inr (.inl ()))) gxFuel 0) fun out1965 => Sum.elim (fun (o1968 : Unit) =>
  some ((x1797.length : Int) == 4)) (fun r => some r) out1965
def M.s_l9Waiting (x1347 : List Slot) (x1352 : List Waiter) : Option (Bool) :=
  Option.bind (whileM (σ := Int) (ρ := (Unit) ⊕ (Bool)) (fun s1669 =>
    Option.bind (α := Bool) (bif decide (s1669 < (x1352.length : Int)) then some (decide (s1669 ≤ 8))
    else some false) fun o1681 =>
    bif o1681 then (Option.bind (gxIdx x1352 s1669) fun y1690 =>
    Option.bind (α := Bool) (Option.bind (M.s_l6Irq y1690.Irq) fun r1714 =>
    bif !r1714 then some true
    else (Option.bind (M.s_l6Prio y1690.Priority) fun r1719 =>
    bif !r1719 then some true
    else (Option.bind (M.s_l8Find x1347 y1690.Irq) fun r1724 =>
    some (decide (r1724 ≥ 0))))) fun o1711 =>
    bif o1711 then some (.inr (.inr false))
    else (Option.bind (α := Bool) (bif decide (s1669 > 0) then (Option.bind (gxIdx x1352 (w64 (s1669 - 1))) fun y1748 =>
    Option.bind (gxIdx x1352 (w64 (s1669 - 1))) fun y1749 =>
    Option.bind (M.s_l8Less y1748.Priority y1749.Irq y1690.Priority y1690.Irq) fun r1750 =>
    some (!r1750))
    else some false) fun o1744 =>
    bif o1744 then some (.inr (.inr false))
    else (Option.bind (whileM (σ := Int) (ρ := (Unit) ⊕ (Bool)) (fun s1773 =>
      bif decide (s1773 < s1669) then (Option.bind (gxIdx x1352 s1773) fun y1785 =>
      bif y1785.Irq == y1690.Irq then some (.inr (.inr false))
      else some (.inl (w64 (s1773 + 1))))
      else some (.inr (.inl ()))) gxFuel 0) fun out1780 => Sum.elim (fun (o1783 : Unit) =>
    some (.inl (w64 (s1669 + 1)))) (fun r => some (.inr (.inr r))) out1780)))
    else some (.inr (.inl ()))) gxFuel 0) fun out1676 => Sum.elim (fun (o1679 : Unit) =>
  Option.bind (α := Bool) (Option.bind (M.s_l8Good x1347) fun r2059 =>
  bif r2059 then some (decide ((x1352.length : Int) ≤ 8))
  else some false) fun o2056 =>
  some o2056) (fun r => some r) out1676
def M.s_l8Free (x2087 : List Slot) : Option (Int) :=
  Option.bind (whileM (σ := Int) (ρ := (Unit) ⊕ (Int)) (fun s2098 =>
    bif decide (s2098 < (x2087.length : Int)) then (Option.bind (gxIdx x2087 s2098) fun y2110 =>
    bif y2110.State == 0 then some (.inr (.inr s2098))
    else some (.inl (w64 (s2098 + 1))))
    else some (.inr (.inl ()))) gxFuel 0) fun out2105 => Sum.elim (fun (o2108 : Unit) =>
  some (-1)) (fun r => some r) out2105
def M.s_l8Best (x2121 : List Slot) (x2126 : Bool) : Option (Int) :=
  Option.bind (whileM (σ := Int × Int) (ρ := Int) (fun s2519 =>
    bif decide (s2519.2 < (x2121.length : Int)) then (Option.bind (α := Int) (Option.bind (gxIdx x2121 s2519.2) fun y2628 =>
    bif y2628.State != 1 then some s2519.1
    else (Option.bind (α := Bool) (bif decide (s2519.1 < 0) then some true
    else (bif x2126 then (Option.bind (gxIdx x2121 s2519.1) fun y2678 =>
    Option.bind (gxIdx x2121 s2519.1) fun y2679 =>
    Option.bind (M.s_l8Less y2628.Priority y2628.Irq y2678.Priority y2679.Irq) fun r2680 =>
    bif r2680 then some true
    else (bif !x2126 then (Option.bind (gxIdx x2121 s2519.1) fun y2688 =>
    Option.bind (gxIdx x2121 s2519.1) fun y2689 =>
    Option.bind (M.s_l8Less y2688.Priority y2689.Irq y2628.Priority y2628.Irq) fun r2690 =>
    some r2690)
    else some false))
    else (bif !x2126 then (Option.bind (gxIdx x2121 s2519.1) fun y2699 =>
    Option.bind (gxIdx x2121 s2519.1) fun y2700 =>
    Option.bind (M.s_l8Less y2699.Priority y2700.Irq y2628.Priority y2628.Irq) fun r2701 =>
    some r2701)
    else some false))) fun o2671 =>
    Option.bind (α := Int) (bif o2671 then some s2519.2
    else some s2519.1) fun o2714 =>
    some o2714)) fun o2625 =>
    some (.inl (o2625, w64 (s2519.2 + 1))))
    else some (.inr s2519.1)) gxFuel ((-1), 0)) fun out2526 =>
  some out2526
def M.s_l9Settled (x2073 : Queue) : Option (Bool) :=
  bif (x2073.Waiting.length : Int) == 0 then some true
  else (Option.bind (M.s_l8Free x2073.Slots) fun r2116 =>
  bif decide (r2116 ≥ 0) then some false
  else (Option.bind (M.s_l8Best x2073.Slots false) fun r2730 =>
  Option.bind (α := Bool) (bif decide (r2730 < 0) then some true
  else (Option.bind (gxIdx x2073.Slots r2730) fun y2753 =>
  Option.bind (gxIdx x2073.Slots r2730) fun y2754 =>
  Option.bind (gxIdx x2073.Waiting 0) fun y2755 =>
  Option.bind (gxIdx x2073.Waiting 0) fun y2756 =>
  Option.bind (M.s_l8Less y2753.Priority y2754.Irq y2755.Priority y2756.Irq) fun r2757 =>
  some r2757)) fun o2747 =>
  some o2747))
def M.s_l9Good (x1334 : Queue) : Option (Bool) :=
  Option.bind (α := Bool) (Option.bind (M.s_l9Waiting x1334.Slots x1334.Waiting) fun r2774 =>
  bif r2774 then (Option.bind (M.s_l9Settled x1334) fun r2779 =>
  some r2779)
  else some false) fun o2771 =>
  some o2771
def M.s_l1Put (x2841 : List Int) (x2847 : Int) : Option ((List Int)) :=
  Option.bind (whileM (σ := Int) (ρ := Int) (fun s2877 =>
    Option.bind (α := Bool) (bif decide (s2877 < (x2841.length : Int)) then (Option.bind (gxIdx x2841 s2877) fun y2894 =>
    some (decide (y2894 < x2847)))
    else some false) fun o2890 =>
    bif o2890 then some (.inl (w64 (s2877 + 1)))
    else some (.inr s2877)) gxFuel 0) fun out2884 =>
  Option.bind (α := Bool) (bif decide (out2884 < (x2841.length : Int)) then (Option.bind (gxIdx x2841 out2884) fun y2910 =>
  some (y2910 == x2847))
  else some false) fun o2906 =>
  bif o2906 then some x2841
  else (Option.bind (gxSlice x2841 0 out2884) fun ys2923 =>
  Option.bind (gxApp 8 ([] : List Int) ys2923) fun ap2925 =>
  Option.bind (gxApp 8 ap2925 [x2847]) fun ap2936 =>
  Option.bind (gxSlice x2841 out2884 (x2841.length : Int)) fun ys2942 =>
  Option.bind (gxApp 8 ap2936 ys2942) fun ap2991 =>
  some ap2991)
def M.s_l8Active (x2808 : List Slot) : Option ((List Int)) :=
  Option.bind (whileM (σ := List Int × Int) (ρ := List Int) (fun s3084 =>
    bif decide (s3084.2 < (x2808.length : Int)) then (Option.bind (α := Bool) (Option.bind (gxIdx x2808 s3084.2) fun y3112 =>
    bif y3112.State == 2 then some true
    else (Option.bind (gxIdx x2808 s3084.2) fun y3114 =>
    some (y3114.State == 3))) fun o3109 =>
    Option.bind (α := List Int) (bif o3109 then (Option.bind (gxIdx x2808 s3084.2) fun y3139 =>
    Option.bind (M.s_l1Put s3084.1 y3139.Irq) fun r3140 =>
    some r3140)
    else some s3084.1) fun o3130 =>
    some (.inl (o3130, w64 (s3084.2 + 1))))
    else some (.inr s3084.1)) gxFuel (([] : List Int), 0)) fun out3091 =>
  some out3091
def M.s_l1Has (x3168 : List Int) (x3173 : Int) : Option (Bool) :=
  Option.bind (whileM (σ := Int) (ρ := (Unit) ⊕ (Bool)) (fun s3180 =>
    bif decide (s3180 < (x3168.length : Int)) then (Option.bind (gxIdx x3168 s3180) fun y3192 =>
    bif y3192 == x3173 then some (.inr (.inr true))
    else some (.inl (w64 (s3180 + 1))))
    else some (.inr (.inl ()))) gxFuel 0) fun out3187 => Sum.elim (fun (o3190 : Unit) =>
  some false) (fun r => some r) out3187
def M.s_l10Level (x3241 : Queue) (x3250 : Int) : Option (Int) :=
  Option.bind (M.s_l8Find x3241.Slots x3250) fun r3255 =>
  Option.bind (gxIdx x3241.Slots r3255) fun y3259 =>
  some y3259.Priority
def M.s_l10Good (x1312 : Interface) : Option (Bool) :=
  Option.bind (α := Bool) (Option.bind (M.s_l1In x1312.Mask 0 16) fun r2794 =>
  bif !r2794 then some true
  else (Option.bind (M.s_l9Good (⟨x1312.Queue.Slots, x1312.Queue.Waiting⟩ : Queue)) fun r2799 =>
  some (!r2799))) fun o2791 =>
  bif o2791 then some false
  else (Option.bind (M.s_l8Active x1312.Queue.Slots) fun r3157 =>
  Option.bind (whileM (σ := Int) (ρ := (Unit) ⊕ (Bool)) (fun s3379 =>
    bif decide (s3379 < (x1312.Stack.length : Int)) then (Option.bind (α := Bool) (Option.bind (gxIdx x1312.Stack s3379) fun y3411 =>
    Option.bind (M.s_l1Has r3157 y3411) fun r3412 =>
    bif !r3412 then some true
    else (Option.bind (gxSlice x1312.Stack 0 s3379) fun ys3419 =>
    Option.bind (gxIdx x1312.Stack s3379) fun y3421 =>
    Option.bind (M.s_l1Has ys3419 y3421) fun r3422 =>
    some r3422)) fun o3408 =>
    bif o3408 then some (.inr (.inr false))
    else (Option.bind (α := Bool) (bif decide (s3379 > 0) then (Option.bind (gxIdx x1312.Stack (w64 (s3379 - 1))) fun y3452 =>
    Option.bind (M.s_l10Level (⟨x1312.Queue.Slots, x1312.Queue.Waiting⟩ : Queue) y3452) fun r3453 =>
    Option.bind (gxIdx x1312.Stack s3379) fun y3457 =>
    Option.bind (M.s_l10Level (⟨x1312.Queue.Slots, x1312.Queue.Waiting⟩ : Queue) y3457) fun r3458 =>
    some (decide (r3453 ≤ r3458)))
    else some false) fun o3448 =>
    bif o3448 then some (.inr (.inr false))
    else some (.inl (w64 (s3379 + 1)))))
    else some (.inr (.inl ()))) gxFuel 0) fun out3386 => Sum.elim (fun (o3389 : Unit) =>
  some ((x1312.Stack.length : Int) == (r3157.length : Int))) (fun r => some r) out3386)
def M.s_l21Queue (x3488 : List Route) (x3493 : Queue) (x3502 : Int) : Option (Bool) :=
  Option.bind (whileM (σ := Int) (ρ := (Unit) ⊕ (Bool)) (fun s3591 =>
    bif decide (s3591 < (x3493.Slots.length : Int)) then (Option.bind (gxIdx x3493.Slots s3591) fun y3603 =>
    Option.bind (α := Bool) (bif y3603.State == 3 then some true
    else (bif y3603.State != 0 then (Option.bind (gxIdx x3488 y3603.Irq) fun y3630 =>
    bif y3630.Target != x3502 then some true
    else (Option.bind (gxIdx x3488 y3603.Irq) fun y3634 =>
    some (y3634.Priority != y3603.Priority)))
    else some false)) fun o3623 =>
    bif o3623 then some (.inr (.inr false))
    else some (.inl (w64 (s3591 + 1))))
    else some (.inr (.inl ()))) gxFuel 0) fun out3598 => Sum.elim (fun (o3601 : Unit) =>
  Option.bind (whileM (σ := Int) (ρ := (Unit) ⊕ (Bool)) (fun s3708 =>
    bif decide (s3708 < (x3493.Waiting.length : Int)) then (Option.bind (gxIdx x3493.Waiting s3708) fun y3720 =>
    Option.bind (α := Bool) (Option.bind (gxIdx x3488 y3720.Irq) fun y3737 =>
    bif y3737.Target != x3502 then some true
    else (Option.bind (gxIdx x3488 y3720.Irq) fun y3741 =>
    some (y3741.Priority != y3720.Priority))) fun o3734 =>
    bif o3734 then some (.inr (.inr false))
    else some (.inl (w64 (s3708 + 1))))
    else some (.inr (.inl ()))) gxFuel 0) fun out3715 => Sum.elim (fun (o3718 : Unit) =>
  some true) (fun r => some r) out3715) (fun r => some r) out3598
def M.s_l21Good (x1112 : Machine) : Option (Bool) :=
  Option.bind (α := Bool) (Option.bind (M.s_l21Routes x1112.Routes (x1112.Cpus.length : Int)) fun r1290 =>
  bif !r1290 then some true
  else (bif (x1112.Enabled.length : Int) != 8 then some true
  else some ((x1112.Raised.length : Int) != 8))) fun o1287 =>
  bif o1287 then some false
  else (Option.bind (whileM (σ := Int) (ρ := (Unit) ⊕ (Bool)) (fun s3863 =>
    bif decide (s3863 < (x1112.Cpus.length : Int)) then (Option.bind (α := Bool) (Option.bind (gxIdx x1112.Cpus s3863) fun y3907 =>
    Option.bind (M.s_l10Good (⟨y3907.Mask, y3907.Stack, (⟨y3907.Queue.Slots, y3907.Queue.Waiting⟩ : Queue)⟩ : Interface)) fun r3917 =>
    bif !r3917 then some true
    else (Option.bind (gxIdx x1112.Cpus s3863) fun y3924 =>
    Option.bind (M.s_l21Queue x1112.Routes (⟨y3924.Queue.Slots, y3924.Queue.Waiting⟩ : Queue) s3863) fun r3930 =>
    some (!r3930))) fun o3904 =>
    bif o3904 then some (.inr (.inr false))
    else some (.inl (w64 (s3863 + 1))))
    else some (.inr (.inl ()))) gxFuel 0) fun out3870 => Sum.elim (fun (o3873 : Unit) =>
  some true) (fun r => some r) out3870)
def M.i_inside (x4019 : Int) (x4020 : Int) (x4021 : Int) : Option (Bool) :=
  Option.bind (α := Bool) (bif decide (x4019 ≥ x4020) then some (decide (x4019 ≤ x4021))
  else some false) fun o4023 =>
  some o4023
def M.i_isPriority (x4066 : Int) : Option (Bool) :=
  Option.bind (M.i_inside x4066 0 15) fun r4067 =>
  some r4067
def M.i_areRoutes_1 (x4057 : Route) (x4058 : Int) : Option (Bool) :=
  Option.bind (α := Bool) (Option.bind (M.i_isPriority x4057.Priority) fun r4083 =>
  bif !r4083 then some true
  else (Option.bind (M.i_inside x4057.Target 0 (w64 (x4058 - 1))) fun r4088 =>
  some (!r4088))) fun o4080 =>
  some o4080
def M.slices_IndexFunc_159__i_areRoutes_1 (x4046 : List Route) (x4051 : Int) : Option (Int) :=
  Option.bind (whileM (σ := Int) (ρ := (Unit) ⊕ (Int)) (fun s4108 =>
    bif decide (s4108 < (x4046.length : Int)) then (Option.bind (gxIdx x4046 s4108) fun y4120 =>
    Option.bind (M.i_areRoutes_1 y4120 x4051) fun r4121 =>
    bif r4121 then some (.inr (.inr s4108))
    else some (.inl (w64 (s4108 + 1))))
    else some (.inr (.inl ()))) gxFuel 0) fun out4115 => Sum.elim (fun (o4118 : Unit) =>
  some (-1)) (fun r => some r) out4115
def M.slices_ContainsFunc_109__i_areRoutes_1 (x4037 : List Route) (x4042 : Int) : Option (Bool) :=
  Option.bind (M.slices_IndexFunc_159__i_areRoutes_1 x4037 x4042) fun r4130 =>
  some (decide (r4130 ≥ 0))
def M.i_areRoutes (x4009 : List Route) (x4014 : Int) : Option (Bool) :=
  Option.bind (α := Bool) (Option.bind (M.i_inside x4014 1 2) fun r4141 =>
  bif r4141 then (bif (x4009.length : Int) == 8 then (Option.bind (M.slices_ContainsFunc_109__i_areRoutes_1 x4009 x4014) fun r4147 =>
  some (!r4147))
  else some false)
  else some false) fun o4138 =>
  some o4138
def M.i_isMask (x4212 : Int) : Option (Bool) :=
  Option.bind (M.i_inside x4212 0 16) fun r4213 =>
  some r4213
def M.i_isIrq (x4268 : Int) : Option (Bool) :=
  Option.bind (M.i_inside x4268 0 7) fun r4269 =>
  some r4269
def M.i_findSlot_1 (x4310 : Slot) (x4311 : Int) : Option (Bool) :=
  Option.bind (α := Bool) (bif x4310.State != 0 then some (x4310.Irq == x4311)
  else some false) fun o4320 =>
  some o4320
def M.slices_IndexFunc_210__i_findSlot_1 (x4299 : List Slot) (x4304 : Int) : Option (Int) :=
  Option.bind (whileM (σ := Int) (ρ := (Unit) ⊕ (Int)) (fun s4340 =>
    bif decide (s4340 < (x4299.length : Int)) then (Option.bind (gxIdx x4299 s4340) fun y4352 =>
    Option.bind (M.i_findSlot_1 y4352 x4304) fun r4353 =>
    bif r4353 then some (.inr (.inr s4340))
    else some (.inl (w64 (s4340 + 1))))
    else some (.inr (.inl ()))) gxFuel 0) fun out4347 => Sum.elim (fun (o4350 : Unit) =>
  some (-1)) (fun r => some r) out4347
def M.i_findSlot (x4289 : List Slot) (x4294 : Int) : Option (Int) :=
  Option.bind (M.slices_IndexFunc_210__i_findSlot_1 x4289 x4294) fun r4362 =>
  some r4362
def M.i_AreSlots (x4245 : List Slot) : Option (Bool) :=
  bif (x4245.length : Int) != 4 then some false
  else (Option.bind (whileM (σ := Int) (ρ := (Unit) ⊕ (Bool)) (fun s4485 =>
    bif decide (s4485 < (x4245.length : Int)) then (Option.bind (gxIdx x4245 s4485) fun y4497 =>
    bif y4497.State == 0 then (bif !((y4497.State == 0) && ((y4497.Irq == 0) && ((y4497.Priority == 0) && true))) then some (.inr (.inr false))
    else some (.inl (w64 (s4485 + 1))))
    else (Option.bind (α := Bool) (Option.bind (M.i_inside y4497.State 1 3) fun r4538 =>
    bif !r4538 then some true
    else (Option.bind (M.i_isIrq y4497.Irq) fun r4545 =>
    bif !r4545 then some true
    else (Option.bind (M.i_isPriority y4497.Priority) fun r4552 =>
    bif !r4552 then some true
    else (Option.bind (gxSlice x4245 0 s4485) fun ys4559 =>
    Option.bind (M.i_findSlot ys4559 y4497.Irq) fun r4561 =>
    some (decide (r4561 ≥ 0)))))) fun o4535 =>
    bif o4535 then some (.inr (.inr false))
    else some (.inl (w64 (s4485 + 1)))))
    else some (.inr (.inl ()))) gxFuel 0) fun out4492 => Sum.elim (fun (o4495 : Unit) =>
  some true) (fun r => some r) out4492)
def M.i_waiterIndex_1 (x4633 : Waiter) (x4634 : Int) : Option (Bool) :=
  some (x4633.Irq == x4634)
def M.slices_IndexFunc_166__i_waiterIndex_1 (x4622 : List Waiter) (x4627 : Int) : Option (Int) :=
  Option.bind (whileM (σ := Int) (ρ := (Unit) ⊕ (Int)) (fun s4654 =>
    bif decide (s4654 < (x4622.length : Int)) then (Option.bind (gxIdx x4622 s4654) fun y4666 =>
    Option.bind (M.i_waiterIndex_1 y4666 x4627) fun r4667 =>
    bif r4667 then some (.inr (.inr s4654))
    else some (.inl (w64 (s4654 + 1))))
    else some (.inr (.inl ()))) gxFuel 0) fun out4661 => Sum.elim (fun (o4664 : Unit) =>
  some (-1)) (fun r => some r) out4661
def M.i_waiterIndex (x4612 : List Waiter) (x4617 : Int) : Option (Int) :=
  Option.bind (M.slices_IndexFunc_166__i_waiterIndex_1 x4612 x4617) fun r4676 =>
  some r4676
def M.cmp_isNaN_222 (x4703 : Int) : Option (Bool) :=
  some (x4703 != x4703)
def M.cmp_Compare_170 (x4701 : Int) (x4702 : Int) : Option (Int) :=
  Option.bind (M.cmp_isNaN_222 x4701) fun r4704 =>
  Option.bind (M.cmp_isNaN_222 x4702) fun r4708 =>
  bif r4704 then (bif r4708 then some 0
  else some (-1))
  else (bif r4708 then some 1
  else (bif decide (x4701 < x4702) then some (-1)
  else (bif decide (x4701 > x4702) then some 1
  else some 0)))
def M.cmp_Or_169 (x4769 : List Int) : Option (Int) :=
  Option.bind (whileM (σ := Int) (ρ := (Unit) ⊕ (Int)) (fun s4780 =>
    bif decide (s4780 < (x4769.length : Int)) then (Option.bind (gxIdx x4769 s4780) fun y4792 =>
    bif y4792 != 0 then some (.inr (.inr y4792))
    else some (.inl (w64 (s4780 + 1))))
    else some (.inr (.inl ()))) gxFuel 0) fun out4787 => Sum.elim (fun (o4790 : Unit) =>
  some 0) (fun r => some r) out4787
def M.i_compareUrgency (x4689 : Waiter) (x4690 : Waiter) : Option (Int) :=
  Option.bind (M.cmp_Compare_170 x4689.Priority x4690.Priority) fun r4717 =>
  Option.bind (M.cmp_Compare_170 x4689.Irq x4690.Irq) fun r4758 =>
  Option.bind (M.cmp_Or_169 [r4717, r4758]) fun r4798 =>
  some r4798
def M.i_areParts (x4235 : List Slot) (x4240 : List Waiter) : Option (Bool) :=
  Option.bind (M.i_AreSlots x4235) fun r4576 =>
  bif !r4576 then some false
  else (Option.bind (whileM (σ := Int) (ρ := (Unit) ⊕ (Bool)) (fun s4954 =>
    bif decide (s4954 < (x4240.length : Int)) then (Option.bind (gxIdx x4240 s4954) fun y4966 =>
    Option.bind (α := Bool) (Option.bind (M.i_isIrq y4966.Irq) fun r5016 =>
    bif !r5016 then some true
    else (Option.bind (M.i_isPriority y4966.Priority) fun r5023 =>
    bif !r5023 then some true
    else (Option.bind (M.i_findSlot x4235 y4966.Irq) fun r5030 =>
    bif decide (r5030 ≥ 0) then some true
    else (Option.bind (gxSlice x4240 0 s4954) fun ys5037 =>
    Option.bind (M.i_waiterIndex ys5037 y4966.Irq) fun r5039 =>
    bif decide (r5039 ≥ 0) then some true
    else (bif decide (s4954 > 0) then (Option.bind (gxIdx x4240 (w64 (s4954 - 1))) fun y5047 =>
    Option.bind (M.i_compareUrgency y5047 y4966) fun r5048 =>
    some (decide (r5048 ≥ 0)))
    else some false))))) fun o5013 =>
    bif o5013 then some (.inr (.inr false))
    else some (.inl (w64 (s4954 + 1))))
    else some (.inr (.inl ()))) gxFuel 0) fun out4961 => Sum.elim (fun (o4964 : Unit) =>
  some true) (fun r => some r) out4961)
def M.i_waiterOf (x5102 : Slot) : Option (Waiter) :=
  some (⟨x5102.Irq, x5102.Priority⟩ : Waiter)
def M.i_pendingSlot (x5084 : List Slot) (x5089 : Bool) : Option (Int) :=
  Option.bind (whileM (σ := Int × Int) (ρ := Int) (fun s5233 =>
    bif decide (s5233.2 < (x5084.length : Int)) then (Option.bind (gxIdx x5084 s5233.2) fun y5245 =>
    Option.bind (α := Bool) (bif y5245.State == 1 then (bif decide (s5233.1 < 0) then some true
    else (Option.bind (M.i_waiterOf y5245) fun r5280 =>
    Option.bind (gxIdx x5084 s5233.1) fun y5284 =>
    Option.bind (M.i_waiterOf y5284) fun r5285 =>
    Option.bind (M.i_compareUrgency r5280 r5285) fun r5289 =>
    some ((decide (r5289 < 0)) == x5089)))
    else some false) fun o5273 =>
    Option.bind (α := Int) (bif o5273 then some s5233.2
    else some s5233.1) fun o5302 =>
    some (.inl (o5302, w64 (s5233.2 + 1))))
    else some (.inr s5233.1)) gxFuel ((-1), 0)) fun out5240 =>
  some out5240
def M.i_firstEmpty_1 (x5330 : Slot) : Option (Bool) :=
  some (x5330.State == 0)
def M.slices_IndexFunc_210__i_firstEmpty_1 (x5323 : List Slot) : Option (Int) :=
  Option.bind (whileM (σ := Int) (ρ := (Unit) ⊕ (Int)) (fun s5347 =>
    bif decide (s5347 < (x5323.length : Int)) then (Option.bind (gxIdx x5323 s5347) fun y5359 =>
    Option.bind (M.i_firstEmpty_1 y5359) fun r5360 =>
    bif r5360 then some (.inr (.inr s5347))
    else some (.inl (w64 (s5347 + 1))))
    else some (.inr (.inl ()))) gxFuel 0) fun out5354 => Sum.elim (fun (o5357 : Unit) =>
  some (-1)) (fun r => some r) out5354
def M.i_firstEmpty (x5318 : List Slot) : Option (Int) :=
  Option.bind (M.slices_IndexFunc_210__i_firstEmpty_1 x5318) fun r5369 =>
  some r5369
def M.i_isSettled (x5070 : Queue) : Option (Bool) :=
  bif (x5070.Waiting.length : Int) == 0 then some true
  else (Option.bind (M.i_pendingSlot x5070.Slots false) fun r5314 =>
  Option.bind (α := Bool) (Option.bind (M.i_firstEmpty x5070.Slots) fun r5398 =>
  bif decide (r5398 < 0) then (bif decide (r5314 < 0) then some true
  else (Option.bind (gxIdx x5070.Waiting 0) fun y5406 =>
  Option.bind (gxIdx x5070.Slots r5314) fun y5407 =>
  Option.bind (M.i_waiterOf y5407) fun r5408 =>
  Option.bind (M.i_compareUrgency y5406 r5408) fun r5412 =>
  some (decide (r5412 > 0))))
  else some false) fun o5395 =>
  some o5395)
def M.i_IsQueue (x4222 : Queue) : Option (Bool) :=
  Option.bind (α := Bool) (Option.bind (M.i_areParts x4222.Slots x4222.Waiting) fun r5431 =>
  bif r5431 then (Option.bind (M.i_isSettled x4222) fun r5436 =>
  some r5436)
  else some false) fun o5428 =>
  some o5428
def M.i_copyInts (x5465 : List Int) : Option ((List Int)) :=
  Option.bind (gxApp 8 ([] : List Int) x5465) fun ap5482 =>
  some ap5482
def M.slices_Sort_114 (x5504 : List Int) : Option ((List Int)) :=
  bif decide (x5504.length < 4611686018427387904) then some (gxSortI x5504)
  else none
def M.i_isActive (x5543 : Slot) : Option (Bool) :=
  Option.bind (α := Bool) (bif x5543.State == 2 then some true
  else some (x5543.State == 3)) fun o5549 =>
  some o5549
def M.i_activeIrqs (x5518 : List Slot) : Option ((List Int)) :=
  Option.bind (whileM (σ := List Int × Int) (ρ := List Int) (fun s5666 =>
    bif decide (s5666.2 < (x5518.length : Int)) then (Option.bind (gxIdx x5518 s5666.2) fun y5688 =>
    Option.bind (M.i_isActive y5688) fun r5695 =>
    Option.bind (α := List Int) (bif r5695 then (Option.bind (gxApp 8 s5666.1 [y5688.Irq]) fun ap5731 =>
    some ap5731)
    else some s5666.1) fun o5715 =>
    some (.inl (o5715, w64 (s5666.2 + 1))))
    else some (.inr s5666.1)) gxFuel (([] : List Int), 0)) fun out5673 =>
  Option.bind (M.slices_Sort_114 out5673) fun r5747 =>
  some r5747
def M.slices_Equal_115 (x5763 : List Int) (x5768 : List Int) : Option (Bool) :=
  bif (x5763.length : Int) != (x5768.length : Int) then some false
  else (Option.bind (whileM (σ := Int) (ρ := (Unit) ⊕ (Bool)) (fun s5786 =>
    bif decide (s5786 < (x5763.length : Int)) then (Option.bind (gxIdx x5763 s5786) fun y5798 =>
    Option.bind (gxIdx x5768 s5786) fun y5799 =>
    bif y5798 != y5799 then some (.inr (.inr false))
    else some (.inl (w64 (s5786 + 1))))
    else some (.inr (.inl ()))) gxFuel 0) fun out5793 => Sum.elim (fun (o5796 : Unit) =>
  some true) (fun r => some r) out5793)
def M.i_priorityIn (x5814 : List Slot) (x5819 : Int) : Option (Int) :=
  Option.bind (M.i_findSlot x5814 x5819) fun r5820 =>
  Option.bind (gxIdx x5814 r5820) fun y5824 =>
  some y5824.Priority
def M.i_IsInterface (x4195 : Interface) : Option (Bool) :=
  Option.bind (α := Bool) (Option.bind (M.i_isMask x4195.Mask) fun r5451 =>
  bif !r5451 then some true
  else (Option.bind (M.i_IsQueue (⟨x4195.Queue.Slots, x4195.Queue.Waiting⟩ : Queue)) fun r5456 =>
  some (!r5456))) fun o5448 =>
  bif o5448 then some false
  else (Option.bind (M.i_copyInts x4195.Stack) fun r5490 =>
  Option.bind (M.slices_Sort_114 r5490) fun r5511 =>
  Option.bind (M.i_activeIrqs x4195.Queue.Slots) fun r5754 =>
  Option.bind (M.slices_Equal_115 r5511 r5754) fun r5807 =>
  bif !r5807 then some false
  else (Option.bind (whileM (σ := Int) (ρ := (Unit) ⊕ (Bool)) (fun s5851 =>
    bif decide (s5851 < (x4195.Stack.length : Int)) then (Option.bind (gxIdx x4195.Stack s5851) fun y5863 =>
    Option.bind (M.i_priorityIn x4195.Queue.Slots y5863) fun r5864 =>
    Option.bind (gxIdx x4195.Stack (w64 (s5851 - 1))) fun y5868 =>
    Option.bind (M.i_priorityIn x4195.Queue.Slots y5868) fun r5869 =>
    bif decide (r5864 ≥ r5869) then some (.inr (.inr false))
    else some (.inl (w64 (s5851 + 1))))
    else some (.inr (.inl ()))) gxFuel 1) fun out5858 => Sum.elim (fun (o5861 : Unit) =>
  some true) (fun r => some r) out5858))
def M.slices_Clone_118 (x5916 : List Waiter) : Option ((List Waiter)) :=
  Option.bind (gxApp 16 ([] : List Waiter) x5916) fun ap5937 =>
  some ap5937
def M.i_fitsRoutes_1 (x6203 : Waiter) (x6204 : List Route) (x6212 : Int) : Option (Bool) :=
  Option.bind (gxIdx x6204 x6203.Irq) fun y6220 =>
  some (!((y6220.Priority == x6203.Priority) && ((y6220.Target == x6212) && true)))
def M.slices_IndexFunc_166__i_fitsRoutes_1 (x6184 : List Waiter) (x6189 : List Route) (x6197 : Int) : Option (Int) :=
  Option.bind (whileM (σ := Int) (ρ := (Unit) ⊕ (Int)) (fun s6235 =>
    bif decide (s6235 < (x6184.length : Int)) then (Option.bind (gxIdx x6184 s6235) fun y6247 =>
    Option.bind (M.i_fitsRoutes_1 y6247 x6189 x6197) fun r6248 =>
    bif r6248 then some (.inr (.inr s6235))
    else some (.inl (w64 (s6235 + 1))))
    else some (.inr (.inl ()))) gxFuel 0) fun out6242 => Sum.elim (fun (o6245 : Unit) =>
  some (-1)) (fun r => some r) out6242
def M.slices_ContainsFunc_120__i_fitsRoutes_1 (x6167 : List Waiter) (x6172 : List Route) (x6180 : Int) : Option (Bool) :=
  Option.bind (M.slices_IndexFunc_166__i_fitsRoutes_1 x6167 x6172 x6180) fun r6257 =>
  some (decide (r6257 ≥ 0))
def M.i_fitsRoutes (x5885 : List Route) (x5890 : Int) (x5891 : Interface) : Option (Bool) :=
  Option.bind (M.slices_Clone_118 x5891.Queue.Waiting) fun r5945 =>
  Option.bind (whileM (σ := List Waiter × Int) (ρ := (List Waiter) ⊕ (Bool)) (fun s6081 =>
    bif decide (s6081.2 < (x5891.Queue.Slots.length : Int)) then (Option.bind (gxIdx x5891.Queue.Slots s6081.2) fun y6103 =>
    bif y6103.State == 3 then some (.inr (.inr false))
    else (Option.bind (α := List Waiter) (bif y6103.State != 0 then (Option.bind (M.i_waiterOf y6103) fun r6140 =>
    Option.bind (gxApp 16 s6081.1 [r6140]) fun ap6151 =>
    some ap6151)
    else some s6081.1) fun o6131 =>
    some (.inl (o6131, w64 (s6081.2 + 1)))))
    else some (.inr (.inl s6081.1))) gxFuel (r5945, 0)) fun out6088 => Sum.elim (fun (o6096 : List Waiter) =>
  Option.bind (M.slices_ContainsFunc_120__i_fitsRoutes_1 o6096 x5885 x5890) fun r6261 =>
  some (!r6261)) (fun r => some r) out6088
def M.i_IsMachine (x3988 : Machine) : Option (Bool) :=
  Option.bind (α := Bool) (Option.bind (M.i_areRoutes x3988.Routes (x3988.Cpus.length : Int)) fun r4164 =>
  bif !r4164 then some true
  else (bif (x3988.Enabled.length : Int) != 8 then some true
  else some ((x3988.Raised.length : Int) != 8))) fun o4161 =>
  bif o4161 then some false
  else (Option.bind (whileM (σ := Int) (ρ := (Unit) ⊕ (Bool)) (fun s6332 =>
    bif decide (s6332 < (x3988.Cpus.length : Int)) then (Option.bind (gxIdx x3988.Cpus s6332) fun y6344 =>
    Option.bind (α := Bool) (Option.bind (M.i_IsInterface (⟨y6344.Mask, y6344.Stack, (⟨y6344.Queue.Slots, y6344.Queue.Waiting⟩ : Queue)⟩ : Interface)) fun r6375 =>
    bif !r6375 then some true
    else (Option.bind (M.i_fitsRoutes x3988.Routes s6332 (⟨y6344.Mask, y6344.Stack, (⟨y6344.Queue.Slots, y6344.Queue.Waiting⟩ : Queue)⟩ : Interface)) fun r6380 =>
    some (!r6380))) fun o6372 =>
    bif o6372 then some (.inr (.inr false))
    else some (.inl (w64 (s6332 + 1))))
    else some (.inr (.inl ()))) gxFuel 0) fun out6339 => Sum.elim (fun (o6342 : Unit) =>
  some true) (fun r => some r) out6339)
def M.l_eqRoute (x6494 : Route) (x6495 : Route) : Option (Bool) :=
  bif x6494.Priority != x6495.Priority then some false
  else (bif x6494.Target != x6495.Target then some false
  else some true)
def M.l_eqRouteS (x6480 : List Route) (x6485 : List Route) : Option (Bool) :=
  bif (x6480.length : Int) != (x6485.length : Int) then some false
  else (Option.bind (whileM (σ := Int) (ρ := (Unit) ⊕ (Bool)) (fun s6523 =>
    bif decide (s6523 < (x6480.length : Int)) then (Option.bind (gxIdx x6480 s6523) fun y6535 =>
    Option.bind (gxIdx x6485 s6523) fun y6536 =>
    Option.bind (M.l_eqRoute y6535 y6536) fun r6537 =>
    bif !r6537 then some (.inr (.inr false))
    else some (.inl (w64 (s6523 + 1))))
    else some (.inr (.inl ()))) gxFuel 0) fun out6530 => Sum.elim (fun (o6533 : Unit) =>
  some true) (fun r => some r) out6530)
def M.l_eqBoolS (x6553 : List Bool) (x6558 : List Bool) : Option (Bool) :=
  bif (x6553.length : Int) != (x6558.length : Int) then some false
  else (Option.bind (whileM (σ := Int) (ρ := (Unit) ⊕ (Bool)) (fun s6576 =>
    bif decide (s6576 < (x6553.length : Int)) then (Option.bind (gxIdx x6553 s6576) fun y6588 =>
    Option.bind (gxIdx x6558 s6576) fun y6589 =>
    bif !(y6588 == y6589) then some (.inr (.inr false))
    else some (.inl (w64 (s6576 + 1))))
    else some (.inr (.inl ()))) gxFuel 0) fun out6583 => Sum.elim (fun (o6586 : Unit) =>
  some true) (fun r => some r) out6583)
def M.l_eqIntS (x6674 : List Int) (x6679 : List Int) : Option (Bool) :=
  bif (x6674.length : Int) != (x6679.length : Int) then some false
  else (Option.bind (whileM (σ := Int) (ρ := (Unit) ⊕ (Bool)) (fun s6697 =>
    bif decide (s6697 < (x6674.length : Int)) then (Option.bind (gxIdx x6674 s6697) fun y6709 =>
    Option.bind (gxIdx x6679 s6697) fun y6710 =>
    bif y6709 != y6710 then some (.inr (.inr false))
    else some (.inl (w64 (s6697 + 1))))
    else some (.inr (.inl ()))) gxFuel 0) fun out6704 => Sum.elim (fun (o6707 : Unit) =>
  some true) (fun r => some r) out6704)
def M.l_eqSlot (x6763 : Slot) (x6764 : Slot) : Option (Bool) :=
  bif x6763.State != x6764.State then some false
  else (bif x6763.Irq != x6764.Irq then some false
  else (bif x6763.Priority != x6764.Priority then some false
  else some true))
def M.l_eqSlotS (x6749 : List Slot) (x6754 : List Slot) : Option (Bool) :=
  bif (x6749.length : Int) != (x6754.length : Int) then some false
  else (Option.bind (whileM (σ := Int) (ρ := (Unit) ⊕ (Bool)) (fun s6793 =>
    bif decide (s6793 < (x6749.length : Int)) then (Option.bind (gxIdx x6749 s6793) fun y6805 =>
    Option.bind (gxIdx x6754 s6793) fun y6806 =>
    Option.bind (M.l_eqSlot y6805 y6806) fun r6807 =>
    bif !r6807 then some (.inr (.inr false))
    else some (.inl (w64 (s6793 + 1))))
    else some (.inr (.inl ()))) gxFuel 0) fun out6800 => Sum.elim (fun (o6803 : Unit) =>
  some true) (fun r => some r) out6800)
def M.l_eqWaiter (x6837 : Waiter) (x6838 : Waiter) : Option (Bool) :=
  bif x6837.Irq != x6838.Irq then some false
  else (bif x6837.Priority != x6838.Priority then some false
  else some true)
def M.l_eqWaiterS (x6823 : List Waiter) (x6828 : List Waiter) : Option (Bool) :=
  bif (x6823.length : Int) != (x6828.length : Int) then some false
  else (Option.bind (whileM (σ := Int) (ρ := (Unit) ⊕ (Bool)) (fun s6866 =>
    bif decide (s6866 < (x6823.length : Int)) then (Option.bind (gxIdx x6823 s6866) fun y6878 =>
    Option.bind (gxIdx x6828 s6866) fun y6879 =>
    Option.bind (M.l_eqWaiter y6878 y6879) fun r6880 =>
    bif !r6880 then some (.inr (.inr false))
    else some (.inl (w64 (s6866 + 1))))
    else some (.inr (.inl ()))) gxFuel 0) fun out6873 => Sum.elim (fun (o6876 : Unit) =>
  some true) (fun r => some r) out6873)
def M.l_eqQueue (x6723 : Queue) (x6732 : Queue) : Option (Bool) :=
  Option.bind (M.l_eqSlotS x6723.Slots x6732.Slots) fun r6818 =>
  bif !r6818 then some false
  else (Option.bind (M.l_eqWaiterS x6723.Waiting x6732.Waiting) fun r6891 =>
  bif !r6891 then some false
  else some true)
def M.l_eqInterface (x6639 : Interface) (x6652 : Interface) : Option (Bool) :=
  bif x6639.Mask != x6652.Mask then some false
  else (Option.bind (M.l_eqIntS x6639.Stack x6652.Stack) fun r6718 =>
  bif !r6718 then some false
  else (Option.bind (M.l_eqQueue (⟨x6639.Queue.Slots, x6639.Queue.Waiting⟩ : Queue) (⟨x6652.Queue.Slots, x6652.Queue.Waiting⟩ : Queue)) fun r6896 =>
  bif !r6896 then some false
  else some true))
def M.l_eqInterfaceS (x6607 : List Interface) (x6612 : List Interface) : Option (Bool) :=
  bif (x6607.length : Int) != (x6612.length : Int) then some false
  else (Option.bind (whileM (σ := Int) (ρ := (Unit) ⊕ (Bool)) (fun s6936 =>
    bif decide (s6936 < (x6607.length : Int)) then (Option.bind (gxIdx x6607 s6936) fun y6948 =>
    Option.bind (gxIdx x6612 s6936) fun y6958 =>
    Option.bind (M.l_eqInterface (⟨y6948.Mask, y6948.Stack, (⟨y6948.Queue.Slots, y6948.Queue.Waiting⟩ : Queue)⟩ : Interface) (⟨y6958.Mask, y6958.Stack, (⟨y6958.Queue.Slots, y6958.Queue.Waiting⟩ : Queue)⟩ : Interface)) fun r6968 =>
    bif !r6968 then some (.inr (.inr false))
    else some (.inl (w64 (s6936 + 1))))
    else some (.inr (.inl ()))) gxFuel 0) fun out6943 => Sum.elim (fun (o6946 : Unit) =>
  some true) (fun r => some r) out6943)
def M.l_eqMachine (x6438 : Machine) (x6455 : Machine) : Option (Bool) :=
  Option.bind (M.l_eqRouteS x6438.Routes x6455.Routes) fun r6548 =>
  bif !r6548 then some false
  else (Option.bind (M.l_eqBoolS x6438.Enabled x6455.Enabled) fun r6597 =>
  bif !r6597 then some false
  else (Option.bind (M.l_eqBoolS x6438.Raised x6455.Raised) fun r6602 =>
  bif !r6602 then some false
  else (Option.bind (M.l_eqInterfaceS x6438.Cpus x6455.Cpus) fun r6979 =>
  bif !r6979 then some false
  else some true)))
def M.s_l1Own (x7137 : List Int) : Option ((List Int)) :=
  Option.bind (gxApp 8 ([] : List Int) x7137) fun ap7154 =>
  some ap7154
def M.i_Machine_hasCpu (x7247 : Machine) (x7264 : Int) : Option (Bool) :=
  Option.bind (M.i_inside x7264 0 (w64 ((x7247.Cpus.length : Int) - 1))) fun r7269 =>
  some r7269
def M.l_markRouteS (x7418 : List Route) (x7424 : Int) : Option (Int × (List Route)) :=
  Option.bind (whileM (σ := Int × Int × List Route) (ρ := Int × List Route) (fun s7455 =>
    bif decide (s7455.2.1 < (s7455.2.2.length : Int)) then (Option.bind (gxIdx s7455.2.2 s7455.2.1) fun y7473 =>
    Option.bind (gxIdx (s7455.2.2.set s7455.2.1.toNat (⟨s7455.1, y7473.Target⟩ : Route)) s7455.2.1) fun y7479 =>
    some (.inl (w64 ((w64 (s7455.1 + 1)) + 1), w64 (s7455.2.1 + 1), ((s7455.2.2.set s7455.2.1.toNat (⟨s7455.1, y7473.Target⟩ : Route)).set s7455.2.1.toNat (⟨(⟨s7455.1, y7473.Target⟩ : Route).Priority, w64 (s7455.1 + 1)⟩ : Route)))))
    else some (.inr (s7455.1, s7455.2.2))) gxFuel (x7424, 0, x7418)) fun out7462 =>
  some (out7462.1, out7462.2)
def M.l_markBoolS (x7497 : List Bool) (x7503 : Int) : Option (Int × (List Bool)) :=
  Option.bind (whileM (σ := Int × Int × List Bool) (ρ := Int × List Bool) (fun s7520 =>
    bif decide (s7520.2.1 < (s7520.2.2.length : Int)) then (Option.bind (gxIdx s7520.2.2 s7520.2.1) fun y7538 =>
    some (.inl (w64 (s7520.1 + 1), w64 (s7520.2.1 + 1), (s7520.2.2.set s7520.2.1.toNat ((s7520.1.tmod 3) == 0)))))
    else some (.inr (s7520.1, s7520.2.2))) gxFuel (x7503, 0, x7497)) fun out7527 =>
  some (out7527.1, out7527.2)
def M.l_markIntS (x7600 : List Int) (x7606 : Int) : Option (Int × (List Int)) :=
  Option.bind (whileM (σ := Int × Int × List Int) (ρ := Int × List Int) (fun s7623 =>
    bif decide (s7623.2.1 < (s7623.2.2.length : Int)) then (Option.bind (gxIdx s7623.2.2 s7623.2.1) fun y7641 =>
    some (.inl (w64 (s7623.1 + 1), w64 (s7623.2.1 + 1), (s7623.2.2.set s7623.2.1.toNat s7623.1))))
    else some (.inr (s7623.1, s7623.2.2))) gxFuel (x7606, 0, x7600)) fun out7630 =>
  some (out7630.1, out7630.2)
def M.l_markSlotS (x7702 : List Slot) (x7708 : Int) : Option (Int × (List Slot)) :=
  Option.bind (whileM (σ := Int × Int × List Slot) (ρ := Int × List Slot) (fun s7751 =>
    bif decide (s7751.2.1 < (s7751.2.2.length : Int)) then (Option.bind (gxIdx s7751.2.2 s7751.2.1) fun y7769 =>
    Option.bind (gxIdx (s7751.2.2.set s7751.2.1.toNat (⟨s7751.1, y7769.Irq, y7769.Priority⟩ : Slot)) s7751.2.1) fun y7775 =>
    Option.bind (gxIdx ((s7751.2.2.set s7751.2.1.toNat (⟨s7751.1, y7769.Irq, y7769.Priority⟩ : Slot)).set s7751.2.1.toNat (⟨(⟨s7751.1, y7769.Irq, y7769.Priority⟩ : Slot).State, w64 (s7751.1 + 1), (⟨s7751.1, y7769.Irq, y7769.Priority⟩ : Slot).Priority⟩ : Slot)) s7751.2.1) fun y7781 =>
    some (.inl (w64 ((w64 ((w64 (s7751.1 + 1)) + 1)) + 1), w64 (s7751.2.1 + 1), (((s7751.2.2.set s7751.2.1.toNat (⟨s7751.1, y7769.Irq, y7769.Priority⟩ : Slot)).set s7751.2.1.toNat (⟨(⟨s7751.1, y7769.Irq, y7769.Priority⟩ : Slot).State, w64 (s7751.1 + 1), (⟨s7751.1, y7769.Irq, y7769.Priority⟩ : Slot).Priority⟩ : Slot)).set s7751.2.1.toNat (⟨(⟨(⟨s7751.1, y7769.Irq, y7769.Priority⟩ : Slot).State, w64 (s7751.1 + 1), (⟨s7751.1, y7769.Irq, y7769.Priority⟩ : Slot).Priority⟩ : Slot).State, (⟨(⟨s7751.1, y7769.Irq, y7769.Priority⟩ : Slot).State, w64 (s7751.1 + 1), (⟨s7751.1, y7769.Irq, y7769.Priority⟩ : Slot).Priority⟩ : Slot).Irq, w64 ((w64 (s7751.1 + 1)) + 1)⟩ : Slot)))))
    else some (.inr (s7751.1, s7751.2.2))) gxFuel (x7708, 0, x7702)) fun out7758 =>
  some (out7758.1, out7758.2)
def M.l_markWaiterS (x7843 : List Waiter) (x7849 : Int) : Option (Int × (List Waiter)) :=
  Option.bind (whileM (σ := Int × Int × List Waiter) (ρ := Int × List Waiter) (fun s7880 =>
    bif decide (s7880.2.1 < (s7880.2.2.length : Int)) then (Option.bind (gxIdx s7880.2.2 s7880.2.1) fun y7898 =>
    Option.bind (gxIdx (s7880.2.2.set s7880.2.1.toNat (⟨s7880.1, y7898.Priority⟩ : Waiter)) s7880.2.1) fun y7904 =>
    some (.inl (w64 ((w64 (s7880.1 + 1)) + 1), w64 (s7880.2.1 + 1), ((s7880.2.2.set s7880.2.1.toNat (⟨s7880.1, y7898.Priority⟩ : Waiter)).set s7880.2.1.toNat (⟨(⟨s7880.1, y7898.Priority⟩ : Waiter).Irq, w64 (s7880.1 + 1)⟩ : Waiter)))))
    else some (.inr (s7880.1, s7880.2.2))) gxFuel (x7849, 0, x7843)) fun out7887 =>
  some (out7887.1, out7887.2)
def M.l_markInterfaceS (x7563 : List Interface) (x7570 : Int) : Option (Int × (List Interface)) :=
  Option.bind (whileM (σ := Int × Int × List Interface) (ρ := Int × List Interface) (fun s8133 =>
    bif decide (s8133.2.1 < (s8133.2.2.length : Int)) then (Option.bind (gxIdx s8133.2.2 s8133.2.1) fun y8153 =>
    Option.bind (gxIdx (s8133.2.2.set s8133.2.1.toNat (⟨s8133.1, y8153.Stack, (⟨y8153.Queue.Slots, y8153.Queue.Waiting⟩ : Queue)⟩ : Interface)) s8133.2.1) fun y8169 =>
    Option.bind (M.l_markIntS y8169.Stack (w64 (s8133.1 + 1))) fun r8179 =>
    Option.bind (gxIdx ((s8133.2.2.set s8133.2.1.toNat (⟨s8133.1, y8153.Stack, (⟨y8153.Queue.Slots, y8153.Queue.Waiting⟩ : Queue)⟩ : Interface)).set s8133.2.1.toNat (⟨y8169.Mask, r8179.2, (⟨y8169.Queue.Slots, y8169.Queue.Waiting⟩ : Queue)⟩ : Interface)) s8133.2.1) fun y8221 =>
    Option.bind (M.l_markSlotS y8221.Queue.Slots r8179.1) fun r8231 =>
    Option.bind (gxIdx (((s8133.2.2.set s8133.2.1.toNat (⟨s8133.1, y8153.Stack, (⟨y8153.Queue.Slots, y8153.Queue.Waiting⟩ : Queue)⟩ : Interface)).set s8133.2.1.toNat (⟨y8169.Mask, r8179.2, (⟨y8169.Queue.Slots, y8169.Queue.Waiting⟩ : Queue)⟩ : Interface)).set s8133.2.1.toNat (⟨y8221.Mask, y8221.Stack, (⟨r8231.2, y8221.Queue.Waiting⟩ : Queue)⟩ : Interface)) s8133.2.1) fun y8273 =>
    Option.bind (M.l_markWaiterS y8273.Queue.Waiting r8231.1) fun r8283 =>
    some (.inl (r8283.1, w64 (s8133.2.1 + 1), ((((s8133.2.2.set s8133.2.1.toNat (⟨s8133.1, y8153.Stack, (⟨y8153.Queue.Slots, y8153.Queue.Waiting⟩ : Queue)⟩ : Interface)).set s8133.2.1.toNat (⟨y8169.Mask, r8179.2, (⟨y8169.Queue.Slots, y8169.Queue.Waiting⟩ : Queue)⟩ : Interface)).set s8133.2.1.toNat (⟨y8221.Mask, y8221.Stack, (⟨r8231.2, y8221.Queue.Waiting⟩ : Queue)⟩ : Interface)).set s8133.2.1.toNat (⟨y8273.Mask, y8273.Stack, (⟨y8273.Queue.Slots, r8283.2⟩ : Queue)⟩ : Interface)))))
    else some (.inr (s8133.1, s8133.2.2))) gxFuel (x7570, 0, x7563)) fun out8140 =>
  some (out8140.1, out8140.2)
def M.l_markMachine (x7386 : Machine) (x7408 : Int) : Option (Int × (List Route) × (List Bool) × (List Bool) × (List Interface)) :=
  Option.bind (M.l_markRouteS x7386.Routes x7408) fun r7489 =>
  Option.bind (M.l_markBoolS x7386.Enabled r7489.1) fun r7547 =>
  Option.bind (M.l_markBoolS x7386.Raised r7547.1) fun r7555 =>
  Option.bind (M.l_markInterfaceS x7386.Cpus r7555.1) fun r8329 =>
  some (r8329.1, r7489.2, r7547.2, r7555.2, r8329.2)
def M.l_heldIntS (x8383 : List Int) (x8388 : Int) : Option (Int) :=
  Option.bind (whileM (σ := Int × Int) (ρ := (Int) ⊕ (Int)) (fun s8395 =>
    bif decide (s8395.2 < (x8383.length : Int)) then (Option.bind (gxIdx x8383 s8395.2) fun y8407 =>
    bif y8407 != s8395.1 then some (.inr (.inr (-1)))
    else some (.inl (w64 (s8395.1 + 1), w64 (s8395.2 + 1))))
    else some (.inr (.inl s8395.1))) gxFuel (x8388, 0)) fun out8402 => Sum.elim (fun (o8405 : Int) =>
  some o8405) (fun r => some r) out8402
def M.s_l9Wait (x8704 : List Waiter) (x8709 : Waiter) : Option ((List Waiter)) :=
  Option.bind (whileM (σ := Int) (ρ := Int) (fun s8779 =>
    Option.bind (α := Bool) (bif decide (s8779 < (x8704.length : Int)) then (Option.bind (gxIdx x8704 s8779) fun y8805 =>
    Option.bind (gxIdx x8704 s8779) fun y8806 =>
    Option.bind (M.s_l8Less y8805.Priority y8806.Irq x8709.Priority x8709.Irq) fun r8807 =>
    some r8807)
    else some false) fun o8801 =>
    bif o8801 then some (.inl (w64 (s8779 + 1)))
    else some (.inr s8779)) gxFuel 0) fun out8786 =>
  Option.bind (gxSlice x8704 0 out8786) fun ys8831 =>
  Option.bind (gxApp 16 ([] : List Waiter) ys8831) fun ap8833 =>
  Option.bind (gxApp 16 ap8833 [x8709]) fun ap8844 =>
  Option.bind (gxSlice x8704 out8786 (x8704.length : Int)) fun ys8850 =>
  Option.bind (gxApp 16 ap8844 ys8850) fun ap8899 =>
  some ap8899
def M.s_l9Own (x12059 : Queue) : Option (Queue) :=
  Option.bind (gxApp 24 ([] : List Slot) x12059.Slots) fun ap12093 =>
  Option.bind (gxApp 16 ([] : List Waiter) x12059.Waiting) fun ap12135 =>
  some (⟨ap12093, ap12135⟩ : Queue)
def M.s_l10Own (x12015 : Interface) : Option (Interface) :=
  Option.bind (M.s_l1Own x12015.Stack) fun r12053 =>
  Option.bind (M.s_l9Own (⟨x12015.Queue.Slots, x12015.Queue.Waiting⟩ : Queue)) fun r12147 =>
  some (⟨x12015.Mask, r12053, r12147⟩ : Interface)
def M.s_l21Own (x11840 : Machine) : Option (Machine) :=
  Option.bind (gxApp 16 ([] : List Route) x11840.Routes) fun ap11893 =>
  Option.bind (gxApp 1 ([] : List Bool) x11840.Enabled) fun ap11904 =>
  Option.bind (gxApp 1 ([] : List Bool) x11840.Raised) fun ap11915 =>
  Option.bind (whileM (σ := Int × List Interface) (ρ := List Interface) (fun s12389 =>
    bif decide (s12389.1 < (x11840.Cpus.length : Int)) then (Option.bind (gxIdx x11840.Cpus s12389.1) fun y12415 =>
    Option.bind (M.s_l10Own (⟨y12415.Mask, y12415.Stack, (⟨y12415.Queue.Slots, y12415.Queue.Waiting⟩ : Queue)⟩ : Interface)) fun r12425 =>
    Option.bind (gxApp 80 s12389.2 [(⟨r12425.Mask, r12425.Stack, (⟨r12425.Queue.Slots, r12425.Queue.Waiting⟩ : Queue)⟩ : Interface)]) fun ap12491 =>
    some (.inl (w64 (s12389.1 + 1), ap12491)))
    else some (.inr s12389.2)) gxFuel (0, ([] : List Interface))) fun out12396 =>
  some (⟨ap11893, ap11904, ap11915, out12396⟩ : Machine)
def M.s_l8With (x12733 : List Slot) (x12738 : Int) (x12739 : Slot) : Option ((List Slot)) :=
  Option.bind (gxApp 24 ([] : List Slot) x12733) fun ap12756 =>
  Option.bind (gxIdx ap12756 x12738) fun y12764 =>
  some (ap12756.set x12738.toNat x12739)
def M.s_l8Put (x12696 : List Slot) (x12701 : Int) (x12702 : Int) : Option ((List Slot) × Bool) :=
  Option.bind (M.s_l8Find x12696 x12701) fun r12708 =>
  bif decide (r12708 ≥ 0) then (Option.bind (gxIdx x12696 r12708) fun y12713 =>
  Option.bind (α := Int) (bif y12713.State == 2 then some 3
  else some y12713.State) fun o12723 =>
  Option.bind (M.s_l8With x12696 r12708 (⟨o12723, y12713.Irq, y12713.Priority⟩ : Slot)) fun r12769 =>
  some (r12769, true))
  else (Option.bind (M.s_l8Free x12696) fun r12778 =>
  bif decide (r12778 < 0) then some (([] : List Slot), false)
  else (Option.bind (M.s_l8With x12696 r12778 (⟨1, x12701, x12702⟩ : Slot)) fun r12790 =>
  some (r12790, true)))
def M.s_l9Settle (x12810 : Queue) : Option (Queue) :=
  Option.bind (M.s_l9Own x12810) fun r12837 =>
  Option.bind (whileM (σ := List Slot × List Waiter) (ρ := List Slot × List Waiter) (fun s13293 =>
    Option.bind (M.s_l9Settled (⟨s13293.1, s13293.2⟩ : Queue)) fun r13324 =>
    bif !r13324 then (Option.bind (gxIdx s13293.2 0) fun y13329 =>
    Option.bind (gxSlice s13293.2 1 (s13293.2.length : Int)) fun ys13343 =>
    Option.bind (gxApp 16 ([] : List Waiter) ys13343) fun ap13345 =>
    Option.bind (M.s_l8Free s13293.1) fun r13353 =>
    Option.bind (α := List Waiter × Int) (bif decide (r13353 < 0) then (Option.bind (M.s_l8Best s13293.1 false) fun r13443 =>
    Option.bind (gxIdx s13293.1 r13443) fun y13449 =>
    Option.bind (gxIdx s13293.1 r13443) fun y13450 =>
    Option.bind (M.s_l9Wait ap13345 (⟨y13449.Irq, y13450.Priority⟩ : Waiter)) fun r13510 =>
    some (r13510, r13443))
    else some (ap13345, r13353)) fun o13434 =>
    Option.bind (M.s_l8With s13293.1 o13434.2 (⟨1, y13329.Irq, y13329.Priority⟩ : Slot)) fun r13523 =>
    some (.inl (r13523, o13434.1)))
    else some (.inr (s13293.1, s13293.2))) gxFuel (r12837.Slots, r12837.Waiting)) fun out13300 =>
  some (⟨out13300.1, out13300.2⟩ : Queue)
def M.s_l9Has (x13558 : List Waiter) (x13563 : Int) : Option (Int) :=
  Option.bind (whileM (σ := Int) (ρ := (Unit) ⊕ (Int)) (fun s13570 =>
    bif decide (s13570 < (x13558.length : Int)) then (Option.bind (gxIdx x13558 s13570) fun y13582 =>
    bif y13582.Irq == x13563 then some (.inr (.inr s13570))
    else some (.inl (w64 (s13570 + 1))))
    else some (.inr (.inl ()))) gxFuel 0) fun out13577 => Sum.elim (fun (o13580 : Unit) =>
  some (-1)) (fun r => some r) out13577
def M.s_l9Offer (x12662 : Queue) (x12671 : Int) (x12672 : Int) : Option (Queue) :=
  Option.bind (M.s_l8Find x12662.Slots x12671) fun r12691 =>
  bif decide (r12691 ≥ 0) then (Option.bind (M.s_l8Put x12662.Slots x12671 x12672) fun r12799 =>
  Option.bind (M.s_l9Settle (⟨r12799.1, x12662.Waiting⟩ : Queue)) fun r13542 =>
  some r13542)
  else (Option.bind (M.s_l9Has x12662.Waiting x12671) fun r13588 =>
  bif decide (r13588 ≥ 0) then (Option.bind (M.s_l9Settle x12662) fun r13593 =>
  some r13593)
  else (Option.bind (M.s_l9Wait x12662.Waiting (⟨x12671, x12672⟩ : Waiter)) fun r13611 =>
  Option.bind (M.s_l9Settle (⟨x12662.Slots, r13611⟩ : Queue)) fun r13655 =>
  some r13655))
def M.s_l10Raise (x12616 : Interface) (x12629 : Int) (x12630 : Int) : Option (Interface) :=
  Option.bind (M.s_l1Own x12616.Stack) fun r12656 =>
  Option.bind (M.s_l9Offer (⟨x12616.Queue.Slots, x12616.Queue.Waiting⟩ : Queue) x12629 x12630) fun r13671 =>
  some (⟨x12616.Mask, r12656, r13671⟩ : Interface)
def M.s_l21Sync (x11794 : Machine) : Option (Machine) :=
  Option.bind (M.s_l21Own x11794) fun r12516 =>
  Option.bind (whileM (σ := Int × List Bool × List Interface) (ρ := List Bool × List Interface) (fun s14290 =>
    bif decide (s14290.1 < 8) then (Option.bind (gxIdx x11794.Routes s14290.1) fun y14312 =>
    Option.bind (α := Bool) (Option.bind (gxIdx x11794.Enabled s14290.1) fun y14334 =>
    bif y14334 then (Option.bind (gxIdx x11794.Raised s14290.1) fun y14336 =>
    bif y14336 then (Option.bind (gxIdx x11794.Cpus y14312.Target) fun y14338 =>
    Option.bind (M.s_l1Has y14338.Stack s14290.1) fun r14348 =>
    some (!r14348))
    else some false)
    else some false) fun o14331 =>
    Option.bind (α := List Bool × List Interface) (bif o14331 then (Option.bind (gxIdx s14290.2.1 s14290.1) fun y14491 =>
    Option.bind (gxIdx s14290.2.2 y14312.Target) fun y14499 =>
    Option.bind (gxIdx x11794.Routes s14290.1) fun y14509 =>
    Option.bind (M.s_l10Raise (⟨y14499.Mask, y14499.Stack, (⟨y14499.Queue.Slots, y14499.Queue.Waiting⟩ : Queue)⟩ : Interface) s14290.1 y14509.Priority) fun r14510 =>
    Option.bind (gxIdx s14290.2.2 y14312.Target) fun y14594 =>
    some ((s14290.2.1.set s14290.1.toNat false), (s14290.2.2.set y14312.Target.toNat (⟨r14510.Mask, r14510.Stack, (⟨r14510.Queue.Slots, r14510.Queue.Waiting⟩ : Queue)⟩ : Interface))))
    else some (s14290.2.1, s14290.2.2)) fun o14482 =>
    some (.inl (w64 (s14290.1 + 1), o14482.1, o14482.2)))
    else some (.inr (s14290.2.1, s14290.2.2))) gxFuel (0, r12516.Raised, r12516.Cpus)) fun out14297 =>
  some (⟨r12516.Routes, r12516.Enabled, out14297.1, out14297.2⟩ : Machine)
def M.s_l10Running (x14878 : Interface) : Option (Int) :=
  bif decide ((x14878.Stack.length : Int) > 0) then (Option.bind (gxIdx x14878.Stack (w64 ((x14878.Stack.length : Int) - 1))) fun y14896 =>
  Option.bind (M.s_l10Level (⟨x14878.Queue.Slots, x14878.Queue.Waiting⟩ : Queue) y14896) fun r14897 =>
  some r14897)
  else some 16
def M.s_l1Least (x14904 : Int) (x14905 : Int) : Option (Int) :=
  bif decide (x14904 < x14905) then some x14904
  else some x14905
def M.s_l8Take (x14963 : List Slot) (x14968 : Int) : Option ((List Slot) × Int) :=
  Option.bind (M.s_l8Best x14963 true) fun r14974 =>
  Option.bind (α := Bool) (bif decide (r14974 < 0) then some true
  else (Option.bind (gxIdx x14963 r14974) fun y14984 =>
  some (decide (y14984.Priority ≥ x14968)))) fun o14980 =>
  bif o14980 then (none)
  else (Option.bind (gxIdx x14963 r14974) fun y14990 =>
  Option.bind (M.s_l8With x14963 r14974 (⟨2, y14990.Irq, y14990.Priority⟩ : Slot)) fun r15001 =>
  some (r15001, y14990.Irq))
def M.s_l8Take__k (x15039 : List Slot) (x15044 : Int) : Option ((List Slot) × Int) :=
  Option.bind (M.s_l8Best x15039 true) fun r15046 =>
  Option.bind (α := Bool) (bif decide (r15046 < 0) then some true
  else (Option.bind (gxIdx x15039 r15046) fun y15056 =>
  some (decide (y15056.Priority ≥ x15044)))) fun o15052 =>
  bif o15052 then some (x15039, (-1))
  else (Option.bind (gxIdx x15039 r15046) fun y15062 =>
  Option.bind (M.s_l8With x15039 r15046 (⟨2, y15062.Irq, y15062.Priority⟩ : Slot)) fun r15073 =>
  none)
def M.s_l9Take (x14908 : Queue) (x14917 : Int) : Option (Queue × Int) :=
  gxAlt (M.s_l8Take__k x14908.Slots x14917) (fun r15111 =>
    Option.bind (gxApp 24 ([] : List Slot) x14908.Slots) fun ap15122 =>
    Option.bind (gxApp 16 ([] : List Waiter) x14908.Waiting) fun ap15133 =>
    some ((⟨ap15122, ap15133⟩ : Queue), r15111.2))
  (Option.bind (M.s_l8Take x14908.Slots x14917) fun r15185 =>
  Option.bind (gxApp 24 ([] : List Slot) r15185.1) fun ap15201 =>
  Option.bind (gxApp 16 ([] : List Waiter) x14908.Waiting) fun ap15212 =>
  some ((⟨ap15201, ap15212⟩ : Queue), r15185.2))
def M.s_l10Take (x14840 : Interface) : Option (Interface × Int) :=
  Option.bind (M.s_l10Running (⟨x14840.Mask, x14840.Stack, (⟨x14840.Queue.Slots, x14840.Queue.Waiting⟩ : Queue)⟩ : Interface)) fun r14903 =>
  Option.bind (M.s_l1Least x14840.Mask r14903) fun r14907 =>
  Option.bind (M.s_l9Take (⟨x14840.Queue.Slots, x14840.Queue.Waiting⟩ : Queue) r14907) fun r15264 =>
  Option.bind (M.s_l1Own x14840.Stack) fun r15340 =>
  Option.bind (α := List Int) (bif decide (r15264.2 ≥ 0) then (Option.bind (gxApp 8 r15340 [r15264.2]) fun ap15426 =>
  some ap15426)
  else some r15340) fun o15410 =>
  some ((⟨x14840.Mask, o15410, r15264.1⟩ : Interface), r15264.2)
def M.s_l8End (x15618 : List Slot) (x15623 : Int) : Option ((List Slot) × Bool) :=
  Option.bind (M.s_l8Find x15618 x15623) fun r15629 =>
  Option.bind (α := Bool) (bif decide (r15629 < 0) then some true
  else (Option.bind (gxIdx x15618 r15629) fun y15639 =>
  some (y15639.State == 1))) fun o15635 =>
  bif o15635 then some (([] : List Slot), false)
  else (Option.bind (gxIdx x15618 r15629) fun y15652 =>
  bif y15652.State == 2 then (Option.bind (M.s_l8With x15618 r15629 (⟨0, 0, 0⟩ : Slot)) fun r15654 =>
  some (r15654, true))
  else (Option.bind (gxIdx x15618 r15629) fun y15663 =>
  Option.bind (M.s_l8With x15618 r15629 (⟨1, y15663.Irq, y15663.Priority⟩ : Slot)) fun r15672 =>
  some (r15672, true)))
def M.s_l9End (x15590 : Queue) (x15599 : Int) : Option (Queue × Bool) :=
  Option.bind (M.s_l8End x15590.Slots x15599) fun r15681 =>
  bif !r15681.2 then some ((⟨([] : List Slot), ([] : List Waiter)⟩ : Queue), false)
  else (Option.bind (M.s_l9Settle (⟨r15681.1, x15590.Waiting⟩ : Queue)) fun r15697 =>
  some (r15697, true))
def M.s_l10Leave (x15548 : Interface) : Option (Interface × Int) :=
  bif (x15548.Stack.length : Int) == 0 then (none)
  else (Option.bind (gxIdx x15548.Stack (w64 ((x15548.Stack.length : Int) - 1))) fun y15589 =>
  Option.bind (M.s_l9End (⟨x15548.Queue.Slots, x15548.Queue.Waiting⟩ : Queue) y15589) fun r15713 =>
  Option.bind (gxSlice x15548.Stack 0 (w64 ((x15548.Stack.length : Int) - 1))) fun ys15791 =>
  Option.bind (M.s_l1Own ys15791) fun r15793 =>
  Option.bind (gxIdx x15548.Stack (w64 ((x15548.Stack.length : Int) - 1))) fun y15802 =>
  some ((⟨x15548.Mask, r15793, r15713.1⟩ : Interface), y15802))
def M.s_l10Leave__k (x15876 : Interface) : Option (Interface × Int) :=
  bif (x15876.Stack.length : Int) == 0 then some ((⟨x15876.Mask, x15876.Stack, (⟨x15876.Queue.Slots, x15876.Queue.Waiting⟩ : Queue)⟩ : Interface), (-1))
  else (Option.bind (gxIdx x15876.Stack (w64 ((x15876.Stack.length : Int) - 1))) fun y15905 =>
  Option.bind (M.s_l9End (⟨x15876.Queue.Slots, x15876.Queue.Waiting⟩ : Queue) y15905) fun r15906 =>
  Option.bind (gxSlice x15876.Stack 0 (w64 ((x15876.Stack.length : Int) - 1))) fun ys15984 =>
  Option.bind (M.s_l1Own ys15984) fun r15986 =>
  Option.bind (gxIdx x15876.Stack (w64 ((x15876.Stack.length : Int) - 1))) fun y15995 =>
  none)
def M.s_l21Make (x16099 : Machine) (x16116 : MachStep) : Option (Machine × Int × Bool) :=
  Option.bind (M.s_l21Own x16099) fun r16150 =>
  bif x16116.Kind == 1 then (Option.bind (gxIdx r16150.Raised x16116.Irq) fun y16186 =>
  Option.bind (gxIdx x16099.Raised x16116.Irq) fun y16194 =>
  some ((⟨r16150.Routes, r16150.Enabled, (r16150.Raised.set x16116.Irq.toNat true), r16150.Cpus⟩ : Machine), (-1), !y16194))
  else (bif x16116.Kind == 2 then (Option.bind (M.s_l21Sync x16099) fun r16240 =>
  some (r16240, (-1), true))
  else (bif x16116.Kind == 3 then (Option.bind (gxIdx x16099.Cpus x16116.Cpu) fun y16268 =>
  Option.bind (M.s_l10Take (⟨y16268.Mask, y16268.Stack, (⟨y16268.Queue.Slots, y16268.Queue.Waiting⟩ : Queue)⟩ : Interface)) fun r16278 =>
  Option.bind (gxIdx r16150.Cpus x16116.Cpu) fun y16306 =>
  some ((⟨r16150.Routes, r16150.Enabled, r16150.Raised, (r16150.Cpus.set x16116.Cpu.toNat (⟨r16278.1.Mask, r16278.1.Stack, (⟨r16278.1.Queue.Slots, r16278.1.Queue.Waiting⟩ : Queue)⟩ : Interface))⟩ : Machine), r16278.2, decide (r16278.2 ≥ 0)))
  else (bif x16116.Kind == 4 then (Option.bind (gxIdx x16099.Cpus x16116.Cpu) fun y16335 =>
  gxAlt (M.s_l10Leave__k (⟨y16335.Mask, y16335.Stack, (⟨y16335.Queue.Slots, y16335.Queue.Waiting⟩ : Queue)⟩ : Interface)) (fun r16345 =>
    Option.bind (gxIdx r16150.Cpus x16116.Cpu) fun y16358 =>
    bif decide (r16345.2 ≥ 0) then none
    else some ((⟨r16150.Routes, r16150.Enabled, r16150.Raised, (r16150.Cpus.set x16116.Cpu.toNat (⟨r16345.1.Mask, y16335.Stack, (⟨y16335.Queue.Slots, y16335.Queue.Waiting⟩ : Queue)⟩ : Interface))⟩ : Machine), r16345.2, decide (r16345.2 ≥ 0)))
  (Option.bind (M.s_l10Leave (⟨y16335.Mask, y16335.Stack, (⟨y16335.Queue.Slots, y16335.Queue.Waiting⟩ : Queue)⟩ : Interface)) fun r16376 =>
  Option.bind (gxIdx r16150.Cpus x16116.Cpu) fun y16404 =>
  some ((⟨r16150.Routes, r16150.Enabled, r16150.Raised, (r16150.Cpus.set x16116.Cpu.toNat (⟨r16376.1.Mask, r16376.1.Stack, (⟨r16376.1.Queue.Slots, r16376.1.Queue.Waiting⟩ : Queue)⟩ : Interface))⟩ : Machine), r16376.2, decide (r16376.2 ≥ 0))))
  else (bif x16116.Kind == 5 then (Option.bind (gxIdx r16150.Cpus x16116.Cpu) fun y16433 =>
  Option.bind (gxIdx r16150.Cpus x16116.Cpu) fun y16454 =>
  some ((⟨r16150.Routes, r16150.Enabled, r16150.Raised, (r16150.Cpus.set x16116.Cpu.toNat (⟨x16116.Value, y16433.Stack, (⟨y16433.Queue.Slots, y16433.Queue.Waiting⟩ : Queue)⟩ : Interface))⟩ : Machine), (-1), true))
  else (Option.bind (gxIdx r16150.Enabled x16116.Irq) fun y16469 =>
  some ((⟨r16150.Routes, (r16150.Enabled.set x16116.Irq.toNat (x16116.Value == 1)), r16150.Raised, r16150.Cpus⟩ : Machine), (-1), true))))))
def M.i_newQueue (x17174 : Queue) : Option (Queue) :=
  Option.bind (gxApp 24 ([] : List Slot) x17174.Slots) fun ap17208 =>
  Option.bind (gxApp 16 ([] : List Waiter) x17174.Waiting) fun ap17250 =>
  some (⟨ap17208, ap17250⟩ : Queue)
def M.i_newInterface (x17130 : Interface) : Option (Interface) :=
  Option.bind (M.i_copyInts x17130.Stack) fun r17168 =>
  Option.bind (M.i_newQueue (⟨x17130.Queue.Slots, x17130.Queue.Waiting⟩ : Queue)) fun r17262 =>
  some (⟨x17130.Mask, r17168, r17262⟩ : Interface)
def M.i_newMachine (x16946 : Machine) : Option (Machine) :=
  Option.bind (gxApp 16 ([] : List Route) x16946.Routes) fun ap16999 =>
  Option.bind (gxApp 1 ([] : List Bool) x16946.Enabled) fun ap17010 =>
  Option.bind (gxApp 1 ([] : List Bool) x16946.Raised) fun ap17021 =>
  Option.bind (whileM (σ := Int × List Interface) (ρ := List Interface) (fun s17481 =>
    bif decide (s17481.1 < (x16946.Cpus.length : Int)) then (Option.bind (gxIdx x16946.Cpus s17481.1) fun y17505 =>
    Option.bind (M.i_newInterface (⟨y17505.Mask, y17505.Stack, (⟨y17505.Queue.Slots, y17505.Queue.Waiting⟩ : Queue)⟩ : Interface)) fun r17526 =>
    Option.bind (gxApp 80 s17481.2 [(⟨r17526.Mask, r17526.Stack, (⟨r17526.Queue.Slots, r17526.Queue.Waiting⟩ : Queue)⟩ : Interface)]) fun ap17576 =>
    some (.inl (w64 (s17481.1 + 1), ap17576)))
    else some (.inr s17481.2)) gxFuel (0, ([] : List Interface))) fun out17488 =>
  some (⟨ap16999, ap17010, ap17021, out17488⟩ : Machine)
def M.slices_Index_178 (x17710 : List Int) (x17715 : Int) : Option (Int) :=
  Option.bind (whileM (σ := Int) (ρ := (Unit) ⊕ (Int)) (fun s17722 =>
    bif decide (s17722 < (x17710.length : Int)) then (Option.bind (gxIdx x17710 s17722) fun y17734 =>
    bif x17715 == y17734 then some (.inr (.inr s17722))
    else some (.inl (w64 (s17722 + 1))))
    else some (.inr (.inl ()))) gxFuel 0) fun out17729 => Sum.elim (fun (o17732 : Unit) =>
  some (-1)) (fun r => some r) out17729
def M.slices_Contains_136 (x17704 : List Int) (x17709 : Int) : Option (Bool) :=
  Option.bind (M.slices_Index_178 x17704 x17709) fun r17740 =>
  some (decide (r17740 ≥ 0))
def M.i_withSlot (x17937 : List Slot) (x17942 : Int) (x17943 : Slot) : Option ((List Slot)) :=
  Option.bind (gxApp 24 ([] : List Slot) x17937) fun ap17960 =>
  Option.bind (gxIdx ap17960 x17942) fun y17968 =>
  some (ap17960.set x17942.toNat x17943)
def M.i_putIrq (x17900 : List Slot) (x17905 : Int) (x17906 : Int) : Option ((List Slot) × Bool) :=
  Option.bind (M.i_findSlot x17900 x17905) fun r17912 =>
  bif decide (r17912 ≥ 0) then (Option.bind (gxIdx x17900 r17912) fun y17917 =>
  Option.bind (α := Int) (bif y17917.State == 2 then some 3
  else some y17917.State) fun o17927 =>
  Option.bind (M.i_withSlot x17900 r17912 (⟨o17927, y17917.Irq, y17917.Priority⟩ : Slot)) fun r17973 =>
  some (r17973, true))
  else (Option.bind (M.i_firstEmpty x17900) fun r17982 =>
  bif decide (r17982 < 0) then some (([] : List Slot), false)
  else (Option.bind (M.i_withSlot x17900 r17982 (⟨1, x17905, x17906⟩ : Slot)) fun r17988 =>
  some (r17988, true)))
def M.slices_Insert_252 (x18172 : List Waiter) (x18178 : Int) (x18179 : List Waiter) : Option ((List Waiter)) :=
  bif (decide (0 ≤ x18178) && decide (x18178 ≤ (x18172.length : Int))) && (decide (x18179.length = 1) && decide ((x18172.length + 1) * 16 ≤ 140737488355328)) then some (x18172.take x18178.toNat ++ x18179 ++ x18172.drop x18178.toNat)
  else none
def M.i_withWaiter (x18013 : List Waiter) (x18018 : Waiter) : Option ((List Waiter)) :=
  Option.bind (whileM (σ := Int) (ρ := Int) (fun s18084 =>
    Option.bind (α := Bool) (bif decide (s18084 < (x18013.length : Int)) then (Option.bind (gxIdx x18013 s18084) fun y18109 =>
    Option.bind (M.i_compareUrgency y18109 x18018) fun r18110 =>
    some (decide (r18110 < 0)))
    else some false) fun o18105 =>
    bif o18105 then some (.inl (w64 (s18084 + 1)))
    else some (.inr s18084)) gxFuel 0) fun out18091 =>
  Option.bind (gxApp 16 ([] : List Waiter) x18013) fun ap18134 =>
  Option.bind (M.slices_Insert_252 ap18134 out18091 [x18018]) fun r18189 =>
  some r18189
def M.i_settled (x18302 : Queue) : Option (Queue) :=
  Option.bind (M.i_newQueue x18302) fun r18329 =>
  Option.bind (whileM (σ := List Waiter × List Slot) (ρ := List Waiter × List Slot) (fun s18724 =>
    Option.bind (M.i_isSettled (⟨s18724.2, s18724.1⟩ : Queue)) fun r18749 =>
    bif !r18749 then (Option.bind (gxIdx s18724.1 0) fun y18756 =>
    Option.bind (M.i_firstEmpty s18724.2) fun r18757 =>
    Option.bind (gxSlice s18724.1 1 (s18724.1.length : Int)) fun ys18798 =>
    Option.bind (α := Int × List Waiter) (bif decide (r18757 < 0) then (Option.bind (M.i_pendingSlot s18724.2 false) fun r18867 =>
    Option.bind (gxIdx s18724.2 r18867) fun y18873 =>
    Option.bind (M.i_waiterOf y18873) fun r18874 =>
    Option.bind (M.i_withWaiter ys18798 r18874) fun r18911 =>
    some (r18867, r18911))
    else some (r18757, ys18798)) fun o18858 =>
    Option.bind (gxIdx s18724.2 o18858.1) fun y18926 =>
    some (.inl (o18858.2, (s18724.2.set o18858.1.toNat (⟨1, y18756.Irq, y18756.Priority⟩ : Slot)))))
    else some (.inr (s18724.1, s18724.2))) gxFuel (r18329.Waiting, r18329.Slots)) fun out18731 =>
  some (⟨out18731.2, out18731.1⟩ : Queue)
def M.i_offerIrq (x17844 : Queue) (x17853 : Int) (x17854 : Int) : Option (Queue) :=
  Option.bind (M.i_newQueue x17844) fun r17873 =>
  Option.bind (M.i_findSlot x17844.Slots x17853) fun r17895 =>
  Option.bind (α := List Slot × List Waiter) (bif decide (r17895 ≥ 0) then (Option.bind (M.i_putIrq x17844.Slots x17853 x17854) fun r18247 =>
  some (r18247.1, r17873.Waiting))
  else (Option.bind (M.i_waiterIndex x17844.Waiting x17853) fun r18258 =>
  Option.bind (α := List Waiter) (bif decide (r18258 < 0) then (Option.bind (M.i_withWaiter x17844.Waiting (⟨x17853, x17854⟩ : Waiter)) fun r18283 =>
  some r18283)
  else some r17873.Waiting) fun o18274 =>
  some (r17873.Slots, o18274))) fun o18233 =>
  Option.bind (M.i_settled (⟨o18233.1, o18233.2⟩ : Queue)) fun r18938 =>
  some r18938
def M.i_raiseIrq (x17778 : Interface) (x17791 : Int) (x17792 : Int) : Option (Interface) :=
  Option.bind (M.i_newInterface (⟨x17778.Mask, x17778.Stack, (⟨x17778.Queue.Slots, x17778.Queue.Waiting⟩ : Queue)⟩ : Interface)) fun r17816 =>
  Option.bind (M.i_offerIrq (⟨x17778.Queue.Slots, x17778.Queue.Waiting⟩ : Queue) x17791 x17792) fun r18954 =>
  some (⟨r17816.Mask, r17816.Stack, r18954⟩ : Interface)
def M.i_Machine_sync (x17643 : Machine) : Option ((List Route) × (List Bool) × (List Bool) × (List Interface)) :=
  Option.bind (whileM (σ := Int × List Bool × List Interface) (ρ := List Bool × List Interface) (fun s19367 =>
    bif decide (s19367.1 < (x17643.Routes.length : Int)) then (Option.bind (gxIdx x17643.Routes s19367.1) fun y19389 =>
    Option.bind (gxIdx s19367.2.2 y19389.Target) fun y19396 =>
    Option.bind (α := Bool) (Option.bind (gxIdx x17643.Enabled s19367.1) fun y19419 =>
    bif y19419 then (Option.bind (gxIdx s19367.2.1 s19367.1) fun y19421 =>
    bif y19421 then (Option.bind (M.slices_Contains_136 y19396.Stack s19367.1) fun r19426 =>
    some (!r19426))
    else some false)
    else some false) fun o19416 =>
    Option.bind (α := List Bool × List Interface) (bif o19416 then (Option.bind (gxIdx s19367.2.1 s19367.1) fun y19526 =>
    Option.bind (M.i_raiseIrq (⟨y19396.Mask, y19396.Stack, (⟨y19396.Queue.Slots, y19396.Queue.Waiting⟩ : Queue)⟩ : Interface) s19367.1 y19389.Priority) fun r19537 =>
    some ((s19367.2.1.set s19367.1.toNat false), (s19367.2.2.set y19389.Target.toNat (⟨r19537.Mask, r19537.Stack, (⟨r19537.Queue.Slots, r19537.Queue.Waiting⟩ : Queue)⟩ : Interface))))
    else some (s19367.2.1, s19367.2.2)) fun o19517 =>
    some (.inl (w64 (s19367.1 + 1), o19517.1, o19517.2)))
    else some (.inr (s19367.2.1, s19367.2.2))) gxFuel (0, x17643.Raised, x17643.Cpus)) fun out19374 =>
  some (x17643.Routes, x17643.Enabled, out19374.1, out19374.2)
def M.i_runningPriority (x19689 : Interface) : Option (Int) :=
  bif (x19689.Stack.length : Int) == 0 then some 16
  else (Option.bind (gxIdx x19689.Stack (w64 ((x19689.Stack.length : Int) - 1))) fun y19707 =>
  Option.bind (M.i_priorityIn x19689.Queue.Slots y19707) fun r19708 =>
  some r19708)
def M.i_takeSlot (x19743 : List Slot) (x19748 : Int) : Option ((List Slot) × Int × Bool) :=
  Option.bind (M.i_pendingSlot x19743 true) fun r19754 =>
  Option.bind (α := Bool) (bif decide (r19754 < 0) then some true
  else (Option.bind (gxIdx x19743 r19754) fun y19764 =>
  some (decide (y19764.Priority ≥ x19748)))) fun o19760 =>
  bif o19760 then some (([] : List Slot), 0, false)
  else (Option.bind (gxIdx x19743 r19754) fun y19771 =>
  Option.bind (M.i_withSlot x19743 r19754 (⟨2, y19771.Irq, y19771.Priority⟩ : Slot)) fun r19782 =>
  some (r19782, y19771.Irq, true))
def M.i_takeQueue (x19715 : Queue) (x19724 : Int) : Option (Queue × Int × Bool) :=
  Option.bind (M.i_takeSlot x19715.Slots x19724) fun r19820 =>
  bif !r19820.2.2 then some ((⟨([] : List Slot), ([] : List Waiter)⟩ : Queue), 0, false)
  else (Option.bind (M.i_newQueue x19715) fun r19834 =>
  some ((⟨r19820.1, r19834.Waiting⟩ : Queue), r19820.2.1, true))
def M.i_takeIrq (x19651 : Interface) : Option (Interface × Int × Bool) :=
  Option.bind (M.i_runningPriority (⟨x19651.Mask, x19651.Stack, (⟨x19651.Queue.Slots, x19651.Queue.Waiting⟩ : Queue)⟩ : Interface)) fun r19714 =>
  Option.bind (M.i_takeQueue (⟨x19651.Queue.Slots, x19651.Queue.Waiting⟩ : Queue) (gxMin x19651.Mask r19714)) fun r19860 =>
  bif !r19860.2.2 then some ((⟨0, ([] : List Int), (⟨([] : List Slot), ([] : List Waiter)⟩ : Queue)⟩ : Interface), 0, false)
  else (Option.bind (M.i_copyInts x19651.Stack) fun r19949 =>
  Option.bind (gxApp 8 r19949 [r19860.2.1]) fun ap19960 =>
  some ((⟨x19651.Mask, ap19960, r19860.1⟩ : Interface), r19860.2.1, true))
def M.i_endSlot (x20143 : List Slot) (x20148 : Int) : Option ((List Slot) × Bool) :=
  Option.bind (M.i_findSlot x20143 x20148) fun r20154 =>
  Option.bind (α := Bool) (bif decide (r20154 < 0) then some true
  else (Option.bind (gxIdx x20143 r20154) fun y20168 =>
  Option.bind (M.i_isActive y20168) fun r20169 =>
  some (!r20169))) fun o20164 =>
  bif o20164 then some (([] : List Slot), false)
  else (Option.bind (gxIdx x20143 r20154) fun y20185 =>
  Option.bind (α := Int × Int × Int) (bif y20185.State == 3 then (Option.bind (gxIdx x20143 r20154) fun y20194 =>
  some (1, x20148, y20194.Priority))
  else some (0, 0, 0)) fun o20190 =>
  Option.bind (M.i_withSlot x20143 r20154 (⟨o20190.1, o20190.2.1, o20190.2.2⟩ : Slot)) fun r20201 =>
  some (r20201, true))
def M.i_endQueue (x20115 : Queue) (x20124 : Int) : Option (Queue × Bool) :=
  Option.bind (M.i_endSlot x20115.Slots x20124) fun r20210 =>
  bif !r20210.2 then some ((⟨([] : List Slot), ([] : List Waiter)⟩ : Queue), false)
  else (Option.bind (M.i_settled (⟨r20210.1, x20115.Waiting⟩ : Queue)) fun r20226 =>
  some (r20226, true))
def M.i_leaveIrq (x20070 : Interface) : Option (Interface × Int × Bool) :=
  bif decide ((w64 ((x20070.Stack.length : Int) - 1)) < 0) then some ((⟨0, ([] : List Int), (⟨([] : List Slot), ([] : List Waiter)⟩ : Queue)⟩ : Interface), 0, false)
  else (Option.bind (gxIdx x20070.Stack (w64 ((x20070.Stack.length : Int) - 1))) fun y20114 =>
  Option.bind (M.i_endQueue (⟨x20070.Queue.Slots, x20070.Queue.Waiting⟩ : Queue) y20114) fun r20242 =>
  Option.bind (gxSlice x20070.Stack 0 (w64 ((x20070.Stack.length : Int) - 1))) fun ys20316 =>
  Option.bind (M.i_copyInts ys20316) fun r20318 =>
  Option.bind (gxIdx x20070.Stack (w64 ((x20070.Stack.length : Int) - 1))) fun y20327 =>
  some ((⟨x20070.Mask, r20318, r20242.1⟩ : Interface), y20327, true))
def M.l_heldRouteS (x21032 : List Route) (x21037 : Int) : Option (Int) :=
  Option.bind (whileM (σ := Int × Int) (ρ := (Int) ⊕ (Int)) (fun s21048 =>
    bif decide (s21048.2 < (x21032.length : Int)) then (Option.bind (gxIdx x21032 s21048.2) fun y21060 =>
    bif y21060.Priority != s21048.1 then some (.inr (.inr (-1)))
    else (Option.bind (gxIdx x21032 s21048.2) fun y21062 =>
    bif y21062.Target != (w64 (s21048.1 + 1)) then some (.inr (.inr (-1)))
    else some (.inl (w64 ((w64 (s21048.1 + 1)) + 1), w64 (s21048.2 + 1)))))
    else some (.inr (.inl s21048.1))) gxFuel (x21037, 0)) fun out21055 => Sum.elim (fun (o21058 : Int) =>
  some o21058) (fun r => some r) out21055
def M.l_heldBoolS (x21073 : List Bool) (x21078 : Int) : Option (Int) :=
  Option.bind (whileM (σ := Int × Int) (ρ := (Int) ⊕ (Int)) (fun s21085 =>
    bif decide (s21085.2 < (x21073.length : Int)) then (Option.bind (gxIdx x21073 s21085.2) fun y21097 =>
    bif !(y21097 == ((s21085.1.tmod 3) == 0)) then some (.inr (.inr (-1)))
    else some (.inl (w64 (s21085.1 + 1), w64 (s21085.2 + 1))))
    else some (.inr (.inl s21085.1))) gxFuel (x21078, 0)) fun out21092 => Sum.elim (fun (o21095 : Int) =>
  some o21095) (fun r => some r) out21092
def M.l_heldSlotS (x21148 : List Slot) (x21153 : Int) : Option (Int) :=
  Option.bind (whileM (σ := Int × Int) (ρ := (Int) ⊕ (Int)) (fun s21168 =>
    bif decide (s21168.2 < (x21148.length : Int)) then (Option.bind (gxIdx x21148 s21168.2) fun y21180 =>
    bif y21180.State != s21168.1 then some (.inr (.inr (-1)))
    else (Option.bind (gxIdx x21148 s21168.2) fun y21182 =>
    bif y21182.Irq != (w64 (s21168.1 + 1)) then some (.inr (.inr (-1)))
    else (Option.bind (gxIdx x21148 s21168.2) fun y21184 =>
    bif y21184.Priority != (w64 ((w64 (s21168.1 + 1)) + 1)) then some (.inr (.inr (-1)))
    else some (.inl (w64 ((w64 ((w64 (s21168.1 + 1)) + 1)) + 1), w64 (s21168.2 + 1))))))
    else some (.inr (.inl s21168.1))) gxFuel (x21153, 0)) fun out21175 => Sum.elim (fun (o21178 : Int) =>
  some o21178) (fun r => some r) out21175
def M.l_heldWaiterS (x21201 : List Waiter) (x21206 : Int) : Option (Int) :=
  Option.bind (whileM (σ := Int × Int) (ρ := (Int) ⊕ (Int)) (fun s21217 =>
    bif decide (s21217.2 < (x21201.length : Int)) then (Option.bind (gxIdx x21201 s21217.2) fun y21229 =>
    bif y21229.Irq != s21217.1 then some (.inr (.inr (-1)))
    else (Option.bind (gxIdx x21201 s21217.2) fun y21231 =>
    bif y21231.Priority != (w64 (s21217.1 + 1)) then some (.inr (.inr (-1)))
    else some (.inl (w64 ((w64 (s21217.1 + 1)) + 1), w64 (s21217.2 + 1)))))
    else some (.inr (.inl s21217.1))) gxFuel (x21206, 0)) fun out21224 => Sum.elim (fun (o21227 : Int) =>
  some o21227) (fun r => some r) out21224
def M.l_heldInterfaceS (x21113 : List Interface) (x21118 : Int) : Option (Int) :=
  Option.bind (whileM (σ := Int × Int) (ρ := (Int) ⊕ (Int)) (fun s21287 =>
    bif decide (s21287.2 < (x21113.length : Int)) then (Option.bind (gxIdx x21113 s21287.2) fun y21299 =>
    bif y21299.Mask != s21287.1 then some (.inr (.inr (-1)))
    else (Option.bind (gxIdx x21113 s21287.2) fun y21310 =>
    Option.bind (M.l_heldIntS y21310.Stack (w64 (s21287.1 + 1))) fun r21316 =>
    bif decide (r21316 < 0) then some (.inr (.inr (-1)))
    else (Option.bind (gxIdx x21113 s21287.2) fun y21321 =>
    Option.bind (M.l_heldSlotS y21321.Queue.Slots r21316) fun r21327 =>
    bif decide (r21327 < 0) then some (.inr (.inr (-1)))
    else (Option.bind (gxIdx x21113 s21287.2) fun y21332 =>
    Option.bind (M.l_heldWaiterS y21332.Queue.Waiting r21327) fun r21338 =>
    bif decide (r21338 < 0) then some (.inr (.inr (-1)))
    else some (.inl (r21338, w64 (s21287.2 + 1)))))))
    else some (.inr (.inl s21287.1))) gxFuel (x21118, 0)) fun out21294 => Sum.elim (fun (o21297 : Int) =>
  some o21297) (fun r => some r) out21294
def M.l_heldMachine (x21010 : Machine) (x21027 : Int) : Option (Int) :=
  Option.bind (M.l_heldRouteS x21010.Routes x21027) fun r21068 =>
  bif decide (r21068 < 0) then some (-1)
  else (Option.bind (M.l_heldBoolS x21010.Enabled r21068) fun r21103 =>
  bif decide (r21103 < 0) then some (-1)
  else (Option.bind (M.l_heldBoolS x21010.Raised r21103) fun r21108 =>
  bif decide (r21108 < 0) then some (-1)
  else (Option.bind (M.l_heldInterfaceS x21010.Cpus r21108) fun r21347 =>
  bif decide (r21347 < 0) then some (-1)
  else some r21347)))
def M.l_toMachStep (x21522 : MachStep) : Option (MachStep) :=
  some x21522
def M.s_l21Step (x21602 : Machine) (x21619 : MachStep) : Option (Bool) :=
  Option.bind (M.s_l1In x21619.Cpu 0 (w64 ((x21602.Cpus.length : Int) - 1))) fun r21628 =>
  bif x21619.Kind == 1 then (Option.bind (α := Bool) (Option.bind (M.s_l6Irq x21619.Irq) fun r21642 =>
  bif r21642 then (bif x21619.Cpu == 0 then some (x21619.Value == 0)
  else some false)
  else some false) fun o21639 =>
  some o21639)
  else (bif x21619.Kind == 2 then (Option.bind (α := Bool) (bif x21619.Irq == 0 then (bif x21619.Cpu == 0 then some (x21619.Value == 0)
  else some false)
  else some false) fun o21655 =>
  some o21655)
  else (Option.bind (α := Bool) (bif x21619.Kind == 3 then some (x21619.Kind == 3)
  else some (x21619.Kind == 4)) fun o21665 =>
  bif o21665 then (Option.bind (α := Bool) (bif x21619.Irq == 0 then (bif r21628 then some (x21619.Value == 0)
  else some false)
  else some false) fun o21676 =>
  some o21676)
  else (bif x21619.Kind == 5 then (Option.bind (α := Bool) (bif x21619.Irq == 0 then (bif r21628 then (Option.bind (M.s_l1In x21619.Value 0 16) fun r21697 =>
  some r21697)
  else some false)
  else some false) fun o21692 =>
  some o21692)
  else (Option.bind (α := Bool) (bif x21619.Kind == 6 then (Option.bind (M.s_l6Irq x21619.Irq) fun r21720 =>
  bif r21720 then (bif x21619.Cpu == 0 then (Option.bind (M.s_l1In x21619.Value 0 1) fun r21726 =>
  some r21726)
  else some false)
  else some false)
  else some false) fun o21716 =>
  some o21716))))
def M.s_StepMachine (x21546 : Machine) (x21563 : MachStep) : Option (Machine × Int × Bool) :=
  Option.bind (α := Bool) (Option.bind (M.s_l21Good x21546) fun r21741 =>
  bif !r21741 then some true
  else (Option.bind (M.s_l21Step x21546 x21563) fun r21746 =>
  some (!r21746))) fun o21738 =>
  bif o21738 then some ((⟨([] : List Route), ([] : List Bool), ([] : List Bool), ([] : List Interface)⟩ : Machine), 0, false)
  else (Option.bind (M.s_l21Make x21546 x21563) fun r21761 =>
  bif !r21761.2.2 then some ((⟨([] : List Route), ([] : List Bool), ([] : List Bool), ([] : List Interface)⟩ : Machine), 0, false)
  else some (r21761.1, r21761.2.1, true))
def M.i_isMachStep (x21983 : Machine) (x22000 : MachStep) : Option (Bool) :=
  bif x22000.Kind == 1 then (Option.bind (α := Bool) (Option.bind (M.i_isIrq x22000.Irq) fun r22019 =>
  bif r22019 then (bif x22000.Cpu == 0 then some (x22000.Value == 0)
  else some false)
  else some false) fun o22016 =>
  some o22016)
  else (bif x22000.Kind == 2 then some ((x22000.Kind == 2) && ((x22000.Irq == 0) && ((x22000.Cpu == 0) && ((x22000.Value == 0) && true))))
  else (Option.bind (α := Bool) (bif x22000.Kind == 3 then some (x22000.Kind == 3)
  else some (x22000.Kind == 4)) fun o22031 =>
  bif o22031 then (Option.bind (α := Bool) (bif x22000.Irq == 0 then (Option.bind (M.i_Machine_hasCpu x21983 x22000.Cpu) fun r22050 =>
  bif r22050 then some (x22000.Value == 0)
  else some false)
  else some false) fun o22046 =>
  some o22046)
  else (bif x22000.Kind == 5 then (Option.bind (α := Bool) (bif x22000.Irq == 0 then (Option.bind (M.i_Machine_hasCpu x21983 x22000.Cpu) fun r22074 =>
  bif r22074 then (Option.bind (M.i_isMask x22000.Value) fun r22079 =>
  some r22079)
  else some false)
  else some false) fun o22070 =>
  some o22070)
  else (bif x22000.Kind == 6 then (Option.bind (α := Bool) (Option.bind (M.i_isIrq x22000.Irq) fun r22101 =>
  bif r22101 then (bif x22000.Cpu == 0 then (Option.bind (M.i_inside x22000.Value 0 1) fun r22107 =>
  some r22107)
  else some false)
  else some false) fun o22098 =>
  some o22098)
  else some false))))
def M.i_stepMachine (x22142 : Machine) (x22159 : MachStep) : Option (Machine × Int × Bool) :=
  Option.bind (M.i_newMachine x22142) fun r22193 =>
  Option.bind (α := Int × Bool × List Route × List Bool × List Bool × List Interface × List Bool × List Bool × List Interface) (bif x22159.Kind == 1 then (Option.bind (gxIdx x22142.Raised x22159.Irq) fun y24857 =>
  Option.bind (gxIdx r22193.Raised x22159.Irq) fun y24858 =>
  some ((-1), !y24857, r22193.Routes, r22193.Enabled, (r22193.Raised.set x22159.Irq.toNat true), r22193.Cpus, r22193.Enabled, (r22193.Raised.set x22159.Irq.toNat true), r22193.Cpus))
  else (Option.bind (α := Int × Bool × List Route × List Bool × List Bool × List Interface × List Bool × List Interface) (bif x22159.Kind == 2 then (Option.bind (M.i_Machine_sync r22193) fun r26172 =>
  some ((-1), true, r26172.1, r26172.2.1, r26172.2.2.1, r26172.2.2.2, r22193.Enabled, r22193.Cpus))
  else (Option.bind (α := Int × Bool × List Bool × List Interface) (bif x22159.Kind == 3 then (Option.bind (gxIdx x22142.Cpus x22159.Cpu) fun y26828 =>
  Option.bind (M.i_takeIrq (⟨y26828.Mask, y26828.Stack, (⟨y26828.Queue.Slots, y26828.Queue.Waiting⟩ : Queue)⟩ : Interface)) fun r26838 =>
  Option.bind (gxIdx r22193.Cpus x22159.Cpu) fun y26854 =>
  some (r26838.2.1, r26838.2.2, r22193.Enabled, (r22193.Cpus.set x22159.Cpu.toNat (⟨r26838.1.Mask, r26838.1.Stack, (⟨r26838.1.Queue.Slots, r26838.1.Queue.Waiting⟩ : Queue)⟩ : Interface))))
  else (Option.bind (α := Int × Bool × List Bool × List Interface) (bif x22159.Kind == 4 then (Option.bind (gxIdx x22142.Cpus x22159.Cpu) fun y27210 =>
  Option.bind (M.i_leaveIrq (⟨y27210.Mask, y27210.Stack, (⟨y27210.Queue.Slots, y27210.Queue.Waiting⟩ : Queue)⟩ : Interface)) fun r27220 =>
  Option.bind (gxIdx r22193.Cpus x22159.Cpu) fun y27236 =>
  some (r27220.2.1, r27220.2.2, r22193.Enabled, (r22193.Cpus.set x22159.Cpu.toNat (⟨r27220.1.Mask, r27220.1.Stack, (⟨r27220.1.Queue.Slots, r27220.1.Queue.Waiting⟩ : Queue)⟩ : Interface))))
  else (Option.bind (α := List Bool × List Interface) (bif x22159.Kind == 5 then (Option.bind (gxIdx r22193.Cpus x22159.Cpu) fun y27397 =>
  some (r22193.Enabled, (r22193.Cpus.set x22159.Cpu.toNat (⟨x22159.Value, y27397.Stack, (⟨y27397.Queue.Slots, y27397.Queue.Waiting⟩ : Queue)⟩ : Interface))))
  else (Option.bind (α := List Bool) (bif x22159.Kind == 6 then (Option.bind (gxIdx r22193.Enabled x22159.Irq) fun y27427 =>
  some (r22193.Enabled.set x22159.Irq.toNat (x22159.Value == 1)))
  else some r22193.Enabled) fun o27421 =>
  some (o27421, r22193.Cpus))) fun o27388 =>
  some ((-1), true, o27388.1, o27388.2))) fun o27199 =>
  some (o27199.1, o27199.2.1, o27199.2.2.1, o27199.2.2.2))) fun o26817 =>
  some (o26817.1, o26817.2.1, r22193.Routes, o26817.2.2.1, r22193.Raised, o26817.2.2.2, o26817.2.2.1, o26817.2.2.2))) fun o26142 =>
  some (o26142.1, o26142.2.1, o26142.2.2.1, o26142.2.2.2.1, o26142.2.2.2.2.1, o26142.2.2.2.2.2.1, o26142.2.2.2.2.2.2.1, r22193.Raised, o26142.2.2.2.2.2.2.2))) fun o24825 =>
  some ((⟨o24825.2.2.1, o24825.2.2.2.1, o24825.2.2.2.2.1, o24825.2.2.2.2.2.1⟩ : Machine), o24825.1, o24825.2.1)
def M.i_StepMachine (x21927 : Machine) (x21944 : MachStep) : Option (Machine × Int × Bool) :=
  Option.bind (α := Bool) (Option.bind (M.i_IsMachine x21927) fun r22122 =>
  bif !r22122 then some true
  else (Option.bind (M.i_isMachStep x21927 x21944) fun r22127 =>
  some (!r22127))) fun o22119 =>
  bif o22119 then some ((⟨([] : List Route), ([] : List Bool), ([] : List Bool), ([] : List Interface)⟩ : Machine), 0, false)
  else (Option.bind (M.i_stepMachine x21927 x21944) fun r27459 =>
  bif !r27459.2.2 then some ((⟨([] : List Route), ([] : List Bool), ([] : List Bool), ([] : List Interface)⟩ : Machine), 0, false)
  else some (r27459.1, r27459.2.1, true))
def M.l_FnExactStepMachine (x21467 : Machine) (x21484 : MachStep) : Option (Bool) :=
  Option.bind (M.l_szMachine x21467 1048576) fun r21493 =>
  bif decide (r21493 < 0) then some true
  else (Option.bind (M.l_toMachine x21467) fun r21500 =>
  Option.bind (M.l_toMachStep x21484) fun r21545 =>
  Option.bind (M.s_StepMachine r21500 r21545) fun r21805 =>
  Option.bind (M.l_toMachine x21467) fun r21889 =>
  Option.bind (M.l_toMachStep x21484) fun r21926 =>
  Option.bind (M.i_StepMachine r21889 r21926) fun r27503 =>
  Option.bind (α := Bool) (Option.bind (M.l_eqMachine r27503.1 r21805.1) fun r27590 =>
  bif !r27590 then some true
  else (bif r27503.2.1 != r21805.2.1 then some true
  else some (!(r27503.2.2 == r21805.2.2)))) fun o27587 =>
  bif o27587 then some false
  else (Option.bind (M.l_toMachine x21467) fun r27603 =>
  Option.bind (M.l_eqMachine r21889 r27603) fun r27641 =>
  bif !r27641 then some false
  else (Option.bind (M.l_markMachine r21889 1) fun r27646 =>
  Option.bind (α := Bool) (bif decide (r27646.1 < 0) then some true
  else (Option.bind (M.l_eqMachine r27503.1 r21805.1) fun r27675 =>
  bif !r27675 then some true
  else (bif r27503.2.1 != r21805.2.1 then some true
  else some (!(r27503.2.2 == r21805.2.2))))) fun o27671 =>
  bif o27671 then some false
  else (Option.bind (M.l_markMachine r27503.1 1) fun r27686 =>
  Option.bind (M.l_heldMachine (⟨r27686.2.1, r27686.2.2.1, r27686.2.2.2.1, r27686.2.2.2.2⟩ : Machine) 1) fun r27704 =>
  bif decide (r27704 < 0) then some false
  else (bif r27704 != r27686.1 then some false
  else (Option.bind (M.l_toMachine x21467) fun r27712 =>
  Option.bind (M.l_toMachStep x21484) fun r27734 =>
  Option.bind (M.i_StepMachine r27712 r27734) fun r27735 =>
  Option.bind (α := Bool) (Option.bind (M.l_eqMachine r27735.1 r21805.1) fun r27828 =>
  bif !r27828 then some true
  else (bif r27735.2.1 != r21805.2.1 then some true
  else some (!(r27735.2.2 == r21805.2.2)))) fun o27825 =>
  bif o27825 then some false
  else (Option.bind (M.l_heldMachine (⟨r27686.2.1, r27686.2.2.1, r27686.2.2.2.1, r27686.2.2.2.2⟩ : Machine) 1) fun r27839 =>
  bif decide (r27839 < 0) then some false
  else (bif r27839 != r27686.1 then some false
  else some true))))))))
end Go.Proofs.YtllhajkgkghhdaaGreat
set_option linter.unusedVariables false
namespace Go.Gx
abbrev iv (x : Int) : Value := .int .i64 x
abbrev pB (b off : Nat) : Value := .pointer (some ⟨b, off, none⟩)
section
variable {α : Type} {E : Enc α} {F : List Nat} {w0 w w' : World} {Ls : List Seg} {xs ys : List α} {p q : Option Addr} {c : Nat} {seg : Seg}
variable {P : Program} {ops : Array Oper} {n : Nat} {Q : Exit → Act → World → Prop} {S S' : Store} {l rest : List Oper} {o : Oper}
theorem wR (m : Nat) (S' : Store) (w' : World) (k : W P ops n Q S' w' (l.drop m)) (h : ((runP P ops n m l S w).bind fun r => (sub S' r.1).map fun s => (s, r.2)) = some (S', w') := by kernel_rfl) : W P ops n Q S w l := W_run m S' w' h k
theorem wV (v : Value) (w' : World) (hr : (execOp (rho S) o).run P w = .ok (.value v) w') (k : W P ops n Q (putS S o.dst v) w' rest) (hok : okAll ops n S o = true := by kernel_rfl) : W P ops n Q S w (o :: rest) := W_val v w' hok hr k
theorem wK (k : Nat) {b : Bool} (c : Bool) (hb : b = c) (h : W P ops n Q ((k, .bool c) :: S) w l) (hk : look S k = some (.bool b) := by kernel_rfl) : W P ops n Q S w l := W_known k c hk hb h
theorem zV {C : World → Prop} {K : Act → Prop} (v : Value) (hr : ∀ w, C w → (execOp (rho S) o).run P w = .ok (.value v) w) (k : Z P ops n C K (putS S o.dst v) rest) (hok : okAll ops n S o = true := by kernel_rfl) : Z P ops n C K S (o :: rest) := Z_val v hok hr k
theorem zK {C : World → Prop} {K : Act → Prop} (k : Nat) {b : Bool} (c : Bool) (hb : b = c) (h : Z P ops n C K ((k, .bool c) :: S) l) (hk : look S k = some (.bool b) := by kernel_rfl) : Z P ops n C K S l := Z_known k c hk hb h
theorem cE {f : FuncId} {fn : Func} {cd : Code} {args : List Value} {R : Ending → World → Prop} (hf : P.funcs[f]? = some fn) (h : G P fn.ntmps cd (bodyPost P fn R) (initS 0 args) w) (hb : fn.body = some cd := by rfl) (hs : Nat.ble args.length fn.ntmps = true := by kernel_rfl) : Calls P f args.toArray w R := C_enter hf hb hs h
theorem rC {t : Nat} {v : Value} {rs : List ResultVar} {vs : List Value} (hs : RVs P S w rs vs) (h : look S t = some v := by kernel_rfl) : RVs P S w (.tmp t :: rs) (v :: vs) := ⟨h, hs⟩
theorem gT {cd : Operand} {b : Bool} {x y : Code} (hb : b = true) (ht : G P n x Q S w) (hc : evalO S cd = some (.bool b) := by kernel_rfl) : G P n (.cond cd x y) Q S w := G_cond_t hb hc ht
theorem gF {cd : Operand} {b : Bool} {x y : Code} (hb : b = false) (ht : G P n y Q S w) (hc : evalO S cd = some (.bool b) := by kernel_rfl) : G P n (.cond cd x y) Q S w := G_cond_f hb hc ht
theorem oE {B1 : Value → Seg → Prop} {R : List Seg} (v : Value) (s : Seg) {d : Nat} (hb : B1 v s) (hM : Mem F w0 w (Ls ++ ([s] ++ R))) (hd : o.dst = some d := by rfl) (hv : look S d = some v := by kernel_rfl) :
    N n (Q1 fun a' w' => a'.defers = [] ∧ ∃ v s, (∀ d, o.dst = some d → a'.tmps[d]? = some v) ∧ B1 v s ∧ Mem F w0 w' (Ls ++ ([s] ++ R))) .normal S w := ob_end v s hd hv hb hM
theorem eL (g : Bool) (k off : Nat) {t : TypeId} {x : Operand} {b : Nat} {cs : List Value} {e : TypeId} {fr : Nat × Nat} {v : Value} (hb : w.heap[b]? = some (.cells ⟨cs⟩ e fr)) (ho : o.op = .load t x := by rfl)
    (hx : evalO S x = some (.pointer (some ⟨b, off, none⟩)) := by kernel_rfl) (hs : shapeT P t = some (g, k) := by kernel_rfl) (hv : loadV g k cs off = some v := by kernel_rfl) : (execOp (rho S) o).run P w = .ok (.value v) w := E_load t x g k b off cs v ho hx hs hv hb
theorem eI {t : TypeId} {x ix : Operand} {len c : Nat} {i : Int} {k : Nat} {y : α} (hrd : rdS E w xs p c) (hlen : xs.length = len) (hm : gxIdx xs i = some y) (ho : o.op = .indexAddr t x ix := by rfl)
    (hx : evalO S x = some (.slice p len c) := by kernel_rfl) (hi : evalO S ix = some (.int .i64 i) := by kernel_rfl) (ht : sliceElem P t = some k := by kernel_rfl) : (execOp (rho S) o).run P w = .ok (.value (elemP p (i.toNat * k))) w := E_index t x ix len c .i64 i k ho hx hi ht hrd hlen hm
theorem eE (g : Bool) (k f m : Nat) {t : TypeId} {x : Operand} {i : Int} {y : α} {v : Value} (hrd : rdS E w xs p c) (hi : gxIdx xs i = some y) (hm : m = i.toNat * E.k + f := by rfl) (ho : o.op = .load t x := by rfl)
    (hx : evalO S x = some (elemP p m) := by kernel_rfl) (hs : shapeT P t = some (g, k) := by kernel_rfl) (hv : loadV g k (E.cells y) f = some v := by kernel_rfl) : (execOp (rho S) o).run P w = .ok (.value v) w := E_loadE t x g k i f m y v ho hx hs hv hrd hi hm
theorem eF {s : TypeId} {x : Operand} (fld m f : Nat) {y : α} {i : Int} (hrd : rdS E w xs p c) (hi : gxIdx xs i = some y) (ho : o.op = .fieldAddr s x fld := by rfl) (hx : evalO S x = some (elemP p m) := by kernel_rfl) (hf : fieldOff P s fld = some f := by kernel_rfl) : (execOp (rho S) o).run P w = .ok (.value (elemP p (m + f))) w := E_fieldE s x fld m f ho hx hf hrd hi
theorem wS (g : Bool) (k off : Nat) (v : Value) (i : Nat) (cs' : List Value) {b : Nat} {cs : List Value} {e : TypeId} {t : TypeId} {x y : Operand} (hM : Mem F w0 w Ls) (hi : Ls.getD i [] = [(b, .cells ⟨cs⟩ e (0, 0))])
    (kk : ∀ w', Mem F w0 w' (Ls.set i [(b, .cells ⟨cs'⟩ e (0, 0))]) → W P ops n Q (putS S o.dst undef) w' rest) (ho : o.op = .store t x y := by rfl) (hok : okAll ops n S o = true := by kernel_rfl) (hx : evalO S x = some (.pointer (some ⟨b, off, none⟩)) := by kernel_rfl) (hy : evalO S y = some v := by kernel_rfl)
    (hs : shapeT P t = some (g, k) := by kernel_rfl) (hk : Nat.beq v.cells.toList.length k = true := by kernel_rfl) (hone : v.cells.toList.all oneB = true := by kernel_rfl)
    (hl : Nat.ble (off + k) cs.length = true := by kernel_rfl) (hc' : splice cs off v.cells.toList = cs' := by kernel_rfl) : W P ops n Q S w (o :: rest) := W_store t x y g k b off cs e v i cs' hM hok ho hx hy hs hk hone hi hl hc' kk
theorem wE (g : Bool) (k i f m : Nat) (y y' : α) (v : Value) (pl : Nat) {t : TypeId} {x z : Operand} (hM : Mem F w0 w Ls) (hown : ownS E xs p c seg) (hy : xs[i]? = some y)
    (kk : ∀ w' seg', ownS E (xs.set i y') p c seg' → Mem F w0 w' (Ls.set pl seg') → W P ops n Q (putS S o.dst undef) w' rest) (hm : m = i * E.k + f := by rfl) (ho : o.op = .store t x z := by rfl) (hi : Ls.getD pl [] = seg := by kernel_rfl) (hok : okAll ops n S o = true := by kernel_rfl) (hx : evalO S x = some (elemP p m) := by kernel_rfl) (hz : evalO S z = some v := by kernel_rfl)
    (hs : shapeT P t = some (g, k) := by kernel_rfl) (hk : Nat.beq v.cells.toList.length k = true := by kernel_rfl) (hone : v.cells.toList.all oneB = true := by kernel_rfl) (hfk : Nat.ble (f + k) E.k = true := by kernel_rfl)
    (hsp : splice (E.cells y) f v.cells.toList = E.cells y' := by kernel_rfl) : W P ops n Q S w (o :: rest) := W_storeE t x z g k i f m y y' v pl hM hown hi hok ho hx hz hs hk hone hfk hsp hy hm kk
theorem wN (ob : Obj) (hM : Mem F w0 w Ls) (kk : ∀ b w', Mem F w0 w' (Ls ++ [[(b, ob)]]) → W P ops n Q (putS S o.dst (.pointer (some ⟨b, 0, none⟩))) w' rest) (hfz : fzOf (some ob) = (0, 0) := by rfl) (hok : okAll ops n S o = true := by kernel_rfl) (hr : (execOp (rho S) o).run P w = .ok (.value ((fun b => .pointer (some ⟨b, 0, none⟩)) w.heap.size)) (w.alloc ob) := by kernel_rfl) :
    W P ops n Q S w (o :: rest) := W_new (fun b => .pointer (some ⟨b, 0, none⟩)) ob hM hfz hok hr kk
theorem wA (bytes : Nat) (zsv : List Value) (pl : Nat) {cy : Nat} {zz : List α} {t : TypeId} {s y : Operand} (hM : Mem F w0 w Ls) (hown : ownS E xs p c seg) (hrd : rdS E w ys q cy) (hm : gxApp bytes xs ys = some zz)
    (kk : ∀ p' c' seg' w', ownS E zz p' c' seg' → Mem F w0 w' (Ls.set pl seg') → W P ops n Q (putS S o.dst (.slice p' zz.length c')) w' rest) (ho : o.op = .call { callee := .builtin .append, args := #[s, y], argTypes := #[t, t] } := by rfl) (hpl : Ls.getD pl [] = seg := by kernel_rfl) (hlt : Nat.blt pl Ls.length = true := by kernel_rfl)
    (hok : okAll ops n S o = true := by kernel_rfl) (hs : evalO S s = some (.slice p xs.length c) := by kernel_rfl) (hy : evalO S y = some (.slice q ys.length cy) := by kernel_rfl)
    (hi : sliceInfo P t = some (E.k, bytes, zsv) := by kernel_rfl) (hz : Nat.beq zsv.length E.k = true := by kernel_rfl) (hk : Nat.blt 0 E.k = true := by kernel_rfl) (hbp : Nat.blt 0 bytes = true := by kernel_rfl) : W P ops n Q S w (o :: rest) := W_append t s y bytes zsv pl cy hM hown hpl hlt hok ho hs hy hi hz hk hbp hrd hm kk
theorem wL (xs : List α) (ln : Nat) (ob : List Value) (e : TypeId) (hM : Mem F w0 w Ls) (kk : ∀ p' c' seg' w', ownS E xs p' c' seg' → Mem F w0 w' (Ls ++ [seg']) → W P ops n Q (putS S o.dst (.slice p' xs.length c')) w' rest) (hok : okAll ops n S o = true := by kernel_rfl)
    (hr : (execOp (rho S) o).run P w = .ok (.value (.slice (some ⟨w.heap.size, 0, none⟩) ln ln)) (w.alloc (.cells ⟨ob⟩ e (0, 0))) := by kernel_rfl) (hcs : ob = flat E xs := by kernel_rfl) (hln : xs.length = ln := by kernel_rfl) (hmax : Nat.ble ln 1000000 = true := by kernel_rfl) : W P ops n Q S w (o :: rest) := W_lit xs ln ob e hM hok hr hcs hln hmax kk
theorem wX (k : Nat) (v v' : Value) (he : v = v') (h : W P ops n Q ((k, v') :: S) w l) (hk : look S k = some v := by kernel_rfl) : W P ops n Q S w l := W_conv k v v' hk he h
theorem Mem.pk (h : Mem F w0 w Ls) (is : List Nat) (hd : distinct is = true := by kernel_rfl) : Mem F w0 w (Gx.pick Ls is) := Mem.pick h is hd
theorem Sat.s {a : Act} (h : Sat n S a) (hs : Gx.sub S' S = some S' := by kernel_rfl) : Sat n S' a := Sat.sub h hs
theorem a1 {id : Nat} {y : Code} (h : W P l.toArray n (Exit.then (y.wp P Q) Q) S w l) : G P n (.seq (.region id l.toArray false) y) Q S w := G_seq (G_region h)
theorem a2 {y : Code} (h : G P n y Q S w) : W P ops n (Exit.then (y.wp P Q) Q) S w [] := W_nil (N_then h)
end
end Go.Gx
