/- A small library for walks: a symbolic store over a frame, rules for codes and lists of operations, each operation run by the kernel. -/
import Derived.WalkKit
import Derived.Deep.Quiet
import Derived.KernelRfl
set_option linter.unusedVariables false
set_option linter.unusedSimpArgs false
namespace Go.Gx
/-! ### The symbolic store -/
abbrev Store := List (Nat × Value)
def look : Store → Nat → Option Value
  | [], _ => none
  | (i, v) :: r, k => bif Nat.beq i k then some v else look r k
def sub : Store → Store → Option Store
  | [], _ => some []
  | (k, _) :: r, S => match look S k, sub r S with
    | some v, some r' => some ((k, v) :: r')
    | _, _ => none
def evalO (S : Store) : Operand → Option Value
  | .tmp t => look S t
  | .const v => some v
  | .global g => some (.pointer (some ⟨g, 0, none⟩))
  | .func f => some (.func (.func f) #[] #[])
def rho (S : Store) (x : Operand) : Value := (evalO S x).getD undef
def w64 (x : Int) : Int := IntKind.i64.wrap x
def putS (S : Store) (dst : Option Tmp) (v : Value) : Store :=
  match dst with
  | some d => (d, v) :: S
  | none => S
structure Sat (n : Nat) (S : Store) (a : Act) : Prop where
  defers : a.defers = []
  size : a.tmps.size = n
  at_ : ∀ k v, look S k = some v → a.tmps[k]? = some v

theorem look_cons (i k : Nat) (v : Value) (S : Store) : look ((i, v) :: S) k = if i = k then some v else look S k := by
  by_cases h : i = k
  · subst h; simp [look]
  · have : Nat.beq i k = false := by
      cases hb : Nat.beq i k with
      | false => rfl
      | true => exact absurd (Nat.eq_of_beq_eq_true hb) h
    simp [look, this, h]

theorem look_sub {S' S1 : Store} : sub S' S1 = some S' → ∀ k v, look S' k = some v → look S1 k = some v := by
  induction S' with
  | nil => intro _ k v h; simp [look] at h
  | cons p r ih =>
    obtain ⟨i, x⟩ := p
    intro hs k v h
    simp only [sub] at hs
    split at hs
    · rename_i u r' hu hr
      simp only [Option.some.injEq, List.cons.injEq, Prod.mk.injEq, true_and] at hs
      obtain ⟨rfl, rfl⟩ := hs
      rw [look_cons] at h
      split at h
      · rename_i hk; subst hk; rw [hu]; exact h
      · exact ih hr k v h
    · cases hs

theorem Sat.sub {n : Nat} {S S' : Store} {a : Act} (h : Sat n S a) (hs : Gx.sub S' S = some S') : Sat n S' a :=
  ⟨h.defers, h.size, fun k v hk => h.at_ k v (look_sub hs k v hk)⟩

theorem Sat.put {n : Nat} {S : Store} {a : Act} (h : Sat n S a) (dst : Option Tmp) (v : Value) (hd : ∀ d, dst = some d → d < n) : Sat n (putS S dst v) (a.put dst v) := by
  cases dst with
  | none => exact h
  | some d =>
    have hdn := hd d rfl
    refine ⟨h.defers, by simp [Act.put, h.size], fun k u hk => ?_⟩
    simp only [putS, look_cons] at hk
    simp only [Act.put]
    by_cases hdk : d = k
    · subst hdk
      simp only [if_true, Option.some.injEq] at hk
      subst hk
      simp [h.size, hdn]
    · rw [if_neg hdk] at hk
      rw [Array.getElem?_setIfInBounds_ne hdk]
      exact h.at_ k u hk

theorem Sat.eval {n : Nat} {S : Store} {a : Act} (h : Sat n S a) {x : Operand} (hx : (evalO S x).isSome = true) : a.eval x = rho S x := by
  cases x with
  | tmp t =>
    simp only [evalO] at hx
    obtain ⟨v, hv⟩ := Option.isSome_iff_exists.1 hx
    have := h.at_ t v hv
    simp [Act.eval, rho, evalO, hv, Array.getD_eq_getD_getElem?, this]
  | const v => rfl
  | global g => rfl
  | func f => rfl

def noSelect (o : Oper) : Bool := match o.op with
  | .select .. => false
  | _ => true
def dstOk (n : Nat) (o : Oper) : Bool := match o.dst with
  | some d => Nat.blt d n
  | none => true
def okOps (S : Store) (n : Nat) (o : Oper) : Bool := (o.op.operands.all fun x => (evalO S x).isSome) && (noSelect o && dstOk n o)
theorem dstOk_spec {n : Nat} {o : Oper} (h : dstOk n o = true) : ∀ d, o.dst = some d → d < n := by
  intro d hd
  simp only [dstOk, hd] at h
  exact Nat.blt_eq ▸ h
theorem okOps_dst {S : Store} {n : Nat} {o : Oper} (h : okOps S n o = true) : ∀ d, o.dst = some d → d < n := by
  simp only [okOps, Bool.and_eq_true] at h
  exact dstOk_spec h.2.2
theorem exec_agree {n : Nat} {S : Store} {a : Act} {o : Oper} (h : Sat n S a) (hok : okOps S n o = true) : execOp a.eval o = execOp (rho S) o := by
  simp only [okOps, Bool.and_eq_true] at hok
  refine execOp_congr o ?_ ?_
  · intro cs b hsel
    have := hok.2.1
    simp [noSelect, hsel] at this
  · intro x hx
    exact h.eval (by simpa using (Array.all_eq_true'.1 hok.1) x hx)

/-! ### Guards -/
def wantS (ops : Array Oper) (S : Store) (o : Oper) : Option Bool :=
  match o.guard with
  | none => some true
  | some (j, want) => match (ops[j]?).bind (·.dst) with
    | none => some false
    | some t => match look S t with
      | none => none
      | some (.bool b) => some (b == want)
      | some _ => some false
theorem wantS_spec {n : Nat} {ops : Array Oper} {S : Store} {a : Act} {o : Oper} {b : Bool} (h : Sat n S a) (hw : wantS ops S o = some b) :
    Region.wanted o (yielded ops a.tmps) = b := by
  unfold wantS at hw
  unfold Region.wanted
  cases hg : o.guard with
  | none => simpa [hg] using hw
  | some gw =>
    obtain ⟨j, want⟩ := gw
    simp only [hg] at hw ⊢
    unfold yielded
    cases ht : (ops[j]?).bind (·.dst) with
    | none => simp only [ht] at hw; simp only [Option.bind_none]; simpa using hw
    | some t =>
      simp only [ht] at hw
      cases hl : look S t with
      | none => simp [hl] at hw
      | some v =>
        have hv := h.at_ t v hl
        simp only [hl] at hw
        simp only [Option.bind_some, hv]
        cases v <;> first
          | (simp only [Option.some.injEq] at hw; subst hw; rfl)
          | (simp only [Option.some.injEq] at hw; subst hw; rename_i c; cases c <;> cases want <;> rfl)

/-! ### A list of operations -/
def W (P : Program) (ops : Array Oper) (n : Nat) (Q : Exit → Act → World → Prop) (S : Store) (w : World) (l : List Oper) : Prop :=
  ∀ a, Sat n S a → wpList P ops Q l a w

def runP (P : Program) (ops : Array Oper) (n : Nat) : Nat → List Oper → Store → World → Option (Store × World)
  | 0, _, S, w => some (S, w)
  | _ + 1, [], _, _ => none
  | m + 1, o :: r, S, w => match wantS ops S o with
    | none => none
    | some true => bif okOps S n o then
        match (execOp (rho S) o).run P w with
        | .ok (.value v) w' => runP P ops n m r (putS S o.dst v) w'
        | .ok .skip w' => runP P ops n m r (putS S o.dst undef) w'
        | _ => none
      else none
    | some false => bif dstOk n o then runP P ops n m r (putS S o.dst undef) w else none

section
variable {P : Program} {ops : Array Oper} {n : Nat} {Q : Exit → Act → World → Prop} {S S' : Store} {w w' : World} {l rest : List Oper} {o : Oper}

theorem W_runP : ∀ (m : Nat) (l : List Oper) (S : Store) (w : World) {S1 : Store} {w1 : World}, runP P ops n m l S w = some (S1, w1) →
    W P ops n Q S1 w1 (l.drop m) → W P ops n Q S w l := by
  intro m
  induction m with
  | zero => intro l S w S1 w1 h k; simp only [runP, Option.some.injEq, Prod.mk.injEq] at h; obtain ⟨rfl, rfl⟩ := h; exact k
  | succ m ih =>
    intro l S w S1 w1 h k
    cases l with
    | nil => simp [runP] at h
    | cons o r =>
      simp only [List.drop_succ_cons] at k
      intro a ha
      unfold wpList
      simp only [runP] at h
      cases hw : wantS ops S o with
      | none => simp [hw] at h
      | some b =>
        rw [wantS_spec ha hw]
        cases b with
        | true =>
          simp only [hw] at h
          simp only [if_true]
          left
          cases hok : okOps S n o with
          | false => simp [hok] at h
          | true =>
            simp only [hok, cond_true] at h
            unfold Oper.wp
            rw [exec_agree ha hok]
            cases hr : (execOp (rho S) o).run P w with
            | halt x w2 => simp [hr] at h
            | ok nx w2 =>
              simp only [hr] at h
              cases nx <;> simp only [] at h <;> first
                | (cases h; done)
                | exact ih _ _ _ h k _ (ha.put _ _ (okOps_dst hok))
        | false =>
          simp only [hw] at h
          simp only [Bool.false_eq_true, if_false]
          cases hd : dstOk n o with
          | false => simp [hd] at h
          | true =>
            simp only [hd, cond_true] at h
            exact ih _ _ _ h k _ (ha.put _ _ (dstOk_spec hd))

theorem W_sub (S' : Store) (hs : sub S' S = some S') (k : W P ops n Q S' w l) : W P ops n Q S w l := fun a ha => k a (ha.sub hs)

/-- Several operations, run by the kernel; of the store behind them only what is written is kept. -/
theorem W_run (m : Nat) (S' : Store) (w' : World) (h : ((runP P ops n m l S w).bind fun r => (sub S' r.1).map fun s => (s, r.2)) = some (S', w'))
    (k : W P ops n Q S' w' (l.drop m)) : W P ops n Q S w l := by
  cases hr : runP P ops n m l S w with
  | none => simp [hr] at h
  | some r =>
    simp only [hr, Option.bind_some, Option.map_eq_some_iff, Prod.mk.injEq] at h
    obtain ⟨s, hs, rfl, rfl⟩ := h
    exact W_runP m l S w hr (W_sub _ hs k)

/-- One operation: what it comes to, as a whole. -/
def oneS (P : Program) (ops : Array Oper) (n : Nat) (S : Store) (w : World) (o : Oper) : Option (Result Next) :=
  match wantS ops S o with
  | some true => bif okOps S n o then some ((execOp (rho S) o).run P w) else none
  | _ => none
theorem W_one (hwant : wantS ops S o = some true) (hok : okOps S n o = true)
    (h : ∀ a, Sat n S a → (o.upon P a (wpList P ops Q rest) Q ((execOp (rho S) o).run P w))) : W P ops n Q S w (o :: rest) := by
  intro a ha
  unfold wpList
  rw [wantS_spec ha hwant]
  simp only [if_true]
  left
  unfold Oper.wp
  rw [exec_agree ha hok]
  exact h a ha
def okAll (ops : Array Oper) (n : Nat) (S : Store) (o : Oper) : Bool := (match wantS ops S o with | some true => true | _ => false) && okOps S n o
theorem okAll_spec (h : okAll ops n S o = true) : wantS ops S o = some true ∧ okOps S n o = true := by
  simp only [okAll, Bool.and_eq_true] at h
  refine ⟨?_, h.2⟩
  cases hw : wantS ops S o with
  | none => simp [hw] at h
  | some b => cases b with
    | true => rfl
    | false => simp [hw] at h

/-- An operation whose run gives a value, the world being what the equation says. -/
theorem W_val (v : Value) (w' : World) (hok : okAll ops n S o = true) (hr : (execOp (rho S) o).run P w = .ok (.value v) w')
    (k : W P ops n Q (putS S o.dst v) w' rest) : W P ops n Q S w (o :: rest) :=
  W_one (okAll_spec hok).1 (okAll_spec hok).2 fun a ha => by rw [hr]; exact k _ (ha.put _ _ (okOps_dst (okAll_spec hok).2))
theorem W_skip (w' : World) (hok : okAll ops n S o = true) (hr : (execOp (rho S) o).run P w = .ok .skip w')
    (k : W P ops n Q (putS S o.dst undef) w' rest) : W P ops n Q S w (o :: rest) :=
  W_one (okAll_spec hok).1 (okAll_spec hok).2 fun a ha => by rw [hr]; exact k _ (ha.put _ _ (okOps_dst (okAll_spec hok).2))
/-- A call. -/
theorem W_call (f : FuncId) (args : Array Value) (hok : okAll ops n S o = true) (hr : (execOp (rho S) o).run P w = .ok (.enter f args) w)
    (hc : Calls P f args w fun e w' => ∃ v, e = .returned v ∧ W P ops n Q (putS S o.dst v) w' rest) : W P ops n Q S w (o :: rest) :=
  W_one (okAll_spec hok).1 (okAll_spec hok).2 fun a ha => by
    rw [hr]
    exact hc.mono fun e w' ⟨v, he, hk⟩ => by subst he; exact hk _ (ha.put _ _ (okOps_dst (okAll_spec hok).2))
/-- A Bool in the store is parted. -/
theorem W_part (b : Bool) (ht : b = true → W P ops n Q S w l) (hf : b = false → W P ops n Q S w l) : W P ops n Q S w l := by
  cases b
  · exact hf rfl
  · exact ht rfl
end

/-! ### Codes -/
def G (P : Program) (n : Nat) (c : Code) (Q : Exit → Act → World → Prop) (S : Store) (w : World) : Prop := ∀ a, Sat n S a → c.wp P Q a w
def N (n : Nat) (Q : Exit → Act → World → Prop) (e : Exit) (S : Store) (w : World) : Prop := ∀ a, Sat n S a → Q e a w
section
variable {P : Program} {n : Nat} {Q : Exit → Act → World → Prop} {S : Store} {w : World} {x y : Code}
theorem G_sub (S' : Store) (hs : sub S' S = some S') (k : G P n x Q S' w) : G P n x Q S w := fun a ha => k a (ha.sub hs)
theorem N_sub {e : Exit} (S' : Store) (hs : sub S' S = some S') (k : N n Q e S' w) : N n Q e S w := fun a ha => k a (ha.sub hs)
theorem G_seq (h : G P n x (Exit.then (y.wp P Q) Q) S w) : G P n (.seq x y) Q S w := fun a ha => wp_seq (h a ha)
theorem G_region {id : Nat} {l : List Oper} (h : W P l.toArray n Q S w l) : G P n (.region id l.toArray false) Q S w := fun a ha => wp_region_lit (h a ha)
theorem W_nil {ops : Array Oper} (h : N n Q .normal S w) : W P ops n Q S w [] := fun a ha => h a ha
theorem G_skip (h : N n Q .normal S w) : G P n .skip Q S w := fun a ha => wp_skip (h a ha)
theorem G_exit {id : Nat} (h : N n Q (.exit id) S w) : G P n (.exit id) Q S w := fun a ha => wp_exit (h a ha)
theorem G_ret (h : N n Q .ret S w) : G P n .ret Q S w := fun a ha => wp_ret (h a ha)
theorem G_block {id : Nat} (h : G P n x (Exit.inBlock id Q) S w) : G P n (.block id x) Q S w := fun a ha => wp_block (h a ha)
theorem G_cond {c : Operand} (b : Bool) (hc : evalO S c = some (.bool b)) (ht : b = true → G P n x Q S w) (hf : b = false → G P n y Q S w) : G P n (.cond c x y) Q S w := by
  intro a ha
  have he : a.eval c = .bool b := by rw [ha.eval (by simp [hc])]; simp [rho, hc]
  exact wp_cond_split he (fun h => ht h a ha) (fun h => hf h a ha)
theorem G_cond_t {c : Operand} {b : Bool} (hb : b = true) (hc : evalO S c = some (.bool b)) (ht : G P n x Q S w) : G P n (.cond c x y) Q S w :=
  G_cond b hc (fun _ => ht) (fun h => by rw [hb] at h; cases h)
theorem G_cond_f {c : Operand} {b : Bool} (hb : b = false) (hc : evalO S c = some (.bool b)) (hf : G P n y Q S w) : G P n (.cond c x y) Q S w :=
  G_cond b hc (fun h => by rw [hb] at h; cases h) (fun _ => hf)
theorem N_then (h : G P n y Q S w) : N n (Exit.then (y.wp P Q) Q) .normal S w := h
theorem N_then_exit {K : Act → World → Prop} {id : Nat} (h : N n Q (.exit id) S w) : N n (Exit.then K Q) (.exit id) S w := h
theorem N_then_ret {K : Act → World → Prop} (h : N n Q .ret S w) : N n (Exit.then K Q) .ret S w := h
theorem N_block {id : Nat} (h : N n Q .normal S w) : N n (Exit.inBlock id Q) .normal S w := h
theorem N_block_ret {id : Nat} (h : N n Q .ret S w) : N n (Exit.inBlock id Q) .ret S w := h
theorem N_block_eq {id : Nat} (h : N n Q .normal S w) : N n (Exit.inBlock id Q) (.exit id) S w := fun a ha => by
  simp only [Exit.inBlock, if_true]; exact h a ha
theorem N_block_ne {id id' : Nat} (hne : Nat.beq id' id = false) (h : N n Q (.exit id') S w) : N n (Exit.inBlock id Q) (.exit id') S w := fun a ha => by
  have : id' ≠ id := fun e => by subst e; simp at hne
  simp only [Exit.inBlock, this, if_false]; exact h a ha
end

/-! ### A function's frame -/
def initS : Nat → List Value → Store
  | _, [] => []
  | i, v :: r => (i, v) :: initS (i + 1) r
theorem look_initS : ∀ (l : List Value) (i k : Nat) (v : Value), look (initS i l) k = some v → i ≤ k ∧ l[k - i]? = some v
  | [], i, k, v, h => by simp [initS, look] at h
  | x :: r, i, k, v, h => by
    simp only [initS, look_cons] at h
    split at h
    · rename_i hik; subst hik; simpa using h
    · have := look_initS r (i + 1) k v h
      refine ⟨by omega, ?_⟩
      rw [show k - i = (k - (i + 1)) + 1 by omega]
      simpa using this.2
theorem C_enter {P : Program} {f : FuncId} {fn : Func} {c : Code} {args : List Value} {w : World} {R : Ending → World → Prop}
    (hf : P.funcs[f]? = some fn) (hb : fn.body = some c) (hs : Nat.ble args.length fn.ntmps = true)
    (h : G P fn.ntmps c (bodyPost P fn R) (initS 0 args) w) : Calls P f args.toArray w R := by
  have hs : args.length ≤ fn.ntmps := Nat.ble_eq ▸ hs
  refine calls_of_wp hf hb (h _ ⟨rfl, by simp; omega, fun k v hk => ?_⟩)
  have := (look_initS args 0 k v hk).2
  simp only [Nat.sub_zero] at this
  have hlt : k < args.length := (List.getElem?_eq_some_iff.1 this).1
  rw [List.getElem?_eq_getElem hlt] at this
  simpa [Array.getElem?_append, hlt] using this

/-- A result. -/
def RV (P : Program) (S : Store) (w : World) (r : ResultVar) (v : Value) : Prop :=
  match r with
  | .tmp t => look S t = some v
  | .cell t ty => ∃ a, look S t = some (.pointer (some a)) ∧ (loadVar ty a).run P w = .ok v w
def RVs (P : Program) (S : Store) (w : World) : List ResultVar → List Value → Prop
  | [], [] => True
  | r :: rs, v :: vs => RV P S w r v ∧ RVs P S w rs vs
  | _, _ => False
def retV : List Value → Value
  | [v] => v
  | vs => .tuple vs.toArray
def rvSem (tmps : Array Value) : ResultVar → Sem Value
  | .tmp t => pure (tmps.getD t undef)
  | .cell a t => do loadVar t (← asAddr (tmps.getD a undef))

theorem RV.run {P : Program} {S : Store} {w : World} {n : Nat} {a : Act} (ha : Sat n S a) {r : ResultVar} {v : Value} (h : RV P S w r v) :
    (rvSem a.tmps r).run P w = .ok v w := by
  cases r with
  | tmp t =>
    have := ha.at_ t v h
    simp [rvSem, this]
  | cell t ty =>
    obtain ⟨ad, h1, h2⟩ := h
    have := ha.at_ t _ h1
    simp [rvSem, this, asAddr, h2]

theorem RVs.run {P : Program} {S : Store} {w : World} {n : Nat} {a : Act} (ha : Sat n S a) : ∀ (rs : List ResultVar) (vs : List Value), RVs P S w rs vs →
    (rs.mapM (rvSem a.tmps)).run P w = .ok vs w
  | [], [], _ => by simp
  | r :: rs, v :: vs, h => by
    have h1 := RV.run ha h.1
    have h2 := RVs.run ha rs vs h.2
    simp only [List.mapM_cons, Sem.run_bind, h1, Result.andThen_ok, h2, Sem.run_pure]
  | [], _ :: _, h => h.elim
  | _ :: _, [], h => h.elim

theorem results_eq (fn : Func) (tmps : Array Value) : results fn tmps = (do
    let vs ← fn.results.mapM (rvSem tmps)
    pure (if h : vs.size = 1 then vs[0] else .tuple vs)) := by
  unfold results
  congr 2

theorem results_run {P : Program} {S : Store} {w : World} {n : Nat} {a : Act} (ha : Sat n S a) {fn : Func} {vs : List Value} (h : RVs P S w fn.results.toList vs) :
    (results fn a.tmps).run P w = .ok (retV vs) w := by
  rw [results_eq, Array.mapM_eq_mapM_toList]
  have := RVs.run ha _ _ h
  rw [show ((List.toArray <$> List.mapM (rvSem a.tmps) fn.results.toList : Sem (Array Value))) = (do let l ← List.mapM (rvSem a.tmps) fn.results.toList; pure l.toArray) from rfl]
  simp only [Sem.run_bind, this, Result.andThen_ok, Sem.run_pure]
  match vs with
  | [] => simp [retV]
  | [v] => simp [retV]
  | v :: u :: r => simp [retV]

theorem N_ret {P : Program} {fn : Func} {R : Ending → World → Prop} {S : Store} {w : World} {n : Nat} (vs : List Value) (h : RVs P S w fn.results.toList vs)
    (hR : R (.returned (retV vs)) w) : N n (bodyPost P fn R) .ret S w := fun _ ha => ⟨ha.defers, retV vs, results_run ha h, hR⟩
theorem N_end {P : Program} {fn : Func} {R : Ending → World → Prop} {S : Store} {w : World} {n : Nat} (vs : List Value) (h : RVs P S w fn.results.toList vs)
    (hR : R (.returned (retV vs)) w) : N n (bodyPost P fn R) .normal S w := fun _ ha => ⟨ha.defers, retV vs, results_run ha h, hR⟩
end Go.Gx
