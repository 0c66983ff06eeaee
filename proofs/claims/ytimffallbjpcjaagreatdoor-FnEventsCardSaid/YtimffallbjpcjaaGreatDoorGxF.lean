/- The rules for regions that draw, in the form in which proofs use them; small lemmas on Option and Bool. -/
import Derived.Test.YtimffallbjpcjaaGreatDoorGxE
set_option linter.unusedVariables false
set_option linter.unusedSimpArgs false
namespace Go.Gx
section
variable {P : Program} {ops : Array Oper} {n : Nat} {Q : Exit → Act → World → Prop} {S : Store} {w w0 : World} {F : List Nat} {Ls : List Seg} {C : World → Prop} {K : Act → Prop} {l rest : List Oper} {o : Oper}
/-! ### Values known ahead: one walk of the lexical order -/
def Z (P : Program) (ops : Array Oper) (n : Nat) (C : World → Prop) (K : Act → Prop) (S : Store) (l : List Oper) : Prop := ∀ a, Sat n S a → wpQuiet P ops C K l a
theorem Z_nil (h : ∀ a, Sat n S a → K a) : Z P ops n C K S [] := h
theorem Z_sub (S' : Store) (hs : sub S' S = some S') (k : Z P ops n C K S' l) : Z P ops n C K S l := fun a ha => k a (ha.sub hs)
theorem Z_val (v : Value) (hok : okAll ops n S o = true) (hr : ∀ w, C w → (execOp (rho S) o).run P w = .ok (.value v) w) (k : Z P ops n C K (putS S o.dst v) rest) : Z P ops n C K S (o :: rest) := by
  intro a ha
  unfold wpQuiet
  rw [wantS_spec ha (okAll_spec hok).1]
  simp only [if_true]
  refine ⟨v, fun w hw => ?_, k _ (ha.put _ _ (okOps_dst (okAll_spec hok).2))⟩
  unfold Oper.quietAt
  rw [exec_agree ha (okAll_spec hok).2, hr w hw]
  exact ⟨rfl, rfl⟩
theorem Z_call (f : FuncId) (args : Array Value) (v : Value) (hok : okAll ops n S o = true) (hr : ∀ w, (execOp (rho S) o).run P w = .ok (.enter f args) w)
    (hc : ∀ w, C w → Calls P f args w fun e w' => e = .returned v ∧ C w') (k : Z P ops n C K (putS S o.dst v) rest) : Z P ops n C K S (o :: rest) := by
  intro a ha
  unfold wpQuiet
  rw [wantS_spec ha (okAll_spec hok).1]
  simp only [if_true]
  refine ⟨v, fun w hw => ?_, k _ (ha.put _ _ (okOps_dst (okAll_spec hok).2))⟩
  unfold Oper.quietAt
  rw [exec_agree ha (okAll_spec hok).2, hr w]
  exact ⟨rfl, hc w hw⟩
theorem Z_part (b : Bool) (ht : b = true → Z P ops n C K S l) (hf : b = false → Z P ops n C K S l) : Z P ops n C K S l := by
  cases b
  · exact hf rfl
  · exact ht rfl
/-- A Bool in the store, known to be b. -/
theorem Z_known (k : Nat) {b : Bool} (c : Bool) (hk : look S k = some (.bool b)) (hb : b = c) (h : Z P ops n C K ((k, .bool c) :: S) l) : Z P ops n C K S l := by
  subst hb
  refine fun a ha => h a ⟨ha.defers, ha.size, fun j v hj => ?_⟩
  rw [look_cons] at hj
  split at hj
  · rename_i he; subst he; exact ha.at_ _ _ (by rw [hk]; exact hj)
  · exact ha.at_ j v hj
theorem W_known (k : Nat) {b : Bool} (c : Bool) (hk : look S k = some (.bool b)) (hb : b = c) (h : W P ops n Q ((k, .bool c) :: S) w l) : W P ops n Q S w l := by
  subst hb
  refine fun a ha => h a ⟨ha.defers, ha.size, fun j v hj => ?_⟩
  rw [look_cons] at hj
  split at hj
  · rename_i he; subst he; exact ha.at_ _ _ (by rw [hk]; exact hj)
  · exact ha.at_ j v hj
theorem Z_run1 (v : Value) (hok : okAll ops n S o = true) (hr : ∀ w, (execOp (rho S) o).run P w = .ok (.value v) w) (k : Z P ops n C K (putS S o.dst v) rest) : Z P ops n C K S (o :: rest) :=
  Z_val v hok (fun w _ => hr w) k
theorem Z_not (hw : wantS ops S o = some false) (hd : dstOk n o = true) (k : Z P ops n C K (putS S o.dst undef) rest) : Z P ops n C K S (o :: rest) := by
  intro a ha
  unfold wpQuiet
  rw [wantS_spec ha hw]
  simp only [Bool.false_eq_true, if_false]
  exact k _ (ha.put _ _ (dstOk_spec hd))
/-- Several operations that touch no memory, with their values. -/
def oneZ (P : Program) (ops : Array Oper) (n : Nat) (S : Store) (w : World) (o : Oper) : Option (Result Next) :=
  match wantS ops S o with
  | some true => bif okOps S n o then some ((execOp (rho S) o).run P w) else none
  | some false => bif dstOk n o then some (.ok (.value undef) w) else none
  | none => none
def resL (P : Program) (ops : Array Oper) (n : Nat) : List Value → List Oper → Store → World → List (Option (Result Next))
  | [], _, _, _ => []
  | _ :: _, [], _, _ => [none]
  | v :: vs, o :: r, S, w => oneZ P ops n S w o :: resL P ops n vs r (putS S o.dst v) w
def putL : List Value → List Oper → Store → Store
  | v :: vs, o :: r, S => putL vs r (putS S o.dst v)
  | _, _, S => S
theorem Z_runL : ∀ (vs : List Value) {l : List Oper} {S : Store}, (∀ w, resL P ops n vs l S w = vs.map (fun v => some (.ok (.value v) w))) → Z P ops n C K (putL vs l S) (l.drop vs.length) → Z P ops n C K S l
  | [], _, _, _, k => k
  | v :: vs, [], _, h, _ => by
    have := h default
    simp [resL] at this
  | v :: vs, o :: r, S, h, k => by
    have hd : ∀ w, oneZ P ops n S w o = some (.ok (.value v) w) := fun w => by
      have := h w
      simp only [resL, List.map_cons, List.cons.injEq] at this
      exact this.1
    have ht : ∀ w, resL P ops n vs r (putS S o.dst v) w = vs.map (fun v => some (.ok (.value v) w)) := fun w => by
      have := h w
      simp only [resL, List.map_cons, List.cons.injEq] at this
      exact this.2
    have ih := Z_runL vs (l := r) (S := putS S o.dst v) ht k
    unfold oneZ at hd
    cases hw : wantS ops S o with
    | none => have := hd default; simp [hw] at this
    | some b => cases b with
      | true =>
        cases hok : okOps S n o with
        | false => have := hd default; simp [hw, hok] at this
        | true =>
          refine Z_val v (by simp [okAll, hw, hok]) (fun w _ => ?_) ih
          have := hd w
          simpa [hw, hok] using this
      | false =>
        cases hok : dstOk n o with
        | false => have := hd default; simp [hw, hok] at this
        | true =>
          have := hd default
          simp only [hw, hok, cond_true, Option.some.injEq, Result.ok.injEq, Next.value.injEq, and_true] at this
          subst this
          exact Z_not hw hok ih
theorem Z_runs (vs : List Value) (S' : Store) (h : ∀ w, resL P ops n vs l S w = vs.map (fun v => some (.ok (.value v) w))) (hs : sub S' (putL vs l S) = some S') (k : Z P ops n C K S' (l.drop vs.length)) : Z P ops n C K S l :=
  Z_runL vs h (Z_sub S' hs k)
theorem G_quiet {id : Nat} (hmix : P.follows .mixedOrders = true) (hlex : Region.lexB .any l.toArray = true) (hM : Mem F w0 w Ls)
    (h : Z P l.toArray n (fun w' => Mem F w0 w' Ls) (fun a => ∀ w', Mem F w0 w' Ls → Q .normal a w') S l) : G P n (.region id l.toArray true) Q S w := fun a ha =>
  wp_region_quiet (C := fun w' => Mem F w0 w' Ls) hmix hlex (Mem.drew hM) (by simpa using h a ha)

/-! ### Values of their own -/
def dstOf (l : List Oper) (j : Nat) : Nat := match l[j]? with
  | some o => match o.dst with
    | some d => d
    | none => 0
  | none => 0
/-- What an operation looks at, as a store. -/
def addS (l : List Oper) (j : Nat) (v : Value) (S : Store) : Store := match l[j]? with
  | some o => match o.dst with
    | some d => (d, v) :: S
    | none => S
  | none => S
def obE (l : List Oper) (B : Nat → (Nat → Value) → Value → Seg → Prop) (Y : List (List Nat)) (g : Nat → Seg) : List Nat → (Nat → Value) → Store → ((Nat → Value) → Store → Prop) → Prop
  | [], f, S, K => K f S
  | j :: r, f, S, K => ∀ v, B j (only (at? Y j) f) v (g j) → obE l B Y g r (upd f j v) (addS l j v S) K
def obX (l : List Oper) (Bw : Nat → (Nat → Value) → Value → Prop) (Y : List (List Nat)) : List Nat → (Nat → Value) → Store → ((Nat → Value) → Store → Prop) → Prop
  | [], f, S, K => K f S
  | j :: r, f, S, K => ∀ v, Bw j (only (at? Y j) f) v → obX l Bw Y r (upd f j v) (addS l j v S) K
def allOb (p : Nat → Oper → Prop) : Nat → List Oper → Prop
  | _, [] => True
  | i, o :: r => p i o ∧ allOb p (i + 1) r
theorem allOb_spec {p : Nat → Oper → Prop} : ∀ {l : List Oper} {k : Nat}, allOb p k l → ∀ i o, l[i]? = some o → p (k + i) o
  | [], _, _, i, o, h => by simp at h
  | x :: r, k, hp, 0, o, h => by simp at h; subst h; exact hp.1
  | x :: r, k, hp, i + 1, o, h => by
    have := allOb_spec hp.2 i o (by simpa using h)
    rwa [show k + 1 + i = k + (i + 1) by omega] at this
theorem Sat.addS {l : List Oper} {a : Act} {j : Nat} {oj : Oper} {v : Value} {S : Store} (ha : Sat n S a) (h1 : l[j]? = some oj) (h3 : ∀ d, oj.dst = some d → a.tmps[d]? = some v) : Sat n (Gx.addS l j v S) a := by
  unfold Gx.addS
  simp only [h1]
  cases hd : oj.dst with
  | none => exact ha
  | some d =>
    refine ⟨ha.defers, ha.size, fun k u hk => ?_⟩
    simp only [look_cons] at hk
    split at hk
    · rename_i he; subst he; rw [h3 d hd]; exact hk
    · exact ha.at_ k u hk
theorem obE_spec {l : List Oper} {B : Nat → (Nat → Value) → Value → Seg → Prop} {Y : List (List Nat)} {g : Nat → Seg} {h : Nat → Value} {a : Act} {R : (Nat → Value) → Store → Prop} : ∀ {js : List Nat} {S : Store}, obE l B Y g js h S R → Sat n S a →
    (∀ j ∈ js, ∃ oj, l[j]? = some oj ∧ (∀ d, oj.dst = some d → a.tmps[d]? = some (h j)) ∧ B j (only (at? Y j) h) (h j) (g j)) → ∃ S', Sat n S' a ∧ R h S'
  | [], S, hh, ha, _ => ⟨S, ha, hh⟩
  | j :: r, S, hh, ha, hj => by
    obtain ⟨oj, h1, h3, h4⟩ := hj j (by simp)
    have hh' := hh (h j) h4
    rw [upd_self] at hh'
    exact obE_spec hh' (ha.addS h1 h3) (fun i hi => hj i (by simp [hi]))
theorem obX_spec {l : List Oper} {Bw : Nat → (Nat → Value) → Value → Prop} {Y : List (List Nat)} {h : Nat → Value} {a : Act} {R : (Nat → Value) → Store → Prop} : ∀ {js : List Nat} {S : Store}, obX l Bw Y js h S R → Sat n S a →
    (∀ j ∈ js, ∃ oj, l[j]? = some oj ∧ (∀ d, oj.dst = some d → a.tmps[d]? = some (h j)) ∧ Bw j (only (at? Y j) h) (h j)) → ∃ S', Sat n S' a ∧ R h S'
  | [], S, hh, ha, _ => ⟨S, ha, hh⟩
  | j :: r, S, hh, ha, hj => by
    obtain ⟨oj, h1, h3, h4⟩ := hj j (by simp)
    have hh' := hh (h j) h4
    rw [upd_self] at hh'
    exact obX_spec hh' (ha.addS h1 h3) (fun i hi => hj i (by simp [hi]))
/-- What is to be shown of operation i. -/
def ObOf (P : Program) (n : Nat) (l : List Oper) (S : Store) (F : List Nat) (w0 : World) (Ls : List Seg) (E J N X Y Z : List (List Nat)) (pre : Nat → Seg) (B : Nat → (Nat → Value) → Value → Seg → Prop) (Bw : Nat → (Nat → Value) → Value → Prop) (i : Nat) (o : Oper) : Prop :=
  ∀ (g : Nat → Seg) (f : Nat → Value), obX l Bw Y (at? X i) f S fun f1 S1 => obE l B Y g (at? E i) f1 S1 fun f2 S' => ∀ (R : List Seg) (w : World), Mem F w0 w (Ls ++ ([pre i] ++ ((at? J i).map g ++ ((at? N i).map g ++ ((at? Z i).map pre ++ R))))) →
    W P l.toArray n (Q1 fun a' w' => a'.defers = [] ∧ ∃ v s, (∀ d, o.dst = some d → a'.tmps[d]? = some v) ∧ B i (only (at? Y i) f2) v s ∧ Mem F w0 w' (Ls ++ ([s] ++ ((at? N i).map g ++ ((at? Z i).map pre ++ R))))) S' w [o]
def freeOf (J : List (List Nat)) (m : Nat) (j : Nat) : Bool := (List.range m).all (fun k => !(mem? (at? J k) j))
theorem G_dagL {id : Nat} (m : Nat) (E J N X Y Z : List (List Nat)) (pre : Nat → Seg) (B : Nat → (Nat → Value) → Value → Seg → Prop) (Bw : Nat → (Nat → Value) → Value → Prop) (OX O O' : List Nat) (hBw : ∀ j f v s, B j f v s → Bw j f v) (hmix : P.follows .mixedOrders = true) (hok : dagOk l m S E J N X Y Z = true) (hM : Mem F w0 w (Ls ++ (List.range m).map pre))
    (hOX : OX.all (fun j => Nat.blt j m) = true) (hO : O.all (fun j => Nat.blt j m && freeOf J m j) = true) (hO' : O'.all (fun j => Nat.blt j m && freeOf J m j) = true) (hOd : distinct O' = true)
    (ob : allOb (ObOf P n l S F w0 Ls E J N X Y Z pre B Bw) 0 (l.take m))
    (fin : ∀ (g : Nat → Seg) (f : Nat → Value), obX l Bw Y OX f S fun f1 S1 => obE l B Y g O f1 S1 fun f2 S' => ∀ w, Mem F w0 w (Ls ++ O'.map g) → W P l.toArray n Q S' w (l.drop m)) : G P n (.region id l.toArray true) Q S w := by
  have hml : m ≤ l.length := by
    have hh := hok
    simp only [dagOk, Bool.and_eq_true] at hh
    exact Nat.ble_eq ▸ hh.1
  have free : ∀ {L : List Nat}, L.all (fun j => Nat.blt j m && freeOf J m j) = true → ∀ j ∈ L, j < m ∧ ∀ k, k < m → j ∉ at? J k := by
    intro L hL j hj
    have h1 := List.all_eq_true.1 hL j hj
    rw [Bool.and_eq_true] at h1
    refine ⟨Nat.blt_eq ▸ h1.1, fun k hk hjk => ?_⟩
    have h2 := List.all_eq_true.1 h1.2 k (List.mem_range.2 hk)
    rw [mem?_spec.2 hjk] at h2
    cases h2
  refine G_dag m E J N X Y Z pre B Bw hBw hmix hok hM ?_ ?_
  · intro i o him ho a w g h R ha hE hX hM1
    have h1 := allOb_spec ob i o (by rw [List.getElem?_take, if_pos him]; exact ho)
    rw [Nat.zero_add] at h1
    obtain ⟨S1, hS1, hR1⟩ := obX_spec (h1 g h) ha hX
    obtain ⟨S', hS', hR⟩ := obE_spec hR1 hS1 hE
    exact hR R w hM1 a hS'
  · intro a w D hD hdone
    obtain ⟨g, h, hMem, hB⟩ := hdone.ex
    have hfree : ∀ j, (∀ k, k < m → j ∉ at? J k) → D.any (fun k => mem? (at? J k) j) = false := by
      intro j hj
      rw [List.any_eq_false]
      intro k hk hkj
      exact hj k (List.mem_range.1 (hD.mem_iff.1 hk)) (mem?_spec.1 hkj)
    obtain ⟨S1, hS1, hR1⟩ := obX_spec (fin g h) hdone.sat (fun j hj => by
      obtain ⟨oj, e1, e2, e4, _⟩ := hB j (hD.mem_iff.2 (List.mem_range.2 (Nat.blt_eq ▸ List.all_eq_true.1 hOX j hj)))
      exact ⟨oj, e1, e2, e4⟩)
    obtain ⟨S', hS', hR⟩ := obE_spec hR1 hS1 (fun j hj => by
      obtain ⟨oj, e1, e2, _, e5⟩ := hB j (hD.mem_iff.2 (List.mem_range.2 (free hO j hj).1))
      exact ⟨oj, e1, e2, e5 (hfree j (free hO j hj).2)⟩)
    refine hR w ?_ a hS'
    obtain ⟨R, hR'⟩ := perm_take O' D (distinct_spec hOd) (fun x hx => hD.mem_iff.2 (List.mem_range.2 (free hO' x hx).1))
    have h1 : Mem F w0 w (Ls ++ (O'.map (Gx.left J D g) ++ (R.map (Gx.left J D g) ++ (List.range m).map (fun i => bif mem? D i then [] else pre i)))) := hMem.perm (List.Perm.append_left _ (by
      rw [← List.append_assoc, ← List.map_append]
      exact List.Perm.append_right _ (hR'.map _).symm))
    have h2 : O'.map (Gx.left J D g) = O'.map g := List.map_congr_left fun j hj => by simp [Gx.left, hfree j (free hO' j hj).2]
    rw [h2, ← List.append_assoc] at h1
    exact h1.part (fun p hp => by rw [List.flatten_append]; exact List.mem_append_left _ hp) (by
      have := h1.nodup
      rw [List.flatten_append, List.map_append] at this
      exact (List.nodup_append.1 this).1)
/-- A part of a value, and the block that a pointer leads to. -/
def atPath : Value → List Nat → Value
  | v, [] => v
  | v, i :: r => match v with
    | .tuple vs => atPath (vs.toList.getD i undef) r
    | .agg cs => atPath (cs.toList.getD i undef) r
    | _ => undef
def blkOf : Value → Nat
  | .pointer (some a) => a.block
  | _ => 0
/-- The end of what is to be shown of an operation. -/
theorem ob_end {B1 : Value → Seg → Prop} {R : List Seg} {o : Oper} (v : Value) (s : Seg) {d : Nat} (hd : o.dst = some d) (hv : look S d = some v) (hb : B1 v s) (hM : Mem F w0 w (Ls ++ ([s] ++ R))) :
    N n (Q1 fun a' w' => a'.defers = [] ∧ ∃ v s, (∀ d, o.dst = some d → a'.tmps[d]? = some v) ∧ B1 v s ∧ Mem F w0 w' (Ls ++ ([s] ++ R))) .normal S w :=
  fun a ha => ⟨ha.defers, v, s, fun d' hd' => by rw [hd] at hd'; cases hd'; exact ha.at_ d v hv, hb, hM⟩
theorem ob_none {B1 : Value → Seg → Prop} {R : List Seg} {o : Oper} (s : Seg) (hd : o.dst = none) (hb : B1 undef s) (hM : Mem F w0 w (Ls ++ ([s] ++ R))) :
    N n (Q1 fun a' w' => a'.defers = [] ∧ ∃ v s, (∀ d, o.dst = some d → a'.tmps[d]? = some v) ∧ B1 v s ∧ Mem F w0 w' (Ls ++ ([s] ++ R))) .normal S w :=
  fun a ha => ⟨ha.defers, undef, s, fun d' hd' => (by rw [hd] at hd'; cases hd'), hb, hM⟩
end
/-! ### Option, Bool -/
theorem gx_bind {α β : Type} {e : Option α} {k : α → Option β} {r : β} (h : Option.bind e k = some r) : ∃ t, e = some t ∧ k t = some r := Option.bind_eq_some_iff.1 h
theorem gx_bif {α : Type} {b : Bool} {x y : Option α} {r : α} (h : (bif b then x else y) = some r) : (b = true ∧ x = some r) ∨ (b = false ∧ y = some r) := by
  cases b
  · exact Or.inr ⟨rfl, h⟩
  · exact Or.inl ⟨rfl, h⟩
theorem gx_bif_t {α : Type} {b : Bool} {x y : Option α} {r : α} (h : (bif b then x else y) = some r) (hb : b = true) : x = some r := by subst hb; exact h
theorem gx_bif_f {α : Type} {b : Bool} {x y : Option α} {r : α} (h : (bif b then x else y) = some r) (hb : b = false) : y = some r := by subst hb; exact h
def gxIdx {α : Type} (xs : List α) (i : Int) : Option α := if 0 ≤ i then xs[i.toNat]? else none
theorem gxIdx_spec {α : Type} {xs : List α} {i : Int} {x : α} (h : gxIdx xs i = some x) : 0 ≤ i ∧ xs[i.toNat]? = some x := by
  unfold gxIdx at h
  split at h
  · exact ⟨‹_›, h⟩
  · cases h
def gxSlice {α : Type} (xs : List α) (l h : Int) : Option (List α) := if 0 ≤ l ∧ l ≤ h ∧ h ≤ xs.length then some ((xs.take h.toNat).drop l.toNat) else none
theorem gxSlice_spec {α : Type} {xs ys : List α} {l h : Int} (hh : gxSlice xs l h = some ys) : 0 ≤ l ∧ l ≤ h ∧ h ≤ xs.length ∧ ys = (xs.take h.toNat).drop l.toNat := by
  unfold gxSlice at hh
  split at hh
  · rename_i hc
    simp only [Option.some.injEq] at hh
    exact ⟨hc.1, hc.2.1, hc.2.2, hh.symm⟩
  · cases hh
theorem gxSlice_len {α : Type} {xs ys : List α} {l h : Int} (hh : gxSlice xs l h = some ys) : ys.length = h.toNat - l.toNat := by
  obtain ⟨h1, h2, h3, rfl⟩ := gxSlice_spec hh
  simp
  omega
def gxDiv (x y : Int) : Option Int := if y = 0 then none else some (w64 (x.tdiv y))
def gxRem (x y : Int) : Option Int := if y = 0 then none else some (x.tmod y)
def gxSet {α : Type} (xs : List α) (i : Int) (y : α) : Option (List α) := if 0 ≤ i ∧ i < xs.length then some (xs.set i.toNat y) else none
theorem gxSet_spec {α : Type} {xs zs : List α} {i : Int} {y : α} (h : gxSet xs i y = some zs) : 0 ≤ i ∧ i < xs.length ∧ zs = xs.set i.toNat y := by
  unfold gxSet at h
  split at h
  · rename_i hc
    simp only [Option.some.injEq] at h
    exact ⟨hc.1, hc.2, h.symm⟩
  · cases h
end Go.Gx
