/- Slices of flat elements, read or owned; the operations on them; variables in blocks of their own. -/
import Derived.Test.YtimffallbjpcjaaGreatDoorGxB
set_option linter.unusedVariables false
set_option linter.unusedSimpArgs false
namespace Go.Gx
theorem addr_add (b off m : Nat) : (⟨b, off, none⟩ : Addr).add m = ⟨b, off + m, none⟩ := by
  unfold Addr.add; split <;> simp_all
/-- How an element lies in its cells. -/
structure Enc (α : Type) where
  cells : α → List Value
  k : Nat
  len : ∀ x, (cells x).length = k
  one : ∀ x, ∀ v ∈ cells x, v.oneCell' = true
def encI : Enc Int := ⟨fun x => [.int .i64 x], 1, fun _ => rfl, by simp [Value.oneCell']⟩
def encU8 : Enc Int := ⟨fun x => [.int .u8 x], 1, fun _ => rfl, by simp [Value.oneCell']⟩
def encB : Enc Bool := ⟨fun x => [.bool x], 1, fun _ => rfl, by simp [Value.oneCell']⟩
def encS : Enc ByteArray := ⟨fun x => [.string x], 1, fun _ => rfl, by simp [Value.oneCell']⟩
section
variable {α : Type} {E : Enc α} {F : List Nat} {w0 w w' : World} {Ls : List Seg} {xs ys : List α} {p q : Option Addr} {c : Nat} {seg : Seg}
/-- The cells of a row hold the elements from 'off' on. -/
def holds (E : Enc α) (cs : Array Value) (off : Nat) (xs : List α) : Prop :=
  ∀ i x, xs[i]? = some x → ∀ j v, (E.cells x)[j]? = some v → cs[off + i * E.k + j]? = some v
def rdS (E : Enc α) (w : World) (xs : List α) (p : Option Addr) (c : Nat) : Prop :=
  xs.length ≤ c ∧ (xs = [] ∨ ∃ b off cs e fr, p = some ⟨b, off, none⟩ ∧ w.heap[b]? = some (.cells cs e fr) ∧ holds E cs off xs)
def ownS (E : Enc α) (xs : List α) (p : Option Addr) (c : Nat) (seg : Seg) : Prop :=
  (p = none ∧ xs = [] ∧ c = 0 ∧ seg = []) ∨
  ∃ b off cs e, p = some ⟨b, off, none⟩ ∧ seg = [(b, .cells cs e (0, 0))] ∧ xs.length ≤ c ∧ c ≤ maxLen ∧ off + c * E.k ≤ cs.size ∧ holds E cs off xs
def apartF (F : List Nat) (p : Option Addr) : Prop := ∀ a, p = some a → a.block ∉ F
theorem apartF_nil : apartF [] p := fun _ _ => by simp
theorem rdS.mem (h : rdS E w0 xs p c) (hF : apartF F p) (hM : Mem F w0 w Ls) : rdS E w xs p c := by
  rcases h with ⟨hc, h | ⟨b, off, cs, e, fr, hp, hb, hh⟩⟩
  · exact ⟨hc, Or.inl h⟩
  · exact ⟨hc, Or.inr ⟨b, off, cs, e, fr, hp, by rw [hM.old b (lt_of_heap hb) (hF _ hp)]; exact hb, hh⟩⟩
/-- Read memory lies apart from what is changed. -/
def apartX (F : List Nat) (xs : List α) (p : Option Addr) : Prop := xs = [] ∨ ∀ a, p = some a → a.block ∉ F
theorem rdS.memX (h : rdS E w0 xs p c) (hF : apartX F xs p) (hM : Mem F w0 w Ls) : rdS E w xs p c := by
  rcases hF with hF | hF
  · exact ⟨h.1, Or.inl hF⟩
  · exact h.mem hF hM
theorem apartX.old (h : rdS E w0 xs p c) (hF : apartX F xs p) (hM : Mem F w0 w Ls) (is : List Nat) : apartX (idsOf (pick Ls is)) xs p := by
  rcases hF with hF | hF
  · exact Or.inl hF
  · rcases h with ⟨_, h | ⟨b, off, cs, e, fr, hp, hb, hh⟩⟩
    · exact Or.inl h
    · refine Or.inr fun a ha hm => ?_
      rw [hp] at ha
      cases ha
      obtain ⟨q, hq, hqb⟩ := List.mem_map.1 hm
      obtain ⟨i, _, hi⟩ := mem_pick is hq
      have h1 := lt_of_heap hb
      rcases hM.place q (mem_getD hi) with h2 | h2
      · rw [hqb] at h2; simp only [] at h2; omega
      · rw [hqb] at h2; exact hF _ hp h2
theorem apartX.old0 (h : rdS E w0 xs p c) (hM : Mem [] w0 w Ls) (is : List Nat) : apartX (idsOf (pick Ls is)) xs p := apartX.old h (Or.inr fun _ _ => by simp) hM is
theorem apartX.own (h : ownS E xs p c seg) (hM : Mem F w0 w Ls) (i : Nat) (hi : Ls.getD i [] = seg) (is : List Nat) (hd : distinct (i :: is) = true) : apartX (idsOf (pick Ls is)) xs p := by
  rcases h with ⟨_, h, _, _⟩ | ⟨b, off, cs, e, hp, hs, _, _, _, hh⟩
  · exact Or.inl h
  · refine Or.inr fun a ha hm => ?_
    rw [hp] at ha
    cases ha
    subst hs
    obtain ⟨q, hq, hqb⟩ := List.mem_map.1 hm
    obtain ⟨j, hj, hqj⟩ := mem_pick is hq
    have hne : i ≠ j := fun e => by
      have := distinct_spec hd
      rw [List.nodup_cons] at this
      exact this.1 (e ▸ hj)
    exact apart_getD hM.nodup hne (p := (b, .cells cs e (0, 0))) (by rw [hi]; simp) hqj hqb.symm
theorem rdS.mem0 (h : rdS E w0 xs p c) (hM : Mem [] w0 w Ls) : rdS E w xs p c := h.mem apartF_nil hM
theorem ownS.len_le (h : ownS E xs p c seg) : xs.length ≤ c := by
  rcases h with ⟨_, h, _, _⟩ | ⟨b, off, cs, e, hp, hs, hl, _, _, hh⟩
  · simp [h]
  · exact hl
theorem ownS.rd (h : ownS E xs p c seg) (hM : Mem F w0 w Ls) (i : Nat) (hi : Ls.getD i [] = seg) : rdS E w xs p c := by
  refine ⟨h.len_le, ?_⟩
  rcases h with ⟨_, h, _, _⟩ | ⟨b, off, cs, e, hp, hs, _, _, _, hh⟩
  · exact Or.inl h
  · subst hs; exact Or.inr ⟨b, off, cs, e, (0, 0), hp, hM.blk i hi, hh⟩
theorem rdS_nil : rdS E w [] p c := ⟨by simp, Or.inl rfl⟩
theorem ownS_nil : ownS E [] none 0 [] := Or.inl ⟨rfl, rfl, rfl, rfl⟩
/-- Where x[l:h] begins. -/
def subP (p : Option Addr) (l c k : Nat) : Option Addr := if c = l then p else p.map fun a => a.add (l * k)
theorem rdS.slice (h : rdS E w xs p c) (l hi : Nat) (hl : l ≤ hi) (hx : hi ≤ xs.length) : rdS E w ((xs.take hi).drop l) (subP p l c E.k) (c - l) := by
  obtain ⟨hc, h⟩ := h
  have hlen : ((xs.take hi).drop l).length = hi - l := by simp; omega
  refine ⟨by omega, ?_⟩
  by_cases hcl : c = l
  · left
    have : hi - l = 0 := by omega
    exact List.eq_nil_of_length_eq_zero (by omega)
  · rcases h with h | ⟨b, off, cs, e, fr, hp, hb, hh⟩
    · exact Or.inl (by rw [h]; simp)
    · refine Or.inr ⟨b, off + l * E.k, cs, e, fr, by simp [subP, hcl, hp, addr_add], hb, fun i x hx' j v hv => ?_⟩
      rw [List.getElem?_drop, List.getElem?_take] at hx'
      split at hx'
      · have := hh (l + i) x hx' j v hv
        rwa [show off + l * E.k + i * E.k + j = off + (l + i) * E.k + j by rw [Nat.add_mul]; omega]
      · cases hx'
theorem ownS.slice (h : ownS E xs p c seg) (l hi : Nat) (hl : l ≤ hi) (hx : hi ≤ xs.length) : ∃ seg', ownS E ((xs.take hi).drop l) (subP p l c E.k) (c - l) seg' ∧ (seg' = seg ∨ seg' = []) := by
  have hlen : ((xs.take hi).drop l).length = hi - l := by simp; omega
  rcases h with ⟨h0, h1, h2, h3⟩ | ⟨b, off, cs, e, hp, hs, hc, hm, hsz, hh⟩
  · subst h0 h1 h2 h3
    refine ⟨[], Or.inl ⟨by simp [subP], by simp, by omega, rfl⟩, Or.inl rfl⟩
  · refine ⟨seg, Or.inr ?_, Or.inl rfl⟩
    by_cases hcl : c = l
    · refine ⟨b, off, cs, e, by simp [subP, hcl, hp], hs, by omega, by omega, ?_, fun i x hx' j v hv => ?_⟩
      · rw [hcl, Nat.sub_self, Nat.zero_mul]; omega
      · have : ((xs.take hi).drop l) = [] := List.eq_nil_of_length_eq_zero (by omega)
        rw [this] at hx'; simp at hx'
    · refine ⟨b, off + l * E.k, cs, e, by simp [subP, hcl, hp, addr_add], hs, by omega, by omega, ?_, fun i x hx' j v hv => ?_⟩
      · have : (c - l) * E.k + l * E.k = c * E.k := by rw [← Nat.add_mul]; congr 1; omega
        omega
      · rw [List.getElem?_drop, List.getElem?_take] at hx'
        split at hx'
        · have := hh (l + i) x hx' j v hv
          rwa [show off + l * E.k + i * E.k + j = off + (l + i) * E.k + j by rw [Nat.add_mul]; omega]
        · cases hx'
theorem rdS.isSome (h : rdS E w xs p c) {i : Nat} {x : α} (hx : xs[i]? = some x) : p.isSome = true := by
  rcases h with ⟨hc, h | ⟨b, off, cs, e, fr, hp, hb, hh⟩⟩
  · subst h; simp at hx
  · simp [hp]

/-! ### Loads -/
def shapeT (P : Program) (t : TypeId) : Option (Bool × Nat) :=
  match P.underlying t, P.info? t with
  | some (.struct _), some i => some (true, i.size)
  | some (.array _ _), some i => some (true, i.size)
  | some _, some i => some (false, i.size)
  | _, _ => none
def loadV (agg : Bool) (k : Nat) (cs : List Value) (off : Nat) : Option Value :=
  match agg with
  | true => bif Nat.ble (off + k) cs.length then some (.agg ⟨(cs.drop off).take k⟩) else none
  | false => cs[off]?
theorem shapeT_spec {P : Program} {t : TypeId} {g : Bool} {k : Nat} (h : shapeT P t = some (g, k)) (w : World) :
    (isAgg t).run P w = .ok g w ∧ (sizeOf t).run P w = .ok k w := by
  unfold shapeT at h
  cases hu : P.underlying t with
  | none => simp [hu] at h
  | some d =>
    cases hi : P.info? t with
    | none => cases d <;> simp [hu, hi] at h
    | some i =>
      have hs : (sizeOf t).run P w = .ok i.size w := by simp [sizeOf, typeInfo, hi]
      cases d <;> simp only [hu, hi, Option.some.injEq, Prod.mk.injEq] at h <;> obtain ⟨rfl, rfl⟩ := h <;>
        exact ⟨by simp [isAgg, run_underlying hu], hs⟩
/-- A variable of type t at cell 'at' of a row that there holds the cells cs from 'at' - off on. -/
theorem run_loadVar_in {P : Program} {t : TypeId} {g : Bool} {k : Nat} (hs : shapeT P t = some (g, k)) {b m off : Nat} {cs : List Value} {v : Value}
    (hv : loadV g k cs off = some v) (hc : ∀ j u, cs[j]? = some u → w.cell? ⟨b, m + j, none⟩ = some u) :
    (loadVar t ⟨b, m + off, none⟩).run P w = .ok v w := by
  obtain ⟨h1, h2⟩ := shapeT_spec hs w
  unfold loadVar
  simp only [Sem.run_bind, h1, Result.andThen_ok]
  cases g with
  | false =>
    simp only [loadV] at hv
    have := hc off v hv
    simp [run_load, this]
  | true =>
    simp only [loadV] at hv
    cases hle : Nat.ble (off + k) cs.length with
    | false => simp [hle] at hv
    | true =>
      have hle' : off + k ≤ cs.length := Nat.ble_eq ▸ hle
      simp only [hle, cond_true, Option.some.injEq] at hv
      subst hv
      have hl : ((cs.drop off).take k).length = k := by simp; omega
      have hrun := run_loadCells_list (P := P) w ⟨b, m + off, none⟩ ((cs.drop off).take k) (fun j u hu => by
        rw [addr_add, Nat.add_assoc]
        refine hc (off + j) u ?_
        rw [List.getElem?_take] at hu
        split at hu
        · rwa [List.getElem?_drop] at hu
        · cases hu)
      rw [hl] at hrun
      simp [h2, hrun]
theorem cell_of_heap {b m : Nat} {cs : Array Value} {e : TypeId} {fr : Nat × Nat} (h : w.heap[b]? = some (.cells cs e fr)) : w.cell? ⟨b, m, none⟩ = cs[m]? := cell_of_row w b m cs e fr h
section ops
variable {P : Program} {ops : Array Oper} {n : Nat} {Q : Exit → Act → World → Prop} {S : Store} {rest : List Oper} {o : Oper}
/-- A load of a variable, or of a part of it, in a block of its own. -/
theorem run_load_blk {t : TypeId} {x : Operand} {g : Bool} {k b off : Nat} {cs : List Value} {e : TypeId} {fr : Nat × Nat} {v : Value}
    (hs : shapeT P t = some (g, k)) (hb : w.heap[b]? = some (.cells ⟨cs⟩ e fr)) (hv : loadV g k cs off = some v) :
    (loadVar t ⟨b, off, none⟩).run P w = .ok v w := by
  have := run_loadVar_in (P := P) (w := w) (b := b) (m := 0) hs hv (fun j u hu => by rw [cell_of_heap hb]; simpa using hu)
  simpa using this
theorem W_load (t : TypeId) (x : Operand) (g : Bool) (k b off : Nat) (cs : List Value) {e : TypeId} {fr : Nat × Nat} (v : Value) (hok : okAll ops n S o = true) (ho : o.op = .load t x)
    (hx : evalO S x = some (.pointer (some ⟨b, off, none⟩))) (hs : shapeT P t = some (g, k)) (hv : loadV g k cs off = some v) (hb : w.heap[b]? = some (.cells ⟨cs⟩ e fr))
    (kk : W P ops n Q (putS S o.dst v) w rest) : W P ops n Q S w (o :: rest) := by
  refine W_val v w hok ?_ kk
  unfold execOp
  simp only [ho, Instr.loadAt, Instr.sureAddr, rho, hx, Option.getD_some, Sem.run_bind, Sem.run_pure, Result.andThen_ok, run_load_blk (x := x) hs hb hv]
theorem RV_cell {t : Nat} {ty : TypeId} {g : Bool} {k b off : Nat} {cs : List Value} {e : TypeId} {fr : Nat × Nat} {v : Value}
    (hb : w.heap[b]? = some (.cells ⟨cs⟩ e fr)) (hx : look S t = some (.pointer (some ⟨b, off, none⟩))) (hs : shapeT P ty = some (g, k)) (hv : loadV g k cs off = some v) : RV P S w (.cell t ty) v :=
  ⟨_, hx, run_load_blk (x := .tmp t) hs hb hv⟩

/-! ### Stores -/
def splice (cs : List Value) (off : Nat) (vs : List Value) : List Value := cs.take off ++ vs ++ cs.drop (off + vs.length)
def oneB (v : Value) : Bool := match v with
  | .agg _ | .tuple _ => false
  | _ => true
theorem run_storeVar_blk {t : TypeId} {b off k : Nat} {g : Bool} {cs : List Value} {e : TypeId} {v : Value} (hs : shapeT P t = some (g, k)) (hk : v.cells.toList.length = k)
    (hb : w.heap[b]? = some (.cells ⟨cs⟩ e (0, 0))) (hl : off + k ≤ cs.length) (h1 : ∀ u ∈ v.cells.toList, u.oneCell' = true) :
    (storeVar t ⟨b, off, none⟩ v).run P w = .ok () (w.setRow b ⟨splice cs off v.cells.toList⟩) := by
  obtain ⟨_, h2⟩ := shapeT_spec hs w
  unfold storeVar
  have hst := run_storeCells_at P b off e v.cells.toList 0 ⟨cs⟩ w hb (by simp only [Nat.add_zero, hk]; simpa using hl) h1
  simp only [Nat.add_zero] at hst
  have hk' : ¬ (v.cells.size ≠ k) := by simpa using hk
  simp only [Sem.run_bind, h2, Result.andThen_ok, if_neg hk', hst]
  rfl
theorem Mem.setRow (hM : Mem F w0 w Ls) (i : Nat) {b : Nat} {cs : Array Value} {e : TypeId} (cs' : Array Value) (hi : Ls.getD i [] = [(b, .cells cs e (0, 0))]) :
    Mem F w0 (w.setRow b cs') (Ls.set i [(b, .cells cs' e (0, 0))]) :=
  hM.set (w' := w.setRow b cs') i _ hi rfl rfl rfl (by simp) (setRow_heap w b cs cs' e (0, 0) (hM.blk i hi)) (fun k hk => setRow_other w b k cs' hk) rfl
/-- A store into a block of its own, at place i of the list. -/
theorem W_store (t : TypeId) (x y : Operand) (g : Bool) (k b off : Nat) (cs : List Value) (e : TypeId) (v : Value) (i : Nat) (cs' : List Value) (hM : Mem F w0 w Ls)
    (hok : okAll ops n S o = true) (ho : o.op = .store t x y) (hx : evalO S x = some (.pointer (some ⟨b, off, none⟩))) (hy : evalO S y = some v)
    (hs : shapeT P t = some (g, k)) (hk : Nat.beq v.cells.toList.length k = true) (hone : v.cells.toList.all oneB = true) (hi : Ls.getD i [] = [(b, .cells ⟨cs⟩ e (0, 0))])
    (hl : Nat.ble (off + k) cs.length = true) (hc' : splice cs off v.cells.toList = cs')
    (kk : ∀ w', Mem F w0 w' (Ls.set i [(b, .cells ⟨cs'⟩ e (0, 0))]) → W P ops n Q (putS S o.dst undef) w' rest) : W P ops n Q S w (o :: rest) := by
  have h1 : ∀ u ∈ v.cells.toList, u.oneCell' = true := fun u hu => by
    have := List.all_eq_true.1 hone u hu
    cases u <;> first | rfl | (simp [oneB] at this)
  refine W_skip (w.setRow b ⟨cs'⟩) hok ?_ (kk _ (hM.setRow i ⟨cs'⟩ hi))
  unfold execOp
  simp only [ho, Instr.storeAt, Instr.sureAddr, rho, hx, hy, Option.getD_some, Sem.run_bind, Sem.run_pure, Result.andThen_ok,
    run_storeVar_blk hs (Nat.eq_of_beq_eq_true hk) (hM.blk i hi) (Nat.ble_eq ▸ hl) h1, hc']
/-- A new block. -/
theorem W_new (fv : Nat → Value) (ob : Obj) (hM : Mem F w0 w Ls) (hfz : fzOf (some ob) = (0, 0)) (hok : okAll ops n S o = true) (hr : (execOp (rho S) o).run P w = .ok (.value (fv w.heap.size)) (w.alloc ob))
    (kk : ∀ b w', Mem F w0 w' (Ls ++ [[(b, ob)]]) → W P ops n Q (putS S o.dst (fv b)) w' rest) : W P ops n Q S w (o :: rest) :=
  W_val _ _ hok hr (kk _ _ (hM.alloc ob hfz))

/-! ### Elements -/
def elemP (p : Option Addr) (m : Nat) : Value := match p with
  | some a => .pointer (some ⟨a.block, a.off + m, none⟩)
  | none => undef
def sliceElem (P : Program) (t : TypeId) : Option Nat :=
  match P.underlying t with
  | some (.slice e) => (P.info? e).map (·.size)
  | _ => none
theorem sliceElem_spec {t : TypeId} {k : Nat} (h : sliceElem P t = some k) : ∃ e i, P.underlying t = some (.slice e) ∧ P.info? e = some i ∧ i.size = k := by
  unfold sliceElem at h
  split at h
  · rename_i e he
    obtain ⟨i, hi, hk⟩ := Option.map_eq_some_iff.1 h
    exact ⟨e, i, he, hi, hk⟩
  · cases h
def plainP (p : Option Addr) : Prop := ∀ a, p = some a → a.spot = none
theorem rdS.plain (h : rdS E w xs p c) {i : Nat} {x : α} (hx : xs[i]? = some x) : plainP p := by
  rcases h with ⟨_, h | ⟨b, off, cs, e, fr, hp, hb, hh⟩⟩
  · subst h; simp at hx
  · intro a ha; rw [hp] at ha; cases ha; rfl
theorem W_indexAddr (t : TypeId) (x ix : Operand) (len c : Nat) (kd : IntKind) (i : Int) (k : Nat) {y : α} (hok : okAll ops n S o = true) (ho : o.op = .indexAddr t x ix)
    (hx : evalO S x = some (.slice p len c)) (hi : evalO S ix = some (.int kd i)) (ht : sliceElem P t = some k)
    (hrd : rdS E w xs p c) (hlen : xs.length = len) (h0 : 0 ≤ i) (hy : xs[i.toNat]? = some y)
    (kk : W P ops n Q (putS S o.dst (elemP p (i.toNat * k))) w rest) : W P ops n Q S w (o :: rest) := by
  obtain ⟨e, inf, hu, hinf, hk⟩ := sliceElem_spec ht
  have hlt : i.toNat < xs.length := (List.getElem?_eq_some_iff.1 hy).1
  have hs := hrd.isSome hy
  have hpl := hrd.plain hy
  cases p with
  | none => simp at hs
  | some a =>
    obtain ⟨b, off, spot⟩ := a
    have : spot = none := hpl _ rfl
    subst this
    refine W_val _ w hok ?_ kk
    have hc : 0 ≤ i ∧ i < (len : Int) := ⟨h0, by omega⟩
    unfold execOp
    simp only [ho, Instr.indexAt, rho, hx, hi, Option.getD_some, asIntOf, Sem.run_bind, Sem.run_pure, Result.andThen_ok, run_underlying hu]
    simp [hc, sizeOf, typeInfo, hinf, hk, addr_add, elemP, run_underlying hu]
/-- A load out of an element (f: the cell in it). -/
theorem W_loadE (t : TypeId) (x : Operand) (g : Bool) (k : Nat) (i f m : Nat) (y : α) (v : Value) (hok : okAll ops n S o = true) (ho : o.op = .load t x)
    (hx : evalO S x = some (elemP p m)) (hs : shapeT P t = some (g, k)) (hv : loadV g k (E.cells y) f = some v)
    (hrd : rdS E w xs p c) (hy : xs[i]? = some y) (hm : m = i * E.k + f) (kk : W P ops n Q (putS S o.dst v) w rest) : W P ops n Q S w (o :: rest) := by
  rcases hrd with ⟨_, h | ⟨b, off, cs, e, fr, hp, hb, hh⟩⟩
  · subst h; simp at hy
  · subst hp hm
    refine W_val v w hok ?_ kk
    have hl := run_loadVar_in (P := P) (w := w) (b := b) (m := off + i * E.k) (off := f) hs hv (fun j u hu => by rw [cell_of_heap hb]; exact hh i y hy j u hu)
    unfold execOp
    simp only [ho, Instr.loadAt, Instr.sureAddr, rho, hx, elemP, Option.getD_some, Sem.run_bind, Sem.run_pure, Result.andThen_ok]
    rw [← Nat.add_assoc, hl]
    rfl
theorem W_fieldE (s : TypeId) (x : Operand) (fld : Nat) (m f : Nat) {y : α} {i : Nat} (hok : okAll ops n S o = true) (ho : o.op = .fieldAddr s x fld) (hx : evalO S x = some (elemP p m))
    (hf : ∀ b off : Nat, (Instr.fieldAt s (.pointer (some ⟨b, off, none⟩)) fld).run P w = .ok (.pointer (some ((⟨b, off, none⟩ : Addr).add f))) w)
    (hrd : rdS E w xs p c) (hy : xs[i]? = some y) (kk : W P ops n Q (putS S o.dst (elemP p (m + f))) w rest) : W P ops n Q S w (o :: rest) := by
  have hsm := hrd.isSome hy
  cases p with
  | none => simp at hsm
  | some a =>
    refine W_val _ w hok ?_ kk
    unfold execOp
    simp only [ho, rho, hx, elemP, Option.getD_some, Sem.run_bind, hf, Result.andThen_ok, addr_add, Nat.add_assoc, Sem.run_pure]
theorem holds_set {cs : Array Value} {off : Nat} (h : holds E cs off xs) (i : Nat) (y y' : α) (hy : xs[i]? = some y) (f : Nat) (vs : List Value) (hsp : splice (E.cells y) f vs = E.cells y') (hf : f + vs.length ≤ E.k)
    (hsz : off + xs.length * E.k ≤ cs.size) : holds E ⟨splice cs.toList (off + i * E.k + f) vs⟩ off (xs.set i y') := by
  have hlt : i < xs.length := (List.getElem?_eq_some_iff.1 hy).1
  have hbig : off + i * E.k + E.k ≤ cs.size := by
    have : (i + 1) * E.k ≤ xs.length * E.k := Nat.mul_le_mul_right _ hlt
    rw [Nat.add_mul] at this; omega
  intro i' x' hx' j v hv
  have hj : j < E.k := by
    have := (List.getElem?_eq_some_iff.1 hv).1
    rwa [E.len] at this
  have hlen : (E.cells y).length = E.k := E.len y
  simp only [List.getElem?_toArray, splice]
  rw [List.getElem?_set] at hx'
  by_cases hii : i = i'
  · subst hii
    simp only [hlt, if_true, Option.some.injEq] at hx'
    subst hx'
    rw [← hsp] at hv
    simp only [splice] at hv
    by_cases h1 : j < f
    · rw [List.append_assoc, List.getElem?_append_left (by simp; omega), List.getElem?_take, if_pos h1] at hv
      rw [List.append_assoc, List.getElem?_append_left (by simp; omega), List.getElem?_take, if_pos (by omega)]
      have := h i y hy j v hv
      simpa using this
    · by_cases h2 : j < f + vs.length
      · rw [List.append_assoc, List.getElem?_append_right (by simp; omega), List.getElem?_append_left (by simp; omega)] at hv
        rw [List.append_assoc, List.getElem?_append_right (by simp; omega), List.getElem?_append_left (by simp; omega)]
        rw [← hv]
        congr 1
        simp
        omega
      · rw [List.append_assoc, List.getElem?_append_right (by simp; omega), List.getElem?_append_right (by simp; omega), List.getElem?_drop] at hv
        rw [List.append_assoc, List.getElem?_append_right (by simp; omega), List.getElem?_append_right (by simp; omega), List.getElem?_drop]
        have e1 : f + vs.length + (j - (List.take f (E.cells y)).length - vs.length) = j := by simp; omega
        rw [e1] at hv
        have := h i y hy j v hv
        have e2 : off + i * E.k + f + vs.length + (off + i * E.k + j - (List.take (off + i * E.k + f) cs.toList).length - vs.length) = off + i * E.k + j := by simp; omega
        rw [e2]
        simpa using this
  · rw [if_neg hii] at hx'
    have := h i' x' hx' j v hv
    have this' : cs.toList[off + i' * E.k + j]? = some v := by simpa using this
    rcases Nat.lt_or_gt_of_ne hii with hlt' | hgt
    · have : (i + 1) * E.k ≤ i' * E.k := Nat.mul_le_mul_right _ hlt'
      rw [Nat.add_mul] at this
      rw [List.append_assoc, List.getElem?_append_right (by simp; omega), List.getElem?_append_right (by simp; omega), List.getElem?_drop]
      have e2 : off + i * E.k + f + vs.length + (off + i' * E.k + j - (List.take (off + i * E.k + f) cs.toList).length - vs.length) = off + i' * E.k + j := by simp; omega
      rw [e2]
      exact this'
    · have : (i' + 1) * E.k ≤ i * E.k := Nat.mul_le_mul_right _ hgt
      rw [Nat.add_mul] at this
      rw [List.append_assoc, List.getElem?_append_left (by simp; omega), List.getElem?_take, if_pos (by omega)]
      exact this'
/-- A store into an element of an owned row (vs: what is stored; f: at which cell of the element). -/
theorem W_storeE (t : TypeId) (x z : Operand) (g : Bool) (k : Nat) (i f m : Nat) (y y' : α) (v : Value) (pl : Nat) (hM : Mem F w0 w Ls) (hown : ownS E xs p c seg) (hi : Ls.getD pl [] = seg)
    (hok : okAll ops n S o = true) (ho : o.op = .store t x z) (hx : evalO S x = some (elemP p m)) (hz : evalO S z = some v)
    (hs : shapeT P t = some (g, k)) (hk : Nat.beq v.cells.toList.length k = true) (hone : v.cells.toList.all oneB = true) (hfk : Nat.ble (f + k) E.k = true)
    (hsp : splice (E.cells y) f v.cells.toList = E.cells y') (hy : xs[i]? = some y) (hm : m = i * E.k + f)
    (kk : ∀ w' seg', ownS E (xs.set i y') p c seg' → Mem F w0 w' (Ls.set pl seg') → W P ops n Q (putS S o.dst undef) w' rest) : W P ops n Q S w (o :: rest) := by
  have h1 : ∀ u ∈ v.cells.toList, u.oneCell' = true := fun u hu => by
    have := List.all_eq_true.1 hone u hu
    cases u <;> first | rfl | (simp [oneB] at this)
  have hkv := Nat.eq_of_beq_eq_true hk
  have hkv' : v.cells.size = k := by simpa using hkv
  rcases hown with ⟨_, h, _, _⟩ | ⟨b, off, cs, e, hp, hseg, hlc, hcm, hsz, hh⟩
  · subst h; simp at hy
  · subst hp hm hseg
    have hlt : i < xs.length := (List.getElem?_eq_some_iff.1 hy).1
    have hxs : off + xs.length * E.k ≤ cs.size := by
      have : xs.length * E.k ≤ c * E.k := Nat.mul_le_mul_right _ hlc
      omega
    have hfk' : f + k ≤ E.k := Nat.ble_eq ▸ hfk
    have hbig : off + i * E.k + E.k ≤ cs.size := by
      have : (i + 1) * E.k ≤ xs.length * E.k := Nat.mul_le_mul_right _ hlt
      rw [Nat.add_mul] at this; omega
    have hspl : (splice cs.toList (off + i * E.k + f) v.cells.toList).length = cs.size := by simp [splice]; omega
    refine W_skip _ hok ?_ (kk _ _ (Or.inr ⟨b, off, ⟨splice cs.toList (off + i * E.k + f) v.cells.toList⟩, e, rfl, rfl, by simpa using hlc, hcm, by simpa [hspl] using hsz, holds_set hh i y y' hy f _ hsp (by omega) hxs⟩) (hM.setRow pl _ hi))
    have hst := run_storeVar_blk (P := P) (w := w) (b := b) (off := off + (i * E.k + f)) (cs := cs.toList) (e := e) hs hkv (hM.blk pl hi) (by simp; omega) h1
    unfold execOp
    simp only [ho, Instr.storeAt, Instr.sureAddr, rho, hx, hz, elemP, Option.getD_some, Sem.run_bind, Sem.run_pure, Result.andThen_ok, hst, Nat.add_assoc]
end ops
end
end Go.Gx
