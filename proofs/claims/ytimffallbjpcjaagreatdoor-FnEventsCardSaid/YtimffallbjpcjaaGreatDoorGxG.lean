/- What single operations come to, as equations; literals of slices. -/
import Derived.Test.YtimffallbjpcjaaGreatDoorGxF
set_option linter.unusedVariables false
set_option linter.unusedSimpArgs false
namespace Go.Gx
section
variable {α : Type} {E : Enc α} {F : List Nat} {w0 w w' : World} {Ls : List Seg} {xs ys : List α} {p q : Option Addr} {c : Nat} {seg : Seg}
variable {P : Program} {ops : Array Oper} {n : Nat} {Q : Exit → Act → World → Prop} {S : Store} {rest : List Oper} {o : Oper}
theorem E_load (t : TypeId) (x : Operand) (g : Bool) (k b off : Nat) (cs : List Value) {e : TypeId} {fr : Nat × Nat} (v : Value) (ho : o.op = .load t x)
    (hx : evalO S x = some (.pointer (some ⟨b, off, none⟩))) (hs : shapeT P t = some (g, k)) (hv : loadV g k cs off = some v) (hb : w.heap[b]? = some (.cells ⟨cs⟩ e fr)) :
    (execOp (rho S) o).run P w = .ok (.value v) w := by
  unfold execOp
  simp only [ho, Instr.loadAt, Instr.sureAddr, rho, hx, Option.getD_some, Sem.run_bind, Sem.run_pure, Result.andThen_ok, run_load_blk (x := x) hs hb hv]
theorem E_index (t : TypeId) (x ix : Operand) (len c : Nat) (kd : IntKind) (i : Int) (k : Nat) {y : α} (ho : o.op = .indexAddr t x ix)
    (hx : evalO S x = some (.slice p len c)) (hi : evalO S ix = some (.int kd i)) (ht : sliceElem P t = some k)
    (hrd : rdS E w xs p c) (hlen : xs.length = len) (hm : gxIdx xs i = some y) : (execOp (rho S) o).run P w = .ok (.value (elemP p (i.toNat * k))) w := by
  obtain ⟨h0, hy⟩ := gxIdx_spec hm
  obtain ⟨e, inf, hu, hinf, hk⟩ := sliceElem_spec ht
  have hlt : i.toNat < xs.length := (List.getElem?_eq_some_iff.1 hy).1
  have hs := hrd.isSome hy
  have hpl := hrd.plain hy
  cases p with
  | none => simp at hs
  | some a =>
    obtain ⟨b, off, spot⟩ := a
    have : spot = none := hpl _ rfl
    subst this
    have hc : 0 ≤ i ∧ i < (len : Int) := ⟨h0, by omega⟩
    unfold execOp
    simp only [ho, Instr.indexAt, rho, hx, hi, Option.getD_some, asIntOf, Sem.run_bind, Sem.run_pure, Result.andThen_ok, run_underlying hu]
    simp [hc, sizeOf, typeInfo, hinf, hk, addr_add, elemP, run_underlying hu]
theorem E_loadE (t : TypeId) (x : Operand) (g : Bool) (k : Nat) (i : Int) (f m : Nat) (y : α) (v : Value) (ho : o.op = .load t x)
    (hx : evalO S x = some (elemP p m)) (hs : shapeT P t = some (g, k)) (hv : loadV g k (E.cells y) f = some v)
    (hrd : rdS E w xs p c) (hi : gxIdx xs i = some y) (hm : m = i.toNat * E.k + f) : (execOp (rho S) o).run P w = .ok (.value v) w := by
  obtain ⟨_, hy⟩ := gxIdx_spec hi
  rcases hrd with ⟨_, h | ⟨b, off, cs, e, fr, hp, hb, hh⟩⟩
  · subst h; simp at hy
  · subst hp hm
    have hl := run_loadVar_in (P := P) (w := w) (b := b) (m := off + i.toNat * E.k) (off := f) hs hv (fun j u hu => by rw [cell_of_heap hb]; exact hh _ y hy j u hu)
    unfold execOp
    simp only [ho, Instr.loadAt, Instr.sureAddr, rho, hx, elemP, Option.getD_some, Sem.run_bind, Sem.run_pure, Result.andThen_ok]
    rw [← Nat.add_assoc, hl]
    rfl
def fieldOff (P : Program) (s : TypeId) (fld : Nat) : Option Nat :=
  match P.underlying s with
  | some (.struct fs) => match fs[fld]? with
    | some f => match P.info? f.type with
      | some i => bif Nat.beq i.size 0 then none else some f.offset
      | none => none
    | none => none
  | _ => none
theorem fieldOff_spec {s : TypeId} {fld f : Nat} (h : fieldOff P s fld = some f) (b off : Nat) (w : World) :
    (Instr.fieldAt s (.pointer (some ⟨b, off, none⟩)) fld).run P w = .ok (.pointer (some ⟨b, off + f, none⟩)) w := by
  unfold fieldOff at h
  split at h
  · rename_i fs hfs
    split at h
    · rename_i fd hfd
      split at h
      · rename_i i hi
        cases hz : Nat.beq i.size 0 with
        | true => simp [hz] at h
        | false =>
          simp only [hz, cond_false, Option.some.injEq] at h
          subst h
          have hne : ¬ i.size = 0 := fun e => by rw [e] at hz; cases hz
          simp [Instr.fieldAt, run_underlying hfs, hfd, Instr.sureAddr, fieldPlace, sizeOf, typeInfo, hi, hne, addr_add]
      · cases h
    · cases h
  · cases h
theorem E_fieldE (s : TypeId) (x : Operand) (fld : Nat) (m f : Nat) {y : α} {i : Int} (ho : o.op = .fieldAddr s x fld) (hx : evalO S x = some (elemP p m)) (hf : fieldOff P s fld = some f)
    (hrd : rdS E w xs p c) (hi : gxIdx xs i = some y) : (execOp (rho S) o).run P w = .ok (.value (elemP p (m + f))) w := by
  obtain ⟨_, hy⟩ := gxIdx_spec hi
  have hsm := hrd.isSome hy
  cases p with
  | none => simp at hsm
  | some a =>
    unfold execOp
    simp only [ho, rho, hx, elemP, Option.getD_some, Sem.run_bind, fieldOff_spec hf, Result.andThen_ok, Nat.add_assoc, Sem.run_pure]
theorem rdS.sliceM (h : rdS E w xs p c) {l hi : Int} (hm : gxSlice xs l hi = some ys) : rdS E w ys (subP p l.toNat c E.k) (c - l.toNat) := by
  obtain ⟨h1, h2, h3, rfl⟩ := gxSlice_spec hm
  exact h.slice l.toNat hi.toNat (by omega) (by omega)
theorem E_slice (t : TypeId) (x : Operand) (lo hi : Option Operand) (len : Nat) (l h : Int) (ho : o.op = .slice t x lo hi none)
    (hx : evalO S x = some (.slice p len c)) (hl : (lo = none ∧ l = 0) ∨ ∃ y, lo = some y ∧ evalO S y = some (.int .i64 l)) (hh : (hi = none ∧ h = len) ∨ ∃ y, hi = some y ∧ evalO S y = some (.int .i64 h))
    (ht : sliceElem P t = some E.k) (hrd : rdS E w xs p c) (hlen : xs.length = len) (hm : gxSlice xs l h = some ys) :
    (execOp (rho S) o).run P w = .ok (.value (.slice (subP p l.toNat c E.k) ys.length (c - l.toNat))) w := by
  obtain ⟨h0, h1, h2, _⟩ := gxSlice_spec hm
  rw [gxSlice_len hm]
  have hlc := hrd.1
  obtain ⟨e, inf, hu, hinf, hk⟩ := sliceElem_spec ht
  have hb1 : ∀ code, (Instr.sliceBound (.int .i64 h) c code).run P w = .ok h.toNat w := fun code => by
    have : 0 ≤ h ∧ h ≤ (c : Int) := ⟨by omega, by omega⟩
    simp only [Instr.sliceBound, asIntOf, Sem.run_bind, Sem.run_pure, Result.andThen_ok, if_pos this]
  have hb2 : ∀ code, (Instr.sliceBound (.int .i64 l) h.toNat code).run P w = .ok l.toNat w := fun code => by
    have : 0 ≤ l ∧ l ≤ (h.toNat : Int) := ⟨by omega, by omega⟩
    simp only [Instr.sliceBound, asIntOf, Sem.run_bind, Sem.run_pure, Result.andThen_ok, if_pos this]
  have key : (Instr.sliceBounds true len c (lo.map (rho S)) (hi.map (rho S)) none).run P w = .ok (l.toNat, h.toNat, c) w := by
    rcases hl with ⟨rfl, rfl⟩ | ⟨yl, rfl, hyl⟩ <;> rcases hh with ⟨rfl, rfl⟩ | ⟨yh, rfl, hyh⟩ <;> simp only [Instr.sliceBounds, Option.map_none, Option.map_some, rho, Option.getD_some, *] <;> simp [hb1, hb2]
    · have : l ≤ (len : Int) := by omega
      have hb3 : (Instr.sliceBound (.int .i64 l) len .sliceB).run P w = .ok l.toNat w := by simp [Instr.sliceBound, asIntOf, h0, this]
      simp [hb3]
  unfold execOp
  simp only [ho, Instr.sliceAt, Sem.run_bind, run_underlying hu, Result.andThen_ok, rho, hx, Option.getD_some, Instr.slice, Option.map_none]
  simp only [sizeOf, typeInfo, Sem.run_bind, run_program, hinf, hk, Sem.run_pure, Result.andThen_ok]
  have key' : (Instr.sliceBounds true len c (Option.map (fun x => (evalO S x).getD undef) lo) (Option.map (fun x => (evalO S x).getD undef) hi) none).run P w = .ok (l.toNat, h.toNat, c) w := key
  first
    | (rw [key]; rfl)
    | (rw [key']; rfl)
theorem E_div (t : TypeId) (x y : Operand) (k2 : TypeId) (a b z : Int) (ho : o.op = .binOp .quo t x y k2) (hx : evalO S x = some (.int .i64 a)) (hy : evalO S y = some (.int .i64 b)) (hm : gxDiv a b = some z) :
    (execOp (rho S) o).run P w = .ok (.value (.int .i64 z)) w := by
  unfold gxDiv at hm
  split at hm
  · cases hm
  · rename_i hb
    simp only [Option.some.injEq] at hm
    subst hm
    unfold execOp
    simp only [ho, rho, hx, hy, Option.getD_some]
    simp [eqGuard, binOp, Op.intDiv, hb, w64]
theorem E_rem (t : TypeId) (x y : Operand) (k2 : TypeId) (a b z : Int) (ho : o.op = .binOp .rem t x y k2) (hx : evalO S x = some (.int .i64 a)) (hy : evalO S y = some (.int .i64 b)) (hm : gxRem a b = some z) :
    (execOp (rho S) o).run P w = .ok (.value (.int .i64 z)) w := by
  unfold gxRem at hm
  split at hm
  · cases hm
  · rename_i hb
    simp only [Option.some.injEq] at hm
    subst hm
    unfold execOp
    simp only [ho, rho, hx, hy, Option.getD_some]
    simp [eqGuard, binOp, Op.intDiv, hb]
theorem rdS.isAddr (h : rdS E w xs p c) {i : Int} {y : α} (hm : gxIdx xs i = some y) : ∃ b off, p = some ⟨b, off, none⟩ := by
  obtain ⟨_, hy⟩ := gxIdx_spec hm
  rcases h with ⟨hc, h | ⟨b, off, cs, e, fr, hp, hb, hh⟩⟩
  · subst h; simp at hy
  · exact ⟨b, off, hp⟩
theorem E_nilE (x : Operand) (m : Nat) {i : Int} {y : α} (ho : o.op = .nilCheck x) (hx : evalO S x = some (elemP p m)) (hrd : rdS E w xs p c) (hm : gxIdx xs i = some y) :
    (execOp (rho S) o).run P w = .ok (.value (elemP p m)) w := by
  obtain ⟨b, off, rfl⟩ := hrd.isAddr hm
  unfold execOp
  simp only [ho, rho, hx, Option.getD_some]
  simp [elemP]
theorem gxIdx_put {β : Type} {us : List β} {i : Int} {y : β} (z : β) (h : gxIdx us i = some y) : gxIdx (us.set i.toNat z) i = some z := by
  obtain ⟨h0, h1⟩ := gxIdx_spec h
  have hl := (List.getElem?_eq_some_iff.1 h1).1
  unfold gxIdx
  rw [if_pos h0, List.getElem?_set_self hl]
def gxShl (a b : Int) : Option Int := if b < 0 then none else some (w64 (a * 2 ^ (min b.toNat 64)))
def gxShr (a b : Int) : Option Int := if b < 0 then none else some (a.fdiv (2 ^ (min b.toNat 64)))
theorem E_shl (t : TypeId) (x y : Operand) (k2 : TypeId) (a b z : Int) (kb : IntKind) (ho : o.op = .binOp .shl t x y k2) (hx : evalO S x = some (.int .i64 a)) (hy : evalO S y = some (.int kb b)) (hm : gxShl a b = some z) :
    (execOp (rho S) o).run P w = .ok (.value (.int .i64 z)) w := by
  unfold gxShl at hm
  split at hm
  · cases hm
  · rename_i hb
    simp only [Option.some.injEq] at hm
    subst hm
    unfold execOp
    simp only [ho, rho, hx, hy, Option.getD_some]
    simp [eqGuard, binOp, Op.shift, hb, w64, IntKind.bits]
theorem E_shr (t : TypeId) (x y : Operand) (k2 : TypeId) (a b z : Int) (kb : IntKind) (ho : o.op = .binOp .shr t x y k2) (hx : evalO S x = some (.int .i64 a)) (hy : evalO S y = some (.int kb b)) (hm : gxShr a b = some z) :
    (execOp (rho S) o).run P w = .ok (.value (.int .i64 z)) w := by
  unfold gxShr at hm
  split at hm
  · cases hm
  · rename_i hb
    simp only [Option.some.injEq] at hm
    subst hm
    unfold execOp
    simp only [ho, rho, hx, hy, Option.getD_some]
    simp [eqGuard, binOp, Op.shift, hb, IntKind.bits]
/-- A slice written out: its block. -/
theorem own_lit {b : Nat} {cs : List Value} {e : TypeId} {m : Nat} (hcs : cs = flat E xs) (hm : xs.length = m) (hmax : m ≤ maxLen) : ownS E xs (some ⟨b, 0, none⟩) m [(b, .cells ⟨cs⟩ e (0, 0))] := by
  subst hcs hm
  refine Or.inr ⟨b, 0, _, e, rfl, rfl, Nat.le_refl _, hmax, by simp [flat_length], holds_flat.2 fun j v hv => by simpa using hv⟩
theorem W_lit (xs : List α) (ln : Nat) (ob : List Value) (e : TypeId) (hM : Mem F w0 w Ls) (hok : okAll ops n S o = true)
    (hr : (execOp (rho S) o).run P w = .ok (.value (.slice (some ⟨w.heap.size, 0, none⟩) ln ln)) (w.alloc (.cells ⟨ob⟩ e (0, 0)))) (hcs : ob = flat E xs) (hln : xs.length = ln) (hmax : Nat.ble ln 1000000 = true)
    (kk : ∀ p' c' seg' w', ownS E xs p' c' seg' → Mem F w0 w' (Ls ++ [seg']) → W P ops n Q (putS S o.dst (.slice p' xs.length c')) w' rest) : W P ops n Q S w (o :: rest) := by
  refine W_val _ _ hok hr ?_
  have hmax' : ln ≤ maxLen := by have : ln ≤ 1000000 := Nat.ble_eq ▸ hmax; simp only [maxLen]; omega
  have := kk (some ⟨w.heap.size, 0, none⟩) ln [(w.heap.size, .cells ⟨ob⟩ e (0, 0))] _ (own_lit hcs hln hmax') (hM.alloc _ rfl)
  rwa [hln] at this
theorem N_known {e : Exit} (k : Nat) {b : Bool} (c : Bool) (hk : look S k = some (.bool b)) (hb : b = c) (h : N n Q e ((k, .bool c) :: S) w) : N n Q e S w := by
  subst hb
  refine fun a ha => h a ⟨ha.defers, ha.size, fun j v hj => ?_⟩
  rw [look_cons] at hj
  split at hj
  · rename_i he; subst he; exact ha.at_ _ _ (by rw [hk]; exact hj)
  · exact ha.at_ j v hj
theorem W_conv {l : List Oper} (k : Nat) (v v' : Value) (hk : look S k = some v) (he : v = v') (h : W P ops n Q ((k, v') :: S) w l) : W P ops n Q S w l := by
  subst he
  refine fun a ha => h a ⟨ha.defers, ha.size, fun j u hj => ?_⟩
  rw [look_cons] at hj
  split at hj
  · rename_i he; subst he; exact ha.at_ _ _ (by rw [hk]; exact hj)
  · exact ha.at_ j u hj
theorem apartX.slice (h : apartX F xs p) {l hi : Int} {k : Nat} (hm : gxSlice xs l hi = some ys) : apartX F ys (subP p l.toNat c k) := by
  obtain ⟨_, _, _, rfl⟩ := gxSlice_spec hm
  rcases h with h | h
  · exact Or.inl (by rw [h]; simp)
  · refine Or.inr fun a ha => ?_
    unfold subP at ha
    split at ha
    · exact h a ha
    · obtain ⟨a', ha', rfl⟩ := Option.map_eq_some_iff.1 ha
      have := h a' ha'
      unfold Addr.add
      split
      · exact this
      · exact this
/-- The list of an operation in a drawn region: nothing of the beginning is changed by it. -/
theorem Mem.mid {R : List Seg} {s : Seg} (h : Mem F w0 w ((Ls ++ ([[]] ++ R)) ++ [s])) : Mem F w0 w (Ls ++ ([s] ++ R)) := h.permF (by
  simp only [List.flatten_append, List.flatten_cons, List.flatten_nil, List.append_nil, List.nil_append, List.append_assoc]
  exact List.Perm.append_left _ List.perm_append_comm)
theorem Mem.callMid {R : List Seg} {s : Seg} (h : Mem F w0 w (Ls ++ ([[]] ++ R))) (hc : Mem [] w w' [s]) : Mem F w0 w' (Ls ++ ([s] ++ R)) := (h.call hc).mid
/-- A call that changes some of the memory of its own, in the middle of the list. -/
theorem Mem.callMidF {A B L2 : List Seg} (h : Mem F w0 w (Ls ++ (A ++ B))) (hc : Mem (idsOf A) w w' L2) : Mem F w0 w' (Ls ++ (L2 ++ B)) := by
  have h1 : Mem F w0 w (A ++ (Ls ++ B)) := h.perm (by
    rw [← List.append_assoc, ← List.append_assoc]
    exact List.Perm.append_right _ List.perm_append_comm)
  have hapart : ∀ p ∈ (Ls ++ B).flatten, p.1 ∉ idsOf A := by
    intro p hp hm
    have hn := h1.nodup
    rw [List.flatten_append, List.map_append, List.nodup_append] at hn
    exact hn.2.2 p.1 hm p.1 (List.mem_map_of_mem hp) rfl
  have hF : ∀ k ∈ idsOf A, w0.heap.size ≤ k ∨ k ∈ F := by
    intro k hk
    obtain ⟨q, hq, rfl⟩ := List.mem_map.1 hk
    exact h1.place q (by rw [List.flatten_append]; exact List.mem_append_left _ hq)
  have hin : ∀ p ∈ (Ls ++ B).flatten, p ∈ (A ++ (Ls ++ B)).flatten := fun p hp => by
    rw [List.flatten_append]; exact List.mem_append_right _ hp
  have h2 : Mem F w0 w' ((Ls ++ B) ++ L2) := by
    refine ⟨hc.os.trans h.os, hc.tape.trans h.tape, hc.output.trans h.output, Nat.le_trans h.size hc.size, ?_, ?_, ?_, ?_, fun k hk => (hc.frz k (Nat.lt_of_lt_of_le hk h.size)).trans (h.frz k hk)⟩
    · intro k hk hkF
      rw [hc.old k (Nat.lt_of_lt_of_le hk h.size) (fun hm => by rcases hF k hm with h1 | h1; omega; exact hkF h1), h.old k hk hkF]
    · intro p hp
      rw [List.flatten_append, List.mem_append] at hp
      rcases hp with hp | hp
      · rw [hc.old p.1 (h1.lt (hin p hp)) (hapart p hp)]
        exact h1.has p (hin p hp)
      · exact hc.has p hp
    · intro p hp
      rw [List.flatten_append, List.mem_append] at hp
      rcases hp with hp | hp
      · exact h1.place p (hin p hp)
      · rcases hc.place p hp with h3 | h3
        · exact Or.inl (Nat.le_trans h.size h3)
        · exact hF _ h3
    · rw [List.flatten_append, List.map_append, List.nodup_append]
      have hn := h1.nodup
      rw [List.flatten_append, List.map_append, List.nodup_append] at hn
      refine ⟨hn.2.1, hc.nodup, ?_⟩
      intro a ha b hb hab
      subst hab
      obtain ⟨p, hp, rfl⟩ := List.mem_map.1 ha
      obtain ⟨q, hq, hqp⟩ := List.mem_map.1 hb
      rcases hc.place q hq with h3 | h3
      · have := h1.lt (hin p hp); omega
      · exact hapart p hp (hqp ▸ h3)
  exact h2.perm (by
    rw [List.append_assoc]
    exact List.Perm.append_left _ List.perm_append_comm)
theorem Mem.takeOver {R : List Seg} {s : Seg} (h : Mem F w0 w (Ls ++ ([[]] ++ ([s] ++ R)))) : Mem F w0 w (Ls ++ ([s] ++ R)) := h.permF (by simp)
theorem Mem.preNil (h : Mem F w0 w Ls) (m : Nat) : Mem F w0 w (Ls ++ (List.range m).map (fun _ => [])) := h.permF (by
  have : ((List.range m).map (fun _ => ([] : Seg))).flatten = [] := by
    rw [List.flatten_eq_nil_iff]
    intro x hx
    obtain ⟨_, _, rfl⟩ := List.mem_map.1 hx
    rfl
  rw [List.flatten_append, this, List.append_nil])
theorem allOb_nil {pr : Nat → Oper → Prop} {i : Nat} : allOb pr i [] := trivial
theorem allOb_cons {pr : Nat → Oper → Prop} {i : Nat} {r : List Oper} (h : pr i o) (hs : allOb pr (i + 1) r) : allOb pr i (o :: r) := ⟨h, hs⟩
theorem Mem.start' (w : World) (Ls : List Seg) (h : ∀ q ∈ Ls.flatten, w.heap[q.1]? = some q.2) (hn : (idsOf Ls).Nodup) : Mem (idsOf Ls) w w Ls := Mem.start w Ls h hn
theorem Mem.callF' {L2 : List Seg} (h : Mem F w0 w Ls) (is js : List Nat) (hd : distinct (is ++ js) = true) (hc : Mem (idsOf (Gx.pick Ls is)) w w' L2) : Mem F w0 w' (Gx.pick Ls js ++ L2) := h.callF is js hd hc
theorem Mem.roX {ob : Obj} {b : Nat} (hM : Mem F w0 w Ls) (hb : w0.heap[b]? = some ob) (hF : b ∉ F) : w.heap[b]? = some ob := by
  rw [hM.old b (lt_of_heap hb) hF]; exact hb
theorem N_use {e : Exit} {a : Act} (hS : Sat n S a) (h : N n Q e S w) : Q e a w := h a hS
theorem G_use {x : Code} {a : Act} (hS : Sat n S a) (h : G P n x Q S w) : x.wp P Q a w := h a hS
theorem N_loop {K : Act → World → Prop} (h : ∀ a, Sat n S a → K a w) : N n (Exit.then K Q) .normal S w := h
theorem Z_end {C : World → Prop} (h : ∀ w', C w' → N n Q .normal S w') : Z P ops n C (fun a => ∀ w', C w' → Q .normal a w') S [] := fun a ha w' hw => h w' hw a ha
theorem RV_tmp {t : Nat} {v : Value} (h : look S t = some v) : RV P S w (.tmp t) v := h
theorem RVs_nil : RVs P S w [] [] := trivial
theorem RVs_cons {r : ResultVar} {v : Value} {rs : List ResultVar} {vs : List Value} (h : RV P S w r v) (hs : RVs P S w rs vs) : RVs P S w (r :: rs) (v :: vs) := ⟨h, hs⟩
theorem Mem.addNil (hM : Mem F w0 w Ls) : Mem F w0 w (Ls ++ [[]]) := hM.permF (by simp)
theorem Mem.ro {ob : Obj} {b : Nat} (hM : Mem [] w0 w Ls) (hb : w0.heap[b]? = some ob) : w.heap[b]? = some ob := by
  rw [hM.old b (lt_of_heap hb) (by simp)]; exact hb
end
def gxFuel : Nat := 1180591620717411303424
def gxAnd (k : IntKind) (a b : Int) : Int := k.wrap (BitVec.ofInt k.bits a &&& BitVec.ofInt k.bits b).toNat
def gxOr (k : IntKind) (a b : Int) : Int := k.wrap (BitVec.ofInt k.bits a ||| BitVec.ofInt k.bits b).toNat
def gxXor (k : IntKind) (a b : Int) : Int := k.wrap (BitVec.ofInt k.bits a ^^^ BitVec.ofInt k.bits b).toNat
def gxMin (a b : Int) : Int := if b < a then b else a
def gxMax (a b : Int) : Int := if b > a then b else a
end Go.Gx
