/- append, make, x[l:h] on slices of flat elements; loops by fuel; cuts. -/
import Derived.Test.YtimffallbjpcjaaGreatDoorGxC
import Derived.Deep.LoopGhost
set_option linter.unusedVariables false
set_option linter.unusedSimpArgs false
namespace Go.Gx
section
variable {α : Type} {E : Enc α} {F : List Nat} {w0 w w' : World} {Ls : List Seg} {xs ys : List α} {p q : Option Addr} {c : Nat} {seg : Seg}
/-! ### The elements' cells as one list -/
def flat (E : Enc α) (xs : List α) : List Value := xs.flatMap E.cells
def holdsF (cs : Array Value) (off : Nat) (vs : List Value) : Prop := ∀ m v, vs[m]? = some v → cs[off + m]? = some v
theorem flat_length (E : Enc α) : ∀ xs : List α, (flat E xs).length = xs.length * E.k
  | [] => by simp [flat]
  | x :: r => by
    have := flat_length E r
    simp only [flat, List.flatMap_cons, List.length_append, E.len, List.length_cons] at *
    rw [this, Nat.add_mul]; omega
theorem flat_append (E : Enc α) (xs ys : List α) : flat E (xs ++ ys) = flat E xs ++ flat E ys := by simp [flat]
theorem flat_one (E : Enc α) (xs : List α) : ∀ v ∈ flat E xs, v.oneCell' = true := by
  intro v hv
  obtain ⟨x, _, hx⟩ := List.mem_flatMap.1 hv
  exact E.one x v hx
theorem holds_flat {cs : Array Value} : ∀ {xs : List α} {off : Nat}, holds E cs off xs ↔ holdsF cs off (flat E xs)
  | [], off => by simp [holds, holdsF, flat]
  | x :: r, off => by
    have ih := @holds_flat cs r (off + E.k)
    have hk := E.len x
    constructor
    · intro h m v hm
      simp only [flat, List.flatMap_cons] at hm
      by_cases hlt : m < E.k
      · rw [List.getElem?_append_left (by omega)] at hm
        have := h 0 x (by simp) m v hm
        simpa using this
      · rw [List.getElem?_append_right (by omega), hk] at hm
        have h2 : holds E cs (off + E.k) r := fun i y hy j u hu => by
          have := h (i + 1) y (by simpa using hy) j u hu
          rwa [show off + E.k + i * E.k + j = off + (i + 1) * E.k + j by rw [Nat.add_mul]; omega]
        have := ih.1 h2 (m - E.k) v hm
        rwa [show off + E.k + (m - E.k) = off + m by omega] at this
    · intro h i y hy j u hu
      have hj : j < E.k := by have := (List.getElem?_eq_some_iff.1 hu).1; rwa [E.len] at this
      cases i with
      | zero =>
        simp only [List.getElem?_cons_zero, Option.some.injEq] at hy
        subst hy
        have := h j u (by simp only [flat, List.flatMap_cons]; rw [List.getElem?_append_left (by omega)]; exact hu)
        simpa using this
      | succ i =>
        have h2 : holdsF cs (off + E.k) (flat E r) := fun m v hm => by
          have := h (E.k + m) v (by
            simp only [flat, List.flatMap_cons]
            rw [List.getElem?_append_right (by omega), hk, show E.k + m - E.k = m by omega]; exact hm)
          rwa [← Nat.add_assoc] at this
        have := ih.2 h2 i y (by simpa using hy) j u hu
        rwa [show off + (i + 1) * E.k + j = off + E.k + i * E.k + j by rw [Nat.add_mul]; omega]
theorem rdS.cells (h : rdS E w xs p c) (hne : xs ≠ []) : ∃ a, p = some a ∧ ∀ j v, (flat E xs)[j]? = some v → w.cell? (a.add j) = some v := by
  rcases h with ⟨_, h | ⟨b, off, cs, e, fr, hp, hb, hh⟩⟩
  · exact absurd h hne
  · exact ⟨_, hp, fun j v hv => by rw [addr_add, cell_of_heap hb]; exact holds_flat.1 hh j v hv⟩

/-! ### append -/
def sliceInfo (P : Program) (t : TypeId) : Option (Nat × Nat × List Value) :=
  match P.underlying t with
  | some (.slice e) => match P.info? e with
    | some i => i.zero.map fun z => (i.size, i.bytes, z.cells.toList)
    | none => none
  | _ => none
theorem sliceInfo_spec {P : Program} {t : TypeId} {k bytes : Nat} {zs : List Value} (h : sliceInfo P t = some (k, bytes, zs)) :
    ∃ e i z, P.underlying t = some (.slice e) ∧ P.info? e = some i ∧ i.zero = some z ∧ i.size = k ∧ i.bytes = bytes ∧ z.cells.toList = zs := by
  unfold sliceInfo at h
  split at h
  · rename_i e he
    split at h
    · rename_i i hi
      obtain ⟨z, hz, hk⟩ := Option.map_eq_some_iff.1 h
      simp only [Prod.mk.injEq] at hk
      exact ⟨e, i, z, he, hi, hz, hk.1, hk.2.1, hk.2.2⟩
    · cases h
  · cases h
def gxApp (B : Nat) (xs ys : List α) : Option (List α) := if (xs.length + ys.length) * B ≤ 140737488355328 then some (xs ++ ys) else none
theorem gxApp_spec {B : Nat} {xs ys zs : List α} (h : gxApp B xs ys = some zs) : (xs.length + ys.length) * B ≤ 140737488355328 ∧ zs = xs ++ ys := by
  unfold gxApp at h
  split at h
  · simp only [Option.some.injEq] at h; exact ⟨‹_›, h.symm⟩
  · cases h
theorem Mem.replace (hM : Mem F w0 w (Ls ++ [seg])) (pl : Nat) (hpl : pl < Ls.length) : Mem F w0 w (Ls.set pl seg) := by
  refine hM.part (fun p hp => ?_) ?_
  · rw [List.flatten_append, List.mem_append]
    rcases mem_set hp with h | ⟨j, _, h⟩
    · exact Or.inr (by simpa using h)
    · exact Or.inl (mem_getD h)
  · have hn := hM.nodup
    obtain ⟨A, B, hA, hl⟩ := getD_split Ls pl hpl
    have hset : Ls.set pl seg = A ++ seg :: B := by
      conv => lhs; rw [hA]
      rw [List.set_append_right _ _ (by omega), hl, Nat.sub_self]
      rfl
    rw [hset]
    rw [hA] at hn
    simp only [List.flatten_append, List.flatten_cons, List.map_append, List.flatten_nil, List.append_nil, List.append_assoc] at hn ⊢
    have hn2 : ((A.flatten.map (·.1)) ++ ((B.flatten.map (·.1)) ++ (seg.map (·.1)))).Nodup := by
      refine List.Nodup.sublist (List.Sublist.append (List.Sublist.refl _) ?_) hn
      exact List.sublist_append_right _ _
    refine ((List.Perm.append_left _ ?_).nodup_iff).2 hn2
    exact List.perm_append_comm
theorem run_appendG {P : Program} {t ty : TypeId} {bytes : Nat} {zs : List Value} {cy : Nat} {ysn : Nat} (hi : sliceInfo P t = some (E.k, bytes, zs)) (hz : zs.length = E.k) (hk : 0 < E.k)
    (hown : ownS E xs p c seg) (pl : Nat) (hM : Mem F w0 w Ls) (hpl : Ls.getD pl [] = seg) (hlt : pl < Ls.length) (hrd : rdS E w ys q cy)
    (hb : (xs.length + ys.length) * bytes ≤ 140737488355328) (hmax : xs.length + ys.length ≤ maxLen) :
    ∃ p' c' seg' w', (Builtin.append_ #[t, t] ty #[.slice p xs.length c, .slice q ys.length cy]).run P w = .ok (.slice p' (xs ++ ys).length c') w' ∧
      ownS E (xs ++ ys) p' c' seg' ∧ Mem F w0 w' (Ls.set pl seg') := by
  obtain ⟨e, i, z, hu, hinf, hzero, hsz, hby, hzs⟩ := sliceInfo_spec hi
  have hzk : z.cells.size = E.k := by rw [← hz, ← hzs]; simp
  have hmax' : xs.length + ys.length ≤ 9223372036854775807 := by simpa [maxLen] using hmax
  by_cases h0 : ys = []
  · subst h0
    refine ⟨p, c, seg, w, ?_, by simpa using hown, ?_⟩
    · have hroom : xs.length + 0 ≤ c := by have := hown.len_le; omega
      cases q <;> cases p <;> simp [Builtin.append_, run_underlying hu, sizeOf, typeInfo, hinf, Builtin.lenOf, hroom, Builtin.firstCells, loadCells, loadCellsFrom, storeCells, hown.len_le]
    · have : Ls.set pl seg = Ls := by
        rw [← hpl]
        apply List.ext_getElem?
        intro j
        rw [List.getElem?_set]
        split
        · rename_i hj; subst hj; simp [hlt, List.getD_eq_getElem?_getD]
        · rfl
      rw [this]; exact hM
  · have hn0 : 0 < ys.length := List.length_pos_iff.2 h0
    obtain ⟨a, hq, hcells⟩ := hrd.cells h0
    subst hq
    have hl : (flat E ys).length = ys.length * i.size := by rw [hsz]; exact flat_length E ys
    -- a new block
    have grown : ∀ (old : Nat) (olds : List Value), olds = flat E xs → ∃ seg', 
        ownS E (xs ++ ys) (some ⟨w.heap.size, 0, none⟩) (grownCap w (xs.length + ys.length) old e) seg' ∧
        Mem F w0 (w.drew.alloc (.cells (olds.toArray ++ (flat E ys).toArray ++ Builtin.zeroCells z.cells (grownCap w (xs.length + ys.length) old e - (xs.length + ys.length))) e)) (Ls.set pl seg') := by
      intro old olds ho
      subst ho
      have hge := grownCap_ge w (xs.length + ys.length) old e
      have hcm := grownCap_le_maxLen w (xs.length + ys.length) old e hmax
      refine ⟨_, Or.inr ⟨w.heap.size, 0, _, e, rfl, rfl, by simpa using hge, hcm, ?_, ?_⟩, Mem.replace (Mem.alloc (w := w.drew) ⟨hM.os, hM.tape, hM.output, hM.size, hM.old, hM.has, hM.place, hM.nodup, hM.frz⟩ _ rfl) pl hlt⟩
      · simp only [Array.size_append, List.size_toArray, flat_length, size_zeroCells, hzk, Nat.zero_add, ← Nat.add_mul]
        refine Nat.mul_le_mul_right _ ?_
        omega
      · rw [holds_flat, flat_append]
        intro m v hm
        have hlen : m < (flat E xs ++ flat E ys).length := (List.getElem?_eq_some_iff.1 hm).1
        rw [Nat.zero_add, Array.getElem?_append_left (by simpa using hlen)]
        simpa using hm
    rcases hown with ⟨hp, hx, hc, hs⟩ | ⟨b, off, cs, e', hp, hs, hlc, hcm, hsize, hh⟩
    · subst hp hx hc hs
      have hr := run_append_nil (P := P) w t ty e i z hu hinf hzero a ys.length cy (flat E ys) hl hcells hn0 (by simp only [List.length_nil] at hmax'; omega) (by subst hby; simp only [List.length_nil, Nat.zero_add] at hb; omega)
      obtain ⟨seg', h1, h2⟩ := grown 0 [] (by simp [flat])
      simp only [List.length_nil, Nat.zero_add, List.nil_append, Array.empty_append] at hr h1 h2 ⊢
      exact ⟨_, _, seg', _, hr, h1, h2⟩
    · subst hp hs
      have hxcells : ∀ j v, (flat E xs)[j]? = some v → w.cell? ((⟨b, off, none⟩ : Addr).add j) = some v := fun j v hv => by
        rw [addr_add, cell_of_heap (hM.blk pl hpl)]; exact holds_flat.1 hh j v hv
      by_cases hroom : xs.length + ys.length ≤ c
      · have hfit : (off + xs.length * E.k) + 0 + (flat E ys).length ≤ cs.size := by
          rw [flat_length]
          have : (xs.length + ys.length) * E.k ≤ c * E.k := Nat.mul_le_mul_right _ hroom
          rw [Nat.add_mul] at this; omega
        have hf := run_firstCells_some (P := P) w i.size ys.length a ys.length cy (flat E ys) hl hcells
        have hst := run_storeCells_at P b (off + xs.length * E.k) e' (flat E ys) 0 cs w (hM.blk pl hpl) hfit (flat_one E ys)
        refine ⟨some ⟨b, off, none⟩, c, [(b, .cells (cs.toList.take (off + xs.length * E.k + 0) ++ flat E ys ++ cs.toList.drop (off + xs.length * E.k + 0 + (flat E ys).length)).toArray e' (0, 0))], _, ?_, Or.inr ⟨b, off, _, e', rfl, rfl, ?_, hcm, ?_, ?_⟩, hM.setRow pl _ hpl⟩
        · rw [hsz] at hf
          simp only [Nat.add_zero] at hst
          simp [Builtin.append_, run_underlying hu, sizeOf, typeInfo, hinf, Builtin.lenOf, hroom, hf, addr_add, hsz]
          rw [hst]
          simp
        · simpa using hroom
        · simp only [List.size_toArray, List.length_append, List.length_take, List.length_drop, Array.length_toList]; omega
        · rw [holds_flat, flat_append]
          intro m v hm
          have hfx := flat_length E xs
          have hfy := flat_length E ys
          simp only [List.getElem?_toArray, Nat.add_zero]
          by_cases hlt' : m < (flat E xs).length
          · rw [List.getElem?_append_left hlt'] at hm
            rw [List.append_assoc, List.getElem?_append_left (by simp; omega), List.getElem?_take, if_pos (by omega)]
            have := holds_flat.1 hh m v hm
            simpa using this
          · rw [List.getElem?_append_right (by omega)] at hm
            have hml := (List.getElem?_eq_some_iff.1 hm).1
            rw [List.append_assoc, List.getElem?_append_right (by simp; omega), List.getElem?_append_left (by simp; omega)]
            rw [← hm]
            congr 1
            simp
            omega
      · have hr := run_append_grow (P := P) w t ty e i z hu hinf hzero ⟨b, off, none⟩ xs.length c (flat E xs) (by rw [hsz]; exact flat_length E xs) hxcells a ys.length cy (flat E ys) hl hcells (by omega) (by omega) (by subst hby; exact growslice_fits (by omega) hb)
        obtain ⟨seg', h1, h2⟩ := grown c _ rfl
        rw [← List.length_append] at hr h1 h2
        exact ⟨_, _, seg', _, hr, h1, h2⟩
section ops
variable {P : Program} {ops : Array Oper} {n : Nat} {Q : Exit → Act → World → Prop} {S : Store} {rest : List Oper} {o : Oper}
theorem W_append (t : TypeId) (s y : Operand) (bytes : Nat) (zsv : List Value) (pl : Nat) (cy : Nat) {zz : List α} (hM : Mem F w0 w Ls) (hown : ownS E xs p c seg) (hpl : Ls.getD pl [] = seg) (hlt : Nat.blt pl Ls.length = true)
    (hok : okAll ops n S o = true) (ho : o.op = .call { callee := .builtin .append, args := #[s, y], argTypes := #[t, t] }) (hs : evalO S s = some (.slice p xs.length c)) (hy : evalO S y = some (.slice q ys.length cy))
    (hi : sliceInfo P t = some (E.k, bytes, zsv)) (hz : Nat.beq zsv.length E.k = true) (hk : Nat.blt 0 E.k = true) (hbp : Nat.blt 0 bytes = true)
    (hrd : rdS E w ys q cy) (hm : gxApp bytes xs ys = some zz)
    (kk : ∀ p' c' seg' w', ownS E zz p' c' seg' → Mem F w0 w' (Ls.set pl seg') → W P ops n Q (putS S o.dst (.slice p' zz.length c')) w' rest) : W P ops n Q S w (o :: rest) := by
  obtain ⟨hb, hzz⟩ := gxApp_spec hm
  subst hzz
  have hbp' : 0 < bytes := Nat.blt_eq ▸ hbp
  have hmax : xs.length + ys.length ≤ maxLen := by
    have : (xs.length + ys.length) * 1 ≤ (xs.length + ys.length) * bytes := Nat.mul_le_mul_left _ hbp'
    simp only [maxLen]; omega
  obtain ⟨p', c', seg', w', hr, h1, h2⟩ := run_appendG (ty := o.type) (ysn := 0) hi (Nat.eq_of_beq_eq_true hz) (Nat.blt_eq ▸ hk) hown pl hM hpl (Nat.blt_eq ▸ hlt) hrd hb hmax
  refine W_val _ w' hok ?_ (kk p' c' seg' w' h1 h2)
  unfold execOp
  simp only [ho, resolve, invoke, builtin, Sem.run_bind, Sem.run_pure, Result.andThen_ok, List.map_toArray, List.map_cons, List.map_nil, rho, hs, hy, Option.getD_some, hr]

/-! ### make -/
def gxMake (B : Nat) (n : Int) (z : α) : Option (List α) := if 0 ≤ n ∧ n * B ≤ 140737488355328 then some (List.replicate n.toNat z) else none
theorem gxMake_spec {B : Nat} {n : Int} {z : α} {zs : List α} (h : gxMake B n z = some zs) : 0 ≤ n ∧ n * B ≤ 140737488355328 ∧ zs = List.replicate n.toNat z := by
  unfold gxMake at h
  split at h
  · simp only [Option.some.injEq] at h; exact ⟨(‹_ ∧ _›).1, (‹_ ∧ _›).2, h.symm⟩
  · cases h
theorem holds_made (z : Array Value) (x : α) (hz : z.toList = E.cells x) (m : Nat) : holds E (madeCells z (m * E.k)) 0 (List.replicate m x) := by
  intro i y hy j v hv
  rw [List.getElem?_replicate] at hy
  split at hy
  · simp only [Option.some.injEq] at hy
    subst hy
    have hj : j < E.k := by have := (List.getElem?_eq_some_iff.1 hv).1; rwa [E.len] at this
    have hsize : z.size = E.k := by rw [← Array.length_toList, hz, E.len]
    have hlt : i * E.k + j < m * E.k := by
      have : (i + 1) * E.k ≤ m * E.k := Nat.mul_le_mul_right _ (by omega)
      rw [Nat.add_mul] at this; omega
    rw [Nat.zero_add]
    simp only [madeCells, Array.getElem?_map, Array.getElem?_range, hlt, if_true, Option.map_some]
    rw [hsize, Nat.mul_comm i E.k, Nat.mul_add_mod, Nat.mod_eq_of_lt hj]
    have hjz : j < z.size := by omega
    have : z[j]? = some v := by rw [← Array.getElem?_toList, hz]; exact hv
    simp [getElem!_def, this]
  · cases hy
theorem W_make (t : TypeId) (x y : Operand) (m : Int) (bytes : Nat) (zsv : List Value) (z0 : α) {zz : List α} (hM : Mem F w0 w Ls)
    (hok : okAll ops n S o = true) (ho : o.op = .makeSlice t x y) (hx : evalO S x = some (.int .i64 m)) (hy : evalO S y = some (.int .i64 m))
    (hi : sliceInfo P t = some (E.k, bytes, zsv)) (hz : zsv = E.cells z0) (hbp : Nat.blt 0 bytes = true) (hm : gxMake bytes m z0 = some zz)
    (kk : ∀ p' c' seg' w', ownS E zz p' c' seg' → Mem F w0 w' (Ls ++ [seg']) → W P ops n Q (putS S o.dst (.slice p' zz.length c')) w' rest) : W P ops n Q S w (o :: rest) := by
  obtain ⟨h0, hb, hzz⟩ := gxMake_spec hm
  subst hzz
  obtain ⟨e, i, z, hu, hinf, hzero, hsz, hby, hzs⟩ := sliceInfo_spec hi
  have hbp' : 0 < bytes := Nat.blt_eq ▸ hbp
  have hm47 : m ≤ 140737488355328 := by
    have : m * 1 ≤ m * (bytes : Int) := Int.mul_le_mul_of_nonneg_left (by omega) h0
    omega
  have hr := run_make (P := P) w t e i z hu hinf hzero .i64 .i64 m m h0 (Int.le_refl _) (by subst hby; rw [Int.mul_comm]; omega) (by omega)
  rw [hsz] at hr
  refine W_val (.slice (some ⟨w.heap.size, 0, none⟩) (List.replicate m.toNat z0).length m.toNat) _ hok ?_ (kk _ _ [(w.heap.size, .cells (madeCells z.cells (m.toNat * E.k)) e)] _ (Or.inr ⟨w.heap.size, 0, _, e, rfl, rfl, by simp, by simp only [maxLen]; omega, by simp [size_madeCells], holds_made z.cells z0 (by rw [hzs, hz]) m.toNat⟩) (hM.alloc _ rfl))
  unfold execOp
  simp only [ho, rho, hx, hy, Option.getD_some, Sem.run_bind, hr, Result.andThen_ok, Sem.run_pure, List.length_replicate]

/-! ### x[l:h] -/
theorem W_slice (t : TypeId) (x : Operand) (lo hi : Option Operand) (len : Nat) (l h : Int) (k : Nat) (hok : okAll ops n S o = true) (ho : o.op = .slice t x lo hi none)
    (hx : evalO S x = some (.slice p len c)) (hl : (lo = none ∧ l = 0) ∨ ∃ y, lo = some y ∧ evalO S y = some (.int .i64 l)) (hh : (hi = none ∧ h = len) ∨ ∃ y, hi = some y ∧ evalO S y = some (.int .i64 h))
    (ht : sliceElem P t = some k) (hlen : len ≤ c) (h0 : 0 ≤ l) (h1 : l ≤ h) (h2 : h ≤ len)
    (kk : W P ops n Q (putS S o.dst (.slice (subP p l.toNat c k) (h.toNat - l.toNat) (c - l.toNat))) w rest) : W P ops n Q S w (o :: rest) := by
  obtain ⟨e, inf, hu, hinf, hk⟩ := sliceElem_spec ht
  refine W_val _ w hok ?_ kk
  have hb1 : ∀ code, (Instr.sliceBound (.int .i64 h) c code).run P w = .ok h.toNat w := fun code => by
    have : 0 ≤ h ∧ h ≤ (c : Int) := ⟨by omega, by omega⟩
    simp only [Instr.sliceBound, asIntOf, Sem.run_bind, Sem.run_pure, Result.andThen_ok, if_pos this]
  have hb2 : ∀ code, (Instr.sliceBound (.int .i64 l) h.toNat code).run P w = .ok l.toNat w := fun code => by
    have : 0 ≤ l ∧ l ≤ (h.toNat : Int) := ⟨by omega, by omega⟩
    simp only [Instr.sliceBound, asIntOf, Sem.run_bind, Sem.run_pure, Result.andThen_ok, if_pos this]
  have key : (Instr.sliceBounds true len c (lo.map (rho S)) (hi.map (rho S)) none).run P w = .ok (l.toNat, h.toNat, c) w := by
    rcases hl with ⟨rfl, rfl⟩ | ⟨yl, rfl, hyl⟩ <;> rcases hh with ⟨rfl, rfl⟩ | ⟨yh, rfl, hyh⟩ <;> simp only [Instr.sliceBounds, Option.map_none, Option.map_some, rho, Option.getD_some, *] <;> simp [hb1, hb2]
    · have : l ≤ (len : Int) := by omega
      have hb3 : (Instr.sliceBound (.int .i64 l) len .sliceB).run P w = .ok l.toNat w := by simp [Instr.sliceBound, asIntOf, h0, this]
      simp [hb3]
  unfold execOp
  simp only [ho, Instr.sliceAt, Sem.run_bind, run_underlying hu, Result.andThen_ok, rho, hx, Option.getD_some, Instr.slice, Option.map_none]
  simp only [sizeOf, typeInfo, Sem.run_bind, run_program, hinf, hk, Sem.run_pure, Result.andThen_ok]
  have key' : (Instr.sliceBounds true len c (Option.map (fun x => (evalO S x).getD undef) lo) (Option.map (fun x => (evalO S x).getD undef) hi) none).run P w = .ok (l.toNat, h.toNat, c) w := key
  first
    | (rw [key]; rfl)
    | (rw [key']; rfl)

/-! ### Cuts -/
theorem wpList_mono' {Q' : Exit → Act → World → Prop} (hq : ∀ e a w, Q e a w → Q' e a w) : ∀ (l : List Oper) (a : Act) (w : World), wpList P ops Q l a w → wpList P ops Q' l a w
  | [], a, w, h => hq _ _ _ h
  | o :: r, a, w, h => by
    unfold wpList at *
    split at h
    · rename_i hw
      rw [if_pos hw]
      rcases h with h | ⟨h1, h2⟩
      · refine .inl ?_
        unfold Oper.wp at *
        generalize (execOp a.eval o).run P w = r' at *
        have ih := fun a w => wpList_mono' hq r a w
        cases r' with
        | ok nx w' =>
          cases nx <;> simp only [Oper.upon] at h ⊢ <;> first
            | exact ih _ _ h
            | exact Calls.mono h (fun e w'' he => by cases e <;> first | exact ih _ _ he | exact hq _ _ _ he | (obtain ⟨a1, w1, h1⟩ := he; exact ⟨a1, w1, hq _ _ _ h1⟩))
            | exact Rows.mono h (fun _ _ he => ih _ _ he)
        | halt x w' => cases x <;> simp only [Oper.upon] at h ⊢ <;> exact hq _ _ _ h
      · obtain ⟨a1, w1, h3⟩ := h2
        exact .inr ⟨h1, a1, w1, hq _ _ _ h3⟩
    · rename_i hw
      rw [if_neg hw]
      exact wpList_mono' hq r _ _ h
/-- All ways of a piece meet in one relation. -/
def Meet (J : Act → World → Prop) (Q : Exit → Act → World → Prop) : Exit → Act → World → Prop
  | .normal, a, w => J a w
  | e, a, w => Q e a w
theorem W_meet {l : List Oper} (J : Act → World → Prop) (h : W P ops n (Meet J Q) S w l) (k : ∀ a w', J a w' → Q .normal a w') : W P ops n Q S w l :=
  fun a ha => wpList_mono' (fun e a w hm => by cases e <;> first | exact hm | exact k _ _ hm) l a w (h a ha)
theorem G_meet {x : Code} (J : Act → World → Prop) (h : G P n x (Meet J Q) S w) (k : ∀ a w', J a w' → Q .normal a w') : G P n x Q S w :=
  fun a ha => wp_mono (h a ha) (fun e a w hm => by cases e <;> first | exact hm | exact k _ _ hm)
theorem G_seq_meet {x y : Code} (J : Act → World → Prop) (h : G P n x (Meet J Q) S w) (k : ∀ a w', J a w' → y.wp P Q a w') : G P n (.seq x y) Q S w :=
  fun a ha => wp_seq (wp_mono (h a ha) (fun e a w hm => by cases e <;> first | exact hm | exact k _ _ hm))
theorem N_meet {J : Act → World → Prop} (h : ∀ a, Sat n S a → J a w) : N n (Meet J Q) .normal S w := h
theorem N_meet_exit {J : Act → World → Prop} {id : Nat} (h : N n Q (.exit id) S w) : N n (Meet J Q) (.exit id) S w := h
theorem N_meet_ret {J : Act → World → Prop} (h : N n Q .ret S w) : N n (Meet J Q) .ret S w := h

/-! ### Loops by fuel -/
def whileM {σ ρ : Type} (body : σ → Option (σ ⊕ ρ)) : Nat → σ → Option ρ
  | 0, _ => none
  | m + 1, s => match body s with
    | none => none
    | some (.inl s') => whileM body m s'
    | some (.inr r) => some r
theorem G_while {σ ρ : Type} {body : σ → Option (σ ⊕ ρ)} {x : Code} {m : Nat} {s0 : σ} {out : ρ} (R : σ → Act → World → Prop) (hw : whileM body m s0 = some out) (h0 : ∀ a, Sat n S a → R s0 a w)
    (step : ∀ s r, body s = some r → (∀ u, r = .inr u → u = out) → ∀ a w, R s a w → x.wp P (Exit.then (fun a' w' => ∃ s', r = .inl s' ∧ R s' a' w') Q) a w) : G P n (.loop x) Q S w := by
  intro a ha
  refine wp_loop_ghost (fun k a w => ∃ s, whileM body k s = some out ∧ R s a w) m ⟨s0, hw, h0 a ha⟩ ?_
  intro k a w ⟨s, hk, hR⟩
  cases k with
  | zero => simp [whileM] at hk
  | succ k =>
    simp only [whileM] at hk
    cases hb : body s with
    | none => simp [hb] at hk
    | some r =>
      refine wp_mono (step s r hb (fun u hu => by subst hu; simpa [hb] using hk) a w hR) ?_
      intro e a' w' hq
      cases e with
      | normal =>
        obtain ⟨s', hr, hR'⟩ := hq
        subst hr
        exact ⟨k, Nat.lt_succ_self k, s', by simpa [hb] using hk, hR'⟩
      | exit id => exact hq
      | goto l => exact hq
      | ret => exact hq
      | panic ch => exact hq
      | outgrown => exact hq
end ops
end
end Go.Gx
