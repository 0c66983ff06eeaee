/- Parts of owned slices: cleared, handed out. -/
import Derived.Test.YtimffallbjpcjaaGreatDoorGxJ
set_option linter.unusedVariables false
set_option linter.unusedSimpArgs false
namespace Go.Gx
section
variable {α : Type} {E : Enc α} {F : List Nat} {w0 w w' : World} {Ls : List Seg} {xs ys : List α} {p q : Option Addr} {c : Nat} {seg : Seg}
theorem ownS.partM (h : ownS E xs p c seg) {l hi : Int} (hm : gxSlice xs l hi = some ys) : ownS E ys (subP p l.toNat c E.k) (c - l.toNat) seg := by
  obtain ⟨h1, h2, h3, rfl⟩ := gxSlice_spec hm
  have hl : l.toNat ≤ hi.toNat := by omega
  have hx : hi.toNat ≤ xs.length := by omega
  have hlen : ((xs.take hi.toNat).drop l.toNat).length = hi.toNat - l.toNat := by simp; omega
  rcases h with ⟨e0, e1, e2, e3⟩ | ⟨b, off, cs, e, hp, hs, hc, hm, hsz, hh⟩
  · subst e0 e1 e2 e3
    exact Or.inl ⟨by simp [subP], by simp, by omega, rfl⟩
  · refine Or.inr ?_
    by_cases hcl : c = l.toNat
    · refine ⟨b, off, cs, e, by simp [subP, hcl, hp], hs, by omega, by omega, ?_, fun i x hx' j v hv => ?_⟩
      · rw [hcl, Nat.sub_self, Nat.zero_mul]; omega
      · have : ((xs.take hi.toNat).drop l.toNat) = [] := List.eq_nil_of_length_eq_zero (by omega)
        rw [this] at hx'; simp at hx'
    · refine ⟨b, off + l.toNat * E.k, cs, e, by simp [subP, hcl, hp, addr_add], hs, by omega, by omega, ?_, fun i x hx' j v hv => ?_⟩
      · have : (c - l.toNat) * E.k + l.toNat * E.k = c * E.k := by rw [← Nat.add_mul]; congr 1; omega
        omega
      · rw [List.getElem?_drop, List.getElem?_take] at hx'
        split at hx'
        · have := hh (l.toNat + i) x hx' j v hv
          rwa [show off + l.toNat * E.k + i * E.k + j = off + (l.toNat + i) * E.k + j by rw [Nat.add_mul]; omega]
        · cases hx'
theorem blkApart (hM : Mem F w0 w Ls) (i : Nat) {b : Nat} {o : Obj} (hi : Ls.getD i [] = [(b, o)]) (is : List Nat) (hd : distinct (i :: is) = true) : b ∉ idsOf (pick Ls is) := getD_apart hM i hi is hd (b, o) (by simp)
theorem blkOld (hM : Mem F w0 w Ls) {b : Nat} {ob : Obj} (hb : w0.heap[b]? = some ob) (hF : b ∉ F) (is : List Nat) : b ∉ idsOf (pick Ls is) := fun hm => by
  obtain ⟨q, hq, hqb⟩ := List.mem_map.1 hm
  obtain ⟨i, _, hi⟩ := mem_pick is hq
  have h1 := lt_of_heap hb
  rcases hM.place q (mem_getD hi) with h2 | h2
  · rw [hqb] at h2; omega
  · rw [hqb] at h2; exact hF h2
/-- A result that is a part of what was handed in. -/
def viewS (k : Nat) (out : List α) (P : Option Addr) (C : Nat) (p : Option Addr) (c : Nat) (r : List α) : Prop :=
  ∃ l h : Int, p = subP P l.toNat C k ∧ c = C - l.toNat ∧ gxSlice out l h = some r
theorem viewS_self (h : ownS E xs p c seg) : viewS E.k xs p c p c xs := by
  refine ⟨0, xs.length, ?_, by simp, ?_⟩
  · rcases h with ⟨h0, _, _, _⟩ | ⟨b, off, cs, e, hp, _⟩
    · subst h0; simp [subP]
    · subst hp
      unfold subP
      split
      · rfl
      · simp [addr_add]
  · unfold gxSlice
    rw [if_pos ⟨by omega, by omega, by omega⟩]
    simp
def gxClear (xs : List α) (l h : Int) (z : α) : List α := xs.take l.toNat ++ List.replicate (h.toNat - l.toNat) z ++ xs.drop h.toNat
theorem gxClear_len (z : α) {l h : Int} (hm : gxSlice xs l h = some ys) : (gxClear xs l h z).length = xs.length := by
  obtain ⟨h1, h2, h3, rfl⟩ := gxSlice_spec hm
  simp [gxClear]
  omega
theorem zeroCells_list (z : Array Value) (n : Nat) : (Builtin.zeroCells z n).toList = (List.range (n * z.size)).map fun i => z[i % z.size]! := by
  simp [Builtin.zeroCells]
theorem flat_replicate (z0 : α) (z : Array Value) (hz : z.toList = E.cells z0) (n : Nat) : flat E (List.replicate n z0) = (Builtin.zeroCells z n).toList := by
  have hsize : z.size = E.k := by rw [← Array.length_toList, hz, E.len]
  apply List.ext_getElem?
  intro i
  rw [zeroCells_list, hsize]
  by_cases hi : i < n * E.k
  · have hk : 0 < E.k := by
      rcases Nat.eq_zero_or_pos E.k with h | h
      · rw [h] at hi; omega
      · exact h
    have hq : i / E.k < n := Nat.div_lt_of_lt_mul (by rw [Nat.mul_comm]; exact hi)
    have hr : i % E.k < E.k := Nat.mod_lt _ hk
    have h1 : (List.map (fun i => z[i % E.k]!) (List.range (n * E.k)))[i]? = some z[i % E.k]! := by simp [hi]
    rw [h1]
    have h2 := holds_flat.1 (holds_made (E := E) z z0 hz n) i
    have hlen : i < (flat E (List.replicate n z0)).length := by rw [flat_length]; simpa using hi
    have h3 := h2 _ (List.getElem?_eq_getElem hlen)
    rw [List.getElem?_eq_getElem hlen]
    rw [Nat.zero_add] at h3
    simp only [madeCells, Array.getElem?_map, Array.getElem?_range, hi, if_true, Option.map_some, hsize] at h3
    exact h3.symm
  · rw [List.getElem?_eq_none (by rw [flat_length]; simpa using hi), List.getElem?_eq_none (by simpa using hi)]
section ops
variable {P : Program} {ops : Array Oper} {n : Nat} {Q : Exit → Act → World → Prop} {S : Store} {rest : List Oper} {o : Oper}
theorem W_clear (t : TypeId) (x : Operand) (l h : Int) (bytes : Nat) (zsv : List Value) (z0 : α) (pl : Nat) (hM : Mem F w0 w Ls) (hown : ownS E xs p c seg) (hpl : Ls.getD pl [] = seg) (hlt : Nat.blt pl Ls.length = true)
    (hok : okAll ops n S o = true) (ho : o.op = .call { callee := .builtin .clear, args := #[x], argTypes := #[t] }) (hx : evalO S x = some (.slice (subP p l.toNat c E.k) ys.length (c - l.toNat)))
    (hm : gxSlice xs l h = some ys) (hi : sliceInfo P t = some (E.k, bytes, zsv)) (hz : zsv = E.cells z0)
    (kk : ∀ w' seg', ownS E (gxClear xs l h z0) p c seg' → Mem F w0 w' (Ls.set pl seg') → W P ops n Q (putS S o.dst (.tuple #[])) w' rest) : W P ops n Q S w (o :: rest) := by
  obtain ⟨e, i, z, hu, hinf, hzero, hsz, hby, hzs⟩ := sliceInfo_spec hi
  have hzz : z.cells.toList = E.cells z0 := by rw [hzs, hz]
  obtain ⟨h1, h2, h3, hys⟩ := gxSlice_spec hm
  have hylen : ys.length = h.toNat - l.toNat := by rw [hys]; simp; omega
  have run : ∃ w' seg', (Builtin.clear_ #[t] o.type #[.slice (subP p l.toNat c E.k) ys.length (c - l.toNat)]).run P w = .ok (.tuple #[]) w' ∧ ownS E (gxClear xs l h z0) p c seg' ∧ Mem F w0 w' (Ls.set pl seg') := by
    by_cases h0 : ys.length = 0
    · refine ⟨w, seg, ?_, ?_, ?_⟩
      · rw [h0]
        cases subP p l.toNat c E.k <;> simp [Builtin.clear_, run_underlying hu]
      · have : gxClear xs l h z0 = xs := by
          unfold gxClear
          rw [show h.toNat - l.toNat = 0 by omega, show h.toNat = l.toNat by omega]
          simp
        rw [this]; exact hown
      · have : Ls.set pl seg = Ls := by
          rw [← hpl]
          apply List.ext_getElem?
          intro j
          rw [List.getElem?_set]
          split
          · rename_i hj
            subst hj
            have hl : pl < Ls.length := Nat.blt_eq ▸ hlt
            simp [hl, List.getD_eq_getElem?_getD]
          · rfl
        rw [this]; exact hM
    · rcases hown with ⟨_, hx0, _, _⟩ | ⟨b, off, cs, e', hp, hs, hlc, hcm, hsize, hh⟩
      · subst hx0
        simp at hys
        subst hys
        simp at h0
      · subst hp hs
        have hcl : ¬ (c = l.toNat) := by omega
        have hsp : subP (some (⟨b, off, none⟩ : Addr)) l.toNat c E.k = some ⟨b, off + l.toNat * E.k, none⟩ := by simp [subP, hcl, addr_add]
        have hlist := flat_replicate (E := E) z0 z.cells hzz ys.length
        have hll : (Builtin.zeroCells z.cells ys.length).toList.length = ys.length * E.k := by rw [← hlist, flat_length]; simp
        have hfit : (off + l.toNat * E.k) + 0 + (Builtin.zeroCells z.cells ys.length).toList.length ≤ cs.size := by
          rw [hll]
          have h4 : (l.toNat + ys.length) * E.k ≤ c * E.k := Nat.mul_le_mul_right _ (by omega)
          rw [Nat.add_mul] at h4
          omega
        have hone : ∀ v ∈ (Builtin.zeroCells z.cells ys.length).toList, v.oneCell' = true := by rw [← hlist]; exact flat_one E _
        have hst := run_storeCells_at P b (off + l.toNat * E.k) e' (Builtin.zeroCells z.cells ys.length).toList 0 cs w (hM.blk pl hpl) hfit hone
        refine ⟨_, [(b, .cells (cs.toList.take (off + l.toNat * E.k + 0) ++ (Builtin.zeroCells z.cells ys.length).toList ++ cs.toList.drop (off + l.toNat * E.k + 0 + (Builtin.zeroCells z.cells ys.length).toList.length)).toArray e' (0, 0))], ?_, Or.inr ⟨b, off, _, e', rfl, rfl, ?_, hcm, ?_, ?_⟩, hM.setRow pl _ hpl⟩
        · rw [hsp]
          have hn : ∃ k, ys.length = k + 1 := ⟨ys.length - 1, by omega⟩
          obtain ⟨k, hk⟩ := hn
          have hz' : (zeroValue e).run P w = .ok z w := by simp [zeroValue, typeInfo, hinf, hzero]
          simp only [Nat.add_zero] at hst
          rw [hk] at hst ⊢
          simp [Builtin.clear_, run_underlying hu, hz', hst]
        · rw [gxClear_len z0 hm]; exact hlc
        · simp only [List.size_toArray, List.length_append, List.length_take, List.length_drop, Array.length_toList]; omega
        · rw [holds_flat]
          unfold gxClear
          rw [flat_append, flat_append, show h.toNat - l.toNat = ys.length by omega, hlist]
          intro m v hv
          have hft : (flat E (xs.take l.toNat)).length = l.toNat * E.k := by rw [flat_length, List.length_take, Nat.min_eq_left (by omega)]
          have hall := holds_flat.1 hh
          have hsplit : flat E xs = flat E (xs.take l.toNat) ++ (flat E ((xs.take h.toNat).drop l.toNat) ++ flat E (xs.drop h.toNat)) := by
            rw [← flat_append, ← flat_append]
            congr 1
            have : xs.take l.toNat = (xs.take h.toNat).take l.toNat := by rw [List.take_take]; congr 1; omega
            rw [this, ← List.append_assoc, List.take_append_drop, List.take_append_drop]
          have hfy : (flat E ((xs.take h.toNat).drop l.toNat)).length = ys.length * E.k := by rw [← hys, flat_length]
          simp only [List.getElem?_toArray, Nat.add_zero]
          rw [List.append_assoc] at hv
          rw [List.append_assoc]
          by_cases c1 : m < l.toNat * E.k
          · rw [List.getElem?_append_left (by omega)] at hv
            rw [List.getElem?_append_left (by simp; omega), List.getElem?_take, if_pos (by omega)]
            have := hall m v (by rw [hsplit, List.getElem?_append_left (by omega)]; exact hv)
            simpa using this
          · rw [List.getElem?_append_right (by omega), hft] at hv
            have hc0 : (cs.toList.take (off + l.toNat * E.k)).length = off + l.toNat * E.k := by simp; omega
            rw [List.getElem?_append_right (by omega), hc0]
            by_cases c2 : m - l.toNat * E.k < ys.length * E.k
            · rw [List.getElem?_append_left (by omega)] at hv
              rw [List.getElem?_append_left (by omega), ← hv]
              congr 1
              omega
            · rw [List.getElem?_append_right (by omega), hll] at hv
              rw [List.getElem?_append_right (by omega), hll, List.getElem?_drop]
              have := hall m v (by
                rw [hsplit, List.getElem?_append_right (by omega), hft, List.getElem?_append_right (by omega), hfy]
                exact hv)
              have e1 : off + l.toNat * E.k + ys.length * E.k + (off + m - (off + l.toNat * E.k) - ys.length * E.k) = off + m := by omega
              rw [e1]
              simpa using this
  obtain ⟨w', seg', hr, h4, h5⟩ := run
  refine W_val _ w' hok ?_ (kk w' seg' h4 h5)
  unfold execOp
  simp only [ho, resolve, invoke, builtin, Sem.run_bind, Sem.run_pure, Result.andThen_ok, List.map_toArray, List.map_cons, List.map_nil, rho, hx, Option.getD_some, hr]
end ops
end
end Go.Gx
