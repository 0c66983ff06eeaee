/- slices.Sort by the library's contract, in the words of these walks. -/
import Derived.Test.YtimffallbjpcjaaGreatDoorGxL
import Derived.Sort.EncStr
import Derived.Sort.Grow
import Derived.Lib.SlicesCompact
set_option linter.unusedVariables false
set_option linter.unusedSimpArgs false
namespace Go.Gx
open Go.Sort Go.Proofs
/-- What slices.Sort makes of a row. -/
def gxSortI (xs : List Int) : List Int := xs.mergeSort fun x y => decide (x ≤ y)
def gxSortS (xs : List ByteArray) : List ByteArray := ((xs.map fun s => s.data.toList).mergeSort fun x y => decide (x ≤ y)).map fun l => ⟨l.toArray⟩
/-- What slices.Compact makes of a row: the result, and the whole row. -/
def gxCompS (xs : List ByteArray) : List ByteArray := (Lib.compact (xs.map fun s => s.data.toList)).map fun l => ⟨l.toArray⟩
def gxCompW (xs : List ByteArray) : List ByteArray := gxCompS xs ++ List.replicate (xs.length - (gxCompS xs).length) ByteArray.empty
theorem gxCompS_len (xs : List ByteArray) : (gxCompS xs).length ≤ xs.length := by
  unfold gxCompS Lib.compact Lib.compactUpTo
  simp only [List.length_map]
  refine Nat.le_trans (List.length_filter_le _ _) ?_
  simp
section
variable {α β : Type} [Inhabited β] {w w' : World} {xs ys : List α} {p : Option Addr} {c : Nat} {seg : Seg}
theorem put_own (E : Enc α) (enc : β → Value) (to : α → β) (hE : ∀ x, E.cells x = [enc (to x)]) (hk : E.k = 1) (hlen : ys.length = xs.length) {b off : Nat} {cs : Array Value} {e : TypeId} {n : Nat} {os : Array Obj}
    (hseg : seg = [(b, .cells cs e (0, 0))]) (hc : xs.length ≤ c) (hcm : c ≤ maxLen) (hsz : off + c * E.k ≤ cs.size) (hb : w.heap[b]? = some (.cells cs e (0, 0)))
    (hw : w' = grow (putRow enc (Sort.ahead w n) b off (ys.map to).toArray) os) :
    ∃ seg', ownS E ys (some ⟨b, off, none⟩) c seg' ∧ Mem (idsOf [seg]) w w' [seg'] := by
  have hlt : b < w.heap.size := lt_of_heap hb
  have hheap : ∀ k, k < w.heap.size → w'.heap[k]? = if k = b then some (.cells (putCells enc off (ys.map to).toArray cs) e (0, 0)) else w.heap[k]? := by
    intro k hk0
    rw [hw]
    show ((w.heap.modify b (onCells (putCells enc off (ys.map to).toArray))) ++ os)[k]? = _
    rw [Array.getElem?_append, if_pos (by simpa using hk0), Array.getElem?_modify]
    by_cases hkb : k = b
    · subst hkb
      rw [if_pos rfl, if_pos rfl, hb]
      rfl
    · rw [if_neg (fun h => hkb h.symm), if_neg hkb]
  refine ⟨[(b, .cells (putCells enc off (ys.map to).toArray cs) e (0, 0))], Or.inr ⟨b, off, _, e, rfl, rfl, by omega, hcm, ?_, ?_⟩, ?_⟩
  · unfold putCells
    simpa using hsz
  · intro i x hx j v hv
    rw [hE] at hv
    have hil : i < ys.length := (List.getElem?_eq_some_iff.1 hx).1
    have hj : j = 0 := by
      cases j with
      | zero => rfl
      | succ j => simp at hv
    subst hj
    simp only [List.getElem?_cons_zero, Option.some.injEq] at hv
    subst hv
    rw [hk, Nat.mul_one, Nat.add_zero]
    have hin : off + i < cs.size := by rw [hk, Nat.mul_one] at hsz; omega
    unfold putCells
    rw [Array.getElem?_mapIdx, Array.getElem?_eq_getElem hin, Option.map_some, if_pos ⟨by omega, by simp; omega⟩]
    have he : off + i - off = i := by omega
    rw [he, getElem!_pos _ i (by simpa using hil)]
    simp only [List.getElem_toArray, List.getElem_map]
    rw [(List.getElem?_eq_some_iff.1 hx).2]
  · refine ⟨by rw [hw]; rfl, by rw [hw]; rfl, by rw [hw]; rfl, ?_, ?_, ?_, ?_, ?_, ?_⟩
    · rw [hw]
      simp [grow, putRow, mapBlock, Sort.ahead]
    · intro k hk0 hF
      rw [hheap k hk0, if_neg]
      intro hkb
      subst hkb
      exact hF (by rw [hseg]; simp [idsOf])
    · intro q hq
      simp only [List.flatten_cons, List.flatten_nil, List.append_nil, List.mem_singleton] at hq
      subst hq
      rw [hheap b hlt, if_pos rfl]
    · intro q hq
      simp only [List.flatten_cons, List.flatten_nil, List.append_nil, List.mem_singleton] at hq
      subst hq
      exact Or.inr (by rw [hseg]; simp [idsOf])
    · simp
    · intro k hk0
      rw [hheap k hk0]
      split
      · rename_i h
        subst h
        rw [hb]
        rfl
      · rfl
theorem own_holds (E : Enc α) (enc : β → Value) (to : α → β) (hE : ∀ x, E.cells x = [enc (to x)]) (hk : E.k = 1) {b off : Nat} {cs : Array Value} {e : TypeId} (hb : w.heap[b]? = some (.cells cs e (0, 0))) (hh : holds E cs off xs) :
    Holds enc w b off (xs.map to).toArray := by
  intro j hj
  have hj' : j < xs.length := by simpa using hj
  have h1 := hh j xs[j] (List.getElem?_eq_getElem hj') 0 (enc (to xs[j])) (by rw [hE]; rfl)
  rw [hk, Nat.mul_one, Nat.add_zero] at h1
  constructor
  · rw [getElem!_pos _ j hj]
    simp only [List.getElem_toArray, List.getElem_map]
    simp only [World.cell?, hb]
    exact h1
  · simp [World.frozen?, hb]
end
section
variable {P : Program} {f : FuncId}
theorem sortS_run (hs : ∀ (blk off cap : Nat) (ss : List (List UInt8)) (w : World), Holds encStr w blk off ss.toArray → blk < w.heap.size → ss.length < 4611686018427387904 →
      Calls P f #[.slice (some ⟨blk, off, none⟩) ss.length cap] w fun e w' => e = .returned (.tuple #[]) ∧ ∃ n os, w' = grow (putRow encStr (Sort.ahead w n) blk off (ss.mergeSort fun x y => decide (x ≤ y)).toArray) os)
    (hn : ∀ (p : Option Addr) (cap : Nat) (w : World), Calls P f #[.slice p 0 cap] w fun e w' => e = .returned (.tuple #[]) ∧ w' = w)
    (w : World) (x : List ByteArray) (p : Option Addr) (c : Nat) (sg : Seg) (ho : ownS encS x p c sg) (hA : ∀ q ∈ List.flatten [sg], w.heap[q.1]? = some q.2) (hN : (idsOf [sg]).Nodup) (hx : x.length < 4611686018427387904) :
    Calls P f #[.slice p x.length c] w fun e w' => ∃ (s2 : Seg), e = .returned (.tuple #[]) ∧ ownS encS (gxSortS x) p c s2 ∧ (gxSortS x).length = x.length ∧ Mem (idsOf [sg]) w w' [s2] := by
  have hlen : (gxSortS x).length = x.length := by simp [gxSortS]
  rcases ho with ⟨rfl, rfl, rfl, rfl⟩ | ⟨b, off, cs, e, rfl, hsg, hc, hcm, hsz, hh⟩
  · refine (hn none 0 w).mono ?_
    rintro e w' ⟨rfl, rfl⟩
    exact ⟨[], rfl, Or.inl ⟨rfl, by simp [gxSortS, gxSortI], rfl, rfl⟩, hlen, by simpa using (Mem.refl (idsOf [[]]) w').addNil⟩
  · have hb : w.heap[b]? = some (.cells cs e (0, 0)) := hA (b, _) (by rw [hsg]; simp)
    have hE : ∀ s : ByteArray, encS.cells s = [encStr s.data.toList] := fun s => by
      show [Value.string s] = [encStr s.data.toList]
      congr 1
    have hl : (x.map fun s => s.data.toList).length = x.length := by simp
    have hH := own_holds encS encStr (fun s => s.data.toList) hE rfl hb hh
    have := hs b off c (x.map fun s => s.data.toList) w hH (lt_of_heap hb) (by rw [hl]; exact hx)
    rw [hl] at this
    refine this.mono ?_
    rintro e2 w' ⟨rfl, n, os, hw⟩
    have hback : (gxSortS x).map (fun s => s.data.toList) = (x.map fun s => s.data.toList).mergeSort fun x y => decide (x ≤ y) := by
      unfold gxSortS
      rw [List.map_map]
      simp [Function.comp_def]
    rw [← hback] at hw
    obtain ⟨s2, h1, h2⟩ := put_own (xs := x) (ys := gxSortS x) encS encStr (fun s => s.data.toList) hE rfl hlen hsg hc hcm hsz hb hw
    exact ⟨s2, rfl, h1, hlen, h2⟩
theorem compS_run (hs : ∀ (blk off cap : Nat) (zs : List (List UInt8)) (w : World), Holds encStr w blk off zs.toArray → zs.length ≤ 9223372036854775807 → zs.length ≤ cap →
      Calls P f #[.slice (some ⟨blk, off, none⟩) zs.length cap] w fun e w' => e = .returned (.slice (some ⟨blk, off, none⟩) (Lib.compact zs).length cap) ∧ ∃ q, w' = putRow encStr (Sort.ahead w q) blk off (Lib.compact zs ++ List.replicate (zs.length - (Lib.compact zs).length) []).toArray)
    (hn : ∀ (a : Option Addr) (cap : Nat) (w : World), Calls P f #[.slice a 0 cap] w fun e w' => e = .returned (.slice a 0 cap) ∧ w' = w)
    (w : World) (x : List ByteArray) (p : Option Addr) (c : Nat) (sg : Seg) (ho : ownS encS x p c sg) (hA : ∀ q ∈ List.flatten [sg], w.heap[q.1]? = some q.2) (hN : (idsOf [sg]).Nodup) (hx : x.length < 4611686018427387904) :
    Calls P f #[.slice p x.length c] w fun e w' => ∃ (s2 : Seg), ∃ (p2 : Option Addr) (c2 : Nat), e = .returned (.slice p2 (gxCompS x).length c2) ∧ ownS encS (gxCompW x) p c s2 ∧ (gxCompW x).length = x.length ∧ viewS 1 (gxCompW x) p c p2 c2 (gxCompS x) ∧ Mem (idsOf [sg]) w w' [s2] := by
  have hle := gxCompS_len x
  have hlen : (gxCompW x).length = x.length := by
    unfold gxCompW
    simp only [List.length_append, List.length_replicate]
    omega
  have hsl : gxSlice (gxCompW x) 0 ((gxCompS x).length : Int) = some (gxCompS x) := by
    unfold gxSlice
    rw [if_pos ⟨by omega, by omega, by omega⟩]
    unfold gxCompW
    simp
  rcases ho with ⟨rfl, rfl, rfl, rfl⟩ | ⟨b, off, cs, e, rfl, hsg, hc, hcm, hsz, hh⟩
  · refine (hn none 0 w).mono ?_
    rintro e w' ⟨rfl, rfl⟩
    exact ⟨[], none, 0, rfl, Or.inl ⟨rfl, rfl, rfl, rfl⟩, hlen, ⟨0, 0, rfl, rfl, hsl⟩, by simpa using (Mem.refl (idsOf [[]]) w').addNil⟩
  · have hb : w.heap[b]? = some (.cells cs e (0, 0)) := hA (b, _) (by rw [hsg]; simp)
    have hE : ∀ s : ByteArray, encS.cells s = [encStr s.data.toList] := fun s => by
      show [Value.string s] = [encStr s.data.toList]
      congr 1
    have hl : (x.map fun s => s.data.toList).length = x.length := by simp
    have hH := own_holds encS encStr (fun s => s.data.toList) hE rfl hb hh
    have := hs b off c (x.map fun s => s.data.toList) w hH (by rw [hl]; omega) (by rw [hl]; exact hc)
    rw [hl] at this
    refine this.mono ?_
    rintro e2 w' ⟨rfl, n, hw⟩
    have hl2 : (Lib.compact (x.map fun s => s.data.toList)).length = (gxCompS x).length := by simp [gxCompS]
    have hback : (gxCompW x).map (fun s => s.data.toList) = Lib.compact (x.map fun s => s.data.toList) ++ List.replicate (x.length - (Lib.compact (x.map fun s => s.data.toList)).length) [] := by
      rw [hl2]
      unfold gxCompW
      rw [List.map_append, List.map_replicate]
      congr 1
      unfold gxCompS
      rw [List.map_map]
      simp [Function.comp_def]
    rw [← hback] at hw
    obtain ⟨s2, h1, h2⟩ := put_own (xs := x) (ys := gxCompW x) (n := n) (os := #[]) encS encStr (fun s => s.data.toList) hE rfl hlen hsg hc hcm hsz hb (hw.trans (grow_empty _).symm)
    refine ⟨s2, some ⟨b, off, none⟩, c, by rw [hl2], h1, hlen, ⟨0, ((gxCompS x).length : Int), by simp [subP, addr_add], by simp, hsl⟩, h2⟩
theorem sortI_run (hs : ∀ (blk off cap : Nat) (zs : List Int) (w : World), Holds (Value.int .i64) w blk off zs.toArray → blk < w.heap.size → zs.length < 4611686018427387904 →
      Calls P f #[.slice (some ⟨blk, off, none⟩) zs.length cap] w fun e w' => e = .returned (.tuple #[]) ∧ ∃ n os, w' = grow (putRow (Value.int .i64) (Sort.ahead w n) blk off (zs.mergeSort fun x y => decide (x ≤ y)).toArray) os)
    (hn : ∀ (p : Option Addr) (cap : Nat) (w : World), Calls P f #[.slice p 0 cap] w fun e w' => e = .returned (.tuple #[]) ∧ w' = w)
    (w : World) (x : List Int) (p : Option Addr) (c : Nat) (sg : Seg) (ho : ownS encI x p c sg) (hA : ∀ q ∈ List.flatten [sg], w.heap[q.1]? = some q.2) (hN : (idsOf [sg]).Nodup) (hx : x.length < 4611686018427387904) :
    Calls P f #[.slice p x.length c] w fun e w' => ∃ (s2 : Seg), e = .returned (.tuple #[]) ∧ ownS encI (gxSortI x) p c s2 ∧ (gxSortI x).length = x.length ∧ Mem (idsOf [sg]) w w' [s2] := by
  have hlen : (gxSortI x).length = x.length := by simp [gxSortI]
  rcases ho with ⟨rfl, rfl, rfl, rfl⟩ | ⟨b, off, cs, e, rfl, hsg, hc, hcm, hsz, hh⟩
  · refine (hn none 0 w).mono ?_
    rintro e w' ⟨rfl, rfl⟩
    exact ⟨[], rfl, Or.inl ⟨rfl, by simp [gxSortS, gxSortI], rfl, rfl⟩, hlen, by simpa using (Mem.refl (idsOf [[]]) w').addNil⟩
  · have hb : w.heap[b]? = some (.cells cs e (0, 0)) := hA (b, _) (by rw [hsg]; simp)
    have hE : ∀ s : Int, encI.cells s = [Value.int .i64 (id s)] := fun s => rfl
    have hH := own_holds encI (Value.int .i64) id hE rfl hb hh
    rw [List.map_id] at hH
    refine (hs b off c x w hH (lt_of_heap hb) hx).mono ?_
    rintro e2 w' ⟨rfl, n, os, hw⟩
    have hback : (gxSortI x).map id = x.mergeSort fun x y => decide (x ≤ y) := by rw [List.map_id]; rfl
    rw [← hback] at hw
    obtain ⟨s2, h1, h2⟩ := put_own (xs := x) (ys := gxSortI x) encI (Value.int .i64) id hE rfl hlen hsg hc hcm hsz hb hw
    exact ⟨s2, rfl, h1, hlen, h2⟩
/-- What slices.Delete makes of a row: the result, and the whole row. -/
def gxDel (xs : List Int) (i j : Int) : List Int := xs.take i.toNat ++ xs.drop j.toNat
def gxDelW (xs : List Int) (i j : Int) : List Int := xs.take i.toNat ++ xs.drop j.toNat ++ List.replicate (j.toNat - i.toNat) 0
theorem delI_run (hs : ∀ (blk off cap i j : Nat) (zs : List Int) (w : World), Holds (Value.int .i64) w blk off zs.toArray → zs.length ≤ cap → cap ≤ 9223372036854775807 → i ≤ j → j ≤ zs.length →
      Calls P f #[.slice (some ⟨blk, off, none⟩) zs.length cap, .int .i64 i, .int .i64 j] w fun e w' => e = .returned (.slice (some ⟨blk, off, none⟩) (zs.length - (j - i)) cap) ∧ ∃ q, w' = putRow (Value.int .i64) (Sort.ahead w q) blk off (zs.take i ++ zs.drop j ++ List.replicate (j - i) 0).toArray)
    (w : World) (x : List Int) (p : Option Addr) (c : Nat) (sg : Seg) (i j : Int) (ho : ownS encI x p c sg) (hA : ∀ q ∈ List.flatten [sg], w.heap[q.1]? = some q.2) (hN : (idsOf [sg]).Nodup) (h0 : 0 ≤ i) (h1 : i < j) (h2 : j ≤ x.length) :
    Calls P f #[.slice p x.length c, .int .i64 i, .int .i64 j] w fun e w' => ∃ (s2 : Seg), ∃ (p2 : Option Addr) (c2 : Nat), e = .returned (.slice p2 (gxDel x i j).length c2) ∧ ownS encI (gxDelW x i j) p c s2 ∧ (gxDelW x i j).length = x.length ∧ viewS 1 (gxDelW x i j) p c p2 c2 (gxDel x i j) ∧ Mem (idsOf [sg]) w w' [s2] := by
  obtain ⟨i, rfl⟩ : ∃ n : Nat, i = n := ⟨i.toNat, by omega⟩
  obtain ⟨j, rfl⟩ : ∃ n : Nat, j = n := ⟨j.toNat, by omega⟩
  have hdl : (gxDel x i j).length = x.length - (j - i) := by
    simp only [gxDel, Int.toNat_natCast, List.length_append, List.length_take, List.length_drop]
    omega
  have hlen : (gxDelW x i j).length = x.length := by
    simp only [gxDelW, Int.toNat_natCast, List.length_append, List.length_take, List.length_drop, List.length_replicate]
    omega
  have hsl : gxSlice (gxDelW x i j) 0 ((gxDel x i j).length : Int) = some (gxDel x i j) := by
    unfold gxSlice
    rw [if_pos ⟨by omega, by omega, by omega⟩]
    have : gxDelW x i j = gxDel x i j ++ List.replicate (j - i) 0 := by
      simp only [gxDelW, gxDel, Int.toNat_natCast]
    rw [this]
    simp
  rcases ho with ⟨rfl, rfl, rfl, rfl⟩ | ⟨b, off, cs, e, rfl, hsg, hc, hcm, hsz, hh⟩
  · simp at h2
    omega
  · have hb : w.heap[b]? = some (.cells cs e (0, 0)) := hA (b, _) (by rw [hsg]; simp)
    have hE : ∀ s : Int, encI.cells s = [Value.int .i64 (id s)] := fun s => rfl
    have hH := own_holds encI (Value.int .i64) id hE rfl hb hh
    rw [List.map_id] at hH
    refine (hs b off c i j x w hH hc (by simp only [maxLen] at hcm; omega) (by omega) (by omega)).mono ?_
    rintro e2 w' ⟨rfl, n, hw⟩
    have hback : (gxDelW x i j).map id = x.take i ++ x.drop j ++ List.replicate (j - i) 0 := by rw [List.map_id]; rfl
    rw [← hback] at hw
    obtain ⟨s2, h1, h2⟩ := put_own (xs := x) (ys := gxDelW x i j) (n := n) (os := #[]) encI (Value.int .i64) id hE rfl hlen hsg hc hcm hsz hb (hw.trans (grow_empty _).symm)
    exact ⟨s2, some ⟨b, off, none⟩, c, by rw [hdl], h1, hlen, ⟨0, ((gxDel x i j).length : Int), by simp [subP, addr_add], by simp, hsl⟩, h2⟩
end
end Go.Gx
