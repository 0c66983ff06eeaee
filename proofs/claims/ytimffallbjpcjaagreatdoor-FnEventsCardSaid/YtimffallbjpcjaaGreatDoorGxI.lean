/- Slices whose elements have slices of their own: what is read, what is owned. -/
import Derived.Test.YtimffallbjpcjaaGreatDoorGxG
set_option linter.unusedVariables false
set_option linter.unusedSimpArgs false
namespace Go.Gx
/-- Where the slices of an element lie. -/
abbrev Pl := Nat → Option Addr × Nat
def plOf (l : List (Option Addr × Nat)) : Pl := fun i => l.getD i (none, 0)
structure Inn where
  β : Type
  E : Enc β
  xs : List β
  p : Option Addr
  c : Nat
def rdI (w : World) (l : List Inn) : Prop := ∀ i ∈ l, rdS i.E w i.xs i.p i.c
def apartI (F : List Nat) (l : List Inn) : Prop := ∀ i ∈ l, apartX F i.xs i.p
def ownI : List Inn → Seg → Prop
  | [], s => s = []
  | i :: r, s => ∃ s1 s2, s = s1 ++ s2 ∧ ownS i.E i.xs i.p i.c s1 ∧ ownI r s2
structure Deep (α : Type) where
  E : Enc (α × Pl)
  inner : α × Pl → List Inn
section
variable {α : Type} {D : Deep α} {F : List Nat} {w0 w w' : World} {Ls : List Seg} {xs ys : List α} {p q : Option Addr} {c : Nat} {s0 s1 : Seg}
def rdD (D : Deep α) (w : World) (xs : List α) (p : Option Addr) (c : Nat) : Prop :=
  ∃ zs : List (α × Pl), zs.map Prod.fst = xs ∧ rdS D.E w zs p c ∧ rdI w (zs.flatMap D.inner)
/-- Read, and apart from what is changed. -/
def rdX (F : List Nat) (D : Deep α) (w : World) (xs : List α) (p : Option Addr) (c : Nat) : Prop :=
  ∃ zs : List (α × Pl), zs.map Prod.fst = xs ∧ rdS D.E w zs p c ∧ rdI w (zs.flatMap D.inner) ∧ apartX F zs p ∧ apartI F (zs.flatMap D.inner)
def ownD (D : Deep α) (xs : List α) (p : Option Addr) (c : Nat) (s0 s1 : Seg) : Prop :=
  ∃ zs : List (α × Pl), zs.map Prod.fst = xs ∧ ownS D.E zs p c s0 ∧ ownI (zs.flatMap D.inner) s1
theorem ownI_nil : ownI [] [] := rfl
theorem ownI_cons {i : Inn} {r : List Inn} {s1 s2 : Seg} (h : ownS i.E i.xs i.p i.c s1) (h2 : ownI r s2) : ownI (i :: r) (s1 ++ s2) := ⟨s1, s2, rfl, h, h2⟩
theorem ownI_app {a b : List Inn} {s1 s2 : Seg} (h1 : ownI a s1) (h2 : ownI b s2) : ownI (a ++ b) (s1 ++ s2) := by
  induction a generalizing s1 with
  | nil => cases h1; exact h2
  | cons i r ih =>
    obtain ⟨u, v, rfl, hu, hv⟩ := h1
    exact ⟨u, v ++ s2, by rw [List.append_assoc], hu, ih hv⟩
theorem ownI_split {a b : List Inn} {s : Seg} (h : ownI (a ++ b) s) : ∃ s1 s2, s = s1 ++ s2 ∧ ownI a s1 ∧ ownI b s2 := by
  induction a generalizing s with
  | nil => exact ⟨[], s, rfl, rfl, h⟩
  | cons i r ih =>
    obtain ⟨u, v, rfl, hu, hv⟩ := h
    obtain ⟨s1, s2, rfl, h1, h2⟩ := ih hv
    exact ⟨u ++ s1, s2, by rw [List.append_assoc], ⟨u, s1, rfl, hu, h1⟩, h2⟩
theorem ownS.rdH {β : Type} {E : Enc β} {xs : List β} {s : Seg} (h : ownS E xs p c s) (hs : ∀ q ∈ s, w.heap[q.1]? = some q.2) : rdS E w xs p c := by
  refine ⟨h.len_le, ?_⟩
  rcases h with ⟨_, h, _, _⟩ | ⟨b, off, cs, e, hp, hseg, _, _, _, hh⟩
  · exact Or.inl h
  · subst hseg; exact Or.inr ⟨b, off, cs, e, (0, 0), hp, hs (b, .cells cs e (0, 0)) (by simp), hh⟩
theorem ownS.apartH {β : Type} {E : Enc β} {xs : List β} {s : Seg} (h : ownS E xs p c s) (hs : ∀ q ∈ s, q.1 ∉ F) : apartX F xs p := by
  rcases h with ⟨_, h, _, _⟩ | ⟨b, off, cs, e, hp, hseg, _, _, _, hh⟩
  · exact Or.inl h
  · subst hseg hp; exact Or.inr fun a ha => by cases ha; exact hs (b, .cells cs e (0, 0)) (by simp)
theorem ownI.rdH {l : List Inn} {s : Seg} (h : ownI l s) (hs : ∀ q ∈ s, w.heap[q.1]? = some q.2) : rdI w l := by
  induction l generalizing s with
  | nil => exact fun i hi => by cases hi
  | cons i r ih =>
    obtain ⟨u, v, rfl, hu, hv⟩ := h
    intro j hj
    rcases List.mem_cons.1 hj with rfl | hj
    · exact hu.rdH fun q hq => hs q (List.mem_append_left _ hq)
    · exact ih hv (fun q hq => hs q (List.mem_append_right _ hq)) j hj
theorem ownI.apartH {l : List Inn} {s : Seg} (h : ownI l s) (hs : ∀ q ∈ s, q.1 ∉ F) : apartI F l := by
  induction l generalizing s with
  | nil => exact fun i hi => by cases hi
  | cons i r ih =>
    obtain ⟨u, v, rfl, hu, hv⟩ := h
    intro j hj
    rcases List.mem_cons.1 hj with rfl | hj
    · exact hu.apartH fun q hq => hs q (List.mem_append_left _ hq)
    · exact ih hv (fun q hq => hs q (List.mem_append_right _ hq)) j hj
theorem ownI.rd {l : List Inn} {s : Seg} (h : ownI l s) (hM : Mem F w0 w Ls) (i : Nat) (hi : Ls.getD i [] = s) : rdI w l :=
  h.rdH fun q hq => hM.has q (mem_getD (by rw [hi]; exact hq))
theorem getD_apart (hM : Mem F w0 w Ls) {s : Seg} (i : Nat) (hi : Ls.getD i [] = s) (is : List Nat) (hd : distinct (i :: is) = true) : ∀ q ∈ s, q.1 ∉ idsOf (pick Ls is) := by
  intro q hq hm
  obtain ⟨u, hu, hub⟩ := List.mem_map.1 hm
  obtain ⟨j, hj, hqj⟩ := mem_pick is hu
  have hne : i ≠ j := fun e => by
    have := distinct_spec hd
    rw [List.nodup_cons] at this
    exact this.1 (e ▸ hj)
  exact apart_getD hM.nodup hne (by rw [hi]; exact hq) hqj hub.symm
theorem ownI.apart {l : List Inn} {s : Seg} (h : ownI l s) (hM : Mem F w0 w Ls) (i : Nat) (hi : Ls.getD i [] = s) (is : List Nat) (hd : distinct (i :: is) = true) : apartI (idsOf (pick Ls is)) l :=
  h.apartH (getD_apart hM i hi is hd)
theorem rdI.mem0 {l : List Inn} (h : rdI w0 l) (hM : Mem [] w0 w Ls) : rdI w l := fun i hi => (h i hi).mem0 hM
theorem rdI.memX {l : List Inn} (h : rdI w0 l) (hF : apartI F l) (hM : Mem F w0 w Ls) : rdI w l := fun i hi => (h i hi).memX (hF i hi) hM
theorem apartI.old {l : List Inn} (h : rdI w0 l) (hF : apartI F l) (hM : Mem F w0 w Ls) (is : List Nat) : apartI (idsOf (pick Ls is)) l := fun i hi => apartX.old (h i hi) (hF i hi) hM is
theorem apartI.old0 {l : List Inn} (h : rdI w0 l) (hM : Mem [] w0 w Ls) (is : List Nat) : apartI (idsOf (pick Ls is)) l := fun i hi => apartX.old0 (h i hi) hM is
theorem rdI.sub {l l2 : List Inn} (h : rdI w l) (hs : ∀ i ∈ l2, i ∈ l) : rdI w l2 := fun i hi => h i (hs i hi)
theorem apartI.sub {l l2 : List Inn} (h : apartI F l) (hs : ∀ i ∈ l2, i ∈ l) : apartI F l2 := fun i hi => h i (hs i hi)
theorem mem_at {zs : List (α × Pl)} {f : α × Pl → List Inn} {i : Int} {z : α × Pl} {l : List Inn} (hz : gxIdx zs i = some z) (hl : f z = l) : ∀ j ∈ l, j ∈ zs.flatMap f := fun j hj => by
  have h1 := (gxIdx_spec hz).2
  have h2 : z ∈ zs := List.mem_of_getElem? h1
  exact List.mem_flatMap.2 ⟨z, h2, hl ▸ hj⟩
/-- One slice of an element. -/
theorem rdI.at_ {zs : List (α × Pl)} {f : α × Pl → List Inn} (h : rdI w (zs.flatMap f)) {i : Int} {z : α × Pl} (hz : gxIdx zs i = some z) (k : Nat) (j : Inn) (hk : (f z)[k]? = some j) : rdS j.E w j.xs j.p j.c :=
  h j (mem_at hz rfl j (List.mem_of_getElem? hk))
theorem apartI.at_ {zs : List (α × Pl)} {f : α × Pl → List Inn} (h : apartI F (zs.flatMap f)) {i : Int} {z : α × Pl} (hz : gxIdx zs i = some z) (k : Nat) (j : Inn) (hk : (f z)[k]? = some j) : apartX F j.xs j.p :=
  h j (mem_at hz rfl j (List.mem_of_getElem? hk))
theorem gxIdx_fst {zs : List (α × Pl)} (hz : zs.map Prod.fst = xs) {i : Int} {y : α} (h : gxIdx xs i = some y) : ∃ g, gxIdx zs i = some (y, g) := by
  obtain ⟨h0, h1⟩ := gxIdx_spec h
  subst hz
  rw [List.getElem?_map] at h1
  obtain ⟨z, h2, rfl⟩ := Option.map_eq_some_iff.1 h1
  refine ⟨z.2, ?_⟩
  unfold gxIdx
  rw [if_pos h0, h2]
theorem gxSlice_fst {zs : List (α × Pl)} (hz : zs.map Prod.fst = xs) {l h : Int} (hm : gxSlice xs l h = some ys) : ∃ us, us.map Prod.fst = ys ∧ gxSlice zs l h = some us ∧ ∀ f : α × Pl → List Inn, ∀ i ∈ us.flatMap f, i ∈ zs.flatMap f := by
  obtain ⟨h0, h1, h2, rfl⟩ := gxSlice_spec hm
  subst hz
  rw [List.length_map] at h2
  refine ⟨(zs.take h.toNat).drop l.toNat, by simp [List.map_drop, List.map_take], ?_, fun f i hi => ?_⟩
  · unfold gxSlice
    rw [if_pos ⟨h0, h1, h2⟩]
  · obtain ⟨z, hz, hi⟩ := List.mem_flatMap.1 hi
    exact List.mem_flatMap.2 ⟨z, List.mem_of_mem_take (List.mem_of_mem_drop hz), hi⟩
theorem gxIdx_down {zs : List (α × Pl)} (hz : zs.map Prod.fst = xs) {i : Int} {z : α × Pl} (h : gxIdx zs i = some z) : gxIdx xs i = some z.1 := by
  obtain ⟨h0, h1⟩ := gxIdx_spec h
  subst hz
  unfold gxIdx
  rw [if_pos h0, List.getElem?_map, h1]
  rfl
theorem len_fst {zs : List (α × Pl)} (hz : zs.map Prod.fst = xs) : zs.length = xs.length := by rw [← hz, List.length_map]
theorem set_fst {zs : List (α × Pl)} (hz : zs.map Prod.fst = xs) (i : Nat) (z : α × Pl) : (zs.set i z).map Prod.fst = xs.set i z.1 := by rw [← hz, List.map_set]
theorem app_fst {zs us : List (α × Pl)} (hz : zs.map Prod.fst = xs) (hu : us.map Prod.fst = ys) : (zs ++ us).map Prod.fst = xs ++ ys := by rw [List.map_append, hz, hu]
theorem flatMap_setSame {β : Type 1} {γ : Type} {f : γ → List β} : ∀ {zs : List γ} {i : Nat} {z z' : γ}, zs[i]? = some z → f z' = f z → (zs.set i z').flatMap f = zs.flatMap f
  | [], i, z, z', h, _ => by simp at h
  | a :: r, 0, z, z', h, he => by simp at h; subst h; simp [he]
  | a :: r, i + 1, z, z', h, he => by
    simp only [List.getElem?_cons_succ] at h
    simp [flatMap_setSame h he]
/-- The memory of the slices of one element, taken out of that of all. -/
theorem ownI.lens {γ : Type} {f : γ → List Inn} : ∀ {zs : List γ} {i : Nat} {z : γ} {s : Seg}, ownI (zs.flatMap f) s → zs[i]? = some z → ∃ sa sb sc, s = sa ++ (sb ++ sc) ∧ ownI (f z) sb ∧ ∀ z' sb', ownI (f z') sb' → ownI ((zs.set i z').flatMap f) (sa ++ (sb' ++ sc))
  | [], i, z, s, _, h => by simp at h
  | a :: r, 0, z, s, hs, h => by
    simp only [List.getElem?_cons_zero, Option.some.injEq] at h
    subst h
    rw [List.flatMap_cons] at hs
    obtain ⟨s1, s2, rfl, h1, h2⟩ := ownI_split hs
    refine ⟨[], s1, s2, rfl, h1, fun z' sb' h' => ?_⟩
    simp only [List.set_cons_zero, List.flatMap_cons, List.nil_append]
    exact ownI_app h' h2
  | a :: r, i + 1, z, s, hs, h => by
    simp only [List.getElem?_cons_succ] at h
    rw [List.flatMap_cons] at hs
    obtain ⟨s1, s2, rfl, h1, h2⟩ := ownI_split hs
    obtain ⟨sa, sb, sc, rfl, h3, h4⟩ := ownI.lens h2 h
    refine ⟨s1 ++ sa, sb, sc, by rw [List.append_assoc], h3, fun z' sb' h' => ?_⟩
    simp only [List.set_cons_succ, List.flatMap_cons, List.append_assoc]
    exact ownI_app h1 (h4 z' sb' h')
theorem holds_same {β : Type} {E : Enc β} {cs : Array Value} {off : Nat} {zs us : List β} (h : holds E cs off zs) (hl : ∀ (i : Nat) (u : β), us[i]? = some u → ∃ z, zs[i]? = some z ∧ E.cells u = E.cells z) : holds E cs off us := fun i u hu j v hv => by
  obtain ⟨z, hz, he⟩ := hl i u hu
  exact h i z hz j v (he ▸ hv)
theorem ownS.setSame {β : Type} {E : Enc β} {zs : List β} {s : Seg} (h : ownS E zs p c s) {i : Nat} {z z' : β} (hz : zs[i]? = some z) (he : E.cells z' = E.cells z) : ownS E (zs.set i z') p c s := by
  rcases h with ⟨_, h, _, _⟩ | ⟨b, off, cs, e, hp, hs, h1, h2, h3, hh⟩
  · subst h; simp at hz
  · refine Or.inr ⟨b, off, cs, e, hp, hs, by simpa using h1, h2, h3, holds_same hh fun i' u hu => ?_⟩
    rw [List.getElem?_set] at hu
    by_cases hii : i = i'
    · subst hii
      rw [if_pos rfl] at hu
      split at hu
      · cases hu; exact ⟨z, hz, he⟩
      · cases hu
    · rw [if_neg hii] at hu
      exact ⟨u, hu, rfl⟩
theorem ownI_none {γ : Type} {f : γ → List Inn} {z : γ} (h : ∀ i ∈ f z, i.p = none ∧ i.xs = [] ∧ i.c = 0) : ∀ n : Nat, ownI ((List.replicate n z).flatMap f) []
  | 0 => rfl
  | n + 1 => by
    rw [List.replicate_succ, List.flatMap_cons]
    have : ownI (f z) [] := by
      generalize f z = l at h
      induction l with
      | nil => rfl
      | cons i r ih => exact ⟨[], [], rfl, Or.inl ⟨(h i (by simp)).1, (h i (by simp)).2.1, (h i (by simp)).2.2, rfl⟩, ih fun j hj => h j (by simp [hj])⟩
    exact ownI_app this (ownI_none h n)
theorem rep_fst (n : Nat) (y : α) (g : Pl) : (List.replicate n (y, g)).map Prod.fst = List.replicate n y := by rw [List.map_replicate]
theorem ownD_nil : ownD D [] none 0 [] [] := ⟨[], rfl, ownS_nil, rfl⟩
theorem rdD_nil : rdD D w [] p c := ⟨[], rfl, rdS_nil, fun i hi => by cases hi⟩
theorem rdX_nil : rdX F D w [] p c := ⟨[], rfl, rdS_nil, (fun i hi => by cases hi), Or.inl rfl, fun i hi => by cases hi⟩
/-- A list of segments in which one is cut in three. -/
theorem Mem.cut (hM : Mem F w0 w Ls) (pl : Nat) {sa sb sc : Seg} (hp : Ls.getD pl [] = sa ++ (sb ++ sc)) (hlt : Nat.blt pl Ls.length = true) : Mem F w0 w (Ls.set pl sa ++ [sb, sc]) := hM.permF (by
  have hl : pl < Ls.length := Nat.blt_eq ▸ hlt
  obtain ⟨A, B, hA, hlen⟩ := getD_split Ls pl hl
  rw [hp] at hA
  conv => lhs; rw [hA]
  conv => rhs; rw [hA]
  rw [← hlen, List.set_append_right _ _ (Nat.le_refl _), Nat.sub_self, List.set_cons_zero]
  simp only [List.flatten_append, List.flatten_cons, List.flatten_nil, List.append_nil, List.append_assoc]
  refine List.Perm.append_left _ (List.Perm.append_left _ ?_)
  exact (List.perm_append_comm).trans (by rw [List.append_assoc]))
theorem ownD.rd (h : ownD D xs p c s0 s1) (hM : Mem F w0 w Ls) (i : Nat) (hi : Ls.getD i [] = s0) (j : Nat) (hj : Ls.getD j [] = s1) : rdD D w xs p c := by
  obtain ⟨zs, hz, h0, h1⟩ := h
  exact ⟨zs, hz, h0.rd hM i hi, h1.rd hM j hj⟩
theorem ownD.rdX (h : ownD D xs p c s0 s1) (hM : Mem F w0 w Ls) (i : Nat) (hi : Ls.getD i [] = s0) (j : Nat) (hj : Ls.getD j [] = s1) (is : List Nat) (hd : distinct (i :: is) = true) (hd2 : distinct (j :: is) = true) : Gx.rdX (idsOf (pick Ls is)) D w xs p c := by
  obtain ⟨zs, hz, h0, h1⟩ := h
  exact ⟨zs, hz, h0.rd hM i hi, h1.rd hM j hj, apartX.own h0 hM i hi is hd, h1.apart hM j hj is hd2⟩
theorem rdD.mem0 (h : rdD D w0 xs p c) (hM : Mem [] w0 w Ls) : rdD D w xs p c := by
  obtain ⟨zs, hz, h0, h1⟩ := h
  exact ⟨zs, hz, h0.mem0 hM, h1.mem0 hM⟩
theorem rdX.mem (h : rdX F D w0 xs p c) (hM : Mem F w0 w Ls) : rdD D w xs p c := by
  obtain ⟨zs, hz, h0, h1, h2, h3⟩ := h
  exact ⟨zs, hz, h0.memX h2 hM, h1.memX h3 hM⟩
theorem rdX.old (h : rdX F D w0 xs p c) (hM : Mem F w0 w Ls) (is : List Nat) : rdX (idsOf (pick Ls is)) D w xs p c := by
  obtain ⟨zs, hz, h0, h1, h2, h3⟩ := h
  exact ⟨zs, hz, h0.memX h2 hM, h1.memX h3 hM, apartX.old h0 h2 hM is, apartI.old h1 h3 hM is⟩
theorem rdD.old0 (h : rdD D w0 xs p c) (hM : Mem [] w0 w Ls) (is : List Nat) : rdX (idsOf (pick Ls is)) D w xs p c := by
  obtain ⟨zs, hz, h0, h1⟩ := h
  exact ⟨zs, hz, h0.mem0 hM, h1.mem0 hM, apartX.old0 h0 hM is, apartI.old0 h1 hM is⟩
theorem ownD.len_le (h : ownD D xs p c s0 s1) : xs.length ≤ c := by
  obtain ⟨zs, hz, h0, h1⟩ := h
  rw [← len_fst hz]
  exact h0.len_le
/-- Rows of rows. -/
def deepL {β : Type} (E : Enc β) : Deep (List β) := ⟨⟨fun z => [.slice (z.2 0).1 z.1.length (z.2 0).2], 1, fun _ => rfl, by simp [Value.oneCell']⟩, fun z => [⟨β, E, z.1, (z.2 0).1, (z.2 0).2⟩]⟩
section ops
variable {P : Program} {ops : Array Oper} {n : Nat} {Q : Exit → Act → World → Prop} {S : Store} {rest : List Oper} {o : Oper}
theorem E_sliceD {us zs : List (α × Pl)} (t : TypeId) (x : Operand) (lo hi : Option Operand) (len : Nat) (l h : Int) (ho : o.op = .slice t x lo hi none)
    (hx : evalO S x = some (.slice p len c)) (hl : (lo = none ∧ l = 0) ∨ ∃ y, lo = some y ∧ evalO S y = some (.int .i64 l)) (hh : (hi = none ∧ h = len) ∨ ∃ y, hi = some y ∧ evalO S y = some (.int .i64 h))
    (ht : sliceElem P t = some D.E.k) (hrd : rdS D.E w zs p c) (hlen : zs.length = len) (hm : gxSlice zs l h = some us) (hu : us.map Prod.fst = ys) :
    (execOp (rho S) o).run P w = .ok (.value (.slice (subP p l.toNat c D.E.k) ys.length (c - l.toNat))) w := by
  rw [← len_fst hu]
  exact E_slice t x lo hi len l h ho hx hl hh ht hrd hlen hm
theorem W_makeD (t : TypeId) (x y : Operand) (m : Int) (bytes : Nat) (zsv : List Value) (y0 : α) (g0 : Pl) {zz : List α} (hM : Mem F w0 w Ls)
    (hok : okAll ops n S o = true) (ho : o.op = .makeSlice t x y) (hx : evalO S x = some (.int .i64 m)) (hy : evalO S y = some (.int .i64 m))
    (hi : sliceInfo P t = some (D.E.k, bytes, zsv)) (hz : zsv = D.E.cells (y0, g0)) (hbp : Nat.blt 0 bytes = true) (hnone : ∀ i ∈ D.inner (y0, g0), i.p = none ∧ i.xs = [] ∧ i.c = 0) (hm : gxMake bytes m y0 = some zz)
    (kk : ∀ p' c' seg' w', ownD D zz p' c' seg' [] → Mem F w0 w' (Ls ++ [seg']) → W P ops n Q (putS S o.dst (.slice p' zz.length c')) w' rest) : W P ops n Q S w (o :: rest) := by
  obtain ⟨h0, hb, rfl⟩ := gxMake_spec hm
  have hm' : gxMake bytes m (y0, g0) = some (List.replicate m.toNat (y0, g0)) := by
    unfold gxMake
    rw [if_pos ⟨h0, hb⟩]
  refine W_make (E := D.E) t x y m bytes zsv (y0, g0) hM hok ho hx hy hi hz hbp hm' ?_
  intro p' c' seg' w' h1 h2
  have := kk p' c' seg' w' ⟨_, rep_fst _ _ _, h1, ownI_none hnone _⟩ h2
  rw [List.length_replicate] at this ⊢
  exact this
theorem W_litD (us : List (α × Pl)) (xs : List α) (hu : us.map Prod.fst = xs) (ln : Nat) (ob : List Value) (e : TypeId) (hM : Mem F w0 w Ls) (hok : okAll ops n S o = true)
    (hr : (execOp (rho S) o).run P w = .ok (.value (.slice (some ⟨w.heap.size, 0, none⟩) ln ln)) (w.alloc (.cells ⟨ob⟩ e (0, 0)))) (hcs : ob = flat D.E us) (hln : us.length = ln) (hmax : Nat.ble ln 1000000 = true) (hin : ownI (us.flatMap D.inner) s1)
    (kk : ∀ p' c' seg' w', ownD D xs p' c' seg' s1 → Mem F w0 w' (Ls ++ [seg']) → W P ops n Q (putS S o.dst (.slice p' xs.length c')) w' rest) : W P ops n Q S w (o :: rest) := by
  refine W_lit (E := D.E) us ln ob e hM hok hr hcs hln hmax ?_
  intro p' c' seg' w' h1 h2
  rw [len_fst hu]
  exact kk p' c' seg' w' ⟨us, hu, h1, hin⟩ h2
theorem W_appendD {us : List (α × Pl)} {s2 : Seg} (t : TypeId) (s y : Operand) (bytes : Nat) (zsv : List Value) (pl : Nat) (cy : Nat) {zz : List α} (hM : Mem F w0 w Ls) (hown : ownD D xs p c s0 s1) (hpl : Ls.getD pl [] = s0) (hlt : Nat.blt pl Ls.length = true)
    (hok : okAll ops n S o = true) (ho : o.op = .call { callee := .builtin .append, args := #[s, y], argTypes := #[t, t] }) (hs : evalO S s = some (.slice p xs.length c)) (hy : evalO S y = some (.slice q ys.length cy))
    (hi : sliceInfo P t = some (D.E.k, bytes, zsv)) (hz : Nat.beq zsv.length D.E.k = true) (hk : Nat.blt 0 D.E.k = true) (hbp : Nat.blt 0 bytes = true)
    (hrd : rdS D.E w us q cy) (hu : us.map Prod.fst = ys) (hin : ownI (us.flatMap D.inner) s2) (hm : gxApp bytes xs ys = some zz)
    (kk : ∀ p' c' seg' w', ownD D zz p' c' seg' (s1 ++ s2) → Mem F w0 w' (Ls.set pl seg') → W P ops n Q (putS S o.dst (.slice p' zz.length c')) w' rest) : W P ops n Q S w (o :: rest) := by
  obtain ⟨zs, hzs, h0, h1⟩ := hown
  obtain ⟨hb, rfl⟩ := gxApp_spec hm
  have hm' : gxApp bytes zs us = some (zs ++ us) := by
    unfold gxApp
    rw [if_pos (by rw [len_fst hzs, len_fst hu]; exact hb)]
  rw [← len_fst hzs] at hs
  rw [← len_fst hu] at hy
  refine W_append (E := D.E) t s y bytes zsv pl cy hM h0 hpl hlt hok ho hs hy hi hz hk hbp hrd hm' ?_
  intro p' c' seg' w' h3 h4
  rw [len_fst (app_fst hzs hu)]
  exact kk p' c' seg' w' ⟨_, app_fst hzs hu, h3, by rw [List.flatMap_append]; exact ownI_app h1 hin⟩ h4
end ops
end
end Go.Gx
