/- Regions that draw their order: one rule for those whose values are known ahead, one for those whose operations hand out memory of their own. -/
import Derived.Test.YtimffallbjpcjaaGreatDoorGxD
set_option linter.unusedVariables false
set_option linter.unusedSimpArgs false
namespace Go.Gx
section
variable {P : Program} {n : Nat} {Q : Exit → Act → World → Prop} {S : Store} {w w0 : World} {F : List Nat} {Ls : List Seg}
def edgesOf (o : Oper) : List Nat := (o.after.toList.filter (Region.binds .any)).map (·.on)
/-- What each operation waits for, through others. -/
def maskOf (o : Oper) (acc : List Nat) : Nat := (edgesOf o).foldl (fun s j => s ||| (2 ^ j ||| acc.getD j 0)) 0
def masks : List Oper → List Nat → List Nat
  | [], acc => acc
  | o :: r, acc => masks r (acc ++ [maskOf o acc])
def Waits (l : List Oper) (k j : Nat) : Prop := ∀ D : Nat → Prop, (∀ k' o, D k' → l[k']? = some o → ∀ x ∈ edgesOf o, D x) → (∀ o, l[k]? = some o → ∀ x ∈ edgesOf o, D x) → D j
theorem maskOf_spec {acc : List Nat} {o : Oper} {j : Nat} : ∀ (es : List Nat) (s : Nat), (es.foldl (fun s j => s ||| (2 ^ j ||| acc.getD j 0)) s).testBit j = true → s.testBit j = true ∨ ∃ x ∈ es, j = x ∨ (acc.getD x 0).testBit j = true
  | [], s, h => Or.inl h
  | e :: r, s, h => by
    rcases maskOf_spec (o := o) r _ h with h1 | ⟨x, hx, h1⟩
    · rw [Nat.testBit_or, Nat.testBit_or, Bool.or_eq_true, Bool.or_eq_true] at h1
      rcases h1 with h1 | h1 | h1
      · exact Or.inl h1
      · rw [Nat.testBit_two_pow] at h1
        exact Or.inr ⟨e, by simp, Or.inl (by simpa [eq_comm] using h1)⟩
      · exact Or.inr ⟨e, by simp, Or.inr h1⟩
    · exact Or.inr ⟨x, by simp [hx], h1⟩
theorem masks_spec {l : List Oper} : ∀ (r : List Oper) (acc : List Nat), l = l.take acc.length ++ r → (∀ k j, (acc.getD k 0).testBit j = true → Waits l k j) → ∀ k j, ((masks r acc).getD k 0).testBit j = true → Waits l k j
  | [], acc, _, h, k, j, hk => h k j hk
  | o :: r, acc, hl, h, k, j, hk => by
    have hlen : acc.length ≤ l.length := by
      have := congrArg List.length hl
      simp only [List.length_append, List.length_take, List.length_cons] at this
      omega
    have ho : l[acc.length]? = some o := by
      rw [hl, List.getElem?_append_right (by simp; omega)]
      simp [Nat.min_eq_left hlen]
    refine masks_spec r (acc ++ [maskOf o acc]) ?_ ?_ k j hk
    · rw [List.length_append, List.length_singleton]
      have : l.take (acc.length + 1) = l.take acc.length ++ [o] := by
        rw [List.take_add_one, ho]; rfl
      rw [this, List.append_assoc]
      exact hl
    · intro k' j' hk'
      rw [List.getD_eq_getElem?_getD] at hk'
      by_cases hlt : k' < acc.length
      · rw [List.getElem?_append_left hlt, ← List.getD_eq_getElem?_getD] at hk'
        exact h k' j' hk'
      · by_cases heq : k' = acc.length
        · subst heq
          rw [List.getElem?_append_right (Nat.le_refl _), Nat.sub_self] at hk'
          simp only [List.getElem?_cons_zero, Option.getD_some] at hk'
          intro D hD hE
          rcases maskOf_spec (o := o) (edgesOf o) 0 hk' with h1 | ⟨x, hx, h1⟩
          · simp at h1
          · rcases h1 with h1 | h1
            · subst h1; exact hE o ho _ hx
            · exact h x j' h1 D hD (fun o' ho' => hD x o' (hE o ho x hx) ho')
        · rw [List.getElem?_eq_none (by simp; omega)] at hk'
          simp at hk'
def waits? (l : List Oper) (k j : Nat) : Bool := ((masks l []).getD k 0).testBit j
theorem waits?_spec {l : List Oper} {k j : Nat} (h : waits? l k j = true) : Waits l k j := masks_spec l [] (by simp) (fun k j h => by simp at h) k j h
def mem? (l : List Nat) (j : Nat) : Bool := l.any (Nat.beq j)
theorem mem?_spec {l : List Nat} {j : Nat} : mem? l j = true ↔ j ∈ l := by
  simp [mem?, List.any_eq_true]
def at? (E : List (List Nat)) (i : Nat) : List Nat := E.getD i []
def dstIs (l : List Oper) (j d : Nat) : Bool := match l[j]? with
  | some o => match o.dst with
    | some e => Nat.beq e d
    | none => false
  | none => false
/-- What the rule asks of the region's form: edges lead back; the operations from m on come last, one behind the other; those ahead of them write temporaries of their own; E: what an operation looks at (it waits for each), J: whose memory it takes over, N: whose memory it reads, X: what it looks at weakly, Y: to whose values its own value is tied, Z: those that wait for it and whose memory of the beginning it reads. -/
def dagOk1 (l : List Oper) (m : Nat) (S : Store) (E J N X Y Z : List (List Nat)) (i : Nat) : Bool :=
  match l[i]? with
  | none => false
  | some o => (edgesOf o).all (fun j => Nat.blt j i) &&
    bif Nat.blt i m then
      (match o.dst with
        | some d => (look S d).isNone && (List.range m).all (fun j => Nat.beq j i || !(dstIs l j d))
        | none => true) &&
      ((at? E i).all (fun j => waits? l i j && (List.range m).all (fun k => Nat.beq k i || (!(mem? (at? J k) j) || waits? l k i))) &&
      ((at? J i).all (mem? (at? E i)) && ((at? N i).all (mem? (at? E i)) && (distinct (at? J i ++ at? N i) && ((at? X i).all (waits? l i) && ((at? Y i).all (waits? l i) && ((at? Z i).all (fun k => Nat.blt k m && waits? l k i) && distinct (at? Z i))))))))
    else (List.range i).all (waits? l i)
def dagOk (l : List Oper) (m : Nat) (S : Store) (E J N X Y Z : List (List Nat)) : Bool := Nat.ble m l.length && (List.range l.length).all (dagOk1 l m S E J N X Y Z)
def upd (h : Nat → Value) (j : Nat) (v : Value) (k : Nat) : Value := bif Nat.beq k j then v else h k
theorem upd_self (h : Nat → Value) (j : Nat) : upd h j (h j) = h := by
  funext k
  unfold upd
  cases hb : Nat.beq k j with
  | false => rfl
  | true => rw [Nat.eq_of_beq_eq_true hb]; rfl
/-- The values of those of Y, no others. -/
def only (Y : List Nat) (h : Nat → Value) (k : Nat) : Value := bif mem? Y k then h k else undef
theorem only_congr {Y : List Nat} {h h' : Nat → Value} (e : ∀ k ∈ Y, h k = h' k) : only Y h = only Y h' := by
  funext k
  unfold only
  cases hb : mem? Y k with
  | false => rfl
  | true => exact e k (mem?_spec.1 hb)

/-- The memory of j, given that those of D have been carried out. -/
def left (J : List (List Nat)) (D : List Nat) (g : Nat → Seg) (j : Nat) : Seg := bif D.any (fun k => mem? (at? J k) j) then [] else g j
theorem perm_take : ∀ (L D : List Nat), L.Nodup → (∀ x ∈ L, x ∈ D) → ∃ R, D.Perm (L ++ R)
  | [], D, _, _ => ⟨D, by simp⟩
  | x :: r, D, hn, hs => by
    rw [List.nodup_cons] at hn
    have hx : x ∈ D := hs x (by simp)
    obtain ⟨R, hR⟩ := perm_take r (D.erase x) hn.2 (fun y hy => (List.mem_erase_of_ne (fun e => hn.1 (by subst e; exact hy))).2 (hs y (by simp [hy])))
    exact ⟨R, (List.perm_cons_erase hx).trans (by simpa using List.Perm.cons x hR)⟩

theorem upon_put {ops : Array Oper} {o : Oper} {a : Act} {K : Act → World → Prop} (r : Result Next) (h : o.upon P a K Q r) :
    o.upon P a (fun a' w' => K a' w' ∧ ∃ v, a'.tmps = (a.put o.dst v).tmps) Q r := by
  have hdef : ∀ d : Deferred, (({ a with defers := d :: a.defers } : Act).put o.dst undef).tmps = (a.put o.dst undef).tmps := by
    intro d; cases o.dst <;> rfl
  cases r with
  | ok nx w' =>
    cases nx <;> simp only [Oper.upon] at h ⊢ <;> first
      | exact ⟨h, _, rfl⟩
      | exact ⟨h, _, hdef _⟩
      | exact Calls.mono h (fun e w'' he => by cases e <;> first | exact ⟨he, _, rfl⟩ | exact he)
      | exact Rows.mono h (fun _ _ he => ⟨he, _, rfl⟩)
  | halt x w' => cases x <;> simp only [Oper.upon] at h ⊢ <;> exact h

/-- One operation behind which a relation holds. -/
def Q1 (J : Act → World → Prop) : Exit → Act → World → Prop
  | .normal, a, w => J a w
  | _, _, _ => False
theorem wpOp_of_list {ops : Array Oper} {i : Nat} {o : Oper} {a : Act} {J : Act → World → Prop} (hi : ops[i]? = some o) (h : wpList P ops (Q1 J) [o] a w) :
    wpOp P ops Q i (fun a' w' => J a' w' ∧ ∃ v, a'.tmps = (a.put o.dst v).tmps) a w := by
  unfold wpOp
  simp only [hi]
  unfold wpList at h
  split at h
  · rename_i hw
    rw [if_pos hw]
    rcases h with h | ⟨_, a1, w1, h2⟩
    · left
      unfold Oper.wp at *
      have h2 := upon_put (ops := ops) _ h
      generalize (execOp a.eval o).run P w = r at *
      cases r with
      | ok nx w' =>
        cases nx <;> simp only [Oper.upon] at h2 ⊢ <;> first
          | exact h2
          | exact Calls.mono h2 (fun e w'' he => by cases e <;> first | exact he | exact he.elim | (obtain ⟨a1, w1, h1⟩ := he; exact h1.elim))
          | exact Rows.mono h2 (fun _ _ he => he)
      | halt x w' => cases x <;> simp only [Oper.upon] at h2 ⊢ <;> exact h2.elim
    · exact h2.elim
  · rename_i hw
    rw [if_neg hw]
    exact ⟨h, _, rfl⟩

/-- What is known of the temporaries and the memory when those of D have been carried out. 'pre': memory of the beginning that an operation changes. -/
structure Done (l : List Oper) (n m : Nat) (S : Store) (F : List Nat) (w0 : World) (Ls : List Seg) (J Y : List (List Nat)) (pre : Nat → Seg) (B : Nat → (Nat → Value) → Value → Seg → Prop) (Bw : Nat → (Nat → Value) → Value → Prop) (D : List Nat) (a : Act) (w : World) : Prop where
  sat : Sat n S a
  ex : ∃ (g : Nat → Seg) (h : Nat → Value), Mem F w0 w (Ls ++ (D.map (left J D g) ++ (List.range m).map (fun i => bif mem? D i then [] else pre i))) ∧
    ∀ j ∈ D, ∃ o, l[j]? = some o ∧ (∀ d, o.dst = some d → a.tmps[d]? = some (h j)) ∧ Bw j (only (at? Y j) h) (h j) ∧ (D.any (fun k => mem? (at? J k) j) = false → B j (only (at? Y j) h) (h j) (g j))

theorem dagOk_at {l : List Oper} {m : Nat} {E J N X Y Z : List (List Nat)} (h : dagOk l m S E J N X Y Z = true) {i : Nat} {o : Oper} (hi : l[i]? = some o) :
    (∀ j ∈ edgesOf o, j < i) ∧ m ≤ l.length ∧
    (i < m → (∀ d, o.dst = some d → look S d = none ∧ ∀ j o', j < m → j ≠ i → l[j]? = some o' → o'.dst ≠ some d) ∧
      (∀ j ∈ at? E i, Waits l i j ∧ ∀ k, k < m → k ≠ i → j ∈ at? J k → Waits l k i) ∧ (∀ j ∈ at? J i, j ∈ at? E i) ∧ (∀ j ∈ at? N i, j ∈ at? E i) ∧ (at? J i ++ at? N i).Nodup ∧ (∀ j ∈ at? X i, Waits l i j) ∧ (∀ j ∈ at? Y i, Waits l i j) ∧ (∀ k ∈ at? Z i, k < m ∧ Waits l k i) ∧ (at? Z i).Nodup) ∧
    (m ≤ i → ∀ j, j < i → Waits l i j) := by
  simp only [dagOk, Bool.and_eq_true] at h
  have hlt : i < l.length := (List.getElem?_eq_some_iff.1 hi).1
  have h1 := List.all_eq_true.1 h.2 i (List.mem_range.2 hlt)
  simp only [dagOk1, hi, Bool.and_eq_true] at h1
  refine ⟨fun j hj => Nat.blt_eq ▸ List.all_eq_true.1 h1.1 j hj, Nat.ble_eq ▸ h.1, ?_, ?_⟩
  · intro him
    have : Nat.blt i m = true := Nat.blt_eq.symm ▸ him
    simp only [this, cond_true, Bool.and_eq_true] at h1
    obtain ⟨_, hd, hE, hJ, hN, hdis, hX, hY, hZ, hZd⟩ := h1
    refine ⟨?_, ?_, fun j hj => mem?_spec.1 (List.all_eq_true.1 hJ j hj), fun j hj => mem?_spec.1 (List.all_eq_true.1 hN j hj), distinct_spec hdis, fun j hj => waits?_spec (List.all_eq_true.1 hX j hj), fun j hj => waits?_spec (List.all_eq_true.1 hY j hj), fun k hk => ?_, distinct_spec hZd⟩
    · intro d hod
      simp only [hod, Bool.and_eq_true] at hd
      refine ⟨by simpa using hd.1, fun j o' hj hne ho' hde => ?_⟩
      have := List.all_eq_true.1 hd.2 j (List.mem_range.2 hj)
      simp only [dstIs, ho', hde, Bool.or_eq_true, Bool.not_eq_true'] at this
      rcases this with h2 | h2
      · exact hne (Nat.eq_of_beq_eq_true h2)
      · simp at h2
    · intro j hj
      have := List.all_eq_true.1 hE j hj
      simp only [Bool.and_eq_true] at this
      refine ⟨waits?_spec this.1, fun k hk hki hjk => ?_⟩
      have h3 := List.all_eq_true.1 this.2 k (List.mem_range.2 hk)
      simp only [Bool.or_eq_true, Bool.not_eq_true'] at h3
      rcases h3 with h3 | h3 | h3
      · exact absurd (Nat.eq_of_beq_eq_true h3) hki
      · rw [mem?_spec.2 hjk] at h3; cases h3
      · exact waits?_spec h3
    · have h3 := List.all_eq_true.1 hZ k hk
      rw [Bool.and_eq_true] at h3
      exact ⟨Nat.blt_eq ▸ h3.1, waits?_spec h3.2⟩
  · intro him j hj
    have : Nat.blt i m = false := by
      cases hb : Nat.blt i m with
      | false => rfl
      | true => have : i < m := Nat.blt_eq ▸ hb; omega
    simp only [this, cond_false] at h1
    exact waits?_spec (List.all_eq_true.1 h1.2 j (List.mem_range.2 hj))

/-- **A region that draws its order.** -/
theorem G_dag {id : Nat} {l : List Oper} (m : Nat) (E J N X Y Z : List (List Nat)) (pre : Nat → Seg) (B : Nat → (Nat → Value) → Value → Seg → Prop) (Bw : Nat → (Nat → Value) → Value → Prop) (hBw : ∀ j f v s, B j f v s → Bw j f v) (hmix : P.follows .mixedOrders = true) (hok : dagOk l m S E J N X Y Z = true) (hM : Mem F w0 w (Ls ++ (List.range m).map pre))
    (ob : ∀ i o, i < m → l[i]? = some o → ∀ (a : Act) (w : World) (g : Nat → Seg) (h : Nat → Value) (R : List Seg), Sat n S a →
      (∀ j ∈ at? E i, ∃ oj, l[j]? = some oj ∧ (∀ d, oj.dst = some d → a.tmps[d]? = some (h j)) ∧ B j (only (at? Y j) h) (h j) (g j)) →
      (∀ j ∈ at? X i, ∃ oj, l[j]? = some oj ∧ (∀ d, oj.dst = some d → a.tmps[d]? = some (h j)) ∧ Bw j (only (at? Y j) h) (h j)) →
      Mem F w0 w (Ls ++ ([pre i] ++ ((at? J i).map g ++ ((at? N i).map g ++ ((at? Z i).map pre ++ R))))) →
      wpList P l.toArray (Q1 fun a' w' => a'.defers = [] ∧ ∃ v s, (∀ d, o.dst = some d → a'.tmps[d]? = some v) ∧ B i (only (at? Y i) h) v s ∧ Mem F w0 w' (Ls ++ ([s] ++ ((at? N i).map g ++ ((at? Z i).map pre ++ R))))) [o] a w)
    (fin : ∀ (a : Act) (w : World) (D : List Nat), D.Perm (List.range m) → Done l n m S F w0 Ls J Y pre B Bw D a w → wpList P l.toArray Q (l.drop m) a w) : G P n (.region id l.toArray true) Q S w := by
  intro a0 ha0
  refine wp_region_any hmix ?_
  have hsz : l.toArray.size = l.length := by simp
  have hget : ∀ i : Nat, l.toArray[i]? = l[i]? := fun i => by simp
  have hml : m ≤ l.length := by
    have hh := hok
    simp only [dagOk, Bool.and_eq_true] at hh
    exact Nat.ble_eq ▸ hh.1
  -- the last ones, one behind the other
  have post : ∀ fuel k (listed : Array Bool) a w, k + fuel = l.length → m ≤ k → listed.size = l.length → (∀ i, i < l.length → (listed.getD i true = true ↔ i < k)) → wpList P l.toArray Q (l.drop k) a w →
      wpAny P .any l.toArray Q fuel listed a w := by
    intro fuel
    induction fuel with
    | zero =>
      intro k listed a w hk hmk hls hlist h
      have hk' : k = l.length := by omega
      subst hk'
      refine ⟨?_, by simpa [wpList] using h⟩
      refine List.eq_nil_iff_forall_not_mem.2 ?_
      intro i hi
      obtain ⟨h0, o, ho, _⟩ := mem_ready.1 hi
      rw [hget] at ho
      have hil := (List.getElem?_eq_some_iff.1 ho).1
      have := (hlist i hil).2 hil
      rw [h0] at this; cases this
    | succ fuel ih =>
      intro k listed a w hk hmk hls hlist h
      have hkl : k < l.length := by omega
      have hko : l[k]? = some l[k] := List.getElem?_eq_getElem hkl
      have hready : ∀ i, i ∈ Region.ready .any l.toArray listed → i = k := by
        intro i hi
        obtain ⟨h0, o, ho, hall⟩ := mem_ready.1 hi
        rw [hget] at ho
        have hil := (List.getElem?_eq_some_iff.1 ho).1
        have hge : k ≤ i := by
          rcases Nat.lt_or_ge i k with h' | h'
          · have := (hlist i hil).2 h'; rw [h0] at this; cases this
          · exact h'
        rcases Nat.lt_or_eq_of_le hge with h' | h'
        · have hw := (dagOk_at hok ho).2.2.2 (by omega) k h' (fun x => x < k) (fun k' o' hk' ho' x hx => by
            have := (dagOk_at hok ho').1 x hx; omega) (fun o' ho' x hx => by
            rw [ho] at ho'
            simp only [Option.some.injEq] at ho'
            subst ho'
            obtain ⟨e, he, hex⟩ := List.mem_map.1 hx
            simp only [List.mem_filter, Array.mem_toList_iff] at he
            have h1 := hall e he.1 he.2
            rw [hex] at h1
            have hxi := (dagOk_at hok ho).1 x hx
            refine (hlist x (by omega)).1 ?_
            rw [Array.getD_eq_getD_getElem?] at h1 ⊢
            rw [Array.getElem?_eq_getElem (by omega)] at h1 ⊢; exact h1)
          omega
        · exact h'.symm
      have hk0 : listed.getD k true = false := by
        cases hb : listed.getD k true with
        | false => rfl
        | true => exact absurd ((hlist k hkl).1 hb) (by omega)
      have hkready : k ∈ Region.ready .any l.toArray listed := by
        refine mem_ready.2 ⟨hk0, l[k], by rw [hget]; exact hko, fun e he hb => ?_⟩
        have hlt := (dagOk_at hok hko).1 e.on (List.mem_map.2 ⟨e, by simp [he, hb], rfl⟩)
        have h2 := (hlist e.on (by omega)).2 hlt
        have h3 : e.on < listed.size := by omega
        rw [Array.getD_eq_getD_getElem?, Array.getElem?_eq_getElem h3] at h2 ⊢
        exact h2
      refine ⟨fun hnil => (by rw [hnil] at hkready; cases hkready), fun i hi => ?_⟩
      have hik := hready i hi
      subst hik
      rw [List.drop_eq_getElem_cons hkl] at h
      have hw : wpOp P l.toArray Q i (wpList P l.toArray Q (l.drop (i + 1))) a w := by
        unfold wpOp
        rw [hget, hko]
        unfold wpList at h
        exact h
      refine wpOp_mono (fun a' w' h' => ih (i + 1) _ a' w' (by omega) (by omega) (by simpa using hls) (fun j hj => ?_) h') hw
      by_cases hij : i = j
      · subst hij
        rw [Array.getD_eq_getD_getElem?, Array.getElem?_setIfInBounds_self_of_lt (by omega)]
        simp
      · rw [getD_set_ne true hij, hlist j hj]; omega
  -- the first ones, in whatever order
  have first : ∀ fuel (D : List Nat) (listed : Array Bool) a w, D.length + fuel = l.length → D.Nodup → (∀ i ∈ D, i < m) → listed.size = l.length → (∀ i, i < l.length → (listed.getD i true = true ↔ i ∈ D)) →
      (∀ k ∈ D, ∀ o, l[k]? = some o → ∀ j ∈ edgesOf o, j ∈ D) → Done l n m S F w0 Ls J Y pre B Bw D a w → wpAny P .any l.toArray Q fuel listed a w := by
    intro fuel
    induction fuel with
    | zero =>
      intro D listed a w hD hn hDm hls hlist hclosed hdone
      have hperm : D.Perm (List.range m) := by
        have hsub := perm_take D (List.range m) hn (fun x hx => List.mem_range.2 (hDm x hx))
        obtain ⟨R, hR⟩ := hsub
        have hlen := hR.length_eq
        simp only [List.length_range, List.length_append] at hlen
        have hRn : R = [] := List.eq_nil_of_length_eq_zero (by omega)
        subst hRn
        simpa using hR.symm
      have hlm : m = l.length := by
        have := hperm.length_eq
        simp only [List.length_range] at this
        omega
      exact post 0 m listed a w (by omega) (Nat.le_refl _) hls (fun i hi => by rw [hlist i hi, hperm.mem_iff, List.mem_range]) (fin a w D hperm hdone)
    | succ fuel ih =>
      intro D listed a w hD hn hDm hls hlist hclosed hdone
      by_cases hall : ∀ i, i < m → i ∈ D
      · have hperm : D.Perm (List.range m) := by
          obtain ⟨R, hR⟩ := perm_take (List.range m) D List.nodup_range (fun x hx => hall x (List.mem_range.1 hx))
          have hRn : R = [] := by
            cases R with
            | nil => rfl
            | cons x r =>
              have hx : x ∈ D := hR.mem_iff.2 (by simp)
              have hnd := (hR.nodup_iff).1 hn
              rw [List.nodup_append] at hnd
              exact absurd rfl (hnd.2.2 x (List.mem_range.2 (hDm x hx)) x (by simp))
          subst hRn
          simpa using hR
        have hlen : D.length = m := by simpa using hperm.length_eq
        exact post (fuel + 1) m listed a w (by omega) (Nat.le_refl _) hls (fun i hi => by rw [hlist i hi, hperm.mem_iff, List.mem_range]) (fin a w D hperm hdone)
      · have hready0 : Region.ready .any l.toArray listed ≠ [] := by
          have hex : ∃ i, i < m ∧ i ∉ D := Classical.byContradiction fun hno => hall fun i hi => Classical.byContradiction fun hiD => hno ⟨i, hi, hiD⟩
          obtain ⟨i, ⟨hi, hiD⟩, hmin⟩ := exists_least hex
          have hil : i < l.length := by omega
          have hio : l[i]? = some l[i] := List.getElem?_eq_getElem hil
          intro hnil
          have : i ∈ Region.ready .any l.toArray listed := by
            refine mem_ready.2 ⟨?_, l[i], by rw [hget]; exact hio, fun e he hb => ?_⟩
            · cases hb : listed.getD i true with
              | false => rfl
              | true => exact absurd ((hlist i hil).1 hb) hiD
            · have hlt := (dagOk_at hok hio).1 e.on (List.mem_map.2 ⟨e, by simp [he, hb], rfl⟩)
              have hin : e.on ∈ D := Classical.byContradiction fun hno => by
                have := hmin e.on ⟨by omega, hno⟩; omega
              have h2 := (hlist e.on (by omega)).2 hin
              have h3 : e.on < listed.size := by omega
              rw [Array.getD_eq_getD_getElem?, Array.getElem?_eq_getElem h3] at h2 ⊢
              exact h2
          rw [hnil] at this; cases this
        refine ⟨fun hnil => absurd hnil hready0, fun i hi => ?_⟩
        obtain ⟨h0, o, ho, hedges⟩ := mem_ready.1 hi
        rw [hget] at ho
        have hil := (List.getElem?_eq_some_iff.1 ho).1
        have hspec := dagOk_at hok ho
        have hinD : ∀ j ∈ edgesOf o, j ∈ D := by
          intro j hj
          obtain ⟨e, he, hej⟩ := List.mem_map.1 hj
          simp only [List.mem_filter, Array.mem_toList_iff] at he
          have h1 := hedges e he.1 he.2
          rw [hej] at h1
          have hjl : j < l.length := by have := hspec.1 j hj; omega
          have h2 : listed.getD j true = true := by
            rw [Array.getD_eq_getD_getElem?] at h1 ⊢
            rw [Array.getElem?_eq_getElem (by omega)] at h1 ⊢; exact h1
          exact (hlist j hjl).1 h2
        have hiD : i ∉ D := fun hin => by have := (hlist i hil).2 hin; rw [h0] at this; cases this
        have him : i < m := by
          rcases Nat.lt_or_ge i m with h' | h'
          · exact h'
          · exact absurd (fun j hj => hspec.2.2.2 h' j (by omega) (fun x => x ∈ D) (fun k' o' hk' ho' x hx => hclosed k' hk' o' ho' x hx) (fun o' ho' x hx => by
              rw [ho] at ho'
              simp only [Option.some.injEq] at ho'
              subst ho'
              exact hinD x hx)) hall
        obtain ⟨hdsts, hEs, hJs, hNs, hJN, hXs, hYs, hZs, hZn⟩ := hspec.2.2.1 him
        have hwD : ∀ j, Waits l i j → j ∈ D := fun j hj => hj (fun x => x ∈ D) (fun k' o' hk' ho' x hx => hclosed k' hk' o' ho' x hx) (fun o' ho' x hx => by
          rw [ho] at ho'
          simp only [Option.some.injEq] at ho'
          subst ho'
          exact hinD x hx)
        have hwl : ∀ {k j}, k < l.length → Waits l k j → j < k := fun {k j} hk hj => hj (fun x => x < k) (fun k' o' hk' ho' x hx => by
          have := (dagOk_at hok ho').1 x hx; omega) (fun o' ho' x hx => (dagOk_at hok ho').1 x hx)
        obtain ⟨g, h, hMem, hB⟩ := hdone.ex
        have hEfree : ∀ j ∈ at? E i, D.any (fun k => mem? (at? J k) j) = false := by
          intro j hj
          rw [List.any_eq_false]
          intro k hk hkj
          exact hiD ((hEs j hj).2 k (hDm k hk) (fun e => hiD (e ▸ hk)) (mem?_spec.1 hkj) (fun x => x ∈ D) (fun k' o' hk' ho' x hx => hclosed k' hk' o' ho' x hx) (fun o' ho' x hx => hclosed k hk o' ho' x hx))
        obtain ⟨R0, hR0⟩ := perm_take (at? J i ++ at? N i) D hJN (fun x hx => by
          rcases List.mem_append.1 hx with h' | h'
          · exact hwD x (hEs x (hJs x h')).1
          · exact hwD x (hEs x (hNs x h')).1)
        have hZD : ∀ k ∈ at? Z i, k ∉ D := fun k hk hkD => hiD ((hZs k hk).2 (fun x => x ∈ D) (fun k' o' hk' ho' x hx => hclosed k' hk' o' ho' x hx) (fun o' ho' x hx => hclosed k hkD o' ho' x hx))
        have hZi : i ∉ at? Z i := fun hi => by have := hwl hil (hZs i hi).2; omega
        obtain ⟨T1, hT1⟩ := perm_take (i :: at? Z i) (List.range m) (List.nodup_cons.2 ⟨hZi, hZn⟩) (fun x hx => by
          rcases List.mem_cons.1 hx with h' | h'
          · subst h'; exact List.mem_range.2 him
          · exact List.mem_range.2 (hZs x h').1)
        obtain ⟨T0, hT0e⟩ : ∃ T0, T0 = at? Z i ++ T1 := ⟨_, rfl⟩
        have hT0 : (List.range m).Perm ([i] ++ T0) := by rw [hT0e]; exact hT1
        have hTZ : T0.map (fun i => bif mem? D i then [] else pre i) = (at? Z i).map pre ++ T1.map (fun i => bif mem? D i then [] else pre i) := by
          rw [hT0e, List.map_append]
          congr 1
          refine List.map_congr_left fun k hk => ?_
          have : mem? D k = false := by
            cases hb : mem? D k with
            | false => rfl
            | true => exact absurd (mem?_spec.1 hb) (hZD k hk)
          simp [this]
        have hmemD : mem? D i = false := by
          cases hb : mem? D i with
          | false => rfl
          | true => exact absurd (mem?_spec.1 hb) hiD
        have hleftE : ∀ j ∈ at? E i, left J D g j = g j := fun j hj => by simp [left, hEfree j hj]
        have hmapJ : (at? J i).map (left J D g) = (at? J i).map g := List.map_congr_left fun j hj => hleftE j (hJs j hj)
        have hmapN : (at? N i).map (left J D g) = (at? N i).map g := List.map_congr_left fun j hj => hleftE j (hNs j hj)
        have hpi : (fun i => bif mem? D i then [] else pre i) i = pre i := by simp [hmemD]
        have hM1 : Mem F w0 w (Ls ++ ([pre i] ++ ((at? J i).map g ++ ((at? N i).map g ++ (R0.map (left J D g) ++ T0.map (fun i => bif mem? D i then [] else pre i)))))) := by
          refine hMem.perm (List.Perm.append_left _ ?_)
          have e1 : ((at? J i).map g ++ ((at? N i).map g ++ R0.map (left J D g))).Perm (D.map (left J D g)) := by
            rw [← hmapJ, ← hmapN, ← List.map_append, ← List.map_append, ← List.append_assoc]
            exact (hR0.map _).symm
          have e2 : ([pre i] ++ T0.map (fun i => bif mem? D i then [] else pre i)).Perm ((List.range m).map (fun i => bif mem? D i then [] else pre i)) := by
            have := (hT0.map (fun i => bif mem? D i then [] else pre i)).symm
            rw [List.map_append, List.map_cons, List.map_nil] at this
            simpa [hmemD] using this
          have e3 := e1.append e2
          refine List.Perm.trans ?_ e3
          simp only [← List.append_assoc]
          refine List.Perm.append_right _ ?_
          simp only [List.append_assoc]
          exact List.perm_append_comm (l₁ := [pre i]) (l₂ := (at? J i).map g ++ ((at? N i).map g ++ R0.map (left J D g))) |>.trans (by simp)
        have hsw : ((at? Z i).map pre ++ (R0.map (left J D g) ++ T1.map (fun i => bif mem? D i then [] else pre i))).Perm (R0.map (left J D g) ++ T0.map (fun i => bif mem? D i then [] else pre i)) := by
          rw [hTZ, ← List.append_assoc, ← List.append_assoc]
          exact List.Perm.append_right _ List.perm_append_comm
        have hM1' := hM1.perm (List.Perm.append_left Ls (List.Perm.append_left [pre i] (List.Perm.append_left ((at? J i).map g) (List.Perm.append_left ((at? N i).map g) hsw))))
        have hwp := ob i o him ho a w g h (R0.map (left J D g) ++ T1.map (fun i => bif mem? D i then [] else pre i)) hdone.sat (fun j hj => by
          obtain ⟨oj, e1, e2, _, e5⟩ := hB j (hwD j (hEs j hj).1)
          exact ⟨oj, e1, e2, e5 (hEfree j hj)⟩) (fun j hj => by
          obtain ⟨oj, e1, e2, e4, _⟩ := hB j (hwD j (hXs j hj))
          exact ⟨oj, e1, e2, e4⟩) hM1'
        refine wpOp_mono (fun a' w' h' => ?_) (wpOp_of_list (Q := Q) (by rw [hget]; exact ho) hwp)
        obtain ⟨⟨hdef, v, s, hv, hBs, hM2'⟩, u, hu⟩ := h'
        have hM2 := hM2'.perm (List.Perm.append_left Ls (List.Perm.append_left [s] (List.Perm.append_left ((at? N i).map g) hsw.symm)))
        have hput : ∀ k, o.dst ≠ some k → a'.tmps[k]? = a.tmps[k]? := fun k hk => by
          rw [hu]
          cases hod : o.dst with
          | none => rfl
          | some d =>
            simp only [Act.put]
            exact Array.getElem?_setIfInBounds_ne (fun e => hk (by rw [hod, e]))
        have hsize : a'.tmps.size = n := by
          rw [hu]
          cases hod : o.dst with
          | none => exact hdone.sat.size
          | some d => simp [Act.put, hdone.sat.size]
        refine ih (i :: D) _ a' w' (by simp only [List.length_cons]; omega) (List.nodup_cons.2 ⟨hiD, hn⟩) (fun x hx => by
          rcases List.mem_cons.1 hx with h' | h'
          · subst h'; exact him
          · exact hDm x h') (by simpa using hls) (fun j hj => ?_) (fun k hk o' ho' j hj => ?_) ⟨⟨hdef, hsize, fun k x hk => ?_⟩, fun j => if j = i then s else g j, fun j => if j = i then v else h j, ?_, fun j hj => ?_⟩
        · by_cases hij : i = j
          · subst hij
            rw [Array.getD_eq_getD_getElem?, Array.getElem?_setIfInBounds_self_of_lt (by omega)]
            simp
          · rw [getD_set_ne true hij, hlist j hj]
            simp [Ne.symm hij]
        · rcases List.mem_cons.1 hk with h' | h'
          · subst h'
            rw [ho] at ho'
            simp only [Option.some.injEq] at ho'
            subst ho'
            exact List.mem_cons_of_mem _ (hinD j hj)
          · exact List.mem_cons_of_mem _ (hclosed k h' o' ho' j hj)
        · rw [hput k (fun e => by have := (hdsts k e).1; rw [this] at hk; cases hk)]
          exact hdone.sat.at_ k x hk
        · -- the memory
          have hi' : left J (i :: D) (fun j => if j = i then s else g j) i = s := by
            have : (i :: D).any (fun k => mem? (at? J k) i) = false := by
              rw [List.any_eq_false]
              intro k hk hki
              have hik := mem?_spec.1 hki
              have hkm : k < m := by
                rcases List.mem_cons.1 hk with h' | h'
                · subst h'; exact him
                · exact hDm k h'
              have hko : l[k]? = some l[k] := List.getElem?_eq_getElem (by omega)
              have hks := dagOk_at hok hko
              have h1 := ((hks.2.2.1 hkm).2.1 i ((hks.2.2.1 hkm).2.2.1 i hik)).1
              have h2 := hwl (by omega) h1
              rcases List.mem_cons.1 hk with h' | h'
              · omega
              · exact hiD (h1 (fun x => x ∈ D) (fun k' o' hk' ho' x hx => hclosed k' hk' o' ho' x hx) (fun o' ho' x hx => hclosed k h' o' ho' x hx))
            simp only [left, this, cond_false, if_true]
          have hnd := (hR0.nodup_iff).1 hn
          rw [List.nodup_append] at hnd
          have hnJN := List.nodup_append.1 hJN
          have hJ' : ((at? J i).map (left J (i :: D) (fun j => if j = i then s else g j))).flatten = [] := by
            rw [List.flatten_eq_nil_iff]
            intro x hx
            obtain ⟨j, hj, rfl⟩ := List.mem_map.1 hx
            have : (i :: D).any (fun k => mem? (at? J k) j) = true := List.any_eq_true.2 ⟨i, by simp, mem?_spec.2 hj⟩
            simp only [left, this, cond_true]
          have hN' : (at? N i).map (left J (i :: D) (fun j => if j = i then s else g j)) = (at? N i).map g := by
            refine List.map_congr_left fun j hj => ?_
            have h1 : mem? (at? J i) j = false := by
              cases hb : mem? (at? J i) j with
              | false => rfl
              | true => exact absurd rfl (hnJN.2.2 j (mem?_spec.1 hb) j hj)
            have hjD := hwD j (hEs j (hNs j hj)).1
            have hji : j ≠ i := fun e => hiD (e ▸ hjD)
            simp only [left, List.any_cons, h1, hEfree j (hNs j hj), Bool.or_false, cond_false, if_neg hji]
          have hR' : R0.map (left J (i :: D) (fun j => if j = i then s else g j)) = R0.map (left J D g) := by
            refine List.map_congr_left fun j hj => ?_
            have h1 : mem? (at? J i) j = false := by
              cases hb : mem? (at? J i) j with
              | false => rfl
              | true => exact absurd rfl (hnd.2.2 j (List.mem_append_left _ (mem?_spec.1 hb)) j hj)
            have hjD : j ∈ D := hR0.mem_iff.2 (List.mem_append_right _ hj)
            have hji : j ≠ i := fun e => hiD (e ▸ hjD)
            simp only [left, List.any_cons, h1, Bool.false_or, if_neg hji]
          have hTn := (hT0.nodup_iff).1 List.nodup_range
          rw [List.nodup_append] at hTn
          have hT' : T0.map (fun k => bif mem? (i :: D) k then [] else pre k) = T0.map (fun k => bif mem? D k then [] else pre k) := by
            refine List.map_congr_left fun j hj => ?_
            have hji : Nat.beq j i = false := by
              cases hb : Nat.beq j i with
              | false => rfl
              | true => exact absurd (Nat.eq_of_beq_eq_true hb).symm (hTn.2.2 i (by simp) j hj)
            simp only [mem?, List.any_cons, hji, Bool.false_or]
          refine hM2.permF ?_
          have h1 : ((i :: D).map (left J (i :: D) (fun j => if j = i then s else g j))).Perm ((i :: ((at? J i ++ at? N i) ++ R0)).map (left J (i :: D) (fun j => if j = i then s else g j))) := (hR0.cons i).map _
          have h2 : ((List.range m).map (fun k => bif mem? (i :: D) k then [] else pre k)).Perm (([i] ++ T0).map (fun k => bif mem? (i :: D) k then [] else pre k)) := hT0.map _
          refine ((List.Perm.append_left Ls (h1.append h2)).flatten).trans ?_
          have hself : mem? (i :: D) i = true := mem?_spec.2 (by simp)
          rw [List.map_cons, hi', List.map_append, List.map_append, hN', hR', List.map_append, List.map_cons, List.map_nil, hT', hself]
          simp [hJ']
        · rcases List.mem_cons.1 hj with h' | h'
          · subst h'
            have hY : only (at? Y j) (fun k => if k = j then v else h k) = only (at? Y j) h := only_congr fun k hk => by
              have : k ≠ j := fun e => hiD (e ▸ hwD k (hYs k hk))
              simp [this]
            rw [hY]
            refine ⟨o, ho, by simpa using hv, by simpa using hBw _ _ _ _ hBs, fun _ => by simpa using hBs⟩
          · have hji : j ≠ i := fun e => hiD (e ▸ h')
            obtain ⟨oj, h1, h2, h4, h5⟩ := hB j h'
            have hY : only (at? Y j) (fun k => if k = i then v else h k) = only (at? Y j) h := only_congr fun k hk => by
              have hjw := ((dagOk_at hok h1).2.2.1 (hDm j h')).2.2.2.2.2.2.1 k hk
              have hkD : k ∈ D := hjw (fun x => x ∈ D) (fun k' o' hk' ho' x hx => hclosed k' hk' o' ho' x hx) (fun o' ho' x hx => hclosed j h' o' ho' x hx)
              have : k ≠ i := fun e => hiD (e ▸ hkD)
              simp [this]
            rw [hY]
            simp only [if_neg hji]
            refine ⟨oj, h1, fun dj hdj => ?_, h4, fun hfree => ?_⟩
            · rw [hput dj (fun e => (hdsts dj e).2 j oj (hDm j h') hji h1 hdj)]
              exact h2 dj hdj
            · have hfree' : D.any (fun k => mem? (at? J k) j) = false := by
                rw [List.any_cons, Bool.or_eq_false_iff] at hfree
                exact hfree.2
              simpa [hji] using h5 hfree'
  refine first l.toArray.size [] _ a0 _ (by simp) (by simp) (by simp) (by simp) (fun i hi => by simp [Array.getD_eq_getD_getElem?, hi]) (by simp) ⟨ha0, fun _ => [], fun _ => undef, ?_, by simp⟩
  simpa [mem?] using Mem.drew hM
end
end Go.Gx
