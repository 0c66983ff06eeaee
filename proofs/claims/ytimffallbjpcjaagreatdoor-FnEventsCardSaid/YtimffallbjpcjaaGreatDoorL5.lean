/- Plain laws of the models: no program in sight. -/
import Derived.Test.YtimffallbjpcjaaGreatDoorM
import Derived.Test.YtimffallbjpcjaaGreatDoorL4
set_option linter.unusedVariables false
set_option linter.unusedSimpArgs false
set_option maxHeartbeats 4000000
namespace Go.Proofs.YtimffallbjpcjaaGreatDoor
open Go.Gx
/-! ### What the two readers answer -/
theorem ba_beq (a b : ByteArray) : (a.toList == b.toList) = decide (a = b) := by
  rw [ByteArray.toList_eq, ByteArray.toList_eq, Bool.eq_iff_iff, beq_iff_eq, decide_eq_true_eq]
  exact ⟨fun h => ba_ext h, fun h => by rw [h]⟩
def zE : Event := ⟨0, 0, ByteArray.empty, 0⟩
def resP (e : Event) (s : ByteArray) : Event × Bool := bif oneE e && decide (txtE e = s) then (e, true) else (zE, false)
theorem s_fin (e : Event) (s : ByteArray) (hk : e.Kind.size ≤ 1048576) : (Option.bind (α := Bool) (Option.bind (M.s_l22One e) fun r1956 =>
    bif !r1956 then some true
    else (Option.bind (M.s_l22Text e) fun r1961 =>
    some (!(r1961.toList == s.toList)))) fun o1953 =>
    bif o1953 then some ((⟨0, 0, ByteArray.empty, 0⟩ : Event), false)
    else some (e, true)) = some (resP e s) := by
  rw [s_oneE e (by omega), Option.bind_some]
  unfold resP
  cases hg : oneE e with
  | false => rfl
  | true =>
    rw [s_text e hg]
    simp only [Bool.not_true, cond_false, Option.bind_some, ba_beq, Bool.true_and]
    cases decide (txtE e = s) <;> rfl
theorem i_fin (e : Event) (s : ByteArray) (hk : e.Kind.size ≤ 1048576) : (Option.bind (α := Bool) (Option.bind (M.i_IsEvent e) fun r1359 =>
    bif !r1359 then some true
    else (Option.bind (M.i_eventText e) fun r1364 =>
    some (!(r1364.toList == s.toList)))) fun o1353 =>
    bif o1353 then some ((⟨0, 0, ByteArray.empty, 0⟩ : Event), false)
    else some (e, true)) = some (resP e s) := by
  rw [i_oneE e (by omega), Option.bind_some]
  unfold resP
  cases hg : oneE e with
  | false => rfl
  | true =>
    rw [i_text e hg]
    simp only [Bool.not_true, cond_false, Option.bind_some, ba_beq, Bool.true_and]
    cases decide (txtE e = s) <;> rfl
def rd (x : ByteArray) : Int × Bool := (M.s_l1Read x).getD (0, false)
theorem rd_ok {x : ByteArray} (h : x.size ≤ 100000) : M.s_l1Read x = some (rd x) := by
  obtain ⟨r, hr⟩ := s_read_ok x h
  unfold rd
  rw [hr]
  rfl
theorem cut_len : ∀ (l : List UInt8), ∀ x ∈ cutL l, x.length ≤ l.length
  | [], x, h => by
    simp only [cutL, List.mem_singleton] at h
    subst h
    simp
  | b :: r, x, h => by
    have ih := cut_len r
    simp only [cutL] at h
    split at h
    · rcases List.mem_cons.1 h with e | e
      · subst e
        simp
      · have := ih x e
        simp only [List.length_cons]
        omega
    · cases hc : cutL r with
      | nil =>
        rw [hc] at h
        simp only [List.mem_singleton] at h
        subst h
        simp
      | cons y ys =>
        rw [hc] at h ih
        simp only at h
        rcases List.mem_cons.1 h with e | e
        · subst e
          have := ih y (by simp)
          simp only [List.length_cons]
          omega
        · have := ih x (by simp [e])
          simp only [List.length_cons]
          omega
theorem cut_size {n : Nat} {s : ByteArray} {l : List UInt8} (h : l.length ≤ n) : ∀ x ∈ (cutL l).map mkB, x.size ≤ n := by
  intro x hx
  obtain ⟨y, hy, rfl⟩ := List.mem_map.1 hx
  have := cut_len l y hy
  rw [ba_size, data_mkB]
  omega
def gst : ByteArray := ByteArray.mk #[103, 117, 101, 115, 116]
def sP (s : ByteArray) (ps : List ByteArray) : Event × Bool :=
  bif decide ((s.size : Int) > 40) then (zE, false) else match ps with
  | [a, b, c] => bif decide (b = gst) then (zE, false) else resP ⟨(rd a).1, 0, c, 0⟩ s
  | [a, b, c, d] => bif decide (b = gst) then resP ⟨(rd a).1, (rd c).1, d, 0⟩ s else resP ⟨(rd a).1, 0, c, (rd d).1⟩ s
  | [a, b, c, d, e] => bif decide (b = gst) then resP ⟨(rd a).1, (rd c).1, d, (rd e).1⟩ s else (zE, false)
  | _ => (zE, false)
theorem s_parse (s : ByteArray) (hs : s.size ≤ 100000) : M.s_ParseEvent s = some (sP s ((cutL s.data.toList).map mkB)) := by
  unfold M.s_ParseEvent
  rw [s_split s hs, Option.bind_some]
  have hb := cut_size (s := s) (l := s.data.toList) (n := 100000) (by rw [size_list]; exact hs)
  generalize (cutL s.data.toList).map mkB = ps at hb ⊢
  unfold sP
  have hg : ∀ b : ByteArray, (b.toList == (ByteArray.mk #[103, 117, 101, 115, 116]).toList) = decide (b = gst) := fun b => ba_beq b _
  cases decide ((s.size : Int) > 40) with
  | true => rfl
  | false =>
    match ps, hb with
    | [], _ => rfl
    | [a], _ => rfl
    | [a, b], _ => rfl
    | [a, b, c], hb =>
      have ha := rd_ok (hb a (by simp))
      have hc := rd_ok (hb c (by simp))
      have hcs := hb c (by simp)
      have i0 : gxIdx [a, b, c] 0 = some a := rfl
      have i1 : gxIdx [a, b, c] 1 = some b := rfl
      have i2 : gxIdx [a, b, c] 2 = some c := rfl
      have s2 : gxSlice [a, b, c] 2 3 = some [c] := rfl
      have s3 : gxSlice [a, b, c] 3 3 = some [] := rfl
      have l1 : (([a, b, c].length : Nat) : Int) = 3 := rfl
      simp only [l1, cond_false, show decide ((3 : Int) < 3) = false by decide, show decide ((3 : Int) > 5) = false by decide, i0, i1, i2, s2, s3, ha, hc, Option.bind_some, hg]
      cases decide (b = gst) with
      | true => rfl
      | false =>
        simp only [cond_false, Option.bind_some, show ((([c] : List ByteArray).length : Int) == 0) = false by rfl, show decide ((([c] : List ByteArray).length : Int) > 2) = false by rfl, show gxIdx [c] 0 = some c by rfl, show ((([c] : List ByteArray).length : Int) == 2) = false by rfl]
        exact s_fin ⟨(rd a).1, 0, c, 0⟩ s (by simp only; omega)
    | [a, b, c, d], hb =>
      have ha := rd_ok (hb a (by simp))
      have hc := rd_ok (hb c (by simp))
      have hd := rd_ok (hb d (by simp))
      have hcs := hb c (by simp)
      have hds := hb d (by simp)
      have i0 : gxIdx [a, b, c, d] 0 = some a := rfl
      have i1 : gxIdx [a, b, c, d] 1 = some b := rfl
      have i2 : gxIdx [a, b, c, d] 2 = some c := rfl
      have s2 : gxSlice [a, b, c, d] 2 4 = some [c, d] := rfl
      have s3 : gxSlice [a, b, c, d] 3 4 = some [d] := rfl
      have l1 : (([a, b, c, d].length : Nat) : Int) = 4 := rfl
      simp only [l1, cond_false, show decide ((4 : Int) < 3) = false by decide, show decide ((4 : Int) > 5) = false by decide, i0, i1, i2, s2, s3, ha, hc, Option.bind_some, hg]
      cases decide (b = gst) with
      | true =>
        simp only [cond_false, cond_true, Option.bind_some, show ((([d] : List ByteArray).length : Int) == 0) = false by rfl, show decide ((([d] : List ByteArray).length : Int) > 2) = false by rfl, show gxIdx [d] 0 = some d by rfl, show ((([d] : List ByteArray).length : Int) == 2) = false by rfl]
        exact s_fin ⟨(rd a).1, (rd c).1, d, 0⟩ s (by simp only; omega)
      | false =>
        simp only [cond_false, cond_true, Option.bind_some, show ((([c, d] : List ByteArray).length : Int) == 0) = false by rfl, show decide ((([c, d] : List ByteArray).length : Int) > 2) = false by rfl, show gxIdx [c, d] 0 = some c by rfl, show gxIdx [c, d] 1 = some d by rfl, show ((([c, d] : List ByteArray).length : Int) == 2) = true by rfl, hd]
        exact s_fin ⟨(rd a).1, 0, c, (rd d).1⟩ s (by simp only; omega)
    | [a, b, c, d, e], hb =>
      have ha := rd_ok (hb a (by simp))
      have hc := rd_ok (hb c (by simp))
      have he := rd_ok (hb e (by simp))
      have hds := hb d (by simp)
      have i0 : gxIdx [a, b, c, d, e] 0 = some a := rfl
      have i1 : gxIdx [a, b, c, d, e] 1 = some b := rfl
      have i2 : gxIdx [a, b, c, d, e] 2 = some c := rfl
      have s2 : gxSlice [a, b, c, d, e] 2 5 = some [c, d, e] := rfl
      have s3 : gxSlice [a, b, c, d, e] 3 5 = some [d, e] := rfl
      have l1 : (([a, b, c, d, e].length : Nat) : Int) = 5 := rfl
      simp only [l1, cond_false, show decide ((5 : Int) < 3) = false by decide, show decide ((5 : Int) > 5) = false by decide, i0, i1, i2, s2, s3, ha, hc, Option.bind_some, hg]
      cases decide (b = gst) with
      | true =>
        simp only [cond_false, cond_true, Option.bind_some, show ((([d, e] : List ByteArray).length : Int) == 0) = false by rfl, show decide ((([d, e] : List ByteArray).length : Int) > 2) = false by rfl, show gxIdx [d, e] 0 = some d by rfl, show gxIdx [d, e] 1 = some e by rfl, show ((([d, e] : List ByteArray).length : Int) == 2) = true by rfl, he]
        exact s_fin ⟨(rd a).1, (rd c).1, d, (rd e).1⟩ s (by simp only; omega)
      | false => rfl
    | a :: b :: c :: d :: e :: f :: r, _ =>
      have l1 : decide (((a :: b :: c :: d :: e :: f :: r).length : Int) < 3) = false := by
        simp only [List.length_cons, decide_eq_false_iff_not]
        omega
      have l2 : decide (((a :: b :: c :: d :: e :: f :: r).length : Int) > 5) = true := by
        simp only [List.length_cons, decide_eq_true_eq]
        omega
      simp only [cond_false, l1, l2, Option.bind_some, cond_true]
      rfl
def zz : ByteArray := ByteArray.mk #[48]
def iQ (s a c d e : ByteArray) : Event × Bool := bif (gxParse a).2 && ((gxParse c).2 && (gxParse e).2) then resP ⟨(gxParse a).1, (gxParse c).1, d, (gxParse e).1⟩ s else (zE, false)
def iP (s : ByteArray) (ps : List ByteArray) : Event × Bool := match ps with
  | [a, _, c, d] => iQ s a c d zz
  | [a, _, c, d, e] => iQ s a c d e
  | _ => (zE, false)
theorem i_tail (s a b c d e : ByteArray) (hd : d.size ≤ 1048576) : (Option.bind (gxIdx [a, b, c, d, e] 0) fun y1318 =>
  Option.bind (M.i_ParseInt y1318) fun r1320 =>
  Option.bind (gxIdx [a, b, c, d, e] 2) fun y1324 =>
  Option.bind (M.i_ParseInt y1324) fun r1325 =>
  Option.bind (gxIdx [a, b, c, d, e] 4) fun y1329 =>
  Option.bind (M.i_ParseInt y1329) fun r1330 =>
  Option.bind (gxIdx [a, b, c, d, e] 3) fun y1334 =>
  Option.bind (α := Bool) (bif !r1320.2 then some true
  else (bif !r1325.2 then some true
  else (bif !r1330.2 then some true
  else (Option.bind (M.i_IsEvent (⟨r1320.1, r1325.1, y1334, r1330.1⟩ : Event)) fun r1359 =>
  bif !r1359 then some true
  else (Option.bind (M.i_eventText (⟨r1320.1, r1325.1, y1334, r1330.1⟩ : Event)) fun r1364 =>
  some (!(r1364.toList == s.toList))))))) fun o1353 =>
  bif o1353 then some ((⟨0, 0, ByteArray.empty, 0⟩ : Event), false)
  else some ((⟨r1320.1, r1325.1, y1334, r1330.1⟩ : Event), true)) = some (iQ s a c d e) := by
  have i0 : gxIdx [a, b, c, d, e] 0 = some a := rfl
  have i2 : gxIdx [a, b, c, d, e] 2 = some c := rfl
  have i3 : gxIdx [a, b, c, d, e] 3 = some d := rfl
  have i4 : gxIdx [a, b, c, d, e] 4 = some e := rfl
  have hp : ∀ x, M.i_ParseInt x = some (gxParse x) := fun _ => rfl
  simp only [i0, i2, i3, i4, hp, Option.bind_some]
  unfold iQ
  cases (gxParse a).2 with
  | false => rfl
  | true =>
    cases (gxParse c).2 with
    | false => rfl
    | true =>
      cases (gxParse e).2 with
      | false => rfl
      | true =>
        simp only [Bool.not_true, cond_false, Bool.and_self, cond_true]
        exact i_fin ⟨(gxParse a).1, (gxParse c).1, d, (gxParse e).1⟩ s hd
theorem repl_len (s : List UInt8) : (Lib.replace s oldM newM 1).length ≤ s.length + 9 := by
  have e : (oldM == newM) = false := by decide
  unfold Lib.replace
  rw [e]
  simp only [Bool.false_eq_true, if_false]
  have hk : Lib.replaceNum s oldM 1 = 0 ∨ Lib.replaceNum s oldM 1 = 1 := by
    unfold Lib.replaceNum
    split
    · rename_i h
      left
      omega
    · right
      rfl
  rcases hk with h | h
  · rw [h]
    unfold Lib.replaceK
    omega
  · rw [h]
    unfold Lib.replaceK
    split
    · omega
    · unfold Lib.replaceK
      have hn : newM.length = 9 := rfl
      simp only [List.length_append, List.length_take, List.length_drop, hn]
      have ho : oldM.length = 9 := rfl
      omega
theorem i_parse (s : ByteArray) (hs : s.size ≤ 100000) : M.i_ParseEvent s = some (iP s ((cutL (Lib.replace s.data.toList oldM newM 1)).map mkB)) := by
  unfold M.i_ParseEvent
  have hl := repl_len s.data.toList
  rw [size_list] at hl
  rw [i_repl s (by omega), Option.bind_some, i_split _ (by rw [ba_size, data_mkB]; omega), Option.bind_some, data_mkB]
  have hb := cut_size (s := s) (l := Lib.replace s.data.toList oldM newM 1) (n := 1000000) (by omega)
  generalize (cutL (Lib.replace s.data.toList oldM newM 1)).map mkB = ps at hb ⊢
  unfold iP
  match ps, hb with
  | [], _ => rfl
  | [a], _ => rfl
  | [a, b], _ => rfl
  | [a, b, c], _ => rfl
  | [a, b, c, d], hb =>
    have h4 : ((([a, b, c, d] : List ByteArray).length : Int) == 4) = true := rfl
    have ha : gxApp 16 [a, b, c, d] [ByteArray.mk #[48]] = some [a, b, c, d, zz] := rfl
    have h5 : ((([a, b, c, d, zz] : List ByteArray).length : Int) != 5) = false := rfl
    simp only [h4, cond_true, ha, Option.bind_some, h5, cond_false]
    exact i_tail s a b c d zz (by have := hb d (by simp); omega)
  | [a, b, c, d, e], hb =>
    have h4 : ((([a, b, c, d, e] : List ByteArray).length : Int) == 4) = false := rfl
    have h5 : ((([a, b, c, d, e] : List ByteArray).length : Int) != 5) = false := rfl
    simp only [h4, cond_false, Option.bind_some, h5]
    exact i_tail s a b c d e (by have := hb d (by simp); omega)
  | a :: b :: c :: d :: e :: f :: r, _ =>
    have l1 : (((a :: b :: c :: d :: e :: f :: r).length : Int) == 4) = false := by
      rw [beq_eq_false_iff_ne]
      simp only [List.length_cons]
      omega
    have l2 : (((a :: b :: c :: d :: e :: f :: r).length : Int) != 5) = true := by
      rw [bne_iff_ne]
      simp only [List.length_cons]
      omega
    simp only [cond_false, l1, l2, Option.bind_some, cond_true]
    rfl

end Go.Proofs.YtimffallbjpcjaaGreatDoor
