/- Whatever it is given, laws.FnExactSplitAccess returns true and leaves what was there as it was. -/
import Derived.Test.YtphinfkojhecdaaRows
import Derived.Test.YtphinfkojhecdaaC3
import Derived.Test.YtphinfkojhecdaaL5
import Derived.Test.YtphinfkojhecdaaGxR
import Derived.WalkKit
import Derived.ProofKit
import Derived.OpenShut
import Derived.ShutString
set_option linter.unusedVariables false
set_option linter.unusedSimpArgs false
set_option maxHeartbeats 4000000
namespace Go.Proofs.Ytphinfkojhecdaa.fnExactSplitAccess
open Go.ChangeShapes Go.WideShapes Go.ChangeAt Go.RowKit Go.Gx Go.Proofs.Ytphinfkojhecdaa
open Go.ChangeMaps (open_string shut_string)
theorem array3 {α : Type} {cs : Array α} (h : cs.size = 3) : ∃ c0 c1 c2, cs = #[c0, c1, c2] := by
  obtain ⟨l⟩ := cs
  match l, h with
  | [c0, c1, c2], _ => exact ⟨c0, c1, c2, rfl⟩
theorem list56 {α : Type} {l : List α} (h : l.length = 4) : ∃ c0 c1 c2 c3, l = [c0, c1, c2, c3] := by
  match l, h with
  | [c0, c1, c2, c3], _ => exact ⟨c0, c1, c2, c3, rfl⟩
theorem reads56 : ReadsAs Try.prog 56 encRegion okRegion := by
  refine ⟨by kernel_rfl, fun H enc w base spare held fuel cs y h => ?_⟩
  obtain ⟨c0, c1, c2, c3, rfl⟩ := list56 ((trod_len Try.underlying56 h).trans (show Try.prog.cellsOf 56 = 4 by kernel_rfl))
  obtain ⟨m31, hfs32⟩ := open_fields Try.underlying56 h
  obtain ⟨z33, hz34⟩ := field_of hfs32 0 _ rfl 3 [c0] rfl (by kernel_rfl)
  obtain ⟨n35, e36, _, wf37⟩ := DataW.trod_int Try.underlying3 hz34
  obtain rfl : c0 = .int .i64 n35 := by simpa using e36
  obtain ⟨z38, hz39⟩ := field_of hfs32 1 _ rfl 3 [c1] rfl (by kernel_rfl)
  obtain ⟨n40, e41, _, wf42⟩ := DataW.trod_int Try.underlying3 hz39
  obtain rfl : c1 = .int .i64 n40 := by simpa using e41
  obtain ⟨z43, hz44⟩ := field_of hfs32 2 _ rfl 3 [c2] rfl (by kernel_rfl)
  obtain ⟨n45, e46, _, wf47⟩ := DataW.trod_int Try.underlying3 hz44
  obtain rfl : c2 = .int .i64 n45 := by simpa using e46
  obtain ⟨z48, hz49⟩ := field_of hfs32 3 _ rfl 3 [c3] rfl (by kernel_rfl)
  obtain ⟨n50, e51, _, wf52⟩ := DataW.trod_int Try.underlying3 hz49
  obtain rfl : c3 = .int .i64 n50 := by simpa using e51
  exact ⟨(⟨n35, n40, n45, n50⟩ : Region), rfl, ⟨(wf_i64 wf37), (wf_i64 wf42), (wf_i64 wf47), (wf_i64 wf52)⟩⟩
theorem own : ownKnob Try.prog.godebug = none := by kernel_rfl
theorem laidOut : laidOutB Try.prog = true := by kernel_rfl
set_option maxRecDepth 100000 in
theorem lifted (os : Os) (started : os.Started) (H : Type) (enc : TypeId × Value → H) :
    ReturnsInHanded {} Try.checked os 6 .any (Rows.fnExactSplitAccessSpec.pre6 enc Try.prog Try.f6 Rows.fnExactSplitAccessRow.domain false) (Rows.fnExactSplitAccessSpec.post enc Try.prog Try.f6 false true false false) := by
  refine returnsInHanded_of_change (C := Try.checked) own started (by kernel_rfl) Try.func6
    (ChangeSpec.witness6 (enc := enc) (C := Try.checked) false ⟨#[], #[.slice none 0 0, .agg #[.int .i64 0, .int .i64 0, .bool false]], []⟩ 8 (by kernel_rfl) (by kernel_rfl) (by kernel_rfl) (by kernel_rfl)) ?_
  intro W base args ds gs before hval0 hW hcnd _
  have hval : ∀ (j : Nat) t v, Try.f6.params[j]? = some t → args[j]? = some v → Value.okWide Try.prog W .any base t v := hval0
  have hW' := hW
  obtain ⟨p, q, hA0, hV, rfl, hfz, hnd⟩ := hW
  have hA : DataW.TrodAll enc Try.prog W 0 (fun _ => true) true Try.f6.params.toList args.toList ds p := hA0
  rw [Try.params6] at hA hval
  obtain ⟨v0, vs0, d0, ds0, p0, q0, hargs, rfl, rfl, h0, r0⟩ := trodAll_cons hA
  obtain ⟨v1, vs1, d1, ds1, p1, q1, rfl, rfl, rfl, h1, r1⟩ := trodAll_cons r0
  obtain ⟨rfl, rfl, rfl⟩ := trodAll_nil r1
  obtain rfl : args = #[v0, v1] := by cases args; simp_all
  obtain ⟨rfl, rfl⟩ := trodVars_none hV
  have k0 := h0
  have lt0 : ∀ x ∈ p0, x.block < W.heap.size := by obtain ⟨m, hm⟩ := k0; exact DataW.trod_lt m _ _ _ hm
  obtain ⟨fu0, hf0⟩ := h0
  obtain ⟨a2, l3, c4, rfl⟩ := okWide_slice Try.underlying28 (hval 0 28 v0 rfl rfl)
  obtain ⟨p5, c6, xs7, e8, rd9, le10, ok11⟩ := open_slice reads56 (by decide) Try.underlying28 hf0
  simp only [Value.cells, List.cons.injEq, Value.slice.injEq, and_true] at e8
  obtain ⟨rfl, rfl, rfl⟩ := e8
  have k1 := h1
  have lt1 : ∀ x ∈ p1, x.block < W.heap.size := by obtain ⟨m, hm⟩ := k1; exact DataW.trod_lt m _ _ _ hm
  obtain ⟨fu1, hf1⟩ := h1
  obtain ⟨cs1, rfl, hsz1⟩ := okWide_struct Try.underlying30 (hval 1 30 v1 rfl rfl)
  obtain ⟨x12, x13, x14, rfl⟩ := array3 (hsz1.trans (show Try.prog.cellsOf 30 = 3 by kernel_rfl))
  replace hf1 : DataW.trod enc Try.prog W 0 (fun _ => true) true fu1 30 [x12, x13, x14] = some (d1, p1) := hf1
  obtain ⟨m15, hfs16⟩ := open_fields Try.underlying30 hf1
  obtain ⟨z17, hz18⟩ := field_of hfs16 0 _ rfl 3 [x12] rfl (by kernel_rfl)
  obtain ⟨n19, e20, _, wf21⟩ := DataW.trod_int Try.underlying3 hz18
  obtain rfl : x12 = .int .i64 n19 := by simpa using e20
  obtain ⟨z22, hz23⟩ := field_of hfs16 1 _ rfl 3 [x13] rfl (by kernel_rfl)
  obtain ⟨n24, e25, _, wf26⟩ := DataW.trod_int Try.underlying3 hz23
  obtain rfl : x13 = .int .i64 n24 := by simpa using e25
  obtain ⟨z27, hz28⟩ := field_of hfs16 2 _ rfl 4 [x14] rfl (by kernel_rfl)
  obtain ⟨n29, e30, _⟩ := DataW.trod_bool Try.underlying4 hz28
  obtain rfl : x14 = .bool n29 := by simpa using e30
  clear hA0 hval0
  refine (Calls.mono (c_l_FnExactSplitAccess W xs7 a2 c4 rd9 (⟨n19, n24, n29⟩ : Access) (plain_SplitAccess xs7 (⟨n19, n24, n29⟩ : Access) ⟨le10, ok11⟩ ⟨(wf_i64 wf21), (wf_i64 wf26), trivial⟩))) fun e W' hh => ?_
  obtain ⟨he, hM⟩ := hh
  subst he
  have bel := hM.below
  exact ⟨_, rfl, _, _, _, [], _, [], hW', trodAll_mk1 (shut_bool Try.underlying4 _), (trodAll_cons_mk (Below.trod laidOut (by kernel_rfl) (of_decide_eq_true (by kernel_rfl)) k0 bel lt0) (trodAll_cons_mk (Below.trod laidOut (by kernel_rfl) (of_decide_eq_true (by kernel_rfl)) k1 bel lt1) trodAll_mk0)), rfl, bel.frame _, fun h => by cases h⟩
theorem over : Rows.fnExactSplitAccessRow.holds Try.pinned (OpenSpec.ofChange Rows.fnExactSplitAccessSpec) :=
  OpenClaim.holds_of_wide 6 Try.f6 rfl rfl rfl rfl rfl rfl rfl ⟨rfl, rfl, rfl, rfl, rfl⟩ rfl rfl rfl rfl rfl (by kernel_rfl) Try.func6 (by kernel_rfl)
    (of_decide_eq_true (by kernel_rfl)) (by unfold Func.isWrapper; first | (rw [if_pos (by decide +kernel)]; kernel_rfl) | (rw [if_neg (by decide +kernel)]; exact ⟨rfl, rfl⟩))
    (fun os started H enc _ => lifted os started H enc)
/-- The statement. -/
theorem proved : Rows.FnExactSplitAccessSaid := over
#print axioms proved
end Go.Proofs.Ytphinfkojhecdaa.fnExactSplitAccess
