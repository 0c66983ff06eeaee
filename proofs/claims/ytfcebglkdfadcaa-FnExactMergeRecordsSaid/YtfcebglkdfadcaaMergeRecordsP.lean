/- Whatever it is given, laws.FnExactMergeRecords returns true and leaves what was there as it was. -/
import Derived.Test.YtfcebglkdfadcaaRows
import Derived.Test.YtfcebglkdfadcaaC4
import Derived.Test.YtfcebglkdfadcaaK4
import Derived.Test.YtfcebglkdfadcaaGxR
import Derived.WalkKit
import Derived.ProofKit
import Derived.OpenShut
import Derived.ShutString
set_option linter.unusedVariables false
set_option linter.unusedSimpArgs false
set_option maxHeartbeats 4000000
namespace Go.Proofs.Ytfcebglkdfadcaa.fnExactMergeRecords
open Go.ChangeShapes Go.WideShapes Go.ChangeAt Go.RowKit Go.Gx Go.Proofs.Ytfcebglkdfadcaa
open Go.ChangeMaps (open_string shut_string)
theorem list23 {α : Type} {l : List α} (h : l.length = 4) : ∃ c0 c1 c2 c3, l = [c0, c1, c2, c3] := by
  match l, h with
  | [c0, c1, c2, c3], _ => exact ⟨c0, c1, c2, c3, rfl⟩
theorem reads23 : ReadsAs Try.prog 23 encEvent okEvent := by
  refine ⟨by kernel_rfl, fun H enc w base spare held fuel cs y h => ?_⟩
  obtain ⟨c0, c1, c2, c3, rfl⟩ := list23 ((trod_len Try.underlying23 h).trans (show Try.prog.cellsOf 23 = 4 by kernel_rfl))
  obtain ⟨m23, hfs24⟩ := open_fields Try.underlying23 h
  obtain ⟨z25, hz26⟩ := field_of hfs24 0 _ rfl 3 [c0] rfl (by kernel_rfl)
  obtain ⟨n27, e28, _, wf29⟩ := DataW.trod_int Try.underlying3 hz26
  obtain rfl : c0 = .int .i64 n27 := by simpa using e28
  obtain ⟨z30, hz31⟩ := field_of hfs24 1 _ rfl 3 [c1] rfl (by kernel_rfl)
  obtain ⟨n32, e33, _, wf34⟩ := DataW.trod_int Try.underlying3 hz31
  obtain rfl : c1 = .int .i64 n32 := by simpa using e33
  obtain ⟨z35, hz36⟩ := field_of hfs24 2 _ rfl 9 [c2] rfl (by kernel_rfl)
  obtain ⟨n37, e38, _, wf39⟩ := DataW.trod_string Try.underlying9 hz36
  obtain rfl : c2 = .string n37 := by simpa using e38
  obtain ⟨z40, hz41⟩ := field_of hfs24 3 _ rfl 3 [c3] rfl (by kernel_rfl)
  obtain ⟨n42, e43, _, wf44⟩ := DataW.trod_int Try.underlying3 hz41
  obtain rfl : c3 = .int .i64 n42 := by simpa using e43
  exact ⟨(⟨n27, n32, n37, n42⟩ : Event), rfl, ⟨(wf_i64 wf29), (wf_i64 wf34), wf39, (wf_i64 wf44)⟩⟩
theorem own : ownKnob Try.prog.godebug = none := by kernel_rfl
theorem laidOut : laidOutB Try.prog = true := by kernel_rfl
set_option maxRecDepth 100000 in
theorem lifted (os : Os) (started : os.Started) (H : Type) (enc : TypeId × Value → H) :
    ReturnsInHanded {} Try.checked os 10 .any (Rows.fnExactMergeRecordsSpec.pre6 enc Try.prog Try.f10 Rows.fnExactMergeRecordsRow.domain false) (Rows.fnExactMergeRecordsSpec.post enc Try.prog Try.f10 false true false false) := by
  refine returnsInHanded_of_change (C := Try.checked) own started (by kernel_rfl) Try.func10
    (ChangeSpec.witness6 (enc := enc) (C := Try.checked) false ⟨#[], #[.slice none 0 0, .slice none 0 0], []⟩ 8 (by kernel_rfl) (by kernel_rfl) (by kernel_rfl) (by kernel_rfl)) ?_
  intro W base args ds gs before hval0 hW hcnd _
  have hval : ∀ (j : Nat) t v, Try.f10.params[j]? = some t → args[j]? = some v → Value.okWide Try.prog W .any base t v := hval0
  have hW' := hW
  obtain ⟨p, q, hA0, hV, rfl, hfz, hnd⟩ := hW
  have hA : DataW.TrodAll enc Try.prog W 0 (fun _ => true) true Try.f10.params.toList args.toList ds p := hA0
  rw [Try.params10] at hA hval
  obtain ⟨v0, vs0, d0, ds0, p0, q0, hargs, rfl, rfl, h0, r0⟩ := trodAll_cons hA
  obtain ⟨v1, vs1, d1, ds1, p1, q1, rfl, rfl, rfl, h1, r1⟩ := trodAll_cons r0
  obtain ⟨rfl, rfl, rfl⟩ := trodAll_nil r1
  obtain rfl : args = #[v0, v1] := by cases args; simp_all
  obtain ⟨rfl, rfl⟩ := trodVars_none hV
  have k0 := h0
  have lt0 : ∀ x ∈ p0, x.block < W.heap.size := by obtain ⟨m, hm⟩ := k0; exact DataW.trod_lt m _ _ _ hm
  obtain ⟨fu0, hf0⟩ := h0
  obtain ⟨a2, l3, c4, rfl⟩ := okWide_slice Try.underlying29 (hval 0 29 v0 rfl rfl)
  obtain ⟨p5, c6, xs7, e8, rd9, le10, ok11⟩ := open_slice reads23 (by decide) Try.underlying29 hf0
  simp only [Value.cells, List.cons.injEq, Value.slice.injEq, and_true] at e8
  obtain ⟨rfl, rfl, rfl⟩ := e8
  have k1 := h1
  have lt1 : ∀ x ∈ p1, x.block < W.heap.size := by obtain ⟨m, hm⟩ := k1; exact DataW.trod_lt m _ _ _ hm
  obtain ⟨fu1, hf1⟩ := h1
  obtain ⟨a13, l14, c15, rfl⟩ := okWide_slice Try.underlying29 (hval 1 29 v1 rfl rfl)
  obtain ⟨p16, c17, xs18, e19, rd20, le21, ok22⟩ := open_slice reads23 (by decide) Try.underlying29 hf1
  simp only [Value.cells, List.cons.injEq, Value.slice.injEq, and_true] at e19
  obtain ⟨rfl, rfl, rfl⟩ := e19
  clear hA0 hval0
  refine (Calls.mono (c_l_FnExactMergeRecords W xs7 a2 c4 rd9 xs18 a13 c15 rd20 (plain_MergeRecords xs7 xs18 ⟨le10, ok11⟩ ⟨le21, ok22⟩))) fun e W' hh => ?_
  obtain ⟨he, hM⟩ := hh
  subst he
  have bel := hM.below
  exact ⟨_, rfl, _, _, _, [], _, [], hW', trodAll_mk1 (shut_bool Try.underlying4 _), (trodAll_cons_mk (Below.trod laidOut (by kernel_rfl) (of_decide_eq_true (by kernel_rfl)) k0 bel lt0) (trodAll_cons_mk (Below.trod laidOut (by kernel_rfl) (of_decide_eq_true (by kernel_rfl)) k1 bel lt1) trodAll_mk0)), rfl, bel.frame _, fun h => by cases h⟩
theorem over : Rows.fnExactMergeRecordsRow.holds Try.pinned (OpenSpec.ofChange Rows.fnExactMergeRecordsSpec) :=
  OpenClaim.holds_of_wide 10 Try.f10 rfl rfl rfl rfl rfl rfl rfl ⟨rfl, rfl, rfl, rfl, rfl⟩ rfl rfl rfl rfl rfl (by kernel_rfl) Try.func10 (by kernel_rfl)
    (of_decide_eq_true (by kernel_rfl)) (by unfold Func.isWrapper; first | (rw [if_pos (by decide +kernel)]; kernel_rfl) | (rw [if_neg (by decide +kernel)]; exact ⟨rfl, rfl⟩))
    (fun os started H enc _ => lifted os started H enc)
/-- The statement. -/
theorem proved : Rows.FnExactMergeRecordsSaid := over
#print axioms proved
end Go.Proofs.Ytfcebglkdfadcaa.fnExactMergeRecords
