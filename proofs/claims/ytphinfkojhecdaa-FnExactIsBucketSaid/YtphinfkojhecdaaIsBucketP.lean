/- Whatever it is given, laws.FnExactIsBucket returns true and leaves what was there as it was. -/
import Derived.Test.YtphinfkojhecdaaRows
import Derived.Test.YtphinfkojhecdaaC1
import Derived.Test.YtphinfkojhecdaaL1
import Derived.Test.YtphinfkojhecdaaGxR
import Derived.WalkKit
import Derived.ProofKit
import Derived.OpenShut
import Derived.ShutString
set_option linter.unusedVariables false
set_option linter.unusedSimpArgs false
set_option maxHeartbeats 4000000
namespace Go.Proofs.Ytphinfkojhecdaa.fnExactIsBucket
open Go.ChangeShapes Go.WideShapes Go.ChangeAt Go.RowKit Go.Gx Go.Proofs.Ytphinfkojhecdaa
open Go.ChangeMaps (open_string shut_string)
theorem array5 {α : Type} {cs : Array α} (h : cs.size = 5) : ∃ c0 c1 c2 c3 c4, cs = #[c0, c1, c2, c3, c4] := by
  obtain ⟨l⟩ := cs
  match l, h with
  | [c0, c1, c2, c3, c4], _ => exact ⟨c0, c1, c2, c3, c4, rfl⟩
theorem own : ownKnob Try.prog.godebug = none := by kernel_rfl
theorem laidOut : laidOutB Try.prog = true := by kernel_rfl
set_option maxRecDepth 100000 in
theorem lifted (os : Os) (started : os.Started) (H : Type) (enc : TypeId × Value → H) :
    ReturnsInHanded {} Try.checked os 3 .any (Rows.fnExactIsBucketSpec.pre6 enc Try.prog Try.f3 Rows.fnExactIsBucketRow.domain false) (Rows.fnExactIsBucketSpec.post enc Try.prog Try.f3 false true false false) := by
  refine returnsInHanded_of_change (C := Try.checked) own started (by kernel_rfl) Try.func3
    (ChangeSpec.witness6 (enc := enc) (C := Try.checked) false ⟨#[], #[.agg #[.int .i64 0, .int .i64 0, .int .i64 0, .int .i64 0, .int .i64 0]], []⟩ 8 (by kernel_rfl) (by kernel_rfl) (by kernel_rfl) (by kernel_rfl)) ?_
  intro W base args ds gs before hval0 hW hcnd _
  have hval : ∀ (j : Nat) t v, Try.f3.params[j]? = some t → args[j]? = some v → Value.okWide Try.prog W .any base t v := hval0
  have hW' := hW
  obtain ⟨p, q, hA0, hV, rfl, hfz, hnd⟩ := hW
  have hA : DataW.TrodAll enc Try.prog W 0 (fun _ => true) true Try.f3.params.toList args.toList ds p := hA0
  rw [Try.params3] at hA hval
  obtain ⟨v0, vs0, d0, ds0, p0, q0, hargs, rfl, rfl, h0, r0⟩ := trodAll_cons hA
  obtain ⟨rfl, rfl, rfl⟩ := trodAll_nil r0
  obtain rfl : args = #[v0] := by cases args; simp_all
  obtain ⟨rfl, rfl⟩ := trodVars_none hV
  have k0 := h0
  have lt0 : ∀ x ∈ p0, x.block < W.heap.size := by obtain ⟨m, hm⟩ := k0; exact DataW.trod_lt m _ _ _ hm
  obtain ⟨fu0, hf0⟩ := h0
  obtain ⟨cs0, rfl, hsz0⟩ := okWide_struct Try.underlying23 (hval 0 23 v0 rfl rfl)
  obtain ⟨x1, x2, x3, x4, x5, rfl⟩ := array5 (hsz0.trans (show Try.prog.cellsOf 23 = 5 by kernel_rfl))
  replace hf0 : DataW.trod enc Try.prog W 0 (fun _ => true) true fu0 23 [x1, x2, x3, x4, x5] = some (d0, p0) := hf0
  obtain ⟨m6, hfs7⟩ := open_fields Try.underlying23 hf0
  obtain ⟨z8, hz9⟩ := field_of hfs7 0 _ rfl 3 [x1] rfl (by kernel_rfl)
  obtain ⟨n10, e11, _, wf12⟩ := DataW.trod_int Try.underlying3 hz9
  obtain rfl : x1 = .int .i64 n10 := by simpa using e11
  obtain ⟨z13, hz14⟩ := field_of hfs7 1 _ rfl 3 [x2] rfl (by kernel_rfl)
  obtain ⟨n15, e16, _, wf17⟩ := DataW.trod_int Try.underlying3 hz14
  obtain rfl : x2 = .int .i64 n15 := by simpa using e16
  obtain ⟨z18, hz19⟩ := field_of hfs7 2 _ rfl 3 [x3] rfl (by kernel_rfl)
  obtain ⟨n20, e21, _, wf22⟩ := DataW.trod_int Try.underlying3 hz19
  obtain rfl : x3 = .int .i64 n20 := by simpa using e21
  obtain ⟨z23, hz24⟩ := field_of hfs7 3 _ rfl 3 [x4] rfl (by kernel_rfl)
  obtain ⟨n25, e26, _, wf27⟩ := DataW.trod_int Try.underlying3 hz24
  obtain rfl : x4 = .int .i64 n25 := by simpa using e26
  obtain ⟨z28, hz29⟩ := field_of hfs7 4 _ rfl 3 [x5] rfl (by kernel_rfl)
  obtain ⟨n30, e31, _, wf32⟩ := DataW.trod_int Try.underlying3 hz29
  obtain rfl : x5 = .int .i64 n30 := by simpa using e31
  clear hA0 hval0
  refine (Calls.mono (c_l_FnExactIsBucket W (⟨n10, n15, n20, n25, n30⟩ : Bucket) (plain_IsBucket (⟨n10, n15, n20, n25, n30⟩ : Bucket) ⟨(wf_i64 wf12), (wf_i64 wf17), (wf_i64 wf22), (wf_i64 wf27), (wf_i64 wf32)⟩))) fun e W' hh => ?_
  obtain ⟨he, hM⟩ := hh
  subst he
  have bel := hM.below
  exact ⟨_, rfl, _, _, _, [], _, [], hW', trodAll_mk1 (shut_bool Try.underlying4 _), (trodAll_cons_mk (Below.trod laidOut (by kernel_rfl) (of_decide_eq_true (by kernel_rfl)) k0 bel lt0) trodAll_mk0), rfl, bel.frame _, fun h => by cases h⟩
theorem over : Rows.fnExactIsBucketRow.holds Try.pinned (OpenSpec.ofChange Rows.fnExactIsBucketSpec) :=
  OpenClaim.holds_of_wide 3 Try.f3 rfl rfl rfl rfl rfl rfl rfl ⟨rfl, rfl, rfl, rfl, rfl⟩ rfl rfl rfl rfl rfl (by kernel_rfl) Try.func3 (by kernel_rfl)
    (of_decide_eq_true (by kernel_rfl)) (by unfold Func.isWrapper; first | (rw [if_pos (by decide +kernel)]; kernel_rfl) | (rw [if_neg (by decide +kernel)]; exact ⟨rfl, rfl⟩))
    (fun os started H enc _ => lifted os started H enc)
/-- The statement. -/
theorem proved : Rows.FnExactIsBucketSaid := over
#print axioms proved
end Go.Proofs.Ytphinfkojhecdaa.fnExactIsBucket
