/- Whatever it is given, laws.FnExactIsEvent returns true and leaves what was there as it was. -/
import Derived.Test.YtfcebglkdfadcaaRows
import Derived.Test.YtfcebglkdfadcaaC1
import Derived.Test.YtfcebglkdfadcaaL1
import Derived.Test.YtfcebglkdfadcaaGxR
import Derived.WalkKit
import Derived.ProofKit
import Derived.OpenShut
import Derived.ShutString
set_option linter.unusedVariables false
set_option linter.unusedSimpArgs false
set_option maxHeartbeats 4000000
namespace Go.Proofs.Ytfcebglkdfadcaa.fnExactIsEvent
open Go.ChangeShapes Go.WideShapes Go.ChangeAt Go.RowKit Go.Gx Go.Proofs.Ytfcebglkdfadcaa
open Go.ChangeMaps (open_string shut_string)
theorem array4 {α : Type} {cs : Array α} (h : cs.size = 4) : ∃ c0 c1 c2 c3, cs = #[c0, c1, c2, c3] := by
  obtain ⟨l⟩ := cs
  match l, h with
  | [c0, c1, c2, c3], _ => exact ⟨c0, c1, c2, c3, rfl⟩
theorem own : ownKnob Try.prog.godebug = none := by kernel_rfl
theorem laidOut : laidOutB Try.prog = true := by kernel_rfl
set_option maxRecDepth 100000 in
theorem lifted (os : Os) (started : os.Started) (H : Type) (enc : TypeId × Value → H) :
    ReturnsInHanded {} Try.checked os 3 .any (Rows.fnExactIsEventSpec.pre6 enc Try.prog Try.f3 Rows.fnExactIsEventRow.domain false) (Rows.fnExactIsEventSpec.post enc Try.prog Try.f3 false true false false) := by
  refine returnsInHanded_of_change (C := Try.checked) own started (by kernel_rfl) Try.func3
    (ChangeSpec.witness6 (enc := enc) (C := Try.checked) false ⟨#[], #[.agg #[.int .i64 0, .int .i64 0, .string ByteArray.empty, .int .i64 0]], []⟩ 8 (by kernel_rfl) (by kernel_rfl) (by kernel_rfl) (by kernel_rfl)) ?_
  intro W base args ds gs before hval0 hW hcnd _
  have hval : ∀ (j : Nat) t v, Try.f3.params[j]? = some t → args[j]? = some v → Value.okWide Try.prog W .any base t v := hval0
  have hW' := hW
  obtain ⟨p, q, hA0, hV, rfl, hfz, hnd⟩ := hW
  have hA : DataW.TrodAll enc Try.prog W 0 (fun _ => true) true Try.f3.params.toList args.toList ds p := hA0
  rw [Try.params3] at hA hval
  obtain ⟨v0, vs0, d0, ds0, p0, q0, hargs, rfl, rfl, h0, r0⟩ := trodAll_cons hA
  obtain ⟨rfl, rfl, rfl⟩ := trodAll_nil r0
  obtain rfl : args = #[v0] := by cases args; simp_all
  obtain ⟨rfl, rfl⟩ := trodVars_none hV
  have k0 := h0
  have lt0 : ∀ x ∈ p0, x.block < W.heap.size := by obtain ⟨m, hm⟩ := k0; exact DataW.trod_lt m _ _ _ hm
  obtain ⟨fu0, hf0⟩ := h0
  obtain ⟨cs0, rfl, hsz0⟩ := okWide_struct Try.underlying23 (hval 0 23 v0 rfl rfl)
  obtain ⟨x1, x2, x3, x4, rfl⟩ := array4 (hsz0.trans (show Try.prog.cellsOf 23 = 4 by kernel_rfl))
  replace hf0 : DataW.trod enc Try.prog W 0 (fun _ => true) true fu0 23 [x1, x2, x3, x4] = some (d0, p0) := hf0
  obtain ⟨m5, hfs6⟩ := open_fields Try.underlying23 hf0
  obtain ⟨z7, hz8⟩ := field_of hfs6 0 _ rfl 3 [x1] rfl (by kernel_rfl)
  obtain ⟨n9, e10, _, wf11⟩ := DataW.trod_int Try.underlying3 hz8
  obtain rfl : x1 = .int .i64 n9 := by simpa using e10
  obtain ⟨z12, hz13⟩ := field_of hfs6 1 _ rfl 3 [x2] rfl (by kernel_rfl)
  obtain ⟨n14, e15, _, wf16⟩ := DataW.trod_int Try.underlying3 hz13
  obtain rfl : x2 = .int .i64 n14 := by simpa using e15
  obtain ⟨z17, hz18⟩ := field_of hfs6 2 _ rfl 9 [x3] rfl (by kernel_rfl)
  obtain ⟨n19, e20, _, wf21⟩ := DataW.trod_string Try.underlying9 hz18
  obtain rfl : x3 = .string n19 := by simpa using e20
  obtain ⟨z22, hz23⟩ := field_of hfs6 3 _ rfl 3 [x4] rfl (by kernel_rfl)
  obtain ⟨n24, e25, _, wf26⟩ := DataW.trod_int Try.underlying3 hz23
  obtain rfl : x4 = .int .i64 n24 := by simpa using e25
  clear hA0 hval0
  refine (Calls.mono (c_l_FnExactIsEvent W (⟨n9, n14, n19, n24⟩ : Event) (plain_IsEvent (⟨n9, n14, n19, n24⟩ : Event) ⟨(wf_i64 wf11), (wf_i64 wf16), wf21, (wf_i64 wf26)⟩))) fun e W' hh => ?_
  obtain ⟨he, hM⟩ := hh
  subst he
  have bel := hM.below
  exact ⟨_, rfl, _, _, _, [], _, [], hW', trodAll_mk1 (shut_bool Try.underlying4 _), (trodAll_cons_mk (Below.trod laidOut (by kernel_rfl) (of_decide_eq_true (by kernel_rfl)) k0 bel lt0) trodAll_mk0), rfl, bel.frame _, fun h => by cases h⟩
theorem over : Rows.fnExactIsEventRow.holds Try.pinned (OpenSpec.ofChange Rows.fnExactIsEventSpec) :=
  OpenClaim.holds_of_wide 3 Try.f3 rfl rfl rfl rfl rfl rfl rfl ⟨rfl, rfl, rfl, rfl, rfl⟩ rfl rfl rfl rfl rfl (by kernel_rfl) Try.func3 (by kernel_rfl)
    (of_decide_eq_true (by kernel_rfl)) (by unfold Func.isWrapper; first | (rw [if_pos (by decide +kernel)]; kernel_rfl) | (rw [if_neg (by decide +kernel)]; exact ⟨rfl, rfl⟩))
    (fun os started H enc _ => lifted os started H enc)
/-- The statement. -/
theorem proved : Rows.FnExactIsEventSaid := over
#print axioms proved
end Go.Proofs.Ytfcebglkdfadcaa.fnExactIsEvent
