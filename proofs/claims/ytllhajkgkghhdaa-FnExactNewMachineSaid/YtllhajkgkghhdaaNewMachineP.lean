/- Whatever it is given, laws.FnExactNewMachine returns true and leaves what was there as it was. -/
import Derived.Test.YtllhajkgkghhdaaRows
import Derived.Test.YtllhajkgkghhdaaC2
import Derived.Test.YtllhajkgkghhdaaL1
import Derived.Test.YtllhajkgkghhdaaGxR
import Derived.WalkKit
import Derived.ProofKit
import Derived.OpenShut
import Derived.ShutString
set_option linter.unusedVariables false
set_option linter.unusedSimpArgs false
set_option maxHeartbeats 4000000
namespace Go.Proofs.Ytllhajkgkghhdaa.fnExactNewMachine
open Go.ChangeShapes Go.WideShapes Go.ChangeAt Go.RowKit Go.Gx Go.Proofs.Ytllhajkgkghhdaa
open Go.ChangeMaps (open_string shut_string)
theorem list50 {α : Type} {l : List α} (h : l.length = 2) : ∃ c0 c1, l = [c0, c1] := by
  match l, h with
  | [c0, c1], _ => exact ⟨c0, c1, rfl⟩
theorem reads50 : ReadsAs Try.prog 50 encRoute okRoute := by
  refine ⟨by kernel_rfl, fun H enc w base spare held fuel cs y h => ?_⟩
  obtain ⟨c0, c1, rfl⟩ := list50 ((trod_len Try.underlying50 h).trans (show Try.prog.cellsOf 50 = 2 by kernel_rfl))
  obtain ⟨m17, hfs18⟩ := open_fields Try.underlying50 h
  obtain ⟨z19, hz20⟩ := field_of hfs18 0 _ rfl 3 [c0] rfl (by kernel_rfl)
  obtain ⟨n21, e22, _, wf23⟩ := DataW.trod_int Try.underlying3 hz20
  obtain rfl : c0 = .int .i64 n21 := by simpa using e22
  obtain ⟨z24, hz25⟩ := field_of hfs18 1 _ rfl 3 [c1] rfl (by kernel_rfl)
  obtain ⟨n26, e27, _, wf28⟩ := DataW.trod_int Try.underlying3 hz25
  obtain rfl : c1 = .int .i64 n26 := by simpa using e27
  exact ⟨(⟨n21, n26⟩ : Route), rfl, ⟨(wf_i64 wf23), (wf_i64 wf28)⟩⟩
theorem own : ownKnob Try.prog.godebug = none := by kernel_rfl
theorem laidOut : laidOutB Try.prog = true := by kernel_rfl
set_option maxRecDepth 100000 in
theorem lifted (os : Os) (started : os.Started) (H : Type) (enc : TypeId × Value → H) :
    ReturnsInHanded {} Try.checked os 3 .any (Rows.fnExactNewMachineSpec.pre6 enc Try.prog Try.f3 Rows.fnExactNewMachineRow.domain false) (Rows.fnExactNewMachineSpec.post enc Try.prog Try.f3 false true false false) := by
  refine returnsInHanded_of_change (C := Try.checked) own started (by kernel_rfl) Try.func3
    (ChangeSpec.witness6 (enc := enc) (C := Try.checked) false ⟨#[], #[.slice none 0 0, .int .i64 0], []⟩ 8 (by kernel_rfl) (by kernel_rfl) (by kernel_rfl) (by kernel_rfl)) ?_
  intro W base args ds gs before hval0 hW hcnd _
  have hval : ∀ (j : Nat) t v, Try.f3.params[j]? = some t → args[j]? = some v → Value.okWide Try.prog W .any base t v := hval0
  have hW' := hW
  obtain ⟨p, q, hA0, hV, rfl, hfz, hnd⟩ := hW
  have hA : DataW.TrodAll enc Try.prog W 0 (fun _ => true) true Try.f3.params.toList args.toList ds p := hA0
  rw [Try.params3] at hA hval
  obtain ⟨v0, vs0, d0, ds0, p0, q0, hargs, rfl, rfl, h0, r0⟩ := trodAll_cons hA
  obtain ⟨v1, vs1, d1, ds1, p1, q1, rfl, rfl, rfl, h1, r1⟩ := trodAll_cons r0
  obtain ⟨rfl, rfl, rfl⟩ := trodAll_nil r1
  obtain rfl : args = #[v0, v1] := by cases args; simp_all
  obtain ⟨rfl, rfl⟩ := trodVars_none hV
  have k0 := h0
  have lt0 : ∀ x ∈ p0, x.block < W.heap.size := by obtain ⟨m, hm⟩ := k0; exact DataW.trod_lt m _ _ _ hm
  obtain ⟨fu0, hf0⟩ := h0
  obtain ⟨a2, l3, c4, rfl⟩ := okWide_slice Try.underlying22 (hval 0 22 v0 rfl rfl)
  obtain ⟨p5, c6, xs7, e8, rd9, le10, ok11⟩ := open_slice reads50 (by decide) Try.underlying22 hf0
  simp only [Value.cells, List.cons.injEq, Value.slice.injEq, and_true] at e8
  obtain ⟨rfl, rfl, rfl⟩ := e8
  have k1 := h1
  have lt1 : ∀ x ∈ p1, x.block < W.heap.size := by obtain ⟨m, hm⟩ := k1; exact DataW.trod_lt m _ _ _ hm
  obtain ⟨fu1, hf1⟩ := h1
  obtain ⟨n13, rfl⟩ := okWide_int Try.underlying3 (hval 1 3 v1 rfl rfl)
  obtain ⟨n14, e15, _, wf16⟩ := DataW.trod_int Try.underlying3 hf1
  obtain rfl : n13 = n14 := by simpa [Value.cells] using e15
  clear hA0 hval0
  refine (Calls.mono (c_l_FnExactNewMachine W xs7 a2 c4 rd9 n13 (plain_NewMachine xs7 n13 ⟨le10, ok11⟩ (wf_i64 wf16)))) fun e W' hh => ?_
  obtain ⟨he, hM⟩ := hh
  subst he
  have bel := hM.below
  exact ⟨_, rfl, _, _, _, [], _, [], hW', trodAll_mk1 (shut_bool Try.underlying4 _), (trodAll_cons_mk (Below.trod laidOut (by kernel_rfl) (of_decide_eq_true (by kernel_rfl)) k0 bel lt0) (trodAll_cons_mk (Below.trod laidOut (by kernel_rfl) (of_decide_eq_true (by kernel_rfl)) k1 bel lt1) trodAll_mk0)), rfl, bel.frame _, fun h => by cases h⟩
theorem over : Rows.fnExactNewMachineRow.holds Try.pinned (OpenSpec.ofChange Rows.fnExactNewMachineSpec) :=
  OpenClaim.holds_of_wide 3 Try.f3 rfl rfl rfl rfl rfl rfl rfl ⟨rfl, rfl, rfl, rfl, rfl⟩ rfl rfl rfl rfl rfl (by kernel_rfl) Try.func3 (by kernel_rfl)
    (of_decide_eq_true (by kernel_rfl)) (by unfold Func.isWrapper; first | (rw [if_pos (by decide +kernel)]; kernel_rfl) | (rw [if_neg (by decide +kernel)]; exact ⟨rfl, rfl⟩))
    (fun os started H enc _ => lifted os started H enc)
/-- The statement. -/
theorem proved : Rows.FnExactNewMachineSaid := over
#print axioms proved
end Go.Proofs.Ytllhajkgkghhdaa.fnExactNewMachine
