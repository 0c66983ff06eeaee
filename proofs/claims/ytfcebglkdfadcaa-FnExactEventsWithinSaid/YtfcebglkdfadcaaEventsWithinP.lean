/- Whatever it is given, laws.FnExactEventsWithin returns true and leaves what was there as it was. -/
import Derived.Test.YtfcebglkdfadcaaRows
import Derived.Test.YtfcebglkdfadcaaC2
import Derived.Test.YtfcebglkdfadcaaL2
import Derived.Test.YtfcebglkdfadcaaGxR
import Derived.WalkKit
import Derived.ProofKit
import Derived.OpenShut
import Derived.ShutString
set_option linter.unusedVariables false
set_option linter.unusedSimpArgs false
set_option maxHeartbeats 4000000
namespace Go.Proofs.Ytfcebglkdfadcaa.fnExactEventsWithin
open Go.ChangeShapes Go.WideShapes Go.ChangeAt Go.RowKit Go.Gx Go.Proofs.Ytfcebglkdfadcaa
open Go.ChangeMaps (open_string shut_string)
theorem list23 {α : Type} {l : List α} (h : l.length = 4) : ∃ c0 c1 c2 c3, l = [c0, c1, c2, c3] := by
  match l, h with
  | [c0, c1, c2, c3], _ => exact ⟨c0, c1, c2, c3, rfl⟩
theorem reads23 : ReadsAs Try.prog 23 encEvent okEvent := by
  refine ⟨by kernel_rfl, fun H enc w base spare held fuel cs y h => ?_⟩
  obtain ⟨c0, c1, c2, c3, rfl⟩ := list23 ((trod_len Try.underlying23 h).trans (show Try.prog.cellsOf 23 = 4 by kernel_rfl))
  obtain ⟨m22, hfs23⟩ := open_fields Try.underlying23 h
  obtain ⟨z24, hz25⟩ := field_of hfs23 0 _ rfl 3 [c0] rfl (by kernel_rfl)
  obtain ⟨n26, e27, _, wf28⟩ := DataW.trod_int Try.underlying3 hz25
  obtain rfl : c0 = .int .i64 n26 := by simpa using e27
  obtain ⟨z29, hz30⟩ := field_of hfs23 1 _ rfl 3 [c1] rfl (by kernel_rfl)
  obtain ⟨n31, e32, _, wf33⟩ := DataW.trod_int Try.underlying3 hz30
  obtain rfl : c1 = .int .i64 n31 := by simpa using e32
  obtain ⟨z34, hz35⟩ := field_of hfs23 2 _ rfl 9 [c2] rfl (by kernel_rfl)
  obtain ⟨n36, e37, _, wf38⟩ := DataW.trod_string Try.underlying9 hz35
  obtain rfl : c2 = .string n36 := by simpa using e37
  obtain ⟨z39, hz40⟩ := field_of hfs23 3 _ rfl 3 [c3] rfl (by kernel_rfl)
  obtain ⟨n41, e42, _, wf43⟩ := DataW.trod_int Try.underlying3 hz40
  obtain rfl : c3 = .int .i64 n41 := by simpa using e42
  exact ⟨(⟨n26, n31, n36, n41⟩ : Event), rfl, ⟨(wf_i64 wf28), (wf_i64 wf33), wf38, (wf_i64 wf43)⟩⟩
theorem own : ownKnob Try.prog.godebug = none := by kernel_rfl
theorem laidOut : laidOutB Try.prog = true := by kernel_rfl
set_option maxRecDepth 100000 in
theorem lifted (os : Os) (started : os.Started) (H : Type) (enc : TypeId × Value → H) :
    ReturnsInHanded {} Try.checked os 8 .any (Rows.fnExactEventsWithinSpec.pre6 enc Try.prog Try.f8 Rows.fnExactEventsWithinRow.domain false) (Rows.fnExactEventsWithinSpec.post enc Try.prog Try.f8 false true false false) := by
  refine returnsInHanded_of_change (C := Try.checked) own started (by kernel_rfl) Try.func8
    (ChangeSpec.witness6 (enc := enc) (C := Try.checked) false ⟨#[], #[.slice none 0 0, .int .i64 0, .int .i64 0], []⟩ 8 (by kernel_rfl) (by kernel_rfl) (by kernel_rfl) (by kernel_rfl)) ?_
  intro W base args ds gs before hval0 hW hcnd _
  have hval : ∀ (j : Nat) t v, Try.f8.params[j]? = some t → args[j]? = some v → Value.okWide Try.prog W .any base t v := hval0
  have hW' := hW
  obtain ⟨p, q, hA0, hV, rfl, hfz, hnd⟩ := hW
  have hA : DataW.TrodAll enc Try.prog W 0 (fun _ => true) true Try.f8.params.toList args.toList ds p := hA0
  rw [Try.params8] at hA hval
  obtain ⟨v0, vs0, d0, ds0, p0, q0, hargs, rfl, rfl, h0, r0⟩ := trodAll_cons hA
  obtain ⟨v1, vs1, d1, ds1, p1, q1, rfl, rfl, rfl, h1, r1⟩ := trodAll_cons r0
  obtain ⟨v2, vs2, d2, ds2, p2, q2, rfl, rfl, rfl, h2, r2⟩ := trodAll_cons r1
  obtain ⟨rfl, rfl, rfl⟩ := trodAll_nil r2
  obtain rfl : args = #[v0, v1, v2] := by cases args; simp_all
  obtain ⟨rfl, rfl⟩ := trodVars_none hV
  have k0 := h0
  have lt0 : ∀ x ∈ p0, x.block < W.heap.size := by obtain ⟨m, hm⟩ := k0; exact DataW.trod_lt m _ _ _ hm
  obtain ⟨fu0, hf0⟩ := h0
  obtain ⟨a2, l3, c4, rfl⟩ := okWide_slice Try.underlying29 (hval 0 29 v0 rfl rfl)
  obtain ⟨p5, c6, xs7, e8, rd9, le10, ok11⟩ := open_slice reads23 (by decide) Try.underlying29 hf0
  simp only [Value.cells, List.cons.injEq, Value.slice.injEq, and_true] at e8
  obtain ⟨rfl, rfl, rfl⟩ := e8
  have k1 := h1
  have lt1 : ∀ x ∈ p1, x.block < W.heap.size := by obtain ⟨m, hm⟩ := k1; exact DataW.trod_lt m _ _ _ hm
  obtain ⟨fu1, hf1⟩ := h1
  obtain ⟨n13, rfl⟩ := okWide_int Try.underlying3 (hval 1 3 v1 rfl rfl)
  obtain ⟨n14, e15, _, wf16⟩ := DataW.trod_int Try.underlying3 hf1
  obtain rfl : n13 = n14 := by simpa [Value.cells] using e15
  have k2 := h2
  have lt2 : ∀ x ∈ p2, x.block < W.heap.size := by obtain ⟨m, hm⟩ := k2; exact DataW.trod_lt m _ _ _ hm
  obtain ⟨fu2, hf2⟩ := h2
  obtain ⟨n18, rfl⟩ := okWide_int Try.underlying3 (hval 2 3 v2 rfl rfl)
  obtain ⟨n19, e20, _, wf21⟩ := DataW.trod_int Try.underlying3 hf2
  obtain rfl : n18 = n19 := by simpa [Value.cells] using e20
  clear hA0 hval0
  refine (Calls.mono (c_l_FnExactEventsWithin W xs7 a2 c4 rd9 n13 n18 (plain_EventsWithin xs7 n13 n18 ⟨le10, ok11⟩ (wf_i64 wf16) (wf_i64 wf21)))) fun e W' hh => ?_
  obtain ⟨he, hM⟩ := hh
  subst he
  have bel := hM.below
  exact ⟨_, rfl, _, _, _, [], _, [], hW', trodAll_mk1 (shut_bool Try.underlying4 _), (trodAll_cons_mk (Below.trod laidOut (by kernel_rfl) (of_decide_eq_true (by kernel_rfl)) k0 bel lt0) (trodAll_cons_mk (Below.trod laidOut (by kernel_rfl) (of_decide_eq_true (by kernel_rfl)) k1 bel lt1) (trodAll_cons_mk (Below.trod laidOut (by kernel_rfl) (of_decide_eq_true (by kernel_rfl)) k2 bel lt2) trodAll_mk0))), rfl, bel.frame _, fun h => by cases h⟩
theorem over : Rows.fnExactEventsWithinRow.holds Try.pinned (OpenSpec.ofChange Rows.fnExactEventsWithinSpec) :=
  OpenClaim.holds_of_wide 8 Try.f8 rfl rfl rfl rfl rfl rfl rfl ⟨rfl, rfl, rfl, rfl, rfl⟩ rfl rfl rfl rfl rfl (by kernel_rfl) Try.func8 (by kernel_rfl)
    (of_decide_eq_true (by kernel_rfl)) (by unfold Func.isWrapper; first | (rw [if_pos (by decide +kernel)]; kernel_rfl) | (rw [if_neg (by decide +kernel)]; exact ⟨rfl, rfl⟩))
    (fun os started H enc _ => lifted os started H enc)
/-- The statement. -/
theorem proved : Rows.FnExactEventsWithinSaid := over
#print axioms proved
end Go.Proofs.Ytfcebglkdfadcaa.fnExactEventsWithin
