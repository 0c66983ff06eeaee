/- Whatever it is given, laws.FnExactAddEvent returns true and leaves what was there as it was. -/
import Derived.Test.YtfcebglkdfadcaaRows
import Derived.Test.YtfcebglkdfadcaaC4
import Derived.Test.YtfcebglkdfadcaaK4
import Derived.Test.YtfcebglkdfadcaaGxR
import Derived.WalkKit
import Derived.ProofKit
import Derived.OpenShut
import Derived.ShutString
set_option linter.unusedVariables false
set_option linter.unusedSimpArgs false
set_option maxHeartbeats 4000000
namespace Go.Proofs.Ytfcebglkdfadcaa.fnExactAddEvent
open Go.ChangeShapes Go.WideShapes Go.ChangeAt Go.RowKit Go.Gx Go.Proofs.Ytfcebglkdfadcaa
open Go.ChangeMaps (open_string shut_string)
theorem array4 {α : Type} {cs : Array α} (h : cs.size = 4) : ∃ c0 c1 c2 c3, cs = #[c0, c1, c2, c3] := by
  obtain ⟨l⟩ := cs
  match l, h with
  | [c0, c1, c2, c3], _ => exact ⟨c0, c1, c2, c3, rfl⟩
theorem list23 {α : Type} {l : List α} (h : l.length = 4) : ∃ c0 c1 c2 c3, l = [c0, c1, c2, c3] := by
  match l, h with
  | [c0, c1, c2, c3], _ => exact ⟨c0, c1, c2, c3, rfl⟩
theorem reads23 : ReadsAs Try.prog 23 encEvent okEvent := by
  refine ⟨by kernel_rfl, fun H enc w base spare held fuel cs y h => ?_⟩
  obtain ⟨c0, c1, c2, c3, rfl⟩ := list23 ((trod_len Try.underlying23 h).trans (show Try.prog.cellsOf 23 = 4 by kernel_rfl))
  obtain ⟨m38, hfs39⟩ := open_fields Try.underlying23 h
  obtain ⟨z40, hz41⟩ := field_of hfs39 0 _ rfl 3 [c0] rfl (by kernel_rfl)
  obtain ⟨n42, e43, _, wf44⟩ := DataW.trod_int Try.underlying3 hz41
  obtain rfl : c0 = .int .i64 n42 := by simpa using e43
  obtain ⟨z45, hz46⟩ := field_of hfs39 1 _ rfl 3 [c1] rfl (by kernel_rfl)
  obtain ⟨n47, e48, _, wf49⟩ := DataW.trod_int Try.underlying3 hz46
  obtain rfl : c1 = .int .i64 n47 := by simpa using e48
  obtain ⟨z50, hz51⟩ := field_of hfs39 2 _ rfl 9 [c2] rfl (by kernel_rfl)
  obtain ⟨n52, e53, _, wf54⟩ := DataW.trod_string Try.underlying9 hz51
  obtain rfl : c2 = .string n52 := by simpa using e53
  obtain ⟨z55, hz56⟩ := field_of hfs39 3 _ rfl 3 [c3] rfl (by kernel_rfl)
  obtain ⟨n57, e58, _, wf59⟩ := DataW.trod_int Try.underlying3 hz56
  obtain rfl : c3 = .int .i64 n57 := by simpa using e58
  exact ⟨(⟨n42, n47, n52, n57⟩ : Event), rfl, ⟨(wf_i64 wf44), (wf_i64 wf49), wf54, (wf_i64 wf59)⟩⟩
theorem own : ownKnob Try.prog.godebug = none := by kernel_rfl
theorem laidOut : laidOutB Try.prog = true := by kernel_rfl
set_option maxRecDepth 100000 in
theorem lifted (os : Os) (started : os.Started) (H : Type) (enc : TypeId × Value → H) :
    ReturnsInHanded {} Try.checked os 9 .any (Rows.fnExactAddEventSpec.pre6 enc Try.prog Try.f9 Rows.fnExactAddEventRow.domain false) (Rows.fnExactAddEventSpec.post enc Try.prog Try.f9 false true false false) := by
  refine returnsInHanded_of_change (C := Try.checked) own started (by kernel_rfl) Try.func9
    (ChangeSpec.witness6 (enc := enc) (C := Try.checked) false ⟨#[], #[.slice none 0 0, .agg #[.int .i64 0, .int .i64 0, .string ByteArray.empty, .int .i64 0]], []⟩ 8 (by kernel_rfl) (by kernel_rfl) (by kernel_rfl) (by kernel_rfl)) ?_
  intro W base args ds gs before hval0 hW hcnd _
  have hval : ∀ (j : Nat) t v, Try.f9.params[j]? = some t → args[j]? = some v → Value.okWide Try.prog W .any base t v := hval0
  have hW' := hW
  obtain ⟨p, q, hA0, hV, rfl, hfz, hnd⟩ := hW
  have hA : DataW.TrodAll enc Try.prog W 0 (fun _ => true) true Try.f9.params.toList args.toList ds p := hA0
  rw [Try.params9] at hA hval
  obtain ⟨v0, vs0, d0, ds0, p0, q0, hargs, rfl, rfl, h0, r0⟩ := trodAll_cons hA
  obtain ⟨v1, vs1, d1, ds1, p1, q1, rfl, rfl, rfl, h1, r1⟩ := trodAll_cons r0
  obtain ⟨rfl, rfl, rfl⟩ := trodAll_nil r1
  obtain rfl : args = #[v0, v1] := by cases args; simp_all
  obtain ⟨rfl, rfl⟩ := trodVars_none hV
  have k0 := h0
  have lt0 : ∀ x ∈ p0, x.block < W.heap.size := by obtain ⟨m, hm⟩ := k0; exact DataW.trod_lt m _ _ _ hm
  obtain ⟨fu0, hf0⟩ := h0
  obtain ⟨a2, l3, c4, rfl⟩ := okWide_slice Try.underlying29 (hval 0 29 v0 rfl rfl)
  obtain ⟨p5, c6, xs7, e8, rd9, le10, ok11⟩ := open_slice reads23 (by decide) Try.underlying29 hf0
  simp only [Value.cells, List.cons.injEq, Value.slice.injEq, and_true] at e8
  obtain ⟨rfl, rfl, rfl⟩ := e8
  have k1 := h1
  have lt1 : ∀ x ∈ p1, x.block < W.heap.size := by obtain ⟨m, hm⟩ := k1; exact DataW.trod_lt m _ _ _ hm
  obtain ⟨fu1, hf1⟩ := h1
  obtain ⟨cs1, rfl, hsz1⟩ := okWide_struct Try.underlying23 (hval 1 23 v1 rfl rfl)
  obtain ⟨x12, x13, x14, x15, rfl⟩ := array4 (hsz1.trans (show Try.prog.cellsOf 23 = 4 by kernel_rfl))
  replace hf1 : DataW.trod enc Try.prog W 0 (fun _ => true) true fu1 23 [x12, x13, x14, x15] = some (d1, p1) := hf1
  obtain ⟨m16, hfs17⟩ := open_fields Try.underlying23 hf1
  obtain ⟨z18, hz19⟩ := field_of hfs17 0 _ rfl 3 [x12] rfl (by kernel_rfl)
  obtain ⟨n20, e21, _, wf22⟩ := DataW.trod_int Try.underlying3 hz19
  obtain rfl : x12 = .int .i64 n20 := by simpa using e21
  obtain ⟨z23, hz24⟩ := field_of hfs17 1 _ rfl 3 [x13] rfl (by kernel_rfl)
  obtain ⟨n25, e26, _, wf27⟩ := DataW.trod_int Try.underlying3 hz24
  obtain rfl : x13 = .int .i64 n25 := by simpa using e26
  obtain ⟨z28, hz29⟩ := field_of hfs17 2 _ rfl 9 [x14] rfl (by kernel_rfl)
  obtain ⟨n30, e31, _, wf32⟩ := DataW.trod_string Try.underlying9 hz29
  obtain rfl : x14 = .string n30 := by simpa using e31
  obtain ⟨z33, hz34⟩ := field_of hfs17 3 _ rfl 3 [x15] rfl (by kernel_rfl)
  obtain ⟨n35, e36, _, wf37⟩ := DataW.trod_int Try.underlying3 hz34
  obtain rfl : x15 = .int .i64 n35 := by simpa using e36
  clear hA0 hval0
  refine (Calls.mono (c_l_FnExactAddEvent W xs7 a2 c4 rd9 (⟨n20, n25, n30, n35⟩ : Event) (plain_AddEvent xs7 (⟨n20, n25, n30, n35⟩ : Event) ⟨le10, ok11⟩ ⟨(wf_i64 wf22), (wf_i64 wf27), wf32, (wf_i64 wf37)⟩))) fun e W' hh => ?_
  obtain ⟨he, hM⟩ := hh
  subst he
  have bel := hM.below
  exact ⟨_, rfl, _, _, _, [], _, [], hW', trodAll_mk1 (shut_bool Try.underlying4 _), (trodAll_cons_mk (Below.trod laidOut (by kernel_rfl) (of_decide_eq_true (by kernel_rfl)) k0 bel lt0) (trodAll_cons_mk (Below.trod laidOut (by kernel_rfl) (of_decide_eq_true (by kernel_rfl)) k1 bel lt1) trodAll_mk0)), rfl, bel.frame _, fun h => by cases h⟩
theorem over : Rows.fnExactAddEventRow.holds Try.pinned (OpenSpec.ofChange Rows.fnExactAddEventSpec) :=
  OpenClaim.holds_of_wide 9 Try.f9 rfl rfl rfl rfl rfl rfl rfl ⟨rfl, rfl, rfl, rfl, rfl⟩ rfl rfl rfl rfl rfl (by kernel_rfl) Try.func9 (by kernel_rfl)
    (of_decide_eq_true (by kernel_rfl)) (by unfold Func.isWrapper; first | (rw [if_pos (by decide +kernel)]; kernel_rfl) | (rw [if_neg (by decide +kernel)]; exact ⟨rfl, rfl⟩))
    (fun os started H enc _ => lifted os started H enc)
/-- The statement. -/
theorem proved : Rows.FnExactAddEventSaid := over
#print axioms proved
end Go.Proofs.Ytfcebglkdfadcaa.fnExactAddEvent
