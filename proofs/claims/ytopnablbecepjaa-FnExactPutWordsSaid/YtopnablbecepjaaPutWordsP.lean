/- Whatever it is given, laws.FnExactPutWords returns true and leaves what was there as it was. -/
import Derived.Test.YtopnablbecepjaaRows
import Derived.Test.YtopnablbecepjaaC4
import Derived.Test.YtopnablbecepjaaL5
import Derived.Test.YtopnablbecepjaaGxR
import Derived.WalkKit
import Derived.ProofKit
import Derived.OpenShut
import Derived.ShutString
set_option linter.unusedVariables false
set_option linter.unusedSimpArgs false
set_option maxHeartbeats 4000000
namespace Go.Proofs.Ytopnablbecepjaa.fnExactPutWords
open Go.ChangeShapes Go.WideShapes Go.ChangeAt Go.RowKit Go.Gx Go.Proofs.Ytopnablbecepjaa
open Go.ChangeMaps (open_string shut_string)
theorem array3 {α : Type} {cs : Array α} (h : cs.size = 3) : ∃ c0 c1 c2, cs = #[c0, c1, c2] := by
  obtain ⟨l⟩ := cs
  match l, h with
  | [c0, c1, c2], _ => exact ⟨c0, c1, c2, rfl⟩
theorem own : ownKnob Try.prog.godebug = none := by kernel_rfl
theorem laidOut : laidOutB Try.prog = true := by kernel_rfl
set_option maxRecDepth 100000 in
theorem lifted (os : Os) (started : os.Started) (H : Type) (enc : TypeId × Value → H) :
    ReturnsInHanded {} Try.checked os 11 .any (Rows.fnExactPutWordsSpec.pre6 enc Try.prog Try.f11 Rows.fnExactPutWordsRow.domain false) (Rows.fnExactPutWordsSpec.post enc Try.prog Try.f11 false true false false) := by
  refine returnsInHanded_of_change (C := Try.checked) own started (by kernel_rfl) Try.func11
    (ChangeSpec.witness6 (enc := enc) (C := Try.checked) false ⟨#[], #[.agg #[.slice none 0 0, .int .i64 0, .int .i64 0], .slice none 0 0], []⟩ 8 (by kernel_rfl) (by kernel_rfl) (by kernel_rfl) (by kernel_rfl)) ?_
  intro W base args ds gs before hval0 hW hcnd _
  have hval : ∀ (j : Nat) t v, Try.f11.params[j]? = some t → args[j]? = some v → Value.okWide Try.prog W .any base t v := hval0
  have hW' := hW
  obtain ⟨p, q, hA0, hV, rfl, hfz, hnd⟩ := hW
  have hA : DataW.TrodAll enc Try.prog W 0 (fun _ => true) true Try.f11.params.toList args.toList ds p := hA0
  rw [Try.params11] at hA hval
  obtain ⟨v0, vs0, d0, ds0, p0, q0, hargs, rfl, rfl, h0, r0⟩ := trodAll_cons hA
  obtain ⟨v1, vs1, d1, ds1, p1, q1, rfl, rfl, rfl, h1, r1⟩ := trodAll_cons r0
  obtain ⟨rfl, rfl, rfl⟩ := trodAll_nil r1
  obtain rfl : args = #[v0, v1] := by cases args; simp_all
  obtain ⟨rfl, rfl⟩ := trodVars_none hV
  have k0 := h0
  have lt0 : ∀ x ∈ p0, x.block < W.heap.size := by obtain ⟨m, hm⟩ := k0; exact DataW.trod_lt m _ _ _ hm
  obtain ⟨fu0, hf0⟩ := h0
  obtain ⟨cs0, rfl, hsz0⟩ := okWide_struct Try.underlying33 (hval 0 33 v0 rfl rfl)
  obtain ⟨x1, x2, x3, rfl⟩ := array3 (hsz0.trans (show Try.prog.cellsOf 33 = 3 by kernel_rfl))
  replace hf0 : DataW.trod enc Try.prog W 0 (fun _ => true) true fu0 33 [x1, x2, x3] = some (d0, p0) := hf0
  obtain ⟨m4, hfs5⟩ := open_fields Try.underlying33 hf0
  obtain ⟨z6, hz7⟩ := field_of hfs5 0 _ rfl 25 [x1] rfl (by kernel_rfl)
  obtain ⟨p8, c9, xs10, e11, rd12, le13, ok14⟩ := open_slice (readsInt Try.underlying3 (by kernel_rfl)) (by decide) Try.underlying25 hz7
  obtain rfl : x1 = .slice p8 xs10.length c9 := by simpa using e11
  obtain ⟨z15, hz16⟩ := field_of hfs5 1 _ rfl 3 [x2] rfl (by kernel_rfl)
  obtain ⟨n17, e18, _, wf19⟩ := DataW.trod_int Try.underlying3 hz16
  obtain rfl : x2 = .int .i64 n17 := by simpa using e18
  obtain ⟨z20, hz21⟩ := field_of hfs5 2 _ rfl 3 [x3] rfl (by kernel_rfl)
  obtain ⟨n22, e23, _, wf24⟩ := DataW.trod_int Try.underlying3 hz21
  obtain rfl : x3 = .int .i64 n22 := by simpa using e23
  have k1 := h1
  have lt1 : ∀ x ∈ p1, x.block < W.heap.size := by obtain ⟨m, hm⟩ := k1; exact DataW.trod_lt m _ _ _ hm
  obtain ⟨fu1, hf1⟩ := h1
  obtain ⟨a26, l27, c28, rfl⟩ := okWide_slice Try.underlying25 (hval 1 25 v1 rfl rfl)
  obtain ⟨p29, c30, xs31, e32, rd33, le34, ok35⟩ := open_slice (readsInt Try.underlying3 (by kernel_rfl)) (by decide) Try.underlying25 hf1
  simp only [Value.cells, List.cons.injEq, Value.slice.injEq, and_true] at e32
  obtain ⟨rfl, rfl, rfl⟩ := e32
  clear hA0 hval0
  refine (Calls.mono (c_l_FnExactPutWords W (⟨xs10, n17, n22⟩ : Ring) p8 c9 rd12 xs31 a26 c28 rd33 (plain_PutWords (⟨xs10, n17, n22⟩ : Ring) xs31 ⟨⟨le13, ok14⟩, (wf_i64 wf19), (wf_i64 wf24)⟩ ⟨le34, ok35⟩))) fun e W' hh => ?_
  obtain ⟨he, hM⟩ := hh
  subst he
  have bel := hM.below
  exact ⟨_, rfl, _, _, _, [], _, [], hW', trodAll_mk1 (shut_bool Try.underlying4 _), (trodAll_cons_mk (Below.trod laidOut (by kernel_rfl) (of_decide_eq_true (by kernel_rfl)) k0 bel lt0) (trodAll_cons_mk (Below.trod laidOut (by kernel_rfl) (of_decide_eq_true (by kernel_rfl)) k1 bel lt1) trodAll_mk0)), rfl, bel.frame _, fun h => by cases h⟩
theorem over : Rows.fnExactPutWordsRow.holds Try.pinned (OpenSpec.ofChange Rows.fnExactPutWordsSpec) :=
  OpenClaim.holds_of_wide 11 Try.f11 rfl rfl rfl rfl rfl rfl rfl ⟨rfl, rfl, rfl, rfl, rfl⟩ rfl rfl rfl rfl rfl (by kernel_rfl) Try.func11 (by kernel_rfl)
    (of_decide_eq_true (by kernel_rfl)) (by unfold Func.isWrapper; first | (rw [if_pos (by decide +kernel)]; kernel_rfl) | (rw [if_neg (by decide +kernel)]; exact ⟨rfl, rfl⟩))
    (fun os started H enc _ => lifted os started H enc)
/-- The statement. -/
theorem proved : Rows.FnExactPutWordsSaid := over
#print axioms proved
end Go.Proofs.Ytopnablbecepjaa.fnExactPutWords
