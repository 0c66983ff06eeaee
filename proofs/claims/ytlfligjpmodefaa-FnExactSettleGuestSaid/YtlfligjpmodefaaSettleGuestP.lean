/- Whatever it is given, laws.FnExactSettleGuest returns true and leaves what was there as it was. -/
import Derived.Test.YtlfligjpmodefaaRows
import Derived.Test.YtlfligjpmodefaaSC3
import Derived.Test.YtlfligjpmodefaaSL1
import Derived.Test.YtlfligjpmodefaaGxS
import Derived.WalkKit
import Derived.ProofKit
import Derived.OpenShut
import Derived.ShutString
set_option linter.unusedVariables false
set_option linter.unusedSimpArgs false
set_option maxHeartbeats 4000000
namespace Go.Proofs.Ytlfligjpmodefaa.fnExactSettleGuest
open Go.ChangeShapes Go.WideShapes Go.ChangeAt Go.RowKit Go.Gx Go.Proofs.Ytlfligjpmodefaa
open Go.ChangeMaps (open_string shut_string)
theorem list56 {α : Type} {l : List α} (h : l.length = 3) : ∃ c0 c1 c2, l = [c0, c1, c2] := by
  match l, h with
  | [c0, c1, c2], _ => exact ⟨c0, c1, c2, rfl⟩
theorem readsD56 : ReadsDeep Try.prog 56 deepBalloon okBalloon := by
  refine ⟨by kernel_rfl, fun H enc w base spare held fuel cs y h => ?_⟩
  obtain ⟨c0, c1, c2, rfl⟩ := list56 ((trod_len Try.underlying56 h).trans (show Try.prog.cellsOf 56 = 3 by kernel_rfl))
  obtain ⟨m28, hfs29⟩ := open_fields Try.underlying56 h
  obtain ⟨z30, hz31⟩ := field_of hfs29 0 _ rfl 3 [c0] rfl (by kernel_rfl)
  obtain ⟨n32, e33, _, wf34⟩ := DataW.trod_int Try.underlying3 hz31
  obtain rfl : c0 = .int .i64 n32 := by simpa using e33
  obtain ⟨z35, hz36⟩ := field_of hfs29 1 _ rfl 3 [c1] rfl (by kernel_rfl)
  obtain ⟨n37, e38, _, wf39⟩ := DataW.trod_int Try.underlying3 hz36
  obtain rfl : c1 = .int .i64 n37 := by simpa using e38
  obtain ⟨z40, hz41⟩ := field_of hfs29 2 _ rfl 22 [c2] rfl (by kernel_rfl)
  obtain ⟨p42, c43, xs44, e45, rd46, le47, ok48⟩ := open_slice (readsInt Try.underlying3 (by kernel_rfl)) (by decide) Try.underlying22 hz41
  obtain rfl : c2 = .slice p42 xs44.length c43 := by simpa using e45
  exact ⟨((⟨n32, n37, xs44⟩ : Balloon), plOf [(p42, c43)]), rfl, (rdI_cons (i := ⟨Int, Gx.encI, _, p42, c43⟩) rd46 rdI_nil), ⟨(wf_i64 wf34), (wf_i64 wf39), ⟨le47, ok48⟩⟩⟩
theorem own : ownKnob Try.prog.godebug = none := by kernel_rfl
theorem laidOut : laidOutB Try.prog = true := by kernel_rfl
set_option maxRecDepth 100000 in
theorem lifted (os : Os) (started : os.Started) (H : Type) (enc : TypeId × Value → H) :
    ReturnsInHanded {} Try.checked os 10 .any (Rows.fnExactSettleGuestSpec.pre6 enc Try.prog Try.f10 Rows.fnExactSettleGuestRow.domain false) (Rows.fnExactSettleGuestSpec.post enc Try.prog Try.f10 false true false false) := by
  refine returnsInHanded_of_change (C := Try.checked) own started (by kernel_rfl) Try.func10
    (ChangeSpec.witness6 (enc := enc) (C := Try.checked) false ⟨#[], #[.slice none 0 0, .slice none 0 0, .int .i64 0], []⟩ 8 (by kernel_rfl) (by kernel_rfl) (by kernel_rfl) (by kernel_rfl)) ?_
  intro W base args ds gs before hval0 hW hcnd _
  have hval : ∀ (j : Nat) t v, Try.f10.params[j]? = some t → args[j]? = some v → Value.okWide Try.prog W .any base t v := hval0
  have hW' := hW
  obtain ⟨p, q, hA0, hV, rfl, hfz, hnd⟩ := hW
  have hA : DataW.TrodAll enc Try.prog W 0 (fun _ => true) true Try.f10.params.toList args.toList ds p := hA0
  rw [Try.params10] at hA hval
  obtain ⟨v0, vs0, d0, ds0, p0, q0, hargs, rfl, rfl, h0, r0⟩ := trodAll_cons hA
  obtain ⟨v1, vs1, d1, ds1, p1, q1, rfl, rfl, rfl, h1, r1⟩ := trodAll_cons r0
  obtain ⟨v2, vs2, d2, ds2, p2, q2, rfl, rfl, rfl, h2, r2⟩ := trodAll_cons r1
  obtain ⟨rfl, rfl, rfl⟩ := trodAll_nil r2
  obtain rfl : args = #[v0, v1, v2] := by cases args; simp_all
  obtain ⟨rfl, rfl⟩ := trodVars_none hV
  have k0 := h0
  have lt0 : ∀ x ∈ p0, x.block < W.heap.size := by obtain ⟨m, hm⟩ := k0; exact DataW.trod_lt m _ _ _ hm
  obtain ⟨fu0, hf0⟩ := h0
  obtain ⟨a2, l3, c4, rfl⟩ := okWide_slice Try.underlying22 (hval 0 22 v0 rfl rfl)
  obtain ⟨p5, c6, xs7, e8, rd9, le10, ok11⟩ := open_slice (readsInt Try.underlying3 (by kernel_rfl)) (by decide) Try.underlying22 hf0
  simp only [Value.cells, List.cons.injEq, Value.slice.injEq, and_true] at e8
  obtain ⟨rfl, rfl, rfl⟩ := e8
  have k1 := h1
  have lt1 : ∀ x ∈ p1, x.block < W.heap.size := by obtain ⟨m, hm⟩ := k1; exact DataW.trod_lt m _ _ _ hm
  obtain ⟨fu1, hf1⟩ := h1
  obtain ⟨a13, l14, c15, rfl⟩ := okWide_slice Try.underlying23 (hval 1 23 v1 rfl rfl)
  obtain ⟨p16, c17, xs18, e19, rd20, le21, ok22⟩ := open_deep readsD56 (by decide) Try.underlying23 hf1
  simp only [Value.cells, List.cons.injEq, Value.slice.injEq, and_true] at e19
  obtain ⟨rfl, rfl, rfl⟩ := e19
  have k2 := h2
  have lt2 : ∀ x ∈ p2, x.block < W.heap.size := by obtain ⟨m, hm⟩ := k2; exact DataW.trod_lt m _ _ _ hm
  obtain ⟨fu2, hf2⟩ := h2
  obtain ⟨n24, rfl⟩ := okWide_int Try.underlying3 (hval 2 3 v2 rfl rfl)
  obtain ⟨n25, e26, _, wf27⟩ := DataW.trod_int Try.underlying3 hf2
  obtain rfl : n24 = n25 := by simpa [Value.cells] using e26
  clear hA0 hval0
  refine (Calls.mono (c_l_FnExactSettleGuest W xs7 a2 c4 rd9 xs18 a13 c15 rd20 n24 (plain_SettleGuest xs7 xs18 n24 ⟨le10, ok11⟩ ⟨le21, ok22⟩ (wf_i64 wf27)))) fun e W' hh => ?_
  obtain ⟨he, hM⟩ := hh
  subst he
  have bel := hM.below
  exact ⟨_, rfl, _, _, _, [], _, [], hW', trodAll_mk1 (shut_bool Try.underlying4 _), (trodAll_cons_mk (Below.trod laidOut (by kernel_rfl) (of_decide_eq_true (by kernel_rfl)) k0 bel lt0) (trodAll_cons_mk (Below.trod laidOut (by kernel_rfl) (of_decide_eq_true (by kernel_rfl)) k1 bel lt1) (trodAll_cons_mk (Below.trod laidOut (by kernel_rfl) (of_decide_eq_true (by kernel_rfl)) k2 bel lt2) trodAll_mk0))), rfl, bel.frame _, fun h => by cases h⟩
theorem over : Rows.fnExactSettleGuestRow.holds Try.pinned (OpenSpec.ofChange Rows.fnExactSettleGuestSpec) :=
  OpenClaim.holds_of_wide 10 Try.f10 rfl rfl rfl rfl rfl rfl rfl ⟨rfl, rfl, rfl, rfl, rfl⟩ rfl rfl rfl rfl rfl (by kernel_rfl) Try.func10 (by kernel_rfl)
    (of_decide_eq_true (by kernel_rfl)) (by unfold Func.isWrapper; first | (rw [if_pos (by decide +kernel)]; kernel_rfl) | (rw [if_neg (by decide +kernel)]; exact ⟨rfl, rfl⟩))
    (fun os started H enc _ => lifted os started H enc)
/-- The statement. -/
theorem proved : Rows.FnExactSettleGuestSaid := over
#print axioms proved
end Go.Proofs.Ytlfligjpmodefaa.fnExactSettleGuest
