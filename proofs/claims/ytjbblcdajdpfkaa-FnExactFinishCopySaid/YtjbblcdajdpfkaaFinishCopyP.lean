/- Whatever it is given, laws.FnExactFinishCopy returns true and leaves what was there as it was. -/
import Derived.Test.YtjbblcdajdpfkaaRows
import Derived.Test.YtjbblcdajdpfkaaC2
import Derived.Test.YtjbblcdajdpfkaaL3
import Derived.Test.YtjbblcdajdpfkaaGxR
import Derived.WalkKit
import Derived.ProofKit
import Derived.OpenShut
import Derived.ShutString
set_option linter.unusedVariables false
set_option linter.unusedSimpArgs false
set_option maxHeartbeats 4000000
namespace Go.Proofs.Ytjbblcdajdpfkaa.fnExactFinishCopy
open Go.ChangeShapes Go.WideShapes Go.ChangeAt Go.RowKit Go.Gx Go.Proofs.Ytjbblcdajdpfkaa
open Go.ChangeMaps (open_string shut_string)
theorem array3 {α : Type} {cs : Array α} (h : cs.size = 3) : ∃ c0 c1 c2, cs = #[c0, c1, c2] := by
  obtain ⟨l⟩ := cs
  match l, h with
  | [c0, c1, c2], _ => exact ⟨c0, c1, c2, rfl⟩
theorem own : ownKnob Try.prog.godebug = none := by kernel_rfl
theorem laidOut : laidOutB Try.prog = true := by kernel_rfl
set_option maxRecDepth 100000 in
theorem lifted (os : Os) (started : os.Started) (H : Type) (enc : TypeId × Value → H) :
    ReturnsInHanded {} Try.checked os 6 .any (Rows.fnExactFinishCopySpec.pre6 enc Try.prog Try.f6 Rows.fnExactFinishCopyRow.domain false) (Rows.fnExactFinishCopySpec.post enc Try.prog Try.f6 false true false false) := by
  refine returnsInHanded_of_change (C := Try.checked) own started (by kernel_rfl) Try.func6
    (ChangeSpec.witness6 (enc := enc) (C := Try.checked) false ⟨#[], #[.agg #[.slice none 0 0, .slice none 0 0, .slice none 0 0]], []⟩ 8 (by kernel_rfl) (by kernel_rfl) (by kernel_rfl) (by kernel_rfl)) ?_
  intro W base args ds gs before hval0 hW hcnd _
  have hval : ∀ (j : Nat) t v, Try.f6.params[j]? = some t → args[j]? = some v → Value.okWide Try.prog W .any base t v := hval0
  have hW' := hW
  obtain ⟨p, q, hA0, hV, rfl, hfz, hnd⟩ := hW
  have hA : DataW.TrodAll enc Try.prog W 0 (fun _ => true) true Try.f6.params.toList args.toList ds p := hA0
  rw [Try.params6] at hA hval
  obtain ⟨v0, vs0, d0, ds0, p0, q0, hargs, rfl, rfl, h0, r0⟩ := trodAll_cons hA
  obtain ⟨rfl, rfl, rfl⟩ := trodAll_nil r0
  obtain rfl : args = #[v0] := by cases args; simp_all
  obtain ⟨rfl, rfl⟩ := trodVars_none hV
  have k0 := h0
  have lt0 : ∀ x ∈ p0, x.block < W.heap.size := by obtain ⟨m, hm⟩ := k0; exact DataW.trod_lt m _ _ _ hm
  obtain ⟨fu0, hf0⟩ := h0
  obtain ⟨cs0, rfl, hsz0⟩ := okWide_struct Try.underlying25 (hval 0 25 v0 rfl rfl)
  obtain ⟨x1, x2, x3, rfl⟩ := array3 (hsz0.trans (show Try.prog.cellsOf 25 = 3 by kernel_rfl))
  replace hf0 : DataW.trod enc Try.prog W 0 (fun _ => true) true fu0 25 [x1, x2, x3] = some (d0, p0) := hf0
  obtain ⟨m4, hfs5⟩ := open_fields Try.underlying25 hf0
  obtain ⟨z6, hz7⟩ := field_of hfs5 0 _ rfl 22 [x1] rfl (by kernel_rfl)
  obtain ⟨p8, c9, xs10, e11, rd12, le13, ok14⟩ := open_slice (readsInt Try.underlying3 (by kernel_rfl)) (by decide) Try.underlying22 hz7
  obtain rfl : x1 = .slice p8 xs10.length c9 := by simpa using e11
  obtain ⟨z15, hz16⟩ := field_of hfs5 1 _ rfl 22 [x2] rfl (by kernel_rfl)
  obtain ⟨p17, c18, xs19, e20, rd21, le22, ok23⟩ := open_slice (readsInt Try.underlying3 (by kernel_rfl)) (by decide) Try.underlying22 hz16
  obtain rfl : x2 = .slice p17 xs19.length c18 := by simpa using e20
  obtain ⟨z24, hz25⟩ := field_of hfs5 2 _ rfl 23 [x3] rfl (by kernel_rfl)
  obtain ⟨p26, c27, xs28, e29, rd30, le31, ok32⟩ := open_slice (readsB Try.underlying4 (by kernel_rfl)) (by decide) Try.underlying23 hz25
  obtain rfl : x3 = .slice p26 xs28.length c27 := by simpa using e29
  clear hA0 hval0
  refine (Calls.mono (c_l_FnExactFinishCopy W (⟨xs10, xs19, xs28⟩ : Copying) p8 c9 rd12 p17 c18 rd21 p26 c27 rd30 (plain_FinishCopy (⟨xs10, xs19, xs28⟩ : Copying) ⟨⟨le13, ok14⟩, ⟨le22, ok23⟩, ⟨le31, ok32⟩⟩))) fun e W' hh => ?_
  obtain ⟨he, hM⟩ := hh
  subst he
  have bel := hM.below
  exact ⟨_, rfl, _, _, _, [], _, [], hW', trodAll_mk1 (shut_bool Try.underlying4 _), (trodAll_cons_mk (Below.trod laidOut (by kernel_rfl) (of_decide_eq_true (by kernel_rfl)) k0 bel lt0) trodAll_mk0), rfl, bel.frame _, fun h => by cases h⟩
theorem over : Rows.fnExactFinishCopyRow.holds Try.pinned (OpenSpec.ofChange Rows.fnExactFinishCopySpec) :=
  OpenClaim.holds_of_wide 6 Try.f6 rfl rfl rfl rfl rfl rfl rfl ⟨rfl, rfl, rfl, rfl, rfl⟩ rfl rfl rfl rfl rfl (by kernel_rfl) Try.func6 (by kernel_rfl)
    (of_decide_eq_true (by kernel_rfl)) (by unfold Func.isWrapper; first | (rw [if_pos (by decide +kernel)]; kernel_rfl) | (rw [if_neg (by decide +kernel)]; exact ⟨rfl, rfl⟩))
    (fun os started H enc _ => lifted os started H enc)
/-- The statement. -/
theorem proved : Rows.FnExactFinishCopySaid := over
#print axioms proved
end Go.Proofs.Ytjbblcdajdpfkaa.fnExactFinishCopy
