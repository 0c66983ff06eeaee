/- Whatever it is given, laws.FnExactRoundsUntil returns true and leaves what was there as it was. -/
import Derived.Test.YtjbblcdajdpfkaaRows
import Derived.Test.YtjbblcdajdpfkaaC5
import Derived.Test.YtjbblcdajdpfkaaL4
import Derived.Test.YtjbblcdajdpfkaaGxS
import Derived.WalkKit
import Derived.ProofKit
import Derived.OpenShut
import Derived.ShutString
set_option linter.unusedVariables false
set_option linter.unusedSimpArgs false
set_option maxHeartbeats 4000000
namespace Go.Proofs.Ytjbblcdajdpfkaa.fnExactRoundsUntil
open Go.ChangeShapes Go.WideShapes Go.ChangeAt Go.RowKit Go.Gx Go.Proofs.Ytjbblcdajdpfkaa
open Go.ChangeMaps (open_string shut_string)
theorem array3 {α : Type} {cs : Array α} (h : cs.size = 3) : ∃ c0 c1 c2, cs = #[c0, c1, c2] := by
  obtain ⟨l⟩ := cs
  match l, h with
  | [c0, c1, c2], _ => exact ⟨c0, c1, c2, rfl⟩
theorem list44 {α : Type} {l : List α} (h : l.length = 2) : ∃ c0 c1, l = [c0, c1] := by
  match l, h with
  | [c0, c1], _ => exact ⟨c0, c1, rfl⟩
theorem reads44 : ReadsAs Try.prog 44 encStore okStore := by
  refine ⟨by kernel_rfl, fun H enc w base spare held fuel cs y h => ?_⟩
  obtain ⟨c0, c1, rfl⟩ := list44 ((trod_len Try.underlying44 h).trans (show Try.prog.cellsOf 44 = 2 by kernel_rfl))
  obtain ⟨m54, hfs55⟩ := open_fields Try.underlying44 h
  obtain ⟨z56, hz57⟩ := field_of hfs55 0 _ rfl 3 [c0] rfl (by kernel_rfl)
  obtain ⟨n58, e59, _, wf60⟩ := DataW.trod_int Try.underlying3 hz57
  obtain rfl : c0 = .int .i64 n58 := by simpa using e59
  obtain ⟨z61, hz62⟩ := field_of hfs55 1 _ rfl 3 [c1] rfl (by kernel_rfl)
  obtain ⟨n63, e64, _, wf65⟩ := DataW.trod_int Try.underlying3 hz62
  obtain rfl : c1 = .int .i64 n63 := by simpa using e64
  exact ⟨(⟨n58, n63⟩ : Store), rfl, ⟨(wf_i64 wf60), (wf_i64 wf65)⟩⟩
theorem own : ownKnob Try.prog.godebug = none := by kernel_rfl
theorem laidOut : laidOutB Try.prog = true := by kernel_rfl
set_option maxRecDepth 100000 in
theorem lifted (os : Os) (started : os.Started) (H : Type) (enc : TypeId × Value → H) :
    ReturnsInHanded {} Try.checked os 9 .any (Rows.fnExactRoundsUntilSpec.pre6 enc Try.prog Try.f9 Rows.fnExactRoundsUntilRow.domain false) (Rows.fnExactRoundsUntilSpec.post enc Try.prog Try.f9 false true false false) := by
  refine returnsInHanded_of_change (C := Try.checked) own started (by kernel_rfl) Try.func9
    (ChangeSpec.witness6 (enc := enc) (C := Try.checked) false ⟨#[], #[.agg #[.slice none 0 0, .slice none 0 0, .slice none 0 0], .slice none 0 0, .int .i64 0, .int .i64 0], []⟩ 8 (by kernel_rfl) (by kernel_rfl) (by kernel_rfl) (by kernel_rfl)) ?_
  intro W base args ds gs before hval0 hW hcnd _
  have hval : ∀ (j : Nat) t v, Try.f9.params[j]? = some t → args[j]? = some v → Value.okWide Try.prog W .any base t v := hval0
  have hW' := hW
  obtain ⟨p, q, hA0, hV, rfl, hfz, hnd⟩ := hW
  have hA : DataW.TrodAll enc Try.prog W 0 (fun _ => true) true Try.f9.params.toList args.toList ds p := hA0
  rw [Try.params9] at hA hval
  obtain ⟨v0, vs0, d0, ds0, p0, q0, hargs, rfl, rfl, h0, r0⟩ := trodAll_cons hA
  obtain ⟨v1, vs1, d1, ds1, p1, q1, rfl, rfl, rfl, h1, r1⟩ := trodAll_cons r0
  obtain ⟨v2, vs2, d2, ds2, p2, q2, rfl, rfl, rfl, h2, r2⟩ := trodAll_cons r1
  obtain ⟨v3, vs3, d3, ds3, p3, q3, rfl, rfl, rfl, h3, r3⟩ := trodAll_cons r2
  obtain ⟨rfl, rfl, rfl⟩ := trodAll_nil r3
  obtain rfl : args = #[v0, v1, v2, v3] := by cases args; simp_all
  obtain ⟨rfl, rfl⟩ := trodVars_none hV
  have k0 := h0
  have lt0 : ∀ x ∈ p0, x.block < W.heap.size := by obtain ⟨m, hm⟩ := k0; exact DataW.trod_lt m _ _ _ hm
  obtain ⟨fu0, hf0⟩ := h0
  obtain ⟨cs0, rfl, hsz0⟩ := okWide_struct Try.underlying25 (hval 0 25 v0 rfl rfl)
  obtain ⟨x1, x2, x3, rfl⟩ := array3 (hsz0.trans (show Try.prog.cellsOf 25 = 3 by kernel_rfl))
  replace hf0 : DataW.trod enc Try.prog W 0 (fun _ => true) true fu0 25 [x1, x2, x3] = some (d0, p0) := hf0
  obtain ⟨m4, hfs5⟩ := open_fields Try.underlying25 hf0
  obtain ⟨z6, hz7⟩ := field_of hfs5 0 _ rfl 22 [x1] rfl (by kernel_rfl)
  obtain ⟨p8, c9, xs10, e11, rd12, le13, ok14⟩ := open_slice (readsInt Try.underlying3 (by kernel_rfl)) (by decide) Try.underlying22 hz7
  obtain rfl : x1 = .slice p8 xs10.length c9 := by simpa using e11
  obtain ⟨z15, hz16⟩ := field_of hfs5 1 _ rfl 22 [x2] rfl (by kernel_rfl)
  obtain ⟨p17, c18, xs19, e20, rd21, le22, ok23⟩ := open_slice (readsInt Try.underlying3 (by kernel_rfl)) (by decide) Try.underlying22 hz16
  obtain rfl : x2 = .slice p17 xs19.length c18 := by simpa using e20
  obtain ⟨z24, hz25⟩ := field_of hfs5 2 _ rfl 23 [x3] rfl (by kernel_rfl)
  obtain ⟨p26, c27, xs28, e29, rd30, le31, ok32⟩ := open_slice (readsB Try.underlying4 (by kernel_rfl)) (by decide) Try.underlying23 hz25
  obtain rfl : x3 = .slice p26 xs28.length c27 := by simpa using e29
  have k1 := h1
  have lt1 : ∀ x ∈ p1, x.block < W.heap.size := by obtain ⟨m, hm⟩ := k1; exact DataW.trod_lt m _ _ _ hm
  obtain ⟨fu1, hf1⟩ := h1
  obtain ⟨a34, l35, c36, rfl⟩ := okWide_slice Try.underlying52 (hval 1 52 v1 rfl rfl)
  obtain ⟨p37, c38, xs39, e40, rd41, le42, ok43⟩ := open_deep (readsL reads44 (by decide) Try.underlying89 (by kernel_rfl)) (by decide) Try.underlying52 hf1
  simp only [Value.cells, List.cons.injEq, Value.slice.injEq, and_true] at e40
  obtain ⟨rfl, rfl, rfl⟩ := e40
  have k2 := h2
  have lt2 : ∀ x ∈ p2, x.block < W.heap.size := by obtain ⟨m, hm⟩ := k2; exact DataW.trod_lt m _ _ _ hm
  obtain ⟨fu2, hf2⟩ := h2
  obtain ⟨n45, rfl⟩ := okWide_int Try.underlying3 (hval 2 3 v2 rfl rfl)
  obtain ⟨n46, e47, _, wf48⟩ := DataW.trod_int Try.underlying3 hf2
  obtain rfl : n45 = n46 := by simpa [Value.cells] using e47
  have k3 := h3
  have lt3 : ∀ x ∈ p3, x.block < W.heap.size := by obtain ⟨m, hm⟩ := k3; exact DataW.trod_lt m _ _ _ hm
  obtain ⟨fu3, hf3⟩ := h3
  obtain ⟨n50, rfl⟩ := okWide_int Try.underlying3 (hval 3 3 v3 rfl rfl)
  obtain ⟨n51, e52, _, wf53⟩ := DataW.trod_int Try.underlying3 hf3
  obtain rfl : n50 = n51 := by simpa [Value.cells] using e52
  clear hA0 hval0
  refine (Calls.mono (c_l_FnExactRoundsUntil W (⟨xs10, xs19, xs28⟩ : Copying) p8 c9 rd12 p17 c18 rd21 p26 c27 rd30 xs39 a34 c36 rd41 n45 n50 (plain_RoundsUntil (⟨xs10, xs19, xs28⟩ : Copying) xs39 n45 n50 ⟨⟨le13, ok14⟩, ⟨le22, ok23⟩, ⟨le31, ok32⟩⟩ ⟨le42, ok43⟩ (wf_i64 wf48) (wf_i64 wf53)))) fun e W' hh => ?_
  obtain ⟨he, hM⟩ := hh
  subst he
  have bel := hM.below
  exact ⟨_, rfl, _, _, _, [], _, [], hW', trodAll_mk1 (shut_bool Try.underlying4 _), (trodAll_cons_mk (Below.trod laidOut (by kernel_rfl) (of_decide_eq_true (by kernel_rfl)) k0 bel lt0) (trodAll_cons_mk (Below.trod laidOut (by kernel_rfl) (of_decide_eq_true (by kernel_rfl)) k1 bel lt1) (trodAll_cons_mk (Below.trod laidOut (by kernel_rfl) (of_decide_eq_true (by kernel_rfl)) k2 bel lt2) (trodAll_cons_mk (Below.trod laidOut (by kernel_rfl) (of_decide_eq_true (by kernel_rfl)) k3 bel lt3) trodAll_mk0)))), rfl, bel.frame _, fun h => by cases h⟩
theorem over : Rows.fnExactRoundsUntilRow.holds Try.pinned (OpenSpec.ofChange Rows.fnExactRoundsUntilSpec) :=
  OpenClaim.holds_of_wide 9 Try.f9 rfl rfl rfl rfl rfl rfl rfl ⟨rfl, rfl, rfl, rfl, rfl⟩ rfl rfl rfl rfl rfl (by kernel_rfl) Try.func9 (by kernel_rfl)
    (of_decide_eq_true (by kernel_rfl)) (by unfold Func.isWrapper; first | (rw [if_pos (by decide +kernel)]; kernel_rfl) | (rw [if_neg (by decide +kernel)]; exact ⟨rfl, rfl⟩))
    (fun os started H enc _ => lifted os started H enc)
/-- The statement. -/
theorem proved : Rows.FnExactRoundsUntilSaid := over
#print axioms proved
end Go.Proofs.Ytjbblcdajdpfkaa.fnExactRoundsUntil
