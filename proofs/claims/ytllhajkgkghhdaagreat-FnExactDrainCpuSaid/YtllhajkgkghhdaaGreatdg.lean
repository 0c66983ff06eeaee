/- Whatever it is given, laws.FnExactDrainCpu returns true and leaves what was there as it was. -/
import Derived.Test.YtllhajkgkghhdaaGreatRows
import Derived.WalkKit
import Derived.ProofKit
import Derived.OpenShut
import Derived.ShutString
import Derived.Test.YtllhajkgkghhdaaGreatdf
set_option linter.unusedVariables false
set_option linter.unusedSimpArgs false
set_option maxHeartbeats 4000000
namespace Go.Proofs.YtllhajkgkghhdaaGreat.fnExactDrainCpu
open Go.ChangeShapes Go.WideShapes Go.ChangeAt Go.RowKit Go.Gx Go.Proofs.YtllhajkgkghhdaaGreat
open Go.ChangeMaps (open_string shut_string)
theorem array4 {α : Type} {cs : Array α} (h : cs.size = 4) : ∃ c0 c1 c2 c3, cs = #[c0, c1, c2, c3] := by
  obtain ⟨l⟩ := cs
  match l, h with
  | [c0, c1, c2, c3], _ => exact ⟨c0, c1, c2, c3, rfl⟩
theorem list131 {α : Type} {l : List α} (h : l.length = 2) : ∃ c0 c1, l = [c0, c1] := by
  match l, h with
  | [c0, c1], _ => exact ⟨c0, c1, rfl⟩
theorem reads131 : ReadsAs Tryz.prog 131 encRoute okRoute := by
  refine ⟨by kernel_rfl, fun H enc w base spare held fuel cs y h => ?_⟩
  obtain ⟨c0, c1, rfl⟩ := list131 ((trod_len Tryz.underlying131 h).trans (show Tryz.prog.cellsOf 131 = 2 by kernel_rfl))
  obtain ⟨m48, hfs49⟩ := open_fields Tryz.underlying131 h
  obtain ⟨z50, hz51⟩ := field_of hfs49 0 _ rfl 3 [c0] rfl (by kernel_rfl)
  obtain ⟨n52, e53, _, wf54⟩ := DataW.trod_int Tryz.underlying3 hz51
  obtain rfl : c0 = .int .i64 n52 := by simpa using e53
  obtain ⟨z55, hz56⟩ := field_of hfs49 1 _ rfl 3 [c1] rfl (by kernel_rfl)
  obtain ⟨n57, e58, _, wf59⟩ := DataW.trod_int Tryz.underlying3 hz56
  obtain rfl : c1 = .int .i64 n57 := by simpa using e58
  exact ⟨(⟨n52, n57⟩ : Route), rfl, ⟨(wf_i64 wf54), (wf_i64 wf59)⟩⟩
theorem list225 {α : Type} {l : List α} (h : l.length = 3) : ∃ c0 c1 c2, l = [c0, c1, c2] := by
  match l, h with
  | [c0, c1, c2], _ => exact ⟨c0, c1, c2, rfl⟩
theorem reads225 : ReadsAs Tryz.prog 225 encSlot okSlot := by
  refine ⟨by kernel_rfl, fun H enc w base spare held fuel cs y h => ?_⟩
  obtain ⟨c0, c1, c2, rfl⟩ := list225 ((trod_len Tryz.underlying225 h).trans (show Tryz.prog.cellsOf 225 = 3 by kernel_rfl))
  obtain ⟨m60, hfs61⟩ := open_fields Tryz.underlying225 h
  obtain ⟨z62, hz63⟩ := field_of hfs61 0 _ rfl 3 [c0] rfl (by kernel_rfl)
  obtain ⟨n64, e65, _, wf66⟩ := DataW.trod_int Tryz.underlying3 hz63
  obtain rfl : c0 = .int .i64 n64 := by simpa using e65
  obtain ⟨z67, hz68⟩ := field_of hfs61 1 _ rfl 3 [c1] rfl (by kernel_rfl)
  obtain ⟨n69, e70, _, wf71⟩ := DataW.trod_int Tryz.underlying3 hz68
  obtain rfl : c1 = .int .i64 n69 := by simpa using e70
  obtain ⟨z72, hz73⟩ := field_of hfs61 2 _ rfl 3 [c2] rfl (by kernel_rfl)
  obtain ⟨n74, e75, _, wf76⟩ := DataW.trod_int Tryz.underlying3 hz73
  obtain rfl : c2 = .int .i64 n74 := by simpa using e75
  exact ⟨(⟨n64, n69, n74⟩ : Slot), rfl, ⟨(wf_i64 wf66), (wf_i64 wf71), (wf_i64 wf76)⟩⟩
theorem list227 {α : Type} {l : List α} (h : l.length = 2) : ∃ c0 c1, l = [c0, c1] := by
  match l, h with
  | [c0, c1], _ => exact ⟨c0, c1, rfl⟩
theorem reads227 : ReadsAs Tryz.prog 227 encWaiter okWaiter := by
  refine ⟨by kernel_rfl, fun H enc w base spare held fuel cs y h => ?_⟩
  obtain ⟨c0, c1, rfl⟩ := list227 ((trod_len Tryz.underlying227 h).trans (show Tryz.prog.cellsOf 227 = 2 by kernel_rfl))
  obtain ⟨m77, hfs78⟩ := open_fields Tryz.underlying227 h
  obtain ⟨z79, hz80⟩ := field_of hfs78 0 _ rfl 3 [c0] rfl (by kernel_rfl)
  obtain ⟨n81, e82, _, wf83⟩ := DataW.trod_int Tryz.underlying3 hz80
  obtain rfl : c0 = .int .i64 n81 := by simpa using e82
  obtain ⟨z84, hz85⟩ := field_of hfs78 1 _ rfl 3 [c1] rfl (by kernel_rfl)
  obtain ⟨n86, e87, _, wf88⟩ := DataW.trod_int Tryz.underlying3 hz85
  obtain rfl : c1 = .int .i64 n86 := by simpa using e87
  exact ⟨(⟨n81, n86⟩ : Waiter), rfl, ⟨(wf_i64 wf83), (wf_i64 wf88)⟩⟩
theorem list126 {α : Type} {l : List α} (h : l.length = 4) : ∃ c0 c1 c2 c3, l = [c0, c1, c2, c3] := by
  match l, h with
  | [c0, c1, c2, c3], _ => exact ⟨c0, c1, c2, c3, rfl⟩
theorem readsD126 : ReadsDeep Tryz.prog 126 deepInterface okInterface := by
  refine ⟨by kernel_rfl, fun H enc w base spare held fuel cs y h => ?_⟩
  obtain ⟨c0, c1, c2, c3, rfl⟩ := list126 ((trod_len Tryz.underlying126 h).trans (show Tryz.prog.cellsOf 126 = 4 by kernel_rfl))
  obtain ⟨m89, hfs90⟩ := open_fields Tryz.underlying126 h
  obtain ⟨z91, hz92⟩ := field_of hfs90 0 _ rfl 3 [c0] rfl (by kernel_rfl)
  obtain ⟨n93, e94, _, wf95⟩ := DataW.trod_int Tryz.underlying3 hz92
  obtain rfl : c0 = .int .i64 n93 := by simpa using e94
  obtain ⟨z96, hz97⟩ := field_of hfs90 1 _ rfl 36 [c1] rfl (by kernel_rfl)
  obtain ⟨p98, c99, xs100, e101, rd102, le103, ok104⟩ := open_slice (readsInt Tryz.underlying3 (by kernel_rfl)) (by decide) Tryz.underlying36 hz97
  obtain rfl : c1 = .slice p98 xs100.length c99 := by simpa using e101
  obtain ⟨z105, hz106⟩ := field_of hfs90 2 _ rfl 124 [c2, c3] rfl (by kernel_rfl)
  obtain ⟨m107, hfs108⟩ := open_fields Tryz.underlying124 hz106
  obtain ⟨z109, hz110⟩ := field_of hfs108 0 _ rfl 121 [c2] rfl (by kernel_rfl)
  obtain ⟨p111, c112, xs113, e114, rd115, le116, ok117⟩ := open_slice reads225 (by decide) Tryz.underlying121 hz110
  obtain rfl : c2 = .slice p111 xs113.length c112 := by simpa using e114
  obtain ⟨z118, hz119⟩ := field_of hfs108 1 _ rfl 122 [c3] rfl (by kernel_rfl)
  obtain ⟨p120, c121, xs122, e123, rd124, le125, ok126⟩ := open_slice reads227 (by decide) Tryz.underlying122 hz119
  obtain rfl : c3 = .slice p120 xs122.length c121 := by simpa using e123
  exact ⟨((⟨n93, xs100, (⟨xs113, xs122⟩ : Queue)⟩ : Interface), plOf [(p98, c99), (p111, c112), (p120, c121)]), rfl, (rdJ_cons (i := ⟨Int, Gx.encI, _, p98, c99⟩) rd102 (rdJ_cons (i := ⟨Slot, encSlot, _, p111, c112⟩) rd115 (rdJ_cons (i := ⟨Waiter, encWaiter, _, p120, c121⟩) rd124 rdJ_nil))), ⟨(wf_i64 wf95), ⟨le103, ok104⟩, ⟨⟨le116, ok117⟩, ⟨le125, ok126⟩⟩⟩⟩
theorem own : ownKnob Tryz.prog.godebug = none := by kernel_rfl
theorem laidOut : laidOutB Tryz.prog = true := by kernel_rfl
set_option maxRecDepth 100000 in
theorem lifted (os : Os) (started : os.Started) (H : Type) (enc : TypeId × Value → H) :
    ReturnsInHanded {} Tryz.checked os 7 .any (Rows.fnExactDrainCpuSpec.pre6 enc Tryz.prog Tryz.f7 Rows.fnExactDrainCpuRow.domain false) (Rows.fnExactDrainCpuSpec.post enc Tryz.prog Tryz.f7 false true false false) := by
  refine returnsInHanded_of_change (C := Tryz.checked) own started (by kernel_rfl) Tryz.func7
    (ChangeSpec.witness6 (enc := enc) (C := Tryz.checked) false ⟨#[], #[.agg #[.slice none 0 0, .slice none 0 0, .slice none 0 0, .slice none 0 0], .int .i64 0], []⟩ 8 (by kernel_rfl) (by kernel_rfl) (by kernel_rfl) (by kernel_rfl)) ?_
  intro W base args ds gs before hval0 hW hcnd _
  have hval : ∀ (j : Nat) t v, Tryz.f7.params[j]? = some t → args[j]? = some v → Value.okWide Tryz.prog W .any base t v := hval0
  have hW' := hW
  obtain ⟨p, q, hA0, hV, rfl, hfz, hnd⟩ := hW
  have hA : DataW.TrodAll enc Tryz.prog W 0 (fun _ => true) true Tryz.f7.params.toList args.toList ds p := hA0
  rw [Tryz.params7] at hA hval
  obtain ⟨v0, vs0, d0, ds0, p0, q0, hargs, rfl, rfl, h0, r0⟩ := trodAll_cons hA
  obtain ⟨v1, vs1, d1, ds1, p1, q1, rfl, rfl, rfl, h1, r1⟩ := trodAll_cons r0
  obtain ⟨rfl, rfl, rfl⟩ := trodAll_nil r1
  obtain rfl : args = #[v0, v1] := by cases args; simp_all
  obtain ⟨rfl, rfl⟩ := trodVars_none hV
  have k0 := h0
  have lt0 : ∀ x ∈ p0, x.block < W.heap.size := by obtain ⟨m, hm⟩ := k0; exact DataW.trod_lt m _ _ _ hm
  obtain ⟨fu0, hf0⟩ := h0
  obtain ⟨cs0, rfl, hsz0⟩ := okWide_struct Tryz.underlying26 (hval 0 26 v0 rfl rfl)
  obtain ⟨x1, x2, x3, x4, rfl⟩ := array4 (hsz0.trans (show Tryz.prog.cellsOf 26 = 4 by kernel_rfl))
  replace hf0 : DataW.trod enc Tryz.prog W 0 (fun _ => true) true fu0 26 [x1, x2, x3, x4] = some (d0, p0) := hf0
  obtain ⟨m5, hfs6⟩ := open_fields Tryz.underlying26 hf0
  obtain ⟨z7, hz8⟩ := field_of hfs6 0 _ rfl 22 [x1] rfl (by kernel_rfl)
  obtain ⟨p9, c10, xs11, e12, rd13, le14, ok15⟩ := open_slice reads131 (by decide) Tryz.underlying22 hz8
  obtain rfl : x1 = .slice p9 xs11.length c10 := by simpa using e12
  obtain ⟨z16, hz17⟩ := field_of hfs6 1 _ rfl 23 [x2] rfl (by kernel_rfl)
  obtain ⟨p18, c19, xs20, e21, rd22, le23, ok24⟩ := open_slice (readsB Tryz.underlying4 (by kernel_rfl)) (by decide) Tryz.underlying23 hz17
  obtain rfl : x2 = .slice p18 xs20.length c19 := by simpa using e21
  obtain ⟨z25, hz26⟩ := field_of hfs6 2 _ rfl 23 [x3] rfl (by kernel_rfl)
  obtain ⟨p27, c28, xs29, e30, rd31, le32, ok33⟩ := open_slice (readsB Tryz.underlying4 (by kernel_rfl)) (by decide) Tryz.underlying23 hz26
  obtain rfl : x3 = .slice p27 xs29.length c28 := by simpa using e30
  obtain ⟨z34, hz35⟩ := field_of hfs6 3 _ rfl 24 [x4] rfl (by kernel_rfl)
  obtain ⟨p36, c37, xs38, e39, rd40, le41, ok42⟩ := open_deep readsD126 (by decide) Tryz.underlying24 hz35
  obtain rfl : x4 = .slice p36 xs38.length c37 := by simpa using e39
  have k1 := h1
  have lt1 : ∀ x ∈ p1, x.block < W.heap.size := by obtain ⟨m, hm⟩ := k1; exact DataW.trod_lt m _ _ _ hm
  obtain ⟨fu1, hf1⟩ := h1
  obtain ⟨n44, rfl⟩ := okWide_int Tryz.underlying3 (hval 1 3 v1 rfl rfl)
  obtain ⟨n45, e46, _, wf47⟩ := DataW.trod_int Tryz.underlying3 hf1
  obtain rfl : n44 = n45 := by simpa [Value.cells] using e46
  clear hA0 hval0
  refine (Calls.mono (c_l_FnExactDrainCpu W (⟨xs11, xs20, xs29, xs38⟩ : Machine) p9 c10 rd13 p18 c19 rd22 p27 c28 rd31 p36 c37 rd40 n44 (plain_DrainCpu (⟨xs11, xs20, xs29, xs38⟩ : Machine) n44 ⟨⟨le14, ok15⟩, ⟨le23, ok24⟩, ⟨le32, ok33⟩, ⟨le41, ok42⟩⟩ (wf_i64 wf47)))) fun e W' hh => ?_
  obtain ⟨he, hM⟩ := hh
  subst he
  have bel := hM.below
  exact ⟨_, rfl, _, _, _, [], _, [], hW', trodAll_mk1 (shut_bool Tryz.underlying4 _), (trodAll_cons_mk (Below.trod laidOut (by kernel_rfl) (of_decide_eq_true (by kernel_rfl)) k0 bel lt0) (trodAll_cons_mk (Below.trod laidOut (by kernel_rfl) (of_decide_eq_true (by kernel_rfl)) k1 bel lt1) trodAll_mk0)), rfl, bel.frame _, fun h => by cases h⟩
theorem over : Rows.fnExactDrainCpuRow.holds Tryz.pinned (OpenSpec.ofChange Rows.fnExactDrainCpuSpec) :=
  OpenClaim.holds_of_wide 7 Tryz.f7 rfl rfl rfl rfl rfl rfl rfl ⟨rfl, rfl, rfl, rfl, rfl⟩ rfl rfl rfl rfl rfl (by kernel_rfl) Tryz.func7 (by (unfold joinedFacts); (simp only [Bool.and_eq_true]); (repeat' (refine And.intro ?_ ?_)); all_goals (as_aux_lemma => kernel_rfl))
    (of_decide_eq_true (by kernel_rfl)) (by unfold Func.isWrapper; first | (rw [if_pos (by decide +kernel)]; kernel_rfl) | (rw [if_neg (by decide +kernel)]; exact ⟨rfl, rfl⟩))
    (fun os started H enc _ => lifted os started H enc)
theorem proved : Rows.FnExactDrainCpuSaid := over
#print axioms proved
end Go.Proofs.YtllhajkgkghhdaaGreat.fnExactDrainCpu
