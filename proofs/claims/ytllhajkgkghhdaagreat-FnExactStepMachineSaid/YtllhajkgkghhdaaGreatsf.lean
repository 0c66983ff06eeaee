/- Whatever it is given, laws.FnExactStepMachine returns true and leaves what was there as it was. -/
import Derived.Test.YtllhajkgkghhdaaGreatRows
import Derived.WalkKit
import Derived.ProofKit
import Derived.OpenShut
import Derived.ShutString
import Derived.Test.YtllhajkgkghhdaaGreatse
set_option linter.unusedVariables false
set_option linter.unusedSimpArgs false
set_option maxHeartbeats 4000000
namespace Go.Proofs.YtllhajkgkghhdaaGreat.fnExactStepMachine
open Go.ChangeShapes Go.WideShapes Go.ChangeAt Go.RowKit Go.Gx Go.Proofs.YtllhajkgkghhdaaGreat
open Go.ChangeMaps (open_string shut_string)
theorem array4 {α : Type} {cs : Array α} (h : cs.size = 4) : ∃ c0 c1 c2 c3, cs = #[c0, c1, c2, c3] := by
  obtain ⟨l⟩ := cs
  match l, h with
  | [c0, c1, c2, c3], _ => exact ⟨c0, c1, c2, c3, rfl⟩
theorem list131 {α : Type} {l : List α} (h : l.length = 2) : ∃ c0 c1, l = [c0, c1] := by
  match l, h with
  | [c0, c1], _ => exact ⟨c0, c1, rfl⟩
theorem reads131 : ReadsAs Tryz.prog 131 encRoute okRoute := by
  refine ⟨by kernel_rfl, fun H enc w base spare held fuel cs y h => ?_⟩
  obtain ⟨c0, c1, rfl⟩ := list131 ((trod_len Tryz.underlying131 h).trans (show Tryz.prog.cellsOf 131 = 2 by kernel_rfl))
  obtain ⟨m69, hfs70⟩ := open_fields Tryz.underlying131 h
  obtain ⟨z71, hz72⟩ := field_of hfs70 0 _ rfl 3 [c0] rfl (by kernel_rfl)
  obtain ⟨n73, e74, _, wf75⟩ := DataW.trod_int Tryz.underlying3 hz72
  obtain rfl : c0 = .int .i64 n73 := by simpa using e74
  obtain ⟨z76, hz77⟩ := field_of hfs70 1 _ rfl 3 [c1] rfl (by kernel_rfl)
  obtain ⟨n78, e79, _, wf80⟩ := DataW.trod_int Tryz.underlying3 hz77
  obtain rfl : c1 = .int .i64 n78 := by simpa using e79
  exact ⟨(⟨n73, n78⟩ : Route), rfl, ⟨(wf_i64 wf75), (wf_i64 wf80)⟩⟩
theorem list225 {α : Type} {l : List α} (h : l.length = 3) : ∃ c0 c1 c2, l = [c0, c1, c2] := by
  match l, h with
  | [c0, c1, c2], _ => exact ⟨c0, c1, c2, rfl⟩
theorem reads225 : ReadsAs Tryz.prog 225 encSlot okSlot := by
  refine ⟨by kernel_rfl, fun H enc w base spare held fuel cs y h => ?_⟩
  obtain ⟨c0, c1, c2, rfl⟩ := list225 ((trod_len Tryz.underlying225 h).trans (show Tryz.prog.cellsOf 225 = 3 by kernel_rfl))
  obtain ⟨m81, hfs82⟩ := open_fields Tryz.underlying225 h
  obtain ⟨z83, hz84⟩ := field_of hfs82 0 _ rfl 3 [c0] rfl (by kernel_rfl)
  obtain ⟨n85, e86, _, wf87⟩ := DataW.trod_int Tryz.underlying3 hz84
  obtain rfl : c0 = .int .i64 n85 := by simpa using e86
  obtain ⟨z88, hz89⟩ := field_of hfs82 1 _ rfl 3 [c1] rfl (by kernel_rfl)
  obtain ⟨n90, e91, _, wf92⟩ := DataW.trod_int Tryz.underlying3 hz89
  obtain rfl : c1 = .int .i64 n90 := by simpa using e91
  obtain ⟨z93, hz94⟩ := field_of hfs82 2 _ rfl 3 [c2] rfl (by kernel_rfl)
  obtain ⟨n95, e96, _, wf97⟩ := DataW.trod_int Tryz.underlying3 hz94
  obtain rfl : c2 = .int .i64 n95 := by simpa using e96
  exact ⟨(⟨n85, n90, n95⟩ : Slot), rfl, ⟨(wf_i64 wf87), (wf_i64 wf92), (wf_i64 wf97)⟩⟩
theorem list227 {α : Type} {l : List α} (h : l.length = 2) : ∃ c0 c1, l = [c0, c1] := by
  match l, h with
  | [c0, c1], _ => exact ⟨c0, c1, rfl⟩
theorem reads227 : ReadsAs Tryz.prog 227 encWaiter okWaiter := by
  refine ⟨by kernel_rfl, fun H enc w base spare held fuel cs y h => ?_⟩
  obtain ⟨c0, c1, rfl⟩ := list227 ((trod_len Tryz.underlying227 h).trans (show Tryz.prog.cellsOf 227 = 2 by kernel_rfl))
  obtain ⟨m98, hfs99⟩ := open_fields Tryz.underlying227 h
  obtain ⟨z100, hz101⟩ := field_of hfs99 0 _ rfl 3 [c0] rfl (by kernel_rfl)
  obtain ⟨n102, e103, _, wf104⟩ := DataW.trod_int Tryz.underlying3 hz101
  obtain rfl : c0 = .int .i64 n102 := by simpa using e103
  obtain ⟨z105, hz106⟩ := field_of hfs99 1 _ rfl 3 [c1] rfl (by kernel_rfl)
  obtain ⟨n107, e108, _, wf109⟩ := DataW.trod_int Tryz.underlying3 hz106
  obtain rfl : c1 = .int .i64 n107 := by simpa using e108
  exact ⟨(⟨n102, n107⟩ : Waiter), rfl, ⟨(wf_i64 wf104), (wf_i64 wf109)⟩⟩
theorem list126 {α : Type} {l : List α} (h : l.length = 4) : ∃ c0 c1 c2 c3, l = [c0, c1, c2, c3] := by
  match l, h with
  | [c0, c1, c2, c3], _ => exact ⟨c0, c1, c2, c3, rfl⟩
theorem readsD126 : ReadsDeep Tryz.prog 126 deepInterface okInterface := by
  refine ⟨by kernel_rfl, fun H enc w base spare held fuel cs y h => ?_⟩
  obtain ⟨c0, c1, c2, c3, rfl⟩ := list126 ((trod_len Tryz.underlying126 h).trans (show Tryz.prog.cellsOf 126 = 4 by kernel_rfl))
  obtain ⟨m110, hfs111⟩ := open_fields Tryz.underlying126 h
  obtain ⟨z112, hz113⟩ := field_of hfs111 0 _ rfl 3 [c0] rfl (by kernel_rfl)
  obtain ⟨n114, e115, _, wf116⟩ := DataW.trod_int Tryz.underlying3 hz113
  obtain rfl : c0 = .int .i64 n114 := by simpa using e115
  obtain ⟨z117, hz118⟩ := field_of hfs111 1 _ rfl 36 [c1] rfl (by kernel_rfl)
  obtain ⟨p119, c120, xs121, e122, rd123, le124, ok125⟩ := open_slice (readsInt Tryz.underlying3 (by kernel_rfl)) (by decide) Tryz.underlying36 hz118
  obtain rfl : c1 = .slice p119 xs121.length c120 := by simpa using e122
  obtain ⟨z126, hz127⟩ := field_of hfs111 2 _ rfl 124 [c2, c3] rfl (by kernel_rfl)
  obtain ⟨m128, hfs129⟩ := open_fields Tryz.underlying124 hz127
  obtain ⟨z130, hz131⟩ := field_of hfs129 0 _ rfl 121 [c2] rfl (by kernel_rfl)
  obtain ⟨p132, c133, xs134, e135, rd136, le137, ok138⟩ := open_slice reads225 (by decide) Tryz.underlying121 hz131
  obtain rfl : c2 = .slice p132 xs134.length c133 := by simpa using e135
  obtain ⟨z139, hz140⟩ := field_of hfs129 1 _ rfl 122 [c3] rfl (by kernel_rfl)
  obtain ⟨p141, c142, xs143, e144, rd145, le146, ok147⟩ := open_slice reads227 (by decide) Tryz.underlying122 hz140
  obtain rfl : c3 = .slice p141 xs143.length c142 := by simpa using e144
  exact ⟨((⟨n114, xs121, (⟨xs134, xs143⟩ : Queue)⟩ : Interface), plOf [(p119, c120), (p132, c133), (p141, c142)]), rfl, (rdJ_cons (i := ⟨Int, Gx.encI, _, p119, c120⟩) rd123 (rdJ_cons (i := ⟨Slot, encSlot, _, p132, c133⟩) rd136 (rdJ_cons (i := ⟨Waiter, encWaiter, _, p141, c142⟩) rd145 rdJ_nil))), ⟨(wf_i64 wf116), ⟨le124, ok125⟩, ⟨⟨le137, ok138⟩, ⟨le146, ok147⟩⟩⟩⟩
theorem own : ownKnob Tryz.prog.godebug = none := by kernel_rfl
theorem laidOut : laidOutB Tryz.prog = true := by kernel_rfl
set_option maxRecDepth 100000 in
theorem lifted (os : Os) (started : os.Started) (H : Type) (enc : TypeId × Value → H) :
    ReturnsInHanded {} Tryz.checked os 8 .any (Rows.fnExactStepMachineSpec.pre6 enc Tryz.prog Tryz.f8 Rows.fnExactStepMachineRow.domain false) (Rows.fnExactStepMachineSpec.post enc Tryz.prog Tryz.f8 false true false false) := by
  refine returnsInHanded_of_change (C := Tryz.checked) own started (by kernel_rfl) Tryz.func8
    (ChangeSpec.witness6 (enc := enc) (C := Tryz.checked) false ⟨#[], #[.agg #[.slice none 0 0, .slice none 0 0, .slice none 0 0, .slice none 0 0], .agg #[.int .i64 0, .int .i64 0, .int .i64 0, .int .i64 0]], []⟩ 8 (by kernel_rfl) (by kernel_rfl) (by kernel_rfl) (by kernel_rfl)) ?_
  intro W base args ds gs before hval0 hW hcnd _
  have hval : ∀ (j : Nat) t v, Tryz.f8.params[j]? = some t → args[j]? = some v → Value.okWide Tryz.prog W .any base t v := hval0
  have hW' := hW
  obtain ⟨p, q, hA0, hV, rfl, hfz, hnd⟩ := hW
  have hA : DataW.TrodAll enc Tryz.prog W 0 (fun _ => true) true Tryz.f8.params.toList args.toList ds p := hA0
  rw [Tryz.params8] at hA hval
  obtain ⟨v0, vs0, d0, ds0, p0, q0, hargs, rfl, rfl, h0, r0⟩ := trodAll_cons hA
  obtain ⟨v1, vs1, d1, ds1, p1, q1, rfl, rfl, rfl, h1, r1⟩ := trodAll_cons r0
  obtain ⟨rfl, rfl, rfl⟩ := trodAll_nil r1
  obtain rfl : args = #[v0, v1] := by cases args; simp_all
  obtain ⟨rfl, rfl⟩ := trodVars_none hV
  have k0 := h0
  have lt0 : ∀ x ∈ p0, x.block < W.heap.size := by obtain ⟨m, hm⟩ := k0; exact DataW.trod_lt m _ _ _ hm
  obtain ⟨fu0, hf0⟩ := h0
  obtain ⟨cs0, rfl, hsz0⟩ := okWide_struct Tryz.underlying26 (hval 0 26 v0 rfl rfl)
  obtain ⟨x1, x2, x3, x4, rfl⟩ := array4 (hsz0.trans (show Tryz.prog.cellsOf 26 = 4 by kernel_rfl))
  replace hf0 : DataW.trod enc Tryz.prog W 0 (fun _ => true) true fu0 26 [x1, x2, x3, x4] = some (d0, p0) := hf0
  obtain ⟨m5, hfs6⟩ := open_fields Tryz.underlying26 hf0
  obtain ⟨z7, hz8⟩ := field_of hfs6 0 _ rfl 22 [x1] rfl (by kernel_rfl)
  obtain ⟨p9, c10, xs11, e12, rd13, le14, ok15⟩ := open_slice reads131 (by decide) Tryz.underlying22 hz8
  obtain rfl : x1 = .slice p9 xs11.length c10 := by simpa using e12
  obtain ⟨z16, hz17⟩ := field_of hfs6 1 _ rfl 23 [x2] rfl (by kernel_rfl)
  obtain ⟨p18, c19, xs20, e21, rd22, le23, ok24⟩ := open_slice (readsB Tryz.underlying4 (by kernel_rfl)) (by decide) Tryz.underlying23 hz17
  obtain rfl : x2 = .slice p18 xs20.length c19 := by simpa using e21
  obtain ⟨z25, hz26⟩ := field_of hfs6 2 _ rfl 23 [x3] rfl (by kernel_rfl)
  obtain ⟨p27, c28, xs29, e30, rd31, le32, ok33⟩ := open_slice (readsB Tryz.underlying4 (by kernel_rfl)) (by decide) Tryz.underlying23 hz26
  obtain rfl : x3 = .slice p27 xs29.length c28 := by simpa using e30
  obtain ⟨z34, hz35⟩ := field_of hfs6 3 _ rfl 24 [x4] rfl (by kernel_rfl)
  obtain ⟨p36, c37, xs38, e39, rd40, le41, ok42⟩ := open_deep readsD126 (by decide) Tryz.underlying24 hz35
  obtain rfl : x4 = .slice p36 xs38.length c37 := by simpa using e39
  have k1 := h1
  have lt1 : ∀ x ∈ p1, x.block < W.heap.size := by obtain ⟨m, hm⟩ := k1; exact DataW.trod_lt m _ _ _ hm
  obtain ⟨fu1, hf1⟩ := h1
  obtain ⟨cs1, rfl, hsz1⟩ := okWide_struct Tryz.underlying48 (hval 1 48 v1 rfl rfl)
  obtain ⟨x43, x44, x45, x46, rfl⟩ := array4 (hsz1.trans (show Tryz.prog.cellsOf 48 = 4 by kernel_rfl))
  replace hf1 : DataW.trod enc Tryz.prog W 0 (fun _ => true) true fu1 48 [x43, x44, x45, x46] = some (d1, p1) := hf1
  obtain ⟨m47, hfs48⟩ := open_fields Tryz.underlying48 hf1
  obtain ⟨z49, hz50⟩ := field_of hfs48 0 _ rfl 3 [x43] rfl (by kernel_rfl)
  obtain ⟨n51, e52, _, wf53⟩ := DataW.trod_int Tryz.underlying3 hz50
  obtain rfl : x43 = .int .i64 n51 := by simpa using e52
  obtain ⟨z54, hz55⟩ := field_of hfs48 1 _ rfl 3 [x44] rfl (by kernel_rfl)
  obtain ⟨n56, e57, _, wf58⟩ := DataW.trod_int Tryz.underlying3 hz55
  obtain rfl : x44 = .int .i64 n56 := by simpa using e57
  obtain ⟨z59, hz60⟩ := field_of hfs48 2 _ rfl 3 [x45] rfl (by kernel_rfl)
  obtain ⟨n61, e62, _, wf63⟩ := DataW.trod_int Tryz.underlying3 hz60
  obtain rfl : x45 = .int .i64 n61 := by simpa using e62
  obtain ⟨z64, hz65⟩ := field_of hfs48 3 _ rfl 3 [x46] rfl (by kernel_rfl)
  obtain ⟨n66, e67, _, wf68⟩ := DataW.trod_int Tryz.underlying3 hz65
  obtain rfl : x46 = .int .i64 n66 := by simpa using e67
  clear hA0 hval0
  refine (Calls.mono (c_l_FnExactStepMachine W (⟨xs11, xs20, xs29, xs38⟩ : Machine) p9 c10 rd13 p18 c19 rd22 p27 c28 rd31 p36 c37 rd40 (⟨n51, n56, n61, n66⟩ : MachStep) (plain_StepMachine (⟨xs11, xs20, xs29, xs38⟩ : Machine) (⟨n51, n56, n61, n66⟩ : MachStep) ⟨⟨le14, ok15⟩, ⟨le23, ok24⟩, ⟨le32, ok33⟩, ⟨le41, ok42⟩⟩ ⟨(wf_i64 wf53), (wf_i64 wf58), (wf_i64 wf63), (wf_i64 wf68)⟩))) fun e W' hh => ?_
  obtain ⟨he, hM⟩ := hh
  subst he
  have bel := hM.below
  exact ⟨_, rfl, _, _, _, [], _, [], hW', trodAll_mk1 (shut_bool Tryz.underlying4 _), (trodAll_cons_mk (Below.trod laidOut (by kernel_rfl) (of_decide_eq_true (by kernel_rfl)) k0 bel lt0) (trodAll_cons_mk (Below.trod laidOut (by kernel_rfl) (of_decide_eq_true (by kernel_rfl)) k1 bel lt1) trodAll_mk0)), rfl, bel.frame _, fun h => by cases h⟩
theorem over : Rows.fnExactStepMachineRow.holds Tryz.pinned (OpenSpec.ofChange Rows.fnExactStepMachineSpec) :=
  OpenClaim.holds_of_wide 8 Tryz.f8 rfl rfl rfl rfl rfl rfl rfl ⟨rfl, rfl, rfl, rfl, rfl⟩ rfl rfl rfl rfl rfl (by kernel_rfl) Tryz.func8 (by (unfold joinedFacts); (simp only [Bool.and_eq_true]); (repeat' (refine And.intro ?_ ?_)); all_goals (as_aux_lemma => kernel_rfl))
    (of_decide_eq_true (by kernel_rfl)) (by unfold Func.isWrapper; first | (rw [if_pos (by decide +kernel)]; kernel_rfl) | (rw [if_neg (by decide +kernel)]; exact ⟨rfl, rfl⟩))
    (fun os started H enc _ => lifted os started H enc)
theorem proved : Rows.FnExactStepMachineSaid := over
#print axioms proved
end Go.Proofs.YtllhajkgkghhdaaGreat.fnExactStepMachine
