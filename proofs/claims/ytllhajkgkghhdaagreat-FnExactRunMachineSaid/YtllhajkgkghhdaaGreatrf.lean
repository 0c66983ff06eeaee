/- Whatever it is given, laws.FnExactRunMachine returns true and leaves what was there as it was. -/
import Derived.Test.YtllhajkgkghhdaaGreatRows
import Derived.WalkKit
import Derived.ProofKit
import Derived.OpenShut
import Derived.ShutString
import Derived.Test.YtllhajkgkghhdaaGreatre
set_option linter.unusedVariables false
set_option linter.unusedSimpArgs false
set_option maxHeartbeats 4000000
namespace Go.Proofs.YtllhajkgkghhdaaGreat.fnExactRunMachine
open Go.ChangeShapes Go.WideShapes Go.ChangeAt Go.RowKit Go.Gx Go.Proofs.YtllhajkgkghhdaaGreat
open Go.ChangeMaps (open_string shut_string)
theorem array4 {α : Type} {cs : Array α} (h : cs.size = 4) : ∃ c0 c1 c2 c3, cs = #[c0, c1, c2, c3] := by
  obtain ⟨l⟩ := cs
  match l, h with
  | [c0, c1, c2, c3], _ => exact ⟨c0, c1, c2, c3, rfl⟩
theorem list131 {α : Type} {l : List α} (h : l.length = 2) : ∃ c0 c1, l = [c0, c1] := by
  match l, h with
  | [c0, c1], _ => exact ⟨c0, c1, rfl⟩
theorem reads131 : ReadsAs Tryz.prog 131 encRoute okRoute := by
  refine ⟨by kernel_rfl, fun H enc w base spare held fuel cs y h => ?_⟩
  obtain ⟨c0, c1, rfl⟩ := list131 ((trod_len Tryz.underlying131 h).trans (show Tryz.prog.cellsOf 131 = 2 by kernel_rfl))
  obtain ⟨m54, hfs55⟩ := open_fields Tryz.underlying131 h
  obtain ⟨z56, hz57⟩ := field_of hfs55 0 _ rfl 3 [c0] rfl (by kernel_rfl)
  obtain ⟨n58, e59, _, wf60⟩ := DataW.trod_int Tryz.underlying3 hz57
  obtain rfl : c0 = .int .i64 n58 := by simpa using e59
  obtain ⟨z61, hz62⟩ := field_of hfs55 1 _ rfl 3 [c1] rfl (by kernel_rfl)
  obtain ⟨n63, e64, _, wf65⟩ := DataW.trod_int Tryz.underlying3 hz62
  obtain rfl : c1 = .int .i64 n63 := by simpa using e64
  exact ⟨(⟨n58, n63⟩ : Route), rfl, ⟨(wf_i64 wf60), (wf_i64 wf65)⟩⟩
theorem list225 {α : Type} {l : List α} (h : l.length = 3) : ∃ c0 c1 c2, l = [c0, c1, c2] := by
  match l, h with
  | [c0, c1, c2], _ => exact ⟨c0, c1, c2, rfl⟩
theorem reads225 : ReadsAs Tryz.prog 225 encSlot okSlot := by
  refine ⟨by kernel_rfl, fun H enc w base spare held fuel cs y h => ?_⟩
  obtain ⟨c0, c1, c2, rfl⟩ := list225 ((trod_len Tryz.underlying225 h).trans (show Tryz.prog.cellsOf 225 = 3 by kernel_rfl))
  obtain ⟨m66, hfs67⟩ := open_fields Tryz.underlying225 h
  obtain ⟨z68, hz69⟩ := field_of hfs67 0 _ rfl 3 [c0] rfl (by kernel_rfl)
  obtain ⟨n70, e71, _, wf72⟩ := DataW.trod_int Tryz.underlying3 hz69
  obtain rfl : c0 = .int .i64 n70 := by simpa using e71
  obtain ⟨z73, hz74⟩ := field_of hfs67 1 _ rfl 3 [c1] rfl (by kernel_rfl)
  obtain ⟨n75, e76, _, wf77⟩ := DataW.trod_int Tryz.underlying3 hz74
  obtain rfl : c1 = .int .i64 n75 := by simpa using e76
  obtain ⟨z78, hz79⟩ := field_of hfs67 2 _ rfl 3 [c2] rfl (by kernel_rfl)
  obtain ⟨n80, e81, _, wf82⟩ := DataW.trod_int Tryz.underlying3 hz79
  obtain rfl : c2 = .int .i64 n80 := by simpa using e81
  exact ⟨(⟨n70, n75, n80⟩ : Slot), rfl, ⟨(wf_i64 wf72), (wf_i64 wf77), (wf_i64 wf82)⟩⟩
theorem list227 {α : Type} {l : List α} (h : l.length = 2) : ∃ c0 c1, l = [c0, c1] := by
  match l, h with
  | [c0, c1], _ => exact ⟨c0, c1, rfl⟩
theorem reads227 : ReadsAs Tryz.prog 227 encWaiter okWaiter := by
  refine ⟨by kernel_rfl, fun H enc w base spare held fuel cs y h => ?_⟩
  obtain ⟨c0, c1, rfl⟩ := list227 ((trod_len Tryz.underlying227 h).trans (show Tryz.prog.cellsOf 227 = 2 by kernel_rfl))
  obtain ⟨m83, hfs84⟩ := open_fields Tryz.underlying227 h
  obtain ⟨z85, hz86⟩ := field_of hfs84 0 _ rfl 3 [c0] rfl (by kernel_rfl)
  obtain ⟨n87, e88, _, wf89⟩ := DataW.trod_int Tryz.underlying3 hz86
  obtain rfl : c0 = .int .i64 n87 := by simpa using e88
  obtain ⟨z90, hz91⟩ := field_of hfs84 1 _ rfl 3 [c1] rfl (by kernel_rfl)
  obtain ⟨n92, e93, _, wf94⟩ := DataW.trod_int Tryz.underlying3 hz91
  obtain rfl : c1 = .int .i64 n92 := by simpa using e93
  exact ⟨(⟨n87, n92⟩ : Waiter), rfl, ⟨(wf_i64 wf89), (wf_i64 wf94)⟩⟩
theorem list126 {α : Type} {l : List α} (h : l.length = 4) : ∃ c0 c1 c2 c3, l = [c0, c1, c2, c3] := by
  match l, h with
  | [c0, c1, c2, c3], _ => exact ⟨c0, c1, c2, c3, rfl⟩
theorem readsD126 : ReadsDeep Tryz.prog 126 deepInterface okInterface := by
  refine ⟨by kernel_rfl, fun H enc w base spare held fuel cs y h => ?_⟩
  obtain ⟨c0, c1, c2, c3, rfl⟩ := list126 ((trod_len Tryz.underlying126 h).trans (show Tryz.prog.cellsOf 126 = 4 by kernel_rfl))
  obtain ⟨m95, hfs96⟩ := open_fields Tryz.underlying126 h
  obtain ⟨z97, hz98⟩ := field_of hfs96 0 _ rfl 3 [c0] rfl (by kernel_rfl)
  obtain ⟨n99, e100, _, wf101⟩ := DataW.trod_int Tryz.underlying3 hz98
  obtain rfl : c0 = .int .i64 n99 := by simpa using e100
  obtain ⟨z102, hz103⟩ := field_of hfs96 1 _ rfl 36 [c1] rfl (by kernel_rfl)
  obtain ⟨p104, c105, xs106, e107, rd108, le109, ok110⟩ := open_slice (readsInt Tryz.underlying3 (by kernel_rfl)) (by decide) Tryz.underlying36 hz103
  obtain rfl : c1 = .slice p104 xs106.length c105 := by simpa using e107
  obtain ⟨z111, hz112⟩ := field_of hfs96 2 _ rfl 124 [c2, c3] rfl (by kernel_rfl)
  obtain ⟨m113, hfs114⟩ := open_fields Tryz.underlying124 hz112
  obtain ⟨z115, hz116⟩ := field_of hfs114 0 _ rfl 121 [c2] rfl (by kernel_rfl)
  obtain ⟨p117, c118, xs119, e120, rd121, le122, ok123⟩ := open_slice reads225 (by decide) Tryz.underlying121 hz116
  obtain rfl : c2 = .slice p117 xs119.length c118 := by simpa using e120
  obtain ⟨z124, hz125⟩ := field_of hfs114 1 _ rfl 122 [c3] rfl (by kernel_rfl)
  obtain ⟨p126, c127, xs128, e129, rd130, le131, ok132⟩ := open_slice reads227 (by decide) Tryz.underlying122 hz125
  obtain rfl : c3 = .slice p126 xs128.length c127 := by simpa using e129
  exact ⟨((⟨n99, xs106, (⟨xs119, xs128⟩ : Queue)⟩ : Interface), plOf [(p104, c105), (p117, c118), (p126, c127)]), rfl, (rdJ_cons (i := ⟨Int, Gx.encI, _, p104, c105⟩) rd108 (rdJ_cons (i := ⟨Slot, encSlot, _, p117, c118⟩) rd121 (rdJ_cons (i := ⟨Waiter, encWaiter, _, p126, c127⟩) rd130 rdJ_nil))), ⟨(wf_i64 wf101), ⟨le109, ok110⟩, ⟨⟨le122, ok123⟩, ⟨le131, ok132⟩⟩⟩⟩
theorem list48 {α : Type} {l : List α} (h : l.length = 4) : ∃ c0 c1 c2 c3, l = [c0, c1, c2, c3] := by
  match l, h with
  | [c0, c1, c2, c3], _ => exact ⟨c0, c1, c2, c3, rfl⟩
theorem reads48 : ReadsAs Tryz.prog 48 encMachStep okMachStep := by
  refine ⟨by kernel_rfl, fun H enc w base spare held fuel cs y h => ?_⟩
  obtain ⟨c0, c1, c2, c3, rfl⟩ := list48 ((trod_len Tryz.underlying48 h).trans (show Tryz.prog.cellsOf 48 = 4 by kernel_rfl))
  obtain ⟨m133, hfs134⟩ := open_fields Tryz.underlying48 h
  obtain ⟨z135, hz136⟩ := field_of hfs134 0 _ rfl 3 [c0] rfl (by kernel_rfl)
  obtain ⟨n137, e138, _, wf139⟩ := DataW.trod_int Tryz.underlying3 hz136
  obtain rfl : c0 = .int .i64 n137 := by simpa using e138
  obtain ⟨z140, hz141⟩ := field_of hfs134 1 _ rfl 3 [c1] rfl (by kernel_rfl)
  obtain ⟨n142, e143, _, wf144⟩ := DataW.trod_int Tryz.underlying3 hz141
  obtain rfl : c1 = .int .i64 n142 := by simpa using e143
  obtain ⟨z145, hz146⟩ := field_of hfs134 2 _ rfl 3 [c2] rfl (by kernel_rfl)
  obtain ⟨n147, e148, _, wf149⟩ := DataW.trod_int Tryz.underlying3 hz146
  obtain rfl : c2 = .int .i64 n147 := by simpa using e148
  obtain ⟨z150, hz151⟩ := field_of hfs134 3 _ rfl 3 [c3] rfl (by kernel_rfl)
  obtain ⟨n152, e153, _, wf154⟩ := DataW.trod_int Tryz.underlying3 hz151
  obtain rfl : c3 = .int .i64 n152 := by simpa using e153
  exact ⟨(⟨n137, n142, n147, n152⟩ : MachStep), rfl, ⟨(wf_i64 wf139), (wf_i64 wf144), (wf_i64 wf149), (wf_i64 wf154)⟩⟩
theorem own : ownKnob Tryz.prog.godebug = none := by kernel_rfl
theorem laidOut : laidOutB Tryz.prog = true := by kernel_rfl
set_option maxRecDepth 100000 in
theorem lifted (os : Os) (started : os.Started) (H : Type) (enc : TypeId × Value → H) :
    ReturnsInHanded {} Tryz.checked os 9 .any (Rows.fnExactRunMachineSpec.pre6 enc Tryz.prog Tryz.f9 Rows.fnExactRunMachineRow.domain false) (Rows.fnExactRunMachineSpec.post enc Tryz.prog Tryz.f9 false true false false) := by
  refine returnsInHanded_of_change (C := Tryz.checked) own started (by kernel_rfl) Tryz.func9
    (ChangeSpec.witness6 (enc := enc) (C := Tryz.checked) false ⟨#[], #[.agg #[.slice none 0 0, .slice none 0 0, .slice none 0 0, .slice none 0 0], .slice none 0 0], []⟩ 8 (by kernel_rfl) (by kernel_rfl) (by kernel_rfl) (by kernel_rfl)) ?_
  intro W base args ds gs before hval0 hW hcnd _
  have hval : ∀ (j : Nat) t v, Tryz.f9.params[j]? = some t → args[j]? = some v → Value.okWide Tryz.prog W .any base t v := hval0
  have hW' := hW
  obtain ⟨p, q, hA0, hV, rfl, hfz, hnd⟩ := hW
  have hA : DataW.TrodAll enc Tryz.prog W 0 (fun _ => true) true Tryz.f9.params.toList args.toList ds p := hA0
  rw [Tryz.params9] at hA hval
  obtain ⟨v0, vs0, d0, ds0, p0, q0, hargs, rfl, rfl, h0, r0⟩ := trodAll_cons hA
  obtain ⟨v1, vs1, d1, ds1, p1, q1, rfl, rfl, rfl, h1, r1⟩ := trodAll_cons r0
  obtain ⟨rfl, rfl, rfl⟩ := trodAll_nil r1
  obtain rfl : args = #[v0, v1] := by cases args; simp_all
  obtain ⟨rfl, rfl⟩ := trodVars_none hV
  have k0 := h0
  have lt0 : ∀ x ∈ p0, x.block < W.heap.size := by obtain ⟨m, hm⟩ := k0; exact DataW.trod_lt m _ _ _ hm
  obtain ⟨fu0, hf0⟩ := h0
  obtain ⟨cs0, rfl, hsz0⟩ := okWide_struct Tryz.underlying26 (hval 0 26 v0 rfl rfl)
  obtain ⟨x1, x2, x3, x4, rfl⟩ := array4 (hsz0.trans (show Tryz.prog.cellsOf 26 = 4 by kernel_rfl))
  replace hf0 : DataW.trod enc Tryz.prog W 0 (fun _ => true) true fu0 26 [x1, x2, x3, x4] = some (d0, p0) := hf0
  obtain ⟨m5, hfs6⟩ := open_fields Tryz.underlying26 hf0
  obtain ⟨z7, hz8⟩ := field_of hfs6 0 _ rfl 22 [x1] rfl (by kernel_rfl)
  obtain ⟨p9, c10, xs11, e12, rd13, le14, ok15⟩ := open_slice reads131 (by decide) Tryz.underlying22 hz8
  obtain rfl : x1 = .slice p9 xs11.length c10 := by simpa using e12
  obtain ⟨z16, hz17⟩ := field_of hfs6 1 _ rfl 23 [x2] rfl (by kernel_rfl)
  obtain ⟨p18, c19, xs20, e21, rd22, le23, ok24⟩ := open_slice (readsB Tryz.underlying4 (by kernel_rfl)) (by decide) Tryz.underlying23 hz17
  obtain rfl : x2 = .slice p18 xs20.length c19 := by simpa using e21
  obtain ⟨z25, hz26⟩ := field_of hfs6 2 _ rfl 23 [x3] rfl (by kernel_rfl)
  obtain ⟨p27, c28, xs29, e30, rd31, le32, ok33⟩ := open_slice (readsB Tryz.underlying4 (by kernel_rfl)) (by decide) Tryz.underlying23 hz26
  obtain rfl : x3 = .slice p27 xs29.length c28 := by simpa using e30
  obtain ⟨z34, hz35⟩ := field_of hfs6 3 _ rfl 24 [x4] rfl (by kernel_rfl)
  obtain ⟨p36, c37, xs38, e39, rd40, le41, ok42⟩ := open_deep readsD126 (by decide) Tryz.underlying24 hz35
  obtain rfl : x4 = .slice p36 xs38.length c37 := by simpa using e39
  have k1 := h1
  have lt1 : ∀ x ∈ p1, x.block < W.heap.size := by obtain ⟨m, hm⟩ := k1; exact DataW.trod_lt m _ _ _ hm
  obtain ⟨fu1, hf1⟩ := h1
  obtain ⟨a44, l45, c46, rfl⟩ := okWide_slice Tryz.underlying54 (hval 1 54 v1 rfl rfl)
  obtain ⟨p47, c48, xs49, e50, rd51, le52, ok53⟩ := open_slice reads48 (by decide) Tryz.underlying54 hf1
  simp only [Value.cells, List.cons.injEq, Value.slice.injEq, and_true] at e50
  obtain ⟨rfl, rfl, rfl⟩ := e50
  clear hA0 hval0
  refine (Calls.mono (c_l_FnExactRunMachine W (⟨xs11, xs20, xs29, xs38⟩ : Machine) p9 c10 rd13 p18 c19 rd22 p27 c28 rd31 p36 c37 rd40 xs49 a44 c46 rd51 (plain_RunMachine (⟨xs11, xs20, xs29, xs38⟩ : Machine) xs49 ⟨⟨le14, ok15⟩, ⟨le23, ok24⟩, ⟨le32, ok33⟩, ⟨le41, ok42⟩⟩ ⟨le52, ok53⟩))) fun e W' hh => ?_
  obtain ⟨he, hM⟩ := hh
  subst he
  have bel := hM.below
  exact ⟨_, rfl, _, _, _, [], _, [], hW', trodAll_mk1 (shut_bool Tryz.underlying4 _), (trodAll_cons_mk (Below.trod laidOut (by kernel_rfl) (of_decide_eq_true (by kernel_rfl)) k0 bel lt0) (trodAll_cons_mk (Below.trod laidOut (by kernel_rfl) (of_decide_eq_true (by kernel_rfl)) k1 bel lt1) trodAll_mk0)), rfl, bel.frame _, fun h => by cases h⟩
theorem over : Rows.fnExactRunMachineRow.holds Tryz.pinned (OpenSpec.ofChange Rows.fnExactRunMachineSpec) :=
  OpenClaim.holds_of_wide 9 Tryz.f9 rfl rfl rfl rfl rfl rfl rfl ⟨rfl, rfl, rfl, rfl, rfl⟩ rfl rfl rfl rfl rfl (by kernel_rfl) Tryz.func9 (by (unfold joinedFacts); (simp only [Bool.and_eq_true]); (repeat' (refine And.intro ?_ ?_)); all_goals (as_aux_lemma => kernel_rfl))
    (of_decide_eq_true (by kernel_rfl)) (by unfold Func.isWrapper; first | (rw [if_pos (by decide +kernel)]; kernel_rfl) | (rw [if_neg (by decide +kernel)]; exact ⟨rfl, rfl⟩))
    (fun os started H enc _ => lifted os started H enc)
theorem proved : Rows.FnExactRunMachineSaid := over
#print axioms proved
end Go.Proofs.YtllhajkgkghhdaaGreat.fnExactRunMachine
