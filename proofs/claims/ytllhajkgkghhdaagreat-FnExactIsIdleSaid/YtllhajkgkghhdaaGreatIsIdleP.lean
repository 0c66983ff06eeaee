/- Whatever it is given, laws.FnExactIsIdle returns true and leaves what was there as it was. -/
import Derived.Test.YtllhajkgkghhdaaGreatRows
import Derived.Test.YtllhajkgkghhdaaGreatAC5
import Derived.Test.YtllhajkgkghhdaaGreatAK11
import Derived.Test.YtllhajkgkghhdaaGreatGxS
import Derived.WalkKit
import Derived.ProofKit
import Derived.OpenShut
import Derived.ShutString
set_option linter.unusedVariables false
set_option linter.unusedSimpArgs false
set_option maxHeartbeats 4000000
namespace Go.Proofs.YtllhajkgkghhdaaGreat.fnExactIsIdle
open Go.ChangeShapes Go.WideShapes Go.ChangeAt Go.RowKit Go.Gx Go.Proofs.YtllhajkgkghhdaaGreat
open Go.ChangeMaps (open_string shut_string)
theorem array4 {α : Type} {cs : Array α} (h : cs.size = 4) : ∃ c0 c1 c2 c3, cs = #[c0, c1, c2, c3] := by
  obtain ⟨l⟩ := cs
  match l, h with
  | [c0, c1, c2, c3], _ => exact ⟨c0, c1, c2, c3, rfl⟩
theorem list131 {α : Type} {l : List α} (h : l.length = 2) : ∃ c0 c1, l = [c0, c1] := by
  match l, h with
  | [c0, c1], _ => exact ⟨c0, c1, rfl⟩
theorem reads131 : ReadsAs Tryz.prog 131 encRoute okRoute := by
  refine ⟨by kernel_rfl, fun H enc w base spare held fuel cs y h => ?_⟩
  obtain ⟨c0, c1, rfl⟩ := list131 ((trod_len Tryz.underlying131 h).trans (show Tryz.prog.cellsOf 131 = 2 by kernel_rfl))
  obtain ⟨m43, hfs44⟩ := open_fields Tryz.underlying131 h
  obtain ⟨z45, hz46⟩ := field_of hfs44 0 _ rfl 3 [c0] rfl (by kernel_rfl)
  obtain ⟨n47, e48, _, wf49⟩ := DataW.trod_int Tryz.underlying3 hz46
  obtain rfl : c0 = .int .i64 n47 := by simpa using e48
  obtain ⟨z50, hz51⟩ := field_of hfs44 1 _ rfl 3 [c1] rfl (by kernel_rfl)
  obtain ⟨n52, e53, _, wf54⟩ := DataW.trod_int Tryz.underlying3 hz51
  obtain rfl : c1 = .int .i64 n52 := by simpa using e53
  exact ⟨(⟨n47, n52⟩ : Route), rfl, ⟨(wf_i64 wf49), (wf_i64 wf54)⟩⟩
theorem list225 {α : Type} {l : List α} (h : l.length = 3) : ∃ c0 c1 c2, l = [c0, c1, c2] := by
  match l, h with
  | [c0, c1, c2], _ => exact ⟨c0, c1, c2, rfl⟩
theorem reads225 : ReadsAs Tryz.prog 225 encSlot okSlot := by
  refine ⟨by kernel_rfl, fun H enc w base spare held fuel cs y h => ?_⟩
  obtain ⟨c0, c1, c2, rfl⟩ := list225 ((trod_len Tryz.underlying225 h).trans (show Tryz.prog.cellsOf 225 = 3 by kernel_rfl))
  obtain ⟨m55, hfs56⟩ := open_fields Tryz.underlying225 h
  obtain ⟨z57, hz58⟩ := field_of hfs56 0 _ rfl 3 [c0] rfl (by kernel_rfl)
  obtain ⟨n59, e60, _, wf61⟩ := DataW.trod_int Tryz.underlying3 hz58
  obtain rfl : c0 = .int .i64 n59 := by simpa using e60
  obtain ⟨z62, hz63⟩ := field_of hfs56 1 _ rfl 3 [c1] rfl (by kernel_rfl)
  obtain ⟨n64, e65, _, wf66⟩ := DataW.trod_int Tryz.underlying3 hz63
  obtain rfl : c1 = .int .i64 n64 := by simpa using e65
  obtain ⟨z67, hz68⟩ := field_of hfs56 2 _ rfl 3 [c2] rfl (by kernel_rfl)
  obtain ⟨n69, e70, _, wf71⟩ := DataW.trod_int Tryz.underlying3 hz68
  obtain rfl : c2 = .int .i64 n69 := by simpa using e70
  exact ⟨(⟨n59, n64, n69⟩ : Slot), rfl, ⟨(wf_i64 wf61), (wf_i64 wf66), (wf_i64 wf71)⟩⟩
theorem list227 {α : Type} {l : List α} (h : l.length = 2) : ∃ c0 c1, l = [c0, c1] := by
  match l, h with
  | [c0, c1], _ => exact ⟨c0, c1, rfl⟩
theorem reads227 : ReadsAs Tryz.prog 227 encWaiter okWaiter := by
  refine ⟨by kernel_rfl, fun H enc w base spare held fuel cs y h => ?_⟩
  obtain ⟨c0, c1, rfl⟩ := list227 ((trod_len Tryz.underlying227 h).trans (show Tryz.prog.cellsOf 227 = 2 by kernel_rfl))
  obtain ⟨m72, hfs73⟩ := open_fields Tryz.underlying227 h
  obtain ⟨z74, hz75⟩ := field_of hfs73 0 _ rfl 3 [c0] rfl (by kernel_rfl)
  obtain ⟨n76, e77, _, wf78⟩ := DataW.trod_int Tryz.underlying3 hz75
  obtain rfl : c0 = .int .i64 n76 := by simpa using e77
  obtain ⟨z79, hz80⟩ := field_of hfs73 1 _ rfl 3 [c1] rfl (by kernel_rfl)
  obtain ⟨n81, e82, _, wf83⟩ := DataW.trod_int Tryz.underlying3 hz80
  obtain rfl : c1 = .int .i64 n81 := by simpa using e82
  exact ⟨(⟨n76, n81⟩ : Waiter), rfl, ⟨(wf_i64 wf78), (wf_i64 wf83)⟩⟩
theorem list126 {α : Type} {l : List α} (h : l.length = 4) : ∃ c0 c1 c2 c3, l = [c0, c1, c2, c3] := by
  match l, h with
  | [c0, c1, c2, c3], _ => exact ⟨c0, c1, c2, c3, rfl⟩
theorem readsD126 : ReadsDeep Tryz.prog 126 deepInterface okInterface := by
  refine ⟨by kernel_rfl, fun H enc w base spare held fuel cs y h => ?_⟩
  obtain ⟨c0, c1, c2, c3, rfl⟩ := list126 ((trod_len Tryz.underlying126 h).trans (show Tryz.prog.cellsOf 126 = 4 by kernel_rfl))
  obtain ⟨m84, hfs85⟩ := open_fields Tryz.underlying126 h
  obtain ⟨z86, hz87⟩ := field_of hfs85 0 _ rfl 3 [c0] rfl (by kernel_rfl)
  obtain ⟨n88, e89, _, wf90⟩ := DataW.trod_int Tryz.underlying3 hz87
  obtain rfl : c0 = .int .i64 n88 := by simpa using e89
  obtain ⟨z91, hz92⟩ := field_of hfs85 1 _ rfl 36 [c1] rfl (by kernel_rfl)
  obtain ⟨p93, c94, xs95, e96, rd97, le98, ok99⟩ := open_slice (readsInt Tryz.underlying3 (by kernel_rfl)) (by decide) Tryz.underlying36 hz92
  obtain rfl : c1 = .slice p93 xs95.length c94 := by simpa using e96
  obtain ⟨z100, hz101⟩ := field_of hfs85 2 _ rfl 124 [c2, c3] rfl (by kernel_rfl)
  obtain ⟨m102, hfs103⟩ := open_fields Tryz.underlying124 hz101
  obtain ⟨z104, hz105⟩ := field_of hfs103 0 _ rfl 121 [c2] rfl (by kernel_rfl)
  obtain ⟨p106, c107, xs108, e109, rd110, le111, ok112⟩ := open_slice reads225 (by decide) Tryz.underlying121 hz105
  obtain rfl : c2 = .slice p106 xs108.length c107 := by simpa using e109
  obtain ⟨z113, hz114⟩ := field_of hfs103 1 _ rfl 122 [c3] rfl (by kernel_rfl)
  obtain ⟨p115, c116, xs117, e118, rd119, le120, ok121⟩ := open_slice reads227 (by decide) Tryz.underlying122 hz114
  obtain rfl : c3 = .slice p115 xs117.length c116 := by simpa using e118
  exact ⟨((⟨n88, xs95, (⟨xs108, xs117⟩ : Queue)⟩ : Interface), plOf [(p93, c94), (p106, c107), (p115, c116)]), rfl, (rdI_cons (i := ⟨Int, Gx.encI, _, p93, c94⟩) rd97 (rdI_cons (i := ⟨Slot, encSlot, _, p106, c107⟩) rd110 (rdI_cons (i := ⟨Waiter, encWaiter, _, p115, c116⟩) rd119 rdI_nil))), ⟨(wf_i64 wf90), ⟨le98, ok99⟩, ⟨⟨le111, ok112⟩, ⟨le120, ok121⟩⟩⟩⟩
theorem own : ownKnob Tryz.prog.godebug = none := by kernel_rfl
theorem laidOut : laidOutB Tryz.prog = true := by kernel_rfl
set_option maxRecDepth 100000 in
theorem lifted (os : Os) (started : os.Started) (H : Type) (enc : TypeId × Value → H) :
    ReturnsInHanded {} Tryz.checked os 5 .any (Rows.fnExactIsIdleSpec.pre6 enc Tryz.prog Tryz.f5 Rows.fnExactIsIdleRow.domain false) (Rows.fnExactIsIdleSpec.post enc Tryz.prog Tryz.f5 false true false false) := by
  refine returnsInHanded_of_change (C := Tryz.checked) own started (by kernel_rfl) Tryz.func5
    (ChangeSpec.witness6 (enc := enc) (C := Tryz.checked) false ⟨#[], #[.agg #[.slice none 0 0, .slice none 0 0, .slice none 0 0, .slice none 0 0]], []⟩ 8 (by kernel_rfl) (by kernel_rfl) (by kernel_rfl) (by kernel_rfl)) ?_
  intro W base args ds gs before hval0 hW hcnd _
  have hval : ∀ (j : Nat) t v, Tryz.f5.params[j]? = some t → args[j]? = some v → Value.okWide Tryz.prog W .any base t v := hval0
  have hW' := hW
  obtain ⟨p, q, hA0, hV, rfl, hfz, hnd⟩ := hW
  have hA : DataW.TrodAll enc Tryz.prog W 0 (fun _ => true) true Tryz.f5.params.toList args.toList ds p := hA0
  rw [Tryz.params5] at hA hval
  obtain ⟨v0, vs0, d0, ds0, p0, q0, hargs, rfl, rfl, h0, r0⟩ := trodAll_cons hA
  obtain ⟨rfl, rfl, rfl⟩ := trodAll_nil r0
  obtain rfl : args = #[v0] := by cases args; simp_all
  obtain ⟨rfl, rfl⟩ := trodVars_none hV
  have k0 := h0
  have lt0 : ∀ x ∈ p0, x.block < W.heap.size := by obtain ⟨m, hm⟩ := k0; exact DataW.trod_lt m _ _ _ hm
  obtain ⟨fu0, hf0⟩ := h0
  obtain ⟨cs0, rfl, hsz0⟩ := okWide_struct Tryz.underlying26 (hval 0 26 v0 rfl rfl)
  obtain ⟨x1, x2, x3, x4, rfl⟩ := array4 (hsz0.trans (show Tryz.prog.cellsOf 26 = 4 by kernel_rfl))
  replace hf0 : DataW.trod enc Tryz.prog W 0 (fun _ => true) true fu0 26 [x1, x2, x3, x4] = some (d0, p0) := hf0
  obtain ⟨m5, hfs6⟩ := open_fields Tryz.underlying26 hf0
  obtain ⟨z7, hz8⟩ := field_of hfs6 0 _ rfl 22 [x1] rfl (by kernel_rfl)
  obtain ⟨p9, c10, xs11, e12, rd13, le14, ok15⟩ := open_slice reads131 (by decide) Tryz.underlying22 hz8
  obtain rfl : x1 = .slice p9 xs11.length c10 := by simpa using e12
  obtain ⟨z16, hz17⟩ := field_of hfs6 1 _ rfl 23 [x2] rfl (by kernel_rfl)
  obtain ⟨p18, c19, xs20, e21, rd22, le23, ok24⟩ := open_slice (readsB Tryz.underlying4 (by kernel_rfl)) (by decide) Tryz.underlying23 hz17
  obtain rfl : x2 = .slice p18 xs20.length c19 := by simpa using e21
  obtain ⟨z25, hz26⟩ := field_of hfs6 2 _ rfl 23 [x3] rfl (by kernel_rfl)
  obtain ⟨p27, c28, xs29, e30, rd31, le32, ok33⟩ := open_slice (readsB Tryz.underlying4 (by kernel_rfl)) (by decide) Tryz.underlying23 hz26
  obtain rfl : x3 = .slice p27 xs29.length c28 := by simpa using e30
  obtain ⟨z34, hz35⟩ := field_of hfs6 3 _ rfl 24 [x4] rfl (by kernel_rfl)
  obtain ⟨p36, c37, xs38, e39, rd40, le41, ok42⟩ := open_deep readsD126 (by decide) Tryz.underlying24 hz35
  obtain rfl : x4 = .slice p36 xs38.length c37 := by simpa using e39
  clear hA0 hval0
  refine (Calls.mono (c_l_FnExactIsIdle W (⟨xs11, xs20, xs29, xs38⟩ : Machine) p9 c10 rd13 p18 c19 rd22 p27 c28 rd31 p36 c37 rd40 (plain_IsIdle (⟨xs11, xs20, xs29, xs38⟩ : Machine) ⟨⟨le14, ok15⟩, ⟨le23, ok24⟩, ⟨le32, ok33⟩, ⟨le41, ok42⟩⟩))) fun e W' hh => ?_
  obtain ⟨he, hM⟩ := hh
  subst he
  have bel := hM.below
  exact ⟨_, rfl, _, _, _, [], _, [], hW', trodAll_mk1 (shut_bool Tryz.underlying4 _), (trodAll_cons_mk (Below.trod laidOut (by kernel_rfl) (of_decide_eq_true (by kernel_rfl)) k0 bel lt0) trodAll_mk0), rfl, bel.frame _, fun h => by cases h⟩
theorem over : Rows.fnExactIsIdleRow.holds Tryz.pinned (OpenSpec.ofChange Rows.fnExactIsIdleSpec) :=
  OpenClaim.holds_of_wide 5 Tryz.f5 rfl rfl rfl rfl rfl rfl rfl ⟨rfl, rfl, rfl, rfl, rfl⟩ rfl rfl rfl rfl rfl (by kernel_rfl) Tryz.func5 (by kernel_rfl)
    (of_decide_eq_true (by kernel_rfl)) (by unfold Func.isWrapper; first | (rw [if_pos (by decide +kernel)]; kernel_rfl) | (rw [if_neg (by decide +kernel)]; exact ⟨rfl, rfl⟩))
    (fun os started H enc _ => lifted os started H enc)
/-- The statement. -/
theorem proved : Rows.FnExactIsIdleSaid := over
#print axioms proved
end Go.Proofs.YtllhajkgkghhdaaGreat.fnExactIsIdle
