/- Whatever three numbers it is given, laws.FnExactNeedsSignal returns true and leaves what was there as it was. No further conditions. -/
import Derived.Test.YtopnablbecepjaaNeedsSignalC1
import Derived.Test.YtopnablbecepjaaGxH
import Derived.Test.YtopnablbecepjaaRows
import Derived.WalkKit
import Derived.ProofKit
import Derived.OpenShut
set_option linter.unusedVariables false
set_option linter.unusedSimpArgs false
namespace Go.Proofs.Ytopnablbecepjaa
open Go.Gx
def word (x : Int) : Bool := decide (0 ≤ x) && decide (x ≤ 65535)
theorem word_spec {x : Int} (h : word x = true) : 0 ≤ x ∧ x ≤ 65535 := by simpa [word] using h
theorem s_word (x : Int) : M.s_l2Word16 x = some (word x) := by
  unfold M.s_l2Word16 M.s_l1In word
  by_cases h : x ≥ 0 <;> simp [h]
theorem i_word (x : Int) : M.i_isWord16 x = some (word x) := by
  unfold M.i_isWord16 M.i_inside word
  by_cases h : x ≥ 0 <;> simp [h]
theorem steps_eq {a b : Int} (ha : word a = true) (hb : word b = true) : gxAnd .i64 (w64 (b - a)) 65535 = (w64 ((w64 (b - a)) + 65536)).tmod 65536 := by
  have ha := word_spec ha
  have hb := word_spec hb
  rw [and16, w64_id (z := b - a) (by omega) (by omega), w64_id (by omega) (by omega), Int.tmod_eq_emod_of_nonneg (by omega)]
  omega
theorem needs_eq (x y z : Int) : ∃ r, M.s_NeedsSignal x y z = some r ∧ M.i_NeedsSignal x y z = some r := by
  unfold M.s_NeedsSignal M.i_NeedsSignal M.i_stepsTo
  simp only [s_word, i_word, Option.bind_some]
  cases h1 : word x <;> cases h2 : word y <;> cases h3 : word z <;> simp
  rw [steps_eq h1 h2, steps_eq h1 h3]
theorem plain_NeedsSignal (x y z : Int) : M.l_FnExactNeedsSignal x y z = some true := by
  obtain ⟨r, h1, h2⟩ := needs_eq x y z
  unfold M.l_FnExactNeedsSignal
  rw [h1, h2]
  simp
end Go.Proofs.Ytopnablbecepjaa
namespace Go.Proofs.Ytopnablbecepjaa.fnExactNeedsSignal
open Go.ChangeShapes Go.WideShapes Go.ChangeAt Go.RowKit
open Go.Gx

theorem own : ownKnob Try.prog.godebug = none := by kernel_rfl

/-! ### STEP 1: THE WALK: the Go text returns true. 'Grown w w'': the world has at most new blocks (Derived/RowKit3.lean). Part the cases AHEAD of 'go_enter' where a test parts the walk; take each callee by a contract of your own. -/
theorem walk (a0 : Int) (a1 : Int) (a2 : Int) (w0 : (Lit.int .i64 a0).wf = true) (w1 : (Lit.int .i64 a1).wf = true) (w2 : (Lit.int .i64 a2).wf = true) (w : World) :
    Calls Try.prog 3 #[.int .i64 a0, .int .i64 a1, .int .i64 a2] w fun e w' => e = .returned (.bool true) ∧ Grown w w' := by
  exact (Calls.mono (c_l_FnExactNeedsSignal w a0 a1 a2 (plain_NeedsSignal a0 a1 a2)) fun e w' h => ⟨h.1, h.2.grown⟩)

/-! ### THE ROW's STEP: WRITTEN OUT: LEAVE IT -/
set_option maxRecDepth 100000 in
theorem lifted (os : Os) (started : os.Started) (H : Type) (enc : TypeId × Value → H) :
    ReturnsInHanded {} Try.checked os 3 .any (Rows.fnExactNeedsSignalSpec.pre6 enc Try.prog Try.f3 Rows.fnExactNeedsSignalRow.domain false) (Rows.fnExactNeedsSignalSpec.post enc Try.prog Try.f3 false true false false) := by
  refine returnsInHanded_of_change (C := Try.checked) own started (by kernel_rfl) Try.func3
    (ChangeSpec.witness6 (enc := enc) (C := Try.checked) false ⟨#[], #[.int .i64 0, .int .i64 0, .int .i64 0], []⟩ 8 (by kernel_rfl) (by kernel_rfl) (by kernel_rfl) (by kernel_rfl)) ?_
  intro W base args ds gs before hval0 hW hcnd _
  have hval : ∀ (j : Nat) t v, Try.f3.params[j]? = some t → args[j]? = some v → Value.okWide Try.prog W .any base t v := hval0
  have hW' := hW
  obtain ⟨p, q, hA0, hV, rfl, hfz, hnd⟩ := hW
  have hA : DataW.TrodAll enc Try.prog W 0 (fun _ => true) true Try.f3.params.toList args.toList ds p := hA0
  rw [Try.params3] at hA hval
  obtain ⟨v0, vs0, d0, ds0, p0, q0, hargs, rfl, rfl, h0, r0⟩ := trodAll_cons hA
  obtain ⟨v1, vs1, d1, ds1, p1, q1, rfl, rfl, rfl, h1, r1⟩ := trodAll_cons r0
  obtain ⟨v2, vs2, d2, ds2, p2, q2, rfl, rfl, rfl, h2, r2⟩ := trodAll_cons r1
  obtain ⟨rfl, rfl, rfl⟩ := trodAll_nil r2
  obtain rfl : args = #[v0, v1, v2] := by cases args; simp_all
  obtain ⟨rfl, rfl⟩ := trodVars_none hV
  obtain ⟨a0, rfl, rfl, rfl, w0⟩ := open_int Try.underlying3 (hval 0 3 v0 rfl rfl) h0
  obtain ⟨a1, rfl, rfl, rfl, w1⟩ := open_int Try.underlying3 (hval 1 3 v1 rfl rfl) h1
  obtain ⟨a2, rfl, rfl, rfl, w2⟩ := open_int Try.underlying3 (hval 2 3 v2 rfl rfl) h2
  clear hA0 hval0
  simp only [List.append_nil] at hW'
  refine (walk a0 a1 a2 w0 w1 w2 W).mono fun e W' ⟨he, hg⟩ => ?_
  subst he
  exact ⟨_, rfl, post_of_same (pa := []) (pv := []) hW' (fun _ _ _ => (trodAll_cons_mk (shut_bool Try.underlying4 _) trodAll_mk0)) (fun sp _ => (trodAll_cons_mk (shut_int Try.underlying3 w0) (trodAll_cons_mk (shut_int Try.underlying3 w1) (trodAll_cons_mk (shut_int Try.underlying3 w2) trodAll_mk0)))) (fun _ _ => rfl) rfl
    (hg.frame _) hg.2.1 (ok_one (by kernel_rfl) rfl (okWide_bool_mk Try.underlying4 _))⟩

theorem over : Rows.fnExactNeedsSignalRow.holds Try.pinned (OpenSpec.ofChange Rows.fnExactNeedsSignalSpec) :=
  OpenClaim.holds_of_wide 3 Try.f3 rfl rfl rfl rfl rfl rfl rfl ⟨rfl, rfl, rfl, rfl, rfl⟩ rfl rfl rfl rfl rfl (by kernel_rfl) Try.func3 (by kernel_rfl)
    (of_decide_eq_true (by kernel_rfl)) (by unfold Func.isWrapper; first | (rw [if_pos (by decide +kernel)]; kernel_rfl) | (rw [if_neg (by decide +kernel)]; exact ⟨rfl, rfl⟩))
    (fun os started H enc _ => lifted os started H enc)

/-- ████ THE STATEMENT ████ -/
theorem proved : Rows.FnExactNeedsSignalSaid :=
  over
#print axioms proved
end Go.Proofs.Ytopnablbecepjaa.fnExactNeedsSignal
