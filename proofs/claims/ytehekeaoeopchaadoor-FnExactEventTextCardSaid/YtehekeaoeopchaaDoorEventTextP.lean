/- Whatever it is given, laws.FnExactEventText returns true and leaves what was there as it was. -/
import Derived.Test.YtehekeaoeopchaaDoorRows
import Derived.Test.YtehekeaoeopchaaDoorC1
import Derived.Test.YtehekeaoeopchaaDoorL1
import Derived.Test.YtehekeaoeopchaaDoorGxR
import Derived.WalkKit
import Derived.ProofKit
import Derived.OpenShut
import Derived.ShutString
import Derived.LaidMore
import Derived.Stop.LaidErr
import Derived.Stop.Joined
import Derived.Lib.LaidTab
import Derived.SevenTiedAt
import Derived.Test.YtehekeaoeopchaaDoorCards
import Derived.Test.YtehekeaoeopchaaDoorTie
set_option linter.unusedVariables false
set_option linter.unusedSimpArgs false
set_option maxHeartbeats 4000000
namespace Go.Proofs.YtehekeaoeopchaaDoor.fnExactEventText
open Go.ChangeShapes Go.WideShapes Go.ChangeAt Go.RowKit Go.Gx Go.Proofs.YtehekeaoeopchaaDoor
open Go.ChangeMaps (open_string shut_string)
theorem array4 {α : Type} {cs : Array α} (h : cs.size = 4) : ∃ c0 c1 c2 c3, cs = #[c0, c1, c2, c3] := by
  obtain ⟨l⟩ := cs
  match l, h with
  | [c0, c1, c2, c3], _ => exact ⟨c0, c1, c2, c3, rfl⟩
theorem own : ownKnob Tryd.prog.godebug = none := by kernel_rfl
theorem laidOut : laidOutB Tryd.prog = true := by kernel_rfl
/-- The world as start-up's own run leaves it meets the condition. -/
theorem door_met (os : Os) (args : Array Value) : laidMetH Tryd.prog Rows.fnExactEventTextRow.laid ((World.doorLaid Tryd.prog 400 os).forCall (fun _ _ => 0) ⟨#[], args, []⟩).memory :=
  laidMetH_of_parts3 (fuel := 8) (laidMet_of_run' 8 (by kernel_rfl) (by kernel_rfl)) (by kernel_rfl) (by kernel_rfl)
theorem of_laid {W : World} (h : laidMetH Tryd.prog Rows.fnExactEventTextRow.laid W) : TabX Tryd.prog W := by
  rw [MakeChecks.laidMetH_plain _ _ _ (by kernel_rfl)] at h
  have h2 : laidMet Tryd.prog [("internal/strconv.uint64pow10", Lib.tabData .u64 Lib.pow10Tab)] W := h.tail.tail
  exact Lib.tabIs_of_head (g := 0) (t := 46) (e := 38) (n := 20) (by kernel_rfl) (by kernel_rfl) Tryd.underlying46 Tryd.underlying38 (by kernel_rfl) (by kernel_rfl) h2
set_option maxRecDepth 100000 in
theorem lifted (os : Os) (started : os.Started) (H : Type) (enc : TypeId × Value → H) :
    ReturnsInHanded {} Tryd.checked os 3 .any (fun w args => (Rows.fnExactEventTextSpec.pre enc Tryd.prog Tryd.f3 [] false w args ∧ laidMetH Tryd.prog Rows.fnExactEventTextRow.laid w) ∧ sizedMet enc Tryd.prog Tryd.f3 (OpenSpec.ofChange Rows.fnExactEventTextSpec) false w args) (Rows.fnExactEventTextSpec.post enc Tryd.prog Tryd.f3 false true false false) := by
  refine returnsInHanded_of_change_and (C := Tryd.checked) (X := fun w _ => laidMetH Tryd.prog Rows.fnExactEventTextRow.laid w) (fun _ _ _ hh h => h.of_heap hh) own started (by kernel_rfl) Tryd.func3
    (ChangeSpec.witness_shaped (enc := enc) (C := Tryd.checked) (os := os) (X := fun w _ => laidMetH Tryd.prog Rows.fnExactEventTextRow.laid w) false (World.doorLaid Tryd.prog 400 os) #[.agg #[.int .i64 0, .int .i64 0, .string ByteArray.empty, .int .i64 0]] 8 rfl (World.shaped_of_RefB (by kernel_rfl) (by kernel_rfl)) (by kernel_rfl) (by kernel_rfl) (by kernel_rfl) (door_met os _)) ?_
  intro W base args ds gs before hval0 hW _ _ hL _
  have ht : TabX Tryd.prog W := of_laid hL
  have hval : ∀ (j : Nat) t v, Tryd.f3.params[j]? = some t → args[j]? = some v → Value.okWide Tryd.prog W .any base t v := hval0
  have hW' := hW
  obtain ⟨p, q, hA0, hV, rfl, hfz, hnd⟩ := hW
  have hA : DataW.TrodAll enc Tryd.prog W 0 (fun _ => true) true Tryd.f3.params.toList args.toList ds p := hA0
  rw [Tryd.params3] at hA hval
  obtain ⟨v0, vs0, d0, ds0, p0, q0, hargs, rfl, rfl, h0, r0⟩ := trodAll_cons hA
  obtain ⟨rfl, rfl, rfl⟩ := trodAll_nil r0
  obtain rfl : args = #[v0] := by cases args; simp_all
  obtain ⟨rfl, rfl⟩ := trodVars_none hV
  have k0 := h0
  have lt0 : ∀ x ∈ p0, x.block < W.heap.size := by obtain ⟨m, hm⟩ := k0; exact DataW.trod_lt m _ _ _ hm
  obtain ⟨fu0, hf0⟩ := h0
  obtain ⟨cs0, rfl, hsz0⟩ := okWide_struct Tryd.underlying23 (hval 0 23 v0 rfl rfl)
  obtain ⟨x1, x2, x3, x4, rfl⟩ := array4 (hsz0.trans (show Tryd.prog.cellsOf 23 = 4 by kernel_rfl))
  replace hf0 : DataW.trod enc Tryd.prog W 0 (fun _ => true) true fu0 23 [x1, x2, x3, x4] = some (d0, p0) := hf0
  obtain ⟨m5, hfs6⟩ := open_fields Tryd.underlying23 hf0
  obtain ⟨z7, hz8⟩ := field_of hfs6 0 _ rfl 3 [x1] rfl (by kernel_rfl)
  obtain ⟨n9, e10, _, wf11⟩ := DataW.trod_int Tryd.underlying3 hz8
  obtain rfl : x1 = .int .i64 n9 := by simpa using e10
  obtain ⟨z12, hz13⟩ := field_of hfs6 1 _ rfl 3 [x2] rfl (by kernel_rfl)
  obtain ⟨n14, e15, _, wf16⟩ := DataW.trod_int Tryd.underlying3 hz13
  obtain rfl : x2 = .int .i64 n14 := by simpa using e15
  obtain ⟨z17, hz18⟩ := field_of hfs6 2 _ rfl 9 [x3] rfl (by kernel_rfl)
  obtain ⟨n19, e20, _, wf21⟩ := DataW.trod_string Tryd.underlying9 hz18
  obtain rfl : x3 = .string n19 := by simpa using e20
  obtain ⟨z22, hz23⟩ := field_of hfs6 3 _ rfl 3 [x4] rfl (by kernel_rfl)
  obtain ⟨n24, e25, _, wf26⟩ := DataW.trod_int Tryd.underlying3 hz23
  obtain rfl : x4 = .int .i64 n24 := by simpa using e25
  clear hA0 hval0
  refine (Calls.mono (c_l_FnExactEventText W (⟨n9, n14, n19, n24⟩ : Event) ht (plain_EventText (⟨n9, n14, n19, n24⟩ : Event) ⟨(wf_i64 wf11), (wf_i64 wf16), wf21, (wf_i64 wf26)⟩))) fun e W' hh => ?_
  obtain ⟨he, hM⟩ := hh
  subst he
  have bel := hM.below
  exact ⟨_, rfl, _, _, _, [], _, [], hW', trodAll_mk1 (shut_bool Tryd.underlying4 _), (trodAll_cons_mk (Below.trod laidOut (by kernel_rfl) (of_decide_eq_true (by kernel_rfl)) k0 bel lt0) trodAll_mk0), rfl, bel.frame _, fun h => by cases h⟩
theorem over : Rows.fnExactEventTextRow.holds Tryd.pinned (OpenSpec.ofChange Rows.fnExactEventTextSpec) :=
  OpenClaim.holds_of_wide 3 Tryd.f3 rfl rfl rfl rfl rfl rfl rfl ⟨rfl, rfl, rfl, rfl, rfl⟩ rfl rfl rfl rfl rfl (by kernel_rfl) Tryd.func3 (by (unfold joinedFacts); (simp only [Bool.and_eq_true]); (repeat' (refine And.intro ?_ ?_)); all_goals (as_aux_lemma => kernel_rfl))
    (of_decide_eq_true (by kernel_rfl)) (by unfold Func.isWrapper; first | (rw [if_pos (by decide +kernel)]; kernel_rfl) | (rw [if_neg (by decide +kernel)]; exact ⟨rfl, rfl⟩))
    (fun os started H enc _ => lifted os started H enc)
/-- The statement. -/
theorem proved : Rows.FnExactEventTextCardSaid :=
  Claim7.holds_tied_plain_at .later [] [.data, .data, .data] true (true, "ce1ee9c9940c510777568b0a155d52bc82507938852dcbca3e3e59e313ba508f") false
    over (fun _ h => by cases h) (by kernel_rfl) (fun _ h => by cases h) fnExactEventText_row_tie rfl ⟨rfl, rfl⟩ (by kernel_rfl) rfl
    (fun f fn hf hfn => by
      obtain rfl : f = 3 := Option.some.inj ((show Tryd.prog.funcNamed "loop.example/g00843/laws.FnExactEventText" = some 3 by kernel_rfl).symm.trans hf) |>.symm
      obtain rfl : fn = Tryd.f3 := (Option.some.inj (Tryd.func3.symm.trans hfn)).symm
      exact ⟨by kernel_rfl, fun j t ht => by
        rw [Tryd.params3] at ht
        have hm : t ∈ [23] := by simpa using Array.mem_of_getElem? ht
        have hall : ([23].all fun u => !Tryd.prog.wantsStandIn u) = true := by kernel_rfl
        exact (show Tryd.prog.wantsStandIn t = false by simpa using List.all_eq_true.1 hall t hm)⟩)
    (by kernel_rfl)
#print axioms proved
end Go.Proofs.YtehekeaoeopchaaDoor.fnExactEventText
