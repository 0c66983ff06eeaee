/- Part of a proof: what its last text rests on. -/
import Derived.Lib.SmallJoins
import Derived.Below
import Derived.Carry
import Derived.ChangeOld
import Derived.Test.YtllhajkgkghhdaaGreatRows
import Derived.WalkKit
import Derived.ProofKit
import Derived.OpenShut
import Derived.ShutString
import Derived.Test.YtllhajkgkghhdaaGreatqf
set_option linter.unusedVariables false
set_option linter.unusedSimpArgs false
set_option maxHeartbeats 4000000
namespace Go.Proofs.YtllhajkgkghhdaaGreat
open Go.Gx
def rnF (m : Machine) (ss : List MachStep) : Machine × List Int × Bool := bif goodMc m && (!(decide ((ss.length : Int) > 30)) && ss.all (okSt m)) then ((runF m ss).2, (runF m ss).1, true) else (zM, [], false)
theorem RunMachine_is (m : Machine) (ss : List MachStep) (h : fitM m) : M.s_RunMachine m ss = some (rnF m ss) ∧ M.i_RunMachine m ss = some (rnF m ss) := by
  have h4 := h.2.2.2.1
  unfold M.s_RunMachine M.i_RunMachine rnF
  rw [s_goodMc m h, i_goodMc m h, Option.bind_some, Option.bind_some]
  cases hg : goodMc m with
  | false => exact ⟨rfl, rfl⟩
  | true =>
    have g := (goodMc_iff m).1 hg
    simp only [Bool.not_true, cond_false]
    by_cases h30 : (ss.length : Int) > 30
    · simp only [h30, decide_true, cond_true, Option.bind_some, Bool.not_true, Bool.false_and, Bool.and_false, cond_false]
      constructor <;> first | rfl | trivial
    · simp only [h30, decide_false, cond_false, Option.bind_some, Bool.not_false, Bool.true_and]
      rw [contains_steps m h4 ss (by omega), Option.bind_some]
      rw [while_all (fun i => (i : Int)) (fun i => okSt m (ss.getD i ⟨0, 0, 0, 0⟩)) (Sum.inr ((⟨[], [], [], []⟩ : Machine), ([] : List Int), false)) (Sum.inl ()) ss.length (by simp) (by omega) ?_ ?_]
      · rw [range_all ss ⟨0, 0, 0, 0⟩ (okSt m)]
        cases hs : ss.all (okSt m) with
        | false => exact ⟨rfl, rfl⟩
        | true =>
          simp only [cond_true, Bool.not_true, cond_false, Option.bind_some, Sum.elim_inl]
          rw [s_ownM h, i_ownM h, Option.bind_some, Option.bind_some]
          rw [while_run (fun i => ((runF m (ss.take i)).1, (i : Int), (runF m (ss.take i)).2.Routes, (runF m (ss.take i)).2.Enabled, (runF m (ss.take i)).2.Raised, (runF m (ss.take i)).2.Cpus)) ((runF m ss).1, (runF m ss).2.Routes, (runF m ss).2.Enabled, (runF m ss).2.Raised, (runF m ss).2.Cpus) ss.length (by simp [runF]) (by omega) ?_ ?_,
            while_run (fun i => ((runF m (ss.take i)).1, (i : Int), (runF m (ss.take i)).2.Routes, (runF m (ss.take i)).2.Enabled, (runF m (ss.take i)).2.Raised, (runF m (ss.take i)).2.Cpus)) ((runF m ss).1, (runF m ss).2.Routes, (runF m ss).2.Enabled, (runF m ss).2.Raised, (runF m ss).2.Cpus) ss.length (by simp [runF]) (by omega) ?_ ?_]
          · exact ⟨rfl, rfl⟩
          · intro i hi
            obtain ⟨r1, r2, r3⟩ := runF_ok g hs i (by omega)
            have hsi : okSt (runF m (ss.take i)).2 ss[i] = true := by rw [okSt_len r2]; exact List.all_eq_true.1 hs _ (List.getElem_mem hi)
            obtain ⟨r, a1, a2, a3⟩ := i_make r1 hsi
            have e0 : ((i : Int) < (ss.length : Int)) := by omega
            have e1 : (⟨(runF m (ss.take i)).2.Routes, (runF m (ss.take i)).2.Enabled, (runF m (ss.take i)).2.Raised, (runF m (ss.take i)).2.Cpus⟩ : Machine) = (runF m (ss.take i)).2 := rfl
            simp only [e0, decide_true, cond_true, gxIdx_nat hi, Option.bind_some, e1, a1, a2, w64_succ (show i ≤ 4611686018427387904 by omega), runF_succ hi]
            unfold runS
            cases hz : makeF (runF m (ss.take i)).2 ss[i] with
            | none => rfl
            | some p =>
              obtain ⟨c1, c2⟩ := a3 p hz
              simp only [Option.isSome_some, Bool.not_true, cond_false, c1, c2]
              cases (ss[i].Kind == 3) with
              | true => simp only [cond_true, gxApp_ok (show ((runF m (ss.take i)).1.length + [p.2].length) * 8 ≤ 140737488355328 by simp only [List.length_cons, List.length_nil]; omega), Option.bind_some]
              | false => simp only [cond_false, Option.bind_some]
          · simp only [Int.lt_irrefl, decide_false, cond_false, List.take_length]
          · intro i hi
            obtain ⟨r1, r2, r3⟩ := runF_ok g hs i (by omega)
            have hsi : okSt (runF m (ss.take i)).2 ss[i] = true := by rw [okSt_len r2]; exact List.all_eq_true.1 hs _ (List.getElem_mem hi)
            obtain ⟨r, a1, a2, a3⟩ := s_make r1 hsi
            have e0 : ((i : Int) < (ss.length : Int)) := by omega
            have e1 : (⟨(runF m (ss.take i)).2.Routes, (runF m (ss.take i)).2.Enabled, (runF m (ss.take i)).2.Raised, (runF m (ss.take i)).2.Cpus⟩ : Machine) = (runF m (ss.take i)).2 := rfl
            simp only [e0, decide_true, cond_true, gxIdx_nat hi, Option.bind_some, e1, a1, a2, w64_succ (show i ≤ 4611686018427387904 by omega), runF_succ hi]
            unfold runS
            cases hz : makeF (runF m (ss.take i)).2 ss[i] with
            | none => rfl
            | some p =>
              obtain ⟨c1, c2⟩ := a3 p hz
              simp only [Option.isSome_some, Bool.not_true, cond_false, c1, c2]
              cases (ss[i].Kind == 3) with
              | true => simp only [cond_true, gxApp_ok (show ((runF m (ss.take i)).1.length + [p.2].length) * 8 ≤ 140737488355328 by simp only [List.length_cons, List.length_nil]; omega), Option.bind_some]
              | false => simp only [cond_false, Option.bind_some]
          · simp only [Int.lt_irrefl, decide_false, cond_false, List.take_length]
      · intro i hi
        have e0 : ((i : Int) < (ss.length : Int)) := by omega
        simp only [e0, decide_true, cond_true, gxIdx_nat hi, Option.bind_some, s_okSt h4, getD_at hi, w64_succ (show i ≤ 4611686018427387904 by omega)]
        cases okSt m ss[i] <;> rfl
      · simp only [Int.lt_irrefl, decide_false, cond_false]
theorem rn_cases (m : Machine) (ss : List MachStep) : rnF m ss = (zM, [], false) ∨ (GM m ∧ ss.all (okSt m) = true ∧ ss.length ≤ 30 ∧ rnF m ss = ((runF m ss).2, (runF m ss).1, true)) := by
  unfold rnF
  cases hg : goodMc m with
  | false => exact Or.inl rfl
  | true =>
    by_cases h30 : (ss.length : Int) > 30
    · simp only [h30, decide_true, Bool.not_true, Bool.false_and, Bool.and_false, cond_false]
      exact Or.inl trivial
    · cases hs : ss.all (okSt m) with
      | false => exact Or.inl (by simp)
      | true => exact Or.inr ⟨(goodMc_iff m).1 hg, rfl, by omega, by simp [h30]⟩
theorem idle_sync {m : Machine} (hi : ∀ i, i < 8 → (m.Enabled.getD i false && m.Raised.getD i false) = false) : ∀ i, i ≤ 8 → syncF m i = (m.Raised, m.Cpus)
  | 0, _ => rfl
  | i + 1, h => by
    have h1 := hi i (by omega)
    have hd : dueM m i = false := by
      unfold dueM
      cases he : m.Enabled.getD i false with
      | false => rfl
      | true =>
        rw [he, Bool.true_and] at h1
        rw [h1]
        rfl
    rw [syncF, hd, cond_false]
    exact idle_sync hi i (by omega)
theorem idle_drain {m : Machine} (g : GM m) (h : idleM m = true) {c : Int} (hc : inC m c = true) : drnF m c = (m, [], true) := by
  unfold idleM at h
  rw [Bool.and_eq_true, List.all_eq_true, List.all_eq_true] at h
  have hs : syncM m = m := by
    unfold syncM
    rw [idle_sync (fun i hi => (Bool.not_eq_true' _).mp (h.1 i (List.mem_range.2 hi))) 8 (Nat.le_refl _)]
  obtain ⟨_, gi, fi, hl, _⟩ := cpu_at g hc
  have hb : busyI (atC m c) = false := by simpa [atC] using h.2 c.toNat (List.mem_range.2 hl)
  have hn : canTI (atC m c) = false := by
    cases ht : canTI (atC m c) with
    | false => rfl
    | true =>
      exfalso
      unfold busyI at hb
      rw [pendI_take gi fi ht, Bool.or_eq_false_iff] at hb
      have := hb.2
      simp only [List.length_cons, decide_eq_false_iff_not] at this
      omega
  rw [drn_at g hc, hs]
  unfold drainF
  rw [hn]
  rfl
theorem rest_running (code : List Int) (h : okL okU code) : (Option.bind (M.s_DrawRunningOn code) fun r48985 =>
  Option.bind (M.i_RunningOn r48985.1 r48985.2) fun r49020 =>
  Option.bind (M.s_RunningOn r48985.1 r48985.2) fun r49029 =>
  Option.bind (α := Bool) (bif r49020.2 == r49029.2 then (Option.bind (M.l_vInts r49020.1 r49029.1) fun r49047 =>
  some r49047)
  else some false) fun o49043 =>
  some o49043) = some true := by
  obtain ⟨⟨x, c⟩, hd, hx⟩ := drawRunning_ok code h
  have hf : fitM x := sm_fit hx
  obtain ⟨e1, e2⟩ := RunningOn_is x c hf
  have v := vInts_refl _ (runn_fit hf c)
  simp only [hd, e1, e2, Option.bind_some, beq_self_eq_true, cond_true, v]
theorem rest_pending (code : List Int) (h : okL okU code) : (Option.bind (M.s_DrawPendingOn code) fun r48857 =>
  Option.bind (M.i_PendingOn r48857.1 r48857.2) fun r48892 =>
  Option.bind (M.s_PendingOn r48857.1 r48857.2) fun r48901 =>
  Option.bind (α := Bool) (bif !(r48892.2 == r48901.2) then some true
  else (Option.bind (M.l_vInts r48892.1 r48901.1) fun r48919 =>
  some (!r48919))) fun o48915 =>
  bif o48915 then some false
  else (Option.bind (M.s_DrawRunningOn code) fun r48985 =>
  Option.bind (M.i_RunningOn r48985.1 r48985.2) fun r49020 =>
  Option.bind (M.s_RunningOn r48985.1 r48985.2) fun r49029 =>
  Option.bind (α := Bool) (bif r49020.2 == r49029.2 then (Option.bind (M.l_vInts r49020.1 r49029.1) fun r49047 =>
  some r49047)
  else some false) fun o49043 =>
  some o49043)) = some true := by
  obtain ⟨⟨x, c⟩, hd, hx⟩ := drawPend_ok code h
  have hf : fitM x := sm_fit hx
  obtain ⟨e1, e2⟩ := PendingOn_is x c hf
  have v := vInts_refl _ (pend_fit hf c)
  simp only [hd, e1, e2, Option.bind_some, beq_self_eq_true, Bool.not_true, cond_false, v]
  exact rest_running code h
theorem rest_idle (code : List Int) (h : okL okU code) : (Option.bind (M.s_DrawIsIdle code) fun r48609 =>
  Option.bind (M.i_IsIdle r48609) fun r48644 =>
  Option.bind (M.s_IsIdle r48609) fun r48648 =>
  Option.bind (α := Bool) (bif !(r48644.1 == r48648.1) then some true
  else some (!(r48644.2 == r48648.2))) fun o48653 =>
  bif o48653 then some false
  else (Option.bind (whileM (σ := Int) (ρ := (Unit) ⊕ (Bool)) (fun s48782 =>
    Option.bind (α := Bool) (bif decide (s48782 < (r48609.Cpus.length : Int)) then some r48644.1
    else some false) fun o48794 =>
    bif o48794 then (Option.bind (M.i_DrainCpu r48609 s48782) fun r48803 =>
    Option.bind (α := Bool) (bif !r48803.2.2 then some true
    else some ((r48803.2.1.length : Int) != 0)) fun o48844 =>
    bif o48844 then some (.inr (.inr false))
    else some (.inl (w64 (s48782 + 1))))
    else some (.inr (.inl ()))) gxFuel 0) fun out48789 => Sum.elim (fun (o48792 : Unit) =>
  Option.bind (M.s_DrawPendingOn code) fun r48857 =>
  Option.bind (M.i_PendingOn r48857.1 r48857.2) fun r48892 =>
  Option.bind (M.s_PendingOn r48857.1 r48857.2) fun r48901 =>
  Option.bind (α := Bool) (bif !(r48892.2 == r48901.2) then some true
  else (Option.bind (M.l_vInts r48892.1 r48901.1) fun r48919 =>
  some (!r48919))) fun o48915 =>
  bif o48915 then some false
  else (Option.bind (M.s_DrawRunningOn code) fun r48985 =>
  Option.bind (M.i_RunningOn r48985.1 r48985.2) fun r49020 =>
  Option.bind (M.s_RunningOn r48985.1 r48985.2) fun r49029 =>
  Option.bind (α := Bool) (bif r49020.2 == r49029.2 then (Option.bind (M.l_vInts r49020.1 r49029.1) fun r49047 =>
  some r49047)
  else some false) fun o49043 =>
  some o49043)) (fun r => some r) out48789)) = some true := by
  obtain ⟨x, hd, hx⟩ := drawIdle_ok code h
  have hf : fitM x := sm_fit hx
  obtain ⟨e1, e2⟩ := IsIdle_is x hf
  have hl := hx.1.2.2.2
  simp only [hd, e1, e2, Option.bind_some, beq_self_eq_true, Bool.not_true, cond_false]
  cases hI : (bif goodMc x then (idleM x, true) else (false, false)).1 with
  | false =>
    rw [while_run (fun i => (i : Int)) (Sum.inl ()) 0 (by simp) (by omega) (fun i hi => by omega) ?_]
    · exact rest_pending code h
    · cases decide (((0 : Nat) : Int) < (x.Cpus.length : Int)) <;> rfl
  | true =>
    have hg : goodMc x = true := by
      cases hg : goodMc x with
      | true => rfl
      | false => rw [hg] at hI; cases hI
    rw [hg, cond_true] at hI
    have g := (goodMc_iff x).1 hg
    rw [while_run (fun i => (i : Int)) (Sum.inl ()) x.Cpus.length (by simp) (by omega) ?_ ?_]
    · exact rest_pending code h
    · intro i hi
      have e0 : ((i : Int) < (x.Cpus.length : Int)) := by omega
      have hc : inC x (i : Int) = true := by
        unfold inC inR
        simp only [Bool.and_eq_true, decide_eq_true_eq]
        omega
      simp only [e0, decide_true, cond_true, Option.bind_some, (DrainCpu_is x (i : Int) hf).2, idle_drain g hI hc, Bool.not_true, cond_false, w64_succ (show i ≤ 4611686018427387904 by omega)]
      rfl
    · simp only [Int.lt_irrefl, decide_false, cond_false, Option.bind_some]
theorem plain_FnMachineRuns (code : List Int) (h : okL okU code) : M.l_FnMachineRuns code = some true := by
  unfold M.l_FnMachineRuns M.l_vBig
  rw [Option.bind_some]
  cases decide ((code.length : Int) > 65536) with
  | true => rfl
  | false =>
    obtain ⟨⟨m, ss⟩, hd, hm, hl⟩ := drawRun_ok code h
    have hf : fitM m := sm_fit hm
    have hl : ss.length ≤ 100 := hl
    obtain ⟨e1, e2⟩ := RunMachine_is m ss hf
    rcases rn_cases m ss with e | ⟨g, hs, h30, e⟩
    · have v1 := vInts_refl [] (by simp)
      have v2 := vMachine_refl zM zM_fit
      simp only [cond_false, hd, Option.bind_some, e1, e2, e, beq_self_eq_true, Bool.not_true, v1, v2, Sum.elim_inl]
      exact rest_idle code h
    · have hend := runF_ok g hs ss.length (Nat.le_refl _)
      rw [List.take_length] at hend
      obtain ⟨q1, q2, q3⟩ := hend
      have v1 := vInts_refl (runF m ss).1 (by omega)
      have v2 := vMachine_refl (runF m ss).2 (gm_fit q1)
      simp only [cond_false, cond_true, hd, Option.bind_some, e1, e2, e, beq_self_eq_true, Bool.not_true, v1, v2]
      rw [while_run (fun i => ((runF m (ss.take i)).1, (i : Int), (runF m (ss.take i)).2.Routes, (runF m (ss.take i)).2.Enabled, (runF m (ss.take i)).2.Raised, (runF m (ss.take i)).2.Cpus)) ((runF m ss).1, (runF m ss).2.Routes, (runF m ss).2.Enabled, (runF m ss).2.Raised, (runF m ss).2.Cpus) ss.length (by simp [runF]) (by omega) ?_ ?_]
      · simp only [Option.bind_some, v1, v2, Bool.not_true, cond_false, Sum.elim_inl]
        exact rest_idle code h
      · intro i hi
        obtain ⟨r1, r2, r3⟩ := runF_ok g hs i (by omega)
        have hsi : okSt (runF m (ss.take i)).2 ss[i] = true := by rw [okSt_len r2]; exact List.all_eq_true.1 hs _ (List.getElem_mem hi)
        have e0 : ((i : Int) < (ss.length : Int)) := by omega
        have e3 : M.i_StepMachine (⟨(runF m (ss.take i)).2.Routes, (runF m (ss.take i)).2.Enabled, (runF m (ss.take i)).2.Raised, (runF m (ss.take i)).2.Cpus⟩ : Machine) ss[i] = some (stepF (runF m (ss.take i)).2 ss[i]) := (StepMachine_is (runF m (ss.take i)).2 ss[i] (gm_fit r1)).2
        have e4 : stepF (runF m (ss.take i)).2 ss[i] = (match makeF (runF m (ss.take i)).2 ss[i] with | none => (zM, 0, false) | some p => (p.1, p.2, true)) := by
          unfold stepF
          rw [(goodMc_iff _).2 r1, hsi]
          rfl
        simp only [e0, decide_true, cond_true, gxIdx_nat hi, Option.bind_some, e3, e4, w64_succ (show i ≤ 4611686018427387904 by omega), runF_succ hi]
        unfold runS
        cases hz : makeF (runF m (ss.take i)).2 ss[i] with
        | none => rfl
        | some p =>
          simp only [Bool.not_true, cond_false]
          cases (ss[i].Kind == 3) with
          | true => simp only [cond_true, gxApp_ok (show ((runF m (ss.take i)).1.length + [p.2].length) * 8 ≤ 140737488355328 by simp only [List.length_cons, List.length_nil]; omega), Option.bind_some]
          | false => simp only [cond_false, Option.bind_some]
      · simp only [Int.lt_irrefl, decide_false, cond_false, List.take_length]
end Go.Proofs.YtllhajkgkghhdaaGreat
set_option linter.unusedVariables false
set_option linter.unusedSimpArgs false
namespace Go.Gx
section
variable {P : Program} {α : Type} {E : Enc α} {w0 w : World} {Ls : List Seg}
theorem Mem.below (h : Mem [] w0 w Ls) : Go.RowKit.Below w0.heap.size w0 w := ⟨h.os, h.tape, h.output, h.size, fun k hk => h.old k hk (by simp)⟩
def ReadsAs (P : Program) (t : TypeId) (E : Enc α) (ok : α → Prop) : Prop :=
  P.cellsOf t = E.k ∧ ∀ (H : Type) (enc : TypeId × Value → H) (w : World) (base : Nat) (spare : Nat → Bool) (held : Bool) (fuel : Nat) (cs : List Value) (y : DataW H × List MemPlace), DataW.trod enc P w base spare held fuel t cs = some y → ∃ x, cs = E.cells x ∧ ok x
theorem readsU8 {t : TypeId} (ht : P.underlying t = some (.int .u8)) (hc : P.cellsOf t = 1) : ReadsAs P t encU8 okU :=
  ⟨hc, fun _ _ _ _ _ _ _ _ _ h => by obtain ⟨n, rfl, _, hw⟩ := DataW.trod_int ht h; exact ⟨n, rfl, hw⟩⟩
theorem cell_block {a : Addr} {v : Value} (h : w.cell? a = some v) : ∃ cs e fr, a = ⟨a.block, a.off, none⟩ ∧ w.heap[a.block]? = some (.cells cs e fr) ∧ cs[a.off]? = some v := by
  have hs := World.cell?_spot h
  unfold World.cell? at h
  split at h
  · rename_i c t fr hb
    rw [hs] at h
    refine ⟨c, t, fr, ?_, hb, by simpa using h⟩
    cases a; simp at hs; subst hs; rfl
  · cases h
theorem add_plain {b o n : Nat} : (⟨b, o, none⟩ : Addr).add n = ⟨b, o + n, none⟩ := by
  unfold Addr.add
  split
  · rename_i h; subst h; rfl
  · rfl
theorem list_of {γ : Type} {n : Nat} {R : Nat → γ → Prop} (h : ∀ i, i < n → ∃ x, R i x) : ∃ xs : List γ, xs.length = n ∧ ∀ i x, xs[i]? = some x → R i x := by
  induction n with
  | zero => exact ⟨[], rfl, by simp⟩
  | succ n ih =>
    obtain ⟨xs, hl, hx⟩ := ih (fun i hi => h i (by omega))
    obtain ⟨x, hR⟩ := h n (by omega)
    refine ⟨xs ++ [x], by simp [hl], fun i y hy => ?_⟩
    rw [List.getElem?_append] at hy
    split at hy
    · exact hx i y hy
    · rename_i hge
      have : i < n + 1 := by
        have := (List.getElem?_eq_some_iff.1 hy).1
        simp at this; omega
      have hi : i = n := by omega
      subst hi
      simp [hl] at hy
      subst hy
      exact hR
theorem open_slice {t e : TypeId} {ok : α → Prop} (hE : ReadsAs P e E ok) (hpos : 0 < E.k) (ht : P.underlying t = some (.slice e)) {H : Type} {enc : TypeId × Value → H} {base : Nat} {spare : Nat → Bool} {held : Bool} {fuel : Nat} {cs : List Value} {y : DataW H × List MemPlace}
    (h : DataW.trod enc P w base spare held fuel t cs = some y) : ∃ (p : Option Addr) (c : Nat) (xs : List α), cs = [.slice p xs.length c] ∧ rdS E w xs p c ∧ xs.length ≤ 9223372036854775807 ∧ ∀ x ∈ xs, ok x := by
  rcases DataW.trod_slice ht h with ⟨rfl, _⟩ | ⟨a, len, cap, elems, rest, n, _, rfl, _, _, hl, hm, hlen, hel, _⟩
  · exact ⟨none, 0, [], rfl, rdS_nil, by simp, by simp⟩
  · have each : ∀ i, i < len → ∃ x : α, ok x ∧ ∀ j, j < E.k → w.cell? ((a.add (i * E.k)).add j) = (E.cells x)[j]? := by
      intro i hi
      have h1 := hel i hi
      rw [List.getElem?_eq_getElem (by omega)] at h1
      obtain ⟨ci, hc, hr⟩ := Option.bind_eq_some_iff.1 h1
      obtain ⟨x, rfl, hx⟩ := hE.2 _ _ _ _ _ _ _ _ _ hr
      obtain ⟨_, _, hc3⟩ := World.cells?_some hc
      rw [hE.1] at hc3
      exact ⟨x, hx, hc3⟩
    obtain ⟨xs, hxl, hxs⟩ := list_of each
    refine ⟨some a, cap, xs, by rw [hxl], ⟨by omega, ?_⟩, by have : cap ≤ 9223372036854775807 := hm; omega, fun x hx => ?_⟩
    · cases xs with
      | nil => exact Or.inl rfl
      | cons x0 r =>
        right
        have h0 := (hxs 0 x0 rfl).2 0 hpos
        rw [List.getElem?_eq_getElem (by rw [E.len]; exact hpos)] at h0
        have h1 : w.cell? a = some ((E.cells x0)[0]'(by rw [E.len]; exact hpos)) := by simpa [Addr.add] using h0
        obtain ⟨C, e', fr, ha, hb, _⟩ := cell_block h1
        refine ⟨a.block, a.off, C, e', fr, by rw [← ha], hb, fun i x hx j v hj => ?_⟩
        have hjk : j < E.k := by
          have := (List.getElem?_eq_some_iff.1 hj).1
          rw [E.len] at this; exact this
        have hcell := (hxs i x hx).2 j hjk
        rw [hj, ha, add_plain, add_plain] at hcell
        simpa [World.cell?, hb] using hcell
    · obtain ⟨i, hi, rfl⟩ := List.mem_iff_getElem.1 hx
      exact (hxs i _ (List.getElem?_eq_getElem hi)).1
end
end Go.Gx
