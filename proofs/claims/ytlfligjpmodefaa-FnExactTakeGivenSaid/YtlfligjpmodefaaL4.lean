/- Plain laws of the models: no program in sight. -/
import Derived.Test.YtlfligjpmodefaaM
import Derived.Test.YtlfligjpmodefaaL3
set_option linter.unusedVariables false
set_option linter.unusedSimpArgs false
set_option maxHeartbeats 4000000
namespace Go.Proofs.Ytlfligjpmodefaa
open Go.Gx
theorem plain_AreBalloons (a0 : List Int) (a1 : List Balloon) (k0 : okL okI a0) (k1 : okL okBalloon a1) : M.l_FnExactAreBalloons a0 a1 = some true := by
  unfold M.l_FnExactAreBalloons
  by_cases g0 : ((a0.length : Int) > 1048576)
  · simp only [g0, decide_true, cond_true]
  simp only [g0, decide_false, cond_false]
  obtain ⟨q1, hq1, hf1⟩ := szBalloonS_ex a1 1048576 k1 (by omega)
  rw [hq1, Option.bind_some]
  rcases hf1 with hf1 | hf1
  · simp only [hf1, decide_true, cond_true]
  have hn1 : ¬ (q1 < 0) := by omega
  simp only [hn1, decide_false, cond_false]
  have hz1 := hf1.2.2
  obtain ⟨r, hs, hi⟩ := AreBalloons_eq a0 a1 (by omega) hz1
  have ht0 := toIntS_id a0 (by omega)
  have he0 := eqIntS_refl a0 (by omega)
  have ht1 := toBalloonS_id a1 hz1
  have he1 := eqBalloonS_refl a1 hz1
  simp only [hs, hi, ht0, he0, ht1, he1, nat_nlt, Option.bind_some, Bool.not_true, cond_false, cond_true, beq_self_eq_true, bne_self_eq_false, decide_false]
theorem plain_GivenFrames (a0 : List Int) (a1 : List Balloon) (k0 : okL okI a0) (k1 : okL okBalloon a1) : M.l_FnExactGivenFrames a0 a1 = some true := by
  unfold M.l_FnExactGivenFrames
  by_cases g0 : ((a0.length : Int) > 1048576)
  · simp only [g0, decide_true, cond_true]
  simp only [g0, decide_false, cond_false]
  obtain ⟨q1, hq1, hf1⟩ := szBalloonS_ex a1 1048576 k1 (by omega)
  rw [hq1, Option.bind_some]
  rcases hf1 with hf1 | hf1
  · simp only [hf1, decide_true, cond_true]
  have hn1 : ¬ (q1 < 0) := by omega
  simp only [hn1, decide_false, cond_false]
  have hz1 := hf1.2.2
  obtain ⟨r, hs, hi⟩ := GivenFrames_eq a0 a1 (by omega) hz1
  have ht0 := toIntS_id a0 (by omega)
  have he0 := eqIntS_refl a0 (by omega)
  have ht1 := toBalloonS_id a1 hz1
  have he1 := eqBalloonS_refl a1 hz1
  simp only [hs, hi, ht0, he0, ht1, he1, nat_nlt, Option.bind_some, Bool.not_true, cond_false, cond_true, beq_self_eq_true, bne_self_eq_false, decide_false]
theorem plain_SetGoal (a0 : List Int) (a1 : List Balloon) (a2 : Int) (a3 : Int) (k0 : okL okI a0) (k1 : okL okBalloon a1) (k2 : okI a2) (k3 : okI a3) : M.l_FnExactSetGoal a0 a1 a2 a3 = some true := by
  unfold M.l_FnExactSetGoal
  by_cases g0 : ((a0.length : Int) > 1048576)
  · simp only [g0, decide_true, cond_true]
  simp only [g0, decide_false, cond_false]
  obtain ⟨q1, hq1, hf1⟩ := szBalloonS_ex a1 1048576 k1 (by omega)
  rw [hq1, Option.bind_some]
  rcases hf1 with hf1 | hf1
  · simp only [hf1, decide_true, cond_true]
  have hn1 : ¬ (q1 < 0) := by omega
  simp only [hn1, decide_false, cond_false]
  have hz1 := hf1.2.2
  obtain ⟨r, hs, hi, hr0⟩ := SetGoal_eq a0 a1 a2 a3 (by omega) hz1
  have ht0 := toIntS_id a0 (by omega)
  have he0 := eqIntS_refl a0 (by omega)
  have ht1 := toBalloonS_id a1 hz1
  have he1 := eqBalloonS_refl a1 hz1
  obtain ⟨na0, ma0, hma0, _, hla0, hua0⟩ := markIntS_held a0 1 (by omega)
  have hma0 : M.l_markIntS a0 1 = _ := hma0
  obtain ⟨na1, ma1, hma1, _, hla1, hua1⟩ := markBalloonS_held a1 na0 hz1 (by omega)
  obtain ⟨nr0, mr0, hmr0, hhr0, hlr0, hur0⟩ := markBalloonS_held r.1 1 hr0 (by omega)
  have hmr0 : M.l_markBalloonS r.1 1 = _ := hmr0
  have hhr0 : M.l_heldBalloonS mr0 1 = _ := hhr0
  have her0 := eqBalloonS_refl r.1 hr0
  simp only [hs, hi, ht0, he0, ht1, he1, hma0, hma1, hmr0, hhr0, her0, nat_nlt, Option.bind_some, Bool.not_true, cond_false, cond_true, beq_self_eq_true, bne_self_eq_false, decide_false]
end Go.Proofs.Ytlfligjpmodefaa
