/- Plain laws of the models: no program in sight. -/
import Derived.Test.YtphinfkojhecdaaM
import Derived.Test.YtphinfkojhecdaaL6
set_option linter.unusedVariables false
set_option linter.unusedSimpArgs false
set_option maxHeartbeats 4000000
namespace Go.Proofs.Ytphinfkojhecdaa
open Go.Gx
theorem plain_AddRegion (a0 : List Region) (a1 : Region) (k0 : okL okRegion a0) (k1 : okRegion a1) : M.l_FnExactAddRegion a0 a1 = some true := by
  unfold M.l_FnExactAddRegion
  obtain ⟨q0, hq0, hf0⟩ := szRegionS_ex a0 1048576 k0 (by omega)
  rw [hq0, Option.bind_some]
  rcases hf0 with hf0 | hf0
  · simp only [hf0, decide_true, cond_true]
  have hn0 : ¬ (q0 < 0) := by omega
  simp only [hn0, decide_false, cond_false]
  obtain ⟨r, hs, hi, hr0⟩ := AddRegion_eq a0 a1 (by omega)
  have ht0 := toRegionS_id a0 (by omega)
  have he0 := eqRegionS_refl a0 (by omega)
  have ht1 := toRegion_id a1
  obtain ⟨na0, ma0, hma0, _, hla0, hua0⟩ := markRegionS_held a0 1 (by omega)
  have hma0 : M.l_markRegionS a0 1 = _ := hma0
  obtain ⟨nr0, mr0, hmr0, hhr0, hlr0, hur0⟩ := markRegionS_held r.1 1 (by omega)
  have hmr0 : M.l_markRegionS r.1 1 = _ := hmr0
  have hhr0 : M.l_heldRegionS mr0 1 = _ := hhr0
  have her0 := eqRegionS_refl r.1 (by omega)
  simp only [hs, hi, ht0, he0, ht1, hma0, hmr0, hhr0, her0, nat_nlt, Option.bind_some, Bool.not_true, cond_false, cond_true, beq_self_eq_true, bne_self_eq_false, decide_false]
theorem plain_PlaceRegion (a0 : List Region) (a1 : Int) (k0 : okL okRegion a0) (k1 : okI a1) : M.l_FnExactPlaceRegion a0 a1 = some true := by
  unfold M.l_FnExactPlaceRegion
  obtain ⟨q0, hq0, hf0⟩ := szRegionS_ex a0 1048576 k0 (by omega)
  rw [hq0, Option.bind_some]
  rcases hf0 with hf0 | hf0
  · simp only [hf0, decide_true, cond_true]
  have hn0 : ¬ (q0 < 0) := by omega
  simp only [hn0, decide_false, cond_false]
  obtain ⟨r, hs, hi⟩ := PlaceRegion_eq a0 a1 (by omega)
  have ht0 := toRegionS_id a0 (by omega)
  have he0 := eqRegionS_refl a0 (by omega)
  simp only [hs, hi, ht0, he0, nat_nlt, Option.bind_some, Bool.not_true, cond_false, cond_true, beq_self_eq_true, bne_self_eq_false, decide_false]
theorem plain_MoveRegion (a0 : List Region) (a1 : Int) (a2 : Int) (k0 : okL okRegion a0) (k1 : okI a1) (k2 : okI a2) : M.l_FnExactMoveRegion a0 a1 a2 = some true := by
  unfold M.l_FnExactMoveRegion
  obtain ⟨q0, hq0, hf0⟩ := szRegionS_ex a0 1048576 k0 (by omega)
  rw [hq0, Option.bind_some]
  rcases hf0 with hf0 | hf0
  · simp only [hf0, decide_true, cond_true]
  have hn0 : ¬ (q0 < 0) := by omega
  simp only [hn0, decide_false, cond_false]
  obtain ⟨r, hs, hi, hr0⟩ := MoveRegion_eq a0 a1 a2 (by omega)
  have ht0 := toRegionS_id a0 (by omega)
  have he0 := eqRegionS_refl a0 (by omega)
  obtain ⟨na0, ma0, hma0, _, hla0, hua0⟩ := markRegionS_held a0 1 (by omega)
  have hma0 : M.l_markRegionS a0 1 = _ := hma0
  obtain ⟨nr0, mr0, hmr0, hhr0, hlr0, hur0⟩ := markRegionS_held r.1 1 (by omega)
  have hmr0 : M.l_markRegionS r.1 1 = _ := hmr0
  have hhr0 : M.l_heldRegionS mr0 1 = _ := hhr0
  have her0 := eqRegionS_refl r.1 (by omega)
  simp only [hs, hi, ht0, he0, hma0, hmr0, hhr0, her0, nat_nlt, Option.bind_some, Bool.not_true, cond_false, cond_true, beq_self_eq_true, bne_self_eq_false, decide_false]
end Go.Proofs.Ytphinfkojhecdaa
