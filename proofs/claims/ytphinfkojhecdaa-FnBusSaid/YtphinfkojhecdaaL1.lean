/- Plain laws of the models: no program in sight. -/
import Derived.Test.YtphinfkojhecdaaM
import Derived.Test.YtphinfkojhecdaaGxH
set_option linter.unusedVariables false
set_option linter.unusedSimpArgs false
set_option maxHeartbeats 4000000
namespace Go.Proofs.Ytphinfkojhecdaa
open Go.Gx
/-! ### Buckets -/
theorem s_in (x a b : Int) : M.s_l1In x a b = some (decide (a ≤ x) && decide (x ≤ b)) := by
  unfold M.s_l1In
  by_cases h : x ≥ a <;> simp [h]
theorem i_in (x a b : Int) : M.i_inside x a b = some (decide (a ≤ x) && decide (x ≤ b)) := by
  unfold M.i_inside
  by_cases h : x ≥ a <;> simp [h]
def okBucket (x : Bucket) : Prop := okI x.Guest ∧ okI x.Rate ∧ okI x.Burst ∧ okI x.Have ∧ okI x.Tick
theorem bucket_eq (x : Bucket) : ∃ r, M.s_IsBucket x = some r ∧ M.i_IsBucket x = some r := by
  unfold M.s_IsBucket M.s_l23One M.s_l11Tick M.i_IsBucket M.i_isGuest M.i_isTick
  simp only [s_in, i_in, Option.bind_some]
  cases (decide (1 ≤ x.Guest) && decide (x.Guest ≤ 4)) <;> cases (decide (0 ≤ x.Rate) && decide (x.Rate ≤ 100)) <;> cases (decide (1 ≤ x.Burst) && decide (x.Burst ≤ 1000)) <;> cases (decide (0 ≤ x.Have) && decide (x.Have ≤ x.Burst)) <;> exact ⟨_, rfl, rfl⟩
theorem plain_IsBucket (x : Bucket) (_ : okBucket x) : M.l_FnExactIsBucket x = some true := by
  obtain ⟨r, h1, h2⟩ := bucket_eq x
  have ht : M.l_toBucket x = some x := rfl
  unfold M.l_FnExactIsBucket
  simp only [ht, h1, h2, Option.bind_some, beq_self_eq_true, Bool.not_true, cond_false]
end Go.Proofs.Ytphinfkojhecdaa
