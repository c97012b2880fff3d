/- The plain law behind AgesPath: what the printed functions answer is true at every input. -/
import Derived.Test.YtpdhmfbpmbbmgaaQAx3
set_option linter.unusedVariables false
set_option linter.unusedSimpArgs false
namespace Go.Proofs.Ytpdhmfbpmbbmgaa.Pure
open Go.RowKit Go.Proofs.Ytpdhmfbpmbbmgaa.QA
theorem next_f (a : Int) (h : (Lit.int .i64 a).wf = true) : ages_Next.f a = some (Mp.nextV a) := by
  show Mp.ages_Next.f a = _
  unfold Mp.ages_Next.f
  rw [if_pos h]
theorem AgesPath : heirloomlaw12_AgesPath.Pure := by
  intro a0 h0
  refine ⟨9, ?_⟩
  by_cases hr : 0 ≤ a0 ∧ a0 ≤ 6
  · obtain ⟨hl, hu⟩ := hr
    have : a0 = 0 ∨ a0 = 1 ∨ a0 = 2 ∨ a0 = 3 ∨ a0 = 4 ∨ a0 = 5 ∨ a0 = 6 := by omega
    rcases this with rfl | rfl | rfl | rfl | rfl | rfl | rfl <;> rfl
  · have e0 : Mp.nextV a0 = a0 := by unfold Mp.nextV; repeat (rw [if_neg (by omega)])
    have eo : ages_Old.f a0 = some false := by
      unfold ages_Old.f
      split
      · rw [decide_eq_false (by omega)]
      · rfl
    have hd : a0 < 0 ∨ ¬ (a0 < 0) ∧ a0 > 6 := by omega
    unfold heirloomlaw12_AgesPath.f
    rcases hd with h | ⟨h, h2⟩
    · rw [if_pos h]
      unfold heirloomlaw12_AgesPath.j0
      simp [next_f a0 h0, e0, eo, heirloomlaw12_alive.f]
    · rw [if_neg h]
      unfold heirloomlaw12_AgesPath.j0
      simp [h2, next_f a0 h0, e0, eo, heirloomlaw12_alive.f]
end Go.Proofs.Ytpdhmfbpmbbmgaa.Pure
