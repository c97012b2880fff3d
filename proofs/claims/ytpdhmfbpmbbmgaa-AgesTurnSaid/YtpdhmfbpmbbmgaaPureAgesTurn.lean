/- The plain law behind AgesTurn: what the printed functions answer is true at every input. -/
import Derived.Test.YtpdhmfbpmbbmgaaQAx2
set_option linter.unusedVariables false
set_option linter.unusedSimpArgs false
namespace Go.Proofs.Ytpdhmfbpmbbmgaa.Pure
open Go.RowKit Go.Proofs.Ytpdhmfbpmbbmgaa.QA
theorem next_f (a : Int) (h : (Lit.int .i64 a).wf = true) : ages_Next.f a = some (Mp.nextV a) := by
  show Mp.ages_Next.f a = _
  unfold Mp.ages_Next.f
  rw [if_pos h]
theorem rnext_f (a : Int) : heirloomref12_Next.f 9 a = some (Mp.nextV a) := by
  unfold Mp.nextV heirloomref12_Next.f
  by_cases h0 : a = 0
  · simp [h0]
  by_cases h1 : a = 1
  · subst h1; rfl
  by_cases h2 : a = 2
  · subst h2; rfl
  by_cases h3 : a = 3
  · subst h3; rfl
  by_cases h4 : a = 4
  · subst h4; rfl
  by_cases h5 : a = 5
  · subst h5; rfl
  by_cases h6 : a = 6
  · subst h6; rfl
  simp [h0, h1, h2, h3, h4, h5, h6, heirloomref12_Next.j0, heirloomref12_Next.j1]
theorem AgesTurn : heirloomlaw12_AgesTurn.Pure := by
  intro a0 a1 h0 h1
  refine ⟨9, ?_⟩
  unfold heirloomlaw12_AgesTurn.f
  rw [next_f a0 h0, rnext_f]
  have e1 : ∀ a, heirloomref12_Old.f a = ages_Old.f a := fun _ => rfl
  have e2 : ∀ a, heirloomref12_Back.f a = ages_Back.f a := fun _ => rfl
  have e3 : ∀ a b, heirloomref12_Forward.f a b = ages_Forward.f a b := fun _ _ => rfl
  have o1 : ∃ x, ages_Old.f a0 = some x := by unfold ages_Old.f; split <;> exact ⟨_, rfl⟩
  have o2 : ∃ x, ages_Back.f a0 = some x := by unfold ages_Back.f; obtain ⟨x, hx⟩ := o1; rw [hx]; simp only [Option.bind_some]; split <;> exact ⟨_, rfl⟩
  have o3 : ∃ x, ages_Forward.f a1 a0 = some x := by
    unfold ages_Forward.f ages_Old.f ages_young.f
    repeat' split
    all_goals simp only [Option.bind_some]
    all_goals repeat' split
    all_goals (try simp only [Option.bind_some])
    all_goals repeat' split
    all_goals exact ⟨_, rfl⟩
  obtain ⟨x1, hx1⟩ := o1
  obtain ⟨x2, hx2⟩ := o2
  obtain ⟨x3, hx3⟩ := o3
  simp only [e1, e2, e3, hx1, hx2, hx3, Option.bind_some, heirloomlaw12_alive.f]
  simp
end Go.Proofs.Ytpdhmfbpmbbmgaa.Pure
