/- The plain law behind NumRests: what the printed functions answer is true at every input. -/
import Derived.Test.YticnolkbmpmgcaaQNx18
import Derived.Test.YticnolkbmpmgcaaNPr
set_option linter.unusedVariables false
set_option linter.unusedSimpArgs false
namespace Go.Proofs.Yticnolkbmpmgcaa.Pure
open Go.RowKit Go.Proofs.Yticnolkbmpmgcaa.QN Go.Proofs.Yticnolkbmpmgcaa.FT
theorem NumRests : heirloomlaw01_NumRests.Pure := by
  intro a b ha hb
  have ha := i64_bd ha
  have hb := i64_bd hb
  refine ⟨40, ?_⟩
  unfold heirloomlaw01_NumRests.f num_Int.f heirloomlaw01_no.f
  simp only [Option.bind_some]
  by_cases h0 : b = 0
  · subst h0
    rw [op_0 5 (.inl rfl), op_0 6 (.inr rfl)]
    rw [alive_at 40 (by decide)]
    simp
  · obtain ⟨q, r, hq, hr, he, hn⟩ := rests a b ha hb h0
    rw [op5 a b h0, op6 a b h0, hq, hr]
    rw [alive_at 40 (by decide)]
    rcases hn with ⟨h1, h2, h3⟩ | ⟨h1, h2, h3⟩
    · simp [h0, h1, h2, h3, he]
    · have h4 : ¬ 0 < b := by omega
      simp [h0, h1, h2, h3, h4, he]
end Go.Proofs.Yticnolkbmpmgcaa.Pure
