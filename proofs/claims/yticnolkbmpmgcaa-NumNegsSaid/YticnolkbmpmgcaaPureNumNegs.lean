/- The plain law behind NumNegs: what the printed functions answer is true at every input. -/
import Derived.Test.YticnolkbmpmgcaaQNx21
import Derived.Test.YticnolkbmpmgcaaPKey
set_option linter.unusedVariables false
set_option linter.unusedSimpArgs false
namespace Go.Proofs.Yticnolkbmpmgcaa.Pure
open Go.RowKit Go.Proofs.Yticnolkbmpmgcaa.QN Go.Proofs.Yticnolkbmpmgcaa.FT
theorem NumNegs (t n : Int) (_ : (Lit.int .i64 t).wf = true) (_ : (Lit.int .i64 n).wf = true) : ∃ k, heirloomlaw01_NumNegs.f k t n = some true := by
  refine ⟨43, ?_⟩
  unfold heirloomlaw01_NumNegs.f
  have e : num_Neg.f t n = heirloomref01_Neg.f t n := by
    unfold num_Neg.f heirloomref01_Neg.f heirloomref01_Real.f
    simp only [of_f, ris_f, Option.bind_some]
    by_cases h : isB t n = true
    · rw [if_pos h, if_pos h, ofN_is h]
      by_cases h2 : t = 2
      · rw [if_pos h2, if_pos h2]; rfl
      · rw [if_neg h2, if_neg h2, if_neg h2]; rfl
    · rw [if_neg h, if_neg h]
  have e2 : heirloomref01_Key.f 43 t n = num_Key.f t n := by
    unfold heirloomref01_Key.f num_Key.f
    rw [wh_f, rwh_f 42]
    rfl
  rw [e2, e, key_f]
  obtain ⟨x, hx⟩ : ∃ x, heirloomref01_Neg.f t n = some x := by
    unfold heirloomref01_Neg.f heirloomref01_Real.f
    simp only [ris_f, rfloat_f, float_f, num_Int.f, heirloomref01_Int.f, Option.bind_some]
    split
    · split <;> exact ⟨_, rfl⟩
    · exact ⟨_, rfl⟩
  rw [hx]
  simp [heirloomlaw01_no.f, alive_at 43 (by decide)]
end Go.Proofs.Yticnolkbmpmgcaa.Pure
