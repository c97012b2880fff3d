/- The plain law behind NumMakes: what the printed functions answer is true at every input. -/
import Derived.Test.YticnolkbmpmgcaaQNx9
import Derived.Test.YticnolkbmpmgcaaNP2
set_option linter.unusedVariables false
set_option linter.unusedSimpArgs false
namespace Go.Proofs.Yticnolkbmpmgcaa.Pure
open Go.RowKit Go.Proofs.Yticnolkbmpmgcaa.QN Go.Proofs.Yticnolkbmpmgcaa.FT
theorem NumMakes (a0 t n : Int) (_ : (Lit.int .i64 a0).wf = true) (_ : (Lit.int .i64 t).wf = true) (_ : (Lit.int .i64 n).wf = true) : ∃ k, heirloomlaw01_NumMakes.f k a0 t n = some true := by
  refine ⟨43, ?_⟩
  unfold heirloomlaw01_NumMakes.f num_Int.f heirloomref01_Int.f
  simp only [of_f, is_f, ris_f, rfloat_f, float_f, heirloomref01_Real.f, Option.bind_some, bne_self_eq_false, Bool.false_eq_true, if_false, beq_self_eq_true, Bool.not_true, Bool.or_self]
  unfold heirloomlaw01_NumMakes.j0
  simp only [wh_f, rwh_f 41, rof_f, rfloat_f, float_f, Option.bind_some, Bool.false_eq_true, if_false, beq_self_eq_true, Bool.not_true, Bool.or_self]
  have hj : ∀ b, b = false → heirloomlaw01_NumMakes.j1 42 (wS t n).1 (wS t n).2 (wS t n).1 (wS t n).2 b = some true := by
    rintro b rfl
    simp only [heirloomlaw01_NumMakes.j1, heirloomlaw01_no.f, Option.bind_some, if_true, Bool.false_eq_true, if_false, alive_at 41 (by decide)]
  by_cases h : isB t n = true
  · rw [if_pos h, ofN_is h]
    simp only [beq_self_eq_true, Bool.not_true, Bool.or_self, Bool.false_eq_true, if_false]
    exact hj _ rfl
  · rw [if_neg h, ofN_not h]
    exact hj _ (by decide)
end Go.Proofs.Yticnolkbmpmgcaa.Pure
