/- The plain law behind NumCompares: what the printed functions answer is true at every input. -/
import Derived.Test.YticnolkbmpmgcaaQNx13
import Derived.Test.YticnolkbmpmgcaaPRCmp
set_option linter.unusedVariables false
set_option linter.unusedSimpArgs false
namespace Go.Proofs.Yticnolkbmpmgcaa.Pure
open Go.RowKit Go.Proofs.Yticnolkbmpmgcaa.QN Go.Proofs.Yticnolkbmpmgcaa.FT
theorem NumCompares (t n u m : Int) (_ : (Lit.int .i64 t).wf = true) (hn : (Lit.int .i64 n).wf = true) (_ : (Lit.int .i64 u).wf = true) (hm : (Lit.int .i64 m).wf = true) : ∃ k, heirloomlaw01_NumCompares.f k t n u m = some true := by
  refine ⟨43, ?_⟩
  unfold heirloomlaw01_NumCompares.f
  rw [cmp_f 43 (by decide) hn hm, rcmp_f 43 (by decide) hn hm]
  simp [alive_at 43 (by decide)]
end Go.Proofs.Yticnolkbmpmgcaa.Pure
