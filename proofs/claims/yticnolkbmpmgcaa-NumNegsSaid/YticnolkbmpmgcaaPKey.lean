/- What num.Key comes to. -/
import Derived.Test.YticnolkbmpmgcaaNP2
import Derived.Test.YticnolkbmpmgcaaQNx19
set_option linter.unusedVariables false
set_option linter.unusedSimpArgs false
namespace Go.Proofs.Yticnolkbmpmgcaa.FT
open Go.RowKit Go.Proofs.Yticnolkbmpmgcaa.Fl Go.Proofs.Yticnolkbmpmgcaa.QN
def keyV (t n : Int) : Int × Int := if (wS t n).2 = 0 then (2, (wS t n).1) else (t, n)
theorem key_f (t n : Int) : num_Key.f t n = some (keyV t n) := by
  unfold num_Key.f num_Int.f keyV
  rw [wh_f]
  simp only [Option.bind_some]
  split <;> rfl
end Go.Proofs.Yticnolkbmpmgcaa.FT
