/- What the printed functions of num and of its reference come to, in plain terms: Float, Key, Neg. -/
import Derived.Test.YticnolkbmpmgcaaNPr
set_option linter.unusedVariables false
set_option linter.unusedSimpArgs false
namespace Go.Proofs.Yticnolkbmpmgcaa.FT
open Go.RowKit Go.Proofs.Yticnolkbmpmgcaa.Fl Go.Proofs.Yticnolkbmpmgcaa.QN
theorem rfloat_f (b : Nat) : heirloomref01_Float.f b = num_Float.f b := rfl
def flV (b : Nat) : Int × Int := if fne b b = true then (3, 9221120237041090561) else (3, wrap64 (((b : Nat) : Int)))
theorem float_f (b : Nat) : num_Float.f b = some (flV b) := by
  unfold num_Float.f flV
  split <;> rfl
theorem rof_f (t n : Int) : heirloomref01_Of.f t n = some (if t = 2 then floatOfInt .f64 n else ub n) := by
  unfold heirloomref01_Of.f heirloomref01_Real.f ub
  split <;> rfl
theorem ofN_is {t n : Int} (h : isB t n = true) : ofN t n = if t = 2 then floatOfInt .f64 n else ub n := by
  unfold ofN
  rw [if_pos h]
theorem ofN_not {t n : Int} (h : ¬ isB t n = true) : ofN t n = 0 := by
  unfold ofN
  rw [if_neg h]
end Go.Proofs.Yticnolkbmpmgcaa.FT
