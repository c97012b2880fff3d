/- Float64 by its bits, told by whole numbers: what a word stands for, in units of 2^-1074; order, rounding, sums, products of these. -/
import Derived.Test.YticnolkbmpmgcaaFl
set_option linter.unusedVariables false
set_option linter.unusedSimpArgs false
namespace Go.Proofs.Yticnolkbmpmgcaa.FT
open Go.Proofs.Yticnolkbmpmgcaa.Fl

set_option exponentiation.threshold 3000
def infR : Nat := 2047 * 2 ^ 52
def U : Nat := 2 ^ 1074
def rung (b : Nat) : Nat := b % 2 ^ 63
def sgn (b : Nat) : Bool := b / 2 ^ 63 % 2 == 1
def mant (r : Nat) : Nat := if r < 2 ^ 52 then r else 2 ^ 52 + r % 2 ^ 52
def expo (r : Nat) : Nat := if r < 2 ^ 52 then 0 else r / 2 ^ 52 - 1
def mag (r : Nat) : Nat := mant r * 2 ^ expo r
def sg (s : Bool) (m : Nat) : Int := if s then -(m : Int) else m
/-- what a word stands for (an infinity: the next number above all) -/
def fval (b : Nat) : Int := sg (sgn b) (mag (rung b))
/-- it is no NaN -/
def isNum (b : Nat) : Prop := rung b ≤ infR
def wd (s : Bool) (r : Nat) : Nat := if s then 2 ^ 63 + r else r

theorem U_pos : 0 < U := Nat.two_pow_pos _
theorem e_sw : FloatKind.f64.format.signWeight = 2 ^ 63 := by decide
theorem e_bi : FloatKind.f64.format.binade = 2 ^ 52 := by decide
theorem e_ir : FloatKind.f64.format.infRung = infR := by decide
theorem e_lp : FloatKind.f64.format.leastPlace = -1074 := by decide
theorem e_fb : FloatKind.f64.format.fractionBits = 52 := rfl
theorem e_wd (s : Bool) (r : Nat) : FloatKind.f64.format.word s r = wd s r := by
  unfold Ieee.Format.word wd; rw [e_sw]
theorem mant_lt (r : Nat) : mant r < 2 ^ 53 := by unfold mant; split <;> omega

theorem read_fin {b : Nat} (h : rung b < infR) : FloatKind.f64.format.read b = .number (sgn b) (mant (rung b)) (-1074 + expo (rung b)) := by
  unfold Ieee.Format.read
  rw [e_sw, e_bi, e_ir, e_lp]
  show (if rung b < 2 ^ 52 then _ else _) = _
  unfold mant expo
  by_cases h1 : rung b < 2 ^ 52
  · rw [if_pos h1, if_pos h1, if_pos h1]; rfl
  · rw [if_neg h1, if_neg h1, if_neg h1]
    show (if rung b < infR then _ else _) = _
    rw [if_pos h]; rfl
theorem read_inf {b : Nat} (h : rung b = infR) : FloatKind.f64.format.read b = .infinity (sgn b) := by
  unfold Ieee.Format.read
  rw [e_sw, e_bi, e_ir, e_lp]
  show (if rung b < 2 ^ 52 then _ else if rung b < infR then _ else if rung b = infR then _ else _) = _
  rw [h]; rfl
theorem read_nan {b : Nat} (h : infR < rung b) : FloatKind.f64.format.read b = .nan (sgn b) (rung b - infR) := by
  unfold Ieee.Format.read
  rw [e_sw, e_bi, e_ir, e_lp]
  show (if rung b < 2 ^ 52 then _ else if rung b < infR then _ else if rung b = infR then _ else _) = _
  have h1 : infR = 2047 * 2 ^ 52 := rfl
  rw [if_neg (by omega), if_neg (by omega), if_neg (by omega)]; rfl

theorem sgF (m : Nat) : sg false m = (m : Int) := rfl
theorem sgT (m : Nat) : sg true m = -(m : Int) := rfl
theorem sg_shift (s : Bool) (m k : Nat) : Ieee.signed s m k = sg s (m * 2 ^ k) := by
  unfold Ieee.signed sg; rw [Nat.shiftLeft_eq]
theorem sg_mul (s : Bool) (m k : Nat) : sg s (m * k) = sg s m * (k : Int) := by
  unfold sg; split
  · rw [Int.natCast_mul, Int.neg_mul]
  · rw [Int.natCast_mul]
theorem cmp_scale (x y : Int) (k : Nat) (hk : 0 < k) : compare (x * (k : Int)) (y * (k : Int)) = compare x y := by
  have hk' : (0 : Int) < k := by omega
  rcases Int.lt_trichotomy x y with h | h | h
  · rw [Int.compare_eq_lt.2 h, Int.compare_eq_lt.2 (Int.mul_lt_mul_of_pos_right h hk')]
  · rw [h]; simp
  · rw [Int.compare_eq_gt.2 h, Int.compare_eq_gt.2 (Int.mul_lt_mul_of_pos_right h hk')]

theorem base_eq (e1 e2 : Nat) : min (-1074 + (e1 : Int)) (-1074 + (e2 : Int)) = -1074 + ((min e1 e2 : Nat) : Int) := by omega
theorem place_sub (e1 e2 : Nat) : ((-1074 + (e1 : Int)) - (-1074 + ((min e1 e2 : Nat) : Int))).toNat = e1 - min e1 e2 := by omega
theorem place_sub' (e1 e2 : Nat) : ((-1074 + (e2 : Int)) - (-1074 + ((min e1 e2 : Nat) : Int))).toNat = e2 - min e1 e2 := by omega
theorem pow_min (m e d : Nat) (h : d ≤ e) : m * 2 ^ (e - d) * 2 ^ d = m * 2 ^ e := by
  rw [Nat.mul_assoc, ← Nat.pow_add, Nat.sub_add_cancel h]
theorem val_scale (b : Nat) (d : Nat) (h : d ≤ expo (rung b)) : fval b = Ieee.signed (sgn b) (mant (rung b)) (expo (rung b) - d) * ((2 ^ d : Nat) : Int) := by
  rw [sg_shift, ← sg_mul, pow_min _ _ _ h]; rfl

theorem mag_fin {r : Nat} (h : r < infR) : mag r < 2 ^ 2098 := by
  have h1 := mant_lt r
  have h2 : expo r ≤ 2045 := by
    unfold expo; unfold infR at h; split <;> omega
  unfold mag
  calc mant r * 2 ^ expo r ≤ mant r * 2 ^ 2045 := Nat.mul_le_mul_left _ (Nat.pow_le_pow_right (by decide) h2)
    _ < 2 ^ 53 * 2 ^ 2045 := Nat.mul_lt_mul_of_pos_right h1 (Nat.two_pow_pos _)
    _ = 2 ^ 2098 := by rw [← Nat.pow_add]
theorem mag_inf : mag infR = 2 ^ 2098 := by
  have h1 : mant infR = 2 ^ 52 := by decide
  have h2 : expo infR = 2046 := by decide
  unfold mag; rw [h1, h2, ← Nat.pow_add]
theorem sg_bd (s : Bool) (m : Nat) : -(m : Int) ≤ sg s m ∧ sg s m ≤ m := by unfold sg; split <;> omega

/-- ORDER: of what is no NaN, that of the values. -/
theorem order_num {x y : Nat} (hx : isNum x) (hy : isNum y) : FloatKind.f64.format.order x y = some (compare (fval x) (fval y)) := by
  unfold isNum at hx hy
  unfold Ieee.Format.order
  rcases Nat.lt_or_eq_of_le hx with hx | hx <;> rcases Nat.lt_or_eq_of_le hy with hy | hy
  · rw [read_fin hx, read_fin hy]
    unfold Ieee.Datum.order
    simp only [base_eq, place_sub, place_sub']
    rw [val_scale x _ (Nat.min_le_left (expo (rung x)) (expo (rung y))), val_scale y _ (Nat.min_le_right (expo (rung x)) (expo (rung y))), cmp_scale _ _ _ (Nat.two_pow_pos _)]
  · rw [read_fin hx, read_inf hy]
    unfold Ieee.Datum.order
    have h1 := mag_fin hx
    have h2 := sg_bd (sgn x) (mag (rung x))
    have h3 : fval y = sg (sgn y) (2 ^ 2098) := by unfold fval; rw [hy, mag_inf]
    have h4 : fval x = sg (sgn x) (mag (rung x)) := rfl
    generalize (2 : Nat) ^ 2098 = B at *
    cases hsy : sgn y
    · show some Ordering.lt = _
      have : fval x < fval y := by rw [h3, h4, hsy]; first | (rw [sgF]; omega) | (rw [sgT]; omega)
      rw [Int.compare_eq_lt.2 this]
    · show some Ordering.gt = _
      have : fval y < fval x := by rw [h3, h4, hsy]; first | (rw [sgF]; omega) | (rw [sgT]; omega)
      rw [Int.compare_eq_gt.2 this]
  · rw [read_inf hx, read_fin hy]
    unfold Ieee.Datum.order
    have h1 := mag_fin hy
    have h2 := sg_bd (sgn y) (mag (rung y))
    have h3 : fval x = sg (sgn x) (2 ^ 2098) := by unfold fval; rw [hx, mag_inf]
    have h4 : fval y = sg (sgn y) (mag (rung y)) := rfl
    generalize (2 : Nat) ^ 2098 = B at *
    cases hsx : sgn x
    · show some Ordering.gt = _
      have : fval y < fval x := by rw [h3, h4, hsx]; first | (rw [sgF]; omega) | (rw [sgT]; omega)
      rw [Int.compare_eq_gt.2 this]
    · show some Ordering.lt = _
      have : fval x < fval y := by rw [h3, h4, hsx]; first | (rw [sgF]; omega) | (rw [sgT]; omega)
      rw [Int.compare_eq_lt.2 this]
  · rw [read_inf hx, read_inf hy]
    unfold Ieee.Datum.order
    have h3 : fval x = sg (sgn x) (2 ^ 2098) := by unfold fval; rw [hx, mag_inf]
    have h4 : fval y = sg (sgn y) (2 ^ 2098) := by unfold fval; rw [hy, mag_inf]
    rw [h3, h4]
    have hB : 0 < (2 : Nat) ^ 2098 := Nat.two_pow_pos _
    generalize (2 : Nat) ^ 2098 = B at *
    cases sgn x <;> cases sgn y
    · simp
    · have : sg true B < sg false B := by unfold sg; simp; omega
      rw [Int.compare_eq_gt.2 this]; rfl
    · have : sg true B < sg false B := by unfold sg; simp; omega
      rw [Int.compare_eq_lt.2 this]; rfl
    · simp
theorem order_nan {x y : Nat} (h : ¬ isNum x ∨ ¬ isNum y) : FloatKind.f64.format.order x y = none := by
  unfold isNum at h
  unfold Ieee.Format.order
  rcases h with h | h
  · rw [read_nan (by omega)]; cases FloatKind.f64.format.read y <;> rfl
  · rw [read_nan (b := y) (by omega)]; cases FloatKind.f64.format.read x <;> rfl
instance (b : Nat) : Decidable (isNum b) := by unfold isNum; exact inferInstance
theorem feq_iff (x y : Nat) : feq x y = true ↔ isNum x ∧ isNum y ∧ fval x = fval y := by
  unfold feq
  by_cases h : isNum x ∧ isNum y
  · rw [order_num h.1 h.2]; simp [h.1, h.2]
  · rw [order_nan (by by_cases h1 : isNum x <;> simp_all)]; simp; intro a b; exact absurd ⟨a, b⟩ h
theorem fne_iff (x y : Nat) : fne x y = true ↔ ¬ (isNum x ∧ isNum y ∧ fval x = fval y) := by
  have := feq_iff x y
  unfold feq at this; unfold fne
  rw [← this]
  cases h : FloatKind.f64.format.order x y == some Ordering.eq <;> simp_all
theorem flt_iff (x y : Nat) : flt x y = true ↔ isNum x ∧ isNum y ∧ fval x < fval y := by
  unfold flt
  by_cases h : isNum x ∧ isNum y
  · rw [order_num h.1 h.2]; simp [h.1, h.2, Int.compare_eq_lt]
  · rw [order_nan (by by_cases h1 : isNum x <;> simp_all)]; simp; intro a b; exact absurd ⟨a, b⟩ h
theorem fgt_iff (x y : Nat) : fgt x y = true ↔ isNum x ∧ isNum y ∧ fval y < fval x := by
  unfold fgt
  by_cases h : isNum x ∧ isNum y
  · rw [order_num h.1 h.2]; simp [h.1, h.2, Int.compare_eq_gt]
  · rw [order_nan (by by_cases h1 : isNum x <;> simp_all)]; simp; intro a b; exact absurd ⟨a, b⟩ h
theorem fge_iff (x y : Nat) : fge x y = true ↔ isNum x ∧ isNum y ∧ fval y ≤ fval x := by
  unfold fge
  by_cases h : isNum x ∧ isNum y
  · rw [order_num h.1 h.2]; simp [h.1, h.2, Int.compare_eq_gt]; omega
  · rw [order_nan (by by_cases h1 : isNum x <;> simp_all)]; simp; intro a b; exact absurd ⟨a, b⟩ h
end Go.Proofs.Yticnolkbmpmgcaa.FT
