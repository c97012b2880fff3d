/- Float64 by its bits, told by whole numbers. -/
import Derived.Test.YtpemgladmnbfhaaDoorFl
set_option linter.unusedVariables false
set_option linter.unusedSimpArgs false
namespace Go.Proofs.YtpemgladmnbfhaaDoor.FT
open Go.Proofs.YtpemgladmnbfhaaDoor.Fl

set_option exponentiation.threshold 3000
def infR : Nat := 2047 * 2 ^ 52
def U : Nat := 2 ^ 1074
def rung (b : Nat) : Nat := b % 2 ^ 63
def sgn (b : Nat) : Bool := b / 2 ^ 63 % 2 == 1
def mant (r : Nat) : Nat := if r < 2 ^ 52 then r else 2 ^ 52 + r % 2 ^ 52
def expo (r : Nat) : Nat := if r < 2 ^ 52 then 0 else r / 2 ^ 52 - 1
def mag (r : Nat) : Nat := mant r * 2 ^ expo r
def sg (s : Bool) (m : Nat) : Int := if s then -(m : Int) else m
/-- what a word stands for (an infinity: the next number above all) -/
def fval (b : Nat) : Int := sg (sgn b) (mag (rung b))
/-- it is no NaN -/
def isNum (b : Nat) : Prop := rung b ≤ infR
def wd (s : Bool) (r : Nat) : Nat := if s then 2 ^ 63 + r else r

theorem U_pos : 0 < U := Nat.two_pow_pos _
theorem e_sw : FloatKind.f64.format.signWeight = 2 ^ 63 := by decide
theorem e_bi : FloatKind.f64.format.binade = 2 ^ 52 := by decide
theorem e_ir : FloatKind.f64.format.infRung = infR := by decide
theorem e_lp : FloatKind.f64.format.leastPlace = -1074 := by decide
theorem e_fb : FloatKind.f64.format.fractionBits = 52 := rfl
theorem e_wd (s : Bool) (r : Nat) : FloatKind.f64.format.word s r = wd s r := by
  unfold Ieee.Format.word wd; rw [e_sw]
theorem mant_lt (r : Nat) : mant r < 2 ^ 53 := by unfold mant; split <;> omega

theorem read_fin {b : Nat} (h : rung b < infR) : FloatKind.f64.format.read b = .number (sgn b) (mant (rung b)) (-1074 + expo (rung b)) := by
  unfold Ieee.Format.read
  rw [e_sw, e_bi, e_ir, e_lp]
  show (if rung b < 2 ^ 52 then _ else _) = _
  unfold mant expo
  by_cases h1 : rung b < 2 ^ 52
  · rw [if_pos h1, if_pos h1, if_pos h1]; rfl
  · rw [if_neg h1, if_neg h1, if_neg h1]
    show (if rung b < infR then _ else _) = _
    rw [if_pos h]; rfl
theorem read_inf {b : Nat} (h : rung b = infR) : FloatKind.f64.format.read b = .infinity (sgn b) := by
  unfold Ieee.Format.read
  rw [e_sw, e_bi, e_ir, e_lp]
  show (if rung b < 2 ^ 52 then _ else if rung b < infR then _ else if rung b = infR then _ else _) = _
  rw [h]; rfl
theorem read_nan {b : Nat} (h : infR < rung b) : FloatKind.f64.format.read b = .nan (sgn b) (rung b - infR) := by
  unfold Ieee.Format.read
  rw [e_sw, e_bi, e_ir, e_lp]
  show (if rung b < 2 ^ 52 then _ else if rung b < infR then _ else if rung b = infR then _ else _) = _
  have h1 : infR = 2047 * 2 ^ 52 := rfl
  rw [if_neg (by omega), if_neg (by omega), if_neg (by omega)]; rfl

theorem sgF (m : Nat) : sg false m = (m : Int) := rfl
theorem sgT (m : Nat) : sg true m = -(m : Int) := rfl
theorem sg_shift (s : Bool) (m k : Nat) : Ieee.signed s m k = sg s (m * 2 ^ k) := by
  unfold Ieee.signed sg; rw [Nat.shiftLeft_eq]
theorem sg_mul (s : Bool) (m k : Nat) : sg s (m * k) = sg s m * (k : Int) := by
  unfold sg; split
  · rw [Int.natCast_mul, Int.neg_mul]
  · rw [Int.natCast_mul]
theorem cmp_scale (x y : Int) (k : Nat) (hk : 0 < k) : compare (x * (k : Int)) (y * (k : Int)) = compare x y := by
  have hk' : (0 : Int) < k := by omega
  rcases Int.lt_trichotomy x y with h | h | h
  · rw [Int.compare_eq_lt.2 h, Int.compare_eq_lt.2 (Int.mul_lt_mul_of_pos_right h hk')]
  · rw [h]; simp
  · rw [Int.compare_eq_gt.2 h, Int.compare_eq_gt.2 (Int.mul_lt_mul_of_pos_right h hk')]

theorem base_eq (e1 e2 : Nat) : min (-1074 + (e1 : Int)) (-1074 + (e2 : Int)) = -1074 + ((min e1 e2 : Nat) : Int) := by omega
theorem place_sub (e1 e2 : Nat) : ((-1074 + (e1 : Int)) - (-1074 + ((min e1 e2 : Nat) : Int))).toNat = e1 - min e1 e2 := by omega
theorem place_sub' (e1 e2 : Nat) : ((-1074 + (e2 : Int)) - (-1074 + ((min e1 e2 : Nat) : Int))).toNat = e2 - min e1 e2 := by omega
theorem pow_min (m e d : Nat) (h : d ≤ e) : m * 2 ^ (e - d) * 2 ^ d = m * 2 ^ e := by
  rw [Nat.mul_assoc, ← Nat.pow_add, Nat.sub_add_cancel h]
theorem val_scale (b : Nat) (d : Nat) (h : d ≤ expo (rung b)) : fval b = Ieee.signed (sgn b) (mant (rung b)) (expo (rung b) - d) * ((2 ^ d : Nat) : Int) := by
  rw [sg_shift, ← sg_mul, pow_min _ _ _ h]; rfl

theorem mag_fin {r : Nat} (h : r < infR) : mag r < 2 ^ 2098 := by
  have h1 := mant_lt r
  have h2 : expo r ≤ 2045 := by
    unfold expo; unfold infR at h; split <;> omega
  unfold mag
  calc mant r * 2 ^ expo r ≤ mant r * 2 ^ 2045 := Nat.mul_le_mul_left _ (Nat.pow_le_pow_right (by decide) h2)
    _ < 2 ^ 53 * 2 ^ 2045 := Nat.mul_lt_mul_of_pos_right h1 (Nat.two_pow_pos _)
    _ = 2 ^ 2098 := by rw [← Nat.pow_add]
theorem mag_inf : mag infR = 2 ^ 2098 := by
  have h1 : mant infR = 2 ^ 52 := by decide
  have h2 : expo infR = 2046 := by decide
  unfold mag; rw [h1, h2, ← Nat.pow_add]
theorem sg_bd (s : Bool) (m : Nat) : -(m : Int) ≤ sg s m ∧ sg s m ≤ m := by unfold sg; split <;> omega

/-- ORDER: of what is no NaN, that of the values. -/
theorem order_num {x y : Nat} (hx : isNum x) (hy : isNum y) : FloatKind.f64.format.order x y = some (compare (fval x) (fval y)) := by
  unfold isNum at hx hy
  unfold Ieee.Format.order
  rcases Nat.lt_or_eq_of_le hx with hx | hx <;> rcases Nat.lt_or_eq_of_le hy with hy | hy
  · rw [read_fin hx, read_fin hy]
    unfold Ieee.Datum.order
    simp only [base_eq, place_sub, place_sub']
    rw [val_scale x _ (Nat.min_le_left (expo (rung x)) (expo (rung y))), val_scale y _ (Nat.min_le_right (expo (rung x)) (expo (rung y))), cmp_scale _ _ _ (Nat.two_pow_pos _)]
  · rw [read_fin hx, read_inf hy]
    unfold Ieee.Datum.order
    have h1 := mag_fin hx
    have h2 := sg_bd (sgn x) (mag (rung x))
    have h3 : fval y = sg (sgn y) (2 ^ 2098) := by unfold fval; rw [hy, mag_inf]
    have h4 : fval x = sg (sgn x) (mag (rung x)) := rfl
    generalize (2 : Nat) ^ 2098 = B at *
    cases hsy : sgn y
    · show some Ordering.lt = _
      have : fval x < fval y := by rw [h3, h4, hsy]; first | (rw [sgF]; omega) | (rw [sgT]; omega)
      rw [Int.compare_eq_lt.2 this]
    · show some Ordering.gt = _
      have : fval y < fval x := by rw [h3, h4, hsy]; first | (rw [sgF]; omega) | (rw [sgT]; omega)
      rw [Int.compare_eq_gt.2 this]
  · rw [read_inf hx, read_fin hy]
    unfold Ieee.Datum.order
    have h1 := mag_fin hy
    have h2 := sg_bd (sgn y) (mag (rung y))
    have h3 : fval x = sg (sgn x) (2 ^ 2098) := by unfold fval; rw [hx, mag_inf]
    have h4 : fval y = sg (sgn y) (mag (rung y)) := rfl
    generalize (2 : Nat) ^ 2098 = B at *
    cases hsx : sgn x
    · show some Ordering.gt = _
      have : fval y < fval x := by rw [h3, h4, hsx]; first | (rw [sgF]; omega) | (rw [sgT]; omega)
      rw [Int.compare_eq_gt.2 this]
    · show some Ordering.lt = _
      have : fval x < fval y := by rw [h3, h4, hsx]; first | (rw [sgF]; omega) | (rw [sgT]; omega)
      rw [Int.compare_eq_lt.2 this]
  · rw [read_inf hx, read_inf hy]
    unfold Ieee.Datum.order
    have h3 : fval x = sg (sgn x) (2 ^ 2098) := by unfold fval; rw [hx, mag_inf]
    have h4 : fval y = sg (sgn y) (2 ^ 2098) := by unfold fval; rw [hy, mag_inf]
    rw [h3, h4]
    have hB : 0 < (2 : Nat) ^ 2098 := Nat.two_pow_pos _
    generalize (2 : Nat) ^ 2098 = B at *
    cases sgn x <;> cases sgn y
    · simp
    · have : sg true B < sg false B := by unfold sg; simp; omega
      rw [Int.compare_eq_gt.2 this]; rfl
    · have : sg true B < sg false B := by unfold sg; simp; omega
      rw [Int.compare_eq_lt.2 this]; rfl
    · simp
theorem order_nan {x y : Nat} (h : ¬ isNum x ∨ ¬ isNum y) : FloatKind.f64.format.order x y = none := by
  unfold isNum at h
  unfold Ieee.Format.order
  rcases h with h | h
  · rw [read_nan (by omega)]; cases FloatKind.f64.format.read y <;> rfl
  · rw [read_nan (b := y) (by omega)]; cases FloatKind.f64.format.read x <;> rfl
instance (b : Nat) : Decidable (isNum b) := by unfold isNum; exact inferInstance
theorem feq_iff (x y : Nat) : feq x y = true ↔ isNum x ∧ isNum y ∧ fval x = fval y := by
  unfold feq
  by_cases h : isNum x ∧ isNum y
  · rw [order_num h.1 h.2]; simp [h.1, h.2]
  · rw [order_nan (by by_cases h1 : isNum x <;> simp_all)]; simp; intro a b; exact absurd ⟨a, b⟩ h
theorem fne_iff (x y : Nat) : fne x y = true ↔ ¬ (isNum x ∧ isNum y ∧ fval x = fval y) := by
  have := feq_iff x y
  unfold feq at this; unfold fne
  rw [← this]
  cases h : FloatKind.f64.format.order x y == some Ordering.eq <;> simp_all
theorem flt_iff (x y : Nat) : flt x y = true ↔ isNum x ∧ isNum y ∧ fval x < fval y := by
  unfold flt
  by_cases h : isNum x ∧ isNum y
  · rw [order_num h.1 h.2]; simp [h.1, h.2, Int.compare_eq_lt]
  · rw [order_nan (by by_cases h1 : isNum x <;> simp_all)]; simp; intro a b; exact absurd ⟨a, b⟩ h
theorem fgt_iff (x y : Nat) : fgt x y = true ↔ isNum x ∧ isNum y ∧ fval y < fval x := by
  unfold fgt
  by_cases h : isNum x ∧ isNum y
  · rw [order_num h.1 h.2]; simp [h.1, h.2, Int.compare_eq_gt]
  · rw [order_nan (by by_cases h1 : isNum x <;> simp_all)]; simp; intro a b; exact absurd ⟨a, b⟩ h
theorem fge_iff (x y : Nat) : fge x y = true ↔ isNum x ∧ isNum y ∧ fval y ≤ fval x := by
  unfold fge
  by_cases h : isNum x ∧ isNum y
  · rw [order_num h.1 h.2]; simp [h.1, h.2, Int.compare_eq_gt]; omega
  · rw [order_nan (by by_cases h1 : isNum x <;> simp_all)]; simp; intro a b; exact absurd ⟨a, b⟩ h

end Go.Proofs.YtpemgladmnbfhaaDoor.FT

namespace Go.Proofs.YtpemgladmnbfhaaDoor.FT
open Go.Proofs.YtpemgladmnbfhaaDoor.Fl
set_option exponentiation.threshold 3000

/-! the constants -2^63, 2^63, 0, 10 -/
theorem rung_C1 : rung 14114281232179134464 = 1086 * 2 ^ 52 := by decide
theorem rung_C2 : rung 4890909195324358656 = 1086 * 2 ^ 52 := by decide
theorem mag_C : mag (1086 * 2 ^ 52) = 2 ^ 63 * U := by
  have h1 : mant (1086 * 2 ^ 52) = 2 ^ 52 := by decide
  have h2 : expo (1086 * 2 ^ 52) = 1085 := by decide
  unfold mag U; rw [h1, h2, ← Nat.pow_add]
theorem fval_C1 : fval 14114281232179134464 = -((2 ^ 63 * U : Nat) : Int) := by
  have h : sgn 14114281232179134464 = true := by decide
  unfold fval; rw [h, rung_C1, mag_C, sgT]
theorem fval_C2 : fval 4890909195324358656 = ((2 ^ 63 * U : Nat) : Int) := by
  have h : sgn 4890909195324358656 = false := by decide
  unfold fval; rw [h, rung_C2, mag_C, sgF]
theorem fval_0 : fval 0 = 0 := by
  have h : sgn 0 = false := by decide
  have h1 : mag (rung 0) = 0 := by decide
  unfold fval; rw [h, h1, sgF]; rfl
theorem isNum_0 : isNum 0 := by decide
theorem isNum_C1 : isNum 14114281232179134464 := by decide
theorem isNum_C2 : isNum 4890909195324358656 := by decide

/-! to an int -/
def tI (b : Nat) : Int := sg (sgn b) (mag (rung b) / U)
theorem cut_zero (s : Bool) (n d : Nat) : Ieee.Toward.cut .zero s n d = n / 2 ^ d := by
  unfold Ieee.Toward.cut
  simp only [Nat.shiftLeft_eq, Nat.one_mul, Bool.toNat_false, Nat.add_zero]
  by_cases h : d ≤ n.log2 + 2
  · rw [Nat.min_eq_left h]
  · rw [Nat.min_eq_right (by omega)]
    have h1 : n < 2 ^ (n.log2 + 1) := Nat.lt_log2_self
    have h2 : 2 ^ (n.log2 + 1) ≤ 2 ^ (n.log2 + 2) := Nat.pow_le_pow_right (by decide) (by omega)
    have h3 : 2 ^ (n.log2 + 1) ≤ 2 ^ d := Nat.pow_le_pow_right (by decide) (by omega)
    rw [Nat.div_eq_of_lt (by omega), Nat.div_eq_of_lt (by omega)]
theorem mag_div (m e : Nat) : m * 2 ^ ((-1074 + (e : Int)).toNat) / 2 ^ ((-(-1074 + (e : Int))).toNat) = m * 2 ^ e / U := by
  unfold U
  by_cases h : e ≤ 1074
  · rw [show (-1074 + (e : Int)).toNat = 0 by omega, show (-(-1074 + (e : Int))).toNat = 1074 - e by omega, Nat.pow_zero, Nat.mul_one]
    have : (2 : Nat) ^ 1074 = 2 ^ (1074 - e) * 2 ^ e := by rw [← Nat.pow_add]; congr 1; omega
    rw [this, Nat.mul_div_mul_right _ _ (Nat.two_pow_pos _)]
  · rw [show (-1074 + (e : Int)).toNat = e - 1074 by omega, show (-(-1074 + (e : Int))).toNat = 0 by omega, Nat.pow_zero, Nat.div_one]
    have : (2 : Nat) ^ e = 2 ^ (e - 1074) * 2 ^ 1074 := by rw [← Nat.pow_add]; congr 1; omega
    rw [this, ← Nat.mul_assoc, Nat.mul_div_cancel _ (Nat.two_pow_pos _)]
theorem toInt_fin {b : Nat} (h : rung b < infR) : (FloatKind.f64.decode b).toInt .zero = some (tI b) := by
  unfold FloatKind.decode
  rw [read_fin h]
  unfold Ieee.Datum.toInt Ieee.Datum.integral
  simp only [cut_zero, Nat.shiftLeft_eq, mag_div, sg_shift, Nat.pow_zero, Nat.mul_one]
  rfl
theorem i64_min : IntKind.i64.min = -2 ^ 63 := by decide
theorem i64_max : IntKind.i64.max = 2 ^ 63 - 1 := by decide
/-- in range -/
def inR (b : Nat) : Prop := isNum b ∧ -((2 ^ 63 * U : Nat) : Int) ≤ fval b ∧ fval b < ((2 ^ 63 * U : Nat) : Int)
theorem inR_fin {b : Nat} (h : inR b) : rung b < infR := by
  obtain ⟨h1, h2, h3⟩ := h
  rcases Nat.lt_or_eq_of_le h1 with h4 | h4
  · exact h4
  · exfalso
    unfold fval at h2 h3
    rw [h4, mag_inf] at h2 h3
    have h5 : 2 ^ 63 * U < 2 ^ 2098 := by
      unfold U; rw [← Nat.pow_add]; exact Nat.pow_lt_pow_right (by decide) (by decide)
    cases hs : sgn b
    · rw [hs, sgF] at h3; omega
    · rw [hs, sgT] at h2; omega
theorem inR_iff (b : Nat) : inR b ↔ fge b 14114281232179134464 = true ∧ flt b 4890909195324358656 = true := by
  rw [fge_iff, flt_iff, fval_C1, fval_C2]
  unfold inR
  have := isNum_C1; have := isNum_C2
  constructor
  · rintro ⟨a, b, c⟩; exact ⟨⟨a, by assumption, b⟩, a, by assumption, c⟩
  · rintro ⟨⟨a, _, b⟩, _, _, c⟩; exact ⟨a, b, c⟩
theorem tI_bd {b : Nat} (h : inR b) : -2 ^ 63 ≤ tI b ∧ tI b ≤ 2 ^ 63 - 1 := by
  obtain ⟨_, h2, h3⟩ := h
  have hU := U_pos
  unfold fval at h2 h3
  unfold tI
  have hm : mag (rung b) / U ≤ 2 ^ 63 := by
    have : mag (rung b) ≤ 2 ^ 63 * U := by
      cases hs : sgn b
      · rw [hs, sgF] at h3; omega
      · rw [hs, sgT] at h2; omega
    exact Nat.div_le_of_le_mul (by rw [Nat.mul_comm]; exact this)
  cases hs : sgn b
  · rw [sgF]
    rw [hs, sgF] at h3
    have : mag (rung b) / U < 2 ^ 63 := (Nat.div_lt_iff_lt_mul hU).2 (by omega)
    generalize mag (rung b) / U = q at *
    omega
  · rw [sgT]
    generalize mag (rung b) / U = q at *
    omega
theorem ftoi_in {b : Nat} (h : inR b) : fokI b = true ∧ ftoi b = tI b := by
  have h1 := toInt_fin (inR_fin h)
  have h2 := tI_bd h
  have h3 : floatToIntVal .f64 b .i64 = some (tI b) := by
    unfold floatToIntVal
    rw [h1]
    show (if _ then _ else _) = _
    rw [i64_min, i64_max, if_pos h2]
  unfold fokI ftoi
  rw [h3]; exact ⟨rfl, rfl⟩
/-- the int and what is left -/
theorem tI_fval (b : Nat) : ∃ r : Int, fval b = tI b * (U : Int) + r ∧ (0 ≤ r ∧ r < U ∧ 0 ≤ tI b ∨ -(U : Int) < r ∧ r ≤ 0 ∧ tI b ≤ 0) := by
  have hU := U_pos
  have h := Nat.div_add_mod (mag (rung b)) U
  have h2 := Nat.mod_lt (mag (rung b)) hU
  unfold fval tI
  rw [Nat.mul_comm] at h
  generalize mag (rung b) / U = q at *
  generalize mag (rung b) % U = r at *
  cases sgn b
  · exact ⟨(r : Int), by rw [sgF, sgF, ← h, Int.natCast_add, Int.natCast_mul], .inl ⟨by omega, by omega, by rw [sgF]; omega⟩⟩
  · exact ⟨-(r : Int), by rw [sgT, sgT, ← h, Int.natCast_add, Int.natCast_mul, Int.neg_mul]; omega, .inr ⟨by omega, by omega, by rw [sgT]; omega⟩⟩

/-! rounding -/
def RN (n g : Nat) : Nat := n / g + (g < 2 * (n % g) || (g == 2 * (n % g) && n / g % 2 == 1)).toNat
theorem RN_scale (n g c : Nat) (hc : 0 < c) : RN (n * c) (g * c) = RN n g := by
  unfold RN
  rw [Nat.mul_div_mul_right _ _ hc, Nat.mul_mod_mul_right]
  have e1 : decide (g * c < 2 * (n % g * c)) = decide (g < 2 * (n % g)) := by
    rw [← Nat.mul_assoc]
    exact decide_eq_decide.2 (Nat.mul_lt_mul_right hc)
  have e2 : (g * c == 2 * (n % g * c)) = (g == 2 * (n % g)) := by
    rw [← Nat.mul_assoc, Bool.eq_iff_iff, beq_iff_eq, beq_iff_eq]
    exact ⟨fun h => Nat.eq_of_mul_eq_mul_right hc h, fun h => congrArg (· * c) h⟩
  rw [e1, e2]
theorem RN_one (n : Nat) : RN n 1 = n := by unfold RN; simp [Nat.mod_one]
theorem RN_exact (n g : Nat) (hg : 0 < g) : RN (n * g) g = n := by
  have := RN_scale n 1 g hg
  rw [Nat.one_mul] at this
  rw [this, RN_one]
theorem cut_even (s : Bool) (n d : Nat) : Ieee.Toward.cut .even s n d = RN n (2 ^ d) := by
  unfold Ieee.Toward.cut
  simp only [Nat.shiftLeft_eq, Nat.one_mul]
  by_cases h : d ≤ n.log2 + 2
  · rw [Nat.min_eq_left h]; rfl
  · rw [Nat.min_eq_right (by omega)]
    have h1 : n < 2 ^ (n.log2 + 1) := Nat.lt_log2_self
    have h2 : 2 ^ (n.log2 + 2) = 2 * 2 ^ (n.log2 + 1) := by rw [Nat.pow_succ]; omega
    have h3 : 2 ^ (n.log2 + 2) ≤ 2 ^ d := Nat.pow_le_pow_right (by decide) (by omega)
    unfold RN
    rw [Nat.div_eq_of_lt (by omega), Nat.mod_eq_of_lt (by omega), Nat.div_eq_of_lt (by omega : n < 2 ^ d), Nat.mod_eq_of_lt (by omega : n < 2 ^ d)]
    have a1 : decide (2 ^ (n.log2 + 2) < 2 * n) = false := by simp <;> omega
    have a2 : decide (2 ^ d < 2 * n) = false := by simp <;> omega
    have a3 : (2 ^ (n.log2 + 2) == 2 * n) = false := by simp <;> omega
    have a4 : (2 ^ d == 2 * n) = false := by simp <;> omega
    rw [a1, a2, a3, a4]
/-- the rung that is nearest to v units -/
def rnd (v : Nat) : Nat := min ((v.log2 - 52) * 2 ^ 52 + RN v (2 ^ (v.log2 - 52))) infR
theorem log2_scale (m p : Nat) (h : m ≠ 0) : (m * 2 ^ p).log2 = m.log2 + p := by
  have h1 := Nat.log2_self_le h
  have h2 : m < 2 ^ (m.log2 + 1) := Nat.lt_log2_self
  have hp := Nat.two_pow_pos p
  refine (Nat.log2_eq_iff (Nat.ne_of_gt (Nat.mul_pos (Nat.pos_of_ne_zero h) hp))).2 ⟨?_, ?_⟩
  · rw [Nat.pow_add]; exact Nat.mul_le_mul_right _ h1
  · rw [show m.log2 + p + 1 = (m.log2 + 1) + p by omega, Nat.pow_add]; exact Nat.mul_lt_mul_of_pos_right h2 hp
theorem nearest_rnd (s : Bool) (m p : Nat) : FloatKind.f64.format.nearest s m ((p : Int) - 1074) = wd s (rnd (m * 2 ^ p)) := by
  unfold Ieee.Format.nearest
  by_cases h : m = 0
  · subst h; rw [if_pos rfl, e_wd, Nat.zero_mul]; rfl
  · rw [if_neg h]
    simp only [e_wd, e_fb, e_lp, e_bi, e_ir, cut_even, Nat.shiftLeft_eq]
    have hl := log2_scale m p h
    unfold rnd
    rw [hl]
    have e1 : max ((p : Int) - 1074 + (m.log2 : Int) - ((52 : Nat) : Int)) (-1074) = ((m.log2 + p - 52 : Nat) : Int) - 1074 := by omega
    rw [e1]
    generalize m.log2 + p - 52 = L
    rw [show ((L : Int) - 1074 - -1074).toNat = L by omega, show ((p : Int) - 1074 - ((L : Int) - 1074)).toNat = p - L by omega, show ((L : Int) - 1074 - ((p : Int) - 1074)).toNat = L - p by omega]
    congr 3
    by_cases hpl : p ≤ L
    · rw [show p - L = 0 by omega, Nat.pow_zero, Nat.mul_one, ← RN_scale m (2 ^ (L - p)) (2 ^ p) (Nat.two_pow_pos _), ← Nat.pow_add, Nat.sub_add_cancel hpl]
    · rw [show L - p = 0 by omega, Nat.pow_zero, RN_one]
      have : m * 2 ^ p = m * 2 ^ (p - L) * 2 ^ L := by rw [Nat.mul_assoc, ← Nat.pow_add]; congr 2; omega
      rw [this, RN_exact _ _ (Nat.two_pow_pos _)]
theorem rnd_le (v : Nat) : rnd v ≤ infR := Nat.min_le_right ..
theorem rnd_mag {r : Nat} (h : r ≤ infR) : rnd (mag r) = r := by
  unfold rnd
  by_cases h1 : r < 2 ^ 52
  · have e1 : mag r = r := by unfold mag mant expo; rw [if_pos h1, if_pos h1]; simp
    rw [e1]
    have h2 : r.log2 - 52 = 0 := by
      by_cases h0 : r = 0
      · subst h0; rfl
      · have := (Nat.log2_lt h0).2 h1; omega
    rw [h2, Nat.pow_zero, RN_one, Nat.zero_mul, Nat.zero_add]; exact Nat.min_eq_left h
  · have e0 : mant r = 2 ^ 52 + r % 2 ^ 52 := if_neg h1
    have e1 : expo r = r / 2 ^ 52 - 1 := if_neg h1
    have hm : mant r ≠ 0 := by rw [e0]; omega
    have h3 : (mant r).log2 = 52 := (Nat.log2_eq_iff hm).2 ⟨by rw [e0]; omega, by rw [e0]; omega⟩
    have h2 : (mag r).log2 - 52 = expo r := by unfold mag; rw [log2_scale _ _ hm, h3]; omega
    rw [h2]
    unfold mag
    rw [RN_exact _ _ (Nat.two_pow_pos _), e0, e1]
    rw [show (r / 2 ^ 52 - 1) * 2 ^ 52 + (2 ^ 52 + r % 2 ^ 52) = r by omega]
    exact Nat.min_eq_left h
theorem rnd_pos {v : Nat} (h : 0 < v) : 0 < rnd v := by
  unfold rnd
  have : 0 < (v.log2 - 52) * 2 ^ 52 + RN v (2 ^ (v.log2 - 52)) := by
    by_cases h1 : v.log2 - 52 = 0
    · rw [h1, Nat.pow_zero, RN_one]; omega
    · omega
  have h2 : 0 < infR := by decide
  omega
theorem exists_rung (m k : Nat) (hm : m < 2 ^ 53) (hv : m * 2 ^ k < 2 ^ 2098) : ∃ r, r < infR ∧ mag r = m * 2 ^ k := by
  by_cases h0 : m = 0
  · exact ⟨0, by decide, by subst h0; rw [Nat.zero_mul]; decide⟩
  have h1 := Nat.log2_self_le h0
  have h2 : m < 2 ^ (m.log2 + 1) := Nat.lt_log2_self
  have ht : m.log2 ≤ 52 := by have := (Nat.log2_lt h0).2 hm; omega
  by_cases hk : 52 - m.log2 ≤ k
  · have a1 : 2 ^ 52 ≤ m * 2 ^ (52 - m.log2) := by
      calc 2 ^ 52 = 2 ^ m.log2 * 2 ^ (52 - m.log2) := by rw [← Nat.pow_add]; congr 1; omega
        _ ≤ m * 2 ^ (52 - m.log2) := Nat.mul_le_mul_right _ h1
    have a2 : m * 2 ^ (52 - m.log2) < 2 ^ 53 := by
      calc m * 2 ^ (52 - m.log2) < 2 ^ (m.log2 + 1) * 2 ^ (52 - m.log2) := Nat.mul_lt_mul_of_pos_right h2 (Nat.two_pow_pos _)
        _ = 2 ^ 53 := by rw [← Nat.pow_add]; congr 1; omega
    have a3 : m * 2 ^ k = m * 2 ^ (52 - m.log2) * 2 ^ (k - (52 - m.log2)) := by rw [Nat.mul_assoc, ← Nat.pow_add]; congr 2; omega
    generalize m * 2 ^ (52 - m.log2) = M at *
    generalize k - (52 - m.log2) = E at *
    have a4 : E < 2046 := by
      refine Nat.lt_of_not_le fun hE => ?_
      rw [a3] at hv
      have : 2 ^ 52 * 2 ^ 2046 ≤ M * 2 ^ E := Nat.mul_le_mul a1 (Nat.pow_le_pow_right (by decide) hE)
      rw [← Nat.pow_add] at this
      omega
    refine ⟨(E + 1) * 2 ^ 52 + (M - 2 ^ 52), by unfold infR; omega, ?_⟩
    have b1 : ¬ ((E + 1) * 2 ^ 52 + (M - 2 ^ 52) < 2 ^ 52) := by omega
    unfold mag mant expo
    rw [if_neg b1, if_neg b1, a3]
    rw [show ((E + 1) * 2 ^ 52 + (M - 2 ^ 52)) % 2 ^ 52 = M - 2 ^ 52 by omega, show ((E + 1) * 2 ^ 52 + (M - 2 ^ 52)) / 2 ^ 52 - 1 = E by omega, show 2 ^ 52 + (M - 2 ^ 52) = M by omega]
  · have a1 : m * 2 ^ k < 2 ^ 52 := by
      calc m * 2 ^ k < 2 ^ (m.log2 + 1) * 2 ^ k := Nat.mul_lt_mul_of_pos_right h2 (Nat.two_pow_pos _)
        _ = 2 ^ (m.log2 + 1 + k) := by rw [← Nat.pow_add]
        _ ≤ 2 ^ 52 := Nat.pow_le_pow_right (by decide) (by omega)
    exact ⟨m * 2 ^ k, by unfold infR; omega, by unfold mag mant expo; rw [if_pos a1, if_pos a1]; simp⟩

/-! words -/
theorem rung_wd (s : Bool) {r : Nat} (h : r ≤ infR) : rung (wd s r) = r := by
  unfold rung wd; unfold infR at h; split <;> omega
theorem sgn_wd (s : Bool) {r : Nat} (h : r ≤ infR) : sgn (wd s r) = s := by
  unfold infR at h
  unfold sgn wd; cases s
  · simp; omega
  · simp; omega
theorem fval_wd (s : Bool) {r : Nat} (h : r ≤ infR) : fval (wd s r) = sg s (mag r) := by unfold fval; rw [rung_wd s h, sgn_wd s h]
theorem isNum_wd (s : Bool) {r : Nat} (h : r ≤ infR) : isNum (wd s r) := by unfold isNum; rw [rung_wd s h]; exact h
theorem mag_pos {r : Nat} (h : 0 < r) : 0 < mag r := by
  unfold mag
  refine Nat.mul_pos ?_ (Nat.two_pow_pos _)
  unfold mant; split <;> omega

/-! sums -/
def sumS (x y : Int) (z : Bool) : Bool := if x + y = 0 then z else decide (x + y < 0)
theorem sum_num {x y : Nat} (hx : rung x < infR) (hy : rung y < infR) : FloatKind.f64.format.add x y = some (wd (sumS (fval x) (fval y) (sgn x && sgn y)) (rnd (fval x + fval y).natAbs)) := by
  unfold Ieee.Format.add
  rw [read_fin hx, read_fin hy]
  unfold Ieee.Datum.sum
  simp only [base_eq, place_sub, place_sub', Option.map_some, Ieee.Format.write]
  rw [show (-1074 + ((min (expo (rung x)) (expo (rung y)) : Nat) : Int)) = ((min (expo (rung x)) (expo (rung y)) : Nat) : Int) - 1074 by omega, nearest_rnd]
  have hd := Nat.two_pow_pos (min (expo (rung x)) (expo (rung y)))
  have e := val_scale x _ (Nat.min_le_left (expo (rung x)) (expo (rung y)))
  have e' := val_scale y _ (Nat.min_le_right (expo (rung x)) (expo (rung y)))
  generalize Ieee.signed (sgn x) (mant (rung x)) (expo (rung x) - min (expo (rung x)) (expo (rung y))) = a at *
  generalize Ieee.signed (sgn y) (mant (rung y)) (expo (rung y) - min (expo (rung x)) (expo (rung y))) = b at *
  generalize 2 ^ min (expo (rung x)) (expo (rung y)) = d at *
  have es : fval x + fval y = (a + b) * (d : Int) := by rw [e, e', Int.add_mul]
  unfold sumS
  rw [es]
  have e3 : ((a + b) * (d : Int)).natAbs = (a + b).natAbs * d := by rw [Int.natAbs_mul]; rfl
  rw [e3]
  congr 2
  by_cases h0 : a + b = 0
  · rw [h0]; simp
  · have hd' : (0 : Int) < d := by omega
    have h1 : ¬ (a + b) * (d : Int) = 0 := fun h => by rcases Int.mul_eq_zero.1 h with h | h <;> omega
    rw [if_neg h0, if_neg h1]
    refine decide_eq_decide.2 ⟨fun h => Int.mul_neg_of_neg_of_pos h hd', fun h => ?_⟩
    refine Int.not_le.1 fun hh => ?_
    have := Int.mul_nonneg hh (Int.le_of_lt hd')
    omega

end Go.Proofs.YtpemgladmnbfhaaDoor.FT

namespace Go.Proofs.YtpemgladmnbfhaaDoor.FT
open Go.Proofs.YtpemgladmnbfhaaDoor.Fl
set_option exponentiation.threshold 3000

theorem infR_lt : infR < 2 ^ 63 := by decide
theorem wd_eq (b : Nat) (h : b < 2 ^ 64) : b = wd (sgn b) (rung b) := by
  unfold wd sgn rung
  by_cases h1 : b / 2 ^ 63 % 2 = 1
  · rw [h1]; simp; omega
  · have : b / 2 ^ 63 % 2 = 0 := by omega
    rw [this]; simp; omega

/-! an int as a float -/
theorem fI_eq (n : Int) : floatOfInt .f64 n = wd (decide (n < 0)) (rnd (n.natAbs * U)) := by
  unfold floatOfInt FloatKind.nearest FloatKind.encode Ieee.Format.write
  have := nearest_rnd (decide (n < 0)) n.natAbs 1074
  rw [show ((1074 : Nat) : Int) - 1074 = 0 by omega] at this
  exact this
theorem fI_isNum (n : Int) : isNum (floatOfInt .f64 n) := by rw [fI_eq]; exact isNum_wd _ (rnd_le _)
/-- exact, where the number of units is one that a word has -/
theorem fval_exact (s : Bool) (m k v : Nat) (hm : m < 2 ^ 53) (e : v = m * 2 ^ k) (hv : v < 2 ^ 2098) : rnd v < infR ∧ mag (rnd v) = v := by
  obtain ⟨r, h1, h2⟩ := exists_rung m k hm (e ▸ hv)
  rw [← e] at h2
  rw [← h2, rnd_mag (Nat.le_of_lt h1)]
  exact ⟨h1, rfl⟩
theorem small_U (a : Nat) (h : a < 2 ^ 1024) : a * U < 2 ^ 2098 := by
  have : (2 : Nat) ^ 2098 = 2 ^ 1024 * U := by unfold U; rw [← Nat.pow_add]
  rw [this]; exact Nat.mul_lt_mul_of_pos_right h U_pos
theorem fI_exact (n : Int) (m k : Nat) (hm : m < 2 ^ 53) (e : n.natAbs = m * 2 ^ k) (hv : n.natAbs < 2 ^ 1024) : fval (floatOfInt .f64 n) = n * (U : Int) ∧ rung (floatOfInt .f64 n) < infR := by
  have h := fval_exact false m (k + 1074) (n.natAbs * U) hm (by rw [e, Nat.pow_add, ← Nat.mul_assoc]; rfl) (small_U _ hv)
  rw [fI_eq, fval_wd _ (rnd_le _), rung_wd _ (rnd_le _), h.2]
  refine ⟨?_, h.1⟩
  by_cases hn : n < 0
  · rw [decide_eq_true hn, sgT, Int.natCast_mul, ← Int.neg_mul]; congr 1; omega
  · rw [decide_eq_false hn, sgF, Int.natCast_mul]; congr 1; omega
theorem fI_small (n : Int) (h : n.natAbs < 2 ^ 53) : fval (floatOfInt .f64 n) = n * (U : Int) ∧ rung (floatOfInt .f64 n) < infR :=
  fI_exact n n.natAbs 0 h (by simp) (Nat.lt_trans h (Nat.pow_lt_pow_right (by decide) (by decide)))
/-- what is cut off a float64 is a float64 -/
theorem fI_tI {b : Nat} (h : inR b) : fval (floatOfInt .f64 (tI b)) = tI b * (U : Int) ∧ rung (floatOfInt .f64 (tI b)) < infR := by
  have hb := tI_bd h
  have hl : (tI b).natAbs < 2 ^ 1024 := Nat.lt_of_le_of_lt (show (tI b).natAbs ≤ 2 ^ 63 by omega) (Nat.pow_lt_pow_right (by decide) (by decide))
  have ha : (tI b).natAbs = mag (rung b) / U := by
    unfold tI
    cases sgn b
    · rw [sgF]; exact Int.natAbs_natCast _
    · rw [sgT, Int.natAbs_neg]; exact Int.natAbs_natCast _
  have hm := mant_lt (rung b)
  by_cases he : expo (rung b) ≤ 1074
  · refine fI_exact _ (mant (rung b) / 2 ^ (1074 - expo (rung b))) 0 (Nat.lt_of_le_of_lt (Nat.div_le_self _ _) hm) ?_ hl
    rw [ha, Nat.pow_zero, Nat.mul_one]
    unfold mag U
    have : (2 : Nat) ^ 1074 = 2 ^ (1074 - expo (rung b)) * 2 ^ expo (rung b) := by rw [← Nat.pow_add]; congr 1; omega
    rw [this, Nat.mul_div_mul_right _ _ (Nat.two_pow_pos _)]
  · refine fI_exact _ (mant (rung b)) (expo (rung b) - 1074) hm ?_ hl
    rw [ha]
    unfold mag U
    have : (2 : Nat) ^ expo (rung b) = 2 ^ (expo (rung b) - 1074) * 2 ^ 1074 := by rw [← Nat.pow_add]; congr 1; omega
    rw [this, ← Nat.mul_assoc, Nat.mul_div_cancel _ (Nat.two_pow_pos _)]

/-! differences -/
theorem opp_fin {b : Nat} (h : rung b < infR) : (FloatKind.f64.format.read b).opposite = FloatKind.f64.format.read (fneg b) ∧ rung (fneg b) = rung b ∧ fval (fneg b) = -fval b := by
  have h1 : rung (fneg b) = rung b ∧ sgn (fneg b) = !sgn b := by
    unfold rung sgn fneg
    constructor
    · have : b ^^^ 2 ^ 63 = b ^^^ (2 ^ 63 * 1) := by simp
      apply Nat.eq_of_testBit_eq
      intro i
      rw [Nat.testBit_mod_two_pow, Nat.testBit_mod_two_pow, Nat.testBit_xor, Nat.testBit_two_pow]
      by_cases hi : i < 63
      · have : ¬ 63 = i := by omega
        simp [this]
      · simp [hi]
    · have e : ∀ n : Nat, (n / 2 ^ 63 % 2 == 1) = n.testBit 63 := by
        intro n; rw [Nat.testBit_eq_decide_div_mod_eq]; rfl
      rw [e, e, Nat.testBit_xor, Nat.testBit_two_pow]; simp
  have h2 : rung (fneg b) < infR := by rw [h1.1]; exact h
  refine ⟨?_, h1.1, ?_⟩
  · rw [read_fin h, read_fin h2, h1.1, h1.2]; rfl
  · unfold fval; rw [h1.1, h1.2]; cases sgn b
    · show sg true _ = _; rw [sgT, sgF]
    · show sg false _ = _; rw [sgT, sgF]; omega
theorem sub_num {x y : Nat} (hx : rung x < infR) (hy : rung y < infR) : ∃ s r, FloatKind.f64.format.sub x y = some (wd s r) ∧ r = rnd (fval x - fval y).natAbs ∧ (fval x - fval y ≠ 0 → s = decide (fval x - fval y < 0)) := by
  have h := opp_fin hy
  have hy2 : rung (fneg y) < infR := by rw [h.2.1]; exact hy
  have e := sum_num hx hy2
  rw [h.2.2] at e
  refine ⟨sumS (fval x) (-fval y) (sgn x && sgn (fneg y)), rnd (fval x - fval y).natAbs, ?_, rfl, ?_⟩
  · unfold Ieee.Format.sub
    rw [h.1]
    exact e
  · intro hne
    show sumS (fval x) (-fval y) _ = _
    unfold sumS
    rw [if_neg (by omega)]
    rfl
theorem fok_sub {x y : Nat} (hx : rung x < infR) (hy : rung y < infR) : fok .sub x y = true := by
  obtain ⟨s, r, h, _⟩ := sub_num hx hy
  unfold fok floatBits; rw [h]; rfl
/-- the sign of a difference is exact -/
theorem sub_sign {x y : Nat} (hx : rung x < infR) (hy : rung y < infR) : isNum (fop .sub x y) ∧ (0 < fval (fop .sub x y) ↔ fval y < fval x) ∧ (fval (fop .sub x y) < 0 ↔ fval x < fval y) := by
  obtain ⟨s, r, h, hr, hs⟩ := sub_num hx hy
  have e : fop .sub x y = wd s r := by unfold fop floatBits; rw [h]; rfl
  have hl : r ≤ infR := by rw [hr]; exact rnd_le _
  rw [e, fval_wd _ hl]
  refine ⟨isNum_wd _ hl, ?_⟩
  rcases Int.lt_trichotomy (fval x) (fval y) with hc | hc | hc
  · have hp : 0 < mag r := mag_pos (by rw [hr]; exact rnd_pos (by omega))
    rw [hs (by omega), decide_eq_true (by omega), sgT]
    omega
  · have : r = 0 := by rw [hr, show (fval x - fval y).natAbs = 0 by omega]; rfl
    subst this
    have : mag 0 = 0 := by decide
    rw [this]
    cases s
    · rw [sgF]; omega
    · rw [sgT]; omega
  · have hp : 0 < mag r := mag_pos (by rw [hr]; exact rnd_pos (by omega))
    rw [hs (by omega), decide_eq_false (by omega), sgF]
    omega

/-! what a word's value tells of the word -/
theorem mag_inj {r r' : Nat} (h : r ≤ infR) (h' : r' ≤ infR) (e : mag r = mag r') : r = r' := by
  have := rnd_mag h; rw [e, rnd_mag h'] at this; exact this.symm
theorem fval_inj {x y : Nat} (hx : x < 2 ^ 64) (hy : y < 2 ^ 64) (nx : isNum x) (ny : isNum y) (e : fval x = fval y) (h0 : fval x ≠ 0) : x = y := by
  rw [wd_eq x hx, wd_eq y hy]
  unfold fval at e h0
  have h : sgn x = sgn y ∧ mag (rung x) = mag (rung y) := by
    cases h1 : sgn x <;> cases h2 : sgn y <;> simp only [h1, h2, sgF, sgT] at e h0 <;> first | exact ⟨rfl, by omega⟩ | (exfalso; omega)
  rw [h.1, mag_inj nx ny h.2]

end Go.Proofs.YtpemgladmnbfhaaDoor.FT
