/- Whole numbers below 2^53 as float64: product, sum and quotient of two of them. -/
import Derived.Test.YticnolkbmpmgcaaNT
set_option linter.unusedVariables false
set_option linter.unusedSimpArgs false
namespace Go.Proofs.Yticnolkbmpmgcaa.FT
set_option exponentiation.threshold 3000
open Go.RowKit Go.Proofs.Yticnolkbmpmgcaa.Fl Go.Proofs.Yticnolkbmpmgcaa.QN Go.Proofs.YticnolkbmpmgcaaW.PrintWords
theorem fI_10 : floatOfInt .f64 10 = 4621819117588971520 := by decide +kernel
theorem fI_1 : floatOfInt .f64 1 = 4607182418800017408 := by decide +kernel
theorem fI_0 : floatOfInt .f64 0 = 0 := by decide +kernel
theorem mul_0 : floatBits .mul .f64 0 4621819117588971520 = some 0 := by decide +kernel
/-- how an int below 2^53 lies in a word -/
theorem fI_parts (n : Int) (h0 : 0 < n) (h : n < 9007199254740992) : ∃ m e : Nat, FloatKind.f64.format.read (floatOfInt .f64 n) = .number false m (-1074 + (e : Int)) ∧ m * 2 ^ e = n.natAbs * U ∧ 1022 ≤ e := by
  obtain ⟨h1, h2⟩ := fI_small n (by omega)
  have hs : sgn (floatOfInt .f64 n) = false := by rw [fI_eq, sgn_wd _ (rnd_le _)]; exact decide_eq_false (by omega)
  refine ⟨mant (rung (floatOfInt .f64 n)), expo (rung (floatOfInt .f64 n)), ?_, ?_, ?_⟩
  · rw [read_fin h2, hs]
  · have e : fval (floatOfInt .f64 n) = (mag (rung (floatOfInt .f64 n)) : Int) := by unfold fval; rw [hs, sgF]
    rw [e] at h1
    have : (mag (rung (floatOfInt .f64 n)) : Int) = ((n.natAbs * U : Nat) : Int) := by
      rw [h1, Int.natCast_mul, Int.natAbs_of_nonneg (by omega)]
    have h3 : mag (rung (floatOfInt .f64 n)) = n.natAbs * U := by exact Int.ofNat.inj this
    exact h3
  · have e : fval (floatOfInt .f64 n) = (mag (rung (floatOfInt .f64 n)) : Int) := by unfold fval; rw [hs, sgF]
    rw [e] at h1
    have h3 : mag (rung (floatOfInt .f64 n)) = n.natAbs * U := by
      have : (mag (rung (floatOfInt .f64 n)) : Int) = ((n.natAbs * U : Nat) : Int) := by
        rw [h1, Int.natCast_mul, Int.natAbs_of_nonneg (by omega)]
      exact Int.ofNat.inj this
    refine Nat.not_lt.1 fun z => ?_
    have h4 : mag (rung (floatOfInt .f64 n)) < 2 ^ 53 * 2 ^ 1021 := by
      unfold mag
      exact Nat.lt_of_lt_of_le (Nat.mul_lt_mul_of_pos_right (mant_lt _) (Nat.two_pow_pos _)) (Nat.mul_le_mul_left _ (Nat.pow_le_pow_right (by decide) (by omega)))
    rw [h3, ← Nat.pow_add] at h4
    have h5 : 1 * U ≤ n.natAbs * U := Nat.mul_le_mul_right _ (by omega)
    unfold U at h4 h5
    rw [Nat.one_mul] at h5
    exact absurd h4 (Nat.not_lt.2 h5)
theorem pow_sum (x y z : Nat) (h : x + y = z) : 2 ^ x * 2 ^ y = 2 ^ z := by rw [← Nat.pow_add, h]
theorem powU (e e' : Nat) (h : 1074 ≤ e + e') : 2 ^ (e + e' - 1074) * U = 2 ^ e * 2 ^ e' :=
  (pow_sum (e + e' - 1074) 1074 (e + e') (Nat.sub_add_cancel h)).trans (pow_sum e e' (e + e') rfl).symm
theorem write_num (s : Bool) (m : Nat) (e : Int) : FloatKind.f64.format.write (.number s m e) = FloatKind.f64.format.nearest s m e := rfl
theorem mul_small (a b : Int) (ha : 0 < a) (hb : 0 < b) (h1 : a < 9007199254740992) (h2 : b < 9007199254740992) (h : a * b < 9007199254740992) :
    floatBits .mul .f64 (floatOfInt .f64 a) (floatOfInt .f64 b) = some (floatOfInt .f64 (a * b)) := by
  obtain ⟨m, e, hr, hm, he⟩ := fI_parts a ha h1
  obtain ⟨m', e', hr', hm', he'⟩ := fI_parts b hb h2
  have hq : floatBits .mul .f64 (floatOfInt .f64 a) (floatOfInt .f64 b) = ((FloatKind.f64.format.read (floatOfInt .f64 a)).product (FloatKind.f64.format.read (floatOfInt .f64 b))).map FloatKind.f64.format.write := rfl
  rw [hq, hr, hr']
  have hp : (Ieee.Datum.number false m (-1074 + (e : Int))).product (.number false m' (-1074 + (e' : Int))) = some (.number false (m * m') ((-1074 + (e : Int)) + (-1074 + (e' : Int)))) := rfl
  rw [hp]
  show some (FloatKind.f64.format.write _) = _
  rw [write_num, show (-1074 + (e : Int)) + (-1074 + (e' : Int)) = ((e + e' - 1074 : Nat) : Int) - 1074 by omega, nearest_rnd, fI_eq (a * b)]
  have hab : 0 < a * b := Int.mul_pos ha hb
  have hv : m * m' * 2 ^ (e + e' - 1074) = (a * b).natAbs * U := by
    have hP : 2 ^ (e + e' - 1074) * U = 2 ^ e * 2 ^ e' := powU e e' (by omega)
    have h3 : m * m' * 2 ^ (e + e' - 1074) * U = (a * b).natAbs * U * U := by
      rw [Nat.mul_assoc, hP, Nat.mul_mul_mul_comm, hm, hm', Int.natAbs_mul, Nat.mul_mul_mul_comm, Nat.mul_assoc (a.natAbs * b.natAbs)]
    exact Nat.eq_of_mul_eq_mul_right U_pos h3
  rw [hv, decide_eq_false (show ¬ a * b < 0 by omega)]
theorem add_small (a b : Int) (ha : 0 ≤ a) (hb : 0 ≤ b) (h : a + b < 9007199254740992) :
    floatBits .add .f64 (floatOfInt .f64 a) (floatOfInt .f64 b) = some (floatOfInt .f64 (a + b)) := by
  obtain ⟨h1, h2⟩ := fI_small a (by omega)
  obtain ⟨h3, h4⟩ := fI_small b (by omega)
  have hq : floatBits .add .f64 (floatOfInt .f64 a) (floatOfInt .f64 b) = FloatKind.f64.format.add (floatOfInt .f64 a) (floatOfInt .f64 b) := rfl
  have hs : sgn (floatOfInt .f64 a) = false := by rw [fI_eq, sgn_wd _ (rnd_le _)]; exact decide_eq_false (by omega)
  rw [hq, sum_num h2 h4, h1, h3, hs, Bool.false_and, ← Int.add_mul, fI_eq (a + b)]
  have e1 : sumS (a * (U : Int)) (b * (U : Int)) false = decide (a + b < 0) := by
    unfold sumS
    rw [← Int.add_mul, decide_eq_false (show ¬ a + b < 0 by omega)]
    have : 0 ≤ (a + b) * (U : Int) := Int.mul_nonneg (by omega) (by omega)
    split
    · rfl
    · exact decide_eq_false (by omega)
  rw [e1, Int.natAbs_mul, Int.natAbs_natCast]
theorem quo_ok (a b : Int) (ha : 0 ≤ a) (hb : 0 < b) (h1 : a < 9007199254740992) (h2 : b < 9007199254740992) : fok .quo (floatOfInt .f64 a) (floatOfInt .f64 b) = true := by
  obtain ⟨m', e', hr', hm', he'⟩ := fI_parts b hb h2
  have hq : floatBits .quo .f64 (floatOfInt .f64 a) (floatOfInt .f64 b) = ((FloatKind.f64.format.read (floatOfInt .f64 a)).quotient (FloatKind.f64.format.fractionBits + 2) (FloatKind.f64.format.read (floatOfInt .f64 b))).map FloatKind.f64.format.write := rfl
  have hm : m' ≠ 0 := fun z => by
    rw [z, Nat.zero_mul] at hm'
    have := Nat.mul_pos (show 0 < b.natAbs by omega) U_pos
    omega
  unfold fok
  rw [hq, hr', read_fin (fI_small a (by omega)).2]
  generalize FloatKind.f64.format.write = f
  generalize mant (rung (floatOfInt .f64 a)) = m
  generalize sgn (floatOfInt .f64 a) = s
  generalize (-1074 + (expo (rung (floatOfInt .f64 a)) : Int)) = i
  generalize (-1074 + (e' : Int)) = j
  simp only [Ieee.Datum.quotient, if_neg hm]
  rfl
end Go.Proofs.Yticnolkbmpmgcaa.FT
