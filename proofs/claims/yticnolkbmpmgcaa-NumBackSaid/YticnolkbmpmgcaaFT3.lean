/- IEEE words and the numbers they stand for: plain arithmetic. -/
import Derived.Test.YticnolkbmpmgcaaFT2
set_option linter.unusedVariables false
set_option linter.unusedSimpArgs false
namespace Go.Proofs.Yticnolkbmpmgcaa.FT
open Go.Proofs.Yticnolkbmpmgcaa.Fl
set_option exponentiation.threshold 3000

theorem infR_lt : infR < 2 ^ 63 := by decide
theorem wd_eq (b : Nat) (h : b < 2 ^ 64) : b = wd (sgn b) (rung b) := by
  unfold wd sgn rung
  by_cases h1 : b / 2 ^ 63 % 2 = 1
  · rw [h1]; simp; omega
  · have : b / 2 ^ 63 % 2 = 0 := by omega
    rw [this]; simp; omega

/-! an int as a float -/
theorem fI_eq (n : Int) : floatOfInt .f64 n = wd (decide (n < 0)) (rnd (n.natAbs * U)) := by
  unfold floatOfInt FloatKind.nearest FloatKind.encode Ieee.Format.write
  have := nearest_rnd (decide (n < 0)) n.natAbs 1074
  rw [show ((1074 : Nat) : Int) - 1074 = 0 by omega] at this
  exact this
theorem fI_isNum (n : Int) : isNum (floatOfInt .f64 n) := by rw [fI_eq]; exact isNum_wd _ (rnd_le _)
/-- exact, where the number of units is one that a word has -/
theorem fval_exact (s : Bool) (m k v : Nat) (hm : m < 2 ^ 53) (e : v = m * 2 ^ k) (hv : v < 2 ^ 2098) : rnd v < infR ∧ mag (rnd v) = v := by
  obtain ⟨r, h1, h2⟩ := exists_rung m k hm (e ▸ hv)
  rw [← e] at h2
  rw [← h2, rnd_mag (Nat.le_of_lt h1)]
  exact ⟨h1, rfl⟩
theorem small_U (a : Nat) (h : a < 2 ^ 1024) : a * U < 2 ^ 2098 := by
  have : (2 : Nat) ^ 2098 = 2 ^ 1024 * U := by unfold U; rw [← Nat.pow_add]
  rw [this]; exact Nat.mul_lt_mul_of_pos_right h U_pos
theorem fI_exact (n : Int) (m k : Nat) (hm : m < 2 ^ 53) (e : n.natAbs = m * 2 ^ k) (hv : n.natAbs < 2 ^ 1024) : fval (floatOfInt .f64 n) = n * (U : Int) ∧ rung (floatOfInt .f64 n) < infR := by
  have h := fval_exact false m (k + 1074) (n.natAbs * U) hm (by rw [e, Nat.pow_add, ← Nat.mul_assoc]; rfl) (small_U _ hv)
  rw [fI_eq, fval_wd _ (rnd_le _), rung_wd _ (rnd_le _), h.2]
  refine ⟨?_, h.1⟩
  by_cases hn : n < 0
  · rw [decide_eq_true hn, sgT, Int.natCast_mul, ← Int.neg_mul]; congr 1; omega
  · rw [decide_eq_false hn, sgF, Int.natCast_mul]; congr 1; omega
theorem fI_small (n : Int) (h : n.natAbs < 2 ^ 53) : fval (floatOfInt .f64 n) = n * (U : Int) ∧ rung (floatOfInt .f64 n) < infR :=
  fI_exact n n.natAbs 0 h (by simp) (Nat.lt_trans h (Nat.pow_lt_pow_right (by decide) (by decide)))
/-- what is cut off a float64 is a float64 -/
theorem fI_tI {b : Nat} (h : inR b) : fval (floatOfInt .f64 (tI b)) = tI b * (U : Int) ∧ rung (floatOfInt .f64 (tI b)) < infR := by
  have hb := tI_bd h
  have hl : (tI b).natAbs < 2 ^ 1024 := Nat.lt_of_le_of_lt (show (tI b).natAbs ≤ 2 ^ 63 by omega) (Nat.pow_lt_pow_right (by decide) (by decide))
  have ha : (tI b).natAbs = mag (rung b) / U := by
    unfold tI
    cases sgn b
    · rw [sgF]; exact Int.natAbs_natCast _
    · rw [sgT, Int.natAbs_neg]; exact Int.natAbs_natCast _
  have hm := mant_lt (rung b)
  by_cases he : expo (rung b) ≤ 1074
  · refine fI_exact _ (mant (rung b) / 2 ^ (1074 - expo (rung b))) 0 (Nat.lt_of_le_of_lt (Nat.div_le_self _ _) hm) ?_ hl
    rw [ha, Nat.pow_zero, Nat.mul_one]
    unfold mag U
    have : (2 : Nat) ^ 1074 = 2 ^ (1074 - expo (rung b)) * 2 ^ expo (rung b) := by rw [← Nat.pow_add]; congr 1; omega
    rw [this, Nat.mul_div_mul_right _ _ (Nat.two_pow_pos _)]
  · refine fI_exact _ (mant (rung b)) (expo (rung b) - 1074) hm ?_ hl
    rw [ha]
    unfold mag U
    have : (2 : Nat) ^ expo (rung b) = 2 ^ (expo (rung b) - 1074) * 2 ^ 1074 := by rw [← Nat.pow_add]; congr 1; omega
    rw [this, ← Nat.mul_assoc, Nat.mul_div_cancel _ (Nat.two_pow_pos _)]

/-! differences -/
theorem opp_fin {b : Nat} (h : rung b < infR) : (FloatKind.f64.format.read b).opposite = FloatKind.f64.format.read (fneg b) ∧ rung (fneg b) = rung b ∧ fval (fneg b) = -fval b := by
  have h1 : rung (fneg b) = rung b ∧ sgn (fneg b) = !sgn b := by
    unfold rung sgn fneg
    constructor
    · have : b ^^^ 2 ^ 63 = b ^^^ (2 ^ 63 * 1) := by simp
      apply Nat.eq_of_testBit_eq
      intro i
      rw [Nat.testBit_mod_two_pow, Nat.testBit_mod_two_pow, Nat.testBit_xor, Nat.testBit_two_pow]
      by_cases hi : i < 63
      · have : ¬ 63 = i := by omega
        simp [this]
      · simp [hi]
    · have e : ∀ n : Nat, (n / 2 ^ 63 % 2 == 1) = n.testBit 63 := by
        intro n; rw [Nat.testBit_eq_decide_div_mod_eq]; rfl
      rw [e, e, Nat.testBit_xor, Nat.testBit_two_pow]; simp
  have h2 : rung (fneg b) < infR := by rw [h1.1]; exact h
  refine ⟨?_, h1.1, ?_⟩
  · rw [read_fin h, read_fin h2, h1.1, h1.2]; rfl
  · unfold fval; rw [h1.1, h1.2]; cases sgn b
    · show sg true _ = _; rw [sgT, sgF]
    · show sg false _ = _; rw [sgT, sgF]; omega
theorem sub_num {x y : Nat} (hx : rung x < infR) (hy : rung y < infR) : ∃ s r, FloatKind.f64.format.sub x y = some (wd s r) ∧ r = rnd (fval x - fval y).natAbs ∧ (fval x - fval y ≠ 0 → s = decide (fval x - fval y < 0)) := by
  have h := opp_fin hy
  have hy2 : rung (fneg y) < infR := by rw [h.2.1]; exact hy
  have e := sum_num hx hy2
  rw [h.2.2] at e
  refine ⟨sumS (fval x) (-fval y) (sgn x && sgn (fneg y)), rnd (fval x - fval y).natAbs, ?_, rfl, ?_⟩
  · unfold Ieee.Format.sub
    rw [h.1]
    exact e
  · intro hne
    show sumS (fval x) (-fval y) _ = _
    unfold sumS
    rw [if_neg (by omega)]
    rfl
theorem fok_sub {x y : Nat} (hx : rung x < infR) (hy : rung y < infR) : fok .sub x y = true := by
  obtain ⟨s, r, h, _⟩ := sub_num hx hy
  unfold fok floatBits; rw [h]; rfl
/-- the sign of a difference is exact -/
theorem sub_sign {x y : Nat} (hx : rung x < infR) (hy : rung y < infR) : isNum (fop .sub x y) ∧ (0 < fval (fop .sub x y) ↔ fval y < fval x) ∧ (fval (fop .sub x y) < 0 ↔ fval x < fval y) := by
  obtain ⟨s, r, h, hr, hs⟩ := sub_num hx hy
  have e : fop .sub x y = wd s r := by unfold fop floatBits; rw [h]; rfl
  have hl : r ≤ infR := by rw [hr]; exact rnd_le _
  rw [e, fval_wd _ hl]
  refine ⟨isNum_wd _ hl, ?_⟩
  rcases Int.lt_trichotomy (fval x) (fval y) with hc | hc | hc
  · have hp : 0 < mag r := mag_pos (by rw [hr]; exact rnd_pos (by omega))
    rw [hs (by omega), decide_eq_true (by omega), sgT]
    omega
  · have : r = 0 := by rw [hr, show (fval x - fval y).natAbs = 0 by omega]; rfl
    subst this
    have : mag 0 = 0 := by decide
    rw [this]
    cases s
    · rw [sgF]; omega
    · rw [sgT]; omega
  · have hp : 0 < mag r := mag_pos (by rw [hr]; exact rnd_pos (by omega))
    rw [hs (by omega), decide_eq_false (by omega), sgF]
    omega

/-! what a word's value tells of the word -/
theorem mag_inj {r r' : Nat} (h : r ≤ infR) (h' : r' ≤ infR) (e : mag r = mag r') : r = r' := by
  have := rnd_mag h; rw [e, rnd_mag h'] at this; exact this.symm
theorem fval_inj {x y : Nat} (hx : x < 2 ^ 64) (hy : y < 2 ^ 64) (nx : isNum x) (ny : isNum y) (e : fval x = fval y) (h0 : fval x ≠ 0) : x = y := by
  rw [wd_eq x hx, wd_eq y hy]
  unfold fval at e h0
  have h : sgn x = sgn y ∧ mag (rung x) = mag (rung y) := by
    cases h1 : sgn x <;> cases h2 : sgn y <;> simp only [h1, h2, sgF, sgT] at e h0 <;> first | exact ⟨rfl, by omega⟩ | (exfalso; omega)
  rw [h.1, mag_inj nx ny h.2]
end Go.Proofs.Yticnolkbmpmgcaa.FT
