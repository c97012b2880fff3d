/- Whole quotients and what is left of them: plain arithmetic, and num.Op at two ints. -/
import Derived.Test.YticnolkbmpmgcaaNP
set_option linter.unusedVariables false
set_option linter.unusedSimpArgs false
namespace Go.Proofs.Yticnolkbmpmgcaa.FT
open Go.RowKit Go.Proofs.Yticnolkbmpmgcaa.Fl Go.Proofs.Yticnolkbmpmgcaa.QN

theorem i64_bd {n : Int} (h : (Lit.int .i64 n).wf = true) : -9223372036854775808 ≤ n ∧ n ≤ 9223372036854775807 := by
  simpa [Lit.wf, IntKind.min, IntKind.max, IntKind.signed, IntKind.bits] using h
theorem w64_in {n : Int} (h : -9223372036854775808 ≤ n) (h' : n ≤ 9223372036854775807) : wrap64 n = n := by unfold wrap64; omega
theorem w64_mod (n m : Int) : wrap64 (wrap64 n + m) = wrap64 (n + m) := by unfold wrap64; omega
theorem divs (a b : Int) (ha : -9223372036854775808 ≤ a ∧ a ≤ 9223372036854775807) (hb : b ≠ 0) (hb1 : b ≠ -1) :
    Int.tdiv a b * b + Int.tmod a b = a ∧ -9223372036854775808 ≤ Int.tdiv a b ∧ Int.tdiv a b ≤ 9223372036854775807 ∧ (0 ≤ a → 0 ≤ Int.tmod a b) ∧ (a ≤ 0 → Int.tmod a b ≤ 0) ∧ (0 < b → Int.tmod a b < b ∧ -b < Int.tmod a b) ∧ (b < 0 → Int.tmod a b < -b ∧ b < Int.tmod a b) ∧ (0 ≤ a → 0 < b → 0 ≤ Int.tdiv a b) ∧ (a ≤ 0 → 0 < b → Int.tdiv a b ≤ 0) ∧ (0 ≤ a → b < 0 → Int.tdiv a b ≤ 0) ∧ (a ≤ 0 → b < 0 → 0 ≤ Int.tdiv a b) := by
  have h1 : b * Int.tdiv a b + Int.tmod a b = a := Int.mul_tdiv_add_tmod a b
  rw [Int.mul_comm] at h1
  have h2 : (Int.tmod a b).natAbs = a.natAbs % b.natAbs := Int.natAbs_tmod ..
  have h3 : a.natAbs % b.natAbs < b.natAbs := Nat.mod_lt _ (by omega)
  have h4 : (Int.tdiv a b).natAbs = a.natAbs / b.natAbs := Int.natAbs_tdiv ..
  have h5 : 0 ≤ a → 0 ≤ Int.tmod a b := fun h => Int.tmod_nonneg _ h
  have h6 : a ≤ 0 → Int.tmod a b ≤ 0 := fun h => by
    have := Int.tmod_nonneg b (show 0 ≤ -a by omega)
    rw [Int.neg_tmod] at this; omega
  have k1 : 0 ≤ a → 0 < b → 0 ≤ Int.tdiv a b := fun h h' => Int.tdiv_nonneg h (by omega)
  have k2 : a ≤ 0 → 0 < b → Int.tdiv a b ≤ 0 := fun h h' => by
    have := Int.tdiv_nonneg (show 0 ≤ -a by omega) (show 0 ≤ b by omega); rw [Int.neg_tdiv] at this; omega
  have k3 : 0 ≤ a → b < 0 → Int.tdiv a b ≤ 0 := fun h h' => by
    have := Int.tdiv_nonneg h (show 0 ≤ -b by omega); rw [Int.tdiv_neg] at this; omega
  have k4 : a ≤ 0 → b < 0 → 0 ≤ Int.tdiv a b := fun h h' => by
    have := Int.tdiv_nonneg (show 0 ≤ -a by omega) (show 0 ≤ -b by omega); rw [Int.tdiv_neg, Int.neg_tdiv] at this; omega
  have h7 : a.natAbs / b.natAbs ≤ a.natAbs := Nat.div_le_self _ _
  have h8 : b ≠ 1 → a.natAbs / b.natAbs ≤ a.natAbs / 2 := fun h => Nat.div_le_div_left (by omega) (by decide)
  have h9 : b = 1 → Int.tdiv a b = a := fun h => by rw [h, Int.tdiv_one]
  refine ⟨h1, ?_, ?_, h5, h6, ?_, ?_, k1, k2, k3, k4⟩
  · by_cases hb2 : b = 1
    · rw [h9 hb2]; exact ha.1
    · have := h8 hb2; omega
  · by_cases hb2 : b = 1
    · rw [h9 hb2]; exact ha.2
    · have := h8 hb2; omega
  · intro _; omega
  · intro _; omega
theorem op5 (a b : Int) (hb : b ≠ 0) : num_Op.f 5 2 a 2 b = some (2, num_Op.quo a b, 0) := by
  unfold num_Op.f
  rw [if_neg (by decide), of_f, of_f, wh_f, wh_f]
  simp [isB, wS, hb]
theorem op6 (a b : Int) (hb : b ≠ 0) : num_Op.f 6 2 a 2 b = (num_floor.f a b).bind fun r => some (2, r, 0) := by
  unfold num_Op.f
  rw [if_neg (by decide), of_f, of_f, wh_f, wh_f]
  simp [isB, wS, hb]
theorem op_0 (op : Int) (h : op = 5 ∨ op = 6) (a : Int) : num_Op.f op 2 a 2 0 = some (0, 0, 11) := by
  unfold num_Op.f
  rw [if_neg (by omega), of_f, of_f, wh_f, wh_f]
  have : (5 : Int) ≤ op := by omega
  simp [isB, wS, this]
/-- the quotient and what is left -/
theorem rests (a b : Int) (ha : -9223372036854775808 ≤ a ∧ a ≤ 9223372036854775807) (hb : -9223372036854775808 ≤ b ∧ b ≤ 9223372036854775807) (h0 : b ≠ 0) :
    ∃ q r, num_Op.quo a b = q ∧ num_floor.f a b = some r ∧ wrap64 (wrap64 (q * b) + r) = a ∧ (0 < b ∧ 0 ≤ r ∧ r < b ∨ b < 0 ∧ r ≤ 0 ∧ b < r) := by
  by_cases h1 : b = -1
  · subst h1
    refine ⟨wrap64 (-a), 0, by unfold num_Op.quo; rw [if_pos rfl], by unfold num_floor.f; rw [if_pos rfl], ?_, by omega⟩
    unfold wrap64; omega
  · obtain ⟨e, q1, q2, r1, r2, r3, r4, s1, s2, s3, s4⟩ := divs a b ha h0 h1
    unfold num_Op.quo num_floor.f
    rw [if_neg h1, if_neg h1, if_neg h0, w64_in q1 q2]
    generalize Int.tdiv a b = q at *
    generalize Int.tmod a b = r at *
    by_cases hr : r = 0
    · rw [if_pos hr, if_pos hr]
      refine ⟨q, r, rfl, rfl, ?_, by omega⟩
      rw [w64_mod, e]; exact w64_in ha.1 ha.2
    · rw [if_neg hr, if_neg hr]
      by_cases hs : decide (a < 0) = decide (b < 0)
      · have hs2 : ¬ ((decide (r < 0)) != (decide (b < 0))) = true := by
          rw [← hs]; simp
          by_cases h : a < 0
          · have := r2 (by omega); simp [h]; omega
          · have := r1 (by omega); simp [h]; omega
        rw [if_pos hs, if_neg hs2]
        refine ⟨q, r, rfl, rfl, by rw [w64_mod, e]; exact w64_in ha.1 ha.2, ?_⟩
        by_cases h : a < 0
        · have hb' : b < 0 := by rw [decide_eq_true h] at hs; exact of_decide_eq_true hs.symm
          have := r2 (by omega); have := r4 hb'; omega
        · have hb' : ¬ b < 0 := by rw [decide_eq_false h] at hs; exact of_decide_eq_false hs.symm
          have := r1 (by omega); have := r3 (by omega); omega
      · have hs2 : ((decide (r < 0)) != (decide (b < 0))) = true := by
          by_cases h : a < 0
          · have hb' : ¬ b < 0 := fun z => hs (by rw [decide_eq_true h, decide_eq_true z])
            have := r2 (by omega)
            rw [decide_eq_true (show r < 0 by omega), decide_eq_false hb']; rfl
          · have hb' : b < 0 := by
              refine Int.not_le.1 fun z => hs (by rw [decide_eq_false h, decide_eq_false (by omega)])
            have := r1 (by omega)
            rw [decide_eq_false (show ¬ r < 0 by omega), decide_eq_true hb']; rfl
        rw [if_neg hs, if_pos hs2]
        have hq : -9223372036854775808 ≤ q - 1 ∧ q - 1 ≤ 9223372036854775807 := by
          refine ⟨?_, by omega⟩
          refine Int.not_lt.1 fun hlt => ?_
          have hq0 : q = -9223372036854775808 := by omega
          subst hq0
          by_cases hbp : 0 < b
          · have := r3 hbp
            by_cases hb2 : b = 1
            · subst hb2; omega
            · omega
          · have := r4 (by omega); omega
        rw [w64_in hq.1 hq.2]
        have hrb : -9223372036854775808 ≤ r + b ∧ r + b ≤ 9223372036854775807 := by
          by_cases h : a < 0
          · have hb' : ¬ b < 0 := fun z => hs (by rw [decide_eq_true h, decide_eq_true z])
            have := r2 (by omega); have := r3 (by omega); omega
          · have hb' : b < 0 := by
              refine Int.not_le.1 fun z => hs (by rw [decide_eq_false h, decide_eq_false (by omega)])
            have := r1 (by omega); have := r4 hb'; omega
        refine ⟨q - 1, r + b, rfl, by rw [w64_in hrb.1 hrb.2], ?_, ?_⟩
        · rw [w64_mod, Int.sub_mul, show q * b - 1 * b + (r + b) = q * b + r by omega, e]; exact w64_in ha.1 ha.2
        · by_cases h : a < 0
          · have hb' : ¬ b < 0 := fun z => hs (by rw [decide_eq_true h, decide_eq_true z])
            have := r2 (by omega); have := r3 (by omega); omega
          · have hb' : b < 0 := by
              refine Int.not_le.1 fun z => hs (by rw [decide_eq_false h, decide_eq_false (by omega)])
            have := r1 (by omega); have := r4 hb'; omega
end Go.Proofs.Yticnolkbmpmgcaa.FT
