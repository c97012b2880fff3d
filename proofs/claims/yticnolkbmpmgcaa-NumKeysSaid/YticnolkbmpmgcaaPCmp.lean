/- What num.Cmp comes to: the sign of the difference of what the two numbers stand for, counted in 2^-1074. -/
import Derived.Test.YticnolkbmpmgcaaNP2
import Derived.Test.YticnolkbmpmgcaaQNx4
set_option linter.unusedVariables false
set_option linter.unusedSimpArgs false
namespace Go.Proofs.Yticnolkbmpmgcaa.FT
open Go.RowKit Go.Proofs.Yticnolkbmpmgcaa.Fl Go.Proofs.Yticnolkbmpmgcaa.QN
def cmpI (x y : Int) : Int := if x < y then -1 else if y < x then 1 else 0
theorem cmp_lt {x y : Int} (h : x < y) : cmpI x y = -1 := by unfold cmpI; rw [if_pos h]
theorem cmp_gt {x y : Int} (h : y < x) : cmpI x y = 1 := by unfold cmpI; rw [if_neg (by omega), if_pos h]
theorem cmp_eq {x y : Int} (h : x = y) : cmpI x y = 0 := by unfold cmpI; rw [if_neg (by omega), if_neg (by omega)]
theorem cmp_neg (x y : Int) : wrap64 (-(cmpI x y)) = cmpI y x := by
  rcases Int.lt_trichotomy x y with h | h | h
  · rw [cmp_lt h, cmp_gt h]; unfold wrap64; omega
  · rw [cmp_eq h, cmp_eq h.symm]; unfold wrap64; omega
  · rw [cmp_gt h, cmp_lt h]; unfold wrap64; omega
theorem cmp_mul (x y : Int) (k : Nat) (h : 0 < k) : cmpI (x * (k : Int)) (y * (k : Int)) = cmpI x y := by
  have hk : (0 : Int) < k := by omega
  rcases Int.lt_trichotomy x y with h | h | h
  · rw [cmp_lt h, cmp_lt (Int.mul_lt_mul_of_pos_right h hk)]
  · rw [cmp_eq h, cmp_eq (by rw [h])]
  · rw [cmp_gt h, cmp_gt (Int.mul_lt_mul_of_pos_right h hk)]
theorem order_f (a b : Bool) : num_order.f a b = some (if a = true then -1 else if b = true then 1 else 0) := by
  unfold num_order.f
  cases a <;> cases b <;> rfl
theorem order_lt (x y : Int) (a b : Bool) (ha : a = true ↔ x < y) (hb : b = true ↔ y < x) : num_order.f a b = some (cmpI x y) := by
  rw [order_f]; unfold cmpI
  by_cases h : x < y
  · rw [if_pos (ha.2 h), if_pos h]
  · rw [if_neg (fun z => h (ha.1 z)), if_neg h]
    by_cases h' : y < x
    · rw [if_pos (hb.2 h'), if_pos h']
    · rw [if_neg (fun z => h' (hb.1 z)), if_neg h']
/-- where an int stands, held against a float64 in range -/
theorem int_in {b : Nat} (h : inR b) (n : Int) : (n < tI b → n * (U : Int) < fval b) ∧ (tI b < n → fval b < n * (U : Int)) := by
  obtain ⟨r, he, hr⟩ := tI_fval b
  have hU := U_pos
  refine ⟨fun z => ?_, fun z => ?_⟩
  · have h1 : (n + 1) * (U : Int) ≤ tI b * (U : Int) := Int.mul_le_mul_of_nonneg_right (by omega) (by omega)
    rw [Int.add_mul, Int.one_mul] at h1
    omega
  · have h1 : (tI b + 1) * (U : Int) ≤ n * (U : Int) := Int.mul_le_mul_of_nonneg_right (by omega) (by omega)
    rw [Int.add_mul, Int.one_mul] at h1
    omega
theorem nU_bd {n : Int} (hn : -9223372036854775808 ≤ n ∧ n ≤ 9223372036854775807) : -((2 ^ 63 * U : Nat) : Int) ≤ n * (U : Int) ∧ n * (U : Int) < ((2 ^ 63 * U : Nat) : Int) := by
  have hU := U_pos
  have h1 : -9223372036854775808 * (U : Int) ≤ n * (U : Int) := Int.mul_le_mul_of_nonneg_right hn.1 (by omega)
  have h2 : (n + 1) * (U : Int) ≤ 9223372036854775808 * (U : Int) := Int.mul_le_mul_of_nonneg_right (by omega) (by omega)
  rw [Int.add_mul, Int.one_mul] at h2
  have h3 : ((2 ^ 63 * U : Nat) : Int) = 9223372036854775808 * (U : Int) := by rw [Int.natCast_mul]; rfl
  rw [h3]
  omega
theorem mixed_f {n : Int} (hn : -9223372036854775808 ≤ n ∧ n ≤ 9223372036854775807) {b : Nat} (hb : isNum b) : num_mixed.f n b = some (cmpI (n * (U : Int)) (fval b)) := by
  have hB := nU_bd hn
  unfold num_mixed.f
  by_cases h1 : fge b 4890909195324358656 = true
  · rw [if_pos h1]
    have := (fge_iff _ _).1 h1
    rw [fval_C2] at this
    rw [cmp_lt (by omega)]
  rw [if_neg h1]
  by_cases h2 : flt b 14114281232179134464 = true
  · rw [if_pos h2]
    have := (flt_iff _ _).1 h2
    rw [fval_C1] at this
    rw [cmp_gt (by omega)]
  rw [if_neg h2]
  have hR : inR b := by
    refine ⟨hb, ?_, ?_⟩
    · refine Int.not_lt.1 fun z => h2 ((flt_iff _ _).2 ⟨hb, isNum_C1, by rw [fval_C1]; exact z⟩)
    · refine Int.not_le.1 fun z => h1 ((fge_iff _ _).2 ⟨hb, isNum_C2, by rw [fval_C2]; exact z⟩)
  have hf := ftoi_in hR
  have hfi := fI_tI hR
  rw [if_pos hf.1, hf.2]
  by_cases h3 : n = tI b
  · rw [if_pos h3, if_pos (fok_sub (inR_fin hR) hfi.2)]
    obtain ⟨s1, s2, s3⟩ := sub_sign (inR_fin hR) hfi.2
    rw [hfi.1] at s2 s3
    rw [order_lt (n * (U : Int)) (fval b) _ _ ?_ ?_]
    · rfl
    · rw [fgt_iff, fval_0, h3]; exact ⟨fun z => s2.1 z.2.2, fun z => ⟨s1, isNum_0, s2.2 z⟩⟩
    · rw [flt_iff, fval_0, h3]; exact ⟨fun z => s3.1 z.2.2, fun z => ⟨s1, isNum_0, s3.2 z⟩⟩
  · rw [if_neg h3]
    obtain ⟨i1, i2⟩ := int_in hR n
    rw [order_lt (n * (U : Int)) (fval b) _ _ ?_ ?_]
    · rfl
    · rw [decide_eq_true_iff]; exact ⟨i1, fun z => by refine Int.not_le.1 fun w => ?_; have := i2 (by omega); omega⟩
    · rw [decide_eq_true_iff]; exact ⟨i2, fun z => by refine Int.not_le.1 fun w => ?_; have := i1 (by omega); omega⟩
/-- what a value stands for, and whether it has a place in the order -/
def V (t n : Int) : Int := if t = 2 then n * (U : Int) else fval (ub n)
def ord (t n : Int) : Bool := t == 2 || (t == 3 && decide (isNum (ub n)))
theorem ord_is {t n : Int} (h : ord t n = true) : isB t n = true ∧ (t ≠ 2 → t = 3 ∧ isNum (ub n)) := by
  unfold ord at h; unfold isB
  by_cases h2 : t = 2
  · rw [if_pos h2]; exact ⟨rfl, fun z => absurd h2 z⟩
  · have h3 : t = 3 ∧ isNum (ub n) := by simpa [h2] using h
    rw [if_neg h2, if_pos h3.1, if_pos h3.2]; exact ⟨rfl, fun _ => h3⟩
theorem not_ord {t n : Int} (h : ¬ ord t n = true) (h' : isB t n = true) : t ≠ 2 ∧ t = 3 ∧ ¬ isNum (ub n) ∧ n = N0 := by
  unfold ord at h; unfold isB at h'
  have h2 : t ≠ 2 := fun z => h (by simp [z])
  rw [if_neg h2] at h'
  by_cases h3 : t = 3
  · rw [if_pos h3] at h'
    have hn : ¬ isNum (ub n) := fun z => h (by simp [h3, z])
    rw [if_neg hn] at h'
    exact ⟨h2, h3, hn, by simpa using h'⟩
  · rw [if_neg h3] at h'; exact absurd h' (by decide)
theorem nan_ofN {t n : Int} (h : isB t n = true) : fne (ofN t n) (ofN t n) = true ↔ ¬ ord t n = true := by
  rw [fne_self, ofN_is h]
  by_cases h2 : t = 2
  · rw [if_pos h2]
    exact ⟨fun z => absurd (fI_isNum n) z, fun z => absurd (show ord t n = true by unfold ord; simp [h2]) z⟩
  · rw [if_neg h2]
    have h3 : t = 3 := by
      unfold isB at h; rw [if_neg h2] at h
      by_cases h3 : t = 3
      · exact h3
      · rw [if_neg h3] at h; exact absurd h (by decide)
    unfold ord; simp [h2, h3]
def cmpS (t n u m : Int) : Int × Bool := if ord t n = true ∧ ord u m = true then (cmpI (V t n) (V u m), true) else (0, false)
theorem cmpS_yes {t n u m : Int} (a : ord t n = true) (b : ord u m = true) : cmpS t n u m = (cmpI (V t n) (V u m), true) := by unfold cmpS; rw [if_pos ⟨a, b⟩]
theorem cmpS_no {t n u m : Int} (h : ¬ (ord t n = true ∧ ord u m = true)) : cmpS t n u m = (0, false) := by unfold cmpS; rw [if_neg h]
theorem cmp_f (k : Nat) (hk : 2 ≤ k) {t n u m : Int} (hn : (Lit.int .i64 n).wf = true) (hm : (Lit.int .i64 m).wf = true) : num_Cmp.f k t n u m = some (cmpS t n u m) := by
  obtain ⟨k, rfl⟩ : ∃ j, k = j + 2 := ⟨k - 2, by omega⟩
  unfold num_Cmp.f
  rw [of_f, of_f]
  simp only [Option.bind_some]
  have hno : ∀ x y, num_Cmp.j0 (k + 2) x y true t n u m = some (0, false) := fun x y => by simp only [num_Cmp.j0, if_true]
  unfold cmpS
  by_cases hx : isB t n = true
  · rw [if_pos hx]
    by_cases hy : isB u m = true
    · rw [if_pos hy]
      by_cases ox : ord t n = true
      · rw [if_neg (fun z => (nan_ofN hx).1 z ox)]
        by_cases oy : ord u m = true
        · rw [if_pos ⟨ox, oy⟩]
          have e : fne (ofN u m) (ofN u m) = false := by
            cases h : fne (ofN u m) (ofN u m)
            · rfl
            · exact absurd oy ((nan_ofN hy).1 h)
          rw [e]
          simp only [num_Cmp.j0, Bool.false_eq_true, if_false]
          rw [ofN_is hx, ofN_is hy]
          have px := ord_is ox
          have py := ord_is oy
          unfold V
          by_cases t2 : t = 2
          · rw [if_pos t2, if_pos t2, if_pos t2]
            simp only [num_Cmp.j1]
            by_cases u2 : u = 2
            · rw [if_pos (by simp [u2]), if_pos u2, cmp_mul _ _ _ U_pos, order_lt n m _ _ (decide_eq_true_iff) (decide_eq_true_iff)]
              rfl
            · rw [if_neg (by simp [u2]), if_pos t2, if_neg u2, if_neg u2, mixed_f (i64_bd hn) (py.2 u2).2]
              rfl
          · rw [if_neg t2, if_neg t2, if_neg t2]
            simp only [num_Cmp.j1, Bool.false_eq_true, if_false]
            rw [if_neg t2]
            by_cases u2 : u = 2
            · rw [if_pos u2, if_pos u2, mixed_f (i64_bd hm) (px.2 t2).2]
              simp only [Option.bind_some]
              rw [cmp_neg]
            · rw [if_neg u2, if_neg u2, if_neg u2, order_lt (fval (ub n)) (fval (ub m)) _ _ ?_ ?_]
              · rfl
              · rw [flt_iff]; exact ⟨fun z => z.2.2, fun z => ⟨(px.2 t2).2, (py.2 u2).2, z⟩⟩
              · rw [fgt_iff]; exact ⟨fun z => z.2.2, fun z => ⟨(px.2 t2).2, (py.2 u2).2, z⟩⟩
        · rw [(nan_ofN hy).2 oy, hno, if_neg (fun z => oy z.2)]
      · rw [if_pos ((nan_ofN hx).2 ox), hno, if_neg (fun z => ox z.1)]
    · rw [if_neg hy, hno, if_neg (fun z => hy (ord_is z.2).1)]
  · rw [if_neg hx, hno, if_neg (fun z => hx (ord_is z.1).1)]
end Go.Proofs.Yticnolkbmpmgcaa.FT
