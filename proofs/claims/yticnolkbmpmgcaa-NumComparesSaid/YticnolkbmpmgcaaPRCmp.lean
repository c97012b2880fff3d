/- What the reference's Cmp comes to: the same as num.Cmp. -/
import Derived.Test.YticnolkbmpmgcaaPCmp
import Derived.Test.YticnolkbmpmgcaaQNx12
set_option linter.unusedVariables false
set_option linter.unusedSimpArgs false
namespace Go.Proofs.Yticnolkbmpmgcaa.FT
open Go.RowKit Go.Proofs.Yticnolkbmpmgcaa.Fl Go.Proofs.Yticnolkbmpmgcaa.QN
theorem rsign_f {d : Nat} {x y : Int} (hd : isNum d) (h1 : 0 < fval d ↔ x < y) (h2 : fval d < 0 ↔ y < x) : (heirloomref01_sign.f d).bind (fun t => some (wrap64 (-t))) = some (cmpI x y) := by
  unfold heirloomref01_sign.f
  by_cases a : flt d 0 = true
  · have := (flt_iff _ _).1 a
    rw [fval_0] at this
    rw [if_pos a, cmp_gt (h2.1 this.2.2)]; simp [wrap64]
  · have a' : ¬ fval d < 0 := fun z => a ((flt_iff _ _).2 ⟨hd, isNum_0, by rw [fval_0]; exact z⟩)
    rw [if_neg a]
    by_cases b : fgt d 0 = true
    · have := (fgt_iff _ _).1 b
      rw [fval_0] at this
      rw [if_pos b, cmp_lt (h1.1 this.2.2)]; simp [wrap64]
    · have b' : ¬ 0 < fval d := fun z => b ((fgt_iff _ _).2 ⟨hd, isNum_0, by rw [fval_0]; exact z⟩)
      rw [if_neg b, cmp_eq (by have := mt h1.2 b'; have := mt h2.2 a'; omega)]; simp [wrap64]
theorem against_f {n : Int} (hn : -9223372036854775808 ≤ n ∧ n ≤ 9223372036854775807) {b : Nat} (hb : isNum b) : heirloomref01_against.f n b = some (cmpI (n * (U : Int)) (fval b)) := by
  have hB := nU_bd hn
  unfold heirloomref01_against.f
  by_cases h1 : fge b 4890909195324358656 = true
  · rw [if_pos h1]
    have := (fge_iff _ _).1 h1
    rw [fval_C2] at this
    rw [cmp_lt (by omega)]
  rw [if_neg h1]
  by_cases h2 : flt b 14114281232179134464 = true
  · rw [if_pos h2]
    have := (flt_iff _ _).1 h2
    rw [fval_C1] at this
    rw [cmp_gt (by omega)]
  rw [if_neg h2]
  have hR : inR b := by
    refine ⟨hb, ?_, ?_⟩
    · refine Int.not_lt.1 fun z => h2 ((flt_iff _ _).2 ⟨hb, isNum_C1, by rw [fval_C1]; exact z⟩)
    · refine Int.not_le.1 fun z => h1 ((fge_iff _ _).2 ⟨hb, isNum_C2, by rw [fval_C2]; exact z⟩)
  have hf := ftoi_in hR
  have hfi := fI_tI hR
  obtain ⟨i1, i2⟩ := int_in hR n
  rw [if_pos hf.1, hf.2]
  by_cases h3 : n < tI b
  · rw [if_pos h3, cmp_lt (i1 h3)]
  · rw [if_neg h3]
    by_cases h4 : n > tI b
    · rw [if_pos h4, cmp_gt (i2 h4)]
    · have h5 : n = tI b := by omega
      rw [if_neg h4, if_pos (fok_sub (inR_fin hR) hfi.2)]
      obtain ⟨s1, s2, s3⟩ := sub_sign (inR_fin hR) hfi.2
      rw [hfi.1] at s2 s3
      exact rsign_f s1 (by rw [h5]; exact s2) (by rw [h5]; exact s3)
theorem rcmp_f (k : Nat) (hk : 2 ≤ k) {t n u m : Int} (hn : (Lit.int .i64 n).wf = true) (hm : (Lit.int .i64 m).wf = true) : heirloomref01_Cmp.f k t n u m = some (cmpS t n u m) := by
  obtain ⟨k, rfl⟩ : ∃ j, k = j + 2 := ⟨k - 2, by omega⟩
  unfold heirloomref01_Cmp.f
  simp only [ris_f, Option.bind_some]
  have hno : heirloomref01_Cmp.j0 (k + 2) true t n u m = some (0, false) := by simp only [heirloomref01_Cmp.j0, if_true]
  unfold cmpS
  by_cases hx : isB t n = true
  · rw [if_pos hx]
    by_cases hy : isB u m = true
    · rw [if_pos hy]
      by_cases ox : ord t n = true
      · have nx : ¬ (t = 3 ∧ n = 9221120237041090561) := by
          rintro ⟨z1, z2⟩
          have := (ord_is ox).2 (by omega)
          rw [z2] at this
          exact N0_nan this.2
        by_cases oy : ord u m = true
        · have ny : ¬ (u = 3 ∧ m = 9221120237041090561) := by
            rintro ⟨z1, z2⟩
            have := (ord_is oy).2 (by omega)
            rw [z2] at this
            exact N0_nan this.2
          have e : (if t = 3 then (if n = 9221120237041090561 then heirloomref01_Cmp.j0 (k + 2) true t n u m else (if u = 3 then heirloomref01_Cmp.j0 (k + 2) (m == 9221120237041090561) t n u m else heirloomref01_Cmp.j0 (k + 2) false t n u m)) else (if u = 3 then heirloomref01_Cmp.j0 (k + 2) (m == 9221120237041090561) t n u m else heirloomref01_Cmp.j0 (k + 2) false t n u m)) = heirloomref01_Cmp.j0 (k + 2) false t n u m := by
            have e1 : (if u = 3 then heirloomref01_Cmp.j0 (k + 2) (m == 9221120237041090561) t n u m else heirloomref01_Cmp.j0 (k + 2) false t n u m) = heirloomref01_Cmp.j0 (k + 2) false t n u m := by
              by_cases u3 : u = 3
              · rw [if_pos u3, show (m == 9221120237041090561) = false from beq_eq_false_iff_ne.2 fun z => ny ⟨u3, z⟩]
              · rw [if_neg u3]
            rw [e1]
            by_cases t3 : t = 3
            · rw [if_pos t3, if_neg fun z => nx ⟨t3, z⟩]
            · rw [if_neg t3]
          rw [e, if_pos ⟨ox, oy⟩]
          simp only [heirloomref01_Cmp.j0, Bool.false_eq_true, if_false]
          have px := ord_is ox
          have py := ord_is oy
          unfold V
          by_cases t2 : t = 2
          · rw [if_pos t2, if_pos t2]
            simp only [heirloomref01_Cmp.j1]
            by_cases u2 : u = 2
            · rw [if_pos (by simp [u2]), if_pos u2, cmp_mul _ _ _ U_pos]
              unfold cmpI
              by_cases h : n < m
              · rw [if_pos h, if_pos h]
              · rw [if_neg h, if_neg h]
                by_cases h' : m < n
                · rw [if_pos h', if_pos h']
                · rw [if_neg h', if_neg h']
            · rw [if_neg (by simp [u2]), if_pos t2, if_neg u2]
              show (heirloomref01_against.f n (ub m)).bind _ = _
              rw [against_f (i64_bd hn) (py.2 u2).2]
              rfl
          · rw [if_neg t2, if_neg t2]
            simp only [heirloomref01_Cmp.j1, Bool.false_eq_true, if_false]
            rw [if_neg t2]
            by_cases u2 : u = 2
            · rw [if_pos u2, if_pos u2]
              show (heirloomref01_against.f m (ub n)).bind _ = _
              rw [against_f (i64_bd hm) (px.2 t2).2]
              simp only [Option.bind_some]
              rw [cmp_neg]
            · rw [if_neg u2, if_neg u2]
              show (if flt (ub n) (ub m) = true then _ else if fgt (ub n) (ub m) = true then _ else _) = _
              unfold cmpI
              have a1 : flt (ub n) (ub m) = true ↔ fval (ub n) < fval (ub m) := by
                rw [flt_iff]; exact ⟨fun z => z.2.2, fun z => ⟨(px.2 t2).2, (py.2 u2).2, z⟩⟩
              have a2 : fgt (ub n) (ub m) = true ↔ fval (ub m) < fval (ub n) := by
                rw [fgt_iff]; exact ⟨fun z => z.2.2, fun z => ⟨(px.2 t2).2, (py.2 u2).2, z⟩⟩
              by_cases h : flt (ub n) (ub m) = true
              · rw [if_pos h, if_pos (a1.1 h)]
              · rw [if_neg h, if_neg fun z => h (a1.2 z)]
                by_cases h' : fgt (ub n) (ub m) = true
                · rw [if_pos h', if_pos (a2.1 h')]
                · rw [if_neg h', if_neg fun z => h' (a2.2 z)]
        · obtain ⟨_, u3, _, m0⟩ := not_ord oy hy
          have m0 : m = 9221120237041090561 := m0
          rw [if_neg fun z : ord t n = true ∧ ord u m = true => oy z.2]
          have e1 : (m == 9221120237041090561) = true := beq_iff_eq.2 m0
          by_cases t3 : t = 3
          · rw [if_pos t3, if_neg fun z => nx ⟨t3, z⟩, if_pos u3, e1, hno]
          · rw [if_neg t3, if_pos u3, e1, hno]
      · obtain ⟨_, t3, _, n0⟩ := not_ord ox hx
        have n0 : n = 9221120237041090561 := n0
        rw [if_pos t3, if_pos n0, hno, if_neg fun z : ord t n = true ∧ ord u m = true => ox z.1]
    · rw [if_neg hy, hno, if_neg (fun z => hy (ord_is z.2).1)]
  · rw [if_neg hx, hno, if_neg (fun z => hx (ord_is z.1).1)]
end Go.Proofs.Yticnolkbmpmgcaa.FT
