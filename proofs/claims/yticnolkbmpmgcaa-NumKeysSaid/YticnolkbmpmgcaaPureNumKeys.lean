/- The plain law behind NumKeys: what the printed functions answer is true at every input. -/
import Derived.Test.YticnolkbmpmgcaaQNx19
import Derived.Test.YticnolkbmpmgcaaPCmp
import Derived.Test.YticnolkbmpmgcaaPKey
set_option linter.unusedVariables false
set_option linter.unusedSimpArgs false
namespace Go.Proofs.Yticnolkbmpmgcaa.Pure
open Go.RowKit Go.Proofs.Yticnolkbmpmgcaa.QN Go.Proofs.Yticnolkbmpmgcaa.FT
theorem whole_at {b : Nat} (hb : isNum b) {x : Int} (hx : -9223372036854775808 ≤ x ∧ x ≤ 9223372036854775807) (e : x * (U : Int) = fval b) : whB b ∧ tI b = x := by
  have hR : inR b := ⟨hb, by rw [← e]; exact (nU_bd hx).1, by rw [← e]; exact (nU_bd hx).2⟩
  obtain ⟨i1, i2⟩ := int_in hR x
  have hx : tI b = x := by
    rcases Int.lt_trichotomy x (tI b) with h | h | h
    · have := i1 h; omega
    · exact h.symm
    · have := i2 h; omega
  exact ⟨⟨hR, by rw [hx, e]⟩, hx⟩
theorem V_key {t n : Int} (h : ord t n = true) : V (keyV t n).1 (keyV t n).2 = V t n := by
  have hi := ord_is h
  unfold keyV
  by_cases h0 : (wS t n).2 = 0
  · rw [if_pos h0]
    unfold wS at h0 ⊢
    rw [if_pos hi.1] at h0 ⊢
    unfold V
    by_cases h2 : t = 2
    · rw [if_pos h2, if_pos rfl, if_pos h2]
    · rw [if_neg h2] at h0
      by_cases hw : whB (ub n)
      · rw [if_neg h2, if_pos hw, if_pos rfl, if_neg h2]
        exact hw.2.symm
      · rw [if_neg hw] at h0
        exact absurd h0 (by decide)
  · rw [if_neg h0]
theorem key_of {t n u m : Int} (hn : (Lit.int .i64 n).wf = true) (hm : (Lit.int .i64 m).wf = true) (a : ord t n = true) (b : ord u m = true) (h2 : t = 2) (e : V t n = V u m) : keyV t n = keyV u m := by
  have ia := ord_is a
  have ib := ord_is b
  unfold V at e
  rw [if_pos h2] at e
  unfold keyV wS
  rw [if_pos ia.1, if_pos ib.1, if_pos h2]
  simp only [if_true]
  by_cases u2 : u = 2
  · rw [if_pos u2] at e ⊢
    rw [if_pos rfl]
    have hU := U_pos
    have : n = m := Int.eq_of_mul_eq_mul_right (by omega) e
    rw [this]
  · rw [if_neg u2] at e ⊢
    have w := whole_at (ib.2 u2).2 (i64_bd hn) e
    rw [if_pos w.1, if_pos rfl, w.2]
theorem key_eq {t n u m : Int} (hn : (Lit.int .i64 n).wf = true) (hm : (Lit.int .i64 m).wf = true) (a : ord t n = true) (b : ord u m = true) : V t n = V u m ↔ keyV t n = keyV u m := by
  refine ⟨fun e => ?_, fun e => by rw [← V_key a, ← V_key b, e]⟩
  by_cases h2 : t = 2
  · exact key_of hn hm a b h2 e
  by_cases u2 : u = 2
  · exact (key_of hm hn b a u2 e.symm).symm
  have ia := ord_is a
  have ib := ord_is b
  obtain ⟨t3, nn⟩ := ia.2 h2
  obtain ⟨u3, nm⟩ := ib.2 u2
  unfold V at e
  rw [if_neg h2, if_neg u2] at e
  unfold keyV wS
  rw [if_pos ia.1, if_pos ib.1, if_neg h2, if_neg u2]
  by_cases hw : whB (ub n)
  · have hb := tI_bd hw.1
    have w := whole_at nm (x := tI (ub n)) (by omega) (by rw [← e]; exact hw.2.symm)
    rw [if_pos hw, if_pos w.1, w.2]
    simp
  · have hw' : ¬ whB (ub m) := fun z => by
      have hb := tI_bd z.1
      exact hw (whole_at nn (x := tI (ub m)) (by omega) (by rw [e]; exact z.2.symm)).1
    rw [if_neg hw, if_neg hw']
    have h0 : fval (ub n) ≠ 0 := fun z => hw (whole_at nn (x := 0) (by decide) (by rw [z, Int.zero_mul])).1
    rw [ub_inj hn hm (fval_inj (ub_lt n) (ub_lt m) nn nm e h0), t3, u3]
theorem key_key (t n : Int) : keyV (keyV t n).1 (keyV t n).2 = keyV t n := by
  by_cases h0 : (wS t n).2 = 0
  · have e : keyV t n = (2, (wS t n).1) := by unfold keyV; rw [if_pos h0]
    rw [e]
    simp [keyV, wS, isB]
  · have e : keyV t n = (t, n) := by unfold keyV; rw [if_neg h0]
    rw [e]; exact e
theorem NumKeys (t n u m : Int) (_ : (Lit.int .i64 t).wf = true) (hn : (Lit.int .i64 n).wf = true) (_ : (Lit.int .i64 u).wf = true) (hm : (Lit.int .i64 m).wf = true) : ∃ k, heirloomlaw01_NumKeys.f k t n u m = some true := by
  refine ⟨43, ?_⟩
  unfold heirloomlaw01_NumKeys.f
  rw [cmp_f 43 (by decide) hn hm]
  simp only [key_f, Option.bind_some, alive_at 43 (by decide), key_key]
  unfold cmpS
  by_cases h : ord t n = true ∧ ord u m = true
  · rw [if_pos h, if_pos rfl]
    have hk := key_eq hn hm h.1 h.2
    have e : ((cmpI (V t n) (V u m) == 0) == ((keyV t n).1 == (keyV u m).1 && (keyV t n).2 == (keyV u m).2)) = true := by
      by_cases hv : V t n = V u m
      · rw [cmp_eq hv, ← hk.1 hv]; simp
      · have h1 : (cmpI (V t n) (V u m) == 0) = false := by
          rw [beq_eq_false_iff_ne]; unfold cmpI
          by_cases h3 : V t n < V u m
          · rw [if_pos h3]; decide
          · rw [if_neg h3, if_pos (by omega)]; decide
        have h2 : ((keyV t n).1 == (keyV u m).1 && (keyV t n).2 == (keyV u m).2) = false := by
          rw [Bool.eq_false_iff]; intro z
          simp only [Bool.and_eq_true, beq_iff_eq] at z
          exact hv (hk.2 (Prod.ext z.1 z.2))
        rw [h1, h2]; rfl
    rw [if_pos e]
    simp
  · rw [if_neg h, if_neg (by decide)]
end Go.Proofs.Yticnolkbmpmgcaa.Pure
