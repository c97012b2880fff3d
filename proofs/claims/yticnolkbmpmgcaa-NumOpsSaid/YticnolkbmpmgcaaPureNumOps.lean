/- The plain law behind NumOps: what the printed functions answer is true at every input. -/
import Derived.Test.YticnolkbmpmgcaaQNx11
import Derived.Test.YticnolkbmpmgcaaNP2
set_option linter.unusedVariables false
set_option linter.unusedSimpArgs false
namespace Go.Proofs.Yticnolkbmpmgcaa.Pure
open Go.RowKit Go.Proofs.Yticnolkbmpmgcaa.QN Go.Proofs.Yticnolkbmpmgcaa.FT Go.Proofs.Yticnolkbmpmgcaa.Fl
theorem down_eq (a b : Int) (ha : -9223372036854775808 ≤ a ∧ a ≤ 9223372036854775807) (hb : -9223372036854775808 ≤ b ∧ b ≤ 9223372036854775807) (h0 : b ≠ 0) :
    ∃ r, num_floor.f a b = some r ∧ heirloomref01_down.f a b = some (num_Op.quo a b, r) := by
  unfold heirloomref01_down.f num_floor.f num_Op.quo
  by_cases h1 : b = -1
  · rw [if_pos h1, if_pos h1, if_pos h1]
    exact ⟨0, rfl, rfl⟩
  · obtain ⟨e, q1, q2, r1, r2, r3, r4, s1, s2, s3, s4⟩ := divs a b ha h0 h1
    rw [if_neg h1, if_neg h1, if_neg h1, if_neg h0, if_neg h0]
    have hr : wrap64 (a - wrap64 (wrap64 (Int.tdiv a b) * b)) = Int.tmod a b := by
      rw [w64_in q1 q2]
      generalize Int.tdiv a b = q at *
      generalize Int.tmod a b = r at *
      have : wrap64 (a - wrap64 (q * b)) = wrap64 (a - q * b) := by unfold wrap64; omega
      rw [this, show a - q * b = r by omega]
      have : -9223372036854775808 ≤ r ∧ r ≤ 9223372036854775807 := by
        by_cases h : 0 < b
        · have := r3 h; omega
        · have := r4 (by omega); omega
      exact w64_in this.1 this.2
    rw [hr, w64_in q1 q2]
    generalize Int.tdiv a b = q at *
    generalize Int.tmod a b = r at *
    by_cases hr0 : r = 0
    · rw [if_pos hr0, if_pos hr0, if_pos hr0]
      exact ⟨r, rfl, rfl⟩
    · rw [if_neg hr0, if_neg hr0, if_neg hr0]
      have hsg : decide (r < 0) = decide (a < 0) := by
        by_cases h : a < 0
        · have := r2 (by omega)
          rw [decide_eq_true h, decide_eq_true (by omega)]
        · have := r1 (by omega)
          rw [decide_eq_false h, decide_eq_false (by omega)]
      rw [hsg]
      by_cases hs : decide (a < 0) = decide (b < 0)
      · rw [if_pos hs, if_neg (by simp [hs]), if_neg (by simp [hs])]
        exact ⟨r, rfl, rfl⟩
      · have hs2 : (decide (a < 0) != decide (b < 0)) = true := bne_iff_ne.2 hs
        rw [if_neg hs, if_pos hs2, if_pos hs2]
        exact ⟨_, rfl, rfl⟩
theorem wS_in {t n : Int} (hn : (Lit.int .i64 n).wf = true) : -9223372036854775808 ≤ (wS t n).1 ∧ (wS t n).1 ≤ 9223372036854775807 := by
  have h := i64_bd hn
  unfold wS
  split
  · split
    · exact h
    · split
      · rename_i hw
        have := tI_bd hw.1
        exact ⟨by omega, by omega⟩
      · exact ⟨by decide, by decide⟩
  · exact ⟨by decide, by decide⟩
theorem fV_some (o : BinOp) (x y : Nat) : ∃ v, num_Op.fV o x y = some v ∧ heirloomref01_Op.fV o x y = some v := by
  unfold num_Op.fV heirloomref01_Op.fV
  simp only [rfloat_f, float_f]
  split <;> exact ⟨_, rfl, rfl⟩
theorem op_eq (op t n u m : Int) (hn : (Lit.int .i64 n).wf = true) (hm : (Lit.int .i64 m).wf = true) : ∃ v, num_Op.f op t n u m = some v ∧ heirloomref01_Op.f op t n u m = some v := by
  unfold num_Op.f heirloomref01_Op.f
  simp only [of_f, ris_f, wh_f, rwh_f 2, rof_f, Option.bind_some]
  by_cases ho : op < 1 ∨ 6 < op
  · rw [if_pos ho, if_pos ho]; exact ⟨_, rfl, rfl⟩
  rw [if_neg ho, if_neg ho]
  by_cases hx : isB t n = true
  · by_cases hy : isB u m = true
    · rw [if_pos ⟨hx, hy⟩, if_pos hx, if_pos hy]
      by_cases h5 : 5 ≤ op
      · rw [if_pos h5, if_pos h5]
        by_cases hp : (wS t n).2 = 0
        · by_cases hq : (wS u m).2 = 0
          · rw [if_pos ⟨hp, hq⟩, if_pos hp, if_pos hq]
            by_cases hz : (wS u m).1 = 0
            · rw [if_pos hz, if_pos hz]; exact ⟨_, rfl, rfl⟩
            · rw [if_neg hz, if_neg hz]
              obtain ⟨r, hr, hd⟩ := down_eq _ _ (wS_in (t := t) hn) (wS_in (t := u) hm) hz
              rw [hr, hd]
              simp only [Option.bind_some]
              by_cases h : op = 5
              · rw [if_pos h]; exact ⟨_, rfl, rfl⟩
              · rw [if_neg h]; exact ⟨_, rfl, rfl⟩
          · rw [if_neg (fun z => hq z.2), if_pos hp, if_neg hq]; exact ⟨_, rfl, rfl⟩
        · rw [if_neg (fun z => hp z.1), if_neg hp]; exact ⟨_, rfl, rfl⟩
      · rw [if_neg h5, if_neg h5]
        by_cases hi : op ≤ 3 ∧ t = 2 ∧ u = 2
        · rw [if_pos hi, if_pos hi]; exact ⟨_, rfl, rfl⟩
        · rw [if_neg hi, if_neg hi, ofN_is hx, ofN_is hy]
          exact fV_some _ _ _
    · rw [if_neg (fun z => hy z.2), if_pos hx, if_neg hy]; exact ⟨_, rfl, rfl⟩
  · rw [if_neg (fun z => hx z.1), if_neg hx]; exact ⟨_, rfl, rfl⟩
theorem NumOps (op t n u m : Int) (_ : (Lit.int .i64 op).wf = true) (_ : (Lit.int .i64 t).wf = true) (hn : (Lit.int .i64 n).wf = true) (_ : (Lit.int .i64 u).wf = true) (hm : (Lit.int .i64 m).wf = true) : ∃ k, heirloomlaw01_NumOps.f k op t n u m = some true := by
  refine ⟨43, ?_⟩
  unfold heirloomlaw01_NumOps.f
  obtain ⟨v, h1, h2⟩ := op_eq op t n u m hn hm
  rw [h1, h2]
  simp [heirloomlaw01_no.f, alive_at 43 (by decide)]
end Go.Proofs.Yticnolkbmpmgcaa.Pure
