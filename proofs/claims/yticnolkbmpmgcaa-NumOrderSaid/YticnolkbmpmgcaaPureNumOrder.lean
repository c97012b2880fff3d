/- The plain law behind NumOrder: what the printed functions answer is true at every input. -/
import Derived.Test.YticnolkbmpmgcaaQNx17
import Derived.Test.YticnolkbmpmgcaaPCmp
set_option linter.unusedVariables false
set_option linter.unusedSimpArgs false
namespace Go.Proofs.Yticnolkbmpmgcaa.Pure
open Go.RowKit Go.Proofs.Yticnolkbmpmgcaa.QN Go.Proofs.Yticnolkbmpmgcaa.FT
theorem order_plain (x y z : Int) :
    (cmpI x z > 0 → ¬ (cmpI x y ≤ 0 ∧ cmpI y z ≤ 0)) ∧ (cmpI x z ≥ 0 → ¬ (cmpI x y < 0 ∧ cmpI y z ≤ 0) ∧ ¬ (cmpI x y ≤ 0 ∧ cmpI y z < 0)) := by
  unfold cmpI
  refine ⟨fun h g => ?_, fun h => ⟨fun g => ?_, fun g => ?_⟩⟩ <;> (repeat' split at h) <;> (repeat' split at g) <;> omega
theorem NumOrder (t n u m v l : Int) (_ : (Lit.int .i64 t).wf = true) (hn : (Lit.int .i64 n).wf = true) (_ : (Lit.int .i64 u).wf = true) (hm : (Lit.int .i64 m).wf = true) (_ : (Lit.int .i64 v).wf = true) (hl : (Lit.int .i64 l).wf = true) : ∃ k, heirloomlaw01_NumOrder.f k t n u m v l = some true := by
  refine ⟨45, ?_⟩
  unfold heirloomlaw01_NumOrder.f
  rw [cmp_f 45 (by decide) hn hm, cmp_f 45 (by decide) hm hl, cmp_f 45 (by decide) hn hl, cmp_f 45 (by decide) hm hn]
  simp only [Option.bind_some]
  have ha := alive_at 43 (by decide)
  by_cases oa : ord t n = true
  · by_cases ob : ord u m = true
    · rw [cmpS_yes oa ob, cmpS_yes ob oa]
      simp only [bne_self_eq_false, Bool.false_eq_true, if_false, if_true, cmp_neg]
      simp only [heirloomlaw01_NumOrder.j0, Bool.false_eq_true, if_false, if_true]
      by_cases oc : ord v l = true
      · rw [cmpS_yes ob oc, cmpS_yes oa oc]
        simp only [heirloomlaw01_NumOrder.j1, Bool.not_true, Bool.false_eq_true, if_false, if_true, ha, Option.bind_some]
        obtain ⟨h1, h2⟩ := order_plain (V t n) (V u m) (V v l)
        generalize cmpI (V t n) (V u m) = x at *
        generalize cmpI (V u m) (V v l) = y at *
        generalize cmpI (V t n) (V v l) = z at *
        by_cases c1 : x ≤ 0 <;> by_cases c2 : y ≤ 0 <;> by_cases c3 : x < 0 <;> by_cases c4 : y < 0 <;> by_cases c5 : z > 0 <;> by_cases c6 : z ≥ 0 <;> simp [c1, c2, c3, c4, c5, c6] <;> omega
      · rw [cmpS_no (t := u) (u := v) fun z => oc z.2]
        simp only [heirloomlaw01_NumOrder.j1, Bool.not_false, if_true, ha, Option.bind_some]
    · rw [cmpS_no (t := t) (u := u) fun z => ob z.2, cmpS_no (t := u) (u := t) fun z => ob z.1]
      simp only [bne_self_eq_false, Bool.false_eq_true, if_false]
      simp only [heirloomlaw01_NumOrder.j0, heirloomlaw01_NumOrder.j1, Bool.false_eq_true, if_false, if_true, ha, Option.bind_some]
  · rw [cmpS_no (t := t) (u := u) fun z => oa z.1, cmpS_no (t := u) (u := t) fun z => oa z.2]
    simp only [bne_self_eq_false, Bool.false_eq_true, if_false]
    simp only [heirloomlaw01_NumOrder.j0, heirloomlaw01_NumOrder.j1, Bool.false_eq_true, if_false, if_true, ha, Option.bind_some]
end Go.Proofs.Yticnolkbmpmgcaa.Pure
