/- The plain law behind NumTexts: what the printed functions answer is true at every input. -/
import Derived.Test.YticnolkbmpmgcaaQNx16
import Derived.Test.YticnolkbmpmgcaaNT6
set_option linter.unusedVariables false
set_option linter.unusedSimpArgs false
namespace Go.Proofs.Yticnolkbmpmgcaa.Pure
open Go.RowKit Go.Proofs.Yticnolkbmpmgcaa.QN Go.Proofs.Yticnolkbmpmgcaa.FT
theorem NumTexts (t n : Int) (s : ByteArray) (_ : (Lit.int .i64 t).wf = true) (hn : (Lit.int .i64 n).wf = true) (hs : s.size ≤ 140737488351232) : ∃ k, heirloomlaw01_NumTexts.f k t n s = some true := by
  refine ⟨8 * s.size + 100, ?_⟩
  unfold heirloomlaw01_NumTexts.f
  obtain ⟨v, h1, h2⟩ := read_eq hs (8 * s.size + 100) (by omega)
  obtain ⟨a, h3, h4⟩ := ntext_f (t := t) (i64_bd hn)
  obtain ⟨b, h5, h6⟩ := rtext_f (t := t) (i64_bd hn) (8 * s.size + 100) (by omega)
  have : a = b := cs_inj (h4.trans h6.symm)
  subst this
  rw [h1, h2, h3, h5]
  simp [heirloomlaw01_no.f, alive_at (8 * s.size + 100) (by omega)]
end Go.Proofs.Yticnolkbmpmgcaa.Pure
