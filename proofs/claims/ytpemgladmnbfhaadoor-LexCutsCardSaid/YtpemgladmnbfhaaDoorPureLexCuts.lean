/- Lex cuts as the reference does. For every source. -/
import Derived.Test.YtpemgladmnbfhaaDoorPE
import Derived.Test.YtpemgladmnbfhaaDoorPH
import Derived.Test.YtpemgladmnbfhaaDoorQLx20
set_option linter.unusedVariables false
set_option linter.unusedSimpArgs false
namespace Go.Proofs.YtpemgladmnbfhaaDoor.Pure
open Go.RowKit Go.Proofs.YtpemgladmnbfhaaDoor.QL Go.Proofs.YtpemgladmnbfhaaDoor.PL Go.Proofs.YtpemgladmnbfhaaDoor.Wd Go.Proofs.YtpemgladmnbfhaaDoorW.PrintWords
theorem LexCuts : heirloomlaw07_LexCuts.Pure := by
  intro s hs
  obtain ⟨k, hk⟩ : ∃ k, k = 700000000 + 700 * s.size := ⟨_, rfl⟩
  refine ⟨k, ?_⟩
  have al : heirloomlaw07_alive.f k = some true := alive_at k (by omega)
  unfold heirloomlaw07_LexCuts.f
  rw [lex_f s k (by omega), rlex_f s k (by omega)]
  simp only [Option.bind_some, no_f]
  have hl := all_len (bs s)
  rw [bs_len] at hl
  rw [same_f (rel_refl true _) (by omega) k (by omega)]
  simp only [Option.bind_some]
  rw [if_pos trivial, if_pos trivial, if_pos trivial, al]
  rfl
end Go.Proofs.YtpemgladmnbfhaaDoor.Pure
