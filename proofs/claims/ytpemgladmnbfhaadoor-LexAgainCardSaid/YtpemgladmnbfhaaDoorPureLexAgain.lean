/- Tokens that are joined are the same tokens again. For every source. -/
import Derived.Test.YtpemgladmnbfhaaDoorPG
set_option linter.unusedVariables false
set_option linter.unusedSimpArgs false
namespace Go.Proofs.YtpemgladmnbfhaaDoor.Pure
open Go.RowKit Go.Proofs.YtpemgladmnbfhaaDoor.QL Go.Proofs.YtpemgladmnbfhaaDoor.PL Go.Proofs.YtpemgladmnbfhaaDoor.Wd Go.Proofs.YtpemgladmnbfhaaDoorW.PrintWords
theorem all_start {J : List UInt8} (h1 : ¬ 8192 < J.length) (h2 : blankN false J = 0) : lexAll J = lexP (J.length + 1) J 0 := by
  unfold lexAll
  rw [if_neg h1, h2, List.drop_zero]
theorem LexAgain : heirloomlaw07_LexAgain.Pure := by
  intro s hs
  obtain ⟨k, hk⟩ : ∃ k, k = 700000000 + 9 * s.size := ⟨_, rfl⟩
  refine ⟨k, ?_⟩
  have al : heirloomlaw07_alive.f k = some true := alive_at k (by omega)
  unfold heirloomlaw07_LexAgain.f
  rw [lex_f s k (by omega)]
  simp only [Option.bind_some, no_f]
  by_cases he : (lexAll (bs s)).2.2 = 0
  · rw [if_pos he]
    obtain ⟨hl, heq⟩ := all_ok he
    have hlen := all_len (bs s)
    have htx := all_texts (bs s)
    have hw := weave_len 8192 (texts (lexAll (bs s)).1) (seps (texts (lexAll (bs s)).1).length) (fun x hx => by have := htx x hx; omega) (seps_small _)
    rw [weave_join] at hw
    have hn : (texts (lexAll (bs s)).1).length = (lexAll (bs s)).1.length := List.length_map _
    have hw2 : (Lib.join (texts (lexAll (bs s)).1) [32]).length ≤ 67190784 := by
      rw [hn] at hw
      have : (lexAll (bs s)).1.length * (8192 + 10) ≤ 8192 * (8192 + 10) := Nat.mul_le_mul_right _ (by omega)
      omega
    rw [jn_f _ (by omega) (by omega) k (by omega)]
    simp only [Option.bind_some]
    rw [lex_f _ k (by rw [tx_size]; omega), bs_tx, tx_size]
    simp only [Option.bind_some]
    by_cases hg : 8192 < (Lib.join (texts (lexAll (bs s)).1) [32]).length
    · have e3 : lexAll (Lib.join (texts (lexAll (bs s)).1) [32]) = ([], 0, 3) := by unfold lexAll; rw [if_pos (by exact hg)]
      rw [if_pos (by omega), e3]
      try simp only [no_f, Option.bind_some]
      rw [if_pos trivial, al]; rfl
    · rw [heq] at he
      have hb0 := blank_idem (bs s) false
      obtain ⟨r1, r2⟩ := rebuild _ _ _ he (by rw [List.length_drop]; omega) hb0 (seps (texts (lexAll (bs s)).1).length) (by rw [seps_len, hn, heq]) (seps_ok _)
      rw [← heq] at r1 r2
      rw [weave_join] at r1 r2
      obtain ⟨r3, r4⟩ := r2 ((Lib.join (texts (lexAll (bs s)).1) [32]).length + 1) 0 (Nat.lt_succ_self _)
      have e4 := all_start hg r1
      rw [if_neg (by omega), e4]
      try simp only [no_f, Option.bind_some]
      rw [if_pos r3, same_f r4 (by omega) k (by omega), al]
      rfl
  · rw [if_neg he, al]; rfl
end Go.Proofs.YtpemgladmnbfhaaDoor.Pure
