/- A source that is cut at a token's beginning is cut into the tokens ahead and those from there on. For every source and every number. -/
import Derived.Test.YtpemgladmnbfhaaDoorPE
import Derived.Test.YtpemgladmnbfhaaDoorQLx16
set_option linter.unusedVariables false
set_option linter.unusedSimpArgs false
namespace Go.Proofs.YtpemgladmnbfhaaDoor.Pure
open Go.RowKit Go.Proofs.YtpemgladmnbfhaaDoor.QL Go.Proofs.YtpemgladmnbfhaaDoor.PL Go.Proofs.YtpemgladmnbfhaaDoor.Wd Go.Proofs.YtpemgladmnbfhaaDoorW.PrintWords
theorem LexParts : heirloomlaw07_LexParts.Pure := by
  intro s x hs hx
  refine ⟨9 * s.size + 10000 + 1, ?_⟩
  generalize hk : 9 * s.size + 10000 = k
  have al : heirloomlaw07_alive.f k = some true := alive_at k (by omega)
  have stop : ∀ l, heirloomlaw07_LexParts.j0 (k + 1) s x l true = some true := by
    intro l; rw [heirloomlaw07_LexParts.j0, if_pos rfl, al]; rfl
  unfold heirloomlaw07_LexParts.f
  rw [lex_f s (k + 1) (by omega)]
  simp only [Option.bind_some, no_f]
  by_cases he : (lexAll (bs s)).2.2 = 0
  · rw [if_pos he]
    by_cases h1 : x < 0
    · rw [if_pos h1]; exact stop _
    · rw [if_neg h1]
      by_cases h2 : x ≥ ((lexAll (bs s)).1.length : Int)
      · rw [decide_eq_true h2]; exact stop _
      · rw [decide_eq_false h2, heirloomlaw07_LexParts.j0, if_neg (by decide), if_pos (by omega), if_pos (by omega)]
        obtain ⟨i, rfl⟩ := Int.eq_ofNat_of_zero_le (Int.not_lt.1 h1)
        obtain ⟨hl, heq⟩ := all_ok he
        have hbl := bs_len s
        have hml := blankN_le (bs s) false
        rw [heq] at he
        have hil : i < (lexP ((bs s).length + 1) ((bs s).drop (blankN false (bs s))) (blankN false (bs s))).1.length := by rw [← heq]; omega
        obtain ⟨o, o1, o2, o3, o4, o5⟩ := parts _ _ _ he (by rw [List.length_drop]; omega) (blank_idem _ false) i hil
        rw [List.length_drop] at o1
        have hat : (rd_T35 (lexAll (bs s)).1 (i : Int)).f4 = ((blankN false (bs s) + o : Nat) : Int) := by rw [heq]; exact o2
        rw [hat, if_pos (by omega), if_pos (by omega), Int.toNat_natCast]
        have e1 : bs (s.extract 0 (blankN false (bs s) + o)) = (bs s).take (blankN false (bs s) + o) := by rw [bs_extract, List.drop_zero]; rfl
        have e2 : bs (s.extract (blankN false (bs s) + o) s.size) = (bs s).drop (blankN false (bs s) + o) := bs_from _ _
        have z1 : (s.extract 0 (blankN false (bs s) + o)).size ≤ s.size := by rw [ByteArray.size_extract]; omega
        have z2 : (s.extract (blankN false (bs s) + o) s.size).size ≤ s.size := by rw [ByteArray.size_extract]; omega
        rw [lex_f _ k (by omega), lex_f _ k (by omega), e1, e2]
        simp only [Option.bind_some]
        have hb1 : blankN false ((bs s).take (blankN false (bs s) + o)) = blankN false (bs s) := blank_take _ _ _ (by omega)
        have hd1 : ((bs s).take (blankN false (bs s) + o)).drop (blankN false (bs s)) = ((bs s).drop (blankN false (bs s))).take o := by rw [List.drop_take]; congr 1; omega
        have a1 : lexAll ((bs s).take (blankN false (bs s) + o)) = ((lexAll (bs s)).1.take i, 0, 0) := by
          unfold lexAll
          rw [if_neg (by rw [List.length_take]; omega), hb1, hd1, if_neg (by omega)]
          exact o5 _ (by rw [List.length_take, List.length_take, List.length_drop]; omega)
        have hd2 : (bs s).drop (blankN false (bs s) + o) = ((bs s).drop (blankN false (bs s))).drop o := by rw [List.drop_drop]
        have a2 := o4 (((bs s).drop (blankN false (bs s) + o)).length + 1) 0 (by rw [← hd2]; omega)
        have a3 : lexAll ((bs s).drop (blankN false (bs s) + o)) = lexP (((bs s).drop (blankN false (bs s) + o)).length + 1) (((bs s).drop (blankN false (bs s))).drop o) 0 := by
          have hz : blankN false ((bs s).drop (blankN false (bs s) + o)) = 0 := by rw [hd2]; exact o3
          unfold lexAll
          rw [if_neg (by rw [List.length_drop]; omega), hz, List.drop_zero, hd2]
        rw [a1, a3]
        simp only [no_f, Option.bind_some]
        rw [if_pos trivial, if_pos a2.1, if_pos (by omega), Int.toNat_natCast]
        have hlen := all_len (bs s)
        rw [same_f (rel_refl true _) (by rw [List.length_take]; omega) k (by rw [List.length_take]; omega)]
        simp only [Option.bind_some, if_true]
        have hr : RelL false (lexP (((bs s).drop (blankN false (bs s) + o)).length + 1) (((bs s).drop (blankN false (bs s))).drop o) 0).1 ((lexAll (bs s)).1.drop i) := by rw [heq]; exact a2.2
        have hrl := rel_len hr
        have h3 : ((lexAll (bs s)).1.drop i).length ≤ (lexAll (bs s)).1.length := by rw [List.length_drop]; omega
        rw [same_f hr (by omega) k (by omega), al]
        rfl
  · rw [if_neg he]; exact stop _
end Go.Proofs.YtpemgladmnbfhaaDoor.Pure
