/- lex.Join, in plain terms. -/
import Derived.Test.YtpemgladmnbfhaaDoorPF
import Derived.Test.YtpemgladmnbfhaaDoorQLx17
set_option linter.unusedVariables false
set_option linter.unusedSimpArgs false
namespace Go.Proofs.YtpemgladmnbfhaaDoor.PL
open Go.RowKit Go.Proofs.YtpemgladmnbfhaaDoor.QL Go.Proofs.YtpemgladmnbfhaaDoor.Wd Go.Proofs.YtpemgladmnbfhaaDoorW.PrintWords
theorem jn_l0 (l : List S35) (hl : l.length ≤ 1000000) (r : ByteArray) (hr : strings_Join.f (l.map (·.f1)) ⟨#[32]⟩ = some r) : ∀ (d i k : Nat), l.length - i = d → i ≤ l.length → d < k →
    lex_Join.l0 k ((l.take i).map (·.f1)) l (l.length : Int) (i : Int) = some r
  | 0, i, k, hd, hi, hk => by
    obtain ⟨k, rfl⟩ : ∃ m, k = m + 1 := ⟨k - 1, by omega⟩
    rw [lex_Join.l0, if_neg (by omega), List.take_of_length_le (by omega), hr]; rfl
  | d + 1, i, k, hd, hi, hk => by
    obtain ⟨k, rfl⟩ : ∃ m, k = m + 1 := ⟨k - 1, by omega⟩
    rw [lex_Join.l0, if_pos (by omega), if_pos (by omega), if_pos (by omega), if_pos (by rw [List.length_map, List.length_take]; omega), rd_getD l i (by omega), w64 (by omega)]
    have e : (l.take i).map (·.f1) ++ [l[i].f1] = (l.take (i + 1)).map (·.f1) := by rw [List.take_succ_eq_append_getElem (by omega), List.map_append]; rfl
    rw [e]
    exact jn_l0 l hl r hr d (i + 1) k (by omega) (by omega) (by omega)
theorem jn_f (l : List S35) (hl : l.length ≤ 1000000) (hz : (Lib.join (texts l) [32]).length ≤ 140737488355328) (k : Nat) (hk : l.length < k) : lex_Join.f k l = some (tx (Lib.join (texts l) [32])) := by
  unfold lex_Join.f
  refine jn_l0 l hl _ ?_ l.length 0 k rfl (Nat.zero_le _) hk
  have e : ((l.map (·.f1)).map fun x => x.data.toList) = texts l := by rw [List.map_map]; rfl
  unfold strings_Join.f
  rw [e]
  show (if _ ∧ (Lib.join (texts l) [32]).length ≤ _ then some (tx (Lib.join (texts l) [32])) else none) = _
  rw [if_pos ⟨by rw [List.length_map]; omega, hz⟩]
end Go.Proofs.YtpemgladmnbfhaaDoor.PL
