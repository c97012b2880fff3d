/- Plain facts on the places of keys and values, and what is held weakly. Conditions as told. -/
import Derived.Test.YtollnnbcfhnlfaaGA
set_option linter.unusedVariables false
set_option linter.unusedSimpArgs false
namespace Go.Proofs.Ytollnnbcfhnlfaa.Pure
open Go Go.RowKit Go.Proofs.Ytollnnbcfhnlfaa.QR Go.Proofs.Ytollnnbcfhnlfaa.Rg Go.Proofs.Ytollnnbcfhnlfaa.Jg Go.Proofs.YtollnnbcfhnlfaaW.PrintWords Go.Proofs.YtollnnbcfhnlfaaW.PrintLast Go.Proofs.YtollnnbcfhnlfaaW.PrintMore
theorem slots_key (L : Nat) (arr : Int) {q : Int × Int} (h : q ∈ slotsL L arr) : keyF L arr q.2 = q.1 ∧ (0 ≤ q.1 → keyF L arr q.1 = -2 ∧ 1 ≤ q.1 ∧ q.2 = q.1 + 1) := by
 have ha : sA L arr = min (L - 1) arr.toNat := rfl
 have hp : sP L arr = (L - (1 + sA L arr)) / 2 := rfl
 rcases List.mem_append.1 h with z | z
 ·rcases List.mem_append.1 z with y | y
  ·obtain ⟨j, hj, rfl⟩ := List.mem_map.1 y
   have := List.mem_range.1 hj
   refine ⟨?_, fun h => absurd (show (0 : Int) ≤ -1 from h) (by decide)⟩
   show keyF L arr (1 + (j : Int)) = -1
   unfold keyF
   rw [if_neg (by omega), if_pos (by omega)]
  ·obtain ⟨j, hj, rfl⟩ := List.mem_map.1 y
   have := List.mem_range.1 hj
   have hfirst : (if 0 < arr then 1 + arr else 1) = (1 + sA L arr : Int) := by split <;> omega
   refine ⟨?_, fun _ => ⟨?_, by show (1 : Int) ≤ 1 + sA L arr + 2 * j; omega, rfl⟩⟩
   ·show keyF L arr (1 + sA L arr + 2 * j + 1 : Int) = (1 + sA L arr + 2 * j : Int)
    unfold keyF
    rw [hfirst, if_neg (by omega), if_neg (by omega), if_pos (by omega)]
    omega
   ·show keyF L arr (1 + sA L arr + 2 * j : Int) = -2
    unfold keyF
    rw [hfirst, if_neg (by omega), if_neg (by omega), if_neg (by omega), if_neg (by omega)]
 ·unfold sl3 at z
  split at z
  ·obtain rfl := List.mem_singleton.1 z
   refine ⟨?_, fun h => absurd (show (0 : Int) ≤ -1 from h) (by decide)⟩
   show keyF L arr (1 + sA L arr + 2 * sP L arr : Int) = -1
   unfold keyF
   by_cases c : (1 + sA L arr + 2 * sP L arr : Int) ≤ arr
   ·rw [if_neg (by omega), if_pos c]
   ·have hfirst : (if 0 < arr then 1 + arr else 1) = (1 + sA L arr : Int) := by split <;> omega
    rw [hfirst, if_neg (by omega), if_neg c, if_neg (by omega), if_pos (by omega)]
  ·cases z
theorem weak_f (f0 f1 f2 : Int) (sl : List S40) (f4 : Int) : heirloomref11_Weak.f f0 f1 f2 sl f4 = some (weakF f0 f1) := by
 unfold heirloomref11_Weak.f weakF
 repeat' split
 all_goals first | rfl | omega | (congr 1; omega)
theorem weakly_f (th : List S43) (rt : List S40) (hl : th.length ≤ 1000000) (t n : Int) (k : Nat) (hk : 1 ≤ k) : heirloomref11_Weakly.f k th rt t n = some (weaklyF th t n) := by
 unfold heirloomref11_Weakly.f weaklyF
 by_cases h : t = 4
 ·rw [if_pos h, h]; rfl
 ·rw [if_neg h, robj th rt hl _ _ k hk, show (t != 4) = true from bne_iff_ne.mpr h]
  rfl
theorem key_bd (L : Nat) (arr i : Int) (h0 : 0 ≤ i) : keyF L arr i = -1 ∨ keyF L arr i = -2 ∨ (0 ≤ keyF L arr i ∧ keyF L arr i < L) := by
 unfold keyF
 by_cases h : i < 1 ∨ (L : Int) ≤ i
 ·rw [if_pos h]; omega
 ·rw [if_neg h]
  repeat' split
  all_goals omega
theorem wk_le (th : List S43) (x : Int) : wk th x ≤ 3 := by
 unfold wk weakF
 split <;> omega
theorem rdOf_nat (d : Bool) (l : List Bool) (i : Nat) (h : i < l.length) : rdOf d l (i : Int) = l[i] := by
 unfold rdOf
 rw [Int.toNat_natCast, List.getD_eq_getElem?_getD, List.getElem?_eq_getElem h]
 rfl
end Go.Proofs.Ytollnnbcfhnlfaa.Pure
