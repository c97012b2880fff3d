/- reach, plain: places of keys, and what is cleared. -/
import Derived.Test.YtollnnbcfhnlfaaG9
import Derived.Test.YtollnnbcfhnlfaaQRx4
set_option linter.unusedVariables false
set_option linter.unusedSimpArgs false
namespace Go.Proofs.Ytollnnbcfhnlfaa.Pure
open Go Go.RowKit Go.Proofs.Ytollnnbcfhnlfaa.QR Go.Proofs.Ytollnnbcfhnlfaa.Rg Go.Proofs.Ytollnnbcfhnlfaa.Jg Go.Proofs.YtollnnbcfhnlfaaW.PrintWords Go.Proofs.YtollnnbcfhnlfaaW.PrintLast Go.Proofs.YtollnnbcfhnlfaaW.PrintMore
theorem robj (th : List S43) (rt : List S40) (hl : th.length ≤ 1000000) (t n : Int) (k : Nat) (hk : 1 ≤ k) : heirloomref11_Object.f k th rt t n = some (objF th t n) := by
 obtain ⟨k, rfl⟩ : ∃ j, k = j + 1 := ⟨k - 1, by omega⟩
 unfold heirloomref11_Object.f objF
 by_cases h1 : t < 4
 ·rw [if_pos h1, if_pos (.inl h1), heirloomref11_Object.j0, if_pos rfl]
 ·rw [if_neg h1]
  by_cases h2 : t > 9
  ·rw [if_pos h2, if_pos (.inr (.inl h2)), heirloomref11_Object.j0, if_pos rfl]
  ·rw [if_neg h2]
   by_cases h3 : n < 1
   ·rw [if_pos h3, if_pos (.inr (.inr (.inl h3))), heirloomref11_Object.j0, if_pos rfl]
   ·rw [if_neg h3, heirloomref11_Object.j0]
    by_cases h4 : n > (th.length : Int)
    ·rw [if_pos (decide_eq_true h4), if_pos (.inr (.inr (.inr (.inl h4))))]
    ·rw [if_neg (by simpa using h4), w64 (by omega) (by omega), if_pos (by omega), if_pos (by omega)]
     by_cases h5 : (rd_T43 th (n - 1)).f0 = t
     ·rw [if_pos h5, if_neg (by rintro (z | z | z | z | z); all_goals first | omega | exact z h5)]
     ·rw [if_neg h5, if_pos (.inr (.inr (.inr (.inr h5))))]
def keyF (L : Nat) (arr i : Int) : Int :=
 if i < 1 ∨ (L : Int) ≤ i then -2 else if i ≤ arr then -1 else if (i - (if 0 < arr then 1 + arr else 1)) % 2 = 1 then i - 1 else if i = L - 1 then -1 else -2
theorem keyof_f (f0 f1 arr : Int) (sl : List S40) (f4 i : Int) (hL : sl.length ≤ 1000000) (k : Nat) (hk : 2 ≤ k) : heirloomref11_KeyOf.f k f0 f1 arr sl f4 i = some (keyF sl.length arr i) := by
 obtain ⟨k, rfl⟩ : ∃ j, k = j + 2 := ⟨k - 2, by omega⟩
 unfold heirloomref11_KeyOf.f keyF
 by_cases h1 : i < 1
 ·rw [if_pos h1, if_pos (.inl h1), heirloomref11_KeyOf.j0, if_pos rfl]
 ·rw [if_neg h1, heirloomref11_KeyOf.j0]
  by_cases h2 : i ≥ (sl.length : Int)
  ·rw [if_pos (decide_eq_true h2), if_pos (.inr h2)]
  ·rw [if_neg (by simpa using h2), if_neg (show ¬ (i < 1 ∨ (sl.length : Int) ≤ i) by omega)]
   by_cases h3 : i ≤ arr
   ·rw [if_pos h3, if_pos h3]
   ·rw [if_neg h3, if_neg h3]
    have fin : ∀ first : Int, 1 ≤ first → first ≤ i → heirloomref11_KeyOf.j1 (k + 1) i first f0 f1 arr sl f4 = some (if (i - first) % 2 = 1 then i - 1 else if i = sl.length - 1 then -1 else -2) := fun first a b => by
     rw [heirloomref11_KeyOf.j1, w64 (by omega) (by omega), w64 (by omega) (by omega), w64 (by omega) (by omega), Int.tmod_eq_emod_of_nonneg (by omega)]
     split
     ·rfl
     ·split <;> rfl
    by_cases h4 : arr > 0
    ·rw [if_pos h4, w64 (by omega) (by omega), fin _ (by omega) (by omega), if_pos h4]
    ·rw [if_neg h4, fin _ (by omega) (by omega), if_neg h4]
theorem slots_cover (L : Nat) (arr : Int) (i : Nat) (h1 : 1 ≤ i) (h2 : i < L) : ∃ q ∈ slotsL L arr, q.2 = (i : Int) ∨ (q.1 = (i : Int) ∧ q.2 = (i : Int) + 1 ∧ keyF L arr ((i : Int) + 1) = i) := by
 have ha : sA L arr = min (L - 1) arr.toNat := rfl
 have hp : sP L arr = (L - (1 + sA L arr)) / 2 := rfl
 by_cases c : i ≤ sA L arr
 ·refine ⟨(-1, (i : Int)), List.mem_append.2 (.inl (List.mem_append.2 (.inl ?_))), .inl rfl⟩
  exact List.mem_map.2 ⟨i - 1, List.mem_range.2 (by omega), by simp only [Prod.mk.injEq, true_and]; omega⟩
 ·obtain ⟨o, ho⟩ : ∃ o, i = 1 + sA L arr + o := ⟨i - (1 + sA L arr), by omega⟩
  by_cases c2 : o < 2 * sP L arr
  ·have hm : ((1 + sA L arr + 2 * ((o / 2 : Nat) : Int) : Int), (1 + sA L arr + 2 * ((o / 2 : Nat) : Int) + 1 : Int)) ∈ slotsL L arr :=
    List.mem_append.2 (.inl (List.mem_append.2 (.inr (List.mem_map.2 ⟨o / 2, List.mem_range.2 (by omega), rfl⟩))))
   refine ⟨_, hm, ?_⟩
   by_cases c3 : o % 2 = 1
   ·exact .inl (by show (1 + sA L arr + 2 * ((o / 2 : Nat) : Int) + 1 : Int) = i; omega)
   ·refine .inr ⟨by show (1 + sA L arr + 2 * ((o / 2 : Nat) : Int) : Int) = i; omega, by show (1 + sA L arr + 2 * ((o / 2 : Nat) : Int) + 1 : Int) = i + 1; omega, ?_⟩
    unfold keyF
    have hfirst : (if 0 < arr then 1 + arr else 1) = (1 + sA L arr : Int) := by split <;> omega
    rw [hfirst, if_neg (by omega), if_neg (by omega), if_pos (by omega)]
    omega
  ·refine ⟨(-1, (i : Int)), List.mem_append.2 (.inr ?_), .inl rfl⟩
   unfold sl3
   rw [if_pos (by omega)]
   exact List.mem_singleton.2 (by simp only [Prod.mk.injEq, true_and]; omega)
theorem slots_bd (L : Nat) (arr : Int) {q : Int × Int} (h : q ∈ slotsL L arr) : -1 ≤ q.1 ∧ q.1 < L ∧ 1 ≤ q.2 ∧ q.2 < L := by
 have ha : sA L arr = min (L - 1) arr.toNat := rfl
 have hp : sP L arr = (L - (1 + sA L arr)) / 2 := rfl
 rcases List.mem_append.1 h with z | z
 ·rcases List.mem_append.1 z with y | y
  ·obtain ⟨j, hj, rfl⟩ := List.mem_map.1 y
   have := List.mem_range.1 hj
   exact ⟨by omega, by omega, by omega, by omega⟩
  ·obtain ⟨j, hj, rfl⟩ := List.mem_map.1 y
   have := List.mem_range.1 hj
   exact ⟨by omega, by omega, by omega, by omega⟩
 ·unfold sl3 at z
  split at z
  ·obtain rfl := List.mem_singleton.1 z
   exact ⟨by omega, by omega, by omega, by omega⟩
  ·cases z
theorem mem_clearFs (th : List S43) (live first : List Bool) (i wv : Int) (sl : List S40) (l : List (Int × Int)) (x : S49) : ∀ cl : List S49, x ∈ l.foldl (clearF th live first i wv sl) cl ↔ x ∈ cl ∨ ∃ q ∈ l, goneF th live first i wv sl q.1 q.2 = true ∧ x = ⟨i + 1, q.2⟩ := by
 induction l with
 | nil => intro cl; simp
 | cons q l ih =>
  intro cl
  rw [List.foldl_cons, ih]
  unfold clearF
  constructor
  ·rintro (z | ⟨p, hp, g, e⟩)
   ·split at z
    ·rename_i hg
     rcases List.mem_append.1 z with y | y
     ·exact .inl y
     ·exact .inr ⟨q, List.mem_cons_self .., hg, List.mem_singleton.1 y⟩
    ·exact .inl z
   ·exact .inr ⟨p, List.mem_cons_of_mem _ hp, g, e⟩
  ·rintro (z | ⟨p, hp, g, e⟩)
   ·left
    split
    ·exact List.mem_append.2 (.inl z)
    ·exact z
   ·rcases List.mem_cons.1 hp with y | y
    ·subst y
     left
     rw [if_pos g]
     exact List.mem_append.2 (.inr (List.mem_singleton.2 e))
    ·exact .inr ⟨p, y, g, e⟩
theorem mem_clear1 (th : List S43) (live first : List Bool) (l : List Nat) (x : S49) : ∀ cl : List S49, x ∈ l.foldl (clear1 th live first) cl ↔ x ∈ cl ∨ ∃ i ∈ l, (rdOf false live i = true ∧ weakF (rd_T43 th i).f0 (rd_T43 th i).f1 ≠ 0) ∧ ∃ q ∈ slotsL (rd_T43 th i).f3.length (rd_T43 th i).f2, goneF th live first i (weakF (rd_T43 th i).f0 (rd_T43 th i).f1) (rd_T43 th i).f3 q.1 q.2 = true ∧ x = ⟨(i : Int) + 1, q.2⟩ := by
 induction l with
 | nil => intro cl; simp
 | cons i l ih =>
  intro cl
  rw [List.foldl_cons, ih]
  have e : x ∈ clear1 th live first cl i ↔ x ∈ cl ∨ ((rdOf false live i = true ∧ weakF (rd_T43 th i).f0 (rd_T43 th i).f1 ≠ 0) ∧ ∃ q ∈ slotsL (rd_T43 th i).f3.length (rd_T43 th i).f2, goneF th live first i (weakF (rd_T43 th i).f0 (rd_T43 th i).f1) (rd_T43 th i).f3 q.1 q.2 = true ∧ x = ⟨(i : Int) + 1, q.2⟩) := by
   unfold clear1
   split
   ·rename_i hc
    rw [mem_clearFs]
    exact ⟨fun z => z.imp id (fun y => ⟨hc, y⟩), fun z => z.imp id (fun y => y.2)⟩
   ·rename_i hc
    exact ⟨.inl, fun z => z.elim id (fun y => absurd y.1 hc)⟩
  rw [e]
  constructor
  ·rintro ((z | z) | ⟨j, hj, z⟩)
   ·exact .inl z
   ·exact .inr ⟨i, List.mem_cons_self .., z⟩
   ·exact .inr ⟨j, List.mem_cons_of_mem _ hj, z⟩
  ·rintro (z | ⟨j, hj, z⟩)
   ·exact .inl (.inl z)
   ·rcases List.mem_cons.1 hj with y | y
    ·subst y; exact .inl (.inr z)
    ·exact .inr ⟨j, y, z⟩
theorem mem_cleared (th : List S43) (live first : List Bool) (x : S49) : x ∈ clearedF th live first ↔ ∃ i : Nat, i < th.length ∧ (rdOf false live i = true ∧ weakF (rd_T43 th i).f0 (rd_T43 th i).f1 ≠ 0) ∧ ∃ q ∈ slotsL (rd_T43 th i).f3.length (rd_T43 th i).f2, goneF th live first i (weakF (rd_T43 th i).f0 (rd_T43 th i).f1) (rd_T43 th i).f3 q.1 q.2 = true ∧ x = ⟨(i : Int) + 1, q.2⟩ := by
 unfold clearedF
 rw [mem_clear1]
 constructor
 ·rintro (z | ⟨i, hi, z⟩)
  ·cases z
  ·exact ⟨i, List.mem_range.1 hi, z⟩
 ·rintro ⟨i, hi, z⟩
  exact .inr ⟨i, List.mem_range.2 hi, z⟩
end Go.Proofs.Ytollnnbcfhnlfaa.Pure
