/- What is cleared, as a list: thing by thing, slot by slot; it stands in order. No condition. -/
import Derived.Test.YtollnnbcfhnlfaaPT0
set_option linter.unusedVariables false
set_option linter.unusedSimpArgs false
namespace Go.Proofs.Ytollnnbcfhnlfaa.Pure
open Go Go.RowKit Go.Proofs.Ytollnnbcfhnlfaa.QR Go.Proofs.Ytollnnbcfhnlfaa.Rg Go.Proofs.Ytollnnbcfhnlfaa.Jg Go.Proofs.YtollnnbcfhnlfaaW.PrintWords Go.Proofs.YtollnnbcfhnlfaaW.PrintLast Go.Proofs.YtollnnbcfhnlfaaW.PrintMore
theorem clearFs_app (th : List S43) (live first : List Bool) (i wv : Int) (sl : List S40) (l : List (Int × Int)) : ∀ cl : List S49, l.foldl (clearF th live first i wv sl) cl = cl ++ (l.filter (fun q => goneF th live first i wv sl q.1 q.2)).map (fun q => ⟨i + 1, q.2⟩) := by
 induction l with
 | nil => intro cl; simp
 | cons q l ih =>
  intro cl
  rw [List.foldl_cons, ih]
  unfold clearF
  by_cases h : goneF th live first i wv sl q.1 q.2 = true
  ·rw [if_pos h, List.filter_cons, if_pos h, List.map_cons, List.append_assoc]
   rfl
  ·rw [if_neg h, List.filter_cons, if_neg h]
def row1 (th : List S43) (live first : List Bool) (i : Nat) : List S49 :=
 if rdOf false live i = true ∧ weakF (rd_T43 th i).f0 (rd_T43 th i).f1 ≠ 0 then
  ((slotsL (rd_T43 th i).f3.length (rd_T43 th i).f2).filter (fun q => goneF th live first i (weakF (rd_T43 th i).f0 (rd_T43 th i).f1) (rd_T43 th i).f3 q.1 q.2)).map (fun q => ⟨(i : Int) + 1, q.2⟩)
 else []
theorem clear1_app (th : List S43) (live first : List Bool) (cl : List S49) (i : Nat) : clear1 th live first cl i = cl ++ row1 th live first i := by
 unfold clear1 row1
 split
 ·exact clearFs_app ..
 ·simp
theorem cleared_app (th : List S43) (live first : List Bool) : ∀ n, (List.range n).foldl (clear1 th live first) [] = (List.range n).flatMap (row1 th live first)
 | 0 => rfl
 | n + 1 => by
  rw [List.range_succ, List.foldl_append, cleared_app th live first n, List.flatMap_append]
  show clear1 th live first _ n = _
  rw [clear1_app]
  simp
theorem cleared_eq (th : List S43) (live first : List Bool) : clearedF th live first = (List.range th.length).flatMap (row1 th live first) := cleared_app th live first _
theorem slots_sorted (L : Nat) (arr : Int) : (slotsL L arr).Pairwise (fun p q => p.2 < q.2) := by
 unfold slotsL
 have ha : sA L arr = min (L - 1) arr.toNat := rfl
 have hp : sP L arr = (L - (1 + sA L arr)) / 2 := rfl
 rw [List.pairwise_append, List.pairwise_append]
 refine ⟨⟨?_, ?_, ?_⟩, ?_, ?_⟩
 ·exact List.Pairwise.map _ (R := fun a b => a < b) (fun a b h => by show (1 + (a : Int)) < 1 + b; omega) List.pairwise_lt_range
 ·exact List.Pairwise.map _ (R := fun a b => a < b) (fun a b h => by show (1 + (sA L arr : Int) + 2 * a + 1) < 1 + sA L arr + 2 * b + 1; omega) List.pairwise_lt_range
 ·intro p hp q hq
  obtain ⟨i, hi, rfl⟩ := List.mem_map.1 hp
  obtain ⟨j, hj, rfl⟩ := List.mem_map.1 hq
  have := List.mem_range.1 hi
  show (1 + (i : Int)) < 1 + sA L arr + 2 * j + 1
  omega
 ·unfold sl3
  split
  ·exact List.pairwise_singleton _ _
  ·exact List.Pairwise.nil
 ·intro p hp q hq
  unfold sl3 at hq
  split at hq
  ·obtain rfl := List.mem_singleton.1 hq
   rcases List.mem_append.1 hp with z | z
   ·obtain ⟨i, hi, rfl⟩ := List.mem_map.1 z
    have := List.mem_range.1 hi
    show (1 + (i : Int)) < 1 + sA L arr + 2 * sP L arr
    omega
   ·obtain ⟨i, hi, rfl⟩ := List.mem_map.1 z
    have := List.mem_range.1 hi
    show (1 + (sA L arr : Int) + 2 * i + 1) < 1 + sA L arr + 2 * sP L arr
    omega
  ·cases hq
def ltS (x y : S49) : Prop := x.f0 < y.f0 ∨ (x.f0 = y.f0 ∧ x.f1 < y.f1)
theorem row1_f0 (th : List S43) (live first : List Bool) (i : Nat) {x : S49} (h : x ∈ row1 th live first i) : x.f0 = (i : Int) + 1 := by
 unfold row1 at h
 split at h
 ·obtain ⟨q, _, rfl⟩ := List.mem_map.1 h
  rfl
 ·cases h
theorem cleared_sorted (th : List S43) (live first : List Bool) : (clearedF th live first).Pairwise ltS := by
 rw [cleared_eq, List.pairwise_flatMap]
 refine ⟨fun i _ => ?_, List.Pairwise.imp (fun {a b} h x hx y hy => ?_) List.pairwise_lt_range⟩
 ·unfold row1
  split
  ·exact List.Pairwise.map _ (R := fun p q => p.2 < q.2) (fun a b h => .inr ⟨rfl, h⟩) (List.Pairwise.filter _ (slots_sorted ..))
  ·exact List.Pairwise.nil
 ·left
  rw [row1_f0 th live first a hx, row1_f0 th live first b hy]
  omega
theorem rd49_get {cl : List S49} {i : Nat} (c : i < cl.length) : rd_T49 cl (i : Int) = cl[i] := by
 unfold rd_T49
 rw [Int.toNat_natCast, List.getD_eq_getElem?_getD, List.getElem?_eq_getElem c]
 rfl
theorem collect_ex (th : List S43) (rt : List S40) (hb : bnd th rt = true) : ∃ first live, reach_Collect.f th rt = some (live, pendF th first, clearedF th live first) ∧ strongC th rt [] = some first ∧ StrongR th rt [] first ∧ StrongR th rt (pendF th first) live := by
 obtain ⟨first, h1, h2⟩ := strongC_ex th rt []
 obtain ⟨live, h3, h4⟩ := strongC_ex th rt (pendF th first)
 refine ⟨first, live, ?_, h1, h2, h4⟩
 unfold reach_Collect.f
 rw [if_pos hb, h1, Option.bind_some, h3, Option.bind_some]
theorem cleared_len (th : List S43) (live first : List Bool) (hsl : ∀ t ∈ th, t.f3.length ≤ 1000) : (clearedF th live first).length ≤ 1000 * th.length := by
 have key : ∀ j, j ≤ th.length → ((List.range j).foldl (clear1 th live first) []).length ≤ 1000 * j := by
  intro j
  induction j with
  | zero => intro _; simp
  | succ j ih =>
   intro hj
   have h1 := ih (by omega)
   have h2 := clear1_len th live first ((List.range j).foldl (clear1 th live first) []) j (by omega) hsl
   rw [List.range_succ, List.foldl_append]
   show (clear1 th live first ((List.range j).foldl (clear1 th live first) []) j).length ≤ _
   omega
 exact key th.length (Nat.le_refl _)
end Go.Proofs.Ytollnnbcfhnlfaa.Pure
