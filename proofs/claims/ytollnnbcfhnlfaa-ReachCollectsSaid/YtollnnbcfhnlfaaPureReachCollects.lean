/- What a collection of any graph keeps, finalises and clears is what the document says: the plain law. For every graph. -/
import Derived.Test.YtollnnbcfhnlfaaPU
import Derived.Test.YtollnnbcfhnlfaaPV
import Derived.Test.YtollnnbcfhnlfaaPQ
import Derived.Test.YtollnnbcfhnlfaaQRx13
set_option linter.unusedVariables false
set_option linter.unusedSimpArgs false
namespace Go.Proofs.Ytollnnbcfhnlfaa.Pure
open Go Go.RowKit Go.Proofs.Ytollnnbcfhnlfaa.QR Go.Proofs.Ytollnnbcfhnlfaa.Rg Go.Proofs.Ytollnnbcfhnlfaa.Jg Go.Proofs.YtollnnbcfhnlfaaW.PrintWords Go.Proofs.YtollnnbcfhnlfaaW.PrintLast Go.Proofs.YtollnnbcfhnlfaaW.PrintMore
theorem sorted_ext {α : Type} {lt : α → α → Prop} (asy : ∀ a b, lt a b → ¬ lt b a) : ∀ {l m : List α}, l.Pairwise lt → m.Pairwise lt → (∀ x, x ∈ l ↔ x ∈ m) → l = m
 | [], [], _, _, _ => rfl
 | [], b :: m, _, _, h => absurd ((h b).2 List.mem_cons_self) List.not_mem_nil
 | a :: l, [], _, _, h => absurd ((h a).1 List.mem_cons_self) List.not_mem_nil
 | a :: l, b :: m, hl, hm, h => by
  obtain ⟨hl1, hl2⟩ := List.pairwise_cons.1 hl
  obtain ⟨hm1, hm2⟩ := List.pairwise_cons.1 hm
  have e : a = b := by
   rcases List.mem_cons.1 ((h a).1 List.mem_cons_self) with e | ha
   ·exact e
   ·rcases List.mem_cons.1 ((h b).2 List.mem_cons_self) with e | hb
    ·exact e.symm
    ·exact absurd (hl1 b hb) (asy _ _ (hm1 a ha))
  subst e
  have e2 : l = m := sorted_ext asy hl2 hm2 (fun x => ⟨fun hx => by
   rcases List.mem_cons.1 ((h x).1 (List.mem_cons_of_mem _ hx)) with e | hx'
   ·subst e; exact absurd (hl1 _ hx) (asy _ _ (hl1 _ hx))
   ·exact hx', fun hx => by
   rcases List.mem_cons.1 ((h x).2 (List.mem_cons_of_mem _ hx)) with e | hx'
   ·subst e; exact absurd (hm1 _ hx) (asy _ _ (hm1 _ hx))
   ·exact hx'⟩)
  rw [e2]
def slotK (L : Nat) (arr : Int) : List (Int × Int) := ((List.range' 1 (L - 1)).filter (fun s : Nat => keyF L arr (s : Int) != -2)).map (fun s : Nat => (keyF L arr (s : Int), (s : Int)))
theorem slots_eq (L : Nat) (arr : Int) : slotsL L arr = slotK L arr := by
 refine sorted_ext (lt := fun p q : Int × Int => p.2 < q.2) (fun a b h1 h2 => by omega) (slots_sorted L arr) ?_ (fun q => ⟨fun h => ?_, fun h => ?_⟩)
 ·exact List.Pairwise.map _ (R := fun a b : Nat => a < b) (fun a b h => by show (a : Int) < (b : Int); omega) (List.Pairwise.filter _ List.pairwise_lt_range')
 ·obtain ⟨b1, b2, b3, b4⟩ := slots_bd L arr h
  obtain ⟨k1, _⟩ := slots_key L arr h
  refine List.mem_map.2 ⟨q.2.toNat, List.mem_filter.2 ⟨List.mem_range'_1.2 (by omega), ?_⟩, ?_⟩
  ·rw [Int.toNat_of_nonneg (by omega), k1]
   exact bne_iff_ne.mpr (by omega)
  ·rw [Int.toNat_of_nonneg (by omega), k1]
 ·obtain ⟨s, hs, rfl⟩ := List.mem_map.1 h
  obtain ⟨hs1, hs2⟩ := List.mem_filter.1 hs
  have hs3 := List.mem_range'_1.1 hs1
  obtain ⟨q, hq, hc⟩ := slots_cover L arr s (by omega) (by omega)
  obtain ⟨k1, k2⟩ := slots_key L arr hq
  rcases hc with hc | ⟨c1, c2, _⟩
  ·have : q = (keyF L arr (s : Int), (s : Int)) := by rw [← hc, k1]
   rwa [← this]
  ·have := (k2 (by omega)).1
   rw [c1] at this
   exact absurd this (bne_iff_ne.mp hs2)
/-- is the slot s of the thing i cleared? -/
def clearP (th : List S43) (live first : List Bool) (i : Nat) (w : Int) (sl : List S40) (arr : Int) (s : Nat) : Bool := keyF sl.length arr (s : Int) != -2 && goneF th live first i w sl (keyF sl.length arr (s : Int)) (s : Int)
theorem row1_eq (th : List S43) (live first : List Bool) (i : Nat) : row1 th live first i = if rdOf false live i = true ∧ weakF (rd_T43 th i).f0 (rd_T43 th i).f1 ≠ 0 then ((List.range' 1 ((rd_T43 th i).f3.length - 1)).filter (clearP th live first i (weakF (rd_T43 th i).f0 (rd_T43 th i).f1) (rd_T43 th i).f3 (rd_T43 th i).f2)).map (fun s : Nat => (⟨(i : Int) + 1, (s : Int)⟩ : S49)) else [] := by
 unfold row1
 congr 1
 rw [slots_eq, slotK, List.filter_map, List.map_map, List.filter_filter]
 congr 1
 refine List.filter_congr (fun s _ => ?_)
 rw [Bool.and_comm]
 rfl
theorem obj_pos {th : List S43} {t n : Int} (h : weaklyF th t n = true) : 1 ≤ objF th t n ∧ objF th t n ≤ th.length := by
 unfold weaklyF at h
 simp only [Bool.and_eq_true, decide_eq_true_eq] at h
 have h := h.2
 unfold objF at h ⊢
 split at h
 ·omega
 ·rename_i c; rw [if_neg c]; omega
section
variable {th : List S43} {rt : List S40} {first live : List Bool} (hl : th.length ≤ 1000) (h1 : first.length = th.length) (h2 : live.length = th.length) {i : Nat} (hi : i < th.length) {f0 f1 f2 : Int} {sl : List S40} {f4 : Int} (hsl : sl.length ≤ 1000) {w : Int} {lv : List Bool} {pn : List Int} {r : List Bool × List Int × List S49}
include hl h1 h2 hi hsl
theorem col_j5 {s : Nat} (hs : s < sl.length) {cl : List S49} (hcl : cl.length < 8796093022208) (b c : Bool)
  (HK : ∃ K, ∀ k, K ≤ k → heirloomref11_Collect.l1 k first live (i : Int) w ((s : Int) + 1) th rt lv pn (if c || b then cl ++ [⟨(i : Int) + 1, (s : Int)⟩] else cl) f0 f1 f2 sl f4 = some r) :
  ∃ K, ∀ k, K ≤ k → heirloomref11_Collect.j5 k first live (i : Int) w (s : Int) b c th rt lv pn cl f0 f1 f2 sl f4 = some r := by
 obtain ⟨K, HK⟩ := HK
 refine ⟨K + 1, fun k hk => ?_⟩
 obtain ⟨k, rfl⟩ : ∃ j, k = j + 1 := ⟨k - 1, by omega⟩
 rw [heirloomref11_Collect.j5, w64 (x := (s : Int) + 1) (by omega) (by omega), w64 (x := (i : Int) + 1) (by omega) (by omega)]
 have h := HK k (by omega)
 rcases c with _ | _
 ·rw [if_neg (by decide)]
  rcases b with _ | _
  ·rw [if_neg (by decide)]; exact h
  ·rw [if_pos rfl, if_pos hcl]; exact h
 ·rw [if_pos rfl, if_pos hcl]; exact h
theorem col_j4 {s : Nat} (hs : s < sl.length) {cl : List S49} (hcl : cl.length < 8796093022208) (key : Int) (hkey : key < sl.length) (b : Bool)
  (HK : ∃ K, ∀ k, K ≤ k → heirloomref11_Collect.l1 k first live (i : Int) w ((s : Int) + 1) th rt lv pn (if (decide (0 ≤ key) && w != 2 && weaklyF th (rd_T40 sl key).f0 (rd_T40 sl key).f1 && !rdOf false live (objF th (rd_T40 sl key).f0 (rd_T40 sl key).f1 - 1)) || b then cl ++ [⟨(i : Int) + 1, (s : Int)⟩] else cl) f0 f1 f2 sl f4 = some r) :
  ∃ K, ∀ k, K ≤ k → heirloomref11_Collect.j4 k first live (i : Int) w (s : Int) key b th rt lv pn cl f0 f1 f2 sl f4 = some r := by
 obtain ⟨K, H⟩ := col_j5 hl h1 h2 hi hsl hs hcl b _ HK
 refine ⟨K + 3, fun k hk => ?_⟩
 obtain ⟨k, rfl⟩ : ∃ j, k = j + 1 := ⟨k - 1, by omega⟩
 have h := H k (by omega)
 rw [heirloomref11_Collect.j4]
 by_cases c1 : w = 2
 ·rw [if_pos c1]
  rw [show (w != 2) = false from bne_eq_false_iff_eq.mpr c1, Bool.and_false, Bool.false_and, Bool.false_and] at h
  exact h
 ·rw [if_neg c1]
  rw [show (w != 2) = true from bne_iff_ne.mpr c1, Bool.and_true] at h
  by_cases c2 : key ≥ 0
  ·rw [if_pos c2, if_pos c2, if_pos hkey, weakly_f th rt (by omega) _ _ k (by omega), Option.bind_some]
   rw [decide_eq_true (show 0 ≤ key from c2), Bool.true_and] at h
   rcases c3 : weaklyF th (rd_T40 sl key).f0 (rd_T40 sl key).f1 with _ | _
   ·rw [if_neg (by decide)]
    rw [c3, Bool.false_and] at h
    exact h
   ·have o := obj_pos c3
    rw [if_pos rfl, robj th rt (by omega) _ _ k (by omega), Option.bind_some, w64 (by omega) (by omega), if_pos (by omega), if_pos (by omega)]
    rw [c3, Bool.true_and] at h
    exact h
  ·rw [if_neg c2]
   rw [decide_eq_false (show ¬ 0 ≤ key from c2), Bool.false_and, Bool.false_and] at h
   exact h
theorem col_j2 {s : Nat} (hs1 : 1 ≤ s) (hs : s < sl.length) (hw : 1 ≤ w) {cl : List S49} (hcl : cl.length < 8796093022208)
  (HK : ∃ K, ∀ k, K ≤ k → heirloomref11_Collect.l1 k first live (i : Int) w ((s : Int) + 1) th rt lv pn (if clearP th live first i w sl f2 s then cl ++ [⟨(i : Int) + 1, (s : Int)⟩] else cl) f0 f1 f2 sl f4 = some r) :
  ∃ K, ∀ k, K ≤ k → heirloomref11_Collect.j2 k first live (i : Int) w (s : Int) true th rt lv pn cl f0 f1 f2 sl f4 = some r := by
 unfold clearP at HK
 by_cases c0 : keyF sl.length f2 (s : Int) = -2
 ·obtain ⟨K, H⟩ := HK
  refine ⟨K + 3, fun k hk => ?_⟩
  obtain ⟨k, rfl⟩ : ∃ j, k = j + 1 := ⟨k - 1, by omega⟩
  have h := H k (by omega)
  rw [heirloomref11_Collect.j2, if_pos rfl, keyof_f _ _ _ _ _ _ (by omega) k (by omega), Option.bind_some, if_pos c0, w64 (by omega) (by omega)]
  rw [c0] at h
  exact h
 ·obtain ⟨key, hkey⟩ : ∃ x, keyF sl.length f2 (s : Int) = x := ⟨_, rfl⟩
  rw [hkey] at c0 HK
  have kl : key < sl.length := by
   unfold keyF at hkey
   split at hkey
   ·omega
   ·split at hkey
    ·omega
    ·split at hkey
     ·omega
     ·split at hkey <;> omega
  rw [show (key != -2) = true from bne_iff_ne.mpr c0, Bool.true_and] at HK
  unfold goneF at HK
  rw [Bool.or_comm] at HK
  obtain ⟨K, H⟩ := col_j4 hl h1 h2 hi hsl hs hcl key kl _ HK
  refine ⟨K + 6, fun k hk => ?_⟩
  obtain ⟨k, rfl⟩ : ∃ j, k = j + 2 := ⟨k - 2, by omega⟩
  have h := H k (by omega)
  rw [heirloomref11_Collect.j2, if_pos rfl, keyof_f _ _ _ _ _ _ (by omega) (k + 1) (by omega), Option.bind_some, hkey, if_neg c0]
  by_cases c1 : w ≥ 2
  ·rw [if_pos c1, if_pos (by omega), if_pos (by omega), weakly_f th rt (by omega) _ _ (k + 1) (by omega), Option.bind_some, heirloomref11_Collect.j3]
   rw [show (w != 1) = true from bne_iff_ne.mpr (by omega), Bool.true_and] at h
   rcases c3 : weaklyF th (rd_T40 sl (s : Int)).f0 (rd_T40 sl (s : Int)).f1 with _ | _
   ·rw [if_neg (by decide)]
    rw [c3, Bool.false_and] at h
    exact h
   ·have o := obj_pos c3
    rw [c3, Bool.true_and] at h
    rw [if_pos rfl, if_pos (by omega), if_pos (by omega), robj th rt (by omega) _ _ k (by omega), Option.bind_some, w64 (by omega) (by omega), if_pos (by omega), if_pos (by omega)]
    rcases c4 : rdOf false live (objF th (rd_T40 sl (s : Int)).f0 (rd_T40 sl (s : Int)).f1 - 1) with _ | _
    ·rw [if_neg (by decide)]
     rw [c4, Bool.not_false, Bool.true_or] at h
     exact h
    ·rw [if_pos rfl, if_pos (by omega), if_pos (by omega)]
     rw [c4, Bool.not_true, Bool.false_or] at h
     rcases c5 : rdOf false first (i : Int) with _ | _
     ·rw [if_neg (by decide)]
      rw [c5, Bool.false_and] at h
      exact h
     ·rw [if_pos rfl, if_pos (by omega)]
      rw [c5, Bool.true_and] at h
      exact h
  ·rw [if_neg c1, heirloomref11_Collect.j3, if_neg (by decide)]
   rw [show (w != 1) = false from bne_eq_false_iff_eq.mpr (by omega), Bool.false_and, Bool.false_and] at h
   exact h
theorem col_l1 (hw : 0 ≤ w) (K0 : List S49 → Prop) :
  ∀ (d s : Nat) (cl : List S49), sl.length - s = d → 1 ≤ s → cl.length + d < 8796093022208 →
   (∃ K, ∀ k, K ≤ k → heirloomref11_Collect.l0 k first live ((i : Int) + 1) th rt lv pn (cl ++ if rdOf false live i = true ∧ w ≠ 0 then ((List.range' s d).filter (clearP th live first i w sl f2)).map (fun s : Nat => (⟨(i : Int) + 1, (s : Int)⟩ : S49)) else []) = some r) →
   ∃ K, ∀ k, K ≤ k → heirloomref11_Collect.l1 k first live (i : Int) w (s : Int) th rt lv pn cl f0 f1 f2 sl f4 = some r
 | d, s, cl, hd, hs1, hcl, HK => by
  have out : (cl ++ (if rdOf false live i = true ∧ w ≠ 0 then ((List.range' s d).filter (clearP th live first i w sl f2)).map (fun s : Nat => (⟨(i : Int) + 1, (s : Int)⟩ : S49)) else []) = cl) → ∃ K, ∀ k, K ≤ k → heirloomref11_Collect.j2 k first live (i : Int) w (s : Int) false th rt lv pn cl f0 f1 f2 sl f4 = some r := by
   intro e
   rw [e] at HK
   obtain ⟨K, H⟩ := HK
   refine ⟨K + 1, fun k hk => ?_⟩
   obtain ⟨k, rfl⟩ : ∃ j, k = j + 1 := ⟨k - 1, by omega⟩
   rw [heirloomref11_Collect.j2, if_neg (by decide), w64 (by omega) (by omega)]
   exact H k (by omega)
  have go : ∀ b : Bool, (b = (rdOf false live (i : Int) && (decide (w > 0) && decide ((s : Int) < (sl.length : Int))))) → (∃ K, ∀ k, K ≤ k → heirloomref11_Collect.j2 k first live (i : Int) w (s : Int) b th rt lv pn cl f0 f1 f2 sl f4 = some r) → ∃ K, ∀ k, K ≤ k → heirloomref11_Collect.l1 k first live (i : Int) w (s : Int) th rt lv pn cl f0 f1 f2 sl f4 = some r := by
   rintro b hb ⟨K, H⟩
   refine ⟨K + 1, fun k hk => ?_⟩
   obtain ⟨k, rfl⟩ : ∃ j, k = j + 1 := ⟨k - 1, by omega⟩
   have h := H k (by omega)
   rw [heirloomref11_Collect.l1, if_pos (by omega), if_pos (by omega)]
   rcases c1 : rdOf false live (i : Int) with _ | _
   ·rw [c1, Bool.false_and] at hb
    subst hb
    rw [if_neg (by decide)]
    exact h
   ·rw [c1, Bool.true_and] at hb
    rw [if_pos rfl]
    by_cases c2 : w > 0
    ·rw [decide_eq_true c2, Bool.true_and] at hb
     subst hb
     rw [if_pos c2]
     exact h
    ·rw [decide_eq_false c2, Bool.false_and] at hb
     subst hb
     rw [if_neg c2]
     exact h
  by_cases cl1 : rdOf false live (i : Int) = true ∧ w ≠ 0
  ·by_cases cs : s < sl.length
   ·refine go true (by rw [cl1.1, decide_eq_true (show w > 0 by omega), decide_eq_true (show (s : Int) < (sl.length : Int) by omega)]; rfl) ?_
    refine col_j2 hl h1 h2 hi hsl hs1 cs (by omega) (by omega) ?_
    have := col_l1 hw K0 (d - 1) (s + 1) (if clearP th live first i w sl f2 s then cl ++ [⟨(i : Int) + 1, (s : Int)⟩] else cl) (by omega) (by omega) (by
     split
     ·rw [List.length_append, List.length_singleton]; omega
     ·omega) (by
     rw [if_pos cl1] at HK ⊢
     obtain ⟨d, rfl⟩ : ∃ j, d = j + 1 := ⟨d - 1, by omega⟩
     rw [List.range'_succ, List.filter_cons] at HK
     rw [Nat.add_sub_cancel]
     by_cases cp : clearP th live first i w sl f2 s = true
     ·rw [if_pos cp, List.map_cons] at HK
      rw [if_pos cp, List.append_assoc]
      exact HK
     ·rw [if_neg cp] at HK
      rw [if_neg cp]
      exact HK)
    rwa [show ((s + 1 : Nat) : Int) = (s : Int) + 1 by omega] at this
   ·refine go false (by rw [decide_eq_false (show ¬ (s : Int) < (sl.length : Int) by omega), Bool.and_false, Bool.and_false]) (out ?_)
    rw [show d = 0 by omega]
    simp
  ·refine go false ?_ (out ?_)
   ·by_cases c1 : rdOf false live (i : Int) = true
    ·rw [decide_eq_false (show ¬ w > 0 by have : ¬ w ≠ 0 := fun z => cl1 ⟨c1, z⟩; omega), Bool.false_and, Bool.and_false]
    ·rw [Bool.eq_false_iff.2 c1, Bool.false_and]
   ·rw [if_neg cl1, List.append_nil]
 termination_by d => d
end
theorem weak_nonneg (a b : Int) : 0 ≤ weakF a b := by
 unfold weakF
 split <;> omega
theorem row1_len (th : List S43) (live first : List Bool) (i : Nat) : (row1 th live first i).length ≤ (rd_T43 th i).f3.length := by
 rw [row1_eq]
 split
 ·rw [List.length_map]
  refine Nat.le_trans (List.length_filter_le _ _) ?_
  rw [List.length_range']
  omega
 ·exact Nat.zero_le _
theorem col_l0 {th : List S43} {rt : List S40} {first live : List Bool} (hl : th.length ≤ 1000) (hs : ∀ t ∈ th, t.f3.length ≤ 1000) (h1 : first.length = th.length) (h2 : live.length = th.length) {lv : List Bool} {pn : List Int} :
  ∀ (d i : Nat) (cl : List S49), th.length - i = d → i ≤ th.length → cl.length ≤ 1000 * i →
   ∃ K, ∀ k, K ≤ k → heirloomref11_Collect.l0 k first live (i : Int) th rt lv pn cl = some (lv, pn, cl ++ (List.range' i d).flatMap (row1 th live first))
 | d, i, cl, hd, hi, hcl => by
  by_cases c : i < th.length
  ·obtain ⟨d, rfl⟩ : ∃ j, d = j + 1 := ⟨d - 1, by omega⟩
   have hr : rd_T43 th (i : Int) = th[i] := rd43_get c
   have hlen : (rd_T43 th (i : Int)).f3.length ≤ 1000 := by rw [hr]; exact hs _ (List.getElem_mem c)
   have rl := row1_len th live first i
   obtain ⟨K, H⟩ := col_l0 hl hs h1 h2 (lv := lv) (pn := pn) (rt := rt) d (i + 1) (cl ++ row1 th live first i) (by omega) (by omega) (by rw [List.length_append]; omega)
   obtain ⟨K1, H1⟩ := col_l1 (th := th) (rt := rt) (first := first) (live := live) hl h1 h2 c (f0 := (rd_T43 th (i : Int)).f0) (f1 := (rd_T43 th (i : Int)).f1) (f2 := (rd_T43 th (i : Int)).f2) (sl := (rd_T43 th (i : Int)).f3) (f4 := (rd_T43 th (i : Int)).f4) hlen (w := weakF (rd_T43 th (i : Int)).f0 (rd_T43 th (i : Int)).f1) (lv := lv) (pn := pn) (r := (lv, pn, cl ++ (List.range' i (d + 1)).flatMap (row1 th live first))) (weak_nonneg _ _) (fun _ => True) ((rd_T43 th (i : Int)).f3.length - 1) 1 cl rfl (Nat.le_refl _) (by omega) ⟨K, fun k hk => by
    have e := H k hk
    rw [row1_eq, List.append_assoc] at e
    rw [List.range'_succ, List.flatMap_cons, row1_eq]
    exact e⟩
   refine ⟨K1 + 1, fun k hk => ?_⟩
   obtain ⟨k, rfl⟩ : ∃ j, k = j + 1 := ⟨k - 1, by omega⟩
   rw [heirloomref11_Collect.l0, if_pos (by omega), if_pos (by omega), weak_f, Option.bind_some]
   exact H1 k (by omega)
  ·refine ⟨1, fun k hk => ?_⟩
   obtain ⟨k, rfl⟩ : ∃ j, k = j + 1 := ⟨k - 1, by omega⟩
   rw [heirloomref11_Collect.l0, if_neg (by omega), show d = 0 by omega]
   simp
 termination_by d => d
theorem rcollect (th : List S43) (rt : List S40) (hl : th.length ≤ 1000) (hs : ∀ t ∈ th, t.f3.length ≤ 1000) (hrt : rt.length ≤ 1000) {first live : List Bool} (hF : StrongR th rt [] first) (hL : StrongR th rt (pendF th first) live) :
  ∃ K, ∀ k, K ≤ k → heirloomref11_Collect.f k th rt = some (live, pendF th first, clearedF th live first) := by
 obtain ⟨K1, H1⟩ := rstrong th rt hl hs hrt [] (by simp) hF
 obtain ⟨K2, H2⟩ := rpend th rt first hl hF.len
 obtain ⟨K3, H3⟩ := rstrong th rt hl hs hrt (pendF th first) (by have := pend_len th first; omega) hL
 obtain ⟨K4, H4⟩ := col_l0 (th := th) (rt := rt) (first := first) (live := live) hl hs hF.len hL.len (lv := live) (pn := pendF th first) _ 0 [] rfl (Nat.zero_le _) (Nat.zero_le _)
 refine ⟨K1 + K2 + K3 + K4, fun k hk => ?_⟩
 unfold heirloomref11_Collect.f
 have h4 := H4 k (by omega)
 rw [H1 k (by omega), Option.bind_some, H2 k (by omega), Option.bind_some, H3 k (by omega), Option.bind_some]
 rw [cleared_eq, List.range_eq_range']
 exact h4
theorem same_l2 (a : List Bool) (b : List Int) (c : List S49) (hc : c.length ≤ 1000000) : ∀ (d i : Nat), c.length - i = d → ∃ K, ∀ k, K ≤ k → heirloomref11_Same.l2 k (i : Int) a b c a b c = some true
 | d, i, hd => by
  by_cases h : i < c.length
  ·obtain ⟨K, H⟩ := same_l2 a b c hc (d - 1) (i + 1) (by omega)
   refine ⟨K + 1, fun k hk => ?_⟩
   obtain ⟨k, rfl⟩ : ∃ j, k = j + 1 := ⟨k - 1, by omega⟩
   rw [heirloomref11_Same.l2, if_pos (by omega), if_pos (by omega), if_pos (by omega), if_neg (by simp), w64 (by omega) (by omega)]
   exact H k (by omega)
  ·refine ⟨1, fun k hk => ?_⟩
   obtain ⟨k, rfl⟩ : ∃ j, k = j + 1 := ⟨k - 1, by omega⟩
   rw [heirloomref11_Same.l2, if_neg (by omega)]
 termination_by d => d
theorem same_l1 (a : List Bool) (b : List Int) (c : List S49) (hb : b.length ≤ 1000000) (hc : c.length ≤ 1000000) : ∀ (d i : Nat), b.length - i = d → ∃ K, ∀ k, K ≤ k → heirloomref11_Same.l1 k (i : Int) a b c a b c = some true
 | d, i, hd => by
  by_cases h : i < b.length
  ·obtain ⟨K, H⟩ := same_l1 a b c hb hc (d - 1) (i + 1) (by omega)
   refine ⟨K + 1, fun k hk => ?_⟩
   obtain ⟨k, rfl⟩ : ∃ j, k = j + 1 := ⟨k - 1, by omega⟩
   rw [heirloomref11_Same.l1, if_pos (by omega), if_pos (by omega), if_pos (by omega), if_pos rfl, w64 (by omega) (by omega)]
   exact H k (by omega)
  ·obtain ⟨K, H⟩ := same_l2 a b c hc _ 0 rfl
   refine ⟨K + 1, fun k hk => ?_⟩
   obtain ⟨k, rfl⟩ : ∃ j, k = j + 1 := ⟨k - 1, by omega⟩
   rw [heirloomref11_Same.l1, if_neg (by omega)]
   exact H k (by omega)
 termination_by d => d
theorem same_l0 (a : List Bool) (b : List Int) (c : List S49) (ha : a.length ≤ 1000000) (hb : b.length ≤ 1000000) (hc : c.length ≤ 1000000) : ∀ (d i : Nat), a.length - i = d → ∃ K, ∀ k, K ≤ k → heirloomref11_Same.l0 k (i : Int) a b c a b c = some true
 | d, i, hd => by
  by_cases h : i < a.length
  ·obtain ⟨K, H⟩ := same_l0 a b c ha hb hc (d - 1) (i + 1) (by omega)
   refine ⟨K + 1, fun k hk => ?_⟩
   obtain ⟨k, rfl⟩ : ∃ j, k = j + 1 := ⟨k - 1, by omega⟩
   rw [heirloomref11_Same.l0, if_pos (by omega), if_pos (by omega), if_pos (by omega), if_neg (by simp), w64 (by omega) (by omega)]
   exact H k (by omega)
  ·obtain ⟨K, H⟩ := same_l1 a b c hb hc _ 0 rfl
   refine ⟨K + 1, fun k hk => ?_⟩
   obtain ⟨k, rfl⟩ : ∃ j, k = j + 1 := ⟨k - 1, by omega⟩
   rw [heirloomref11_Same.l0, if_neg (by omega)]
   exact H k (by omega)
 termination_by d => d
theorem same_f (a : List Bool) (b : List Int) (c : List S49) (ha : a.length ≤ 1000000) (hb : b.length ≤ 1000000) (hc : c.length ≤ 1000000) : ∃ K, ∀ k, K ≤ k → heirloomref11_Same.f k a b c a b c = some true := by
 obtain ⟨K, H⟩ := same_l0 a b c ha hb hc _ 0 rfl
 refine ⟨K + 1, fun k hk => ?_⟩
 obtain ⟨k, rfl⟩ : ∃ j, k = j + 1 := ⟨k - 1, by omega⟩
 unfold heirloomref11_Same.f
 rw [if_pos rfl, if_pos rfl, show ((c.length : Int) != (c.length : Int)) = false from bne_eq_false_iff_eq.mpr rfl, heirloomref11_Same.j0, if_neg (by decide)]
 exact H k (by omega)
theorem ReachCollects (th : List S43) (rt : List S40) (hz : Sz th rt) : ∃ k, heirloomlaw11_ReachCollects.f k th rt = some true := by
 rcases hs : smallB th rt with _ | _
 ·refine ⟨62, ?_⟩
  unfold heirloomlaw11_ReachCollects.f
  rw [small_f th rt hz 62 (by omega), Option.bind_some, hs, if_neg (by decide), alive_f]
  rfl
 ·obtain ⟨b1, b2, b3⟩ := small_bnd hs
  have b2' : ∀ t ∈ th, t.f3.length ≤ 1000 := fun t ht => by have := b2 t ht; omega
  obtain ⟨first, live, e1, _, hF, hL⟩ := collect_ex th rt (bnd_mk b1 b2 (by omega))
  obtain ⟨K1, H1⟩ := rcollect th rt (by omega) b2' (by omega) hF hL
  have pl := pend_len th first
  have cl := cleared_len th live first b2'
  obtain ⟨K2, H2⟩ := same_f live (pendF th first) (clearedF th live first) (by have := hL.len; omega) (by omega) (by omega)
  refine ⟨K1 + K2 + 62, ?_⟩
  unfold heirloomlaw11_ReachCollects.f
  rw [small_f th rt hz _ (by omega), Option.bind_some, hs, if_pos rfl, e1, Option.bind_some, H1 _ (by omega), Option.bind_some, H2 _ (by omega), Option.bind_some, if_pos rfl, alive_f]
  rfl
end Go.Proofs.Ytollnnbcfhnlfaa.Pure
