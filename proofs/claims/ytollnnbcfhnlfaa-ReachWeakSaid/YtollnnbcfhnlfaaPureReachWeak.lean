/- What is cleared stands in weak tables alone, in order, and its value or its key was not needed at first: the plain law. For every graph. -/
import Derived.Test.YtollnnbcfhnlfaaPV
import Derived.Test.YtollnnbcfhnlfaaQRxW
set_option linter.unusedVariables false
set_option linter.unusedSimpArgs false
namespace Go.Proofs.Ytollnnbcfhnlfaa.Pure
open Go Go.RowKit Go.Proofs.Ytollnnbcfhnlfaa.QR Go.Proofs.Ytollnnbcfhnlfaa.Rg Go.Proofs.Ytollnnbcfhnlfaa.Jg Go.Proofs.YtollnnbcfhnlfaaW.PrintWords Go.Proofs.YtollnnbcfhnlfaaW.PrintLast Go.Proofs.YtollnnbcfhnlfaaW.PrintMore
theorem weak_l0 (th : List S43) (rt : List S40) (live first : List Bool) (pend : List Int) (hl : th.length ≤ 1000) (hsl : ∀ t ∈ th, t.f3.length ≤ 1000) (hf : first.length = th.length) (sub : ∀ x, Nd first x → Nd live x) (hcl : (clearedF th live first).length ≤ 1000000000) :
    ∀ (d i : Nat), (clearedF th live first).length - i = d → i ≤ (clearedF th live first).length → ∃ K, ∀ k, K ≤ k → RWk.l0 k first (i : Int) th rt live pend (clearedF th live first) = some true
  | d, i, hd, hi => by
    by_cases c : i < (clearedF th live first).length
    · obtain ⟨K, HK⟩ := weak_l0 th rt live first pend hl hsl hf sub hcl (d - 1) (i + 1) (by omega) (by omega)
      obtain ⟨i0, hi0, ⟨hlv, hw⟩, q, hq, hg, hx⟩ := (mem_cleared th live first _).1 (List.getElem_mem c)
      have hrd : rd_T49 (clearedF th live first) (i : Int) = ⟨(i0 : Int) + 1, q.2⟩ := by rw [rd49_get c, hx]
      have pw := List.pairwise_iff_getElem.1 (cleared_sorted th live first)
      have hso : 0 < i → ¬ (rd_T49 (clearedF th live first) ((i : Int) - 1)).f0 > (i0 : Int) + 1 ∧ ((rd_T49 (clearedF th live first) ((i : Int) - 1)).f0 = (i0 : Int) + 1 → ¬ (rd_T49 (clearedF th live first) ((i : Int) - 1)).f1 ≥ q.2) := fun p => by
        have h := pw (i - 1) i (by omega) c (by omega)
        rw [hx] at h
        have e : (i : Int) - 1 = ((i - 1 : Nat) : Int) := by omega
        rw [e, rd49_get (show i - 1 < (clearedF th live first).length by omega)]
        rcases h with z | ⟨z, y⟩
        · have z' : (clearedF th live first)[i - 1].f0 < (i0 : Int) + 1 := z
          exact ⟨by omega, fun e => by omega⟩
        · have z' : (clearedF th live first)[i - 1].f0 = (i0 : Int) + 1 := z
          have y' : (clearedF th live first)[i - 1].f1 < q.2 := y
          exact ⟨by omega, fun e => by omega⟩
      obtain ⟨t, ht⟩ : ∃ t, rd_T43 th (i0 : Int) = t := ⟨_, rfl⟩
      have htm : t ∈ th := by rw [← ht, rd43_get hi0]; exact List.getElem_mem _
      have htl := hsl t htm
      rw [ht] at hw hq hg
      obtain ⟨sk, _⟩ := slots_key _ _ hq
      have bd := slots_bd _ _ hq
      have hwk : weakF t.f0 t.f1 = t.f1 ∧ 1 ≤ t.f1 ∧ t.f1 ≤ 3 := by
        unfold weakF at hw ⊢
        split at hw
        · exact absurd rfl hw
        · rw [if_neg (by assumption)]; omega
      obtain ⟨hw1, hw2, hw3⟩ := hwk
      rw [hw1] at hg
      -- of a value that is held weakly
      have wk_ : ∀ v : S40, weaklyF th v.f0 v.f1 = true → objF th v.f0 v.f1 = v.f1 ∧ 1 ≤ v.f1 ∧ v.f1 ≤ th.length := fun v h => by
        unfold weaklyF at h
        simp only [Bool.and_eq_true, decide_eq_true_eq] at h
        have e := (obj_self th v.f0 v.f1).resolve_left (by omega)
        have := obj_bd th v.f0 v.f1
        omega
      have dead : ∀ o : Int, 1 ≤ o → rdOf false live (o - 1) = false → rdOf false first (o - 1) = false := fun o h1 h => by
        rcases z : rdOf false first (o - 1) with _ | _
        · rfl
        · have := (sub o ⟨h1, z⟩).2
          rw [h] at this
          cases this
      obtain ⟨V, hV⟩ : ∃ V : Bool, V = (decide (2 ≤ t.f1) && weaklyF th (rd_T40 t.f3 q.2).f0 (rd_T40 t.f3 q.2).f1 && !rdOf false first ((rd_T40 t.f3 q.2).f1 - 1)) := ⟨_, rfl⟩
      obtain ⟨B, hB⟩ : ∃ B : Bool, B = (decide (t.f1 ≠ 2) && decide (0 ≤ q.1) && weaklyF th (rd_T40 t.f3 q.1).f0 (rd_T40 t.f3 q.1).f1 && !rdOf false first ((rd_T40 t.f3 q.1).f1 - 1)) := ⟨_, rfl⟩
      have VB : V = true ∨ B = true := by
        unfold goneF at hg
        simp only [Bool.or_eq_true, Bool.and_eq_true, bne_iff_ne, ne_eq, Bool.not_eq_true', decide_eq_true_eq] at hg
        rcases hg with ⟨⟨a, b⟩, e⟩ | ⟨⟨⟨a, b⟩, e⟩, g⟩
        · left
          obtain ⟨o1, o2, o3⟩ := wk_ _ b
          rw [o1] at e
          have n1 : rdOf false first ((rd_T40 t.f3 q.2).f1 - 1) = false := by
            rcases e with z | z
            · exact dead _ o2 z
            · exact z.2
          rw [hV, n1, b, decide_eq_true (show 2 ≤ t.f1 by omega)]
          rfl
        · right
          obtain ⟨o1, o2, o3⟩ := wk_ _ e
          rw [o1] at g
          rw [hB, dead _ o2 g, e, decide_eq_true (show t.f1 ≠ 2 from b), decide_eq_true a]
          rfl
      have j5 : ∀ k, K + 10 ≤ k → RWk.j5 k first (i : Int) V B th rt live pend (clearedF th live first) = some true := fun k hk => by
        obtain ⟨k, rfl⟩ : ∃ j, k = j + 2 := ⟨k - 2, by omega⟩
        have j6 : RWk.j6 (k + 1) first (i : Int) false th rt live pend (clearedF th live first) = some true := by
          rw [RWk.j6, if_neg (by decide), w64 (by omega) (by omega)]
          exact HK k (by omega)
        rw [RWk.j5]
        by_cases hv : V = true
        · rw [if_pos hv]; exact j6
        · rw [if_neg hv, VB.resolve_left hv]; exact j6
      have j4 : ∀ k, K + 20 ≤ k → RWk.j4 k first (i : Int) q.1 V th rt live pend (clearedF th live first) t.f0 t.f1 t.f2 t.f3 t.f4 = some true := fun k hk => by
        obtain ⟨k, rfl⟩ : ∃ j, k = j + 1 := ⟨k - 1, by omega⟩
        rw [RWk.j4]
        have J := j5 k (by omega)
        by_cases h2 : t.f1 = 2
        · rw [if_pos h2]
          rw [decide_eq_false (show ¬ t.f1 ≠ 2 from fun z => z h2)] at hB
          rw [hB] at J
          exact J
        · rw [if_neg h2]
          by_cases hk0 : q.1 ≥ 0
          · rw [if_pos hk0, if_pos (by omega), if_pos (by omega), weakly_f th rt (by omega) _ _ k (by omega), Option.bind_some]
            by_cases hwy : weaklyF th (rd_T40 t.f3 q.1).f0 (rd_T40 t.f3 q.1).f1 = true
            · obtain ⟨o1, o2, o3⟩ := wk_ _ hwy
              rw [if_pos hwy, w64 (by omega) (by omega), if_pos (by omega), if_pos (by omega)]
              rw [hwy, decide_eq_true (show t.f1 ≠ 2 from h2), decide_eq_true (show 0 ≤ q.1 by omega)] at hB
              rw [hB] at J
              exact J
            · rw [if_neg hwy]
              rw [Bool.eq_false_iff.2 hwy, Bool.and_false] at hB
              rw [hB] at J
              exact J
          · rw [if_neg hk0]
            rw [decide_eq_false (show ¬ 0 ≤ q.1 by omega), Bool.and_false] at hB
            rw [hB] at J
            exact J
      have j3 : ∀ k, K + 30 ≤ k → RWk.j3 k first (i : Int) q.1 false th rt live pend (clearedF th live first) ((i0 : Int) + 1) q.2 t.f0 t.f1 t.f2 t.f3 t.f4 = some true := fun k hk => by
        obtain ⟨k, rfl⟩ : ∃ j, k = j + 1 := ⟨k - 1, by omega⟩
        rw [RWk.j3, if_neg (by decide)]
        have J := j4 k (by omega)
        by_cases h2 : t.f1 ≥ 2
        · rw [if_pos h2, if_pos (by omega), if_pos (by omega), weakly_f th rt (by omega) _ _ k (by omega), Option.bind_some]
          by_cases hwy : weaklyF th (rd_T40 t.f3 q.2).f0 (rd_T40 t.f3 q.2).f1 = true
          · obtain ⟨o1, o2, o3⟩ := wk_ _ hwy
            rw [if_pos hwy, w64 (by omega) (by omega), if_pos (by omega), if_pos (by omega)]
            rw [hwy, decide_eq_true (show 2 ≤ t.f1 from h2)] at hV
            rw [hV] at J
            exact J
          · rw [if_neg hwy]
            rw [Bool.eq_false_iff.2 hwy, Bool.and_false] at hV
            rw [hV] at J
            exact J
        · rw [if_neg h2]
          rw [decide_eq_false (show ¬ 2 ≤ t.f1 from h2)] at hV
          rw [hV] at J
          exact J
      have j2 : ∀ k, K + 40 ≤ k → RWk.j2 k first (i : Int) false th rt live pend (clearedF th live first) ((i0 : Int) + 1) q.2 = some true := fun k hk => by
        obtain ⟨k, rfl⟩ : ∃ j, k = j + 1 := ⟨k - 1, by omega⟩
        rw [RWk.j2, if_neg (by decide), w64 (x := (i0 : Int) + 1 - 1) (by omega) (by omega), Int.add_sub_cancel, if_pos (by omega), if_pos (by omega), ht, keyof_f _ _ _ _ _ _ (by omega) k (by omega), Option.bind_some, sk, if_neg (by omega), show (q.1 == -2) = false from beq_eq_false_iff_ne.2 (by omega)]
        exact j3 k (by omega)
      refine ⟨K + 50, fun k hk => ?_⟩
      obtain ⟨k, rfl⟩ : ∃ j, k = j + 1 := ⟨k - 1, by omega⟩
      have J := j2 k (by omega)
      rw [RWk.l0, if_pos (by omega), if_pos (by omega), hrd]
      dsimp only
      rw [if_neg (by omega), if_neg (by omega), if_pos (by omega)]
      by_cases h0 : (i : Int) > 0
      · obtain ⟨s1, s2⟩ := hso (by omega)
        rw [if_pos h0, w64 (x := (i : Int) - 1) (by omega) (by omega), if_pos (by omega), if_pos (by omega), if_neg s1]
        by_cases he : (rd_T49 (clearedF th live first) ((i : Int) - 1)).f0 = (i0 : Int) + 1
        · rw [if_pos he, decide_eq_false (s2 he)]
          exact J
        · rw [if_neg he]
          exact J
      · rw [if_neg h0]
        exact J
    · refine ⟨1, fun k hk => ?_⟩
      obtain ⟨k, rfl⟩ : ∃ j, k = j + 1 := ⟨k - 1, by omega⟩
      rw [RWk.l0, if_neg (by omega), alive_f]
      rfl
termination_by d => d
decreasing_by all_goals omega
theorem ReachWeak (th : List S43) (rt : List S40) (hz : Sz th rt) : ∃ k, RWk.f k th rt = some true := by
  have al : ∀ k, RWk.j0 (k + 1) true th rt = some true := fun k => by
    rw [RWk.j0, if_pos rfl, alive_f]; rfl
  rcases hs : smallB th rt with _ | _
  · refine ⟨100, ?_⟩
    unfold RWk.f
    rw [small_f th rt hz 100 (by omega), hs, Option.bind_some, if_neg (by decide)]
    exact al 99
  · obtain ⟨b1, b2, b3⟩ := small_bnd hs
    have hb := bnd_mk b1 b2 (show rt.length ≤ 601 by omega)
    have hsl : ∀ t ∈ th, t.f3.length ≤ 1000 := fun t ht => by have := b2 t ht; omega
    obtain ⟨K, HR⟩ := rright th rt (by omega) hsl (by omega)
    rcases hrc : rightC th rt with _ | _
    · refine ⟨K + 100, ?_⟩
      unfold RWk.f
      rw [small_f th rt hz _ (by omega), hs, Option.bind_some, if_pos rfl, HR _ (by omega), hrc, Option.bind_some]
      exact al _
    · obtain ⟨first, live, e1, e2, h1, h2⟩ := collect_ex th rt hb
      obtain ⟨first', e3, h3⟩ := strong_f th rt [] hb (by simp)
      obtain rfl : first' = first := Option.some.inj ((strongC_of h3).symm.trans (strongC_of h1))
      have l1 := h1.len
      have hcl := cleared_len th live first' hsl
      obtain ⟨_, rootL, cloL, _⟩ := strong_char h2
      obtain ⟨_, _, _, leastF⟩ := strong_char h1
      have sub : ∀ x, Nd first' x → Nd live x := leastF _ (fun x hx => rootL x (by
        rcases hx with z | ⟨z, _⟩
        · exact .inl z
        · cases z)) cloL
      obtain ⟨K2, H2⟩ := weak_l0 th rt live first' (pendF th first') (by omega) hsl l1 sub (by omega) _ 0 rfl (by omega)
      refine ⟨K + K2 + 100, ?_⟩
      unfold RWk.f
      rw [small_f th rt hz _ (by omega), hs, Option.bind_some, if_pos rfl, HR _ (by omega), hrc, Option.bind_some]
      show RWk.j0 (K + K2 + 99 + 1) false th rt = some true
      rw [RWk.j0, if_neg (by decide), e1, Option.bind_some, e3, Option.bind_some]
      exact H2 _ (by omega)
end Go.Proofs.Ytollnnbcfhnlfaa.Pure
