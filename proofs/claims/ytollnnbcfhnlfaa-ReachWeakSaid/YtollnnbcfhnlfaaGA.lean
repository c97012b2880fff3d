/- reach, part GA of the hand texts (PR, PC): what each part says stands at its head. -/
import Derived.Test.YtollnnbcfhnlfaaG9
import Derived.Test.YtollnnbcfhnlfaaQRx8
import Derived.Test.YtollnnbcfhnlfaaQRx4
/- reach, plain: the reference's Object, all and Right. -/
set_option linter.unusedVariables false
set_option linter.unusedSimpArgs false
namespace Go.Proofs.Ytollnnbcfhnlfaa.Pure
open Go Go.RowKit Go.Proofs.Ytollnnbcfhnlfaa.QR Go.Proofs.Ytollnnbcfhnlfaa.Rg Go.Proofs.Ytollnnbcfhnlfaa.Jg Go.Proofs.YtollnnbcfhnlfaaW.PrintWords Go.Proofs.YtollnnbcfhnlfaaW.PrintLast Go.Proofs.YtollnnbcfhnlfaaW.PrintMore
theorem robj (th : List S43) (rt : List S40) (hl : th.length ≤ 1000000) (t n : Int) (k : Nat) (hk : 1 ≤ k) : heirloomref11_Object.f k th rt t n = some (objF th t n) := by
  obtain ⟨k, rfl⟩ : ∃ j, k = j + 1 := ⟨k - 1, by omega⟩
  unfold heirloomref11_Object.f objF
  by_cases h1 : t < 4
  · rw [if_pos h1, if_pos (.inl h1), heirloomref11_Object.j0, if_pos rfl]
  · rw [if_neg h1]
    by_cases h2 : t > 9
    · rw [if_pos h2, if_pos (.inr (.inl h2)), heirloomref11_Object.j0, if_pos rfl]
    · rw [if_neg h2]
      by_cases h3 : n < 1
      · rw [if_pos h3, if_pos (.inr (.inr (.inl h3))), heirloomref11_Object.j0, if_pos rfl]
      · rw [if_neg h3, heirloomref11_Object.j0]
        by_cases h4 : n > (th.length : Int)
        · rw [if_pos (decide_eq_true h4), if_pos (.inr (.inr (.inr (.inl h4))))]
        · rw [if_neg (by simpa using h4), w64 (by omega) (by omega), if_pos (by omega), if_pos (by omega)]
          by_cases h5 : (rd_T43 th (n - 1)).f0 = t
          · rw [if_pos h5, if_neg (by rintro (z | z | z | z | z); all_goals first | omega | exact z h5)]
          · rw [if_neg h5, if_pos (.inr (.inr (.inr (.inr h5))))]
theorem rall_l0 (th : List S43) (rt : List S40) (hl : th.length ≤ 1000000) (l : List S40) (hll : l.length ≤ 1000000) : ∀ (d i k : Nat), l.length - i = d → i ≤ l.length → d + 1 < k → heirloomref11_all.l0 k l (i : Int) th rt = some ((l.drop i).all (fineV th))
  | d, i, 0, _, _, hk => by omega
  | d, i, k + 1, hd, hi, hk => by
    rw [heirloomref11_all.l0]
    by_cases c : i < l.length
    · have ih := rall_l0 th rt hl l hll (d - 1) (i + 1) k (by omega) (by omega) (by omega)
      rw [if_pos (by omega), if_pos (by omega), rd40_get c, w64 (by omega) (by omega), robj th rt hl _ _ k (by omega), List.drop_eq_getElem_cons c, List.all_cons]
      unfold fineV
      by_cases h1 : l[i].f0 ≥ 4
      · rw [if_pos h1]
        by_cases h2 : l[i].f0 ≤ 9
        · rw [if_pos h2, Option.bind_some]
          by_cases h3 : objF th l[i].f0 l[i].f1 = 0
          · rw [if_pos h3]
            simp [h1, h2, h3]
          · rw [if_neg h3]
            have : (!(decide (4 ≤ l[i].f0) && decide (l[i].f0 ≤ 9) && (objF th l[i].f0 l[i].f1 == 0))) = true := by simp [h3]
            rw [this, Bool.true_and]
            exact ih
        · rw [if_neg h2]
          have : (!(decide (4 ≤ l[i].f0) && decide (l[i].f0 ≤ 9) && (objF th l[i].f0 l[i].f1 == 0))) = true := by simp [h2]
          rw [this, Bool.true_and]
          exact ih
      · rw [if_neg h1]
        have : (!(decide (4 ≤ l[i].f0) && decide (l[i].f0 ≤ 9) && (objF th l[i].f0 l[i].f1 == 0))) = true := by
          rw [decide_eq_false (show ¬ 4 ≤ l[i].f0 from h1)]
          rfl
        rw [this, Bool.true_and]
        exact ih
    · rw [if_neg (by omega), List.drop_eq_nil_of_le (by omega)]
      rfl
theorem rall_f (th : List S43) (rt : List S40) (hl : th.length ≤ 1000000) (l : List S40) (hll : l.length ≤ 1000000) (k : Nat) (hk : l.length + 1 < k) : heirloomref11_all.f k th rt l = some (fineL th l) :=
  rall_l0 th rt hl l hll l.length 0 k rfl (by omega) hk
theorem right_l1 (th : List S43) (rt : List S40) (hl : th.length ≤ 1000000) (i : Nat) (hi : i ≤ th.length) (a b c : Int) (sl : List S40) (fin : Int) (R : Bool) (K : Nat) (H : ∀ k, K ≤ k → heirloomref11_Right.l0 k ((i : Int) + 1) th rt = some R) :
    ∀ (d j k : Nat), i - j = d → j ≤ i → K + d + 1 ≤ k → heirloomref11_Right.l1 k (i : Int) (j : Int) th rt a b c sl fin = some (if 0 < fin ∧ fin ∈ ((th.take i).drop j).map (·.f4) then false else R)
  | d, j, 0, _, _, hk => by omega
  | d, j, k + 1, hd, hj, hk => by
    rw [heirloomref11_Right.l1]
    by_cases c1 : j < i
    · have ih := right_l1 th rt hl i hi a b c sl fin R K H (d - 1) (j + 1) k (by omega) (by omega) (by omega)
      have hjl : j < th.length := by omega
      have hjt : j < (th.take i).length := by rw [List.length_take]; omega
      have e : ((th.take i).drop j).map (·.f4) = th[j].f4 :: ((th.take i).drop (j + 1)).map (·.f4) := by
        rw [List.drop_eq_getElem_cons hjt, List.map_cons, List.getElem_take]
      rw [if_pos (by omega), w64 (by omega) (by omega), rd43_get hjl, e]
      by_cases c2 : fin > 0
      · rw [if_pos c2, if_pos (by omega), if_pos (by omega)]
        by_cases c3 : th[j].f4 = fin
        · rw [if_pos c3, if_pos ⟨c2, by rw [c3]; exact List.mem_cons_self ..⟩]
        · rw [if_neg c3]
          refine ih.trans ?_
          congr 1
          have : (0 < fin ∧ fin ∈ ((th.take i).drop (j + 1)).map (·.f4)) ↔ (0 < fin ∧ fin ∈ th[j].f4 :: ((th.take i).drop (j + 1)).map (·.f4)) := by
            rw [List.mem_cons]
            constructor
            · exact fun z => ⟨z.1, .inr z.2⟩
            · exact fun z => ⟨z.1, z.2.resolve_left (fun y => c3 y.symm)⟩
          simp only [this]
      · rw [if_neg c2]
        refine ih.trans ?_
        rw [if_neg (fun z => c2 z.1), if_neg (fun z => c2 z.1)]
    · rw [if_neg (by omega), w64 (by omega) (by omega)]
      have : j = i := by omega
      subst this
      rw [if_neg (fun z => by have h2 := z.2; rw [List.drop_eq_nil_of_le (by rw [List.length_take]; omega)] at h2; cases h2)]
      exact H k (by omega)
theorem right_l0 (th : List S43) (rt : List S40) (hl : th.length ≤ 1000) (hs : ∀ t ∈ th, t.f3.length ≤ 1000) (hr : rt.length ≤ 1000) : ∀ (d i : Nat), th.length - i = d → i ≤ th.length → ∃ K, ∀ k, K ≤ k → heirloomref11_Right.l0 k (i : Int) th rt = some (rightB th (th.drop i) ((th.take i).map (·.f4)) && fineL th rt)
  | d, i, hd, hi => by
    by_cases c : i < th.length
    · obtain ⟨K, H⟩ := right_l0 th rt hl hs hr (d - 1) (i + 1) (by omega) (by omega)
      obtain ⟨t, ht⟩ : ∃ t, th[i] = t := ⟨_, rfl⟩
      obtain ⟨seen, hsn⟩ : ∃ s, (th.take i).map (·.f4) = s := ⟨_, rfl⟩
      have e1 : th.drop i = t :: th.drop (i + 1) := by rw [List.drop_eq_getElem_cons c, ht]
      have e2 : (th.take (i + 1)).map (·.f4) = seen ++ [t.f4] := by rw [List.take_add_one, List.map_append, hsn, List.getElem?_eq_getElem c, ht]; rfl
      rw [e2] at H
      have hsl : t.f3.length ≤ 1000 := hs t (by rw [← ht]; exact List.getElem_mem _)
      refine ⟨K + th.length + 2000, fun k hk => ?_⟩
      obtain ⟨k, rfl⟩ : ∃ j, k = j + 3 := ⟨k - 3, by omega⟩
      rw [heirloomref11_Right.l0, if_pos (by omega), if_pos (by omega), rd43_get c, ht, e1, hsn, rightB]
      have bad : ∀ {P : Prop}, P → (P → ¬ okP th seen t) → some false = some (okB th seen t && rightB th (th.drop (i + 1)) (seen ++ [t.f4]) && fineL th rt) := fun p f => by
        rw [show okB th seen t = false from Bool.eq_false_iff.2 (fun z => f p ((okB_iff th seen t).1 z))]
        rfl
      have J1 : ∀ {P : Prop}, P → (P → ¬ okP th seen t) → heirloomref11_Right.j1 (k + 2) (i : Int) true th rt t.f0 t.f1 t.f2 t.f3 t.f4 = some (okB th seen t && rightB th (th.drop (i + 1)) (seen ++ [t.f4]) && fineL th rt) := fun p f => by
        rw [heirloomref11_Right.j1, if_pos rfl]
        exact bad p f
      by_cases p1 : t.f0 < 4
      · rw [if_pos p1]; exact J1 p1 (fun p z => z.1 (by omega))
      rw [if_neg p1]
      by_cases p2 : t.f0 > 9
      · rw [if_pos p2]; exact J1 p2 (fun p z => z.1 (by omega))
      rw [if_neg p2]
      by_cases p3 : t.f1 < 0
      · rw [if_pos p3]; exact J1 p3 (fun p z => z.1 (by omega))
      rw [if_neg p3]
      by_cases p4 : t.f1 > 3
      · rw [if_pos p4]; exact J1 p4 (fun p z => z.1 (by omega))
      rw [if_neg p4]
      by_cases p5 : t.f4 < 0
      · rw [if_pos p5]; exact J1 p5 (fun p z => z.1 (by omega))
      rw [if_neg p5]
      by_cases p6 : t.f2 < 0
      · rw [if_pos p6]; exact J1 p6 (fun p z => z.1 (by omega))
      rw [if_neg p6]
      have good : (¬ (t.f0 < 4 ∨ 9 < t.f0 ∨ t.f1 < 0 ∨ 3 < t.f1 ∨ t.f2 < 0 ∨ t.f4 < 0 ∨ (t.f0 ≠ 5 ∧ (t.f1 ≠ 0 ∨ t.f4 ≠ 0)))) → heirloomref11_Right.j1 (k + 2) (i : Int) false th rt t.f0 t.f1 t.f2 t.f3 t.f4 = some (okB th seen t && rightB th (th.drop (i + 1)) (seen ++ [t.f4]) && fineL th rt) := fun g1 => by
        have tail : (¬ (0 < t.f2 ∧ (t.f3.length : Int) ≤ t.f2)) → heirloomref11_Right.j2 (k + 1) (i : Int) (!fineL th t.f3) th rt t.f0 t.f1 t.f2 t.f3 t.f4 = some (okB th seen t && rightB th (th.drop (i + 1)) (seen ++ [t.f4]) && fineL th rt) := fun g2 => by
          rw [heirloomref11_Right.j2]
          rcases hf : fineL th t.f3 with _ | _
          · rw [if_pos (show (!false) = true from rfl)]
            exact bad hf (fun p z => by rw [z.2.2.2] at p; cases p)
          · rw [if_neg (by decide)]
            have := right_l1 th rt (by omega) i (by omega) t.f0 t.f1 t.f2 t.f3 t.f4 _ K H i 0 k (by omega) (by omega) (by omega)
            refine this.trans ?_
            rw [List.drop_zero, hsn]
            by_cases g3 : 0 < t.f4 ∧ t.f4 ∈ seen
            · rw [if_pos g3]
              exact bad g3 (fun p z => z.2.2.1 p)
            · rw [if_neg g3, show okB th seen t = true from (okB_iff th seen t).2 ⟨g1, g2, g3, hf⟩, Bool.true_and]
        rw [heirloomref11_Right.j1, if_neg (by decide), rall_f th rt (by omega) t.f3 (by omega) (k + 1) (by omega)]
        by_cases q1 : t.f2 > 0
        · rw [if_pos q1]
          by_cases q2 : t.f2 ≥ (t.f3.length : Int)
          · rw [if_pos q2, heirloomref11_Right.j2, if_pos rfl]
            exact bad (And.intro q1 q2) (fun p z => z.2.1 p)
          · rw [if_neg q2, Option.bind_some]
            exact tail (fun z => q2 z.2)
        · rw [if_neg q1, Option.bind_some]
          exact tail (fun z => q1 z.1)
      by_cases p7 : t.f0 = 5
      · rw [if_pos p7]; exact good (by omega)
      rw [if_neg p7]
      by_cases p8 : t.f1 > 0
      · rw [if_pos p8]; exact J1 p8 (fun p z => z.1 (by omega))
      rw [if_neg p8]
      by_cases p9 : t.f4 > 0
      · rw [decide_eq_true p9]; exact J1 p9 (fun p z => z.1 (by omega))
      · rw [decide_eq_false p9]; exact good (by omega)
    · refine ⟨rt.length + 5, fun k hk => ?_⟩
      obtain ⟨k, rfl⟩ : ∃ j, k = j + 1 := ⟨k - 1, by omega⟩
      rw [heirloomref11_Right.l0, if_neg (by omega), rall_f th rt (by omega) rt (by omega) k (by omega), List.drop_eq_nil_of_le (by omega), rightB, Bool.true_and]
      rfl
/-- the reference's Right is the program's -/
theorem rright (th : List S43) (rt : List S40) (hl : th.length ≤ 1000) (hs : ∀ t ∈ th, t.f3.length ≤ 1000) (hr : rt.length ≤ 1000) : ∃ K, ∀ k, K ≤ k → heirloomref11_Right.f k th rt = some (rightC th rt) := by
  obtain ⟨K, H⟩ := right_l0 th rt hl hs hr th.length 0 rfl (by omega)
  exact ⟨K, fun k hk => (H k hk).trans (by rw [List.drop_zero, List.take_zero]; rfl)⟩
end Go.Proofs.Ytollnnbcfhnlfaa.Pure

/- reach, plain: places of keys, and what is cleared. -/
set_option linter.unusedVariables false
set_option linter.unusedSimpArgs false
namespace Go.Proofs.Ytollnnbcfhnlfaa.Pure
open Go Go.RowKit Go.Proofs.Ytollnnbcfhnlfaa.QR Go.Proofs.Ytollnnbcfhnlfaa.Rg Go.Proofs.Ytollnnbcfhnlfaa.Jg Go.Proofs.YtollnnbcfhnlfaaW.PrintWords Go.Proofs.YtollnnbcfhnlfaaW.PrintLast Go.Proofs.YtollnnbcfhnlfaaW.PrintMore
def keyF (L : Nat) (arr i : Int) : Int :=
  if i < 1 ∨ (L : Int) ≤ i then -2 else if i ≤ arr then -1 else if (i - (if 0 < arr then 1 + arr else 1)) % 2 = 1 then i - 1 else if i = L - 1 then -1 else -2
theorem keyof_f (f0 f1 arr : Int) (sl : List S40) (f4 i : Int) (hL : sl.length ≤ 1000000) (k : Nat) (hk : 2 ≤ k) : heirloomref11_KeyOf.f k f0 f1 arr sl f4 i = some (keyF sl.length arr i) := by
  obtain ⟨k, rfl⟩ : ∃ j, k = j + 2 := ⟨k - 2, by omega⟩
  unfold heirloomref11_KeyOf.f keyF
  by_cases h1 : i < 1
  · rw [if_pos h1, if_pos (.inl h1), heirloomref11_KeyOf.j0, if_pos rfl]
  · rw [if_neg h1, heirloomref11_KeyOf.j0]
    by_cases h2 : i ≥ (sl.length : Int)
    · rw [if_pos (decide_eq_true h2), if_pos (.inr h2)]
    · rw [if_neg (by simpa using h2), if_neg (show ¬ (i < 1 ∨ (sl.length : Int) ≤ i) by omega)]
      by_cases h3 : i ≤ arr
      · rw [if_pos h3, if_pos h3]
      · rw [if_neg h3, if_neg h3]
        have fin : ∀ first : Int, 1 ≤ first → first ≤ i → heirloomref11_KeyOf.j1 (k + 1) i first f0 f1 arr sl f4 = some (if (i - first) % 2 = 1 then i - 1 else if i = sl.length - 1 then -1 else -2) := fun first a b => by
          rw [heirloomref11_KeyOf.j1, w64 (by omega) (by omega), w64 (by omega) (by omega), w64 (by omega) (by omega), Int.tmod_eq_emod_of_nonneg (by omega)]
          split
          · rfl
          · split <;> rfl
        by_cases h4 : arr > 0
        · rw [if_pos h4, w64 (by omega) (by omega), fin _ (by omega) (by omega), if_pos h4]
        · rw [if_neg h4, fin _ (by omega) (by omega), if_neg h4]
theorem slots_cover (L : Nat) (arr : Int) (i : Nat) (h1 : 1 ≤ i) (h2 : i < L) : ∃ q ∈ slotsL L arr, q.2 = (i : Int) ∨ (q.1 = (i : Int) ∧ q.2 = (i : Int) + 1 ∧ keyF L arr ((i : Int) + 1) = i) := by
  have ha : sA L arr = min (L - 1) arr.toNat := rfl
  have hp : sP L arr = (L - (1 + sA L arr)) / 2 := rfl
  by_cases c : i ≤ sA L arr
  · refine ⟨(-1, (i : Int)), List.mem_append.2 (.inl (List.mem_append.2 (.inl ?_))), .inl rfl⟩
    exact List.mem_map.2 ⟨i - 1, List.mem_range.2 (by omega), by simp only [Prod.mk.injEq, true_and]; omega⟩
  · obtain ⟨o, ho⟩ : ∃ o, i = 1 + sA L arr + o := ⟨i - (1 + sA L arr), by omega⟩
    by_cases c2 : o < 2 * sP L arr
    · have hm : ((1 + sA L arr + 2 * ((o / 2 : Nat) : Int) : Int), (1 + sA L arr + 2 * ((o / 2 : Nat) : Int) + 1 : Int)) ∈ slotsL L arr :=
        List.mem_append.2 (.inl (List.mem_append.2 (.inr (List.mem_map.2 ⟨o / 2, List.mem_range.2 (by omega), rfl⟩))))
      refine ⟨_, hm, ?_⟩
      by_cases c3 : o % 2 = 1
      · exact .inl (by show (1 + sA L arr + 2 * ((o / 2 : Nat) : Int) + 1 : Int) = i; omega)
      · refine .inr ⟨by show (1 + sA L arr + 2 * ((o / 2 : Nat) : Int) : Int) = i; omega, by show (1 + sA L arr + 2 * ((o / 2 : Nat) : Int) + 1 : Int) = i + 1; omega, ?_⟩
        unfold keyF
        have hfirst : (if 0 < arr then 1 + arr else 1) = (1 + sA L arr : Int) := by split <;> omega
        rw [hfirst, if_neg (by omega), if_neg (by omega), if_pos (by omega)]
        omega
    · refine ⟨(-1, (i : Int)), List.mem_append.2 (.inr ?_), .inl rfl⟩
      unfold sl3
      rw [if_pos (by omega)]
      exact List.mem_singleton.2 (by simp only [Prod.mk.injEq, true_and]; omega)
theorem slots_bd (L : Nat) (arr : Int) {q : Int × Int} (h : q ∈ slotsL L arr) : -1 ≤ q.1 ∧ q.1 < L ∧ 1 ≤ q.2 ∧ q.2 < L := by
  have ha : sA L arr = min (L - 1) arr.toNat := rfl
  have hp : sP L arr = (L - (1 + sA L arr)) / 2 := rfl
  rcases List.mem_append.1 h with z | z
  · rcases List.mem_append.1 z with y | y
    · obtain ⟨j, hj, rfl⟩ := List.mem_map.1 y
      have := List.mem_range.1 hj
      exact ⟨by omega, by omega, by omega, by omega⟩
    · obtain ⟨j, hj, rfl⟩ := List.mem_map.1 y
      have := List.mem_range.1 hj
      exact ⟨by omega, by omega, by omega, by omega⟩
  · unfold sl3 at z
    split at z
    · obtain rfl := List.mem_singleton.1 z
      exact ⟨by omega, by omega, by omega, by omega⟩
    · cases z
theorem mem_clearFs (th : List S43) (live first : List Bool) (i wv : Int) (sl : List S40) (l : List (Int × Int)) (x : S49) : ∀ cl : List S49, x ∈ l.foldl (clearF th live first i wv sl) cl ↔ x ∈ cl ∨ ∃ q ∈ l, goneF th live first i wv sl q.1 q.2 = true ∧ x = ⟨i + 1, q.2⟩ := by
  induction l with
  | nil => intro cl; simp
  | cons q l ih =>
    intro cl
    rw [List.foldl_cons, ih]
    unfold clearF
    constructor
    · rintro (z | ⟨p, hp, g, e⟩)
      · split at z
        · rename_i hg
          rcases List.mem_append.1 z with y | y
          · exact .inl y
          · exact .inr ⟨q, List.mem_cons_self .., hg, List.mem_singleton.1 y⟩
        · exact .inl z
      · exact .inr ⟨p, List.mem_cons_of_mem _ hp, g, e⟩
    · rintro (z | ⟨p, hp, g, e⟩)
      · left
        split
        · exact List.mem_append.2 (.inl z)
        · exact z
      · rcases List.mem_cons.1 hp with y | y
        · subst y
          left
          rw [if_pos g]
          exact List.mem_append.2 (.inr (List.mem_singleton.2 e))
        · exact .inr ⟨p, y, g, e⟩
theorem mem_clear1 (th : List S43) (live first : List Bool) (l : List Nat) (x : S49) : ∀ cl : List S49, x ∈ l.foldl (clear1 th live first) cl ↔ x ∈ cl ∨ ∃ i ∈ l, (rdOf false live i = true ∧ weakF (rd_T43 th i).f0 (rd_T43 th i).f1 ≠ 0) ∧ ∃ q ∈ slotsL (rd_T43 th i).f3.length (rd_T43 th i).f2, goneF th live first i (weakF (rd_T43 th i).f0 (rd_T43 th i).f1) (rd_T43 th i).f3 q.1 q.2 = true ∧ x = ⟨(i : Int) + 1, q.2⟩ := by
  induction l with
  | nil => intro cl; simp
  | cons i l ih =>
    intro cl
    rw [List.foldl_cons, ih]
    have e : x ∈ clear1 th live first cl i ↔ x ∈ cl ∨ ((rdOf false live i = true ∧ weakF (rd_T43 th i).f0 (rd_T43 th i).f1 ≠ 0) ∧ ∃ q ∈ slotsL (rd_T43 th i).f3.length (rd_T43 th i).f2, goneF th live first i (weakF (rd_T43 th i).f0 (rd_T43 th i).f1) (rd_T43 th i).f3 q.1 q.2 = true ∧ x = ⟨(i : Int) + 1, q.2⟩) := by
      unfold clear1
      split
      · rename_i hc
        rw [mem_clearFs]
        exact ⟨fun z => z.imp id (fun y => ⟨hc, y⟩), fun z => z.imp id (fun y => y.2)⟩
      · rename_i hc
        exact ⟨.inl, fun z => z.elim id (fun y => absurd y.1 hc)⟩
    rw [e]
    constructor
    · rintro ((z | z) | ⟨j, hj, z⟩)
      · exact .inl z
      · exact .inr ⟨i, List.mem_cons_self .., z⟩
      · exact .inr ⟨j, List.mem_cons_of_mem _ hj, z⟩
    · rintro (z | ⟨j, hj, z⟩)
      · exact .inl (.inl z)
      · rcases List.mem_cons.1 hj with y | y
        · subst y; exact .inl (.inr z)
        · exact .inr ⟨j, y, z⟩
theorem mem_cleared (th : List S43) (live first : List Bool) (x : S49) : x ∈ clearedF th live first ↔ ∃ i : Nat, i < th.length ∧ (rdOf false live i = true ∧ weakF (rd_T43 th i).f0 (rd_T43 th i).f1 ≠ 0) ∧ ∃ q ∈ slotsL (rd_T43 th i).f3.length (rd_T43 th i).f2, goneF th live first i (weakF (rd_T43 th i).f0 (rd_T43 th i).f1) (rd_T43 th i).f3 q.1 q.2 = true ∧ x = ⟨(i : Int) + 1, q.2⟩ := by
  unfold clearedF
  rw [mem_clear1]
  constructor
  · rintro (z | ⟨i, hi, z⟩)
    · cases z
    · exact ⟨i, List.mem_range.1 hi, z⟩
  · rintro ⟨i, hi, z⟩
    exact .inr ⟨i, List.mem_range.2 hi, z⟩
end Go.Proofs.Ytollnnbcfhnlfaa.Pure
