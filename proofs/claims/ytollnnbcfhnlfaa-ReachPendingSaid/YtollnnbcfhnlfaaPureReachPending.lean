/- What is to be finalised: the plain law. For every graph. -/
import Derived.Test.YtollnnbcfhnlfaaGA
import Derived.Test.YtollnnbcfhnlfaaQRx17
set_option linter.unusedVariables false
set_option linter.unusedSimpArgs false
namespace Go.Proofs.Ytollnnbcfhnlfaa.Pure
open Go Go.RowKit Go.Proofs.Ytollnnbcfhnlfaa.QR Go.Proofs.Ytollnnbcfhnlfaa.Rg Go.Proofs.Ytollnnbcfhnlfaa.Jg Go.Proofs.YtollnnbcfhnlfaaW.PrintWords Go.Proofs.YtollnnbcfhnlfaaW.PrintLast Go.Proofs.YtollnnbcfhnlfaaW.PrintMore
theorem collect_f (th : List S43) (rt : List S40) (hb : bnd th rt = true) : ∃ first live, reach_Collect.f th rt = some (live, pendF th first, clearedF th live first) ∧ strongC th rt [] = some first ∧ StrongR th rt [] first ∧ StrongR th rt (pendF th first) live := by
  obtain ⟨first, h1, h2⟩ := strongC_ex th rt []
  obtain ⟨live, h3, h4⟩ := strongC_ex th rt (pendF th first)
  refine ⟨first, live, ?_, h1, h2, h4⟩
  unfold reach_Collect.f
  rw [if_pos hb, h1, Option.bind_some, h3, Option.bind_some]
theorem first_f (th : List S43) (rt : List S40) (hb : bnd th rt = true) {first : List Bool} (h : strongC th rt [] = some first) : reach_Strong.f th rt [] = some first := by
  unfold reach_Strong.f
  rw [if_pos ⟨hb, by decide⟩]
  exact h
theorem first_live {th : List S43} {rt : List S40} {mo : List Int} {first live : List Bool} (h1 : StrongR th rt [] first) (h2 : StrongR th rt mo live) : ∀ x, Nd first x → Nd live x := by
  obtain ⟨_, _, _, m⟩ := strong_char h1
  obtain ⟨_, r, c, _⟩ := strong_char h2
  exact m _ (fun x hx => r x (hx.imp id (fun z => nomatch z.1))) c
theorem pend0_mem (th : List S43) (first : List Bool) (x : Int) : x ∈ pend0 th first th.length ↔ 1 ≤ x ∧ x ≤ th.length ∧ 0 < finF th x ∧ rdOf false first (x - 1) = false := by
  unfold pend0
  rw [List.mem_map]
  constructor
  · rintro ⟨i, hi, rfl⟩
    obtain ⟨h1, h2⟩ := List.mem_filter.1 hi
    have h3 := List.mem_range.1 h1
    unfold pendP at h2
    simp only [Bool.and_eq_true, decide_eq_true_eq, Bool.not_eq_true'] at h2
    unfold finF
    rw [Int.add_sub_cancel]
    exact ⟨by omega, by omega, h2⟩
  · rintro ⟨h1, h2, h3, h4⟩
    refine ⟨(x - 1).toNat, List.mem_filter.2 ⟨List.mem_range.2 (by omega), ?_⟩, by omega⟩
    unfold pendP
    rw [show ((x - 1).toNat : Int) = x - 1 by omega]
    simp only [Bool.and_eq_true, decide_eq_true_eq, Bool.not_eq_true']
    exact ⟨h3, h4⟩
theorem pend0_nodup (th : List S43) (first : List Bool) : (pend0 th first th.length).Nodup := by
  unfold pend0
  show List.Pairwise (· ≠ ·) _
  rw [List.pairwise_map]
  have h0 : List.Pairwise (fun a b : Nat => a ≠ b) (List.range th.length) := List.nodup_range
  have h1 := h0.filter (pendP th first)
  exact h1.imp (fun {a b} hab e => hab (by have e' : (a : Int) + 1 = (b : Int) + 1 := e; omega))
theorem ltI_iff (th : List S43) (x y : Int) : ltI th x y = true ↔ finF th y < finF th x ∨ (finF th x = finF th y ∧ y < x) := by
  unfold ltI cfI
  rw [decide_eq_true_eq]
  by_cases h : finF th x = finF th y
  · rw [if_neg (fun z => z h)]; omega
  · rw [if_pos h]
    by_cases h2 : finF th y < finF th x
    · rw [if_pos h2]; simp [h2]
    · rw [if_neg h2]; omega
theorem pend_perm (th : List S43) (first : List Bool) : (pendF th first).Perm (pend0 th first th.length) := by
  unfold pendF sortF
  exact List.mergeSort_perm _ _
theorem pend_sorted (th : List S43) (first : List Bool) : (pendF th first).Pairwise (fun x y => (!ltI th y x) = true) := by
  unfold pendF sortF
  refine List.pairwise_mergeSort ?_ ?_ _
  · intro a b c h1 h2
    simp only [Bool.not_eq_true'] at *
    rw [← Bool.not_eq_true, ltI_iff] at *
    omega
  · intro a b
    simp only [Bool.or_eq_true, Bool.not_eq_true']
    rw [← Bool.not_eq_true, ← Bool.not_eq_true, ltI_iff, ltI_iff]
    omega
theorem okAll_at (th : List S43) : ∀ (ts : List S43) (seen : List Int), okAll th ts seen → ∀ j (hj : j < ts.length), okP th (seen ++ (ts.take j).map (·.f4)) ts[j]
  | [], _, _, j, hj => by simp at hj
  | t :: ts, seen, h, 0, _ => by simpa using h.1
  | t :: ts, seen, h, j + 1, hj => by
    have := okAll_at th ts (seen ++ [t.f4]) h.2 j (by simpa using hj)
    simpa using this
theorem fin_apart {th : List S43} {rt : List S40} (h : RightP th rt) {x y : Int} (hx : 1 ≤ x ∧ x ≤ th.length) (hy : 1 ≤ y ∧ y ≤ th.length) (hne : x ≠ y) (hp : 0 < finF th x) : finF th x ≠ finF th y := by
  have key : ∀ i j : Nat, i < j → ∀ (hj : j < th.length) (hi : i < th.length), 0 < th[j].f4 → th[i].f4 ≠ th[j].f4 := by
    intro i j hij hj hi h0 he
    have h1 := (okAll_at th th [] h.1 j hj).2.2.1
    refine h1 ⟨h0, ?_⟩
    rw [List.nil_append, ← he]
    exact List.mem_map.2 ⟨th[i], List.mem_take_iff_getElem.2 ⟨i, by omega, rfl⟩, rfl⟩
  have fx : ∀ z : Int, 1 ≤ z ∧ z ≤ th.length → ∃ (n : Nat) (hn : n < th.length), z = n + 1 ∧ finF th z = th[n].f4 := fun z hz => by
    refine ⟨(z - 1).toNat, by omega, by omega, ?_⟩
    unfold finF
    have := rd43_get (l := th) (j := (z - 1).toNat) (by omega)
    rw [show ((z - 1).toNat : Int) = z - 1 by omega] at this
    rw [this]
  obtain ⟨a, ha, ea, fa⟩ := fx x hx
  obtain ⟨b, hb, eb, fb⟩ := fx y hy
  intro he
  rw [fa] at hp he
  rw [fb] at he
  rcases Nat.lt_trichotomy a b with z | z | z
  · exact key a b z hb ha (by rw [← he]; exact hp) he
  · omega
  · exact key b a z ha hb hp he.symm
theorem pending_l1 (th : List S43) (rt : List S40) (first live : List Bool) (pend : List Int) (cl : List S49) (hl : th.length ≤ 1000) (h1 : first.length = th.length) (h2 : live.length = th.length) (hp : pend.length ≤ 1000)
    (hm : ∀ x ∈ pend, 1 ≤ x ∧ x ≤ th.length ∧ 0 < finF th x ∧ rdOf false first (x - 1) = false ∧ rdOf false live (x - 1) = true)
    (hs : ∀ i (h : i + 1 < pend.length), finF th pend[i + 1] < finF th pend[i]) :
    ∀ (d i k : Nat), pend.length - i = d → i ≤ pend.length → d < k → heirloomlaw11_ReachPending.l1 k first (pend.length : Int) (i : Int) th rt live pend cl = some true
  | d, i, 0, _, _, hk => by omega
  | d, i, k + 1, hd, hi, hk => by
    rw [heirloomlaw11_ReachPending.l1]
    by_cases c : i < pend.length
    · have ih := pending_l1 th rt first live pend cl hl h1 h2 hp hm hs (d - 1) (i + 1) k (by omega) (by omega) (by omega)
      have hrd : ∀ (j : Nat) (hj : j < pend.length), rd pend (j : Int) = pend[j] := fun j hj => by
        unfold rd
        rw [Int.toNat_natCast, List.getD_eq_getElem?_getD, List.getElem?_eq_getElem hj]
        rfl
      obtain ⟨x, hx⟩ : ∃ x, pend[i] = x := ⟨_, rfl⟩
      obtain ⟨a, b, e, f, g⟩ := hm x (by rw [← hx]; exact List.getElem_mem _)
      unfold finF at e
      rw [if_pos (by omega), if_pos (by omega), hrd i c, hx, if_neg (by omega), if_neg (by omega), w64 (by omega) (by omega), if_pos (by omega), if_pos (by omega), if_neg (by rw [f]; decide), if_pos (by omega), if_pos g, if_pos (by omega), if_neg (by omega)]
      rw [w64 (x := (i : Int) + 1) (by omega) (by omega)]
      by_cases c2 : (i : Int) > 0
      · obtain ⟨j, rfl⟩ : ∃ j, i = j + 1 := ⟨i - 1, by omega⟩
        have hj : j < pend.length := by omega
        obtain ⟨y, hy⟩ : ∃ y, pend[j] = y := ⟨_, rfl⟩
        obtain ⟨a', b', _, _, _⟩ := hm y (by rw [← hy]; exact List.getElem_mem _)
        have hs' := hs j c
        rw [hx, hy] at hs'
        unfold finF at hs'
        rw [if_pos c2, w64 (x := ((j + 1 : Nat) : Int) - 1) (by omega) (by omega), show ((j + 1 : Nat) : Int) - 1 = (j : Int) by omega, if_pos (by omega), if_pos (by omega), hrd j hj, hy, w64 (by omega) (by omega), if_pos (by omega), if_pos (by omega), if_neg (by omega)]
        exact ih
      · rw [if_neg c2]
        exact ih
    · rw [if_neg (by omega), if_pos rfl, alive_f]
      rfl
theorem pending_l0 (th : List S43) (rt : List S40) (first live : List Bool) (pend : List Int) (cl : List S49) (hl : th.length ≤ 1000) (h1 : first.length = th.length) (h2 : live.length = th.length) (hfl : ∀ x, Nd first x → Nd live x)
    (K : Nat) (H : ∀ k, K ≤ k → heirloomlaw11_ReachPending.l1 k first ((pend0 th first th.length).length : Int) 0 th rt live pend cl = some true) :
    ∀ (d i k : Nat), th.length - i = d → i ≤ th.length → K + 2 * d + 1 ≤ k → heirloomlaw11_ReachPending.l0 k first ((pend0 th first i).length : Int) (i : Int) th rt live pend cl = some true
  | d, i, 0, _, _, hk => by omega
  | d, i, 1, hd, hi, hk => by
    rw [heirloomlaw11_ReachPending.l0, if_neg (by omega)]
    have : i = th.length := by omega
    subst this
    exact H 0 (by omega)
  | d, i, k + 2, hd, hi, hk => by
    rw [heirloomlaw11_ReachPending.l0]
    by_cases c : i < th.length
    · have ih := pending_l0 th rt first live pend cl hl h1 h2 hfl K H (d - 1) (i + 1) k (by omega) (by omega) (by omega)
      have hpl := pend0_len th first i
      have lv : rdOf false first (i : Int) = true → rdOf false live (i : Int) = true := fun hf => by
        have := (hfl ((i : Int) + 1) ⟨by omega, by rw [Int.add_sub_cancel]; exact hf⟩).2
        rwa [Int.add_sub_cancel] at this
      have fin : ∀ b : Bool, b = pendP th first i → heirloomlaw11_ReachPending.j3 (k + 1) first ((pend0 th first i).length : Int) (i : Int) b th rt live pend cl = some true := fun b hb => by
        rw [heirloomlaw11_ReachPending.j3]
        rw [pend0_succ, ← hb, List.length_append] at ih
        rw [w64 (x := (i : Int) + 1) (by omega) (by omega), w64 (x := ((pend0 th first i).length : Int) + 1) (by omega) (by omega)]
        cases b with
        | true =>
          rw [if_pos rfl, if_pos (by omega), if_pos (by omega)]
          have ih' : heirloomlaw11_ReachPending.l0 k first (((pend0 th first i).length : Int) + 1) ((i : Int) + 1) th rt live pend cl = some true := by simpa using ih
          by_cases hf : rdOf false first (i : Int) = true
          · rw [if_pos hf, if_pos (by omega), if_pos (lv hf)]; exact ih'
          · rw [if_neg hf]; exact ih'
        | false =>
          rw [if_neg (by decide), if_pos (by omega), if_pos (by omega)]
          have ih' : heirloomlaw11_ReachPending.l0 k first ((pend0 th first i).length : Int) ((i : Int) + 1) th rt live pend cl = some true := by simpa using ih
          by_cases hf : rdOf false first (i : Int) = true
          · rw [if_pos hf, if_pos (by omega), if_pos (lv hf)]; exact ih'
          · rw [if_neg hf]; exact ih'
      rw [if_pos (by omega), if_pos (by omega), if_pos (by omega)]
      by_cases c2 : (rd_T43 th (i : Int)).f4 > 0
      · rw [if_pos c2]
        refine fin _ ?_
        unfold pendP
        rw [decide_eq_true c2, Bool.true_and]
      · rw [if_neg c2]
        refine fin _ ?_
        unfold pendP
        rw [decide_eq_false c2, Bool.false_and]
    · rw [if_neg (by omega)]
      have : i = th.length := by omega
      subst this
      exact H (k + 1) (by omega)
theorem ReachPending (th : List S43) (rt : List S40) (hz : Sz th rt) : ∃ k, heirloomlaw11_ReachPending.f k th rt = some true := by
  have al : ∀ k, heirloomlaw11_ReachPending.j0 (k + 1) true th rt = some true := fun k => by
    rw [heirloomlaw11_ReachPending.j0, if_pos rfl, alive_f]; rfl
  rcases hs : smallB th rt with _ | _
  · refine ⟨100, ?_⟩
    unfold heirloomlaw11_ReachPending.f
    rw [small_f th rt hz 100 (by omega), hs, Option.bind_some, if_neg (by decide)]
    exact al 99
  · obtain ⟨b1, b2, b3⟩ := small_bnd hs
    have hb := bnd_mk b1 b2 (show rt.length ≤ 601 by omega)
    obtain ⟨K, HR⟩ := rright th rt (by omega) (fun t ht => by have := b2 t ht; omega) (by omega)
    rcases hrc : rightC th rt with _ | _
    · refine ⟨K + 100, ?_⟩
      unfold heirloomlaw11_ReachPending.f
      rw [small_f th rt hz _ (by omega), hs, Option.bind_some, if_pos rfl, HR _ (by omega), hrc, Option.bind_some]
      exact al _
    · have hRP := (rightC_iff th rt).1 hrc
      obtain ⟨first, live, e1, e2, h1, h2⟩ := collect_f th rt hb
      have l1 := h1.len
      have l2 := h2.len
      have pm : ∀ x, x ∈ pendF th first ↔ 1 ≤ x ∧ x ≤ th.length ∧ 0 < finF th x ∧ rdOf false first (x - 1) = false := fun x => (pend_perm th first).mem_iff.trans (pend0_mem th first x)
      have pl : (pendF th first).length = (pend0 th first th.length).length := (pend_perm th first).length_eq
      have pl2 := pend0_len th first th.length
      obtain ⟨_, rootL, _, _⟩ := strong_char h2
      have hm : ∀ x ∈ pendF th first, 1 ≤ x ∧ x ≤ th.length ∧ 0 < finF th x ∧ rdOf false first (x - 1) = false ∧ rdOf false live (x - 1) = true := fun x hx => by
        obtain ⟨a, b, c, d⟩ := (pm x).1 hx
        exact ⟨a, b, c, d, (rootL x (.inr ⟨hx, a, b⟩)).2⟩
      have nd : (pendF th first).Nodup := (pend_perm th first).nodup_iff.2 (pend0_nodup th first)
      have hso : ∀ i (h : i + 1 < (pendF th first).length), finF th (pendF th first)[i + 1] < finF th (pendF th first)[i] := fun i h => by
        have hi : i < (pendF th first).length := by omega
        have s1 := List.pairwise_iff_getElem.1 (pend_sorted th first) i (i + 1) hi h (by omega)
        have n1 := List.pairwise_iff_getElem.1 nd i (i + 1) hi h (by omega)
        obtain ⟨a, b, c, _, _⟩ := hm _ (List.getElem_mem h)
        obtain ⟨a', b', c', _, _⟩ := hm _ (List.getElem_mem hi)
        have ap := fin_apart hRP ⟨a, b⟩ ⟨a', b'⟩ (fun z => n1 z.symm) c
        simp only [Bool.not_eq_true'] at s1
        rw [← Bool.not_eq_true, ltI_iff] at s1
        omega
      refine ⟨K + 5000, ?_⟩
      unfold heirloomlaw11_ReachPending.f
      rw [small_f th rt hz _ (by omega), hs, Option.bind_some, if_pos rfl, HR _ (by omega), hrc, Option.bind_some]
      show heirloomlaw11_ReachPending.j0 (K + 4999 + 1) false th rt = some true
      rw [heirloomlaw11_ReachPending.j0, if_neg (by decide), e1, Option.bind_some, first_f th rt hb e2, Option.bind_some, if_pos (by omega)]
      rw [show ((live.length : Int) != (first.length : Int)) = false from bne_eq_false_iff_eq.mpr (by omega)]
      show heirloomlaw11_ReachPending.j1 (K + 4998 + 1) first false th rt live (pendF th first) (clearedF th live first) = some true
      rw [heirloomlaw11_ReachPending.j1, if_neg (by decide)]
      have H : ∀ k, 1001 ≤ k → heirloomlaw11_ReachPending.l1 k first ((pend0 th first th.length).length : Int) 0 th rt live (pendF th first) (clearedF th live first) = some true := fun k hk => by
        rw [← pl]
        exact pending_l1 th rt first live (pendF th first) _ (by omega) l1 l2 (by omega) hm hso (pendF th first).length 0 k rfl (by omega) (by omega)
      have := pending_l0 th rt first live (pendF th first) (clearedF th live first) (by omega) l1 l2 (first_live h1 h2) 1001 H th.length 0 (K + 4998) rfl (by omega) (by omega)
      simpa [pend0] using this
end Go.Proofs.Ytollnnbcfhnlfaa.Pure
