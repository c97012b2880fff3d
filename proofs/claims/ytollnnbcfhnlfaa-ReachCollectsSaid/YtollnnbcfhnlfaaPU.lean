/- The reference's Strong, as it is looped over: what it hands back is the least closed list that holds the roots. Conditions: at most 1000 things, each of at most 1000 slots, at most 1000 roots and 1000 more. -/
import Derived.Test.YtollnnbcfhnlfaaPT
set_option linter.unusedVariables false
set_option linter.unusedSimpArgs false
namespace Go.Proofs.Ytollnnbcfhnlfaa.Pure
open Go Go.RowKit Go.Proofs.Ytollnnbcfhnlfaa.QR Go.Proofs.Ytollnnbcfhnlfaa.Rg Go.Proofs.Ytollnnbcfhnlfaa.Jg Go.Proofs.YtollnnbcfhnlfaaW.PrintWords Go.Proofs.YtollnnbcfhnlfaaW.PrintLast Go.Proofs.YtollnnbcfhnlfaaW.PrintMore
/-- slot i of thing h leads to nothing that is not needed -/
def ClosedAt (th : List S43) (nd : List Bool) (h i : Nat) : Prop :=
 rdOf false nd (h : Int) = true → ∀ o, Rg.Obj th (rd_T40 (rd_T43 th h).f3 i) o → leadsB th (weakF (rd_T43 th h).f0 (rd_T43 th h).f1) (rd_T43 th h).f2 (rd_T43 th h).f3 nd i = true → Nd nd o
/-- within a sweep that began at nd0, at thing h and its slot i -/
structure Sw (th : List S43) (r nd0 nd : List Bool) (ag : Bool) (h i : Nat) : Prop where
 len : nd.length = th.length
 mono : ∀ x, Nd nd0 x → Nd nd x
 sound : ∀ x, Nd nd x → Nd r x
 more : ag = true → nd.count false < nd0.count false
 same : ag = false → nd = nd0 ∧ (∀ a b, a < h → b < (rd_T43 th a).f3.length → ClosedAt th nd0 a b) ∧ ∀ b, b < i → ClosedAt th nd0 h b
theorem strong_l4 (th : List S43) (rt : List S40) (hl : th.length ≤ 1000) (hs : ∀ t ∈ th, t.f3.length ≤ 1000) (r nd0 : List Bool) (hrl : r.length = th.length) (hr : Closed th (Nd r)) (h : Nat) (hh : h < th.length)
  (H : ∀ nd ag, Sw th r nd0 nd ag (h + 1) 0 → ∃ K, ∀ k, K ≤ k → heirloomref11_Strong.l3 k nd ag ((h : Int) + 1) th rt = some r) :
  ∀ (d i : Nat) (nd : List Bool) (ag : Bool), (rd_T43 th h).f3.length - i = d → i ≤ (rd_T43 th h).f3.length → Sw th r nd0 nd ag h i → ∃ K, ∀ k, K ≤ k → heirloomref11_Strong.l4 k nd ag (h : Int) (i : Int) th rt (rd_T43 th h).f0 (rd_T43 th h).f1 (rd_T43 th h).f2 (rd_T43 th h).f3 (rd_T43 th h).f4 = some r
 | d, i, nd, ag, hd, hi, S => by
  have htl : (rd_T43 th h).f3.length ≤ 1000 := hs _ (by rw [rd43_get hh]; exact List.getElem_mem _)
  have sl := S.len
  have leave : (rdOf false nd (h : Int) = false ∨ i = (rd_T43 th h).f3.length) → ∃ K, ∀ k, K ≤ k → heirloomref11_Strong.j5 k nd ag (h : Int) (i : Int) false th rt (rd_T43 th h).f0 (rd_T43 th h).f1 (rd_T43 th h).f2 (rd_T43 th h).f3 (rd_T43 th h).f4 = some r := by
   intro why
   obtain ⟨K, HK⟩ := H nd ag ⟨S.len, S.mono, S.sound, S.more, fun e => by
    obtain ⟨e1, e2, e3⟩ := S.same e
    refine ⟨e1, fun a b ha hb => ?_, fun b hb => absurd hb (by omega)⟩
    by_cases c : a < h
    ·exact e2 a b c hb
    ·obtain rfl : a = h := by omega
     rcases why with w | w
     ·intro y
      rw [← e1, w] at y
      cases y
     ·exact e3 b (by omega)⟩
   refine ⟨K + 1, fun k hk => ?_⟩
   obtain ⟨k, rfl⟩ : ∃ j, k = j + 1 := ⟨k - 1, by omega⟩
   rw [heirloomref11_Strong.j5, if_neg (by decide), w64 (by omega) (by omega)]
   exact HK k (by omega)
  by_cases hn : rdOf false nd (h : Int) = true
  ·by_cases c : i < (rd_T43 th h).f3.length
   ·obtain ⟨o, ho⟩ : ∃ o, objF th (rd_T40 (rd_T43 th h).f3 i).f0 (rd_T40 (rd_T43 th h).f3 i).f1 = o := ⟨_, rfl⟩
    have obd := obj_bd th (rd_T40 (rd_T43 th h).f3 i).f0 (rd_T40 (rd_T43 th h).f3 i).f1
    rw [ho] at obd
    have hX : Nd nd ((h : Int) + 1) := ⟨by omega, by rw [Int.add_sub_cancel]; exact hn⟩
    have stay : (∀ k : Nat, o > 0 → rdOf false nd (o - 1) = false → leadsB th (weakF (rd_T43 th h).f0 (rd_T43 th h).f1) (rd_T43 th h).f2 (rd_T43 th h).f3 nd i = false) → ∃ K, ∀ k, K ≤ k → heirloomref11_Strong.l4 k nd ag (h : Int) ((i : Int) + 1) th rt (rd_T43 th h).f0 (rd_T43 th h).f1 (rd_T43 th h).f2 (rd_T43 th h).f3 (rd_T43 th h).f4 = some r := by
     intro why
     refine strong_l4 th rt hl hs r nd0 hrl hr h hh H (d - 1) (i + 1) nd ag (by omega) (by omega) ⟨S.len, S.mono, S.sound, S.more, fun e => ?_⟩
     obtain ⟨e1, e2, e3⟩ := S.same e
     refine ⟨e1, e2, fun b hb => ?_⟩
     by_cases c2 : b < i
     ·exact e3 b c2
     ·obtain rfl : b = i := by omega
      intro y o' ho' hb'
      obtain ⟨p, rfl⟩ := ho'
      rw [ho] at p ⊢
      rw [← e1] at hb' ⊢
      by_cases c3 : rdOf false nd (o - 1) = true
      ·exact ⟨by omega, c3⟩
      ·rw [why 0 (by omega) (by simpa using c3)] at hb'
       cases hb'
    have step : ∃ K, ∀ k, K ≤ k → heirloomref11_Strong.j5 k nd ag (h : Int) (i : Int) true th rt (rd_T43 th h).f0 (rd_T43 th h).f1 (rd_T43 th h).f2 (rd_T43 th h).f3 (rd_T43 th h).f4 = some r := by
     have open_ : ∀ k, 10 ≤ k → heirloomref11_Strong.j5 (k + 1) nd ag (h : Int) (i : Int) true th rt (rd_T43 th h).f0 (rd_T43 th h).f1 (rd_T43 th h).f2 (rd_T43 th h).f3 (rd_T43 th h).f4 = (if o > 0 then (if rdOf false nd (o - 1) = true then heirloomref11_Strong.l4 k nd ag (h : Int) ((i : Int) + 1) th rt (rd_T43 th h).f0 (rd_T43 th h).f1 (rd_T43 th h).f2 (rd_T43 th h).f3 (rd_T43 th h).f4 else if leadsB th (weakF (rd_T43 th h).f0 (rd_T43 th h).f1) (rd_T43 th h).f2 (rd_T43 th h).f3 nd i = true then heirloomref11_Strong.l4 k (nd.set (o - 1).toNat true) true (h : Int) ((i : Int) + 1) th rt (rd_T43 th h).f0 (rd_T43 th h).f1 (rd_T43 th h).f2 (rd_T43 th h).f3 (rd_T43 th h).f4 else heirloomref11_Strong.l4 k nd ag (h : Int) ((i : Int) + 1) th rt (rd_T43 th h).f0 (rd_T43 th h).f1 (rd_T43 th h).f2 (rd_T43 th h).f3 (rd_T43 th h).f4) else heirloomref11_Strong.l4 k nd ag (h : Int) ((i : Int) + 1) th rt (rd_T43 th h).f0 (rd_T43 th h).f1 (rd_T43 th h).f2 (rd_T43 th h).f3 (rd_T43 th h).f4) := fun k hk => by
      rw [heirloomref11_Strong.j5, if_pos rfl, if_pos (by omega), if_pos (by omega), robj th rt (by omega) _ _ k (by omega), Option.bind_some, ho, w64 (x := (i : Int) + 1) (by omega) (by omega)]
      by_cases c4 : o > 0
      ·rw [if_pos c4, if_pos c4, w64 (x := o - 1) (by omega) (by omega), if_pos (by omega), if_pos (by omega), leads_f th rt hl _ _ _ _ _ _ nd S.len htl (by omega) (by omega) k (by omega), Option.bind_some]
      ·rw [if_neg c4, if_neg c4]
     by_cases c4 : o > 0
     ·by_cases c5 : rdOf false nd (o - 1) = true
      ·obtain ⟨K, HK⟩ := stay (fun _ _ z => absurd (c5.symm.trans z) (by decide))
       refine ⟨K + 20, fun k hk => ?_⟩
       obtain ⟨k, rfl⟩ : ∃ j, k = j + 1 := ⟨k - 1, by omega⟩
       rw [open_ k (by omega), if_pos c4, if_pos c5]
       exact HK k (by omega)
      ·by_cases c6 : leadsB th (weakF (rd_T43 th h).f0 (rd_T43 th h).f1) (rd_T43 th h).f2 (rd_T43 th h).f3 nd i = true
       ·have c5' : rdOf false nd (o - 1) = false := by simpa using c5
        have ndset : ∀ x, Nd (nd.set (o - 1).toNat true) x ↔ Nd nd x ∨ x = o := fun x => nd_set (by omega) (by omega)
        have cnt := count_set (l := nd) (i := (o - 1).toNat) (by omega) (by rw [Int.toNat_of_nonneg (by omega)]; exact c5')
        have cnt0 : nd.count false ≤ nd0.count false := by
         rcases z : ag with _ | _
         ·rw [(S.same z).1]; exact Nat.le_refl _
         ·exact Nat.le_of_lt (S.more z)
        obtain ⟨K, HK⟩ := strong_l4 th rt hl hs r nd0 hrl hr h hh H (d - 1) (i + 1) (nd.set (o - 1).toNat true) true (by omega) (by omega) ⟨by rw [List.length_set]; exact S.len, fun x hx => (ndset x).2 (.inl (S.mono x hx)), fun x hx => by
         rcases (ndset x).1 hx with z | rfl
         ·exact S.sound x z
         ·refine hr ((h : Int) + 1) (S.sound _ hX) x ?_
          exact LeadD.mono S.sound ((lead_iff th nd ((h : Int) + 1) x (wk_le th _)).2 (by
           rw [Int.add_sub_cancel]
           refine ⟨i, c, ⟨by rw [ho]; omega, ho.symm⟩, ?_⟩
           unfold wk
           rw [Int.add_sub_cancel]
           exact c6)), fun _ => by omega, fun z => by cases z⟩
        refine ⟨K + 20, fun k hk => ?_⟩
        obtain ⟨k, rfl⟩ : ∃ j, k = j + 1 := ⟨k - 1, by omega⟩
        rw [open_ k (by omega), if_pos c4, if_neg c5, if_pos c6]
        exact HK k (by omega)
       ·obtain ⟨K, HK⟩ := stay (fun _ _ _ => by simpa using c6)
        refine ⟨K + 20, fun k hk => ?_⟩
        obtain ⟨k, rfl⟩ : ∃ j, k = j + 1 := ⟨k - 1, by omega⟩
        rw [open_ k (by omega), if_pos c4, if_neg c5, if_neg c6]
        exact HK k (by omega)
     ·obtain ⟨K, HK⟩ := stay (fun _ z => absurd z c4)
      refine ⟨K + 20, fun k hk => ?_⟩
      obtain ⟨k, rfl⟩ : ∃ j, k = j + 1 := ⟨k - 1, by omega⟩
      rw [open_ k (by omega), if_neg c4]
      exact HK k (by omega)
    obtain ⟨K, HK⟩ := step
    refine ⟨K + 1, fun k hk => ?_⟩
    obtain ⟨k, rfl⟩ : ∃ j, k = j + 1 := ⟨k - 1, by omega⟩
    rw [heirloomref11_Strong.l4, if_pos (by omega), if_pos (by omega), if_pos hn, decide_eq_true (show (i : Int) < ((rd_T43 th h).f3.length : Int) by omega)]
    exact HK k (by omega)
   ·obtain ⟨K, HK⟩ := leave (.inr (by omega))
    refine ⟨K + 1, fun k hk => ?_⟩
    obtain ⟨k, rfl⟩ : ∃ j, k = j + 1 := ⟨k - 1, by omega⟩
    rw [heirloomref11_Strong.l4, if_pos (by omega), if_pos (by omega), if_pos hn, decide_eq_false (show ¬ (i : Int) < ((rd_T43 th h).f3.length : Int) by omega)]
    exact HK k (by omega)
  ·obtain ⟨K, HK⟩ := leave (.inl (by simpa using hn))
   refine ⟨K + 1, fun k hk => ?_⟩
   obtain ⟨k, rfl⟩ : ∃ j, k = j + 1 := ⟨k - 1, by omega⟩
   rw [heirloomref11_Strong.l4, if_pos (by omega), if_pos (by omega), if_neg hn]
   exact HK k (by omega)
termination_by d => d
decreasing_by all_goals omega
theorem strong_l3 (th : List S43) (rt : List S40) (hl : th.length ≤ 1000) (hs : ∀ t ∈ th, t.f3.length ≤ 1000) (r nd0 : List Bool) (hrl : r.length = th.length) (hr : Closed th (Nd r))
  (H : ∀ nd, nd.length = th.length → (∀ x, Nd nd0 x → Nd nd x) → (∀ x, Nd nd x → Nd r x) → nd.count false < nd0.count false → ∃ K, ∀ k, K ≤ k → heirloomref11_Strong.l2 k nd true th rt = some r)
  (low : ∀ nd, nd.length = th.length → (∀ x, Nd nd0 x → Nd nd x) → (∀ x, Nd nd x → Nd r x) → Closed th (Nd nd) → nd = r) :
  ∀ (d h : Nat) (nd : List Bool) (ag : Bool), th.length - h = d → h ≤ th.length → Sw th r nd0 nd ag h 0 → ∃ K, ∀ k, K ≤ k → heirloomref11_Strong.l3 k nd ag (h : Int) th rt = some r
 | d, h, nd, ag, hd, hh, S => by
  by_cases c : h < th.length
  ·obtain ⟨K, HK⟩ := strong_l4 th rt hl hs r nd0 hrl hr h c (fun nd' ag' S' => strong_l3 th rt hl hs r nd0 hrl hr H low (d - 1) (h + 1) nd' ag' (by omega) (by omega) S') _ 0 nd ag rfl (by omega) S
   refine ⟨K + 1, fun k hk => ?_⟩
   obtain ⟨k, rfl⟩ : ∃ j, k = j + 1 := ⟨k - 1, by omega⟩
   rw [heirloomref11_Strong.l3, if_pos (by omega), if_pos (by omega)]
   exact HK k (by omega)
  ·have fin : ∃ K, ∀ k, K ≤ k → heirloomref11_Strong.l2 k nd ag th rt = some r := by
    rcases z : ag with _ | _
    ·obtain ⟨e1, e2, _⟩ := S.same z
     refine ⟨1, fun k hk => ?_⟩
     obtain ⟨k, rfl⟩ : ∃ j, k = j + 1 := ⟨k - 1, by omega⟩
     rw [heirloomref11_Strong.l2, if_neg (by decide), low nd S.len S.mono S.sound]
     intro x hx o ho
     have hx1 := hx.1
     have xl : x ≤ th.length := by
      by_cases z : x - 1 < nd.length
      ·have := S.len; omega
      ·have := hx.2
       unfold rdOf at this
       rw [List.getD_eq_getElem?_getD, List.getElem?_eq_none (by omega)] at this
       cases this
     obtain ⟨i, hi, ho', hb⟩ := (lead_iff th nd x o (wk_le th _)).1 ho
     have ex : ((x - 1).toNat : Int) = x - 1 := by omega
     have := e2 (x - 1).toNat i (by omega) (by rw [ex]; exact hi)
     unfold ClosedAt at this
     rw [ex, ← e1] at this
     exact this hx.2 o ho' hb
    ·exact H nd S.len S.mono S.sound (S.more z)
   obtain ⟨K, HK⟩ := fin
   refine ⟨K + 1, fun k hk => ?_⟩
   obtain ⟨k, rfl⟩ : ∃ j, k = j + 1 := ⟨k - 1, by omega⟩
   rw [heirloomref11_Strong.l3, if_neg (by omega)]
   exact HK k (by omega)
termination_by d => d
decreasing_by all_goals omega
theorem strong_l2 (th : List S43) (rt : List S40) (hl : th.length ≤ 1000) (hs : ∀ t ∈ th, t.f3.length ≤ 1000) (r : List Bool) (hrl : r.length = th.length) (hr : Closed th (Nd r)) :
  ∀ (m : Nat) (nd : List Bool), nd.count false ≤ m → nd.length = th.length → (∀ x, Nd nd x → Nd r x) → (∀ nd', nd'.length = th.length → (∀ x, Nd nd x → Nd nd' x) → (∀ x, Nd nd' x → Nd r x) → Closed th (Nd nd') → nd' = r) →
   ∃ K, ∀ k, K ≤ k → heirloomref11_Strong.l2 k nd true th rt = some r
 | m, nd, hm, hn, hsd, low => by
  obtain ⟨K, HK⟩ := strong_l3 th rt hl hs r nd hrl hr (fun nd' h1 h2 h3 h4 => strong_l2 th rt hl hs r hrl hr (m - 1) nd' (by omega) h1 h3 (fun nd'' a b c d => low nd'' a (fun x hx => b x (h2 x hx)) c d)) low _ 0 nd false rfl (by omega) ⟨hn, fun _ h => h, hsd, fun z => (by cases z), fun _ => ⟨rfl, fun a b ha => absurd ha (by omega), fun b hb => absurd hb (by omega)⟩⟩
  refine ⟨K + 1, fun k hk => ?_⟩
  obtain ⟨k, rfl⟩ : ∃ j, k = j + 1 := ⟨k - 1, by omega⟩
  rw [heirloomref11_Strong.l2, if_pos rfl]
  exact HK k (by omega)
termination_by m => m
decreasing_by all_goals omega
theorem strong_l1 (th : List S43) (rt : List S40) (hl : th.length ≤ 1000) (hs : ∀ t ∈ th, t.f3.length ≤ 1000) (mo : List Int) (hm : mo.length ≤ 1000) (r : List Bool) (hrl : r.length = th.length) (hr : Closed th (Nd r)) (hmr : ∀ x ∈ mo, 1 ≤ x → x ≤ th.length → Nd r x) :
  ∀ (d i : Nat) (nd : List Bool), mo.length - i = d → i ≤ mo.length → nd.length = th.length → (∀ x, Nd nd x → Nd r x) → (∀ nd', nd'.length = th.length → (∀ x, Nd nd x → Nd nd' x) → (∀ x ∈ mo.drop i, 1 ≤ x → x ≤ th.length → Nd nd' x) → (∀ x, Nd nd' x → Nd r x) → Closed th (Nd nd') → nd' = r) →
   ∃ K, ∀ k, K ≤ k → heirloomref11_Strong.l1 k mo nd (i : Int) th rt = some r
 | d, i, nd, hd, hi, hn, hsd, low => by
  by_cases c : i < mo.length
  ·have hrd : rd mo (i : Int) = mo[i] := by
    unfold rd
    rw [Int.toNat_natCast, List.getD_eq_getElem?_getD, List.getElem?_eq_getElem c]
    rfl
   obtain ⟨m, hm'⟩ : ∃ m, mo[i] = m := ⟨_, rfl⟩
   have hdr : mo.drop i = m :: mo.drop (i + 1) := by rw [List.drop_eq_getElem_cons c, hm']
   have hin : m ∈ mo := by rw [← hm']; exact List.getElem_mem c
   by_cases c2 : 1 ≤ m ∧ m ≤ th.length
   ·have ndset : ∀ x, Nd (nd.set (m - 1).toNat true) x ↔ Nd nd x ∨ x = m := fun x => nd_set (by omega) (by omega)
    obtain ⟨K, HK⟩ := strong_l1 th rt hl hs mo hm r hrl hr hmr (d - 1) (i + 1) (nd.set (m - 1).toNat true) (by omega) (by omega) (by rw [List.length_set]; exact hn) (fun x hx => by
     rcases (ndset x).1 hx with z | rfl
     ·exact hsd x z
     ·exact hmr x hin c2.1 c2.2) (fun nd' h1 h2 h3 h4 h5 => low nd' h1 (fun x hx => h2 x ((ndset x).2 (.inl hx))) (fun x hx a b => by
      rw [hdr] at hx
      rcases List.mem_cons.1 hx with rfl | z
      ·exact h2 x ((ndset x).2 (.inr rfl))
      ·exact h3 x z a b) h4 h5)
    refine ⟨K + 1, fun k hk => ?_⟩
    obtain ⟨k, rfl⟩ : ∃ j, k = j + 1 := ⟨k - 1, by omega⟩
    rw [heirloomref11_Strong.l1, if_pos (by omega), if_pos (by omega), hrd, hm', if_pos (by omega), if_pos (by omega), w64 (x := m - 1) (by omega) (by omega), if_pos (by omega), if_pos (by omega), w64 (x := (i : Int) + 1) (by omega) (by omega)]
    exact HK k (by omega)
   ·obtain ⟨K, HK⟩ := strong_l1 th rt hl hs mo hm r hrl hr hmr (d - 1) (i + 1) nd (by omega) (by omega) hn hsd (fun nd' h1 h2 h3 h4 h5 => low nd' h1 h2 (fun x hx a b => by
      rw [hdr] at hx
      rcases List.mem_cons.1 hx with rfl | z
      ·exact absurd ⟨a, b⟩ c2
      ·exact h3 x z a b) h4 h5)
    refine ⟨K + 1, fun k hk => ?_⟩
    obtain ⟨k, rfl⟩ : ∃ j, k = j + 1 := ⟨k - 1, by omega⟩
    rw [heirloomref11_Strong.l1, if_pos (by omega), if_pos (by omega), hrd, hm', w64 (x := (i : Int) + 1) (by omega) (by omega)]
    by_cases c3 : m ≥ 1
    ·rw [if_pos c3, if_neg (by omega)]; exact HK k (by omega)
    ·rw [if_neg c3]; exact HK k (by omega)
  ·obtain ⟨K, HK⟩ := strong_l2 th rt hl hs r hrl hr _ nd (Nat.le_refl _) hn hsd (fun nd' h1 h2 h3 h4 => low nd' h1 h2 (fun x hx => by
    rw [List.drop_eq_nil_of_le (by omega)] at hx
    cases hx) h3 h4)
   refine ⟨K + 1, fun k hk => ?_⟩
   obtain ⟨k, rfl⟩ : ∃ j, k = j + 1 := ⟨k - 1, by omega⟩
   rw [heirloomref11_Strong.l1, if_neg (by omega)]
   exact HK k (by omega)
termination_by d => d
decreasing_by all_goals omega
theorem strong_l0 (th : List S43) (rt : List S40) (hl : th.length ≤ 1000) (hs : ∀ t ∈ th, t.f3.length ≤ 1000) (hrt : rt.length ≤ 1000) (mo : List Int) (hm : mo.length ≤ 1000) (r : List Bool) (hrl : r.length = th.length) (hr : Closed th (Nd r)) (hroot : ∀ x, Root th rt mo x → Nd r x) :
  ∀ (d i : Nat) (nd : List Bool), rt.length - i = d → i ≤ rt.length → nd.length = th.length → (∀ x, Nd nd x → Nd r x) → (∀ nd', nd'.length = th.length → (∀ x, Nd nd x → Nd nd' x) → (∀ v ∈ rt.drop i, ∀ o, Rg.Obj th v o → Nd nd' o) → (∀ x ∈ mo, 1 ≤ x → x ≤ th.length → Nd nd' x) → (∀ x, Nd nd' x → Nd r x) → Closed th (Nd nd') → nd' = r) →
   ∃ K, ∀ k, K ≤ k → heirloomref11_Strong.l0 k mo nd (i : Int) th rt = some r
 | d, i, nd, hd, hi, hn, hsd, low => by
  by_cases c : i < rt.length
  ·obtain ⟨v, hv⟩ : ∃ v, rt[i] = v := ⟨_, rfl⟩
   have hrd : rd_T40 rt (i : Int) = v := by rw [rd40_get c, hv]
   have hdr : rt.drop i = v :: rt.drop (i + 1) := by rw [List.drop_eq_getElem_cons c, hv]
   have hin : v ∈ rt := by rw [← hv]; exact List.getElem_mem c
   obtain ⟨o, ho⟩ : ∃ o, objF th v.f0 v.f1 = o := ⟨_, rfl⟩
   have obd := obj_bd th v.f0 v.f1
   rw [ho] at obd
   by_cases c2 : o > 0
   ·have ndset : ∀ x, Nd (nd.set (o - 1).toNat true) x ↔ Nd nd x ∨ x = o := fun x => nd_set (by omega) (by omega)
    obtain ⟨K, HK⟩ := strong_l0 th rt hl hs hrt mo hm r hrl hr hroot (d - 1) (i + 1) (nd.set (o - 1).toNat true) (by omega) (by omega) (by rw [List.length_set]; exact hn) (fun x hx => by
     rcases (ndset x).1 hx with z | rfl
     ·exact hsd x z
     ·exact hroot x (.inl ⟨v, hin, by rw [ho]; omega, ho.symm⟩)) (fun nd' h1 h2 h3 h3' h4 h5 => low nd' h1 (fun x hx => h2 x ((ndset x).2 (.inl hx))) (fun y hy o' ho' => by
      rw [hdr] at hy
      rcases List.mem_cons.1 hy with rfl | z
      ·exact h2 o' ((ndset o').2 (.inr (ho'.2.trans ho)))
      ·exact h3 y z o' ho') h3' h4 h5)
    refine ⟨K + 10, fun k hk => ?_⟩
    obtain ⟨k, rfl⟩ : ∃ j, k = j + 1 := ⟨k - 1, by omega⟩
    rw [heirloomref11_Strong.l0, if_pos (by omega), if_pos (by omega), hrd, robj th rt (by omega) _ _ k (by omega), Option.bind_some, ho, if_pos c2, Option.bind_some, w64 (x := o - 1) (by omega) (by omega), if_pos (by omega), if_pos (by omega), w64 (x := (i : Int) + 1) (by omega) (by omega)]
    exact HK k (by omega)
   ·obtain ⟨K, HK⟩ := strong_l0 th rt hl hs hrt mo hm r hrl hr hroot (d - 1) (i + 1) nd (by omega) (by omega) hn hsd (fun nd' h1 h2 h3 h3' h4 h5 => low nd' h1 h2 (fun y hy o' ho' => by
      rw [hdr] at hy
      rcases List.mem_cons.1 hy with rfl | z
      ·have := ho'.1; rw [ho] at this; omega
      ·exact h3 y z o' ho') h3' h4 h5)
    refine ⟨K + 10, fun k hk => ?_⟩
    obtain ⟨k, rfl⟩ : ∃ j, k = j + 1 := ⟨k - 1, by omega⟩
    rw [heirloomref11_Strong.l0, if_pos (by omega), if_pos (by omega), hrd, robj th rt (by omega) _ _ k (by omega), Option.bind_some, ho, if_neg c2, w64 (x := (i : Int) + 1) (by omega) (by omega)]
    exact HK k (by omega)
  ·obtain ⟨K, HK⟩ := strong_l1 th rt hl hs mo hm r hrl hr (fun x hx a b => hroot x (.inr ⟨hx, a, b⟩)) _ 0 nd rfl (by omega) hn hsd (fun nd' h1 h2 h3 h4 h5 => low nd' h1 h2 (fun x hx => by
    rw [List.drop_eq_nil_of_le (by omega)] at hx
    cases hx) (by rw [List.drop_zero] at h3; exact h3) h4 h5)
   refine ⟨K + 1, fun k hk => ?_⟩
   obtain ⟨k, rfl⟩ : ∃ j, k = j + 1 := ⟨k - 1, by omega⟩
   rw [heirloomref11_Strong.l0, if_neg (by omega)]
   exact HK k (by omega)
termination_by d => d
decreasing_by all_goals omega
theorem rstrong (th : List S43) (rt : List S40) (hl : th.length ≤ 1000) (hs : ∀ t ∈ th, t.f3.length ≤ 1000) (hrt : rt.length ≤ 1000) (mo : List Int) (hm : mo.length ≤ 1000) {r : List Bool} (hS : StrongR th rt mo r) : ∃ K, ∀ k, K ≤ k → heirloomref11_Strong.f k th rt mo = some r := by
 obtain ⟨hrl, hroot, hr, least⟩ := strong_char hS
 have n0 : ∀ x, ¬ Nd (List.replicate th.length false) x := by
  intro x hx
  have h2 := hx.2
  unfold rdOf at h2
  rw [List.getD_eq_getElem?_getD, List.getElem?_replicate] at h2
  split at h2 <;> cases h2
 obtain ⟨K, HK⟩ := strong_l0 th rt hl hs hrt mo hm r hrl hr hroot _ 0 (List.replicate th.length false) rfl (by omega) List.length_replicate (fun x hx => absurd hx (n0 x)) (fun nd' h1 _ h3 h3' h4 h5 =>
  bools_ext h1 hrl (fun x => ⟨h4 x, least (Nd nd') (fun y hy => by
   rcases hy with ⟨v, hv, ho⟩ | ⟨a, b, c⟩
   ·exact h3 v (by rw [List.drop_zero]; exact hv) y ho
   ·exact h3' y a b c) h5 x⟩))
 refine ⟨K, fun k hk => ?_⟩
 unfold heirloomref11_Strong.f
 rw [if_pos (by omega), if_pos (by rw [Int.toNat_natCast]; omega), Int.toNat_natCast]
 exact HK k hk
end Go.Proofs.Ytollnnbcfhnlfaa.Pure
