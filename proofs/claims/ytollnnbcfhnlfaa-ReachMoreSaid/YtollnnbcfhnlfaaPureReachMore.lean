/- More roots never make fewer objects needed: the plain law. For every graph, value and handle. -/
import Derived.Test.YtollnnbcfhnlfaaG9
import Derived.Test.YtollnnbcfhnlfaaQRx14
set_option linter.unusedVariables false
set_option linter.unusedSimpArgs false
namespace Go.Proofs.Ytollnnbcfhnlfaa.Pure
open Go Go.RowKit Go.Proofs.Ytollnnbcfhnlfaa.QR Go.Proofs.Ytollnnbcfhnlfaa.Rg Go.Proofs.Ytollnnbcfhnlfaa.Jg Go.Proofs.YtollnnbcfhnlfaaW.PrintWords Go.Proofs.YtollnnbcfhnlfaaW.PrintLast Go.Proofs.YtollnnbcfhnlfaaW.PrintMore
theorem more_l0 (a b c : List Bool) (h : Int) (hab : b.length = a.length) (hac : c.length = a.length) (hl : a.length ≤ 1000) (hb : ∀ x, Nd a x → Nd b x) (hc : ∀ x, Nd a x → Nd c x) (hh : 1 ≤ h → h ≤ a.length → Nd b h) :
    ∀ (d i k : Nat), a.length - i = d → i ≤ a.length → d < k → heirloomlaw11_ReachMore.l0 k h a b c (i : Int) = some true
  | d, i, 0, _, _, hk => by omega
  | d, i, k + 1, hd, hi, hk => by
    rw [heirloomlaw11_ReachMore.l0]
    by_cases c1 : i < a.length
    · rw [if_pos (by omega), if_pos (by omega)]
      have ih := more_l0 a b c h hab hac hl hb hc hh (d - 1) (i + 1) k (by omega) (by omega) (by omega)
      rw [w64 (by omega) (by omega)]
      by_cases c2 : rdOf false a (i : Int) = true
      · have hn : Nd a ((i : Int) + 1) := ⟨by omega, by rw [Int.add_sub_cancel]; exact c2⟩
        have h2 := (hb _ hn).2
        have h3 := (hc _ hn).2
        rw [Int.add_sub_cancel] at h2 h3
        rw [if_pos c2, if_pos (by omega), if_pos h2, if_pos (by omega), if_pos h3]
        exact ih
      · rw [if_neg c2]
        exact ih
    · rw [if_neg (by omega)]
      by_cases c3 : h < 1
      · rw [if_pos c3, alive_f]; rfl
      · rw [if_neg c3]
        by_cases c4 : h > (a.length : Int)
        · rw [if_pos c4, alive_f]; rfl
        · rw [if_neg c4, w64 (by omega) (by omega), if_pos (by omega), if_pos (by omega), if_pos (hh (by omega) (by omega)).2, alive_f]
          rfl
theorem ReachMore (th : List S43) (rt : List S40) (t n h : Int) (hz : Sz th rt) : heirloomlaw11_ReachMore.f 2000 th rt t n h = some true := by
  unfold heirloomlaw11_ReachMore.f
  rw [small_f th rt hz 2000 (by omega), Option.bind_some]
  rcases hs : smallB th rt with _ | _
  · rw [if_neg (by decide), alive_f]; rfl
  · rw [if_pos rfl]
    obtain ⟨b1, b2, b3⟩ := small_bnd hs
    obtain ⟨a, ea, ha⟩ := strong_f th rt [] (bnd_mk b1 b2 (by omega)) (by simp)
    obtain ⟨b, eb, hb⟩ := strong_f th rt [h] (bnd_mk b1 b2 (by omega)) (by simp)
    obtain ⟨c, ec, hc⟩ := strong_f th (rt ++ [⟨t, n⟩]) [] (bnd_mk b1 b2 (by simp; omega)) (by decide)
    obtain ⟨la, ra, ca, ma⟩ := strong_char ha
    obtain ⟨lb, rb, cb, mb⟩ := strong_char hb
    obtain ⟨lc, rc, cc, mc⟩ := strong_char hc
    rw [ea, Option.bind_some, eb, Option.bind_some, Option.bind_some]
    rw [if_pos (by simp; omega), Option.bind_some, Option.bind_some, if_pos (by simp; omega), List.nil_append, ec, Option.bind_some, if_pos (by omega), if_pos (by omega)]
    rw [show ((c.length : Int) != (a.length : Int)) = false from bne_eq_false_iff_eq.mpr (by omega)]
    rw [heirloomlaw11_ReachMore.j0, if_neg (by decide)]
    refine more_l0 a b c h (by omega) (by omega) (by omega) ?_ ?_ ?_ a.length 0 1999 (by omega) (by omega) (by omega)
    · exact ma _ (fun x hx => rb x (hx.imp id (fun z => nomatch z.1))) cb
    · exact ma _ (fun x hx => rc x (hx.imp (fun ⟨v, hv, o⟩ => ⟨v, List.mem_append.2 (.inl hv), o⟩) id)) cc
    · exact fun h1 h2 => rb h (.inr ⟨List.mem_singleton.2 rfl, h1, by omega⟩)
end Go.Proofs.Ytollnnbcfhnlfaa.Pure
