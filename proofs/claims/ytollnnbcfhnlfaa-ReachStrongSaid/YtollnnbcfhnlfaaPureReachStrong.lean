/- Which objects are needed is told as the reference tells it: the plain law. For every graph and every list of handles. -/
import Derived.Test.YtollnnbcfhnlfaaPU
import Derived.Test.YtollnnbcfhnlfaaQRx9
set_option linter.unusedVariables false
set_option linter.unusedSimpArgs false
namespace Go.Proofs.Ytollnnbcfhnlfaa.Jg
open Go Go.ChangeShapes Go.WideShapes Go.RowKit Go.Deep Go.Proofs.Ytollnnbcfhnlfaa.QR Go.Proofs.YtollnnbcfhnlfaaW.PrintWords
variable {H : Type} {enc : TypeId × Value → H} {w : World} {base : Nat} {spare : Nat → Bool} {held : Bool}
theorem open_ints {fuel : Nat} {cs : List Value} {x : DataW H × List MemPlace} (h : DataW.trod enc Try.prog w base spare held fuel 26 cs = some x) :
    ∃ (A : Option Addr) (c : Nat) (l : List Int), cs = [.slice A l.length c] ∧ l.length ≤ c ∧ Kd.C (Kd.int .i64) w A l.length l := by
  rcases open_slice Try.underlying26 h with ⟨rfl, _⟩ | ⟨a, len, cap, m, n, D, Pl, rfl, _, hl, hcm, hm, rfl, hel⟩
  · exact ⟨none, 0, [], rfl, Nat.le_refl _, Kd.C_nil _ _⟩
  · obtain ⟨S, hv, hp⟩ := list_of_each (fun i (p : Int) => w.cells? base (a.add (i * 1)) 1 = some [.int .i64 p]) len (fun i hi => by
      obtain ⟨cs', h1, h2⟩ := hel i (by rw [hm]; split <;> omega)
      rw [cellsOf3] at h1
      obtain ⟨p, e, _, _⟩ := DataW.trod_int Try.underlying3 h2
      rw [e] at h1
      exact ⟨p, h1⟩)
    have hml : maxLen = 9223372036854775807 := by decide
    refine ⟨some a, cap, S, by rw [hv], by omega, ⟨rfl, by omega, fun _ => ⟨a, rfl, fun j p hj => ?_⟩⟩⟩
    obtain ⟨hj1, rfl⟩ := List.getElem?_eq_some_iff.1 hj
    have hb := hp j hj1
    obtain ⟨_, hlen, hcell⟩ := World.cells?_some hb
    refine ⟨_, rfl, rfl, fun i u hu => ?_⟩
    have hi := (List.getElem?_eq_some_iff.1 hu).1
    have := (hcell i hi).trans hu
    rwa [Deep.add_add] at this
end Go.Proofs.Ytollnnbcfhnlfaa.Jg
namespace Go.Proofs.Ytollnnbcfhnlfaa.Pure
open Go Go.RowKit Go.Proofs.Ytollnnbcfhnlfaa.QR Go.Proofs.Ytollnnbcfhnlfaa.Rg Go.Proofs.Ytollnnbcfhnlfaa.Jg Go.Proofs.YtollnnbcfhnlfaaW.PrintWords Go.Proofs.YtollnnbcfhnlfaaW.PrintLast Go.Proofs.YtollnnbcfhnlfaaW.PrintMore
theorem bools_l0 (a : List Bool) (hl : a.length ≤ 1000000) : ∀ (d i k : Nat), a.length - i = d → i ≤ a.length → d < k → heirloomlaw11_Bools.l0 k a a (i : Int) = some true
  | d, i, 0, _, _, hk => by omega
  | d, i, k + 1, hd, hi, hk => by
    rw [heirloomlaw11_Bools.l0]
    by_cases c : i < a.length
    · have ih : heirloomlaw11_Bools.l0 k a a ((i : Int) + 1) = some true := bools_l0 a hl (d - 1) (i + 1) k (by omega) (by omega) (by omega)
      rw [if_pos (by omega), if_pos (by omega), if_pos (by omega), if_neg (by simp), w64 (by omega) (by omega)]
      exact ih
    · rw [if_neg (by omega)]
theorem bools_f (a : List Bool) (hl : a.length ≤ 1000000) (k : Nat) (hk : a.length < k) : heirloomlaw11_Bools.f k a a = some true := by
  unfold heirloomlaw11_Bools.f
  rw [if_pos rfl]
  exact bools_l0 a hl a.length 0 k rfl (by omega) hk
theorem ReachStrong (th : List S43) (rt : List S40) (mo : List Int) (hz : Sz th rt) : ∃ k, heirloomlaw11_ReachStrong.f k th rt mo = some true := by
  have al : ∀ k, heirloomlaw11_ReachStrong.j0 (k + 1) mo true th rt = some true := fun k => by
    rw [heirloomlaw11_ReachStrong.j0, if_pos rfl, alive_f]; rfl
  rcases hs : smallB th rt with _ | _
  · refine ⟨100, ?_⟩
    unfold heirloomlaw11_ReachStrong.f
    rw [small_f th rt hz 100 (by omega), hs, Option.bind_some, if_neg (by decide)]
    exact al 99
  · obtain ⟨b1, b2, b3⟩ := small_bnd hs
    have hb := bnd_mk b1 b2 (show rt.length ≤ 601 by omega)
    by_cases hm : (mo.length : Int) > 60
    · refine ⟨100, ?_⟩
      unfold heirloomlaw11_ReachStrong.f
      rw [small_f th rt hz 100 (by omega), hs, Option.bind_some, if_pos rfl, decide_eq_true hm]
      exact al 99
    · have hsl : ∀ t ∈ th, t.f3.length ≤ 1000 := fun t ht => by have := b2 t ht; omega
      obtain ⟨K, HR⟩ := rright th rt (by omega) hsl (by omega)
      obtain ⟨r, e1, h1⟩ := strong_f th rt mo hb (by omega)
      obtain ⟨K2, HS⟩ := rstrong th rt (by omega) hsl (by omega) mo (by omega) h1
      have lr := h1.len
      have rf : reach_Right.f th rt = some (rightC th rt) := by
        unfold reach_Right.f
        rw [if_pos ⟨hb, List.all_eq_true.2 (fun t ht => (hz.2.2 t ht).2)⟩]
      refine ⟨K + K2 + 2000, ?_⟩
      unfold heirloomlaw11_ReachStrong.f
      rw [small_f th rt hz _ (by omega), hs, Option.bind_some, if_pos rfl, decide_eq_false hm]
      show heirloomlaw11_ReachStrong.j0 (K + K2 + 1999 + 1) mo false th rt = some true
      rw [heirloomlaw11_ReachStrong.j0, if_neg (by decide), e1, Option.bind_some, HS _ (by omega), Option.bind_some, bools_f r (by omega) _ (by omega), Option.bind_some, if_pos rfl, rf, Option.bind_some, HR _ (by omega), Option.bind_some, if_pos (beq_self_eq_true _), alive_f]
      rfl
end Go.Proofs.Ytollnnbcfhnlfaa.Pure
