/- The reference's Strong: the least closed set that holds the roots. Conditions: at most 1000 things, each of at most 1000 slots, at most 1000 roots and 1000 more. -/
import Derived.Test.YtollnnbcfhnlfaaPT0
import Derived.Test.YtollnnbcfhnlfaaQRx6
set_option linter.unusedVariables false
set_option linter.unusedSimpArgs false
namespace Go.Proofs.Ytollnnbcfhnlfaa.Pure
open Go Go.RowKit Go.Proofs.Ytollnnbcfhnlfaa.QR Go.Proofs.Ytollnnbcfhnlfaa.Rg Go.Proofs.Ytollnnbcfhnlfaa.Jg Go.Proofs.YtollnnbcfhnlfaaW.PrintWords Go.Proofs.YtollnnbcfhnlfaaW.PrintLast Go.Proofs.YtollnnbcfhnlfaaW.PrintMore
/-- does slot i of a thing lead, by what is needed -/
def leadsB (th : List S43) (wv arr : Int) (sl : List S40) (nd : List Bool) (i : Int) : Bool :=
 if wv = 0 ∨ i = 0 then true
 else if wv = 1 then
  if keyF sl.length arr i = -1 then true
  else
   (fun v : S40 => !weaklyF th v.f0 v.f1 || rdOf false nd (objF th v.f0 v.f1 - 1)) (rd_T40 sl (if keyF sl.length arr i = -2 then i else keyF sl.length arr i))
 else if wv = 2 ∧ keyF sl.length arr i = -2 then true
 else (rd_T40 sl i).f0 == 4
theorem leads_f (th : List S43) (rt : List S40) (hl : th.length ≤ 1000) (f0 f1 arr : Int) (sl : List S40) (f4 i : Int) (nd : List Bool) (hn : nd.length = th.length) (hs : sl.length ≤ 1000) (h0 : 0 ≤ i) (hi : i < sl.length) (k : Nat) (hk : 4 ≤ k) :
  heirloomref11_leads.f k th rt f0 f1 arr sl f4 i nd = some (leadsB th (weakF f0 f1) arr sl nd i) := by
 obtain ⟨k, rfl⟩ : ∃ j, k = j + 1 := ⟨k - 1, by omega⟩
 unfold heirloomref11_leads.f leadsB
 rw [weak_f, Option.bind_some]
 by_cases hw : weakF f0 f1 = 0
 ·rw [if_pos hw, heirloomref11_leads.j0, if_pos rfl, if_pos (.inl hw)]
 ·rw [if_neg hw, heirloomref11_leads.j0]
  by_cases hi0 : i = 0
  ·rw [if_pos (by rw [hi0]; rfl), if_pos (.inr hi0)]
  ·rw [if_neg (by simpa using hi0), if_neg (show ¬ (weakF f0 f1 = 0 ∨ i = 0) by omega), keyof_f _ _ _ _ _ _ (by omega) k (by omega), Option.bind_some]
   have kb := key_bd sl.length arr i h0
   have j1 : ∀ v : S40, heirloomref11_leads.j1 k nd th rt v.f0 v.f1 = some (!weaklyF th v.f0 v.f1 || rdOf false nd (objF th v.f0 v.f1 - 1)) := fun v => by
    obtain ⟨k, rfl⟩ : ∃ j, k = j + 1 := ⟨k - 1, by omega⟩
    have ob := obj_bd th v.f0 v.f1
    rw [heirloomref11_leads.j1, weakly_f th rt (by omega) _ _ k (by omega), Option.bind_some]
    rcases hb : weaklyF th v.f0 v.f1 with _ | _
    ·rw [if_neg (by decide)]; rfl
    ·have hp : 0 < objF th v.f0 v.f1 := by
      unfold weaklyF at hb
      simp only [Bool.and_eq_true, decide_eq_true_eq] at hb
      exact hb.2
     rw [if_pos rfl, robj th rt (by omega) _ _ k (by omega), Option.bind_some, w64 (by omega) (by omega), if_pos (by omega), if_pos (by omega)]
     rfl
   by_cases h1 : weakF f0 f1 = 1
   ·rw [if_pos h1, if_pos h1]
    by_cases e1 : keyF sl.length arr i = -1
    ·rw [if_pos e1, if_pos e1]
    ·rw [if_neg e1, if_neg e1, if_pos h0, if_pos hi]
     by_cases e2 : keyF sl.length arr i = -2
     ·rw [if_pos e2, if_pos e2]
      exact j1 _
     ·rw [if_neg e2, if_neg e2, if_pos (by omega), if_pos (by omega)]
      exact j1 _
   ·rw [if_neg h1, if_neg h1]
    by_cases h2 : weakF f0 f1 = 2
    ·rw [if_pos h2]
     by_cases e2 : keyF sl.length arr i = -2
     ·rw [if_pos e2, if_pos ⟨h2, e2⟩]
     ·rw [if_neg e2, if_neg (show ¬ (weakF f0 f1 = 2 ∧ keyF sl.length arr i = -2) from fun z => e2 z.2), if_pos h0, if_pos hi]
    ·rw [if_neg h2, if_neg (show ¬ (weakF f0 f1 = 2 ∧ keyF sl.length arr i = -2) from fun z => h2 z.1), if_pos h0, if_pos hi]
/-- what an object leads to, slot by slot -/
theorem lead_iff (th : List S43) (nd : List Bool) (x h : Int) (hwm : wk th x ≤ 3) :
  LeadD th (Nd nd) x h ↔ ∃ i : Nat, i < (rd_T43 th (x - 1)).f3.length ∧ Rg.Obj th (rd_T40 (rd_T43 th (x - 1)).f3 i) h ∧ leadsB th (wk th x) (rd_T43 th (x - 1)).f2 (rd_T43 th (x - 1)).f3 nd i = true := by
 obtain ⟨sl, hsl⟩ : ∃ sl, (rd_T43 th (x - 1)).f3 = sl := ⟨_, rfl⟩
 obtain ⟨arr, harr⟩ : ∃ arr, (rd_T43 th (x - 1)).f2 = arr := ⟨_, rfl⟩
 obtain ⟨wv, hwv⟩ : ∃ wv, wk th x = wv := ⟨_, rfl⟩
 unfold LeadD
 rw [hsl, harr, hwv]
 have ndo : ∀ v : S40, (!weaklyF th v.f0 v.f1 || rdOf false nd (objF th v.f0 v.f1 - 1)) = true ↔ (weaklyF th v.f0 v.f1 = false ∨ Nd nd (objF th v.f0 v.f1)) := fun v => by
  rcases hb : weaklyF th v.f0 v.f1 with _ | _
  ·simp
  ·have hp : 0 < objF th v.f0 v.f1 := by
    unfold weaklyF at hb
    simp only [Bool.and_eq_true, decide_eq_true_eq] at hb
    exact hb.2
   constructor
   ·intro z
    exact .inr ⟨by omega, by simpa using z⟩
   ·intro z
    rcases z with z | z
    ·exact absurd z (by decide)
    ·rw [z.2]; rfl
 by_cases w0 : wv = 0
 ·rw [if_pos w0]
  constructor
  ·rintro ⟨v, hv, ho⟩
   obtain ⟨i, hi, rfl⟩ := List.getElem_of_mem hv
   exact ⟨i, hi, by rw [rd40_get hi]; exact ho, by unfold leadsB; rw [if_pos (.inl w0)]⟩
  ·rintro ⟨i, hi, ho, _⟩
   exact ⟨_, List.getElem_mem hi, by rw [← rd40_get hi]; exact ho⟩
 ·rw [if_neg w0]
  have at_ : ∀ q ∈ slotsL sl.length arr, ∀ o, StepD th wv sl (Nd nd) q o ↔ (0 ≤ q.1 ∧ Rg.Obj th (rd_T40 sl q.1) o ∧ leadsB th wv arr sl nd q.1 = true) ∨ (Rg.Obj th (rd_T40 sl q.2) o ∧ leadsB th wv arr sl nd q.2 = true) := by
   intro q hq o
   obtain ⟨k2, k1⟩ := slots_key _ _ hq
   have bd := slots_bd _ _ hq
   unfold StepD leadsB
   rw [k2]
   by_cases h1 : wv = 1
   ·by_cases hk : q.1 < 0
    ·have e : q.1 = -1 := by omega
     simp only [if_pos hk, if_neg (show ¬ (wv = 0 ∨ q.2 = 0) by omega), if_pos h1, if_pos e]
     constructor
     ·exact fun z => .inr ⟨z, trivial⟩
     ·rintro (z | z)
      ·omega
      ·exact z.1
    ·obtain ⟨k1, kk, _⟩ := k1 (by omega)
     rw [k1]
     simp only [if_neg hk, if_neg (show ¬ (wv = 0 ∨ q.1 = 0) by omega), if_neg (show ¬ (wv = 0 ∨ q.2 = 0) by omega), if_pos h1, if_neg (show ¬ q.1 = -1 by omega), if_neg (show ¬ ((-2 : Int) = -1) by decide), if_pos (show (-2 : Int) = -2 from rfl), if_neg (show ¬ q.1 = -2 by omega)]
     have nq := ndo (rd_T40 sl q.1)
     constructor
     ·rintro ⟨a, b | b⟩
      ·exact .inl ⟨by omega, b, nq.2 a⟩
      ·exact .inr ⟨b, nq.2 a⟩
     ·rintro (⟨_, b, a⟩ | ⟨b, a⟩)
      ·exact ⟨nq.1 a, .inl b⟩
      ·exact ⟨nq.1 a, .inr b⟩
   ·simp only [if_neg h1, if_neg (show ¬ (wv = 0 ∨ q.2 = 0) by omega), if_neg (show ¬ (wv = 2 ∧ q.1 = -2) by omega)]
    by_cases hk : q.1 < 0
    ·rw [if_neg (show ¬ (wv = 2 ∧ 0 ≤ q.1) by omega)]
     constructor
     ·rintro (⟨a, _⟩ | ⟨a, b⟩)
      ·omega
      ·exact .inr ⟨b, beq_iff_eq.2 a⟩
     ·rintro (⟨a, _⟩ | ⟨a, b⟩)
      ·omega
      ·exact .inr ⟨beq_iff_eq.1 b, a⟩
    ·obtain ⟨k1, kk, _⟩ := k1 (by omega)
     rw [k1]
     simp only [if_neg (show ¬ (wv = 0 ∨ q.1 = 0) by omega)]
     by_cases h2 : wv = 2
     ·rw [if_pos ⟨h2, by omega⟩, if_pos ⟨h2, by trivial⟩]
      constructor
      ·rintro (a | ⟨a, b⟩)
       ·exact .inl ⟨by omega, a, rfl⟩
       ·exact .inr ⟨b, beq_iff_eq.2 a⟩
      ·rintro (⟨_, a, _⟩ | ⟨a, b⟩)
       ·exact .inl a
       ·exact .inr ⟨beq_iff_eq.1 b, a⟩
     ·simp only [if_neg (show ¬ (wv = 2 ∧ 0 ≤ q.1) from fun z => h2 z.1), if_neg (show ¬ (wv = 2 ∧ True) from fun z => h2 z.1)]
      constructor
      ·rintro (⟨_, a, b⟩ | ⟨a, b⟩)
       ·exact .inl ⟨by omega, b, beq_iff_eq.2 a⟩
       ·exact .inr ⟨b, beq_iff_eq.2 a⟩
      ·rintro (⟨_, a, b⟩ | ⟨a, b⟩)
       ·exact .inl ⟨by omega, beq_iff_eq.1 b, a⟩
       ·exact .inr ⟨beq_iff_eq.1 b, a⟩
  constructor
  ·rintro (⟨hl, ho⟩ | ⟨q, hq, hs⟩)
   ·exact ⟨0, by omega, ho, by unfold leadsB; rw [if_pos (.inr rfl)]⟩
   ·have bd := slots_bd _ _ hq
    rcases (at_ q hq h).1 hs with ⟨a, b, c⟩ | ⟨b, c⟩
    ·refine ⟨q.1.toNat, by omega, ?_, ?_⟩ <;> rw [Int.toNat_of_nonneg a] <;> assumption
    ·refine ⟨q.2.toNat, by omega, ?_, ?_⟩ <;> rw [Int.toNat_of_nonneg (by omega)] <;> assumption
  ·rintro ⟨i, hi, ho, hb⟩
   by_cases i0 : i = 0
   ·subst i0
    exact .inl ⟨by omega, ho⟩
   ·obtain ⟨q, hq, hc⟩ := slots_cover sl.length arr i (by omega) hi
    refine .inr ⟨q, hq, (at_ q hq h).2 ?_⟩
    rcases hc with e | ⟨e, _, _⟩
    ·rw [← e] at ho hb
     exact .inr ⟨ho, hb⟩
    ·rw [← e] at ho hb
     exact .inl ⟨by omega, ho, hb⟩
theorem bools_ext {n : Nat} {a b : List Bool} (ha : a.length = n) (hb : b.length = n) (h : ∀ x, Nd a x ↔ Nd b x) : a = b := by
 refine List.ext_getElem (by omega) fun i h1 h2 => ?_
 have e := h ((i : Int) + 1)
 unfold Nd at e
 rw [Int.add_sub_cancel, rdOf_nat false a i h1, rdOf_nat false b i h2] at e
 have e' : a[i] = true ↔ b[i] = true := ⟨fun z => (e.1 ⟨by omega, z⟩).2, fun z => (e.2 ⟨by omega, z⟩).2⟩
 rcases z : a[i] with _ | _ <;> rcases y : b[i] with _ | _
 ·rfl
 ·exact absurd (e'.2 y) (by rw [z]; decide)
 ·exact absurd (e'.1 z) (by rw [y]; decide)
 ·rfl
theorem count_set {l : List Bool} {i : Nat} (h : i < l.length) (hf : rdOf false l (i : Int) = false) : (l.set i true).count false + 1 = l.count false := by
 rw [rdOf_nat false l i h] at hf
 have := List.count_set (l := l) (a := true) (b := false) (i := i) h
 rw [hf] at this
 have pos : 0 < l.count false := List.count_pos_iff.2 (by rw [← hf]; exact List.getElem_mem h)
 simp at this
 omega
end Go.Proofs.Ytollnnbcfhnlfaa.Pure
