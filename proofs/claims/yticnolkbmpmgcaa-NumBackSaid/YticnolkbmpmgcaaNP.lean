/- What the printed functions of num and of its reference come to, in plain terms. -/
import Derived.Test.YticnolkbmpmgcaaFT3
import Derived.Test.YticnolkbmpmgcaaQNx8
import Derived.Test.YticnolkbmpmgcaaQNx2
set_option linter.unusedVariables false
set_option linter.unusedSimpArgs false
namespace Go.Proofs.Yticnolkbmpmgcaa.FT
open Go.RowKit Go.Proofs.Yticnolkbmpmgcaa.Fl Go.Proofs.Yticnolkbmpmgcaa.QN

def ub (n : Int) : Nat := (IntKind.u64.wrap n).toNat
theorem ub_lt (n : Int) : ub n < 2 ^ 64 := by
  unfold ub
  have h : 0 ≤ IntKind.u64.wrap n ∧ IntKind.u64.wrap n < 18446744073709551616 := by
    simp only [IntKind.wrap, IntKind.bits, IntKind.signed]
    exact ⟨Int.emod_nonneg _ (by decide), Int.emod_lt_of_pos _ (by decide)⟩
  omega
theorem ub_inj {n m : Int} (hn : (Lit.int .i64 n).wf = true) (hm : (Lit.int .i64 m).wf = true) (h : ub n = ub m) : n = m := by
  have h1 : -9223372036854775808 ≤ n ∧ n ≤ 9223372036854775807 := by simpa [Lit.wf, IntKind.min, IntKind.max, IntKind.signed, IntKind.bits] using hn
  have h2 : -9223372036854775808 ≤ m ∧ m ≤ 9223372036854775807 := by simpa [Lit.wf, IntKind.min, IntKind.max, IntKind.signed, IntKind.bits] using hm
  unfold ub at h
  simp only [IntKind.wrap, IntKind.bits, IntKind.signed] at h
  have a1 : (0 : Int) ≤ n % 18446744073709551616 := Int.emod_nonneg _ (by decide)
  have a2 : (0 : Int) ≤ m % 18446744073709551616 := Int.emod_nonneg _ (by decide)
  have h' : (n % 18446744073709551616).toNat = (m % 18446744073709551616).toNat := h
  omega
def N0 : Int := 9221120237041090561
theorem N0_nan : ¬ isNum (ub N0) := by decide
def isB (t n : Int) : Bool := if t = 2 then true else if t = 3 then (if isNum (ub n) then true else n == N0) else false
def ofN (t n : Int) : Nat := if isB t n = true then (if t = 2 then floatOfInt .f64 n else ub n) else 0
theorem fne_self (b : Nat) : fne b b = true ↔ ¬ isNum b := by rw [fne_iff]; simp
theorem feq_self (b : Nat) : feq b b = true ↔ isNum b := by rw [feq_iff]; simp
theorem is_f (t n : Int) : num_Is.f t n = some (isB t n) := by
  unfold num_Is.f num_real.f isB
  show (if t = 3 then (if fne (ub n) (ub n) = true then some (n == N0) else some true) else _) = _
  by_cases h3 : t = 3
  · subst h3
    rw [if_pos rfl, if_neg (show ¬ ((3 : Int) = 2) by decide), if_pos rfl]
    by_cases h : isNum (ub n)
    · rw [if_neg (fun z => (fne_self _).1 z h), if_pos h]
    · rw [if_pos ((fne_self _).2 h), if_neg h]
  · rw [if_neg h3, if_neg h3]
    by_cases h2 : t = 2
    · rw [if_pos h2, if_pos h2]
    · rw [if_neg h2, if_neg h2]
theorem ris_f (t n : Int) : heirloomref01_Is.f t n = some (isB t n) := by
  unfold heirloomref01_Is.f heirloomref01_Real.f isB
  show (if t = 2 then _ else if t = 3 then (if feq (ub n) (ub n) = true then some true else some (n == N0)) else _) = _
  by_cases h2 : t = 2
  · rw [if_pos h2, if_pos h2]
  · rw [if_neg h2, if_neg h2]
    by_cases h3 : t = 3
    · rw [if_pos h3, if_pos h3]
      by_cases h : isNum (ub n)
      · rw [if_pos ((feq_self _).2 h), if_pos h]
      · rw [if_neg (fun z => h ((feq_self _).1 z)), if_neg h]
    · rw [if_neg h3, if_neg h3]
theorem of_f (t n : Int) : num_Of.f t n = some (ofN t n, isB t n) := by
  unfold num_Of.f
  rw [is_f]
  unfold ofN num_real.f
  simp only [Option.bind_some]
  cases isB t n
  · simp
  · by_cases h2 : t = 2
    · simp [h2]
    · simp [h2, ub]
def whB (b : Nat) : Prop := inR b ∧ fval b = tI b * (U : Int)
instance (b : Nat) : Decidable (whB b) := by unfold whB inR; exact inferInstance
def wS (t n : Int) : Int × Int := if isB t n = true then (if t = 2 then (n, 0) else if whB (ub n) then (tI (ub n), 0) else (0, 12)) else (0, 10)
theorem whB_iff {b : Nat} (h : inR b) : whB b ↔ feq (floatOfInt .f64 (tI b)) b = true := by
  rw [feq_iff]
  have h1 := fI_tI h
  unfold whB
  rw [h1.1]
  exact ⟨fun z => ⟨fI_isNum _, h.1, z.2.symm⟩, fun z => ⟨h, z.2.2.symm⟩⟩
theorem fne_not (a b : Nat) : fne a b = true ↔ ¬ feq a b = true := by rw [fne_iff, feq_iff]
theorem wh_f (t n : Int) : num_Whole.f t n = some (wS t n) := by
  unfold num_Whole.f
  rw [of_f]
  unfold wS
  simp only [Option.bind_some]
  by_cases hb : isB t n = true
  · rw [if_pos hb, if_pos hb]
    by_cases h2 : t = 2
    · rw [if_pos h2, if_pos h2]
    · rw [if_neg h2, if_neg h2]
      have ho : ofN t n = ub n := by unfold ofN; rw [if_pos hb, if_neg h2]
      rw [ho]
      by_cases hr : inR (ub n)
      · have h3 := (inR_iff _).1 hr
        have h4 := ftoi_in hr
        rw [if_pos h3.1, if_pos h3.2, if_pos h4.1, h4.2]
        by_cases hw : whB (ub n)
        · rw [if_neg (fun z => (fne_not _ _).1 z ((whB_iff hr).1 hw)), if_pos hw]
        · rw [if_pos ((fne_not _ _).2 (fun z => hw ((whB_iff hr).2 z))), if_neg hw]
      · have hw : ¬ whB (ub n) := fun z => hr z.1
        rw [if_neg hw]
        by_cases h3 : fge (ub n) 14114281232179134464 = true
        · rw [if_pos h3, if_neg (fun z => hr ((inR_iff _).2 ⟨h3, z⟩))]
        · rw [if_neg h3]
  · rw [if_neg hb, if_neg hb]
theorem rwh_f (k : Nat) (t n : Int) : heirloomref01_Whole.f (k + 1) t n = some (wS t n) := by
  unfold heirloomref01_Whole.f
  rw [ris_f]
  unfold wS
  simp only [Option.bind_some]
  by_cases hb : isB t n = true
  · rw [if_pos hb, if_pos hb]
    by_cases h2 : t = 2
    · rw [if_pos h2, if_pos h2]
    · rw [if_neg h2, if_neg h2]
      unfold heirloomref01_Real.f
      show (if fge (ub n) _ = true then heirloomref01_Whole.j0 (k + 1) (ub n) (flt (ub n) 4890909195324358656) else heirloomref01_Whole.j0 (k + 1) (ub n) false) = _
      simp only [heirloomref01_Whole.j0]
      by_cases hr : inR (ub n)
      · have h3 := (inR_iff _).1 hr
        have h4 := ftoi_in hr
        rw [if_pos h3.1, if_pos h3.2, if_pos h4.1, h4.2]
        by_cases hw : whB (ub n)
        · rw [if_pos ((whB_iff hr).1 hw), if_pos hw]
        · rw [if_neg (fun z => hw ((whB_iff hr).2 z)), if_neg hw]
      · have hw : ¬ whB (ub n) := fun z => hr z.1
        rw [if_neg hw]
        by_cases h3 : fge (ub n) 14114281232179134464 = true
        · rw [if_pos h3, if_neg (fun z => hr ((inR_iff _).2 ⟨h3, z⟩))]
        · rw [if_neg h3, if_neg (by decide)]
  · rw [if_neg hb, if_neg hb]
theorem alive_at (k : Nat) (h : 40 ≤ k) : heirloomlaw01_alive.f k = some true := by
  have h0 : heirloomlaw01_alive.f 40 = some true := by decide +kernel
  obtain ⟨m, rfl⟩ : ∃ m, k = 40 + m := ⟨k - 40, by omega⟩
  clear h
  induction m with
  | zero => exact h0
  | succ m ih => exact heirloomlaw01_alive.mono (40 + m) _ ih
end Go.Proofs.Yticnolkbmpmgcaa.FT
