/- What the walked functions of lex come to, in plain terms: a source is a list of bytes. -/
import Derived.Test.YtpemgladmnbfhaaDoorQLx7
import Derived.Test.YtpemgladmnbfhaaDoorQLx5
import Derived.Test.YtpemgladmnbfhaaDoorQLx4
import Derived.Test.YtpemgladmnbfhaaDoorNR
set_option linter.unusedVariables false
set_option linter.unusedSimpArgs false
namespace Go.Proofs.YtpemgladmnbfhaaDoor.PL
open Go.RowKit Go.Proofs.YtpemgladmnbfhaaDoor.QL Go.Proofs.YtpemgladmnbfhaaDoor.Wd Go.Proofs.YtpemgladmnbfhaaDoorW.PrintWords
abbrev bs (s : ByteArray) : List UInt8 := s.data.toList
theorem bs_len (s : ByteArray) : (bs s).length = s.size := by rw [Array.length_toList]; rfl
theorem bs_step {s : ByteArray} {i : Nat} {c : UInt8} {r : List UInt8} (h : (bs s).drop i = c :: r) : i < s.size ∧ bt s (i : Int) = c.toNat ∧ (bs s).drop (i + 1) = r := by
  have hi : i < (bs s).length := by
    refine Nat.lt_of_not_le fun z => ?_
    rw [List.drop_eq_nil_of_le z] at h; cases h
  have h2 := List.drop_eq_getElem_cons hi
  rw [h2] at h
  simp only [List.cons.injEq] at h
  have hi' : i < s.size := by rw [bs_len] at hi; exact hi
  refine ⟨hi', ?_, h.2⟩
  rw [← h.1]
  unfold bt
  rw [dif_pos (by simpa using hi')]
  rfl
theorem bs_stop {s : ByteArray} {i : Nat} (h : (bs s).drop i = []) : s.size ≤ i := by
  rw [List.drop_eq_nil_iff, bs_len] at h; exact h
theorem bs_extract (s : ByteArray) (a b : Nat) : bs (s.extract a b) = ((bs s).drop a).take (b - a) := Lib.extract_data s a b
theorem bs_from (s : ByteArray) (a : Nat) : bs (s.extract a s.size) = (bs s).drop a := by
  rw [bs_extract, List.take_of_length_le]
  rw [List.length_drop, bs_len]; omega
theorem bs_inj {a b : ByteArray} (h : bs a = bs b) : a = b := ByteArray.ext (Array.toList_inj.1 h)
theorem toList_bs (s : ByteArray) : s.toList = bs s := Lib.toList_data s
/-- a text out of its bytes -/
abbrev tx (l : List UInt8) : ByteArray := ⟨l.toArray⟩
theorem bs_tx (l : List UInt8) : bs (tx l) = l := by simp
theorem tx_bs (s : ByteArray) : tx (bs s) = s := bs_inj (bs_tx _)
theorem extract_tx (s : ByteArray) (a b : Nat) : s.extract a b = tx (((bs s).drop a).take (b - a)) := bs_inj (by rw [bs_extract, bs_tx])
theorem tx_size (l : List UInt8) : (tx l).size = l.length := by rw [← bs_len, bs_tx]
theorem w64 {i : Nat} (h : i ≤ 140737488351233) : wrap64 ((i : Int) + 1) = ((i + 1 : Nat) : Int) := by unfold wrap64; omega
theorem w64i {x : Int} (h : -9223372036854775808 ≤ x) (h' : x ≤ 9223372036854775807) : wrap64 x = x := by unfold wrap64; omega
/-! bytes -/
def alB (b : UInt8) : Bool := b == 95 || (decide (65 ≤ b) && decide (b ≤ 90)) || (decide (97 ≤ b) && decide (b ≤ 122))
def dgB (b : UInt8) : Bool := decide (48 ≤ b) && decide (b ≤ 57)
def anB (b : UInt8) : Bool := alB b || dgB b
def sgB (b : UInt8) : Bool := [43, 45, 42, 47, 37, 46, 61, 126, 60, 62, 40, 41, 123, 125, 91, 93, 44, 59, 35].contains b
theorem all_bytes {P : UInt8 → Prop} (h : ∀ n, n < 256 → P (UInt8.ofNat n)) (b : UInt8) : P b := by
  have := h b.toNat b.toNat_lt
  rwa [UInt8.ofNat_toNat] at this
theorem letter_f (b : UInt8) : lex_letter.f (b.toNat : Int) = some (alB b) := by
  refine all_bytes (P := fun b => lex_letter.f (b.toNat : Int) = some (alB b)) ?_ b
  decide +kernel
theorem digit_f (b : UInt8) : lex_digit.f (b.toNat : Int) = some (dgB b) := by
  refine all_bytes (P := fun b => lex_digit.f (b.toNat : Int) = some (dgB b)) ?_ b
  decide +kernel
theorem kinds4_f (b : UInt8) : lex_kinds_4.f (b.toNat : Int) = some (sgB b) := by
  refine all_bytes (P := fun b => lex_kinds_4.f (b.toNat : Int) = some (sgB b)) ?_ b
  decide +kernel
theorem kinds2_f (b : UInt8) : lex_kinds_2.f (b.toNat : Int) = some (b == 34) := by
  refine all_bytes (P := fun b => lex_kinds_2.f (b.toNat : Int) = some (b == 34)) ?_ b
  decide +kernel
/-! runs -/
def runL : List UInt8 → Nat
  | [] => 0
  | b :: r => if anB b = true then runL r + 1 else 0
theorem runL_le : ∀ l, runL l ≤ l.length
  | [] => Nat.le_refl _
  | b :: r => by
    have := runL_le r
    rw [runL]
    by_cases h : anB b = true
    · rw [if_pos h]; simp only [List.length_cons]; omega
    · rw [if_neg h]; omega
theorem run_l0 {s : ByteArray} (hs : s.size ≤ 140737488351232) : ∀ (r : List UInt8) (i k : Nat), (bs s).drop i = r → r.length < k → lex_run.l0 k s i = some ((i + runL r : Nat) : Int)
  | r, i, 0, _, h => absurd h (by omega)
  | [], i, k + 1, h, _ => by
    have := bs_stop h
    rw [lex_run.l0, if_neg (by omega)]; rfl
  | c :: r, i, k + 1, h, hk => by
    obtain ⟨h1, h2, h3⟩ := bs_step h
    rw [lex_run.l0, if_pos (by omega), if_pos (by omega), h2, letter_f, digit_f]
    simp only [Option.bind_some]
    have ih := run_l0 hs r (i + 1) k h3 (by simpa using hk)
    have e : runL (c :: r) = if anB c = true then runL r + 1 else 0 := rfl
    rw [w64 (by omega), ih, e]
    unfold anB
    cases ha : alB c <;> cases hd : dgB c <;> simp
    all_goals omega
theorem run_f {s : ByteArray} (hs : s.size ≤ 140737488351232) (k : Nat) (hk : s.size < k) : lex_run.f k s = some ((runL (bs s) : Nat) : Int) := by
  unfold lex_run.f
  have := run_l0 hs (bs s) 0 k rfl (by rw [bs_len]; exact hk)
  rw [Nat.zero_add] at this
  exact this
def hdD : List UInt8 → Bool
  | c :: _ => dgB c
  | [] => false
/-- how long a number is -/
def numL : List UInt8 → Nat
  | [] => 0
  | b :: r => if (anB b || (b == 46 && hdD r)) = true then numL r + 1 else 0
theorem numL_le : ∀ l, numL l ≤ l.length
  | [] => Nat.le_refl _
  | b :: r => by
    have := numL_le r
    rw [numL]
    split
    · simp only [List.length_cons]; omega
    · omega
theorem numL_run : ∀ l : List UInt8, numL l = runL l + numL (l.drop (runL l))
  | [] => rfl
  | b :: r => by
    by_cases h : anB b = true
    · have ih := numL_run r
      have e1 : numL (b :: r) = numL r + 1 := by rw [numL, h, Bool.true_or, if_pos rfl]
      have e2 : runL (b :: r) = runL r + 1 := by rw [runL, if_pos h]
      rw [e1, e2, List.drop_succ_cons]; omega
    · have e2 : runL (b :: r) = 0 := by rw [runL, if_neg h]
      rw [e2, List.drop_zero, Nat.zero_add]
theorem runL_stop : ∀ (l : List UInt8) b r, l.drop (runL l) = b :: r → anB b = false
  | [], _, _, h => by simp at h
  | a :: l, b, r, h => by
    by_cases ha : anB a = true
    · rw [runL, if_pos ha, List.drop_succ_cons] at h
      exact runL_stop l b r h
    · rw [runL, if_neg ha, List.drop_zero] at h
      injection h with h1 h2
      rw [← h1]; exact Bool.eq_false_iff.mpr ha
theorem number_l0 {s : ByteArray} (hs : s.size ≤ 140737488351232) : ∀ (d i k : Nat), s.size - i ≤ d → i ≤ s.size → (∀ b r, (bs s).drop i = b :: r → anB b = false) → s.size + d + 2 ≤ k → lex_number.l0 k s i = some ((i + numL ((bs s).drop i) : Nat) : Int) := by
  intro d
  induction d with
  | zero =>
    intro i k hd hi hn hk
    obtain ⟨k, rfl⟩ : ∃ m, k = m + 1 := ⟨k - 1, by omega⟩
    rw [lex_number.l0, w64 (by omega), if_neg (by omega), List.drop_of_length_le (by rw [bs_len]; omega)]
    rfl
  | succ d ih =>
    intro i k hd hi hn hk
    obtain ⟨k, rfl⟩ : ∃ m, k = m + 1 := ⟨k - 1, by omega⟩
    rw [lex_number.l0, w64 (by omega)]
    cases hr : (bs s).drop i with
    | nil => rw [if_neg (by have := bs_stop hr; omega)]; rfl
    | cons b r =>
      obtain ⟨h1, h2, h3⟩ := bs_step hr
      have hb := hn b r hr
      cases r with
      | nil =>
        have := bs_stop h3
        rw [if_neg (by omega)]
        have e : numL [b] = 0 := by rw [numL, hb]; simp [hdD]
        rw [e]; rfl
      | cons c r =>
        obtain ⟨g1, g2, g3⟩ := bs_step h3
        rw [if_pos (by omega), if_pos (by omega), if_pos (by omega), h2]
        have e : numL (b :: c :: r) = if (b == 46 && dgB c) = true then numL (c :: r) + 1 else 0 := by rw [numL, hb, Bool.false_or]; rfl
        by_cases hp : b = 46
        · subst hp
          rw [if_pos (show ((UInt8.toNat 46 : Nat) : Int) = 46 by decide), if_pos (by omega), g2, digit_f]
          simp only [Option.bind_some]
          by_cases hc : dgB c = true
          · rw [if_pos hc, if_pos (by omega)]
            rw [show ((i + 1 : Nat) : Int).toNat = i + 1 from rfl]
            have hz : (s.extract (i + 1) s.size).size ≤ s.size := by rw [ByteArray.size_extract]; omega
            rw [run_f (by omega) k (by omega)]
            simp only [Option.bind_some]
            have hl := runL_le (bs (s.extract (i + 1) s.size))
            rw [bs_from, h3] at hl
            rw [bs_from, h3]
            have hlen : (c :: r).length = s.size - (i + 1) := by rw [← h3, List.length_drop, bs_len]
            rw [w64i (x := 1 + (runL (c :: r) : Int)) (by omega) (by omega), w64i (by omega) (by omega)]
            rw [show (i : Int) + (1 + (runL (c :: r) : Int)) = ((i + 1 + runL (c :: r) : Nat) : Int) by omega]
            have hd2 : (bs s).drop (i + 1 + runL (c :: r)) = (c :: r).drop (runL (c :: r)) := by rw [← List.drop_drop, h3]
            rw [ih (i + 1 + runL (c :: r)) k (by omega) (by omega) (fun b' r' h' => runL_stop _ b' r' (hd2 ▸ h')) (by omega), hd2, e, hc]
            have := numL_run (c :: r)
            simp only [beq_self_eq_true, Bool.and_self, if_true]
            congr 1; omega
          · rw [if_neg hc, e]
            have : dgB c = false := Bool.eq_false_iff.mpr hc
            rw [this]; rfl
        · have hp2 : ¬ ((b.toNat : Int) = 46) := fun z => hp (UInt8.toNat_inj.1 (by show b.toNat = 46; omega))
          rw [if_neg hp2, e]
          have : (b == 46) = false := beq_eq_false_iff_ne.2 hp
          rw [this]; rfl
theorem number_f {s : ByteArray} (hs : s.size ≤ 140737488351232) (k : Nat) (hk : 2 * s.size + 2 ≤ k) : lex_number.f k s = some ((numL (bs s) : Nat) : Int) := by
  unfold lex_number.f
  rw [run_f hs k (by omega)]
  simp only [Option.bind_some]
  have hl := runL_le (bs s)
  rw [bs_len] at hl
  rw [number_l0 hs (s.size - runL (bs s)) (runL (bs s)) k (Nat.le_refl _) hl (fun b r h => runL_stop _ b r h) (by omega)]
  have := numL_run (bs s)
  congr 2; omega
end Go.Proofs.YtpemgladmnbfhaaDoor.PL
