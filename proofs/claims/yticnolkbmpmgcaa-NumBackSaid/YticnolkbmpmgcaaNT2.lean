/- What the printed functions of num and of its reference that read a text come to: hexadecimal digits, the walk up to a point. -/
import Derived.Test.YticnolkbmpmgcaaNT
import Derived.Laws.BitsAllLaws
set_option linter.unusedVariables false
set_option linter.unusedSimpArgs false
namespace Go.Proofs.Yticnolkbmpmgcaa.FT
open Go.RowKit Go.Proofs.Yticnolkbmpmgcaa.Fl Go.Proofs.Yticnolkbmpmgcaa.QN Go.Proofs.YticnolkbmpmgcaaW.PrintWords
def hxL : Int → List Int → Option Int
  | n, [] => some n
  | n, c :: r => if dig c = true then hxL (16 * n % 18446744073709551616 + (c - 48)) r else if 97 ≤ c ∧ c ≤ 102 then hxL (16 * n % 18446744073709551616 + (c - 87)) r else none
theorem or_add (n d : Int) (hn : 0 ≤ n) (hd : 0 ≤ d) (hd' : d < 16) : Go.bits .or .u64 (IntKind.u64.wrap (n * 16)) d = 16 * n % 18446744073709551616 + d := by
  have e : IntKind.u64.wrap (n * 16) = (n * 16) % 18446744073709551616 := rfl
  rw [e, show n * 16 = 16 * n from Int.mul_comm _ _]
  obtain ⟨a, ha⟩ : ∃ a : Nat, ((a <<< 4 : Nat) : Int) = 16 * n % 18446744073709551616 := by
    refine ⟨(n % 1152921504606846976).toNat, ?_⟩
    rw [Nat.shiftLeft_eq]; omega
  obtain ⟨b, hb⟩ : ∃ b : Nat, d = (b : Int) := ⟨d.toNat, by omega⟩
  have ha2 : a <<< 4 < 18446744073709551616 := by omega
  rw [← ha, hb, u64_or_nat _ _ ha2 (by omega), ← Nat.shiftLeft_add_eq_or_of_lt (by omega)]
  omega
theorem hx_bd {n d : Int} (hd : 0 ≤ d) (hd' : d < 16) : 0 ≤ 16 * n % 18446744073709551616 + d ∧ 16 * n % 18446744073709551616 + d < 18446744073709551616 := by omega
theorem bits_l0 {s : ByteArray} (hs : s.size ≤ 140737488351232) : ∀ (r : List Int) (i k : Nat) (n : Int), (cs s).drop i = r → 2 * r.length < k → 0 ≤ n →
    num_bits.l0 k s n s.size i = some (match hxL n r with | none => (0, 0, 6) | some m => if isB 3 (wrap64 m) = true then (3, wrap64 m, 0) else (0, 0, 6))
  | r, i, 0, n, _, h, _ => absurd h (by omega)
  | c :: r, i, 1, n, _, h, _ => absurd h (by simp)
  | [], i, k + 1, n, h, _, _ => by
    have := cs_stop h
    rw [num_bits.l0, if_neg (by omega), is_f]
    simp only [Option.bind_some, hxL]
    split <;> rfl
  | c :: r, i, k + 1 + 1, n, h, hk, hn => by
    obtain ⟨h1, h2, h3⟩ := cs_step h
    have hb := cs_bd s c (List.mem_of_mem_drop (i := i) (by rw [h]; exact List.mem_cons_self))
    rw [num_bits.l0, if_pos (by omega), if_pos (by omega), if_pos (by omega), h2]
    simp only [hxL]
    have ed : (if c ≥ 48 then num_bits.j1 (k + 1) s n c s.size i (decide (c ≤ 57)) else num_bits.j1 (k + 1) s n c s.size i false) = num_bits.j1 (k + 1) s n c s.size i (dig c) := by
      unfold dig
      by_cases a : c ≥ 48
      · rw [if_pos a, decide_eq_true (show 48 ≤ c from a), Bool.true_and]
      · rw [if_neg a, decide_eq_false (show ¬ 48 ≤ c from a), Bool.false_and]
    rw [ed, num_bits.j1]
    by_cases a : dig c = true
    · have hc := (dig_iff c).1 a
      rw [if_pos a, if_pos a, show (c - 48) % 256 = c - 48 by omega, or_add _ _ hn (by omega) (by omega), w64_nat (by omega)]
      exact bits_l0 hs r (i + 1) k _ h3 (by simp at hk; omega) (by omega)
    · rw [if_neg a, if_neg a]
      by_cases b : 97 ≤ c ∧ c ≤ 102
      · rw [if_pos (show c ≥ 97 from b.1), if_pos b.2, if_pos b, show (((c - 97) % 256) + 10) % 256 = c - 87 by omega, or_add _ _ hn (by omega) (by omega), w64_nat (by omega)]
        exact bits_l0 hs r (i + 1) k _ h3 (by simp at hk; omega) (by omega)
      · rw [if_neg b]
        by_cases d : c ≥ 97
        · rw [if_pos d, if_neg (by omega)]
        · rw [if_neg d]
theorem hex_l0 {s : ByteArray} (hs : s.size ≤ 140737488351232) : ∀ (r : List Int) (i k : Nat) (n : Int), (cs s).drop i = r → 2 * r.length < k → 0 ≤ n →
    heirloomref01_hex.l0 k s n i = some (match hxL n r with | none => (0, false) | some m => (m, true))
  | r, i, 0, n, _, h, _ => absurd h (by omega)
  | c :: r, i, 1, n, _, h, _ => absurd h (by simp)
  | [], i, k + 1, n, h, _, _ => by
    have := cs_stop h
    rw [heirloomref01_hex.l0, if_neg (by omega)]; rfl
  | c :: r, i, k + 1 + 1, n, h, hk, hn => by
    obtain ⟨h1, h2, h3⟩ := cs_step h
    have hb := cs_bd s c (List.mem_of_mem_drop (i := i) (by rw [h]; exact List.mem_cons_self))
    rw [heirloomref01_hex.l0, if_pos (by omega), if_pos (by omega), h2]
    simp only [hxL]
    have ed : (if c ≥ 48 then heirloomref01_hex.j1 (k + 1) s n i c (decide (c ≤ 57)) else heirloomref01_hex.j1 (k + 1) s n i c false) = heirloomref01_hex.j1 (k + 1) s n i c (dig c) := by
      unfold dig
      by_cases a : c ≥ 48
      · rw [if_pos a, decide_eq_true (show 48 ≤ c from a), Bool.true_and]
      · rw [if_neg a, decide_eq_false (show ¬ 48 ≤ c from a), Bool.false_and]
    rw [ed, heirloomref01_hex.j1]
    have ew : IntKind.u64.wrap (16 * n) = 16 * n % 18446744073709551616 := rfl
    by_cases a : dig c = true
    · have hc := (dig_iff c).1 a
      rw [if_pos a, if_pos a, show (c - 48) % 256 = c - 48 by omega, ew, u64_in (by omega) (by omega), w64_nat (by omega)]
      exact hex_l0 hs r (i + 1) k _ h3 (by simp at hk; omega) (by omega)
    · rw [if_neg a, if_neg a]
      by_cases b : 97 ≤ c ∧ c ≤ 102
      · rw [if_pos (show c ≥ 97 from b.1), if_pos b.2, if_pos b, show (c - 97) % 256 = c - 97 by omega, ew, u64_in (n := 16 * n % 18446744073709551616 + (c - 97)) (by omega) (by omega), u64_in (by omega) (by omega), w64_nat (by omega)]
        rw [show 16 * n % 18446744073709551616 + (c - 97) + 10 = 16 * n % 18446744073709551616 + (c - 87) by omega]
        exact hex_l0 hs r (i + 1) k _ h3 (by simp at hk; omega) (by omega)
      · rw [if_neg b]
        by_cases d : c ≥ 97
        · rw [if_pos d, if_neg (by omega)]
        · rw [if_neg d]
def hxV (l : List Int) : Int × Int × Int := match hxL 0 l with | none => (0, 0, 6) | some m => if isB 3 (wrap64 m) = true then (3, wrap64 m, 0) else (0, 0, 6)
theorem bits_f {s : ByteArray} (hs : s.size ≤ 140737488351232) (k : Nat) (hk : 2 * s.size < k) : num_bits.f k s = some (hxV (cs s)) := by
  unfold num_bits.f hxV
  exact bits_l0 hs (cs s) 0 k 0 rfl (by rw [cs_len]; exact hk) (by decide)
theorem hex_f {s : ByteArray} (hs : s.size ≤ 140737488351232) (k : Nat) (hk : 2 * s.size < k) : ((heirloomref01_hex.f k s).bind fun b => (if b.2 = true then ((heirloomref01_Is.f 3 (wrap64 (b.1))).bind fun t => (if t = true then (some (3, wrap64 (b.1), 0)) else (some (0, 0, 6)))) else (some (0, 0, 6)))) = some (hxV (cs s)) := by
  unfold heirloomref01_hex.f hxV
  have := hex_l0 hs (cs s) 0 k 0 rfl (by rw [cs_len]; exact hk) (by decide)
  rw [show ((0 : Nat) : Int) = 0 from rfl] at this
  rw [this]
  cases hxL 0 (cs s) with
  | none => rfl
  | some m =>
    simp only [Option.bind_some, if_true, ris_f]
    split <;> rfl
/-! the walk up to a point -/
theorem rd_dig {s : ByteArray} (hs : s.size ≤ 140737488351232) (minus : Bool) (p : Int) : ∀ (a b : List Int) (i k : Nat), (cs s).drop i = a ++ b → a.all dig = true →
    num_Read.l0 (k + 2 * a.length) s minus p s.size i = num_Read.l0 k s minus p s.size (i + a.length : Nat)
  | [], b, i, k, _, _ => rfl
  | c :: a, b, i, k, h, ha => by
    obtain ⟨h1, h2, h3⟩ := cs_step h
    rw [List.all_cons, Bool.and_eq_true] at ha
    have hc := (dig_iff c).1 ha.1
    have e : k + 2 * (c :: a).length = (k + 2 * a.length) + 1 + 1 := by rw [List.length_cons]; omega
    rw [e, num_Read.l0, if_pos (by omega), if_pos (by omega), if_pos (by omega), h2, if_neg (by omega), num_Read.j4, if_neg Bool.false_ne_true, if_pos (by omega), if_pos (by omega), h2, if_neg (by omega), if_neg (by omega), w64_nat (by omega)]
    rw [rd_dig hs minus p a b (i + 1) k h3 ha.2, List.length_cons]
    congr 2; omega
theorem rd_bad {s : ByteArray} (hs : s.size ≤ 140737488351232) (minus : Bool) (p : Int) (c : Int) (b : List Int) (i k : Nat) (h : (cs s).drop i = c :: b) (hc : dig c = false) (hp : c = 46 → p ≠ s.size) :
    num_Read.l0 (k + 2) s minus p s.size i = some (0, 0, 6) := by
  obtain ⟨h1, h2, h3⟩ := cs_step h
  have hc' : ¬ (48 ≤ c ∧ c ≤ 57) := fun z => by rw [(dig_iff c).2 z] at hc; cases hc
  have hj : num_Read.j4 (k + 1) s minus p i s.size i false = some (0, 0, 6) := by
    rw [num_Read.j4, if_neg Bool.false_ne_true, if_pos (by omega), if_pos (by omega), h2]
    by_cases a : c < 48
    · rw [if_pos a]
    · rw [if_neg a, if_pos (by omega)]
  rw [num_Read.l0, if_pos (by omega), if_pos (by omega), if_pos (by omega), h2]
  by_cases a : c = 46
  · rw [if_pos a, show (p == (s.size : Int)) = false from beq_eq_false_iff_ne.2 (hp a), hj]
  · rw [if_neg a, hj]
theorem rd_dot {s : ByteArray} (hs : s.size ≤ 140737488351232) (minus : Bool) (b : List Int) (i k : Nat) (h : (cs s).drop i = 46 :: b) :
    num_Read.l0 (k + 2) s minus s.size s.size i = num_Read.l0 k s minus i s.size (i + 1 : Nat) := by
  obtain ⟨h1, h2, h3⟩ := cs_step h
  rw [num_Read.l0, if_pos (by omega), if_pos (by omega), if_pos (by omega), h2, if_pos rfl, beq_self_eq_true, num_Read.j4, if_pos rfl, w64_nat (by omega)]
end Go.Proofs.Yticnolkbmpmgcaa.FT
