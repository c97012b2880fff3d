/- A text with a point, read by num and by its reference: both come to the quotient of the same two ints. -/
import Derived.Test.YticnolkbmpmgcaaNT3
import Derived.Test.YticnolkbmpmgcaaNT2
set_option linter.unusedVariables false
set_option linter.unusedSimpArgs false
namespace Go.Proofs.Yticnolkbmpmgcaa.FT
open Go.RowKit Go.Proofs.Yticnolkbmpmgcaa.Fl Go.Proofs.Yticnolkbmpmgcaa.QN Go.Proofs.YticnolkbmpmgcaaW.PrintWords
def valL : Int → List Int → Int
  | n, [] => n
  | n, c :: r => valL (10 * n + (c - 48)) r
theorem valL_app (a b : List Int) : ∀ n, valL n (a ++ b) = valL (valL n a) b := by
  induction a with
  | nil => intro n; rfl
  | cons c r ih => intro n; exact ih _
theorem valL_bd : ∀ (r : List Int) (n : Int) (m : Nat), r.all dig = true → 0 ≤ n → n < ((10 ^ m : Nat) : Int) → 0 ≤ valL n r ∧ valL n r < ((10 ^ (m + r.length) : Nat) : Int)
  | [], n, m, _, h, h' => ⟨h, h'⟩
  | c :: r, n, m, hd, h, h' => by
    rw [List.all_cons, Bool.and_eq_true] at hd
    have hc := (dig_iff c).1 hd.1
    have := valL_bd r (10 * n + (c - 48)) (m + 1) hd.2 (by omega) (by rw [Nat.pow_succ, Int.natCast_mul]; omega)
    rw [show m + (c :: r).length = m + 1 + r.length by rw [List.length_cons]; omega]
    exact this
def decV (minus : Bool) (n ten : Int) : Int × Int × Int := if minus = true then ((flV (fneg (fop .quo (floatOfInt .f64 n) (floatOfInt .f64 ten)))).1, (flV (fneg (fop .quo (floatOfInt .f64 n) (floatOfInt .f64 ten)))).2, 0) else ((flV (fop .quo (floatOfInt .f64 n) (floatOfInt .f64 ten))).1, (flV (fop .quo (floatOfInt .f64 n) (floatOfInt .f64 ten))).2, 0)
theorem fok_of {o : BinOp} {x y r : Nat} (h : floatBits o .f64 x y = some r) : fok o x y = true ∧ fop o x y = r := by
  unfold fok fop; rw [h]; exact ⟨rfl, rfl⟩
theorem ten_bd (m : Nat) (h : m ≤ 15) : ((10 ^ m : Nat) : Int) ≤ 1000000000000000 ∧ 0 < ((10 ^ m : Nat) : Int) := by
  have h1 : 10 ^ m ≤ 10 ^ 15 := Nat.pow_le_pow_right (by decide) h
  have h2 : 0 < 10 ^ m := Nat.pow_pos (by decide)
  omega
theorem fin_dec (k : Nat) (minus : Bool) (n ten : Int) (hn : 0 ≤ n) (hn' : n < 9007199254740992) (ht : 0 < ten) (ht' : ten < 9007199254740992) (beh i : Int) (h : ¬ i < beh) :
    num_decimal.l1 (k + 1) minus (floatOfInt .f64 n) (floatOfInt .f64 ten) beh i = some (decV minus n ten) := by
  rw [num_decimal.l1, if_neg h, if_pos (quo_ok n ten hn ht hn' ht'), float_f, if_pos (quo_ok n ten hn ht hn' ht'), float_f]
  unfold decV
  cases minus <;> rfl
theorem dec_l1 (minus : Bool) (n : Int) (hn : 0 ≤ n) (hn' : n < 9007199254740992) (beh : Nat) (hb : beh ≤ 15) : ∀ (j i k : Nat), i + j = beh → j < k →
    num_decimal.l1 k minus (floatOfInt .f64 n) (floatOfInt .f64 ((10 ^ i : Nat) : Int)) beh i = some (decV minus n ((10 ^ beh : Nat) : Int))
  | j, i, 0, _, h => absurd h (by omega)
  | 0, i, k + 1, h, _ => by
    obtain rfl : i = beh := by omega
    have := ten_bd i hb
    exact fin_dec k minus n _ hn hn' this.2 (by omega) _ _ (by omega)
  | j + 1, i, k + 1, h, hk => by
    have h1 := ten_bd i (by omega)
    have h2 := ten_bd (i + 1) (by omega)
    have e : ((10 ^ i : Nat) : Int) * 10 = ((10 ^ (i + 1) : Nat) : Int) := by rw [Nat.pow_succ, Int.natCast_mul]; rfl
    have hm := mul_small ((10 ^ i : Nat) : Int) 10 h1.2 (by decide) (by omega) (by decide) (by rw [e]; omega)
    rw [fI_10, e] at hm
    have hf := fok_of hm
    rw [num_decimal.l1, if_pos (by omega), if_pos hf.1, hf.2, w64_nat (by omega)]
    exact dec_l1 minus n hn hn' beh hb j (i + 1) k (by omega) (by omega)
theorem dec_l0 {s : ByteArray} (hs : s.size ≤ 15) (minus : Bool) (beh : Nat) (hb : beh ≤ 15) : ∀ (r : List Int) (i k : Nat) (n : Int), (cs s).drop i = r → r.length + beh + 1 < k → r.all dig = true → 0 ≤ n → n < ((10 ^ i : Nat) : Int) → i + r.length ≤ 15 →
    num_decimal.l0 k s beh minus (floatOfInt .f64 n) 4607182418800017408 s.size i = some (decV minus (valL n r) ((10 ^ beh : Nat) : Int))
  | r, i, 0, n, _, h, _, _, _, _ => absurd h (by omega)
  | [], i, k + 1, n, h, hk, _, hn, hn', hi => by
    have := cs_stop h
    rw [num_decimal.l0, if_neg (by omega)]
    have h1 := ten_bd i (by simpa using hi)
    have := dec_l1 minus n hn (by omega) beh hb beh 0 k (by omega) (by simp at hk; omega)
    rw [Nat.pow_zero, show (((1 : Nat) : Int)) = 1 from rfl, fI_1] at this
    exact this
  | c :: r, i, k + 1, n, h, hk, hd, hn, hn', hi => by
    obtain ⟨h1, h2, h3⟩ := cs_step h
    rw [List.all_cons, Bool.and_eq_true] at hd
    rw [List.length_cons] at hk hi
    have hc := (dig_iff c).1 hd.1
    have hb1 := ten_bd (i + 1) (by omega)
    have hb2 : 10 * n + (c - 48) < ((10 ^ (i + 1) : Nat) : Int) := by rw [Nat.pow_succ, Int.natCast_mul]; omega
    have hm : floatBits .mul .f64 (floatOfInt .f64 n) 4621819117588971520 = some (floatOfInt .f64 (10 * n)) := by
      by_cases h0 : n = 0
      · subst h0; rw [fI_0, mul_0]; exact congrArg some fI_0.symm
      · have := mul_small n 10 (by omega) (by decide) (by omega) (by decide) (by omega)
        rw [fI_10, Int.mul_comm] at this
        exact this
    have ha := add_small (10 * n) (c - 48) (by omega) (by omega) (by omega)
    have hf := fok_of hm
    rw [num_decimal.l0, if_pos (by omega), if_pos hf.1, if_pos (by omega), if_pos (by omega), h2, hf.2, show (c - 48) % 256 = c - 48 by omega]
    have hg := fok_of ha
    rw [if_pos hg.1, hg.2, w64_nat (by omega)]
    exact dec_l0 hs minus beh hb r (i + 1) k _ h3 (by omega) hd.2 (by omega) hb2 (by omega)
theorem decimal_f {s : ByteArray} (minus : Bool) (beh : Nat) (hb : beh ≤ s.size) (k : Nat) (hk : 2 * s.size + 2 < k) (hd : (cs s).all dig = true) :
    num_decimal.f k s beh minus = some (if (s.size : Int) > 15 then (0, 0, 7) else decV minus (valL 0 (cs s)) ((10 ^ beh : Nat) : Int)) := by
  unfold num_decimal.f
  by_cases h : (s.size : Int) > 15
  · rw [if_pos h, if_pos h]
  · rw [if_neg h, if_neg h]
    have := dec_l0 (s := s) (by omega) minus beh (by omega) (cs s) 0 k 0 rfl (by rw [cs_len]; omega) hd (by decide) (by decide) (by rw [cs_len]; omega)
    rw [fI_0] at this
    exact this
/-! the reference -/
theorem rd_run {s : ByteArray} (hs : s.size ≤ 16) (minus : Bool) (p : Int) : ∀ (a b : List Int) (i k : Nat) (n : Int) (m : Nat), (cs s).drop i = a ++ b → a.all dig = true → (p < i ∨ i + a.length ≤ p) → 0 ≤ n → n < ((10 ^ m : Nat) : Int) → m + a.length ≤ 15 →
    heirloomref01_Read.l0 (k + a.length) minus s p n i = heirloomref01_Read.l0 k minus s p (valL n a) (i + a.length : Nat)
  | [], b, i, k, n, m, _, _, _, _, _, _ => rfl
  | c :: a, b, i, k, n, m, h, ha, hp, hn, hn', hm => by
    obtain ⟨h1, h2, h3⟩ := cs_step h
    rw [List.all_cons, Bool.and_eq_true] at ha
    rw [List.length_cons] at hp hm
    have hc := (dig_iff c).1 ha.1
    have hb1 := ten_bd (m + 1) (by omega)
    have hb2 : 10 * n + (c - 48) < ((10 ^ (m + 1) : Nat) : Int) := by rw [Nat.pow_succ, Int.natCast_mul]; omega
    have ew : wrap64 (wrap64 (10 * n) + (c - 48)) = 10 * n + (c - 48) := by unfold wrap64; omega
    rw [List.length_cons, show k + (a.length + 1) = (k + a.length) + 1 by omega, heirloomref01_Read.l0, if_pos (by omega), if_neg (by omega), if_pos (by omega), h2, show (c - 48) % 256 = c - 48 by omega, ew, w64_nat (by omega)]
    rw [rd_run hs minus p a b (i + 1) k _ (m + 1) h3 ha.2 (by omega) (by omega) hb2 (by omega)]
    show heirloomref01_Read.l0 k minus s p (valL (10 * n + (c - 48)) a) _ = heirloomref01_Read.l0 k minus s p (valL (10 * n + (c - 48)) a) _
    congr 2; omega
theorem rd_l1 {s : ByteArray} (hs : s.size ≤ 16) (minus : Bool) (n : Int) (hn : 0 ≤ n) (hn' : n < 9007199254740992) : ∀ (j i k m : Nat), i + j = s.size → j < k → m + j ≤ 15 →
    heirloomref01_Read.l1 k minus s n ((10 ^ m : Nat) : Int) i = some (decV minus n ((10 ^ (m + j) : Nat) : Int))
  | j, i, 0, m, _, h, _ => absurd h (by omega)
  | 0, i, k + 1, m, h, _, hm => by
    have ht := ten_bd m (by omega)
    have q := quo_ok n ((10 ^ m : Nat) : Int) hn ht.2 hn' (by omega)
    rw [heirloomref01_Read.l1, if_neg (by omega), if_pos q]
    simp only [rfloat_f, float_f, Option.bind_some]
    unfold decV
    cases minus <;> rfl
  | j + 1, i, k + 1, m, h, hk, hm => by
    have ht := ten_bd (m + 1) (by omega)
    have e : wrap64 (10 * ((10 ^ m : Nat) : Int)) = ((10 ^ (m + 1) : Nat) : Int) := by
      have : 10 * ((10 ^ m : Nat) : Int) = ((10 ^ (m + 1) : Nat) : Int) := by rw [Nat.pow_succ, Int.natCast_mul, Int.mul_comm]; rfl
      rw [this]; unfold wrap64; omega
    rw [heirloomref01_Read.l1, if_pos (by omega), e, w64_nat (by omega), show m + (j + 1) = m + 1 + j by omega]
    exact rd_l1 hs minus n hn hn' j (i + 1) k (m + 1) (by omega) (by omega) (by omega)
theorem rdec_f {s : ByteArray} (hs : s.size ≤ 16) (minus : Bool) (a b : List Int) (hl : cs s = a ++ 46 :: b) (ha : a.all dig = true) (hb : b.all dig = true) (k : Nat) (hk : 40 ≤ k) :
    heirloomref01_Read.l0 k minus s (a.length : Int) 0 0 = some (decV minus (valL 0 (a ++ b)) ((10 ^ b.length : Nat) : Int)) := by
  have hlen : s.size = a.length + 1 + b.length := by rw [← cs_len, hl, List.length_append, List.length_cons]; omega
  obtain ⟨k, rfl⟩ : ∃ j, k = (j + 1 + b.length + 1) + a.length := ⟨k - (1 + b.length + 1 + a.length), by omega⟩
  have h1 := rd_run hs minus a.length a (46 :: b) 0 (k + 1 + b.length + 1) 0 0 hl ha (.inr (by omega)) (by decide) (by decide) (by omega)
  rw [show ((0 : Nat) : Int) = 0 from rfl] at h1
  rw [h1]
  have v1 := valL_bd a 0 0 ha (by decide) (by decide)
  have hd1 : (cs s).drop (a.length + 1) = b := by
    rw [hl, show a.length + 1 = a.length + 1 from rfl, ← List.drop_drop, List.drop_left]; rfl
  rw [heirloomref01_Read.l0, if_pos (by omega), if_pos (by omega), w64_nat (by omega), show 0 + a.length + 1 = a.length + 1 by omega]
  rw [rd_run hs minus a.length b [] (a.length + 1) (k + 1) _ a.length (by rw [hd1, List.append_nil]) hb (.inl (by omega)) v1.1 (by simpa using v1.2) (by omega)]
  rw [heirloomref01_Read.l0, if_neg (by omega), w64_nat (by omega), ← valL_app]
  have hab : (a ++ b).all dig = true := by rw [List.all_append, ha, hb]; rfl
  have v2 := valL_bd (a ++ b) 0 0 hab (by decide) (by decide)
  have v3 := ten_bd (0 + (a ++ b).length) (by rw [List.length_append]; omega)
  have := rd_l1 hs minus (valL 0 (a ++ b)) v2.1 (by omega) b.length (a.length + 1) k 0 (by omega) (by omega) (by omega)
  rw [Nat.pow_zero, Nat.zero_add] at this
  exact this
end Go.Proofs.Yticnolkbmpmgcaa.FT
