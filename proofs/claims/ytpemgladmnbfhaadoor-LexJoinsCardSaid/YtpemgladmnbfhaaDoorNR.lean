/- num.Read and the document's answer for it are one, at every text. -/
import Derived.Test.YtpemgladmnbfhaaDoorNF
import Derived.Test.YtpemgladmnbfhaaDoorQLx3
import Derived.Test.YtpemgladmnbfhaaDoorQLx10
import Derived.Laws.BitsAllLaws
set_option linter.unusedVariables false
set_option linter.unusedSimpArgs false
namespace Go.Proofs.YtpemgladmnbfhaaDoor.FT
open Go.RowKit Go.Proofs.YtpemgladmnbfhaaDoor.Fl Go.Proofs.YtpemgladmnbfhaaDoor.QL

def ub (n : Int) : Nat := (IntKind.u64.wrap n).toNat
theorem ub_lt (n : Int) : ub n < 2 ^ 64 := by
  unfold ub
  have h : 0 ≤ IntKind.u64.wrap n ∧ IntKind.u64.wrap n < 18446744073709551616 := by
    simp only [IntKind.wrap, IntKind.bits, IntKind.signed]
    exact ⟨Int.emod_nonneg _ (by decide), Int.emod_lt_of_pos _ (by decide)⟩
  omega
theorem ub_inj {n m : Int} (hn : (Lit.int .i64 n).wf = true) (hm : (Lit.int .i64 m).wf = true) (h : ub n = ub m) : n = m := by
  have h1 : -9223372036854775808 ≤ n ∧ n ≤ 9223372036854775807 := by simpa [Lit.wf, IntKind.min, IntKind.max, IntKind.signed, IntKind.bits] using hn
  have h2 : -9223372036854775808 ≤ m ∧ m ≤ 9223372036854775807 := by simpa [Lit.wf, IntKind.min, IntKind.max, IntKind.signed, IntKind.bits] using hm
  unfold ub at h
  simp only [IntKind.wrap, IntKind.bits, IntKind.signed] at h
  have a1 : (0 : Int) ≤ n % 18446744073709551616 := Int.emod_nonneg _ (by decide)
  have a2 : (0 : Int) ≤ m % 18446744073709551616 := Int.emod_nonneg _ (by decide)
  have h' : (n % 18446744073709551616).toNat = (m % 18446744073709551616).toNat := h
  omega
def N0 : Int := 9221120237041090561
theorem N0_nan : ¬ isNum (ub N0) := by decide
def isB (t n : Int) : Bool := if t = 2 then true else if t = 3 then (if isNum (ub n) then true else n == N0) else false
theorem fne_self (b : Nat) : fne b b = true ↔ ¬ isNum b := by rw [fne_iff]; simp
theorem feq_self (b : Nat) : feq b b = true ↔ isNum b := by rw [feq_iff]; simp
theorem is_f (t n : Int) : num_Is.f t n = some (isB t n) := by
  unfold num_Is.f num_real.f isB
  show (if t = 3 then (if fne (ub n) (ub n) = true then some (n == N0) else some true) else _) = _
  by_cases h3 : t = 3
  · subst h3
    rw [if_pos rfl, if_neg (show ¬ ((3 : Int) = 2) by decide), if_pos rfl]
    by_cases h : isNum (ub n)
    · rw [if_neg (fun z => (fne_self _).1 z h), if_pos h]
    · rw [if_pos ((fne_self _).2 h), if_neg h]
  · rw [if_neg h3, if_neg h3]
    by_cases h2 : t = 2
    · rw [if_pos h2, if_pos h2]
    · rw [if_neg h2, if_neg h2]
theorem ris_f (t n : Int) : heirloomref01_Is.f t n = some (isB t n) := by
  unfold heirloomref01_Is.f heirloomref01_Real.f isB
  show (if t = 2 then _ else if t = 3 then (if feq (ub n) (ub n) = true then some true else some (n == N0)) else _) = _
  by_cases h2 : t = 2
  · rw [if_pos h2, if_pos h2]
  · rw [if_neg h2, if_neg h2]
    by_cases h3 : t = 3
    · rw [if_pos h3, if_pos h3]
      by_cases h : isNum (ub n)
      · rw [if_pos ((feq_self _).2 h), if_pos h]
      · rw [if_neg (fun z => h ((feq_self _).1 z)), if_neg h]
    · rw [if_neg h3, if_neg h3]

end Go.Proofs.YtpemgladmnbfhaaDoor.FT

namespace Go.Proofs.YtpemgladmnbfhaaDoor.FT
open Go.RowKit Go.Proofs.YtpemgladmnbfhaaDoor.Fl Go.Proofs.YtpemgladmnbfhaaDoor.QL

theorem i64_bd {n : Int} (h : (Lit.int .i64 n).wf = true) : -9223372036854775808 ≤ n ∧ n ≤ 9223372036854775807 := by
  simpa [Lit.wf, IntKind.min, IntKind.max, IntKind.signed, IntKind.bits] using h
theorem w64_in {n : Int} (h : -9223372036854775808 ≤ n) (h' : n ≤ 9223372036854775807) : wrap64 n = n := by unfold wrap64; omega
theorem w64_mod (n m : Int) : wrap64 (wrap64 n + m) = wrap64 (n + m) := by unfold wrap64; omega

end Go.Proofs.YtpemgladmnbfhaaDoor.FT

namespace Go.Proofs.YtpemgladmnbfhaaDoor.FT
open Go.RowKit Go.Proofs.YtpemgladmnbfhaaDoor.Fl Go.Proofs.YtpemgladmnbfhaaDoor.QL
theorem rfloat_f (b : Nat) : heirloomref01_Float.f b = num_Float.f b := rfl
def flV (b : Nat) : Int × Int := if fne b b = true then (3, 9221120237041090561) else (3, wrap64 (((b : Nat) : Int)))
theorem float_f (b : Nat) : num_Float.f b = some (flV b) := by
  unfold num_Float.f flV
  split <;> rfl

end Go.Proofs.YtpemgladmnbfhaaDoor.FT

namespace Go.Proofs.YtpemgladmnbfhaaDoor.FT
open Go.RowKit Go.Proofs.YtpemgladmnbfhaaDoor.Fl Go.Proofs.YtpemgladmnbfhaaDoor.QL Go.Proofs.YtpemgladmnbfhaaDoorW.PrintWords
def cs (s : ByteArray) : List Int := s.data.toList.map fun b => (b.toNat : Int)
theorem cs_len (s : ByteArray) : (cs s).length = s.size := by unfold cs; rw [List.length_map, Array.length_toList]; rfl
theorem cs_step {s : ByteArray} {i : Nat} {c : Int} {r : List Int} (h : (cs s).drop i = c :: r) : i < s.size ∧ bt s (i : Int) = c ∧ (cs s).drop (i + 1) = r := by
  have hi : i < (cs s).length := by
    refine Nat.lt_of_not_le fun z => ?_
    rw [List.drop_eq_nil_of_le z] at h; cases h
  have h2 := List.drop_eq_getElem_cons hi
  rw [h2] at h
  simp only [List.cons.injEq] at h
  have hi' : i < s.size := by rw [cs_len] at hi; exact hi
  refine ⟨hi', ?_, h.2⟩
  rw [← h.1]
  unfold bt
  rw [dif_pos (by simpa using hi')]
  exact (List.getElem_map (fun b : UInt8 => (b.toNat : Int)) (h := hi)).symm
theorem cs_stop {s : ByteArray} {i : Nat} (h : (cs s).drop i = []) : s.size ≤ i := by
  rw [List.drop_eq_nil_iff, cs_len] at h; exact h
theorem cs_extract (s : ByteArray) (a b : Nat) : cs (s.extract a b) = ((cs s).take b).drop a := by
  unfold cs
  rw [ByteArray.data_extract, Array.toList_extract, List.extract_eq_take_drop, List.map_take, List.map_drop, List.drop_take]
theorem cs_append (a b : ByteArray) : cs (a ++ b) = cs a ++ cs b := by
  unfold cs
  rw [ByteArray.data_append, Array.toList_append, List.map_append]
theorem cs_bd (s : ByteArray) : ∀ c ∈ cs s, 0 ≤ c ∧ c ≤ 255 := by
  intro c hc
  unfold cs at hc
  rw [List.mem_map] at hc
  obtain ⟨b, _, rfl⟩ := hc
  have : b.toNat < 256 := b.toNat_lt
  omega
theorem cs_inj {a b : ByteArray} (h : cs a = cs b) : a = b := by
  unfold cs at h
  have h2 : a.data.toList = b.data.toList := by
    refine List.map_inj_right (f := fun b : UInt8 => (b.toNat : Int)) ?_ |>.1 h
    intro x y e
    have e : (x.toNat : Int) = (y.toNat : Int) := e
    exact UInt8.toNat_inj.1 (by omega)
  exact ByteArray.ext (Array.toList_inj.1 h2)
theorem cs_strOf (l : List Int) (h : ∀ c ∈ l, 0 ≤ c ∧ c ≤ 255) : cs (strOfNums l) = l := by
  unfold cs strOfNums
  rw [List.map_map]
  conv => rhs; rw [← List.map_id l]
  refine List.map_congr_left fun c hc => ?_
  have := h c hc
  show ((UInt8.ofNat c.toNat).toNat : Int) = c
  rw [UInt8.toNat_ofNat']
  omega
def dig (c : Int) : Bool := decide (48 ≤ c) && decide (c ≤ 57)
theorem dig_iff (c : Int) : dig c = true ↔ 48 ≤ c ∧ c ≤ 57 := by unfold dig; simp
/-- a list is all digits, or digits up to one that is none -/
theorem split_dig (l : List Int) : l.all dig = true ∨ ∃ a c b, l = a ++ c :: b ∧ a.all dig = true ∧ dig c = false := by
  induction l with
  | nil => exact .inl rfl
  | cons x r ih =>
    cases hx : dig x with
    | false => exact .inr ⟨[], x, r, rfl, rfl, hx⟩
    | true =>
      rcases ih with h | ⟨a, c, b, rfl, ha, hc⟩
      · left; rw [List.all_cons, hx, h]; rfl
      · exact .inr ⟨x :: a, c, b, rfl, by rw [List.all_cons, hx, ha]; rfl, hc⟩
theorem w64_nat {i : Nat} (h : i ≤ 140737488351233) : wrap64 ((i : Int) + 1) = ((i + 1 : Nat) : Int) := by unfold wrap64; omega

/-! the reference's all, point, whole -/
theorem all_l0 {s : ByteArray} (hs : s.size ≤ 140737488351232) : ∀ (r : List Int) (i k : Nat), (cs s).drop i = r → r.length < k → heirloomref01_all.l0 k s i = some (if r.all dig = true then decide ((s.size : Int) > 0) else false)
  | r, i, 0, _, h => absurd h (by omega)
  | [], i, k + 1, h, _ => by
    have := cs_stop h
    rw [heirloomref01_all.l0, if_neg (by omega)]; rfl
  | c :: r, i, k + 1, h, hk => by
    obtain ⟨h1, h2, h3⟩ := cs_step h
    rw [heirloomref01_all.l0, if_pos (by omega), if_pos (by omega), h2, List.all_cons]
    by_cases a : c < 48
    · rw [if_pos a, show dig c = false by rw [Bool.eq_false_iff]; exact fun z => by have := (dig_iff c).1 z; omega]; rfl
    · rw [if_neg a]
      by_cases b : c > 57
      · rw [if_pos b, show dig c = false by rw [Bool.eq_false_iff]; exact fun z => by have := (dig_iff c).1 z; omega]; rfl
      · rw [if_neg b, show dig c = true from (dig_iff c).2 (by omega), Bool.true_and, w64_nat (by omega)]
        exact all_l0 hs r (i + 1) k h3 (by simpa using hk)
def allB (l : List Int) : Bool := l.all dig && !l.isEmpty
theorem all_f {s : ByteArray} (hs : s.size ≤ 140737488351232) (k : Nat) (hk : s.size < k) : heirloomref01_all.f k s = some (allB (cs s)) := by
  unfold heirloomref01_all.f
  have := all_l0 hs (cs s) 0 k rfl (by rw [cs_len]; exact hk)
  rw [show ((0 : Nat) : Int) = 0 from rfl] at this
  rw [this]
  unfold allB
  have hl := cs_len s
  cases hc : cs s with
  | nil => rw [hc] at hl; have : s.size = 0 := by simpa using hl.symm
           rw [this]; rfl
  | cons c r =>
    have : (s.size : Int) > 0 := by rw [hc] at hl; simp at hl; omega
    rw [decide_eq_true this]; cases h : (c :: r).all dig <;> rfl
def pointL : List Int → Int → Int
  | [], _ => -1
  | c :: r, i => if c = 46 then i else pointL r (i + 1)
theorem point_l0 {s : ByteArray} (hs : s.size ≤ 140737488351232) : ∀ (r : List Int) (i k : Nat), (cs s).drop i = r → r.length < k → heirloomref01_point.l0 k s i = some (pointL r i)
  | r, i, 0, _, h => absurd h (by omega)
  | [], i, k + 1, h, _ => by
    have := cs_stop h
    rw [heirloomref01_point.l0, if_neg (by omega)]; rfl
  | c :: r, i, k + 1, h, hk => by
    obtain ⟨h1, h2, h3⟩ := cs_step h
    rw [heirloomref01_point.l0, if_pos (by omega), if_pos (by omega), h2]
    unfold pointL
    by_cases a : c = 46
    · rw [if_pos a, if_pos a]
    · rw [if_neg a, if_neg a, w64_nat (by omega)]
      exact point_l0 hs r (i + 1) k h3 (by simpa using hk)
theorem point_app (a b : List Int) (c : Int) (h : a.all dig = true) : ∀ i, pointL (a ++ c :: b) i = if c = 46 then i + a.length else pointL b (i + a.length + 1) := by
  induction a with
  | nil => intro i; show (if c = 46 then i else pointL b (i + 1)) = _; simp
  | cons x r ih =>
    intro i
    rw [List.all_cons, Bool.and_eq_true] at h
    have hx := (dig_iff x).1 h.1
    rw [List.cons_append]
    show (if x = 46 then i else pointL (r ++ c :: b) (i + 1)) = _
    rw [if_neg (by omega), ih h.2, List.length_cons]
    by_cases hc : c = 46
    · rw [if_pos hc, if_pos hc]; omega
    · rw [if_neg hc, if_neg hc]; congr 1; omega
theorem point_dig (a : List Int) (h : a.all dig = true) : ∀ i, pointL a i = -1 := by
  induction a with
  | nil => intro i; rfl
  | cons x r ih =>
    intro i
    rw [List.all_cons, Bool.and_eq_true] at h
    have hx := (dig_iff x).1 h.1
    show (if x = 46 then i else pointL r (i + 1)) = _
    rw [if_neg (by omega), ih h.2]
theorem point_ge (a : List Int) : ∀ i : Int, pointL a i = -1 ∨ (i ≤ pointL a i ∧ pointL a i < i + a.length) := by
  induction a with
  | nil => intro i; exact .inl rfl
  | cons x r ih =>
    intro i
    show (if x = 46 then i else pointL r (i + 1)) = -1 ∨ (i ≤ (if x = 46 then i else pointL r (i + 1)) ∧ (if x = 46 then i else pointL r (i + 1)) < _)
    rw [List.length_cons]
    by_cases a : x = 46
    · rw [if_pos a]; right; omega
    · rw [if_neg a]; rcases ih (i + 1) with h | h
      · exact .inl h
      · right; omega
def wholeL (minus : Bool) : Int → List Int → Int × Int × Int
  | n, [] => if n = 9223372036854775808 then (if minus = true then (2, -9223372036854775808, 0) else (0, 0, 7)) else if minus = true then (2, -n, 0) else (2, n, 0)
  | n, c :: r => if 10 * n + (c - 48) > 9223372036854775808 then (0, 0, 7) else wholeL minus (10 * n + (c - 48)) r
theorem u64_in {n : Int} (h : 0 ≤ n) (h' : n < 18446744073709551616) : IntKind.u64.wrap n = n := by
  have : IntKind.u64.wrap n = n % 18446744073709551616 := rfl
  rw [this]; omega
theorem whole_l0 {s : ByteArray} (hs : s.size ≤ 140737488351232) (minus : Bool) : ∀ (r : List Int) (i k : Nat) (n : Int), (cs s).drop i = r → r.length < k → r.all dig = true → 0 ≤ n → n ≤ 9223372036854775808 → heirloomref01_whole.l0 k s minus n i = some (wholeL minus n r)
  | r, i, 0, _, _, h, _, _, _ => absurd h (by omega)
  | [], i, k + 1, n, h, _, _, hn, hn' => by
    have := cs_stop h
    rw [heirloomref01_whole.l0, if_neg (by omega)]
    unfold wholeL heirloomref01_Int.f
    simp only [Option.bind_some]
    by_cases h1 : n = 9223372036854775808
    · rw [if_pos h1, if_pos h1]; split <;> rfl
    · rw [if_neg h1, if_neg h1]
      have e : wrap64 n = n := by unfold wrap64; omega
      have e2 : wrap64 (-n) = -n := by unfold wrap64; omega
      rw [e, e2]; split <;> rfl
  | c :: r, i, k + 1, n, h, hk, hd, hn, hn' => by
    obtain ⟨h1, h2, h3⟩ := cs_step h
    rw [List.all_cons, Bool.and_eq_true] at hd
    have hc := (dig_iff c).1 hd.1
    rw [heirloomref01_whole.l0, if_pos (by omega), if_pos (by omega), h2]
    have e : (c - 48) % 256 = c - 48 := by omega
    rw [e, w64_nat (by omega)]
    show _ = some (if 10 * n + (c - 48) > 9223372036854775808 then (0, 0, 7) else wholeL minus (10 * n + (c - 48)) r)
    by_cases a : n > 922337203685477580
    · rw [if_pos a, if_pos (by omega)]
    · rw [if_neg a]
      have hr : 10 * n + (c - 48) ≤ 9223372036854775808 → heirloomref01_whole.l0 k s minus (IntKind.u64.wrap (IntKind.u64.wrap (10 * n) + (c - 48))) ((i + 1 : Nat) : Int) = some (wholeL minus (10 * n + (c - 48)) r) := by
        intro hb
        rw [u64_in (n := 10 * n) (by omega) (by omega), u64_in (n := 10 * n + (c - 48)) (by omega) (by omega)]
        exact whole_l0 hs minus r (i + 1) k _ h3 (by simpa using hk) hd.2 (by omega) hb
      by_cases b : n = 922337203685477580
      · rw [if_pos b]
        by_cases d : c - 48 > 8
        · rw [if_pos d, if_pos (by omega)]
        · rw [if_neg d, if_neg (by omega), hr (by omega)]
      · rw [if_neg b, if_neg (by omega), hr (by omega)]
theorem whole_f {s : ByteArray} (hs : s.size ≤ 140737488351232) (minus : Bool) (k : Nat) (hk : s.size < k) (hd : (cs s).all dig = true) : heirloomref01_whole.f k s minus = some (wholeL minus 0 (cs s)) := by
  unfold heirloomref01_whole.f
  exact whole_l0 hs minus (cs s) 0 k 0 rfl (by rw [cs_len]; exact hk) hd (by decide) (by decide)
/-! num's digits -/
theorem digits_l0 {s : ByteArray} (hs : s.size ≤ 140737488351232) (minus : Bool) (most : Int) (hm : most = if minus = true then 9223372036854775808 else 9223372036854775807) : ∀ (r : List Int) (i k : Nat) (n : Int), (cs s).drop i = r → r.length < k → r.all dig = true → 0 ≤ n → n ≤ most → num_digits.l0 k s minus most n s.size i = some (wholeL minus n r)
  | r, i, 0, _, _, h, _, _, _ => absurd h (by omega)
  | [], i, k + 1, n, h, _, _, hn, hn' => by
    have := cs_stop h
    rw [num_digits.l0, if_neg (by omega)]
    unfold wholeL num_Int.f
    simp only [Option.bind_some]
    cases minus with
    | true =>
      rw [if_pos rfl] at hm
      subst hm
      rw [if_pos rfl, if_pos rfl, if_pos rfl]
      have e : wrap64 (IntKind.u64.wrap (-n)) = if n = 9223372036854775808 then -9223372036854775808 else -n := by
        have : IntKind.u64.wrap (-n) = (-n) % 18446744073709551616 := rfl
        rw [this]; unfold wrap64
        by_cases h1 : n = 9223372036854775808
        · rw [if_pos h1, h1]; rfl
        · rw [if_neg h1]; omega
      rw [e]
      by_cases h1 : n = 9223372036854775808
      · rw [if_pos h1, if_pos h1]
      · rw [if_neg h1, if_neg h1]
    | false =>
      rw [if_neg Bool.false_ne_true] at hm
      subst hm
      rw [if_neg Bool.false_ne_true, if_neg (by omega), if_neg Bool.false_ne_true]
      have e : wrap64 n = n := by unfold wrap64; omega
      rw [e]
  | c :: r, i, k + 1, n, h, hk, hd, hn, hn' => by
    obtain ⟨h1, h2, h3⟩ := cs_step h
    rw [List.all_cons, Bool.and_eq_true] at hd
    have hc := (dig_iff c).1 hd.1
    have hm2 : 9223372036854775807 ≤ most ∧ most ≤ 9223372036854775808 := by rw [hm]; split <;> omega
    rw [num_digits.l0, if_pos (by omega), if_pos (by omega), if_pos (by omega), h2]
    have e : (c - 48) % 256 = c - 48 := by omega
    rw [e, w64_nat (by omega), u64_in (n := most - (c - 48)) (by omega) (by omega), Int.tdiv_eq_ediv_of_nonneg (by omega), u64_in (n := (most - (c - 48)) / 10) (by omega) (by omega)]
    show _ = some (if 10 * n + (c - 48) > 9223372036854775808 then (0, 0, 7) else wholeL minus (10 * n + (c - 48)) r)
    by_cases a : n > (most - (c - 48)) / 10
    · rw [if_pos a]
      by_cases b : 10 * n + (c - 48) > 9223372036854775808
      · rw [if_pos b]
      · rw [if_neg b]
        have hv : 10 * n + (c - 48) = 9223372036854775808 := by omega
        have hmi : minus = false := by
          cases minus with
          | true => rw [if_pos rfl] at hm; omega
          | false => rfl
        subst hmi
        rw [hv]
        cases r with
        | nil => rfl
        | cons c' r' =>
          have hc' := (dig_iff c').1 (by have := hd.2; rw [List.all_cons, Bool.and_eq_true] at this; exact this.1)
          show _ = some (if 10 * 9223372036854775808 + (c' - 48) > 9223372036854775808 then (0, 0, 7) else _)
          rw [if_pos (by omega)]
    · rw [if_neg a, if_neg (by omega), u64_in (n := n * 10) (by omega) (by omega), Int.mul_comm n 10, u64_in (n := 10 * n + (c - 48)) (by omega) (by omega)]
      exact digits_l0 hs minus most hm r (i + 1) k _ h3 (by simpa using hk) hd.2 (by omega) (by omega)
theorem digits_f {s : ByteArray} (hs : s.size ≤ 140737488351232) (minus : Bool) (k : Nat) (hk : s.size + 1 < k) (hd : (cs s).all dig = true) : num_digits.f k s minus = some (wholeL minus 0 (cs s)) := by
  obtain ⟨k, rfl⟩ : ∃ j, k = j + 1 := ⟨k - 1, by omega⟩
  unfold num_digits.f
  cases minus with
  | true =>
    rw [if_pos rfl, num_digits.j0]
    exact digits_l0 hs true _ rfl (cs s) 0 k 0 rfl (by rw [cs_len]; omega) hd (by decide) (by decide)
  | false =>
    rw [if_neg Bool.false_ne_true, num_digits.j0]
    exact digits_l0 hs false _ rfl (cs s) 0 k 0 rfl (by rw [cs_len]; omega) hd (by decide) (by decide)

end Go.Proofs.YtpemgladmnbfhaaDoor.FT

namespace Go.Proofs.YtpemgladmnbfhaaDoor.FT
open Go.RowKit Go.Proofs.YtpemgladmnbfhaaDoor.Fl Go.Proofs.YtpemgladmnbfhaaDoor.QL Go.Proofs.YtpemgladmnbfhaaDoorW.PrintWords
def hxL : Int → List Int → Option Int
  | n, [] => some n
  | n, c :: r => if dig c = true then hxL (16 * n % 18446744073709551616 + (c - 48)) r else if 97 ≤ c ∧ c ≤ 102 then hxL (16 * n % 18446744073709551616 + (c - 87)) r else none
theorem or_add (n d : Int) (hn : 0 ≤ n) (hd : 0 ≤ d) (hd' : d < 16) : Go.bits .or .u64 (IntKind.u64.wrap (n * 16)) d = 16 * n % 18446744073709551616 + d := by
  have e : IntKind.u64.wrap (n * 16) = (n * 16) % 18446744073709551616 := rfl
  rw [e, show n * 16 = 16 * n from Int.mul_comm _ _]
  obtain ⟨a, ha⟩ : ∃ a : Nat, ((a <<< 4 : Nat) : Int) = 16 * n % 18446744073709551616 := by
    refine ⟨(n % 1152921504606846976).toNat, ?_⟩
    rw [Nat.shiftLeft_eq]; omega
  obtain ⟨b, hb⟩ : ∃ b : Nat, d = (b : Int) := ⟨d.toNat, by omega⟩
  have ha2 : a <<< 4 < 18446744073709551616 := by omega
  rw [← ha, hb, u64_or_nat _ _ ha2 (by omega), ← Nat.shiftLeft_add_eq_or_of_lt (by omega)]
  omega
theorem hx_bd {n d : Int} (hd : 0 ≤ d) (hd' : d < 16) : 0 ≤ 16 * n % 18446744073709551616 + d ∧ 16 * n % 18446744073709551616 + d < 18446744073709551616 := by omega
theorem bits_l0 {s : ByteArray} (hs : s.size ≤ 140737488351232) : ∀ (r : List Int) (i k : Nat) (n : Int), (cs s).drop i = r → 2 * r.length < k → 0 ≤ n →
    num_bits.l0 k s n s.size i = some (match hxL n r with | none => (0, 0, 6) | some m => if isB 3 (wrap64 m) = true then (3, wrap64 m, 0) else (0, 0, 6))
  | r, i, 0, n, _, h, _ => absurd h (by omega)
  | c :: r, i, 1, n, _, h, _ => absurd h (by simp)
  | [], i, k + 1, n, h, _, _ => by
    have := cs_stop h
    rw [num_bits.l0, if_neg (by omega), is_f]
    simp only [Option.bind_some, hxL]
    split <;> rfl
  | c :: r, i, k + 1 + 1, n, h, hk, hn => by
    obtain ⟨h1, h2, h3⟩ := cs_step h
    have hb := cs_bd s c (List.mem_of_mem_drop (i := i) (by rw [h]; exact List.mem_cons_self))
    rw [num_bits.l0, if_pos (by omega), if_pos (by omega), if_pos (by omega), h2]
    simp only [hxL]
    have ed : (if c ≥ 48 then num_bits.j1 (k + 1) s n c s.size i (decide (c ≤ 57)) else num_bits.j1 (k + 1) s n c s.size i false) = num_bits.j1 (k + 1) s n c s.size i (dig c) := by
      unfold dig
      by_cases a : c ≥ 48
      · rw [if_pos a, decide_eq_true (show 48 ≤ c from a), Bool.true_and]
      · rw [if_neg a, decide_eq_false (show ¬ 48 ≤ c from a), Bool.false_and]
    rw [ed, num_bits.j1]
    by_cases a : dig c = true
    · have hc := (dig_iff c).1 a
      rw [if_pos a, if_pos a, show (c - 48) % 256 = c - 48 by omega, or_add _ _ hn (by omega) (by omega), w64_nat (by omega)]
      exact bits_l0 hs r (i + 1) k _ h3 (by simp at hk; omega) (by omega)
    · rw [if_neg a, if_neg a]
      by_cases b : 97 ≤ c ∧ c ≤ 102
      · rw [if_pos (show c ≥ 97 from b.1), if_pos b.2, if_pos b, show (((c - 97) % 256) + 10) % 256 = c - 87 by omega, or_add _ _ hn (by omega) (by omega), w64_nat (by omega)]
        exact bits_l0 hs r (i + 1) k _ h3 (by simp at hk; omega) (by omega)
      · rw [if_neg b]
        by_cases d : c ≥ 97
        · rw [if_pos d, if_neg (by omega)]
        · rw [if_neg d]
theorem hex_l0 {s : ByteArray} (hs : s.size ≤ 140737488351232) : ∀ (r : List Int) (i k : Nat) (n : Int), (cs s).drop i = r → 2 * r.length < k → 0 ≤ n →
    heirloomref01_hex.l0 k s n i = some (match hxL n r with | none => (0, false) | some m => (m, true))
  | r, i, 0, n, _, h, _ => absurd h (by omega)
  | c :: r, i, 1, n, _, h, _ => absurd h (by simp)
  | [], i, k + 1, n, h, _, _ => by
    have := cs_stop h
    rw [heirloomref01_hex.l0, if_neg (by omega)]; rfl
  | c :: r, i, k + 1 + 1, n, h, hk, hn => by
    obtain ⟨h1, h2, h3⟩ := cs_step h
    have hb := cs_bd s c (List.mem_of_mem_drop (i := i) (by rw [h]; exact List.mem_cons_self))
    rw [heirloomref01_hex.l0, if_pos (by omega), if_pos (by omega), h2]
    simp only [hxL]
    have ed : (if c ≥ 48 then heirloomref01_hex.j1 (k + 1) s n i c (decide (c ≤ 57)) else heirloomref01_hex.j1 (k + 1) s n i c false) = heirloomref01_hex.j1 (k + 1) s n i c (dig c) := by
      unfold dig
      by_cases a : c ≥ 48
      · rw [if_pos a, decide_eq_true (show 48 ≤ c from a), Bool.true_and]
      · rw [if_neg a, decide_eq_false (show ¬ 48 ≤ c from a), Bool.false_and]
    rw [ed, heirloomref01_hex.j1]
    have ew : IntKind.u64.wrap (16 * n) = 16 * n % 18446744073709551616 := rfl
    by_cases a : dig c = true
    · have hc := (dig_iff c).1 a
      rw [if_pos a, if_pos a, show (c - 48) % 256 = c - 48 by omega, ew, u64_in (by omega) (by omega), w64_nat (by omega)]
      exact hex_l0 hs r (i + 1) k _ h3 (by simp at hk; omega) (by omega)
    · rw [if_neg a, if_neg a]
      by_cases b : 97 ≤ c ∧ c ≤ 102
      · rw [if_pos (show c ≥ 97 from b.1), if_pos b.2, if_pos b, show (c - 97) % 256 = c - 97 by omega, ew, u64_in (n := 16 * n % 18446744073709551616 + (c - 97)) (by omega) (by omega), u64_in (by omega) (by omega), w64_nat (by omega)]
        rw [show 16 * n % 18446744073709551616 + (c - 97) + 10 = 16 * n % 18446744073709551616 + (c - 87) by omega]
        exact hex_l0 hs r (i + 1) k _ h3 (by simp at hk; omega) (by omega)
      · rw [if_neg b]
        by_cases d : c ≥ 97
        · rw [if_pos d, if_neg (by omega)]
        · rw [if_neg d]
def hxV (l : List Int) : Int × Int × Int := match hxL 0 l with | none => (0, 0, 6) | some m => if isB 3 (wrap64 m) = true then (3, wrap64 m, 0) else (0, 0, 6)
theorem bits_f {s : ByteArray} (hs : s.size ≤ 140737488351232) (k : Nat) (hk : 2 * s.size < k) : num_bits.f k s = some (hxV (cs s)) := by
  unfold num_bits.f hxV
  exact bits_l0 hs (cs s) 0 k 0 rfl (by rw [cs_len]; exact hk) (by decide)
theorem hex_f {s : ByteArray} (hs : s.size ≤ 140737488351232) (k : Nat) (hk : 2 * s.size < k) : ((heirloomref01_hex.f k s).bind fun b => (if b.2 = true then ((heirloomref01_Is.f 3 (wrap64 (b.1))).bind fun t => (if t = true then (some (3, wrap64 (b.1), 0)) else (some (0, 0, 6)))) else (some (0, 0, 6)))) = some (hxV (cs s)) := by
  unfold heirloomref01_hex.f hxV
  have := hex_l0 hs (cs s) 0 k 0 rfl (by rw [cs_len]; exact hk) (by decide)
  rw [show ((0 : Nat) : Int) = 0 from rfl] at this
  rw [this]
  cases hxL 0 (cs s) with
  | none => rfl
  | some m =>
    simp only [Option.bind_some, if_true, ris_f]
    split <;> rfl
/-! the walk up to a point -/
theorem rd_dig {s : ByteArray} (hs : s.size ≤ 140737488351232) (minus : Bool) (p : Int) : ∀ (a b : List Int) (i k : Nat), (cs s).drop i = a ++ b → a.all dig = true →
    num_Read.l0 (k + 2 * a.length) s minus p s.size i = num_Read.l0 k s minus p s.size (i + a.length : Nat)
  | [], b, i, k, _, _ => rfl
  | c :: a, b, i, k, h, ha => by
    obtain ⟨h1, h2, h3⟩ := cs_step h
    rw [List.all_cons, Bool.and_eq_true] at ha
    have hc := (dig_iff c).1 ha.1
    have e : k + 2 * (c :: a).length = (k + 2 * a.length) + 1 + 1 := by rw [List.length_cons]; omega
    rw [e, num_Read.l0, if_pos (by omega), if_pos (by omega), if_pos (by omega), h2, if_neg (by omega), num_Read.j4, if_neg Bool.false_ne_true, if_pos (by omega), if_pos (by omega), h2, if_neg (by omega), if_neg (by omega), w64_nat (by omega)]
    rw [rd_dig hs minus p a b (i + 1) k h3 ha.2, List.length_cons]
    congr 2; omega
theorem rd_bad {s : ByteArray} (hs : s.size ≤ 140737488351232) (minus : Bool) (p : Int) (c : Int) (b : List Int) (i k : Nat) (h : (cs s).drop i = c :: b) (hc : dig c = false) (hp : c = 46 → p ≠ s.size) :
    num_Read.l0 (k + 2) s minus p s.size i = some (0, 0, 6) := by
  obtain ⟨h1, h2, h3⟩ := cs_step h
  have hc' : ¬ (48 ≤ c ∧ c ≤ 57) := fun z => by rw [(dig_iff c).2 z] at hc; cases hc
  have hj : num_Read.j4 (k + 1) s minus p i s.size i false = some (0, 0, 6) := by
    rw [num_Read.j4, if_neg Bool.false_ne_true, if_pos (by omega), if_pos (by omega), h2]
    by_cases a : c < 48
    · rw [if_pos a]
    · rw [if_neg a, if_pos (by omega)]
  rw [num_Read.l0, if_pos (by omega), if_pos (by omega), if_pos (by omega), h2]
  by_cases a : c = 46
  · rw [if_pos a, show (p == (s.size : Int)) = false from beq_eq_false_iff_ne.2 (hp a), hj]
  · rw [if_neg a, hj]
theorem rd_dot {s : ByteArray} (hs : s.size ≤ 140737488351232) (minus : Bool) (b : List Int) (i k : Nat) (h : (cs s).drop i = 46 :: b) :
    num_Read.l0 (k + 2) s minus s.size s.size i = num_Read.l0 k s minus i s.size (i + 1 : Nat) := by
  obtain ⟨h1, h2, h3⟩ := cs_step h
  rw [num_Read.l0, if_pos (by omega), if_pos (by omega), if_pos (by omega), h2, if_pos rfl, beq_self_eq_true, num_Read.j4, if_pos rfl, w64_nat (by omega)]

end Go.Proofs.YtpemgladmnbfhaaDoor.FT

namespace Go.Proofs.YtpemgladmnbfhaaDoor.FT
set_option exponentiation.threshold 3000
open Go.RowKit Go.Proofs.YtpemgladmnbfhaaDoor.Fl Go.Proofs.YtpemgladmnbfhaaDoor.QL Go.Proofs.YtpemgladmnbfhaaDoorW.PrintWords
theorem fI_10 : floatOfInt .f64 10 = 4621819117588971520 := by decide +kernel
theorem fI_1 : floatOfInt .f64 1 = 4607182418800017408 := by decide +kernel
theorem fI_0 : floatOfInt .f64 0 = 0 := by decide +kernel
theorem mul_0 : floatBits .mul .f64 0 4621819117588971520 = some 0 := by decide +kernel
/-- how an int below 2^53 lies in a word -/
theorem fI_parts (n : Int) (h0 : 0 < n) (h : n < 9007199254740992) : ∃ m e : Nat, FloatKind.f64.format.read (floatOfInt .f64 n) = .number false m (-1074 + (e : Int)) ∧ m * 2 ^ e = n.natAbs * U ∧ 1022 ≤ e := by
  obtain ⟨h1, h2⟩ := fI_small n (by omega)
  have hs : sgn (floatOfInt .f64 n) = false := by rw [fI_eq, sgn_wd _ (rnd_le _)]; exact decide_eq_false (by omega)
  refine ⟨mant (rung (floatOfInt .f64 n)), expo (rung (floatOfInt .f64 n)), ?_, ?_, ?_⟩
  · rw [read_fin h2, hs]
  · have e : fval (floatOfInt .f64 n) = (mag (rung (floatOfInt .f64 n)) : Int) := by unfold fval; rw [hs, sgF]
    rw [e] at h1
    have : (mag (rung (floatOfInt .f64 n)) : Int) = ((n.natAbs * U : Nat) : Int) := by
      rw [h1, Int.natCast_mul, Int.natAbs_of_nonneg (by omega)]
    have h3 : mag (rung (floatOfInt .f64 n)) = n.natAbs * U := by exact Int.ofNat.inj this
    exact h3
  · have e : fval (floatOfInt .f64 n) = (mag (rung (floatOfInt .f64 n)) : Int) := by unfold fval; rw [hs, sgF]
    rw [e] at h1
    have h3 : mag (rung (floatOfInt .f64 n)) = n.natAbs * U := by
      have : (mag (rung (floatOfInt .f64 n)) : Int) = ((n.natAbs * U : Nat) : Int) := by
        rw [h1, Int.natCast_mul, Int.natAbs_of_nonneg (by omega)]
      exact Int.ofNat.inj this
    refine Nat.not_lt.1 fun z => ?_
    have h4 : mag (rung (floatOfInt .f64 n)) < 2 ^ 53 * 2 ^ 1021 := by
      unfold mag
      exact Nat.lt_of_lt_of_le (Nat.mul_lt_mul_of_pos_right (mant_lt _) (Nat.two_pow_pos _)) (Nat.mul_le_mul_left _ (Nat.pow_le_pow_right (by decide) (by omega)))
    rw [h3, ← Nat.pow_add] at h4
    have h5 : 1 * U ≤ n.natAbs * U := Nat.mul_le_mul_right _ (by omega)
    unfold U at h4 h5
    rw [Nat.one_mul] at h5
    exact absurd h4 (Nat.not_lt.2 h5)
theorem pow_sum (x y z : Nat) (h : x + y = z) : 2 ^ x * 2 ^ y = 2 ^ z := by rw [← Nat.pow_add, h]
theorem powU (e e' : Nat) (h : 1074 ≤ e + e') : 2 ^ (e + e' - 1074) * U = 2 ^ e * 2 ^ e' :=
  (pow_sum (e + e' - 1074) 1074 (e + e') (Nat.sub_add_cancel h)).trans (pow_sum e e' (e + e') rfl).symm
theorem write_num (s : Bool) (m : Nat) (e : Int) : FloatKind.f64.format.write (.number s m e) = FloatKind.f64.format.nearest s m e := rfl
theorem mul_small (a b : Int) (ha : 0 < a) (hb : 0 < b) (h1 : a < 9007199254740992) (h2 : b < 9007199254740992) (h : a * b < 9007199254740992) :
    floatBits .mul .f64 (floatOfInt .f64 a) (floatOfInt .f64 b) = some (floatOfInt .f64 (a * b)) := by
  obtain ⟨m, e, hr, hm, he⟩ := fI_parts a ha h1
  obtain ⟨m', e', hr', hm', he'⟩ := fI_parts b hb h2
  have hq : floatBits .mul .f64 (floatOfInt .f64 a) (floatOfInt .f64 b) = ((FloatKind.f64.format.read (floatOfInt .f64 a)).product (FloatKind.f64.format.read (floatOfInt .f64 b))).map FloatKind.f64.format.write := rfl
  rw [hq, hr, hr']
  have hp : (Ieee.Datum.number false m (-1074 + (e : Int))).product (.number false m' (-1074 + (e' : Int))) = some (.number false (m * m') ((-1074 + (e : Int)) + (-1074 + (e' : Int)))) := rfl
  rw [hp]
  show some (FloatKind.f64.format.write _) = _
  rw [write_num, show (-1074 + (e : Int)) + (-1074 + (e' : Int)) = ((e + e' - 1074 : Nat) : Int) - 1074 by omega, nearest_rnd, fI_eq (a * b)]
  have hab : 0 < a * b := Int.mul_pos ha hb
  have hv : m * m' * 2 ^ (e + e' - 1074) = (a * b).natAbs * U := by
    have hP : 2 ^ (e + e' - 1074) * U = 2 ^ e * 2 ^ e' := powU e e' (by omega)
    have h3 : m * m' * 2 ^ (e + e' - 1074) * U = (a * b).natAbs * U * U := by
      rw [Nat.mul_assoc, hP, Nat.mul_mul_mul_comm, hm, hm', Int.natAbs_mul, Nat.mul_mul_mul_comm, Nat.mul_assoc (a.natAbs * b.natAbs)]
    exact Nat.eq_of_mul_eq_mul_right U_pos h3
  rw [hv, decide_eq_false (show ¬ a * b < 0 by omega)]
theorem add_small (a b : Int) (ha : 0 ≤ a) (hb : 0 ≤ b) (h : a + b < 9007199254740992) :
    floatBits .add .f64 (floatOfInt .f64 a) (floatOfInt .f64 b) = some (floatOfInt .f64 (a + b)) := by
  obtain ⟨h1, h2⟩ := fI_small a (by omega)
  obtain ⟨h3, h4⟩ := fI_small b (by omega)
  have hq : floatBits .add .f64 (floatOfInt .f64 a) (floatOfInt .f64 b) = FloatKind.f64.format.add (floatOfInt .f64 a) (floatOfInt .f64 b) := rfl
  have hs : sgn (floatOfInt .f64 a) = false := by rw [fI_eq, sgn_wd _ (rnd_le _)]; exact decide_eq_false (by omega)
  rw [hq, sum_num h2 h4, h1, h3, hs, Bool.false_and, ← Int.add_mul, fI_eq (a + b)]
  have e1 : sumS (a * (U : Int)) (b * (U : Int)) false = decide (a + b < 0) := by
    unfold sumS
    rw [← Int.add_mul, decide_eq_false (show ¬ a + b < 0 by omega)]
    have : 0 ≤ (a + b) * (U : Int) := Int.mul_nonneg (by omega) (by omega)
    split
    · rfl
    · exact decide_eq_false (by omega)
  rw [e1, Int.natAbs_mul, Int.natAbs_natCast]
theorem quo_ok (a b : Int) (ha : 0 ≤ a) (hb : 0 < b) (h1 : a < 9007199254740992) (h2 : b < 9007199254740992) : fok .quo (floatOfInt .f64 a) (floatOfInt .f64 b) = true := by
  obtain ⟨m', e', hr', hm', he'⟩ := fI_parts b hb h2
  have hq : floatBits .quo .f64 (floatOfInt .f64 a) (floatOfInt .f64 b) = ((FloatKind.f64.format.read (floatOfInt .f64 a)).quotient (FloatKind.f64.format.fractionBits + 2) (FloatKind.f64.format.read (floatOfInt .f64 b))).map FloatKind.f64.format.write := rfl
  have hm : m' ≠ 0 := fun z => by
    rw [z, Nat.zero_mul] at hm'
    have := Nat.mul_pos (show 0 < b.natAbs by omega) U_pos
    omega
  unfold fok
  rw [hq, hr', read_fin (fI_small a (by omega)).2]
  generalize FloatKind.f64.format.write = f
  generalize mant (rung (floatOfInt .f64 a)) = m
  generalize sgn (floatOfInt .f64 a) = s
  generalize (-1074 + (expo (rung (floatOfInt .f64 a)) : Int)) = i
  generalize (-1074 + (e' : Int)) = j
  simp only [Ieee.Datum.quotient, if_neg hm]
  rfl

end Go.Proofs.YtpemgladmnbfhaaDoor.FT

namespace Go.Proofs.YtpemgladmnbfhaaDoor.FT
open Go.RowKit Go.Proofs.YtpemgladmnbfhaaDoor.Fl Go.Proofs.YtpemgladmnbfhaaDoor.QL Go.Proofs.YtpemgladmnbfhaaDoorW.PrintWords
def valL : Int → List Int → Int
  | n, [] => n
  | n, c :: r => valL (10 * n + (c - 48)) r
theorem valL_app (a b : List Int) : ∀ n, valL n (a ++ b) = valL (valL n a) b := by
  induction a with
  | nil => intro n; rfl
  | cons c r ih => intro n; exact ih _
theorem valL_bd : ∀ (r : List Int) (n : Int) (m : Nat), r.all dig = true → 0 ≤ n → n < ((10 ^ m : Nat) : Int) → 0 ≤ valL n r ∧ valL n r < ((10 ^ (m + r.length) : Nat) : Int)
  | [], n, m, _, h, h' => ⟨h, h'⟩
  | c :: r, n, m, hd, h, h' => by
    rw [List.all_cons, Bool.and_eq_true] at hd
    have hc := (dig_iff c).1 hd.1
    have := valL_bd r (10 * n + (c - 48)) (m + 1) hd.2 (by omega) (by rw [Nat.pow_succ, Int.natCast_mul]; omega)
    rw [show m + (c :: r).length = m + 1 + r.length by rw [List.length_cons]; omega]
    exact this
def decV (minus : Bool) (n ten : Int) : Int × Int × Int := if minus = true then ((flV (fneg (fop .quo (floatOfInt .f64 n) (floatOfInt .f64 ten)))).1, (flV (fneg (fop .quo (floatOfInt .f64 n) (floatOfInt .f64 ten)))).2, 0) else ((flV (fop .quo (floatOfInt .f64 n) (floatOfInt .f64 ten))).1, (flV (fop .quo (floatOfInt .f64 n) (floatOfInt .f64 ten))).2, 0)
theorem fok_of {o : BinOp} {x y r : Nat} (h : floatBits o .f64 x y = some r) : fok o x y = true ∧ fop o x y = r := by
  unfold fok fop; rw [h]; exact ⟨rfl, rfl⟩
theorem ten_bd (m : Nat) (h : m ≤ 15) : ((10 ^ m : Nat) : Int) ≤ 1000000000000000 ∧ 0 < ((10 ^ m : Nat) : Int) := by
  have h1 : 10 ^ m ≤ 10 ^ 15 := Nat.pow_le_pow_right (by decide) h
  have h2 : 0 < 10 ^ m := Nat.pow_pos (by decide)
  omega
theorem fin_dec (k : Nat) (minus : Bool) (n ten : Int) (hn : 0 ≤ n) (hn' : n < 9007199254740992) (ht : 0 < ten) (ht' : ten < 9007199254740992) (beh i : Int) (h : ¬ i < beh) :
    num_decimal.l1 (k + 1) minus (floatOfInt .f64 n) (floatOfInt .f64 ten) beh i = some (decV minus n ten) := by
  rw [num_decimal.l1, if_neg h, if_pos (quo_ok n ten hn ht hn' ht'), float_f, if_pos (quo_ok n ten hn ht hn' ht'), float_f]
  unfold decV
  cases minus <;> rfl
theorem dec_l1 (minus : Bool) (n : Int) (hn : 0 ≤ n) (hn' : n < 9007199254740992) (beh : Nat) (hb : beh ≤ 15) : ∀ (j i k : Nat), i + j = beh → j < k →
    num_decimal.l1 k minus (floatOfInt .f64 n) (floatOfInt .f64 ((10 ^ i : Nat) : Int)) beh i = some (decV minus n ((10 ^ beh : Nat) : Int))
  | j, i, 0, _, h => absurd h (by omega)
  | 0, i, k + 1, h, _ => by
    obtain rfl : i = beh := by omega
    have := ten_bd i hb
    exact fin_dec k minus n _ hn hn' this.2 (by omega) _ _ (by omega)
  | j + 1, i, k + 1, h, hk => by
    have h1 := ten_bd i (by omega)
    have h2 := ten_bd (i + 1) (by omega)
    have e : ((10 ^ i : Nat) : Int) * 10 = ((10 ^ (i + 1) : Nat) : Int) := by rw [Nat.pow_succ, Int.natCast_mul]; rfl
    have hm := mul_small ((10 ^ i : Nat) : Int) 10 h1.2 (by decide) (by omega) (by decide) (by rw [e]; omega)
    rw [fI_10, e] at hm
    have hf := fok_of hm
    rw [num_decimal.l1, if_pos (by omega), if_pos hf.1, hf.2, w64_nat (by omega)]
    exact dec_l1 minus n hn hn' beh hb j (i + 1) k (by omega) (by omega)
theorem dec_l0 {s : ByteArray} (hs : s.size ≤ 15) (minus : Bool) (beh : Nat) (hb : beh ≤ 15) : ∀ (r : List Int) (i k : Nat) (n : Int), (cs s).drop i = r → r.length + beh + 1 < k → r.all dig = true → 0 ≤ n → n < ((10 ^ i : Nat) : Int) → i + r.length ≤ 15 →
    num_decimal.l0 k s beh minus (floatOfInt .f64 n) 4607182418800017408 s.size i = some (decV minus (valL n r) ((10 ^ beh : Nat) : Int))
  | r, i, 0, n, _, h, _, _, _, _ => absurd h (by omega)
  | [], i, k + 1, n, h, hk, _, hn, hn', hi => by
    have := cs_stop h
    rw [num_decimal.l0, if_neg (by omega)]
    have h1 := ten_bd i (by simpa using hi)
    have := dec_l1 minus n hn (by omega) beh hb beh 0 k (by omega) (by simp at hk; omega)
    rw [Nat.pow_zero, show (((1 : Nat) : Int)) = 1 from rfl, fI_1] at this
    exact this
  | c :: r, i, k + 1, n, h, hk, hd, hn, hn', hi => by
    obtain ⟨h1, h2, h3⟩ := cs_step h
    rw [List.all_cons, Bool.and_eq_true] at hd
    rw [List.length_cons] at hk hi
    have hc := (dig_iff c).1 hd.1
    have hb1 := ten_bd (i + 1) (by omega)
    have hb2 : 10 * n + (c - 48) < ((10 ^ (i + 1) : Nat) : Int) := by rw [Nat.pow_succ, Int.natCast_mul]; omega
    have hm : floatBits .mul .f64 (floatOfInt .f64 n) 4621819117588971520 = some (floatOfInt .f64 (10 * n)) := by
      by_cases h0 : n = 0
      · subst h0; rw [fI_0, mul_0]; exact congrArg some fI_0.symm
      · have := mul_small n 10 (by omega) (by decide) (by omega) (by decide) (by omega)
        rw [fI_10, Int.mul_comm] at this
        exact this
    have ha := add_small (10 * n) (c - 48) (by omega) (by omega) (by omega)
    have hf := fok_of hm
    rw [num_decimal.l0, if_pos (by omega), if_pos hf.1, if_pos (by omega), if_pos (by omega), h2, hf.2, show (c - 48) % 256 = c - 48 by omega]
    have hg := fok_of ha
    rw [if_pos hg.1, hg.2, w64_nat (by omega)]
    exact dec_l0 hs minus beh hb r (i + 1) k _ h3 (by omega) hd.2 (by omega) hb2 (by omega)
theorem decimal_f {s : ByteArray} (minus : Bool) (beh : Nat) (hb : beh ≤ s.size) (k : Nat) (hk : 2 * s.size + 2 < k) (hd : (cs s).all dig = true) :
    num_decimal.f k s beh minus = some (if (s.size : Int) > 15 then (0, 0, 7) else decV minus (valL 0 (cs s)) ((10 ^ beh : Nat) : Int)) := by
  unfold num_decimal.f
  by_cases h : (s.size : Int) > 15
  · rw [if_pos h, if_pos h]
  · rw [if_neg h, if_neg h]
    have := dec_l0 (s := s) (by omega) minus beh (by omega) (cs s) 0 k 0 rfl (by rw [cs_len]; omega) hd (by decide) (by decide) (by rw [cs_len]; omega)
    rw [fI_0] at this
    exact this
/-! the reference -/
theorem rd_run {s : ByteArray} (hs : s.size ≤ 16) (minus : Bool) (p : Int) : ∀ (a b : List Int) (i k : Nat) (n : Int) (m : Nat), (cs s).drop i = a ++ b → a.all dig = true → (p < i ∨ i + a.length ≤ p) → 0 ≤ n → n < ((10 ^ m : Nat) : Int) → m + a.length ≤ 15 →
    heirloomref01_Read.l0 (k + a.length) minus s p n i = heirloomref01_Read.l0 k minus s p (valL n a) (i + a.length : Nat)
  | [], b, i, k, n, m, _, _, _, _, _, _ => rfl
  | c :: a, b, i, k, n, m, h, ha, hp, hn, hn', hm => by
    obtain ⟨h1, h2, h3⟩ := cs_step h
    rw [List.all_cons, Bool.and_eq_true] at ha
    rw [List.length_cons] at hp hm
    have hc := (dig_iff c).1 ha.1
    have hb1 := ten_bd (m + 1) (by omega)
    have hb2 : 10 * n + (c - 48) < ((10 ^ (m + 1) : Nat) : Int) := by rw [Nat.pow_succ, Int.natCast_mul]; omega
    have ew : wrap64 (wrap64 (10 * n) + (c - 48)) = 10 * n + (c - 48) := by unfold wrap64; omega
    rw [List.length_cons, show k + (a.length + 1) = (k + a.length) + 1 by omega, heirloomref01_Read.l0, if_pos (by omega), if_neg (by omega), if_pos (by omega), h2, show (c - 48) % 256 = c - 48 by omega, ew, w64_nat (by omega)]
    rw [rd_run hs minus p a b (i + 1) k _ (m + 1) h3 ha.2 (by omega) (by omega) hb2 (by omega)]
    show heirloomref01_Read.l0 k minus s p (valL (10 * n + (c - 48)) a) _ = heirloomref01_Read.l0 k minus s p (valL (10 * n + (c - 48)) a) _
    congr 2; omega
theorem rd_l1 {s : ByteArray} (hs : s.size ≤ 16) (minus : Bool) (n : Int) (hn : 0 ≤ n) (hn' : n < 9007199254740992) : ∀ (j i k m : Nat), i + j = s.size → j < k → m + j ≤ 15 →
    heirloomref01_Read.l1 k minus s n ((10 ^ m : Nat) : Int) i = some (decV minus n ((10 ^ (m + j) : Nat) : Int))
  | j, i, 0, m, _, h, _ => absurd h (by omega)
  | 0, i, k + 1, m, h, _, hm => by
    have ht := ten_bd m (by omega)
    have q := quo_ok n ((10 ^ m : Nat) : Int) hn ht.2 hn' (by omega)
    rw [heirloomref01_Read.l1, if_neg (by omega), if_pos q]
    simp only [rfloat_f, float_f, Option.bind_some]
    unfold decV
    cases minus <;> rfl
  | j + 1, i, k + 1, m, h, hk, hm => by
    have ht := ten_bd (m + 1) (by omega)
    have e : wrap64 (10 * ((10 ^ m : Nat) : Int)) = ((10 ^ (m + 1) : Nat) : Int) := by
      have : 10 * ((10 ^ m : Nat) : Int) = ((10 ^ (m + 1) : Nat) : Int) := by rw [Nat.pow_succ, Int.natCast_mul, Int.mul_comm]; rfl
      rw [this]; unfold wrap64; omega
    rw [heirloomref01_Read.l1, if_pos (by omega), e, w64_nat (by omega), show m + (j + 1) = m + 1 + j by omega]
    exact rd_l1 hs minus n hn hn' j (i + 1) k (m + 1) (by omega) (by omega) (by omega)
theorem rdec_f {s : ByteArray} (hs : s.size ≤ 16) (minus : Bool) (a b : List Int) (hl : cs s = a ++ 46 :: b) (ha : a.all dig = true) (hb : b.all dig = true) (k : Nat) (hk : 40 ≤ k) :
    heirloomref01_Read.l0 k minus s (a.length : Int) 0 0 = some (decV minus (valL 0 (a ++ b)) ((10 ^ b.length : Nat) : Int)) := by
  have hlen : s.size = a.length + 1 + b.length := by rw [← cs_len, hl, List.length_append, List.length_cons]; omega
  obtain ⟨k, rfl⟩ : ∃ j, k = (j + 1 + b.length + 1) + a.length := ⟨k - (1 + b.length + 1 + a.length), by omega⟩
  have h1 := rd_run hs minus a.length a (46 :: b) 0 (k + 1 + b.length + 1) 0 0 hl ha (.inr (by omega)) (by decide) (by decide) (by omega)
  rw [show ((0 : Nat) : Int) = 0 from rfl] at h1
  rw [h1]
  have v1 := valL_bd a 0 0 ha (by decide) (by decide)
  have hd1 : (cs s).drop (a.length + 1) = b := by
    rw [hl, show a.length + 1 = a.length + 1 from rfl, ← List.drop_drop, List.drop_left]; rfl
  rw [heirloomref01_Read.l0, if_pos (by omega), if_pos (by omega), w64_nat (by omega), show 0 + a.length + 1 = a.length + 1 by omega]
  rw [rd_run hs minus a.length b [] (a.length + 1) (k + 1) _ a.length (by rw [hd1, List.append_nil]) hb (.inl (by omega)) v1.1 (by simpa using v1.2) (by omega)]
  rw [heirloomref01_Read.l0, if_neg (by omega), w64_nat (by omega), ← valL_app]
  have hab : (a ++ b).all dig = true := by rw [List.all_append, ha, hb]; rfl
  have v2 := valL_bd (a ++ b) 0 0 hab (by decide) (by decide)
  have v3 := ten_bd (0 + (a ++ b).length) (by rw [List.length_append]; omega)
  have := rd_l1 hs minus (valL 0 (a ++ b)) v2.1 (by omega) b.length (a.length + 1) k 0 (by omega) (by omega) (by omega)
  rw [Nat.pow_zero, Nat.zero_add] at this
  exact this

end Go.Proofs.YtpemgladmnbfhaaDoor.FT

namespace Go.Proofs.YtpemgladmnbfhaaDoor.FT
open Go.RowKit Go.Proofs.YtpemgladmnbfhaaDoor.Fl Go.Proofs.YtpemgladmnbfhaaDoor.QL Go.Proofs.YtpemgladmnbfhaaDoorW.PrintWords
theorem wholeL_some (minus : Bool) (n : Int) (l : List Int) : ∃ v, wholeL minus n l = v := ⟨_, rfl⟩
/-- all digits -/
theorem nread_dig {s : ByteArray} (hs : s.size ≤ 140737488351232) (minus : Bool) (k : Nat) (hk : 4 * s.size + 40 ≤ k) (hd : (cs s).all dig = true) :
    num_Read.j2 k s minus = some (if s.size = 0 then (0, 0, 6) else wholeL minus 0 (cs s)) := by
  obtain ⟨k, rfl⟩ : ∃ j, k = (j + 1 + 1 + 2 * s.size) + 1 := ⟨k - (3 + 2 * s.size), by omega⟩
  have hl : (cs s).length = s.size := cs_len s
  rw [num_Read.j2]
  have h1 := rd_dig hs minus s.size (cs s) [] 0 (k + 1 + 1) (by rw [List.append_nil]; rfl) hd
  rw [hl, show ((0 : Nat) : Int) = 0 from rfl] at h1
  rw [h1, num_Read.l0, if_neg (by omega)]
  by_cases h0 : s.size = 0
  · rw [if_pos (by omega), if_pos h0, num_Read.j5, if_pos rfl]
  · have ew : wrap64 ((s.size : Int) - 1) = (s.size : Int) - 1 := by unfold wrap64; omega
    rw [if_neg (by omega), if_neg h0, ew, show ((s.size : Int) == (s.size : Int) - 1) = false from beq_eq_false_iff_ne.2 (by omega), num_Read.j5, if_neg Bool.false_ne_true, if_neg (by omega), digits_f hs minus k (by omega) hd]
    rfl
theorem allB_dig {l : List Int} (h : l.all dig = true) : allB l = !l.isEmpty := by unfold allB; rw [h, Bool.true_and]
theorem allB_not {l : List Int} (h : l.all dig = false) : allB l = false := by unfold allB; rw [h, Bool.false_and]
theorem not_all (a b : List Int) (c : Int) (h : dig c = false) : (a ++ c :: b).all dig = false := by
  rw [List.all_append, List.all_cons, h, Bool.false_and, Bool.and_false]
theorem rread_dig {s : ByteArray} (hs : s.size ≤ 140737488351232) (minus : Bool) (k : Nat) (hk : 4 * s.size + 40 ≤ k) (hd : (cs s).all dig = true) :
    heirloomref01_Read.j2 k minus s = some (if s.size = 0 then (0, 0, 6) else wholeL minus 0 (cs s)) := by
  obtain ⟨k, rfl⟩ : ∃ j, k = j + 1 + 1 := ⟨k - 2, by omega⟩
  rw [heirloomref01_Read.j2, all_f hs _ (by omega)]
  simp only [Option.bind_some]
  rw [allB_dig hd]
  by_cases h0 : s.size = 0
  · have hc : cs s = [] := List.eq_nil_of_length_eq_zero (by rw [cs_len]; exact h0)
    have hp := point_l0 hs (cs s) 0 (k + 1) rfl (by rw [cs_len]; omega)
    rw [show ((0 : Nat) : Int) = 0 from rfl] at hp
    unfold heirloomref01_point.f
    rw [hp, hc, if_pos h0]
    simp only [List.isEmpty_nil, Bool.not_true, Bool.false_eq_true, if_false, Option.bind_some, pointL]
    rw [if_pos (by decide), heirloomref01_Read.j3, if_pos rfl]
  · have hc : (cs s).isEmpty = false := by
      rw [List.isEmpty_eq_false_iff]
      intro z; have := cs_len s; rw [z] at this; exact h0 this.symm
    rw [hc, Bool.not_false, if_pos rfl, whole_f hs minus _ (by omega) hd, if_neg h0]
    rfl
/-- digits, then one that is none and no point -/
theorem nread_bad {s : ByteArray} (hs : s.size ≤ 140737488351232) (minus : Bool) (k : Nat) (hk : 4 * s.size + 40 ≤ k) (a b : List Int) (c : Int) (hl : cs s = a ++ c :: b) (ha : a.all dig = true) (hc : dig c = false) (h46 : c ≠ 46) :
    num_Read.j2 k s minus = some (0, 0, 6) := by
  have hlen : s.size = a.length + 1 + b.length := by rw [← cs_len, hl, List.length_append, List.length_cons]; omega
  obtain ⟨k, rfl⟩ : ∃ j, k = (j + 2 + 2 * a.length) + 1 := ⟨k - (3 + 2 * a.length), by omega⟩
  rw [num_Read.j2]
  have h1 := rd_dig hs minus s.size a (c :: b) 0 (k + 2) hl ha
  rw [show ((0 : Nat) : Int) = 0 from rfl] at h1
  rw [h1, rd_bad hs minus s.size c b (0 + a.length) k (by rw [hl, Nat.zero_add, List.drop_left]) hc (fun z => absurd z h46)]
theorem rread_bad {s : ByteArray} (hs : s.size ≤ 140737488351232) (minus : Bool) (k : Nat) (hk : 4 * s.size + 40 ≤ k) (a b : List Int) (c : Int) (hl : cs s = a ++ c :: b) (ha : a.all dig = true) (hc : dig c = false) (h46 : c ≠ 46) :
    heirloomref01_Read.j2 k minus s = some (0, 0, 6) := by
  have hlen : s.size = a.length + 1 + b.length := by rw [← cs_len, hl, List.length_append, List.length_cons]; omega
  obtain ⟨k, rfl⟩ : ∃ j, k = j + 1 + 1 := ⟨k - 2, by omega⟩
  have hp := point_l0 hs (cs s) 0 (k + 1) rfl (by rw [cs_len]; omega)
  rw [show ((0 : Nat) : Int) = 0 from rfl] at hp
  rw [heirloomref01_Read.j2, all_f hs _ (by omega), allB_not (by rw [hl]; exact not_all a b c hc)]
  unfold heirloomref01_point.f
  rw [hp, hl, point_app a b c ha, if_neg h46]
  simp only [Bool.false_eq_true, if_false, Option.bind_some]
  have hj : ∀ p, heirloomref01_Read.j3 (k + 1) minus s p true = some (0, 0, 6) := fun p => by rw [heirloomref01_Read.j3, if_pos rfl]
  rcases point_ge b (0 + a.length + 1) with h | h
  · rw [h, if_pos (by decide), hj]
  · generalize hq : pointL b (0 + a.length + 1) = q at *
    obtain ⟨p, rfl⟩ : ∃ p : Nat, q = p := ⟨q.toNat, by omega⟩
    rw [if_neg (by omega), if_pos (by omega), if_pos (by omega), all_f (by rw [ByteArray.size_extract]; omega) _ (by rw [ByteArray.size_extract]; omega)]
    simp only [Option.bind_some]
    have e : allB (cs (s.extract 0 (p : Int).toNat)) = false := by
      rw [cs_extract, List.drop_zero, hl]
      apply allB_not
      obtain ⟨d, hd⟩ : ∃ d, (p : Int).toNat = a.length + (d + 1) := ⟨p - a.length - 1, by omega⟩
      rw [hd, List.take_append, List.take_of_length_le (by omega), show a.length + (d + 1) - a.length = d + 1 by omega, List.take_succ_cons]
      exact not_all a _ c hc
    rw [e, if_neg Bool.false_ne_true, hj]
def pointV (minus : Bool) (a b : List Int) : Int × Int × Int :=
  if a = [] ∨ b = [] ∨ b.all dig = false then (0, 0, 6) else if ((a ++ b).length : Int) > 15 then (0, 0, 7) else decV minus (valL 0 (a ++ b)) ((10 ^ b.length : Nat) : Int)
theorem pointV_bad {minus : Bool} {a b : List Int} (h : a = [] ∨ b = [] ∨ b.all dig = false) : pointV minus a b = (0, 0, 6) := by unfold pointV; rw [if_pos h]
theorem pointV_good {minus : Bool} {a b : List Int} (h : a ≠ []) (h' : b ≠ []) (hb : b.all dig = true) : pointV minus a b = if ((a ++ b).length : Int) > 15 then (0, 0, 7) else decV minus (valL 0 (a ++ b)) ((10 ^ b.length : Nat) : Int) := by
  unfold pointV; rw [if_neg (by rw [hb]; rintro (z | z | z); exact h z; exact h' z; cases z)]
theorem nread_dot {s : ByteArray} (hs : s.size ≤ 140737488351232) (minus : Bool) (k : Nat) (hk : 8 * s.size + 80 ≤ k) (a b : List Int) (hl : cs s = a ++ 46 :: b) (ha : a.all dig = true) :
    num_Read.j2 k s minus = some (pointV minus a b) := by
  have hlen : s.size = a.length + 1 + b.length := by rw [← cs_len, hl, List.length_append, List.length_cons]; omega
  obtain ⟨k, rfl⟩ : ∃ j, k = (j + 2 + 2 * a.length) + 1 := ⟨k - (3 + 2 * a.length), by omega⟩
  rw [num_Read.j2]
  have h1 := rd_dig hs minus s.size a (46 :: b) 0 (k + 2) hl ha
  rw [show ((0 : Nat) : Int) = 0 from rfl] at h1
  have hd0 : (cs s).drop (0 + a.length) = 46 :: b := by rw [hl, Nat.zero_add, List.drop_left]
  have hd1 : (cs s).drop (0 + a.length + 1) = b := (cs_step hd0).2.2
  rw [h1, rd_dot hs minus b (0 + a.length) k hd0]
  rcases split_dig b with hb | ⟨b1, c, b2, hbe, hb1, hc⟩
  · obtain ⟨k, rfl⟩ : ∃ j, k = (j + 1 + 1) + 2 * b.length := ⟨k - (2 + 2 * b.length), by omega⟩
    rw [rd_dig hs minus _ b [] (0 + a.length + 1) (k + 1 + 1) (by rw [hd1, List.append_nil]) hb, num_Read.l0, if_neg (by omega)]
    have ew : wrap64 ((s.size : Int) - 1) = (s.size : Int) - 1 := by unfold wrap64; omega
    have hj : ∀ p, num_Read.j5 (k + 1) s minus p true = some (0, 0, 6) := fun p => by rw [num_Read.j5, if_pos rfl]
    by_cases a0 : a = []
    · rw [if_pos (show ((0 + a.length : Nat) : Int) = 0 by rw [a0]; rfl), hj, pointV_bad (.inl a0)]
    · have a1 : 0 < a.length := List.length_pos_iff.2 a0
      rw [if_neg (by omega), ew]
      by_cases b0 : b = []
      · have : b.length = 0 := by rw [b0]; rfl
        rw [show (((0 + a.length : Nat) : Int) == (s.size : Int) - 1) = true from beq_iff_eq.2 (by omega), hj, pointV_bad (.inr (.inl b0))]
      · have b1 : 0 < b.length := List.length_pos_iff.2 b0
        rw [show (((0 + a.length : Nat) : Int) == (s.size : Int) - 1) = false from beq_eq_false_iff_ne.2 (by omega), pointV_good a0 b0 hb]
        rw [num_Read.j5, if_neg Bool.false_ne_true, if_pos (by omega), if_pos (by omega), if_pos (by omega), w64_nat (by omega), if_pos (by omega), if_pos (by omega)]
        have es : (s.extract 0 ((0 + a.length : Nat) : Int).toNat ++ s.extract ((0 + a.length + 1 : Nat) : Int).toNat s.size).size = a.length + b.length := by
          rw [ByteArray.size_append, ByteArray.size_extract, ByteArray.size_extract]; omega
        have ec : cs (s.extract 0 ((0 + a.length : Nat) : Int).toNat ++ s.extract ((0 + a.length + 1 : Nat) : Int).toNat s.size) = a ++ b := by
          rw [cs_append, cs_extract, cs_extract, List.drop_zero, show ((0 + a.length : Nat) : Int).toNat = a.length by omega, show ((0 + a.length + 1 : Nat) : Int).toNat = 0 + a.length + 1 by omega]
          rw [show (cs s).take s.size = cs s from List.take_of_length_le (by rw [cs_len]; omega), hd1, hl, List.take_left]
        rw [if_pos (by rw [ByteArray.size_extract, ByteArray.size_extract]; omega)]
        have eb : wrap64 ((s.size : Int) - 1 - ((0 + a.length : Nat) : Int)) = (b.length : Int) := by unfold wrap64; omega
        rw [ew, eb, decimal_f minus b.length (by rw [es]; omega) k (by rw [es]; omega) (by rw [ec, List.all_append, ha, hb]; rfl), ec, es, List.length_append]
        rfl
  · subst hbe
    have hn := not_all b1 b2 c hc
    rw [pointV_bad (.inr (.inr hn))]
    obtain ⟨k, rfl⟩ : ∃ j, k = (j + 2) + 2 * b1.length := ⟨k - (2 + 2 * b1.length), by rw [List.length_append] at hlen; omega⟩
    rw [rd_dig hs minus _ b1 (c :: b2) (0 + a.length + 1) (k + 2) hd1 hb1]
    rw [rd_bad hs minus _ c b2 (0 + a.length + 1 + b1.length) k (by rw [← List.drop_drop, hd1, List.drop_left]) hc (fun _ => by omega)]
theorem rread_dot {s : ByteArray} (hs : s.size ≤ 140737488351232) (minus : Bool) (k : Nat) (hk : 8 * s.size + 80 ≤ k) (a b : List Int) (hl : cs s = a ++ 46 :: b) (ha : a.all dig = true) :
    heirloomref01_Read.j2 k minus s = some (pointV minus a b) := by
  have hlen : s.size = a.length + 1 + b.length := by rw [← cs_len, hl, List.length_append, List.length_cons]; omega
  obtain ⟨k, rfl⟩ : ∃ j, k = j + 1 + 1 := ⟨k - 2, by omega⟩
  have hp := point_l0 hs (cs s) 0 (k + 1) rfl (by rw [cs_len]; omega)
  rw [show ((0 : Nat) : Int) = 0 from rfl] at hp
  rw [heirloomref01_Read.j2, all_f hs _ (by omega), allB_not (by rw [hl]; exact not_all a b 46 (by decide))]
  unfold heirloomref01_point.f
  rw [hp, hl, point_app a b 46 ha, if_pos rfl]
  simp only [Bool.false_eq_true, if_false, Option.bind_some]
  have hj : ∀ p, heirloomref01_Read.j3 (k + 1) minus s p true = some (0, 0, 6) := fun p => by rw [heirloomref01_Read.j3, if_pos rfl]
  rw [if_neg (by omega), if_pos (by omega), if_pos (by omega), all_f (by rw [ByteArray.size_extract]; omega) _ (by rw [ByteArray.size_extract]; omega)]
  simp only [Option.bind_some]
  have e1 : cs (s.extract 0 (0 + (a.length : Int)).toNat) = a := by
    rw [cs_extract, List.drop_zero, hl, show (0 + (a.length : Int)).toNat = a.length by omega, List.take_left]
  have ew : wrap64 (0 + (a.length : Int) + 1) = ((a.length + 1 : Nat) : Int) := by unfold wrap64; omega
  rw [e1, ew]
  rw [allB_dig ha]
  by_cases a0 : a = []
  · rw [pointV_bad (.inl a0), show a.isEmpty = true by rw [a0]; rfl, Bool.not_true, if_neg Bool.false_ne_true, hj]
  · have a1 : a.isEmpty = false := by rw [List.isEmpty_eq_false_iff]; exact a0
    rw [a1, Bool.not_false, if_pos rfl, if_pos (by omega), if_pos (by omega), all_f (by rw [ByteArray.size_extract]; omega) _ (by rw [ByteArray.size_extract]; omega)]
    have e2 : cs (s.extract ((a.length + 1 : Nat) : Int).toNat s.size) = b := by
      have hd0 : (cs s).drop a.length = 46 :: b := by rw [hl, List.drop_left]
      rw [cs_extract, show ((a.length + 1 : Nat) : Int).toNat = a.length + 1 by omega, show (cs s).take s.size = cs s from List.take_of_length_le (by rw [cs_len]; omega)]
      exact (cs_step hd0).2.2
    simp only [Option.bind_some]
    rw [e2]
    by_cases hb : b ≠ [] ∧ b.all dig = true
    · have b1 : b.isEmpty = false := by rw [List.isEmpty_eq_false_iff]; exact hb.1
      rw [allB_dig hb.2, b1, Bool.not_false, Bool.not_true, heirloomref01_Read.j3, if_neg Bool.false_ne_true, pointV_good a0 hb.1 hb.2]
      by_cases h16 : (s.size : Int) > 16
      · rw [if_pos h16, if_pos (by rw [List.length_append]; omega)]
      · rw [if_neg h16, if_neg (by rw [List.length_append]; omega)]
        have := rdec_f (s := s) (by omega) minus a b hl ha hb.2 k (by omega)
        rw [show (0 + (a.length : Int)) = (a.length : Int) by omega]
        exact this
    · have e3 : allB b = false := by
        by_cases h : b.all dig = true
        · have : b = [] := Classical.byContradiction fun z => hb ⟨z, h⟩
          rw [this]; rfl
        · exact allB_not (by simpa using h)
      rw [e3, Bool.not_false, hj]
      by_cases h : b.all dig = true
      · have : b = [] := Classical.byContradiction fun z => hb ⟨z, h⟩
        rw [pointV_bad (.inr (.inl this))]
      · rw [pointV_bad (.inr (.inr (by simpa using h)))]
/-- behind the sign -/
theorem read_j2 {s : ByteArray} (hs : s.size ≤ 140737488351232) (minus : Bool) (k : Nat) (hk : 8 * s.size + 80 ≤ k) : ∃ v, num_Read.j2 k s minus = some v ∧ heirloomref01_Read.j2 k minus s = some v := by
  rcases split_dig (cs s) with h | ⟨a, c, b, hl, ha, hc⟩
  · exact ⟨_, nread_dig hs minus k (by omega) h, rread_dig hs minus k (by omega) h⟩
  · by_cases h46 : c = 46
    · subst h46
      exact ⟨_, nread_dot hs minus k hk a b hl ha, rread_dot hs minus k hk a b hl ha⟩
    · exact ⟨_, nread_bad hs minus k (by omega) a b c hl ha hc h46, rread_bad hs minus k (by omega) a b c hl ha hc h46⟩
theorem read_eq {s : ByteArray} (hs : s.size ≤ 140737488351232) (k : Nat) (hk : 8 * s.size + 90 ≤ k) : ∃ v, num_Read.f k s = some v ∧ heirloomref01_Read.f k s = some v := by
  obtain ⟨k, rfl⟩ : ∃ j, k = j + 1 + 1 := ⟨k - 2, by omega⟩
  have hF : ∃ v, num_Read.j0 (k + 1 + 1) s false = some v ∧ heirloomref01_Read.j0 (k + 1 + 1) s false = some v := by
    rw [num_Read.j0, heirloomref01_Read.j0, if_neg Bool.false_ne_true, if_neg Bool.false_ne_true]
    by_cases h0 : (s.size : Int) > 0
    · rw [if_pos h0, if_pos h0, if_pos h0, if_pos h0]
      cases hb : (bt s 0 == 45)
      · rw [num_Read.j1, heirloomref01_Read.j1, if_neg Bool.false_ne_true, if_neg Bool.false_ne_true]
        exact read_j2 hs false k (by omega)
      · rw [num_Read.j1, heirloomref01_Read.j1, if_pos rfl, if_pos rfl, if_pos (by omega), if_pos (by omega)]
        exact read_j2 (by rw [ByteArray.size_extract]; omega) true k (by rw [ByteArray.size_extract]; omega)
    · rw [if_neg h0, if_neg h0, num_Read.j1, heirloomref01_Read.j1, if_neg Bool.false_ne_true, if_neg Bool.false_ne_true]
      exact read_j2 hs false k (by omega)
  unfold num_Read.f heirloomref01_Read.f
  by_cases h18 : (s.size : Int) = 18
  · rw [if_pos h18, if_pos h18, if_pos (Nat.zero_le 2), if_pos (Nat.zero_le 2), if_pos (show (2 : Int) ≤ (s.size : Int) by omega), if_pos (show (2 : Int) ≤ (s.size : Int) by omega)]
    cases hq : ((s.extract 0 2).toList == ([48, 102] : List UInt8))
    · exact hF
    · rw [num_Read.j0, heirloomref01_Read.j0, if_pos rfl, if_pos rfl, if_pos (by omega), if_pos (by omega)]
      have hx : (s.extract 2 s.size).size ≤ 140737488351232 := by rw [ByteArray.size_extract]; omega
      rw [bits_f hx (k + 1) (by rw [ByteArray.size_extract]; omega), hex_f hx (k + 1) (by rw [ByteArray.size_extract]; omega)]
      exact ⟨_, rfl, rfl⟩
  · rw [if_neg h18, if_neg h18]
    exact hF

end Go.Proofs.YtpemgladmnbfhaaDoor.FT
