/- Texts as lists of numbers, and what the printed functions of num and of its reference that read digits come to. -/
import Derived.Test.YticnolkbmpmgcaaNP2
import Derived.Test.YticnolkbmpmgcaaQNx5
import Derived.Test.YticnolkbmpmgcaaQNx14
set_option linter.unusedVariables false
set_option linter.unusedSimpArgs false
namespace Go.Proofs.Yticnolkbmpmgcaa.FT
open Go.RowKit Go.Proofs.Yticnolkbmpmgcaa.Fl Go.Proofs.Yticnolkbmpmgcaa.QN Go.Proofs.YticnolkbmpmgcaaW.PrintWords
def cs (s : ByteArray) : List Int := s.data.toList.map fun b => (b.toNat : Int)
theorem cs_len (s : ByteArray) : (cs s).length = s.size := by unfold cs; rw [List.length_map, Array.length_toList]; rfl
theorem cs_step {s : ByteArray} {i : Nat} {c : Int} {r : List Int} (h : (cs s).drop i = c :: r) : i < s.size ∧ bt s (i : Int) = c ∧ (cs s).drop (i + 1) = r := by
  have hi : i < (cs s).length := by
    refine Nat.lt_of_not_le fun z => ?_
    rw [List.drop_eq_nil_of_le z] at h; cases h
  have h2 := List.drop_eq_getElem_cons hi
  rw [h2] at h
  simp only [List.cons.injEq] at h
  have hi' : i < s.size := by rw [cs_len] at hi; exact hi
  refine ⟨hi', ?_, h.2⟩
  rw [← h.1]
  unfold bt
  rw [dif_pos (by simpa using hi')]
  exact (List.getElem_map (fun b : UInt8 => (b.toNat : Int)) (h := hi)).symm
theorem cs_stop {s : ByteArray} {i : Nat} (h : (cs s).drop i = []) : s.size ≤ i := by
  rw [List.drop_eq_nil_iff, cs_len] at h; exact h
theorem cs_extract (s : ByteArray) (a b : Nat) : cs (s.extract a b) = ((cs s).take b).drop a := by
  unfold cs
  rw [ByteArray.data_extract, Array.toList_extract, List.extract_eq_take_drop, List.map_take, List.map_drop, List.drop_take]
theorem cs_append (a b : ByteArray) : cs (a ++ b) = cs a ++ cs b := by
  unfold cs
  rw [ByteArray.data_append, Array.toList_append, List.map_append]
theorem cs_bd (s : ByteArray) : ∀ c ∈ cs s, 0 ≤ c ∧ c ≤ 255 := by
  intro c hc
  unfold cs at hc
  rw [List.mem_map] at hc
  obtain ⟨b, _, rfl⟩ := hc
  have : b.toNat < 256 := b.toNat_lt
  omega
theorem cs_inj {a b : ByteArray} (h : cs a = cs b) : a = b := by
  unfold cs at h
  have h2 : a.data.toList = b.data.toList := by
    refine List.map_inj_right (f := fun b : UInt8 => (b.toNat : Int)) ?_ |>.1 h
    intro x y e
    have e : (x.toNat : Int) = (y.toNat : Int) := e
    exact UInt8.toNat_inj.1 (by omega)
  exact ByteArray.ext (Array.toList_inj.1 h2)
theorem cs_strOf (l : List Int) (h : ∀ c ∈ l, 0 ≤ c ∧ c ≤ 255) : cs (strOfNums l) = l := by
  unfold cs strOfNums
  rw [List.map_map]
  conv => rhs; rw [← List.map_id l]
  refine List.map_congr_left fun c hc => ?_
  have := h c hc
  show ((UInt8.ofNat c.toNat).toNat : Int) = c
  rw [UInt8.toNat_ofNat']
  omega
def dig (c : Int) : Bool := decide (48 ≤ c) && decide (c ≤ 57)
theorem dig_iff (c : Int) : dig c = true ↔ 48 ≤ c ∧ c ≤ 57 := by unfold dig; simp
/-- a list is all digits, or digits up to one that is none -/
theorem split_dig (l : List Int) : l.all dig = true ∨ ∃ a c b, l = a ++ c :: b ∧ a.all dig = true ∧ dig c = false := by
  induction l with
  | nil => exact .inl rfl
  | cons x r ih =>
    cases hx : dig x with
    | false => exact .inr ⟨[], x, r, rfl, rfl, hx⟩
    | true =>
      rcases ih with h | ⟨a, c, b, rfl, ha, hc⟩
      · left; rw [List.all_cons, hx, h]; rfl
      · exact .inr ⟨x :: a, c, b, rfl, by rw [List.all_cons, hx, ha]; rfl, hc⟩
theorem w64_nat {i : Nat} (h : i ≤ 140737488351233) : wrap64 ((i : Int) + 1) = ((i + 1 : Nat) : Int) := by unfold wrap64; omega

/-! the reference's all, point, whole -/
theorem all_l0 {s : ByteArray} (hs : s.size ≤ 140737488351232) : ∀ (r : List Int) (i k : Nat), (cs s).drop i = r → r.length < k → heirloomref01_all.l0 k s i = some (if r.all dig = true then decide ((s.size : Int) > 0) else false)
  | r, i, 0, _, h => absurd h (by omega)
  | [], i, k + 1, h, _ => by
    have := cs_stop h
    rw [heirloomref01_all.l0, if_neg (by omega)]; rfl
  | c :: r, i, k + 1, h, hk => by
    obtain ⟨h1, h2, h3⟩ := cs_step h
    rw [heirloomref01_all.l0, if_pos (by omega), if_pos (by omega), h2, List.all_cons]
    by_cases a : c < 48
    · rw [if_pos a, show dig c = false by rw [Bool.eq_false_iff]; exact fun z => by have := (dig_iff c).1 z; omega]; rfl
    · rw [if_neg a]
      by_cases b : c > 57
      · rw [if_pos b, show dig c = false by rw [Bool.eq_false_iff]; exact fun z => by have := (dig_iff c).1 z; omega]; rfl
      · rw [if_neg b, show dig c = true from (dig_iff c).2 (by omega), Bool.true_and, w64_nat (by omega)]
        exact all_l0 hs r (i + 1) k h3 (by simpa using hk)
def allB (l : List Int) : Bool := l.all dig && !l.isEmpty
theorem all_f {s : ByteArray} (hs : s.size ≤ 140737488351232) (k : Nat) (hk : s.size < k) : heirloomref01_all.f k s = some (allB (cs s)) := by
  unfold heirloomref01_all.f
  have := all_l0 hs (cs s) 0 k rfl (by rw [cs_len]; exact hk)
  rw [show ((0 : Nat) : Int) = 0 from rfl] at this
  rw [this]
  unfold allB
  have hl := cs_len s
  cases hc : cs s with
  | nil => rw [hc] at hl; have : s.size = 0 := by simpa using hl.symm
           rw [this]; rfl
  | cons c r =>
    have : (s.size : Int) > 0 := by rw [hc] at hl; simp at hl; omega
    rw [decide_eq_true this]; cases h : (c :: r).all dig <;> rfl
def pointL : List Int → Int → Int
  | [], _ => -1
  | c :: r, i => if c = 46 then i else pointL r (i + 1)
theorem point_l0 {s : ByteArray} (hs : s.size ≤ 140737488351232) : ∀ (r : List Int) (i k : Nat), (cs s).drop i = r → r.length < k → heirloomref01_point.l0 k s i = some (pointL r i)
  | r, i, 0, _, h => absurd h (by omega)
  | [], i, k + 1, h, _ => by
    have := cs_stop h
    rw [heirloomref01_point.l0, if_neg (by omega)]; rfl
  | c :: r, i, k + 1, h, hk => by
    obtain ⟨h1, h2, h3⟩ := cs_step h
    rw [heirloomref01_point.l0, if_pos (by omega), if_pos (by omega), h2]
    unfold pointL
    by_cases a : c = 46
    · rw [if_pos a, if_pos a]
    · rw [if_neg a, if_neg a, w64_nat (by omega)]
      exact point_l0 hs r (i + 1) k h3 (by simpa using hk)
theorem point_app (a b : List Int) (c : Int) (h : a.all dig = true) : ∀ i, pointL (a ++ c :: b) i = if c = 46 then i + a.length else pointL b (i + a.length + 1) := by
  induction a with
  | nil => intro i; show (if c = 46 then i else pointL b (i + 1)) = _; simp
  | cons x r ih =>
    intro i
    rw [List.all_cons, Bool.and_eq_true] at h
    have hx := (dig_iff x).1 h.1
    rw [List.cons_append]
    show (if x = 46 then i else pointL (r ++ c :: b) (i + 1)) = _
    rw [if_neg (by omega), ih h.2, List.length_cons]
    by_cases hc : c = 46
    · rw [if_pos hc, if_pos hc]; omega
    · rw [if_neg hc, if_neg hc]; congr 1; omega
theorem point_dig (a : List Int) (h : a.all dig = true) : ∀ i, pointL a i = -1 := by
  induction a with
  | nil => intro i; rfl
  | cons x r ih =>
    intro i
    rw [List.all_cons, Bool.and_eq_true] at h
    have hx := (dig_iff x).1 h.1
    show (if x = 46 then i else pointL r (i + 1)) = _
    rw [if_neg (by omega), ih h.2]
theorem point_ge (a : List Int) : ∀ i : Int, pointL a i = -1 ∨ (i ≤ pointL a i ∧ pointL a i < i + a.length) := by
  induction a with
  | nil => intro i; exact .inl rfl
  | cons x r ih =>
    intro i
    show (if x = 46 then i else pointL r (i + 1)) = -1 ∨ (i ≤ (if x = 46 then i else pointL r (i + 1)) ∧ (if x = 46 then i else pointL r (i + 1)) < _)
    rw [List.length_cons]
    by_cases a : x = 46
    · rw [if_pos a]; right; omega
    · rw [if_neg a]; rcases ih (i + 1) with h | h
      · exact .inl h
      · right; omega
def wholeL (minus : Bool) : Int → List Int → Int × Int × Int
  | n, [] => if n = 9223372036854775808 then (if minus = true then (2, -9223372036854775808, 0) else (0, 0, 7)) else if minus = true then (2, -n, 0) else (2, n, 0)
  | n, c :: r => if 10 * n + (c - 48) > 9223372036854775808 then (0, 0, 7) else wholeL minus (10 * n + (c - 48)) r
theorem u64_in {n : Int} (h : 0 ≤ n) (h' : n < 18446744073709551616) : IntKind.u64.wrap n = n := by
  have : IntKind.u64.wrap n = n % 18446744073709551616 := rfl
  rw [this]; omega
theorem whole_l0 {s : ByteArray} (hs : s.size ≤ 140737488351232) (minus : Bool) : ∀ (r : List Int) (i k : Nat) (n : Int), (cs s).drop i = r → r.length < k → r.all dig = true → 0 ≤ n → n ≤ 9223372036854775808 → heirloomref01_whole.l0 k s minus n i = some (wholeL minus n r)
  | r, i, 0, _, _, h, _, _, _ => absurd h (by omega)
  | [], i, k + 1, n, h, _, _, hn, hn' => by
    have := cs_stop h
    rw [heirloomref01_whole.l0, if_neg (by omega)]
    unfold wholeL heirloomref01_Int.f
    simp only [Option.bind_some]
    by_cases h1 : n = 9223372036854775808
    · rw [if_pos h1, if_pos h1]; split <;> rfl
    · rw [if_neg h1, if_neg h1]
      have e : wrap64 n = n := by unfold wrap64; omega
      have e2 : wrap64 (-n) = -n := by unfold wrap64; omega
      rw [e, e2]; split <;> rfl
  | c :: r, i, k + 1, n, h, hk, hd, hn, hn' => by
    obtain ⟨h1, h2, h3⟩ := cs_step h
    rw [List.all_cons, Bool.and_eq_true] at hd
    have hc := (dig_iff c).1 hd.1
    rw [heirloomref01_whole.l0, if_pos (by omega), if_pos (by omega), h2]
    have e : (c - 48) % 256 = c - 48 := by omega
    rw [e, w64_nat (by omega)]
    show _ = some (if 10 * n + (c - 48) > 9223372036854775808 then (0, 0, 7) else wholeL minus (10 * n + (c - 48)) r)
    by_cases a : n > 922337203685477580
    · rw [if_pos a, if_pos (by omega)]
    · rw [if_neg a]
      have hr : 10 * n + (c - 48) ≤ 9223372036854775808 → heirloomref01_whole.l0 k s minus (IntKind.u64.wrap (IntKind.u64.wrap (10 * n) + (c - 48))) ((i + 1 : Nat) : Int) = some (wholeL minus (10 * n + (c - 48)) r) := by
        intro hb
        rw [u64_in (n := 10 * n) (by omega) (by omega), u64_in (n := 10 * n + (c - 48)) (by omega) (by omega)]
        exact whole_l0 hs minus r (i + 1) k _ h3 (by simpa using hk) hd.2 (by omega) hb
      by_cases b : n = 922337203685477580
      · rw [if_pos b]
        by_cases d : c - 48 > 8
        · rw [if_pos d, if_pos (by omega)]
        · rw [if_neg d, if_neg (by omega), hr (by omega)]
      · rw [if_neg b, if_neg (by omega), hr (by omega)]
theorem whole_f {s : ByteArray} (hs : s.size ≤ 140737488351232) (minus : Bool) (k : Nat) (hk : s.size < k) (hd : (cs s).all dig = true) : heirloomref01_whole.f k s minus = some (wholeL minus 0 (cs s)) := by
  unfold heirloomref01_whole.f
  exact whole_l0 hs minus (cs s) 0 k 0 rfl (by rw [cs_len]; exact hk) hd (by decide) (by decide)
/-! num's digits -/
theorem digits_l0 {s : ByteArray} (hs : s.size ≤ 140737488351232) (minus : Bool) (most : Int) (hm : most = if minus = true then 9223372036854775808 else 9223372036854775807) : ∀ (r : List Int) (i k : Nat) (n : Int), (cs s).drop i = r → r.length < k → r.all dig = true → 0 ≤ n → n ≤ most → num_digits.l0 k s minus most n s.size i = some (wholeL minus n r)
  | r, i, 0, _, _, h, _, _, _ => absurd h (by omega)
  | [], i, k + 1, n, h, _, _, hn, hn' => by
    have := cs_stop h
    rw [num_digits.l0, if_neg (by omega)]
    unfold wholeL num_Int.f
    simp only [Option.bind_some]
    cases minus with
    | true =>
      rw [if_pos rfl] at hm
      subst hm
      rw [if_pos rfl, if_pos rfl, if_pos rfl]
      have e : wrap64 (IntKind.u64.wrap (-n)) = if n = 9223372036854775808 then -9223372036854775808 else -n := by
        have : IntKind.u64.wrap (-n) = (-n) % 18446744073709551616 := rfl
        rw [this]; unfold wrap64
        by_cases h1 : n = 9223372036854775808
        · rw [if_pos h1, h1]; rfl
        · rw [if_neg h1]; omega
      rw [e]
      by_cases h1 : n = 9223372036854775808
      · rw [if_pos h1, if_pos h1]
      · rw [if_neg h1, if_neg h1]
    | false =>
      rw [if_neg Bool.false_ne_true] at hm
      subst hm
      rw [if_neg Bool.false_ne_true, if_neg (by omega), if_neg Bool.false_ne_true]
      have e : wrap64 n = n := by unfold wrap64; omega
      rw [e]
  | c :: r, i, k + 1, n, h, hk, hd, hn, hn' => by
    obtain ⟨h1, h2, h3⟩ := cs_step h
    rw [List.all_cons, Bool.and_eq_true] at hd
    have hc := (dig_iff c).1 hd.1
    have hm2 : 9223372036854775807 ≤ most ∧ most ≤ 9223372036854775808 := by rw [hm]; split <;> omega
    rw [num_digits.l0, if_pos (by omega), if_pos (by omega), if_pos (by omega), h2]
    have e : (c - 48) % 256 = c - 48 := by omega
    rw [e, w64_nat (by omega), u64_in (n := most - (c - 48)) (by omega) (by omega), Int.tdiv_eq_ediv_of_nonneg (by omega), u64_in (n := (most - (c - 48)) / 10) (by omega) (by omega)]
    show _ = some (if 10 * n + (c - 48) > 9223372036854775808 then (0, 0, 7) else wholeL minus (10 * n + (c - 48)) r)
    by_cases a : n > (most - (c - 48)) / 10
    · rw [if_pos a]
      by_cases b : 10 * n + (c - 48) > 9223372036854775808
      · rw [if_pos b]
      · rw [if_neg b]
        have hv : 10 * n + (c - 48) = 9223372036854775808 := by omega
        have hmi : minus = false := by
          cases minus with
          | true => rw [if_pos rfl] at hm; omega
          | false => rfl
        subst hmi
        rw [hv]
        cases r with
        | nil => rfl
        | cons c' r' =>
          have hc' := (dig_iff c').1 (by have := hd.2; rw [List.all_cons, Bool.and_eq_true] at this; exact this.1)
          show _ = some (if 10 * 9223372036854775808 + (c' - 48) > 9223372036854775808 then (0, 0, 7) else _)
          rw [if_pos (by omega)]
    · rw [if_neg a, if_neg (by omega), u64_in (n := n * 10) (by omega) (by omega), Int.mul_comm n 10, u64_in (n := 10 * n + (c - 48)) (by omega) (by omega)]
      exact digits_l0 hs minus most hm r (i + 1) k _ h3 (by simpa using hk) hd.2 (by omega) (by omega)
theorem digits_f {s : ByteArray} (hs : s.size ≤ 140737488351232) (minus : Bool) (k : Nat) (hk : s.size + 1 < k) (hd : (cs s).all dig = true) : num_digits.f k s minus = some (wholeL minus 0 (cs s)) := by
  obtain ⟨k, rfl⟩ : ∃ j, k = j + 1 := ⟨k - 1, by omega⟩
  unfold num_digits.f
  cases minus with
  | true =>
    rw [if_pos rfl, num_digits.j0]
    exact digits_l0 hs true _ rfl (cs s) 0 k 0 rfl (by rw [cs_len]; omega) hd (by decide) (by decide)
  | false =>
    rw [if_neg Bool.false_ne_true, num_digits.j0]
    exact digits_l0 hs false _ rfl (cs s) 0 k 0 rfl (by rw [cs_len]; omega) hd (by decide) (by decide)
end Go.Proofs.Yticnolkbmpmgcaa.FT
