/- The plain law behind NumBack: what the printed functions answer is true at every input. -/
import Derived.Test.YticnolkbmpmgcaaQNx17
import Derived.Test.YticnolkbmpmgcaaNT6
set_option linter.unusedVariables false
set_option linter.unusedSimpArgs false
namespace Go.Proofs.Yticnolkbmpmgcaa.Pure
open Go.RowKit Go.Proofs.Yticnolkbmpmgcaa.QN Go.Proofs.Yticnolkbmpmgcaa.FT Go.Proofs.YticnolkbmpmgcaaW.PrintWords
def finV (minus : Bool) (v : Int) : Int × Int × Int := if v = 9223372036854775808 then (if minus = true then (2, -9223372036854775808, 0) else (0, 0, 7)) else if minus = true then (2, -v, 0) else (2, v, 0)
theorem valL_ge : ∀ (l : List Int) (n : Int), 0 ≤ n → l.all dig = true → n ≤ valL n l
  | [], n, _, _ => Int.le_refl _
  | c :: r, n, h, hd => by
    rw [List.all_cons, Bool.and_eq_true] at hd
    have hc := (dig_iff c).1 hd.1
    have := valL_ge r (10 * n + (c - 48)) (by omega) hd.2
    show n ≤ valL (10 * n + (c - 48)) r
    omega
theorem wholeL_fin (minus : Bool) : ∀ (l : List Int) (n : Int), 0 ≤ n → l.all dig = true → valL n l ≤ 9223372036854775808 → wholeL minus n l = finV minus (valL n l)
  | [], n, _, _, _ => rfl
  | c :: r, n, h, hd, hv => by
    rw [List.all_cons, Bool.and_eq_true] at hd
    have hc := (dig_iff c).1 hd.1
    have hg := valL_ge r (10 * n + (c - 48)) (by omega) hd.2
    have hv' : valL (10 * n + (c - 48)) r ≤ 9223372036854775808 := hv
    show (if 10 * n + (c - 48) > 9223372036854775808 then (0, 0, 7) else wholeL minus (10 * n + (c - 48)) r) = finV minus (valL (10 * n + (c - 48)) r)
    rw [if_neg (by omega)]
    exact wholeL_fin minus r _ (by omega) hd.2 hv'
theorem valL_dL : ∀ (j : Nat) (m : Int) (acc : List Int), 0 ≤ m → m < ((10 ^ j : Nat) : Int) → valL 0 (dL j m acc) = valL m acc
  | 0, m, acc, h, h' => by
    rw [Nat.pow_zero] at h'
    rw [dL, show m = 0 by omega]
  | j + 1, m, acc, h, h' => by
    rw [dL]
    by_cases h0 : m > 0
    · rw [if_pos h0, valL_dL j (m / 10) _ (by omega) (by rw [Nat.pow_succ, Int.natCast_mul] at h'; omega)]
      show valL (10 * (m / 10) + (48 + m % 10 - 48)) acc = valL m acc
      rw [show 10 * (m / 10) + (48 + m % 10 - 48) = m by omega]
    · rw [if_neg h0, show m = 0 by omega]
theorem valL_decL (m : Int) (h : 0 ≤ m) (h' : m < 18446744073709551616) : valL 0 (num_Text.decL 20 m []) = m := by
  have hp : (10 : Nat) ^ 20 = 100000000000000000000 := by decide
  have hp' : (10 : Nat) ^ 19 = 10000000000000000000 := by decide
  rw [decL_dL 19 m [] h (by rw [hp]; omega), valL_dL 19 (m / 10) _ (by omega) (by rw [hp']; omega)]
  show 10 * (m / 10) + (48 + m % 10 - 48) = m
  omega
theorem decL_len (m : Int) (h : 0 ≤ m) (h' : m < 18446744073709551616) : 0 < (num_Text.decL 20 m []).length := by
  have hp : (10 : Nat) ^ 20 = 100000000000000000000 := by decide
  rw [decL_dL 19 m [] h (by rw [hp]; omega)]
  have : ∀ (j : Nat) (m : Int) (acc : List Int), acc.length ≤ (dL j m acc).length := by
    intro j
    induction j with
    | zero => intro m acc; rw [dL]; omega
    | succ j ih => intro m acc; rw [dL]; split
                   · have := ih (m / 10) ((48 + m % 10) :: acc); rw [List.length_cons] at this; omega
                   · omega
  have := this 19 (m / 10) [48 + m % 10]
  simp at this ⊢; omega
theorem dL_len : ∀ (j : Nat) (m : Int) (acc : List Int), (dL j m acc).length ≤ j + acc.length
  | 0, m, acc => by rw [dL]; omega
  | j + 1, m, acc => by
    rw [dL]; split
    · have := dL_len j (m / 10) ((48 + m % 10) :: acc); rw [List.length_cons] at this; omega
    · omega
theorem decL_le (m : Int) (h : 0 ≤ m) (h' : m < 18446744073709551616) : (num_Text.decL 20 m []).length ≤ 20 := by
  have hp : (10 : Nat) ^ 20 = 100000000000000000000 := by decide
  rw [decL_dL 19 m [] h (by rw [hp]; omega)]
  have := dL_len 19 (m / 10) [48 + m % 10]
  simpa using this
theorem hx_tab (d : Int) (h : 0 ≤ d) (h' : d < 16) (n : Int) (r : List Int) : hxL n (bt (⟨#[48, 49, 50, 51, 52, 53, 54, 55, 56, 57, 97, 98, 99, 100, 101, 102]⟩ : ByteArray) d :: r) = hxL (16 * n % 18446744073709551616 + d) r := by
  have : d = 0 ∨ d = 1 ∨ d = 2 ∨ d = 3 ∨ d = 4 ∨ d = 5 ∨ d = 6 ∨ d = 7 ∨ d = 8 ∨ d = 9 ∨ d = 10 ∨ d = 11 ∨ d = 12 ∨ d = 13 ∨ d = 14 ∨ d = 15 := by omega
  rcases this with h | h | h | h | h | h | h | h | h | h | h | h | h | h | h | h <;> subst h <;> rfl
theorem hxL_hexL : ∀ (j : Nat) (m : Int) (acc : List Int), 0 ≤ m → m < ((16 ^ j : Nat) : Int) → m < 18446744073709551616 → hxL 0 (num_Text.hexL j m acc) = hxL m acc
  | 0, m, acc, h, h', _ => by
    rw [Nat.pow_zero] at h'
    rw [num_Text.hexL, show m = 0 by omega]
  | j + 1, m, acc, h, h', h64 => by
    rw [num_Text.hexL, hxL_hexL j (m / 16) _ (by omega) (by rw [Nat.pow_succ, Int.natCast_mul] at h'; omega) (by omega), hx_tab _ (by omega) (by omega)]
    rw [show 16 * (m / 16) % 18446744073709551616 + m % 16 = m by omega]
/-- the walk ahead of the sign, where the text does not begin with 0f -/
theorem read_plain {s : ByteArray} (h : 102 ∉ cs s) (k : Nat) : num_Read.f k s = num_Read.j0 k s false := by
  have hq : ((s.extract 0 2).toList == ([48, 102] : List UInt8)) = false := by
    rw [beq_eq_false_iff_ne]
    intro z
    rw [ByteArray.toList_eq] at z
    have h2 : cs (s.extract 0 2) = [48, 102] := by unfold cs; rw [z]; rfl
    rw [cs_extract, List.drop_zero] at h2
    have : (102 : Int) ∈ (cs s).take 2 := by rw [h2]; simp
    exact h (List.mem_of_mem_take this)
  unfold num_Read.f
  by_cases h18 : (s.size : Int) = 18
  · rw [if_pos h18, if_pos (Nat.zero_le 2), if_pos (show (2 : Int) ≤ (s.size : Int) by omega), hq]
  · rw [if_neg h18]
theorem back_int (n : Int) (hn : -9223372036854775808 ≤ n ∧ n ≤ 9223372036854775807) (s : ByteArray) (hs : cs s = txL 2 n) (k : Nat) (hk : 400 ≤ k) : num_Read.f k s = some (2, n, 0) := by
  obtain ⟨k, rfl⟩ : ∃ j, k = j + 1 + 1 := ⟨k - 2, by omega⟩
  have e : isB 2 n = true := by unfold isB; rw [if_pos rfl]
  unfold txL at hs
  rw [if_pos e, if_pos rfl] at hs
  by_cases h0 : n < 0
  · rw [if_pos h0] at hs
    have hd := decL_dig (-n) (by omega) (by omega)
    have hl := decL_le (-n) (by omega) (by omega)
    have hl' := decL_len (-n) (by omega) (by omega)
    have hz : s.size = (num_Text.decL 20 (-n) []).length + 1 := by rw [← cs_len, hs, List.length_cons]
    rw [read_plain (by
      rw [hs]; intro z
      rcases List.mem_cons.1 z with z | z
      · exact absurd z (by decide)
      · rw [List.all_eq_true] at hd
        have := (dig_iff 102).1 (hd 102 z)
        omega)]
    have hb : bt s 0 = 45 := (cs_step (i := 0) hs).2.1
    rw [num_Read.j0, if_neg Bool.false_ne_true, if_pos (by omega), if_pos (by omega), hb, show ((45 : Int) == 45) = true from rfl, num_Read.j1, if_pos rfl, if_pos (by omega)]
    have hc : cs (s.extract 1 s.size) = num_Text.decL 20 (-n) [] := by
      rw [cs_extract, List.take_of_length_le (by rw [cs_len]; omega)]
      exact (cs_step (i := 0) hs).2.2
    have hsz : (s.extract 1 s.size).size = (num_Text.decL 20 (-n) []).length := by rw [← cs_len, hc]
    rw [nread_dig (by rw [hsz]; omega) true k (by rw [hsz]; omega) (by rw [hc]; exact hd), if_neg (by rw [hsz]; omega), hc]
    have hv := valL_decL (-n) (by omega) (by omega)
    rw [wholeL_fin true _ 0 (by decide) hd (by rw [hv]; omega), hv]
    unfold finV
    by_cases h1 : -n = 9223372036854775808
    · rw [if_pos h1, if_pos rfl, show n = -9223372036854775808 by omega]
    · rw [if_neg h1, if_pos rfl, Int.neg_neg]
  · rw [if_neg h0] at hs
    have hd := decL_dig n (by omega) (by omega)
    have hl := decL_le n (by omega) (by omega)
    have hl' := decL_len n (by omega) (by omega)
    have hz : s.size = (num_Text.decL 20 n []).length := by rw [← cs_len, hs]
    rw [read_plain (by
      rw [hs]; intro z
      rw [List.all_eq_true] at hd
      have := (dig_iff 102).1 (hd 102 z)
      omega)]
    obtain ⟨c, r, hcr⟩ : ∃ c r, num_Text.decL 20 n [] = c :: r := by
      cases h : num_Text.decL 20 n [] with
      | nil => rw [h] at hl'; exact absurd hl' (by decide)
      | cons c r => exact ⟨c, r, rfl⟩
    have hb : bt s 0 = c := (cs_step (i := 0) (hs.trans hcr)).2.1
    have hc : 48 ≤ c ∧ c ≤ 57 := by
      rw [hcr, List.all_cons, Bool.and_eq_true] at hd
      exact (dig_iff c).1 hd.1
    rw [num_Read.j0, if_neg Bool.false_ne_true, if_pos (by omega), if_pos (by omega), hb, show (c == 45) = false from beq_eq_false_iff_ne.2 (by omega), num_Read.j1, if_neg Bool.false_ne_true]
    rw [nread_dig (by omega) false k (by omega) (by rw [hs]; exact hd), if_neg (by omega), hs]
    have hv := valL_decL n (by omega) (by omega)
    rw [wholeL_fin false _ 0 (by decide) hd (by rw [hv]; omega), hv]
    unfold finV
    rw [if_neg (by omega), if_neg Bool.false_ne_true]
theorem back_float (n : Int) (hn : -9223372036854775808 ≤ n ∧ n ≤ 9223372036854775807) (hb : isB 3 n = true) (s : ByteArray) (hs : cs s = txL 3 n) (k : Nat) (hk : 400 ≤ k) : num_Read.f k s = some (3, n, 0) := by
  obtain ⟨k, rfl⟩ : ∃ j, k = j + 1 := ⟨k - 1, by omega⟩
  unfold txL at hs
  rw [if_pos hb, if_neg (by decide)] at hs
  have hl := hexL_len 16 (n % 18446744073709551616) []
  have hz : s.size = 18 := by rw [← cs_len, hs, List.length_append, hl]; rfl
  have hq : s.extract 0 2 = (⟨#[48, 102]⟩ : ByteArray) := by
    refine cs_inj ?_
    rw [cs_extract, hs]; rfl
  unfold num_Read.f
  rw [if_pos (by omega), if_pos (Nat.zero_le 2), if_pos (show (2 : Int) ≤ (s.size : Int) by omega), hq]
  rw [show ((⟨#[48, 102]⟩ : ByteArray).toList == ([48, 102] : List UInt8)) = true by rw [ByteArray.toList_eq]; rfl]
  rw [num_Read.j0, if_pos rfl, if_pos (show (2 : Int) ≤ (s.size : Int) by omega)]
  have hc : cs (s.extract 2 s.size) = num_Text.hexL 16 (n % 18446744073709551616) [] := by
    rw [cs_extract, List.take_of_length_le (by rw [cs_len]; omega), hs]; rfl
  have hsz : (s.extract 2 s.size).size = 16 := by rw [ByteArray.size_extract]; omega
  rw [bits_f (by rw [hsz]; decide) k (by rw [hsz]; omega), hc]
  have hp : (16 : Nat) ^ 16 = 18446744073709551616 := by decide
  have hx := hxL_hexL 16 (n % 18446744073709551616) [] (by omega) (by rw [hp]; omega) (by omega)
  unfold hxV
  rw [hx]
  have ew : wrap64 (n % 18446744073709551616) = n := by unfold wrap64; omega
  show ((some (if isB 3 (wrap64 (n % 18446744073709551616)) = true then (3, wrap64 (n % 18446744073709551616), 0) else (0, 0, 6))).bind fun b : Int × Int × Int => some (b.1, b.2.1, b.2.2)) = _
  rw [ew, if_pos hb]
  rfl
theorem NumBack (t n : Int) (_ : (Lit.int .i64 t).wf = true) (hn : (Lit.int .i64 n).wf = true) : ∃ k, heirloomlaw01_NumBack.f k t n = some true := by
  refine ⟨500, ?_⟩
  unfold heirloomlaw01_NumBack.f
  have hn := i64_bd hn
  by_cases hb : isB t n = true
  · obtain ⟨s, h1, h2⟩ := ntext_f (t := t) hn
    have hr : num_Read.f 500 s = some (t, n, 0) := by
      by_cases t2 : t = 2
      · subst t2; exact back_int n hn s h2 500 (by decide)
      · have t3 : t = 3 := by
          unfold isB at hb; rw [if_neg t2] at hb
          by_cases h3 : t = 3
          · exact h3
          · rw [if_neg h3] at hb; exact absurd hb (by decide)
        subst t3; exact back_float n hn hb s h2 500 (by decide)
    rw [h1]
    simp only [Option.bind_some]
    rw [hr, is_f]
    simp only [Option.bind_some]
    rw [hb, if_pos rfl]
    simp [heirloomlaw01_no.f, alive_at 500 (by decide)]
  · have h1 : num_Text.f t n = some (⟨#[]⟩ : ByteArray) := by
      unfold num_Text.f
      rw [is_f]
      simp only [Option.bind_some]
      rw [if_neg hb]
    have hr : num_Read.f 500 (⟨#[]⟩ : ByteArray) = some (0, 0, 6) := by
      rw [read_plain (by simp [cs])]
      rw [num_Read.j0, if_neg Bool.false_ne_true, if_neg (by decide), num_Read.j1, if_neg Bool.false_ne_true, nread_dig (by decide) false 498 (by decide) rfl]
      rfl
    rw [h1]
    simp only [Option.bind_some]
    rw [hr, is_f]
    simp only [Option.bind_some]
    rw [if_neg hb, if_pos (by rw [ByteArray.toList_eq])]
    simp [heirloomlaw01_no.f, alive_at 500 (by decide)]
end Go.Proofs.Yticnolkbmpmgcaa.Pure
