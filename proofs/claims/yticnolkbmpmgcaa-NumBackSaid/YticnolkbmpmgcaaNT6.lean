/- The texts that num.Text and the reference's Text write are the same. -/
import Derived.Test.YticnolkbmpmgcaaNT5
import Derived.Test.YticnolkbmpmgcaaQNx15
set_option linter.unusedVariables false
set_option linter.unusedSimpArgs false
namespace Go.Proofs.Yticnolkbmpmgcaa.FT
open Go.RowKit Go.Proofs.Yticnolkbmpmgcaa.Fl Go.Proofs.Yticnolkbmpmgcaa.QN Go.Proofs.YticnolkbmpmgcaaW.PrintWords
def dL : Nat → Int → List Int → List Int
  | 0, _, acc => acc
  | k + 1, m, acc => if m > 0 then dL k (m / 10) ((48 + m % 10) :: acc) else acc
theorem decL_dL : ∀ (j : Nat) (m : Int) (acc : List Int), 0 ≤ m → m < ((10 ^ (j + 1) : Nat) : Int) → num_Text.decL (j + 1) m acc = dL j (m / 10) ((48 + m % 10) :: acc)
  | 0, m, acc, h, h' => by
    have e : m / 10 = 0 := by omega
    rw [num_Text.decL, if_pos e]; rfl
  | j + 1, m, acc, h, h' => by
    rw [num_Text.decL]
    by_cases e : m / 10 = 0
    · rw [if_pos e, e, dL, if_neg (by decide)]
    · rw [if_neg e, dL, if_pos (by omega)]
      refine decL_dL j (m / 10) _ (by omega) ?_
      rw [Nat.pow_succ, Int.natCast_mul] at h'
      have : (10 ^ (j + 1) : Nat) * (10 : Int) = ((10 ^ (j + 1) : Nat) : Int) * 10 := rfl
      omega
theorem tab10 (d : Int) (h : 0 ≤ d) (h' : d < 10) : cs ((⟨#[48, 49, 50, 51, 52, 53, 54, 55, 56, 57]⟩ : ByteArray).extract d.toNat (d + 1).toNat) = [48 + d] := by
  have : d = 0 ∨ d = 1 ∨ d = 2 ∨ d = 3 ∨ d = 4 ∨ d = 5 ∨ d = 6 ∨ d = 7 ∨ d = 8 ∨ d = 9 := by omega
  rcases this with h | h | h | h | h | h | h | h | h | h <;> subst h <;> rw [cs_extract] <;> rfl
theorem tab16 (d : Int) (h : 0 ≤ d) (h' : d < 16) : cs ((⟨#[48, 49, 50, 51, 52, 53, 54, 55, 56, 57, 97, 98, 99, 100, 101, 102]⟩ : ByteArray).extract d.toNat (d + 1).toNat) = [bt (⟨#[48, 49, 50, 51, 52, 53, 54, 55, 56, 57, 97, 98, 99, 100, 101, 102]⟩ : ByteArray) d] := by
  have : d = 0 ∨ d = 1 ∨ d = 2 ∨ d = 3 ∨ d = 4 ∨ d = 5 ∨ d = 6 ∨ d = 7 ∨ d = 8 ∨ d = 9 ∨ d = 10 ∨ d = 11 ∨ d = 12 ∨ d = 13 ∨ d = 14 ∨ d = 15 := by omega
  rcases this with h | h | h | h | h | h | h | h | h | h | h | h | h | h | h | h <;> subst h <;> rw [cs_extract] <;> rfl
theorem digs_l0 : ∀ (j k : Nat) (m : Int) (s : ByteArray), 0 ≤ m → m < ((10 ^ j : Nat) : Int) → m < 18446744073709551616 → s.size + j ≤ 1000 → j < k → ∃ s', heirloomref01_Digits.l0 k m s = some s' ∧ cs s' = dL j m (cs s)
  | j, 0, m, s, _, _, _, _, h => absurd h (by omega)
  | 0, k + 1, m, s, h, h', _, _, _ => by
    rw [Nat.pow_zero] at h'
    rw [heirloomref01_Digits.l0, if_neg (by omega)]
    exact ⟨s, rfl, rfl⟩
  | j + 1, k + 1, m, s, h, h', h64, hs, hk => by
    rw [heirloomref01_Digits.l0]
    by_cases h0 : m > 0
    · have ht : Int.tmod m 10 = m % 10 := Int.tmod_eq_emod_of_nonneg h
      have hd : Int.tdiv m 10 = m / 10 := Int.tdiv_eq_ediv_of_nonneg h
      rw [if_pos h0, ht, hd, u64_in (n := m % 10 + 1) (by omega) (by omega), u64_in (n := m / 10) (by omega) (by omega)]
      have ht2 := tab10 (m % 10) (by omega) (by omega)
      have hl : ((⟨#[48, 49, 50, 51, 52, 53, 54, 55, 56, 57]⟩ : ByteArray).extract (m % 10).toNat (m % 10 + 1).toNat).size = 1 := by rw [← cs_len, ht2]; rfl
      rw [if_pos (by omega), if_pos (by omega), if_pos (by omega), if_pos (by rw [hl]; omega)]
      obtain ⟨s', e1, e2⟩ := digs_l0 j k (m / 10) ((⟨#[48, 49, 50, 51, 52, 53, 54, 55, 56, 57]⟩ : ByteArray).extract (m % 10).toNat (m % 10 + 1).toNat ++ s) (by omega) (by rw [Nat.pow_succ, Int.natCast_mul] at h'; omega) (by omega) (by rw [ByteArray.size_append, hl]; omega) (by omega)
      refine ⟨s', e1, ?_⟩
      rw [e2, cs_append, ht2, dL, if_pos h0]; rfl
    · rw [if_neg h0, dL, if_neg h0]
      exact ⟨s, rfl, rfl⟩
theorem digs_f (k : Nat) (hk : 20 ≤ k) (m : Int) (h : 0 ≤ m) (h' : m < 18446744073709551616) : ∃ s, heirloomref01_Digits.f k m = some s ∧ cs s = num_Text.decL 20 m [] := by
  have ht : Int.tmod m 10 = m % 10 := Int.tmod_eq_emod_of_nonneg h
  have hd : Int.tdiv m 10 = m / 10 := Int.tdiv_eq_ediv_of_nonneg h
  unfold heirloomref01_Digits.f
  rw [ht, hd, u64_in (n := m % 10 + 1) (by omega) (by omega), u64_in (n := m / 10) (by omega) (by omega)]
  have ht2 := tab10 (m % 10) (by omega) (by omega)
  have hl : ((⟨#[48, 49, 50, 51, 52, 53, 54, 55, 56, 57]⟩ : ByteArray).extract (m % 10).toNat (m % 10 + 1).toNat).size = 1 := by rw [← cs_len, ht2]; rfl
  rw [if_pos (by omega), if_pos (by omega), if_pos (by omega)]
  have hp : (10 : Nat) ^ 20 = 100000000000000000000 := by decide
  have hp' : (10 : Nat) ^ 19 = 10000000000000000000 := by decide
  obtain ⟨s', e1, e2⟩ := digs_l0 19 k (m / 10) ((⟨#[48, 49, 50, 51, 52, 53, 54, 55, 56, 57]⟩ : ByteArray).extract (m % 10).toNat (m % 10 + 1).toNat) (by omega) (by rw [hp']; omega) (by omega) (by omega) (by omega)
  refine ⟨s', e1, ?_⟩
  rw [e2, ht2, decL_dL 19 m [] h (by rw [hp]; omega)]
theorem dL_bd : ∀ (j : Nat) (m : Int) (acc : List Int), 0 ≤ m → acc.all dig = true → (dL j m acc).all dig = true
  | 0, m, acc, _, h => h
  | j + 1, m, acc, hm, h => by
    rw [dL]
    split
    · refine dL_bd j _ _ (by omega) ?_
      rw [List.all_cons, h, (dig_iff _).2 (by omega)]; rfl
    · exact h
theorem decL_dig (m : Int) (h : 0 ≤ m) (h' : m < 18446744073709551616) : (num_Text.decL 20 m []).all dig = true := by
  have hp : (10 : Nat) ^ 20 = 100000000000000000000 := by decide
  rw [decL_dL 19 m [] h (by rw [hp]; omega)]
  refine dL_bd 19 _ _ (by omega) ?_
  rw [List.all_cons, (dig_iff _).2 (by omega)]; rfl
theorem dig_byte {l : List Int} (h : l.all dig = true) : ∀ c ∈ l, 0 ≤ c ∧ c ≤ 255 := by
  intro c hc
  rw [List.all_eq_true] at h
  have := (dig_iff c).1 (h c hc)
  omega
theorem hexL_len : ∀ (j : Nat) (m : Int) (acc : List Int), (num_Text.hexL j m acc).length = j + acc.length
  | 0, m, acc => by rw [num_Text.hexL, Nat.zero_add]
  | j + 1, m, acc => by rw [num_Text.hexL, hexL_len, List.length_cons]; omega
theorem bt_rg (s : ByteArray) (i : Int) : 0 ≤ bt s i ∧ bt s i ≤ 255 := by
  unfold bt
  split
  · rename_i h
    have : (s[i.toNat]'h).toNat < 256 := (s[i.toNat]'h).toNat_lt
    omega
  · omega
theorem hexL_bd : ∀ (j : Nat) (m : Int) (acc : List Int), (∀ c ∈ acc, 0 ≤ c ∧ c ≤ 255) → ∀ c ∈ num_Text.hexL j m acc, 0 ≤ c ∧ c ≤ 255
  | 0, m, acc, h => h
  | j + 1, m, acc, h => by
    rw [num_Text.hexL]
    refine hexL_bd j _ _ ?_
    intro c hc
    rcases List.mem_cons.1 hc with rfl | hc
    · exact bt_rg _ _
    · exact h c hc
theorem text_l0 : ∀ (j k : Nat) (m : Int) (s : ByteArray) (i : Nat), i + j = 16 → 0 ≤ m → m < 18446744073709551616 → s.size ≤ i → j < k → ∃ s', heirloomref01_Text.l0 k s m i = some s' ∧ cs s' = [48, 102] ++ num_Text.hexL j m (cs s)
  | j, 0, m, s, i, _, _, _, _, h => absurd h (by omega)
  | 0, k + 1, m, s, i, hi, _, _, hs, _ => by
    rw [heirloomref01_Text.l0, if_neg (by omega), if_pos (by omega)]
    exact ⟨_, rfl, by rw [cs_append]; rfl⟩
  | j + 1, k + 1, m, s, i, hi, h, h64, hs, hk => by
    have ht : Int.tmod m 16 = m % 16 := Int.tmod_eq_emod_of_nonneg h
    have hd : Int.tdiv m 16 = m / 16 := Int.tdiv_eq_ediv_of_nonneg h
    rw [heirloomref01_Text.l0, if_pos (by omega), ht, hd, u64_in (n := m % 16 + 1) (by omega) (by omega), u64_in (n := m / 16) (by omega) (by omega)]
    have ht2 := tab16 (m % 16) (by omega) (by omega)
    have hl : ((⟨#[48, 49, 50, 51, 52, 53, 54, 55, 56, 57, 97, 98, 99, 100, 101, 102]⟩ : ByteArray).extract (m % 16).toNat (m % 16 + 1).toNat).size = 1 := by rw [← cs_len, ht2]; rfl
    rw [if_pos (by omega), if_pos (by omega), if_pos (by omega), if_pos (by rw [hl]; omega), w64_nat (by omega)]
    obtain ⟨s', e1, e2⟩ := text_l0 j k (m / 16) ((⟨#[48, 49, 50, 51, 52, 53, 54, 55, 56, 57, 97, 98, 99, 100, 101, 102]⟩ : ByteArray).extract (m % 16).toNat (m % 16 + 1).toNat ++ s) (i + 1) (by omega) (by omega) (by omega) (by rw [ByteArray.size_append, hl]; omega) (by omega)
    refine ⟨s', e1, ?_⟩
    rw [e2, cs_append, ht2, num_Text.hexL]; rfl
def txL (t n : Int) : List Int := if isB t n = true then (if t = 2 then (if n < 0 then 45 :: num_Text.decL 20 (-n) [] else num_Text.decL 20 n []) else [48, 102] ++ num_Text.hexL 16 (n % 18446744073709551616) []) else []
theorem u64_mod (n : Int) : IntKind.u64.wrap n = n % 18446744073709551616 := rfl
theorem ntext_f {t n : Int} (hn : -9223372036854775808 ≤ n ∧ n ≤ 9223372036854775807) : ∃ s, num_Text.f t n = some s ∧ cs s = txL t n := by
  unfold num_Text.f txL
  rw [is_f]
  simp only [Option.bind_some]
  by_cases hb : isB t n = true
  · rw [if_pos hb, if_pos hb]
    refine ⟨_, rfl, ?_⟩
    unfold num_Text.s
    by_cases h2 : t = 2
    · rw [if_neg (by omega), if_pos h2]
      by_cases h0 : n < 0
      · rw [if_pos h0, if_pos h0]
        have e : IntKind.u64.wrap (-(IntKind.u64.wrap n)) = -n := by rw [u64_mod, u64_mod]; omega
        rw [e]
        refine cs_strOf _ ?_
        have hd := decL_dig (-n) (by omega) (by omega)
        intro c hc
        rcases List.mem_cons.1 hc with rfl | hc
        · exact ⟨by decide, by decide⟩
        · exact dig_byte hd c hc
      · rw [if_neg h0, if_neg h0, u64_in (by omega) (by omega)]
        exact cs_strOf _ (dig_byte (decL_dig n (by omega) (by omega)))
    · have t3 : t = 3 := by
        unfold isB at hb; rw [if_neg h2] at hb
        by_cases h3 : t = 3
        · exact h3
        · rw [if_neg h3] at hb; exact absurd hb (by decide)
      rw [if_pos t3, if_neg h2, cs_append, cs_strOf _ (hexL_bd _ _ _ (by simp)), u64_mod]
      rfl
  · rw [if_neg hb, if_neg hb]
    exact ⟨_, rfl, rfl⟩
theorem rtext_f {t n : Int} (hn : -9223372036854775808 ≤ n ∧ n ≤ 9223372036854775807) (k : Nat) (hk : 30 ≤ k) : ∃ s, heirloomref01_Text.f k t n = some s ∧ cs s = txL t n := by
  unfold heirloomref01_Text.f txL
  rw [ris_f]
  simp only [Option.bind_some]
  by_cases hb : isB t n = true
  · rw [if_pos hb, if_pos hb]
    by_cases h2 : t = 2
    · rw [if_pos h2, if_pos h2]
      by_cases h0 : n < 0
      · rw [if_pos h0, if_pos h0]
        have e : IntKind.u64.wrap (IntKind.u64.wrap (wrap64 (-(wrap64 (n + 1)))) + 1) = -n := by rw [u64_mod, u64_mod]; unfold wrap64; omega
        rw [e]
        obtain ⟨s, h1, h2⟩ := digs_f k (by omega) (-n) (by omega) (by omega)
        have hl : s.size ≤ 100 := by
          have hp : (10 : Nat) ^ 20 = 100000000000000000000 := by decide
          have hlen : ∀ (j : Nat) (m : Int) (acc : List Int), (dL j m acc).length ≤ j + acc.length := by
            intro j
            induction j with
            | zero => intro m acc; rw [dL]; omega
            | succ j ih => intro m acc; rw [dL]; split
                           · have := ih (m / 10) ((48 + m % 10) :: acc); rw [List.length_cons] at this; omega
                           · omega
          rw [← cs_len, h2, decL_dL 19 (-n) [] (by omega) (by rw [hp]; omega)]
          have := hlen 19 (-n / 10) [48 + -n % 10]
          simp at this ⊢; omega
        rw [h1]
        simp only [Option.bind_some]
        rw [if_pos (by omega)]
        exact ⟨_, rfl, by rw [cs_append, h2]; rfl⟩
      · rw [if_neg h0, if_neg h0, u64_in (by omega) (by omega)]
        obtain ⟨s, h1, h2⟩ := digs_f k (by omega) n (by omega) (by omega)
        rw [h1]
        exact ⟨s, rfl, h2⟩
    · rw [if_neg h2, if_neg h2, u64_mod]
      obtain ⟨s, h1, h3⟩ := text_l0 16 k (n % 18446744073709551616) (⟨#[]⟩ : ByteArray) 0 rfl (by omega) (by omega) (by decide) (by omega)
      exact ⟨s, h1, h3⟩
  · rw [if_neg hb, if_neg hb]
    exact ⟨_, rfl, rfl⟩
end Go.Proofs.Yticnolkbmpmgcaa.FT
