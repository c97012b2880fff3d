/- Tokens stand in order, apart from each other, and between them is nothing but blanks and remarks. For every source. -/
import Derived.Test.YtpemgladmnbfhaaDoorPF
import Derived.Test.YtpemgladmnbfhaaDoorQLx15
set_option linter.unusedVariables false
set_option linter.unusedSimpArgs false
namespace Go.Proofs.YtpemgladmnbfhaaDoor.Pure
open Go.RowKit Go.Proofs.YtpemgladmnbfhaaDoor.QL Go.Proofs.YtpemgladmnbfhaaDoor.PL Go.Proofs.YtpemgladmnbfhaaDoor.Wd Go.Proofs.YtpemgladmnbfhaaDoorW.PrintWords
/-- nothing but blanks and remarks -/
def betL : Bool → List UInt8 → Bool
  | _, [] => true
  | rem, b :: r => if b = 10 then betL false r else if rem = true ∨ b = 9 ∨ b = 13 ∨ b = 32 then betL rem r else if b = 45 ∧ r.head? = some 45 then betL true r else false
theorem bet_blank : ∀ (l : List UInt8) (rem : Bool), betL rem (l.take (blankN rem l)) = true
  | [], rem => by cases rem <;> rfl
  | b :: r, true => by
    rw [blankN]
    by_cases h : b = 10
    · rw [if_pos h, Nat.add_comm, List.take_succ_cons, betL, if_pos h]; exact bet_blank r false
    · rw [if_neg h, Nat.add_comm, List.take_succ_cons, betL, if_neg h, if_pos (.inl rfl)]; exact bet_blank r true
  | b :: r, false => by
    rw [blankN]
    by_cases h : b = 32 ∨ b = 9 ∨ b = 10 ∨ b = 13
    · rw [if_pos h, Nat.add_comm, List.take_succ_cons, betL]
      by_cases h1 : b = 10
      · rw [if_pos h1]; exact bet_blank r false
      · rw [if_neg h1, if_pos (by rcases h with h | h | h | h
                                  · exact .inr (.inr (.inr h))
                                  · exact .inr (.inl h)
                                  · exact absurd h h1
                                  · exact .inr (.inr (.inl h)))]
        exact bet_blank r false
    · rw [if_neg h]
      by_cases h2 : b = 45 ∧ r.head? = some 45
      · rw [if_pos h2, Nat.add_comm, List.take_succ_cons, betL, if_neg (fun z => h (.inr (.inr (.inl z)))), if_neg (fun z => by
          rcases z with z | z | z | z
          · cases z
          · exact h (.inr (.inl z))
          · exact h (.inr (.inr (.inr z)))
          · exact h (.inl z))]
        have hr : ∃ r', r = 45 :: r' := by
          cases r with
          | nil => simp at h2
          | cons x r' => exact ⟨r', by simpa using h2.2⟩
        obtain ⟨r', rfl⟩ := hr
        have e : blankN true (45 :: r') = 1 + blankN true r' := by rw [blankN, if_neg (by decide)]
        rw [if_pos ⟨h2.1, by rw [e, Nat.add_comm, List.take_succ_cons]; rfl⟩]
        exact bet_blank (45 :: r') true
      · rw [if_neg h2]; rfl
theorem bet_l0 {s : ByteArray} (hs : s.size ≤ 140737488351232) : ∀ (r : List UInt8) (i k : Nat) (rem : Bool), (bs s).drop i = r → 2 * r.length < k → heirloomlaw07_between.l0 k s rem (i : Int) = some (betL rem r)
  | r, i, 0, _, _, h => absurd h (by omega)
  | [], i, k + 1, rem, h, _ => by
    have := bs_stop h
    rw [heirloomlaw07_between.l0, if_neg (by omega)]; rfl
  | b :: r, i, k + 1, rem, h, hk => by
    obtain ⟨h1, h2, h3⟩ := bs_step h
    simp only [List.length_cons] at hk
    obtain ⟨k, rfl⟩ : ∃ m, k = m + 1 := ⟨k - 1, by omega⟩
    have ih := fun rem => bet_l0 hs r (i + 1) k rem h3 (by omega)
    have ih1 := fun rem => bet_l0 hs r (i + 1) (k + 1) rem h3 (by omega)
    rw [heirloomlaw07_between.l0, if_pos (by omega), if_pos (by omega), h2, w64 (by omega), betL]
    have q : ∀ n : Nat, n < 256 → ((b.toNat : Int) = (n : Int) ↔ b = UInt8.ofNat n) := by
      intro n hn
      constructor
      · intro z
        refine UInt8.toNat_inj.1 ?_
        rw [UInt8.toNat_ofNat', Nat.mod_eq_of_lt (by omega)]
        omega
      · intro z
        rw [z, UInt8.toNat_ofNat', Nat.mod_eq_of_lt (by omega)]
    have q10 : ((b.toNat : Int) = 10 ↔ b = 10) := q 10 (by decide)
    have q9 : ((b.toNat : Int) = 9 ↔ b = 9) := q 9 (by decide)
    have q13 : ((b.toNat : Int) = 13 ↔ b = 13) := q 13 (by decide)
    have q32 : ((b.toNat : Int) = 32 ↔ b = 32) := q 32 (by decide)
    have q45 : ((b.toNat : Int) = 45 ↔ b = 45) := q 45 (by decide)
    have go : ∀ rem, heirloomlaw07_between.j1 (k + 1) s rem (i : Int) true = some (betL rem r) := by
      intro rem; rw [heirloomlaw07_between.j1, if_pos rfl, w64 (by omega)]; exact ih rem
    by_cases c1 : b = 10
    · rw [if_pos (q10.2 c1), if_pos c1]; exact ih1 false
    · rw [if_neg (fun z => c1 (q10.1 z)), if_neg c1]
      by_cases c2 : rem = true
      · rw [if_pos c2, if_pos (.inl c2)]; exact go rem
      · rw [if_neg c2]
        by_cases c3 : b = 9
        · rw [if_pos (q9.2 c3), if_pos (.inr (.inl c3))]; exact go rem
        · rw [if_neg (fun z => c3 (q9.1 z))]
          by_cases c4 : b = 13
          · rw [if_pos (q13.2 c4), if_pos (.inr (.inr (.inl c4)))]; exact go rem
          · rw [if_neg (fun z => c4 (q13.1 z))]
            by_cases c5 : b = 32
            · have : ((b.toNat : Int) == 32) = true := beq_iff_eq.2 (q32.2 c5)
              rw [this, if_pos (.inr (.inr (.inr c5)))]; exact go rem
            · have : ((b.toNat : Int) == 32) = false := beq_eq_false_iff_ne.2 fun z => c5 (q32.1 z)
              rw [this, if_neg (fun z => by rcases z with z | z | z | z <;> contradiction), heirloomlaw07_between.j1, if_neg (by decide), if_pos (by omega), if_pos (by omega), h2, w64 (by omega)]
              by_cases c6 : b = 45
              · rw [if_pos (q45.2 c6)]
                cases r with
                | nil =>
                  have := bs_stop h3
                  rw [if_pos (by omega), if_neg (by simp)]
                | cons c r =>
                  obtain ⟨g1, g2, g3⟩ := bs_step h3
                  rw [if_neg (by omega), if_pos (by omega), if_pos (by omega), g2]
                  by_cases c7 : c = 45
                  · have : (c.toNat : Int) = 45 := by rw [c7]; rfl
                    rw [if_pos this, if_pos ⟨c6, by rw [c7]; rfl⟩]
                    exact ih true
                  · have : ¬ (c.toNat : Int) = 45 := fun z => c7 (UInt8.toNat_inj.1 (by show c.toNat = 45; omega))
                    rw [if_neg this, if_neg (fun z => c7 (by simpa using z.2))]
              · rw [if_neg (fun z => c6 (q45.1 z)), if_neg (fun z => c6 z.1)]
theorem bet_f {s : ByteArray} (hs : s.size ≤ 140737488351232) (k : Nat) (hk : 2 * s.size < k) : heirloomlaw07_between.f k s = some (betL false (bs s)) := by
  unfold heirloomlaw07_between.f
  exact bet_l0 hs (bs s) 0 k false rfl (by rw [bs_len]; exact hk)
theorem kind_bd (l : List UInt8) (h : (oneL l).2.1 = 0) : 1 ≤ (oneL l).2.2.1 ∧ (oneL l).2.2.1 ≤ 5 := by
  cases l with
  | nil => simp [oneL] at h
  | cons b r =>
    unfold oneL at h ⊢
    simp only at h ⊢
    by_cases c1 : alB b = true
    · simp only [if_pos c1]
      split <;> omega
    · simp only [if_neg c1] at h ⊢
      by_cases c2 : dgB b = true
      · simp only [if_pos c2]; omega
      · simp only [if_neg c2] at h ⊢
        by_cases c3 : (b == 34) = true
        · simp only [if_pos c3]; omega
        · simp only [if_neg c3] at h ⊢
          by_cases c4 : sgB b = true
          · simp only [if_pos c4]; omega
          · simp only [if_neg c4] at h; cases h
theorem cov (s : ByteArray) (hs : s.size ≤ 8192) (ts : List S35) (hts : ts.length ≤ 8192) : ∀ (f : Nat) (w i k : Nat), w ≤ s.size → (lexP f ((bs s).drop (w + blankN false ((bs s).drop w))) (w + blankN false ((bs s).drop w))).2.2 = 0 →
    ((bs s).drop (w + blankN false ((bs s).drop w))).length < f → ts.drop i = (lexP f ((bs s).drop (w + blankN false ((bs s).drop w))) (w + blankN false ((bs s).drop w))).1 → i ≤ ts.length → 2 * (ts.length - i) + 40000 ≤ k →
    heirloomlaw07_LexCovers.l0 k s ts (w : Int) (i : Int) = some true := by
  intro f
  induction f with
  | zero => intro w i k _ _ h _ _ _; omega
  | succ f ih =>
    intro w i k hw he hf hd hi hk
    obtain ⟨k, rfl⟩ : ∃ m, k = m + 2 := ⟨k - 2, by omega⟩
    have hm := blankN_le ((bs s).drop w) false
    rw [List.length_drop, bs_len] at hm
    generalize hmm : blankN false ((bs s).drop w) = m at *
    have hbet : ∀ k, 20000 ≤ k → heirloomlaw07_between.f k (s.extract w (w + m)) = some true := by
      intro k hk
      have hz : (s.extract w (w + m)).size ≤ s.size := by rw [ByteArray.size_extract]; omega
      rw [bet_f (by omega) k (by omega), bs_extract, show w + m - w = m by omega, ← hmm, bet_blank]
    cases hl : (bs s).drop (w + m) with
    | nil =>
      rw [hl] at hd
      have hil : i = ts.length := by
        have h1 : ts.drop i = [] := hd
        have := congrArg List.length h1
        rw [List.length_drop] at this
        simp at this; omega
      have hsz := bs_stop hl
      have hwm : w + m = s.size := by omega
      obtain ⟨k, rfl⟩ : ∃ q, k = q + 1 := ⟨k - 1, by omega⟩
      rw [heirloomlaw07_LexCovers.l0, if_pos (by omega), if_neg (by omega), heirloomlaw07_LexCovers.j1, if_pos (by omega), if_pos (by omega), if_pos (by omega), Int.toNat_natCast, Int.toNat_natCast, ← hwm, hbet _ (by omega)]
      simp only [Option.bind_some, if_true]
      rw [if_neg (by omega), w64 (by omega), heirloomlaw07_LexCovers.l0, if_neg (by omega), alive_at _ (by omega)]
      rfl
    | cons b r =>
      rw [hl] at he hf hd
      obtain ⟨h1, h2, heq⟩ := lexP_cons he
      obtain ⟨hn1, hn2⟩ := oneL_bd _ h1
      obtain ⟨hk1, hk2⟩ := kind_bd _ h1
      have hlen : (b :: r).length = s.size - (w + m) := by rw [← hl, List.length_drop, bs_len]
      rw [heq] at hd
      have hil : i < ts.length := by
        have := congrArg List.length hd
        rw [List.length_drop] at this
        simp at this; omega
      have hti : rd_T35 ts (i : Int) = tokL (b :: r) (w + m) := by
        rw [List.drop_eq_getElem_cons hil] at hd
        injection hd with hd1 hd2
        show ts.getD i z35 = _
        simp only [List.getD, List.getElem?_eq_getElem hil, Option.getD_some]
        exact hd1
      have hd' : ts.drop (i + 1) = (lexP f ((b :: r).drop ((oneL (b :: r)).1 + blankN false ((b :: r).drop (oneL (b :: r)).1))) (w + m + (oneL (b :: r)).1 + blankN false ((b :: r).drop (oneL (b :: r)).1))).1 := by
        rw [List.drop_eq_getElem_cons hil] at hd
        injection hd with hd1 hd2
      generalize hn : (oneL (b :: r)).1 = n at *
      have f0 : (tokL (b :: r) (w + m)).f0 = (oneL (b :: r)).2.2.1 := rfl
      have f1 : (tokL (b :: r) (w + m)).f1 = tx ((b :: r).take n) := by unfold tokL; rw [hn]
      have f4 : (tokL (b :: r) (w + m)).f4 = ((w + m : Nat) : Int) := rfl
      have f5 : (tokL (b :: r) (w + m)).f5 = ((w + m + n : Nat) : Int) := by unfold tokL; rw [hn]
      rw [heirloomlaw07_LexCovers.l0, if_pos (by omega), if_pos (by omega), if_pos (by omega), hti, f0, f1, f4, f5, if_neg (by omega), if_neg (by omega), if_neg (by omega), if_pos (by omega), if_pos (by omega), if_pos (by omega), Int.toNat_natCast, Int.toNat_natCast]
      have htext : (tx ((b :: r).take n)).toList = (s.extract (w + m) (w + m + n)).toList := by
        rw [toList_bs, toList_bs, bs_tx, bs_extract, hl, show w + m + n - (w + m) = n by omega]
      rw [if_pos htext, if_neg (by omega), if_neg (by omega), heirloomlaw07_LexCovers.j1, if_pos (by omega), if_pos (by omega), if_pos (by omega), Int.toNat_natCast, Int.toNat_natCast, hbet _ (by omega)]
      simp only [Option.bind_some, if_true]
      rw [if_pos (by omega), if_pos (by omega), hti, f5, w64 (by omega)]
      have hdrop : (bs s).drop (w + m + n) = (b :: r).drop n := by rw [← List.drop_drop, hl]
      have hdrop2 : ∀ q, (bs s).drop (w + m + n + q) = (b :: r).drop (n + q) := by intro q; rw [show w + m + n + q = (w + m) + (n + q) by omega, ← List.drop_drop, hl]
      have hb' := blankN_le ((b :: r).drop n) false
      rw [List.length_drop] at hb'
      refine ih (w + m + n) (i + 1) k (by omega) ?_ ?_ ?_ (by omega) (by omega)
      · rw [hdrop, hdrop2]; exact h2
      · rw [hdrop, hdrop2, List.length_drop]
        simp only [List.length_cons] at hf hlen ⊢
        omega
      · rw [hdrop, hdrop2]; exact hd'
theorem bad_at : ∀ (f : Nat) (l : List UInt8) (p : Nat), ¬ (lexP f l p).2.2 = 0 → 0 ≤ (lexP f l p).2.1 ∧ (lexP f l p).2.1 ≤ ((p + l.length : Nat) : Int)
  | 0, l, p, h => by simp [lexP] at h
  | f + 1, [], p, h => by simp [lexP] at h
  | f + 1, b :: r, p, h => by
    rw [lexP] at h ⊢
    by_cases he : (oneL (b :: r)).2.1 = 0
    · rw [if_pos he] at h ⊢
      obtain ⟨hn1, hn2⟩ := oneL_bd _ he
      split at h
      · exact absurd rfl h
      · rename_i hz
        rw [if_neg hz]
        have ih := bad_at f _ _ hz
        have hb := blankN_le ((b :: r).drop (oneL (b :: r)).1) false
        rw [List.length_drop] at ih hb
        simp only
        omega
    · rw [if_neg he]
      simp only
      omega
theorem LexCovers : heirloomlaw07_LexCovers.Pure := by
  intro s hs
  obtain ⟨k, hk⟩ : ∃ k, k = 100000 + 9 * s.size := ⟨_, rfl⟩
  refine ⟨k, ?_⟩
  have al : heirloomlaw07_alive.f k = some true := alive_at k (by omega)
  unfold heirloomlaw07_LexCovers.f
  rw [lex_f s k (by omega)]
  simp only [Option.bind_some, no_f]
  have hbl := bs_len s
  by_cases he : (lexAll (bs s)).2.2 = 0
  · rw [if_pos he]
    obtain ⟨hl, heq⟩ := all_ok he
    have hlen := all_len (bs s)
    have hb0 := blankN_le (bs s) false
    rw [heq] at he
    refine cov s (by omega) _ (by omega) ((bs s).length + 1) 0 0 k (Nat.zero_le _) ?_ ?_ ?_ (Nat.zero_le _) (by omega)
    · rw [List.drop_zero, Nat.zero_add]; exact he
    · rw [List.drop_zero, Nat.zero_add, List.length_drop]; omega
    · rw [List.drop_zero, List.drop_zero, Nat.zero_add, heq]
  · rw [if_neg he]
    have hb0 := blankN_le (bs s) false
    have hz : (lexAll (bs s)).1 = [] ∧ 0 ≤ (lexAll (bs s)).2.1 ∧ (lexAll (bs s)).2.1 ≤ (s.size : Int) := by
      unfold lexAll at he ⊢
      split at he
      · rename_i hg; rw [if_pos hg]; exact ⟨rfl, Int.le_refl _, Int.natCast_nonneg _⟩
      · rename_i hg
        rw [if_neg hg]
        have := bad_at _ _ _ he
        rw [List.length_drop] at this
        exact ⟨lexP_bad _ _ _ he, this.1, by omega⟩
    rw [hz.1, if_pos (show (([] : List S35).length : Int) = 0 from rfl), if_pos hz.2.1, if_pos hz.2.2, al]
    rfl
end Go.Proofs.YtpemgladmnbfhaaDoor.Pure
