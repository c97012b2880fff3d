/- num.Read and the reference's Read come to the same at every text. -/
import Derived.Test.YticnolkbmpmgcaaNT4
set_option linter.unusedVariables false
set_option linter.unusedSimpArgs false
namespace Go.Proofs.Yticnolkbmpmgcaa.FT
open Go.RowKit Go.Proofs.Yticnolkbmpmgcaa.Fl Go.Proofs.Yticnolkbmpmgcaa.QN Go.Proofs.YticnolkbmpmgcaaW.PrintWords
theorem wholeL_some (minus : Bool) (n : Int) (l : List Int) : ∃ v, wholeL minus n l = v := ⟨_, rfl⟩
/-- all digits -/
theorem nread_dig {s : ByteArray} (hs : s.size ≤ 140737488351232) (minus : Bool) (k : Nat) (hk : 4 * s.size + 40 ≤ k) (hd : (cs s).all dig = true) :
    num_Read.j2 k s minus = some (if s.size = 0 then (0, 0, 6) else wholeL minus 0 (cs s)) := by
  obtain ⟨k, rfl⟩ : ∃ j, k = (j + 1 + 1 + 2 * s.size) + 1 := ⟨k - (3 + 2 * s.size), by omega⟩
  have hl : (cs s).length = s.size := cs_len s
  rw [num_Read.j2]
  have h1 := rd_dig hs minus s.size (cs s) [] 0 (k + 1 + 1) (by rw [List.append_nil]; rfl) hd
  rw [hl, show ((0 : Nat) : Int) = 0 from rfl] at h1
  rw [h1, num_Read.l0, if_neg (by omega)]
  by_cases h0 : s.size = 0
  · rw [if_pos (by omega), if_pos h0, num_Read.j5, if_pos rfl]
  · have ew : wrap64 ((s.size : Int) - 1) = (s.size : Int) - 1 := by unfold wrap64; omega
    rw [if_neg (by omega), if_neg h0, ew, show ((s.size : Int) == (s.size : Int) - 1) = false from beq_eq_false_iff_ne.2 (by omega), num_Read.j5, if_neg Bool.false_ne_true, if_neg (by omega), digits_f hs minus k (by omega) hd]
    rfl
theorem allB_dig {l : List Int} (h : l.all dig = true) : allB l = !l.isEmpty := by unfold allB; rw [h, Bool.true_and]
theorem allB_not {l : List Int} (h : l.all dig = false) : allB l = false := by unfold allB; rw [h, Bool.false_and]
theorem not_all (a b : List Int) (c : Int) (h : dig c = false) : (a ++ c :: b).all dig = false := by
  rw [List.all_append, List.all_cons, h, Bool.false_and, Bool.and_false]
theorem rread_dig {s : ByteArray} (hs : s.size ≤ 140737488351232) (minus : Bool) (k : Nat) (hk : 4 * s.size + 40 ≤ k) (hd : (cs s).all dig = true) :
    heirloomref01_Read.j2 k minus s = some (if s.size = 0 then (0, 0, 6) else wholeL minus 0 (cs s)) := by
  obtain ⟨k, rfl⟩ : ∃ j, k = j + 1 + 1 := ⟨k - 2, by omega⟩
  rw [heirloomref01_Read.j2, all_f hs _ (by omega)]
  simp only [Option.bind_some]
  rw [allB_dig hd]
  by_cases h0 : s.size = 0
  · have hc : cs s = [] := List.eq_nil_of_length_eq_zero (by rw [cs_len]; exact h0)
    have hp := point_l0 hs (cs s) 0 (k + 1) rfl (by rw [cs_len]; omega)
    rw [show ((0 : Nat) : Int) = 0 from rfl] at hp
    unfold heirloomref01_point.f
    rw [hp, hc, if_pos h0]
    simp only [List.isEmpty_nil, Bool.not_true, Bool.false_eq_true, if_false, Option.bind_some, pointL]
    rw [if_pos (by decide), heirloomref01_Read.j3, if_pos rfl]
  · have hc : (cs s).isEmpty = false := by
      rw [List.isEmpty_eq_false_iff]
      intro z; have := cs_len s; rw [z] at this; exact h0 this.symm
    rw [hc, Bool.not_false, if_pos rfl, whole_f hs minus _ (by omega) hd, if_neg h0]
    rfl
/-- digits, then one that is none and no point -/
theorem nread_bad {s : ByteArray} (hs : s.size ≤ 140737488351232) (minus : Bool) (k : Nat) (hk : 4 * s.size + 40 ≤ k) (a b : List Int) (c : Int) (hl : cs s = a ++ c :: b) (ha : a.all dig = true) (hc : dig c = false) (h46 : c ≠ 46) :
    num_Read.j2 k s minus = some (0, 0, 6) := by
  have hlen : s.size = a.length + 1 + b.length := by rw [← cs_len, hl, List.length_append, List.length_cons]; omega
  obtain ⟨k, rfl⟩ : ∃ j, k = (j + 2 + 2 * a.length) + 1 := ⟨k - (3 + 2 * a.length), by omega⟩
  rw [num_Read.j2]
  have h1 := rd_dig hs minus s.size a (c :: b) 0 (k + 2) hl ha
  rw [show ((0 : Nat) : Int) = 0 from rfl] at h1
  rw [h1, rd_bad hs minus s.size c b (0 + a.length) k (by rw [hl, Nat.zero_add, List.drop_left]) hc (fun z => absurd z h46)]
theorem rread_bad {s : ByteArray} (hs : s.size ≤ 140737488351232) (minus : Bool) (k : Nat) (hk : 4 * s.size + 40 ≤ k) (a b : List Int) (c : Int) (hl : cs s = a ++ c :: b) (ha : a.all dig = true) (hc : dig c = false) (h46 : c ≠ 46) :
    heirloomref01_Read.j2 k minus s = some (0, 0, 6) := by
  have hlen : s.size = a.length + 1 + b.length := by rw [← cs_len, hl, List.length_append, List.length_cons]; omega
  obtain ⟨k, rfl⟩ : ∃ j, k = j + 1 + 1 := ⟨k - 2, by omega⟩
  have hp := point_l0 hs (cs s) 0 (k + 1) rfl (by rw [cs_len]; omega)
  rw [show ((0 : Nat) : Int) = 0 from rfl] at hp
  rw [heirloomref01_Read.j2, all_f hs _ (by omega), allB_not (by rw [hl]; exact not_all a b c hc)]
  unfold heirloomref01_point.f
  rw [hp, hl, point_app a b c ha, if_neg h46]
  simp only [Bool.false_eq_true, if_false, Option.bind_some]
  have hj : ∀ p, heirloomref01_Read.j3 (k + 1) minus s p true = some (0, 0, 6) := fun p => by rw [heirloomref01_Read.j3, if_pos rfl]
  rcases point_ge b (0 + a.length + 1) with h | h
  · rw [h, if_pos (by decide), hj]
  · generalize hq : pointL b (0 + a.length + 1) = q at *
    obtain ⟨p, rfl⟩ : ∃ p : Nat, q = p := ⟨q.toNat, by omega⟩
    rw [if_neg (by omega), if_pos (by omega), if_pos (by omega), all_f (by rw [ByteArray.size_extract]; omega) _ (by rw [ByteArray.size_extract]; omega)]
    simp only [Option.bind_some]
    have e : allB (cs (s.extract 0 (p : Int).toNat)) = false := by
      rw [cs_extract, List.drop_zero, hl]
      apply allB_not
      obtain ⟨d, hd⟩ : ∃ d, (p : Int).toNat = a.length + (d + 1) := ⟨p - a.length - 1, by omega⟩
      rw [hd, List.take_append, List.take_of_length_le (by omega), show a.length + (d + 1) - a.length = d + 1 by omega, List.take_succ_cons]
      exact not_all a _ c hc
    rw [e, if_neg Bool.false_ne_true, hj]
def pointV (minus : Bool) (a b : List Int) : Int × Int × Int :=
  if a = [] ∨ b = [] ∨ b.all dig = false then (0, 0, 6) else if ((a ++ b).length : Int) > 15 then (0, 0, 7) else decV minus (valL 0 (a ++ b)) ((10 ^ b.length : Nat) : Int)
theorem pointV_bad {minus : Bool} {a b : List Int} (h : a = [] ∨ b = [] ∨ b.all dig = false) : pointV minus a b = (0, 0, 6) := by unfold pointV; rw [if_pos h]
theorem pointV_good {minus : Bool} {a b : List Int} (h : a ≠ []) (h' : b ≠ []) (hb : b.all dig = true) : pointV minus a b = if ((a ++ b).length : Int) > 15 then (0, 0, 7) else decV minus (valL 0 (a ++ b)) ((10 ^ b.length : Nat) : Int) := by
  unfold pointV; rw [if_neg (by rw [hb]; rintro (z | z | z); exact h z; exact h' z; cases z)]
theorem nread_dot {s : ByteArray} (hs : s.size ≤ 140737488351232) (minus : Bool) (k : Nat) (hk : 8 * s.size + 80 ≤ k) (a b : List Int) (hl : cs s = a ++ 46 :: b) (ha : a.all dig = true) :
    num_Read.j2 k s minus = some (pointV minus a b) := by
  have hlen : s.size = a.length + 1 + b.length := by rw [← cs_len, hl, List.length_append, List.length_cons]; omega
  obtain ⟨k, rfl⟩ : ∃ j, k = (j + 2 + 2 * a.length) + 1 := ⟨k - (3 + 2 * a.length), by omega⟩
  rw [num_Read.j2]
  have h1 := rd_dig hs minus s.size a (46 :: b) 0 (k + 2) hl ha
  rw [show ((0 : Nat) : Int) = 0 from rfl] at h1
  have hd0 : (cs s).drop (0 + a.length) = 46 :: b := by rw [hl, Nat.zero_add, List.drop_left]
  have hd1 : (cs s).drop (0 + a.length + 1) = b := (cs_step hd0).2.2
  rw [h1, rd_dot hs minus b (0 + a.length) k hd0]
  rcases split_dig b with hb | ⟨b1, c, b2, hbe, hb1, hc⟩
  · obtain ⟨k, rfl⟩ : ∃ j, k = (j + 1 + 1) + 2 * b.length := ⟨k - (2 + 2 * b.length), by omega⟩
    rw [rd_dig hs minus _ b [] (0 + a.length + 1) (k + 1 + 1) (by rw [hd1, List.append_nil]) hb, num_Read.l0, if_neg (by omega)]
    have ew : wrap64 ((s.size : Int) - 1) = (s.size : Int) - 1 := by unfold wrap64; omega
    have hj : ∀ p, num_Read.j5 (k + 1) s minus p true = some (0, 0, 6) := fun p => by rw [num_Read.j5, if_pos rfl]
    by_cases a0 : a = []
    · rw [if_pos (show ((0 + a.length : Nat) : Int) = 0 by rw [a0]; rfl), hj, pointV_bad (.inl a0)]
    · have a1 : 0 < a.length := List.length_pos_iff.2 a0
      rw [if_neg (by omega), ew]
      by_cases b0 : b = []
      · have : b.length = 0 := by rw [b0]; rfl
        rw [show (((0 + a.length : Nat) : Int) == (s.size : Int) - 1) = true from beq_iff_eq.2 (by omega), hj, pointV_bad (.inr (.inl b0))]
      · have b1 : 0 < b.length := List.length_pos_iff.2 b0
        rw [show (((0 + a.length : Nat) : Int) == (s.size : Int) - 1) = false from beq_eq_false_iff_ne.2 (by omega), pointV_good a0 b0 hb]
        rw [num_Read.j5, if_neg Bool.false_ne_true, if_pos (by omega), if_pos (by omega), if_pos (by omega), w64_nat (by omega), if_pos (by omega), if_pos (by omega)]
        have es : (s.extract 0 ((0 + a.length : Nat) : Int).toNat ++ s.extract ((0 + a.length + 1 : Nat) : Int).toNat s.size).size = a.length + b.length := by
          rw [ByteArray.size_append, ByteArray.size_extract, ByteArray.size_extract]; omega
        have ec : cs (s.extract 0 ((0 + a.length : Nat) : Int).toNat ++ s.extract ((0 + a.length + 1 : Nat) : Int).toNat s.size) = a ++ b := by
          rw [cs_append, cs_extract, cs_extract, List.drop_zero, show ((0 + a.length : Nat) : Int).toNat = a.length by omega, show ((0 + a.length + 1 : Nat) : Int).toNat = 0 + a.length + 1 by omega]
          rw [show (cs s).take s.size = cs s from List.take_of_length_le (by rw [cs_len]; omega), hd1, hl, List.take_left]
        rw [if_pos (by rw [ByteArray.size_extract, ByteArray.size_extract]; omega)]
        have eb : wrap64 ((s.size : Int) - 1 - ((0 + a.length : Nat) : Int)) = (b.length : Int) := by unfold wrap64; omega
        rw [ew, eb, decimal_f minus b.length (by rw [es]; omega) k (by rw [es]; omega) (by rw [ec, List.all_append, ha, hb]; rfl), ec, es, List.length_append]
        rfl
  · subst hbe
    have hn := not_all b1 b2 c hc
    rw [pointV_bad (.inr (.inr hn))]
    obtain ⟨k, rfl⟩ : ∃ j, k = (j + 2) + 2 * b1.length := ⟨k - (2 + 2 * b1.length), by rw [List.length_append] at hlen; omega⟩
    rw [rd_dig hs minus _ b1 (c :: b2) (0 + a.length + 1) (k + 2) hd1 hb1]
    rw [rd_bad hs minus _ c b2 (0 + a.length + 1 + b1.length) k (by rw [← List.drop_drop, hd1, List.drop_left]) hc (fun _ => by omega)]
theorem rread_dot {s : ByteArray} (hs : s.size ≤ 140737488351232) (minus : Bool) (k : Nat) (hk : 8 * s.size + 80 ≤ k) (a b : List Int) (hl : cs s = a ++ 46 :: b) (ha : a.all dig = true) :
    heirloomref01_Read.j2 k minus s = some (pointV minus a b) := by
  have hlen : s.size = a.length + 1 + b.length := by rw [← cs_len, hl, List.length_append, List.length_cons]; omega
  obtain ⟨k, rfl⟩ : ∃ j, k = j + 1 + 1 := ⟨k - 2, by omega⟩
  have hp := point_l0 hs (cs s) 0 (k + 1) rfl (by rw [cs_len]; omega)
  rw [show ((0 : Nat) : Int) = 0 from rfl] at hp
  rw [heirloomref01_Read.j2, all_f hs _ (by omega), allB_not (by rw [hl]; exact not_all a b 46 (by decide))]
  unfold heirloomref01_point.f
  rw [hp, hl, point_app a b 46 ha, if_pos rfl]
  simp only [Bool.false_eq_true, if_false, Option.bind_some]
  have hj : ∀ p, heirloomref01_Read.j3 (k + 1) minus s p true = some (0, 0, 6) := fun p => by rw [heirloomref01_Read.j3, if_pos rfl]
  rw [if_neg (by omega), if_pos (by omega), if_pos (by omega), all_f (by rw [ByteArray.size_extract]; omega) _ (by rw [ByteArray.size_extract]; omega)]
  simp only [Option.bind_some]
  have e1 : cs (s.extract 0 (0 + (a.length : Int)).toNat) = a := by
    rw [cs_extract, List.drop_zero, hl, show (0 + (a.length : Int)).toNat = a.length by omega, List.take_left]
  have ew : wrap64 (0 + (a.length : Int) + 1) = ((a.length + 1 : Nat) : Int) := by unfold wrap64; omega
  rw [e1, ew]
  rw [allB_dig ha]
  by_cases a0 : a = []
  · rw [pointV_bad (.inl a0), show a.isEmpty = true by rw [a0]; rfl, Bool.not_true, if_neg Bool.false_ne_true, hj]
  · have a1 : a.isEmpty = false := by rw [List.isEmpty_eq_false_iff]; exact a0
    rw [a1, Bool.not_false, if_pos rfl, if_pos (by omega), if_pos (by omega), all_f (by rw [ByteArray.size_extract]; omega) _ (by rw [ByteArray.size_extract]; omega)]
    have e2 : cs (s.extract ((a.length + 1 : Nat) : Int).toNat s.size) = b := by
      have hd0 : (cs s).drop a.length = 46 :: b := by rw [hl, List.drop_left]
      rw [cs_extract, show ((a.length + 1 : Nat) : Int).toNat = a.length + 1 by omega, show (cs s).take s.size = cs s from List.take_of_length_le (by rw [cs_len]; omega)]
      exact (cs_step hd0).2.2
    simp only [Option.bind_some]
    rw [e2]
    by_cases hb : b ≠ [] ∧ b.all dig = true
    · have b1 : b.isEmpty = false := by rw [List.isEmpty_eq_false_iff]; exact hb.1
      rw [allB_dig hb.2, b1, Bool.not_false, Bool.not_true, heirloomref01_Read.j3, if_neg Bool.false_ne_true, pointV_good a0 hb.1 hb.2]
      by_cases h16 : (s.size : Int) > 16
      · rw [if_pos h16, if_pos (by rw [List.length_append]; omega)]
      · rw [if_neg h16, if_neg (by rw [List.length_append]; omega)]
        have := rdec_f (s := s) (by omega) minus a b hl ha hb.2 k (by omega)
        rw [show (0 + (a.length : Int)) = (a.length : Int) by omega]
        exact this
    · have e3 : allB b = false := by
        by_cases h : b.all dig = true
        · have : b = [] := Classical.byContradiction fun z => hb ⟨z, h⟩
          rw [this]; rfl
        · exact allB_not (by simpa using h)
      rw [e3, Bool.not_false, hj]
      by_cases h : b.all dig = true
      · have : b = [] := Classical.byContradiction fun z => hb ⟨z, h⟩
        rw [pointV_bad (.inr (.inl this))]
      · rw [pointV_bad (.inr (.inr (by simpa using h)))]
/-- behind the sign -/
theorem read_j2 {s : ByteArray} (hs : s.size ≤ 140737488351232) (minus : Bool) (k : Nat) (hk : 8 * s.size + 80 ≤ k) : ∃ v, num_Read.j2 k s minus = some v ∧ heirloomref01_Read.j2 k minus s = some v := by
  rcases split_dig (cs s) with h | ⟨a, c, b, hl, ha, hc⟩
  · exact ⟨_, nread_dig hs minus k (by omega) h, rread_dig hs minus k (by omega) h⟩
  · by_cases h46 : c = 46
    · subst h46
      exact ⟨_, nread_dot hs minus k hk a b hl ha, rread_dot hs minus k hk a b hl ha⟩
    · exact ⟨_, nread_bad hs minus k (by omega) a b c hl ha hc h46, rread_bad hs minus k (by omega) a b c hl ha hc h46⟩
theorem read_eq {s : ByteArray} (hs : s.size ≤ 140737488351232) (k : Nat) (hk : 8 * s.size + 90 ≤ k) : ∃ v, num_Read.f k s = some v ∧ heirloomref01_Read.f k s = some v := by
  obtain ⟨k, rfl⟩ : ∃ j, k = j + 1 + 1 := ⟨k - 2, by omega⟩
  have hF : ∃ v, num_Read.j0 (k + 1 + 1) s false = some v ∧ heirloomref01_Read.j0 (k + 1 + 1) s false = some v := by
    rw [num_Read.j0, heirloomref01_Read.j0, if_neg Bool.false_ne_true, if_neg Bool.false_ne_true]
    by_cases h0 : (s.size : Int) > 0
    · rw [if_pos h0, if_pos h0, if_pos h0, if_pos h0]
      cases hb : (bt s 0 == 45)
      · rw [num_Read.j1, heirloomref01_Read.j1, if_neg Bool.false_ne_true, if_neg Bool.false_ne_true]
        exact read_j2 hs false k (by omega)
      · rw [num_Read.j1, heirloomref01_Read.j1, if_pos rfl, if_pos rfl, if_pos (by omega), if_pos (by omega)]
        exact read_j2 (by rw [ByteArray.size_extract]; omega) true k (by rw [ByteArray.size_extract]; omega)
    · rw [if_neg h0, if_neg h0, num_Read.j1, heirloomref01_Read.j1, if_neg Bool.false_ne_true, if_neg Bool.false_ne_true]
      exact read_j2 hs false k (by omega)
  unfold num_Read.f heirloomref01_Read.f
  by_cases h18 : (s.size : Int) = 18
  · rw [if_pos h18, if_pos h18, if_pos (Nat.zero_le 2), if_pos (Nat.zero_le 2), if_pos (show (2 : Int) ≤ (s.size : Int) by omega), if_pos (show (2 : Int) ≤ (s.size : Int) by omega)]
    cases hq : ((s.extract 0 2).toList == ([48, 102] : List UInt8))
    · exact hF
    · rw [num_Read.j0, heirloomref01_Read.j0, if_pos rfl, if_pos rfl, if_pos (by omega), if_pos (by omega)]
      have hx : (s.extract 2 s.size).size ≤ 140737488351232 := by rw [ByteArray.size_extract]; omega
      rw [bits_f hx (k + 1) (by rw [ByteArray.size_extract]; omega), hex_f hx (k + 1) (by rw [ByteArray.size_extract]; omega)]
      exact ⟨_, rfl, rfl⟩
  · rw [if_neg h18, if_neg h18]
    exact hF
end Go.Proofs.Yticnolkbmpmgcaa.FT
