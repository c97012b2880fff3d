/- Blanks and remarks between tokens change nothing but places. For every source and every turn. -/
import Derived.Test.YtpemgladmnbfhaaDoorPF
import Derived.Test.YtpemgladmnbfhaaDoorQLx16
set_option linter.unusedVariables false
set_option linter.unusedSimpArgs false
namespace Go.Proofs.YtpemgladmnbfhaaDoor.Pure
open Go.RowKit Go.Proofs.YtpemgladmnbfhaaDoor.QL Go.Proofs.YtpemgladmnbfhaaDoor.PL Go.Proofs.YtpemgladmnbfhaaDoor.Wd Go.Proofs.YtpemgladmnbfhaaDoorW.PrintWords
def fiveB : List ByteArray := [(⟨#[32]⟩ : ByteArray), (⟨#[10]⟩ : ByteArray), (⟨#[9, 13, 32]⟩ : ByteArray), (⟨#[32, 45, 45, 32, 97, 32, 34, 98, 10]⟩ : ByteArray), (⟨#[10, 45, 45, 10]⟩ : ByteArray)]
def five (c : Nat) : ByteArray := fiveB.getD (c % 5) ByteArray.empty
theorem five_all {P : ByteArray → Prop} (h0 : P ⟨#[32]⟩) (h1 : P ⟨#[10]⟩) (h2 : P ⟨#[9, 13, 32]⟩) (h3 : P ⟨#[32, 45, 45, 32, 97, 32, 34, 98, 10]⟩) (h4 : P ⟨#[10, 45, 45, 10]⟩) (c : Nat) : P (five c) := by
  unfold five
  have : c % 5 = 0 ∨ c % 5 = 1 ∨ c % 5 = 2 ∨ c % 5 = 3 ∨ c % 5 = 4 := by omega
  rcases this with h | h | h | h | h <;> rw [h]
  · exact h0
  · exact h1
  · exact h2
  · exact h3
  · exact h4
theorem five_blk (c : Nat) : Blk (bs (five c)) := by
  refine five_all (P := fun b => Blk (bs b)) ?_ ?_ ?_ ?_ ?_ c
  all_goals
    refine ⟨⟨_, _, rfl, by decide⟩, fun l => ?_⟩
    simp only [bs, List.cons_append, List.nil_append, blankN]
    simp (config := { decide := true }) [blankN]
    try omega
theorem five_small (c : Nat) : (bs (five c)).length ≤ 10 := by
  refine five_all (P := fun b => (bs b).length ≤ 10) ?_ ?_ ?_ ?_ ?_ c <;> decide
def blks (n c : Nat) : List (List UInt8) := (List.range n).map fun i => bs (five (c + i))
theorem blks_len (n c : Nat) : (blks n c).length = n := by unfold blks; simp
theorem blks_at (n c i : Nat) (h : i < (blks n c).length) : (blks n c)[i] = bs (five (c + i)) := by simp [blks]
theorem okB_all : ∀ l : List (List UInt8), (∀ B ∈ l, Blk B) → okB l
  | [], _ => trivial
  | [B], h => .inr (h B (by simp))
  | B :: C :: l, h => ⟨h B (by simp), okB_all (C :: l) fun x hx => h x (List.mem_cons_of_mem _ hx)⟩
theorem blks_ok (n c : Nat) : okB (blks n c) := by
  refine okB_all _ fun B hB => ?_
  unfold blks at hB
  obtain ⟨i, _, rfl⟩ := List.mem_map.1 hB
  exact five_blk _
theorem blks_small (n c : Nat) : ∀ B ∈ blks n c, B.length ≤ 10 := by
  intro B hB
  unfold blks at hB
  obtain ⟨i, _, rfl⟩ := List.mem_map.1 hB
  exact five_small _
theorem weave_snoc : ∀ (xs Bs : List (List UInt8)) (x B : List UInt8), xs.length = Bs.length → weave (xs ++ [x]) (Bs ++ [B]) = weave xs Bs ++ (x ++ B)
  | [], [], x, B, _ => by simp [weave]
  | y :: xs, C :: Bs, x, B, h => by
    have ih := weave_snoc xs Bs x B (by simpa using h)
    simp only [List.cons_append, weave]
    rw [ih]; simp
  | [], _ :: _, _, _, h => by simp at h
  | _ :: _, [], _, _, h => by simp at h
theorem tx_app (a : List UInt8) (t : ByteArray) : tx a ++ t = tx (a ++ bs t) := by
  refine bs_inj ?_
  rw [bs_tx]
  show (tx a ++ t).data.toList = a ++ t.data.toList
  rw [ByteArray.data_append, Array.toList_append]
set_option maxHeartbeats 2000000 in
theorem bk_l0 (ts : List S35) (hts : ts.length ≤ 8192) (hx : ∀ x ∈ texts ts, x.length ≤ 8192) (c : Nat) (hc : c < 5) (K : Nat)
    (fin : ∀ k, K ≤ k → heirloomlaw07_LexBlanks.l0 (k + 1) ts fiveB (c : Int) (tx (bs (five c) ++ weave (texts ts) (blks ts.length c))) (ts.length : Int) = some true) : ∀ (d i k : Nat), ts.length - i = d → i ≤ ts.length → K + d + 1 ≤ k →
    heirloomlaw07_LexBlanks.l0 k ts fiveB (c : Int) (tx (bs (five c) ++ weave ((texts ts).take i) ((blks ts.length c).take i))) (i : Int) = some true
  | 0, i, k, hd, hi, hk => by
    obtain ⟨k, rfl⟩ : ∃ m, k = m + 1 := ⟨k - 1, by omega⟩
    obtain rfl : i = ts.length := by omega
    rw [List.take_of_length_le (by rw [List.length_map]; omega), List.take_of_length_le (by rw [blks_len]; omega)]
    exact fin k (by omega)
  | d + 1, i, k, hd, hi, hk => by
    obtain ⟨k, rfl⟩ : ∃ m, k = m + 1 := ⟨k - 1, by omega⟩
    have hil : i < (texts ts).length := by rw [List.length_map]; omega
    have hib : i < (blks ts.length c).length := by rw [blks_len]; omega
    have hw := weave_len 8192 ((texts ts).take i) ((blks ts.length c).take i) (fun x h => hx x (List.mem_of_mem_take h)) (fun B h => blks_small _ _ B (List.mem_of_mem_take h))
    have hw2 : (weave ((texts ts).take i) ((blks ts.length c).take i)).length ≤ 67190784 := by
      have h1 : ((texts ts).take i).length ≤ 8192 := by rw [List.length_take]; omega
      have : ((texts ts).take i).length * (8192 + 10) ≤ 8192 * (8192 + 10) := Nat.mul_le_mul_right _ h1
      omega
    have hf := five_small c
    have hxi := hx _ (List.getElem_mem hil)
    have htx : (texts ts)[i] = bs ts[i].f1 := List.getElem_map ..
    have hfs : (ts[i].f1).size ≤ 8192 := by rw [← bs_len, ← htx]; exact hxi
    have hfive := five_small (c + i)
    have h5 : (fiveB.length : Int) = 5 := rfl
    have hmod : Int.tmod (wrap64 ((c : Int) + (i : Int))) 5 = (((c + i) % 5 : Nat) : Int) := by
      rw [w64i (by omega) (by omega), Int.tmod_eq_emod_of_nonneg (by omega)]; omega
    have a1 : (tx (bs (five c) ++ weave ((texts ts).take i) ((blks ts.length c).take i))).size = (bs (five c)).length + (weave ((texts ts).take i) ((blks ts.length c).take i)).length := by rw [tx_size, List.length_append]
    have a2 : (tx (bs (five c) ++ weave ((texts ts).take i) ((blks ts.length c).take i) ++ bs ts[i].f1)).size = (bs (five c)).length + (weave ((texts ts).take i) ((blks ts.length c).take i)).length + (bs ts[i].f1).length := by rw [tx_size, List.length_append, List.length_append]
    have a3 : (five (c + i)).size = (bs (five (c + i))).length := (bs_len _).symm
    have a4 : ts[i].f1.size = (bs ts[i].f1).length := (bs_len _).symm
    have g1 : (tx (bs (five c) ++ weave ((texts ts).take i) ((blks ts.length c).take i))).size + ts[i].f1.size ≤ 9223372036854775807 := by omega
    have g2 : (tx (bs (five c) ++ weave ((texts ts).take i) ((blks ts.length c).take i) ++ bs ts[i].f1)).size + (five (c + i)).size ≤ 9223372036854775807 := by omega
    have g3 : (0 : Int) ≤ (((c + i) % 5 : Nat) : Int) := Int.natCast_nonneg _
    have g4 : (((c + i) % 5 : Nat) : Int) < 5 := Int.ofNat_lt.2 (Nat.mod_lt (c + i) (by decide))
    have hrd : rdOf ByteArray.empty fiveB (((c + i) % 5 : Nat) : Int) = five (c + i) := rfl
    have hii : ((i : Int)) < (ts.length : Int) := by omega
    have hi0 : (0 : Int) ≤ (i : Int) := Int.natCast_nonneg _
    have hi1 : i < ts.length := by omega
    have g5 : ¬ ((5 : Int) = 0) := by omega
    have hi2 : i ≤ 140737488351233 := by omega
    clear hw hw2 a1 a2 a3 a4
    rw [heirloomlaw07_LexBlanks.l0, if_pos hii, if_pos hi0, rd_getD ts i hi1, if_pos g1, h5, if_neg g5, hmod, if_pos g3, if_pos g4, hrd, tx_app, if_pos g2, tx_app, w64 hi2]
    have e : bs (five c) ++ weave ((texts ts).take i) ((blks ts.length c).take i) ++ bs ts[i].f1 ++ bs (five (c + i)) = bs (five c) ++ weave ((texts ts).take (i + 1)) ((blks ts.length c).take (i + 1)) := by
      rw [List.take_succ_eq_append_getElem hil, List.take_succ_eq_append_getElem hib, weave_snoc _ _ _ _ (by rw [List.length_take, List.length_take, blks_len, List.length_map]), htx, blks_at _ _ _ hib]
      simp
    rw [e]
    exact bk_l0 ts hts hx c hc K fin d (i + 1) k (by omega) (by omega) (by omega)
set_option maxHeartbeats 2000000 in
theorem LexBlanks : heirloomlaw07_LexBlanks.Pure := by
  intro s x hs hx
  obtain ⟨k, hk⟩ : ∃ k, k = 700000000 + 9 * s.size := ⟨_, rfl⟩
  refine ⟨k + 1, ?_⟩
  unfold heirloomlaw07_LexBlanks.f
  rw [lex_f s (k + 1) (by omega)]
  simp only [Option.bind_some, no_f]
  by_cases he : (lexAll (bs s)).2.2 = 0
  · rw [if_pos he]
    obtain ⟨hl, heq⟩ := all_ok he
    have hlen := all_len (bs s)
    have htx := all_texts (bs s)
    have five0 : ((([(⟨#[32]⟩ : ByteArray), (⟨#[10]⟩ : ByteArray), (⟨#[9, 13, 32]⟩ : ByteArray), (⟨#[32, 45, 45, 32, 97, 32, 34, 98, 10]⟩ : ByteArray), (⟨#[10, 45, 45, 10]⟩ : ByteArray)] : List ByteArray) : List ByteArray)) = fiveB := rfl
    rw [five0]
    have h5 : (fiveB.length : Int) = 5 := rfl
    rw [h5, if_neg (by decide)]
    have main : ∀ c : Nat, c < 5 → heirloomlaw07_LexBlanks.j0 (k + 1) (lexAll (bs s)).1 fiveB (c : Int) = some true := by
      intro c hc
      rw [heirloomlaw07_LexBlanks.j0, if_pos (by omega), if_pos (by rw [h5]; omega)]
      have hn : (texts (lexAll (bs s)).1).length = (lexAll (bs s)).1.length := List.length_map _
      have e0 : rdOf ByteArray.empty fiveB (c : Int) = tx (bs (five c) ++ weave ((texts (lexAll (bs s)).1).take 0) ((blks (lexAll (bs s)).1.length c).take 0)) := by
        rw [List.take_zero, List.take_zero]
        show rdOf ByteArray.empty fiveB (c : Int) = tx (bs (five c) ++ [])
        rw [List.append_nil, tx_bs]
        have : c % 5 = c := Nat.mod_eq_of_lt hc
        unfold five; rw [this]; rfl
      rw [e0]
      refine bk_l0 (lexAll (bs s)).1 (by omega) (fun x hx => by have := htx x hx; omega) c hc 604800000 ?_ (lexAll (bs s)).1.length 0 k rfl (Nat.zero_le _) (by omega)
      intro k' hk'
      have al : heirloomlaw07_alive.f k' = some true := alive_at k' (by omega)
      rw [heirloomlaw07_LexBlanks.l0, if_neg (by omega)]
      have hw := weave_len 8192 (texts (lexAll (bs s)).1) (blks (lexAll (bs s)).1.length c) (fun x hx => by have := htx x hx; omega) (blks_small _ _)
      have hw2 : (weave (texts (lexAll (bs s)).1) (blks (lexAll (bs s)).1.length c)).length ≤ 67190784 := by
        have : (texts (lexAll (bs s)).1).length * (8192 + 10) ≤ 8192 * (8192 + 10) := Nat.mul_le_mul_right _ (by omega)
        omega
      have hf := five_small c
      rw [heq] at he
      have hb0 := blank_idem (bs s) false
      obtain ⟨r1, r2⟩ := rebuild _ _ _ he (by rw [List.length_drop]; omega) hb0 (blks (lexAll (bs s)).1.length c) (by rw [blks_len, heq]) (blks_ok _ _)
      rw [← heq] at r1 r2
      generalize hW : weave (texts (lexAll (bs s)).1) (blks (lexAll (bs s)).1.length c) = W at *
      rw [lex_f _ k' (by rw [tx_size, List.length_append]; omega), bs_tx, tx_size]
      simp only [Option.bind_some]
      by_cases hg : 8192 < (bs (five c) ++ W).length
      · have e3 : lexAll (bs (five c) ++ W) = ([], 0, 3) := by unfold lexAll; rw [if_pos hg]
        rw [if_pos (by omega), e3]
        simp only [no_f, Option.bind_some]
        rw [if_pos trivial, al]; rfl
      · obtain ⟨r3, r4⟩ := r2 ((bs (five c) ++ W).length + 1) ((bs (five c)).length) (by rw [List.length_append]; omega)
        have e4 : lexAll (bs (five c) ++ W) = lexP ((bs (five c) ++ W).length + 1) W (bs (five c)).length := by
          conv => lhs; unfold lexAll
          have : blankN false (bs (five c) ++ W) = (bs (five c)).length := by rw [(five_blk c).2, r1]; rfl
          rw [if_neg hg, this, List.drop_left]
        rw [if_neg (by omega), e4]
        simp only [no_f, Option.bind_some]
        rw [if_pos r3, same_f r4 (by omega) k' (by omega), al]
        rfl
    try simp only [Option.bind_some]
    have hx2 := FT.i64_bd hx
    by_cases hneg : Int.tmod x 5 < 0
    · rw [if_pos hneg]
      have hb : -5 < Int.tmod x 5 := by
        have := Int.tmod_lt_of_pos (-x) (b := 5) (by decide)
        rw [Int.neg_tmod] at this; omega
      rw [w64i (by omega) (by omega)]
      obtain ⟨c, hc⟩ := Int.eq_ofNat_of_zero_le (a := Int.tmod x 5 + 5) (by omega)
      rw [hc]
      exact main c (by omega)
    · rw [if_neg hneg]
      have hb := Int.tmod_lt_of_pos x (b := 5) (by decide)
      obtain ⟨c, hc⟩ := Int.eq_ofNat_of_zero_le (Int.not_lt.1 hneg)
      rw [hc] at hb ⊢
      exact main c (by omega)
  · rw [if_neg he, alive_at (k + 1) (by omega)]; rfl
end Go.Proofs.YtpemgladmnbfhaaDoor.Pure
