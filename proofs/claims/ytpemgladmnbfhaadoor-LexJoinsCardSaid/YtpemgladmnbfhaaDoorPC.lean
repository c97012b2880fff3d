/- What lex.Lex comes to, in plain terms: a list of tokens out of a list of bytes. -/
import Derived.Test.YtpemgladmnbfhaaDoorPB
import Derived.Lib.IndexLaws
set_option linter.unusedVariables false
set_option linter.unusedSimpArgs false
namespace Go.Proofs.YtpemgladmnbfhaaDoor.PL
open Go.RowKit Go.Proofs.YtpemgladmnbfhaaDoor.QL Go.Proofs.YtpemgladmnbfhaaDoor.Wd Go.Proofs.YtpemgladmnbfhaaDoorW.PrintWords
def readP (t : ByteArray) : Int × Int × Int := (num_Read.f (8 * t.size + 90) t).getD (0, 0, 0)
theorem read_f (t : ByteArray) (ht : t.size ≤ 140737488351232) (k : Nat) (hk : 8 * t.size + 90 ≤ k) : num_Read.f k t = some (readP t) := by
  obtain ⟨v, hv, _⟩ := FT.read_eq ht (8 * t.size + 90) (Nat.le_refl _)
  unfold readP
  rw [hv]
  exact at_rounds (fun k => num_Read.mono _ k) hk hv
/-- how long a quote is -/
def quoteN (l : List UInt8) : Nat := if Lib.indexByte (l.drop 1) 34 < 0 then 1 else (Lib.indexByte (l.drop 1) 34 + 2).toNat
def twoB (a b : UInt8) : Bool := (a == 47 && b == 47) || (a == 46 && b == 46) || (a == 61 && b == 61) || (a == 126 && b == 61) || (a == 60 && b == 61) || (a == 62 && b == 61)
/-- how long a sign is -/
def signN : List UInt8 → Nat
  | a :: b :: _ => if twoB a b = true then 2 else 1
  | _ => 1
theorem quoted_f (s : ByteArray) (h : 1 ≤ s.size) (hs : s.size ≤ 140737488351232) : lex_quoted.f s = some ((quoteN (bs s) : Nat) : Int) := by
  unfold lex_quoted.f quoteN
  rw [if_pos ⟨h, hs⟩]
  rw [show (s.extract 1 s.size).data.toList = (bs s).drop 1 from bs_from s 1]
  by_cases c : Lib.indexByte ((bs s).drop 1) 34 < 0
  · rw [if_pos c, if_pos c]; rfl
  · rw [if_neg c, if_neg c]
    congr 1; omega
theorem quoteN_bd (b : UInt8) (r : List UInt8) : 1 ≤ quoteN (b :: r) ∧ quoteN (b :: r) ≤ (b :: r).length := by
  unfold quoteN
  have := indexByte_lt ((b :: r).drop 1) 34
  simp only [List.drop_one, List.tail_cons, List.length_cons] at this ⊢
  split <;> omega
theorem sign_f (s : ByteArray) (h : 1 ≤ s.size) : lex_sign.f s = some ((signN (bs s) : Nat) : Int) := by
  unfold lex_sign.f
  have hl := bs_len s
  match hb : bs s, hl with
  | [], hl => simp at hl; omega
  | [a], hl => rw [if_neg (by simp at hl; omega)]; rfl
  | a :: b :: r, hl =>
    simp only [List.length_cons] at hl
    rw [if_pos (by omega), if_pos (by omega), if_pos (by omega)]
    have e : (s.extract 0 2).toList = [a, b] := by rw [toList_bs, bs_extract, hb]; rfl
    rw [e]
    have q : ∀ x y : UInt8, ([a, b] = ([x, y] : List UInt8)) = ((a == x && b == y) = true) := by intro x y; simp
    simp only [q]
    rw [show signN (a :: b :: r) = if twoB a b = true then 2 else 1 from rfl]
    unfold twoB
    cases (a == 47 && b == 47) <;> cases (a == 46 && b == 46) <;> cases (a == 61 && b == 61) <;> cases (a == 126 && b == 61) <;> cases (a == 60 && b == 61) <;> cases (a == 62 && b == 61) <;> rfl
theorem signN_bd (b : UInt8) (r : List UInt8) : 1 ≤ signN (b :: r) ∧ signN (b :: r) ≤ (b :: r).length := by
  cases r with
  | nil => exact ⟨Nat.le_refl _, Nat.le_refl _⟩
  | cons c r =>
    unfold signN
    simp only [List.length_cons]
    split <;> omega
/-- the token at a list's beginning: how long, its error, kind, value, what it says -/
def oneL (l : List UInt8) : Nat × Int × Int × Int × Int × ByteArray :=
  match l with
  | [] => (0, 15, 0, 0, 0, ⟨#[]⟩)
  | b :: r =>
    if alB b = true then (runL (b :: r), 0, if isWord (tx ((b :: r).take (runL (b :: r)))) = true then 2 else 1, 0, 0, ⟨#[]⟩)
    else if dgB b = true then (numL (b :: r), (readP (tx ((b :: r).take (numL (b :: r))))).2.2, 3, (readP (tx ((b :: r).take (numL (b :: r))))).1, (readP (tx ((b :: r).take (numL (b :: r))))).2.1, ⟨#[]⟩)
    else if (b == 34) = true then (quoteN (b :: r), if (unqR [] (quoL ((b :: r).take (quoteN (b :: r))))).2 = 0 then 0 else 16, 4, 0, 0, (unqR [] (quoL ((b :: r).take (quoteN (b :: r))))).1)
    else if sgB b = true then (signN (b :: r), if (b :: r).take (signN (b :: r)) = [126] then 15 else 0, 5, 0, 0, ⟨#[]⟩)
    else (0, 15, 0, 0, 0, ⟨#[]⟩)
theorem oneL_bd (l : List UInt8) (h : (oneL l).2.1 = 0) : 1 ≤ (oneL l).1 ∧ (oneL l).1 ≤ l.length := by
  cases l with
  | nil => simp [oneL] at h
  | cons b r =>
    unfold oneL at h ⊢
    simp only at h ⊢
    by_cases c1 : alB b = true
    · rw [if_pos c1]
      have h1 := runL_le (b :: r)
      have h2 : runL (b :: r) = runL r + 1 := by rw [runL, if_pos (by unfold anB; rw [c1]; rfl)]
      exact ⟨by show 1 ≤ runL (b :: r); omega, h1⟩
    · rw [if_neg c1] at h ⊢
      by_cases c2 : dgB b = true
      · rw [if_pos c2]
        have h1 := numL_le (b :: r)
        have h2 : numL (b :: r) = numL r + 1 := by rw [numL, if_pos (by unfold anB; rw [c2]; simp)]
        exact ⟨by show 1 ≤ numL (b :: r); omega, h1⟩
      · rw [if_neg c2] at h ⊢
        by_cases c3 : (b == 34) = true
        · rw [if_pos c3]; exact quoteN_bd b r
        · rw [if_neg c3] at h ⊢
          by_cases c4 : sgB b = true
          · rw [if_pos c4]; exact signN_bd b r
          · rw [if_neg c4] at h; simp at h
theorem cut_f (s : ByteArray) (i n : Nat) (h : i + n ≤ s.size) (g : Int → ByteArray → Int → Int → ByteArray → Int → Int → Option (Int × Int × ByteArray × Int × Int × ByteArray × Int × Int)) :
    lex_Lex.cut s (i : Int) (n : Int) g = (g 0 (tx (((bs s).drop i).take n)) 0 0 ⟨#[]⟩ (i : Int) ((i + n : Nat) : Int)).bind fun r => some ((n : Int), r) := by
  unfold lex_Lex.cut
  rw [if_pos (by omega)]
  have e : ((i : Int) + (n : Int)).toNat = i + n := by omega
  rw [e, Int.toNat_natCast, extract_tx, show i + n - i = n by omega]
  rfl
theorem one_f (s : ByteArray) (hs : s.size ≤ 140737488351232) (i k : Nat) (hi : i < s.size) (hk : 8 * s.size + 200 ≤ k) :
    ∃ t a z, lex_Lex.one k s i = some (((oneL ((bs s).drop i)).1 : Int), (oneL ((bs s).drop i)).2.1, (oneL ((bs s).drop i)).2.2.1, t, (oneL ((bs s).drop i)).2.2.2.1, (oneL ((bs s).drop i)).2.2.2.2.1, (oneL ((bs s).drop i)).2.2.2.2.2, a, z) ∧
      ((oneL ((bs s).drop i)).2.1 = 0 → t = tx (((bs s).drop i).take (oneL ((bs s).drop i)).1) ∧ a = (i : Int) ∧ z = ((i + (oneL ((bs s).drop i)).1 : Nat) : Int)) := by
  obtain ⟨b, r, hl⟩ : ∃ b r, (bs s).drop i = b :: r := by
    cases h : (bs s).drop i with
    | nil => have := bs_stop h; omega
    | cons b r => exact ⟨b, r, rfl⟩
  obtain ⟨h1, h2, h3⟩ := bs_step hl
  have hlen : (b :: r).length = s.size - i := by rw [← hl, List.length_drop, bs_len]
  have hsz : (s.extract i s.size).size ≤ s.size := by rw [ByteArray.size_extract]; omega
  have hfrom : bs (s.extract i s.size) = b :: r := by rw [bs_from, hl]
  have hsz1 : 1 ≤ (s.extract i s.size).size := by rw [← bs_len, hfrom]; simp
  rw [hl]
  unfold lex_Lex.one oneL
  rw [h2, letter_f, digit_f, kinds2_f, kinds4_f, Int.toNat_natCast]
  simp only [Option.bind_some]
  have htx : ∀ n, (tx ((b :: r).take n)).size ≤ s.size := by
    intro n
    rw [tx_size, List.length_take]; omega
  by_cases c1 : alB b = true
  · rw [if_pos c1, if_pos c1, run_f (by omega) k (by omega), hfrom]
    simp only [Option.bind_some]
    have hn := runL_le (b :: r)
    rw [cut_f s i _ (by omega), hl]
    unfold lex_name.f lex_Word.f
    rw [if_pos (by have := htx (runL (b :: r)); omega)]
    simp only [Option.bind_some]
    by_cases c : isWord (tx ((b :: r).take (runL (b :: r)))) = true
    · rw [if_pos c, if_pos c]
      exact ⟨_, _, _, rfl, fun _ => ⟨rfl, rfl, rfl⟩⟩
    · rw [if_neg c, if_neg c]
      exact ⟨_, _, _, rfl, fun _ => ⟨rfl, rfl, rfl⟩⟩
  · rw [if_neg c1, if_neg c1]
    by_cases c2 : dgB b = true
    · rw [if_pos c2, if_pos c2, number_f (by omega) k (by omega), hfrom]
      simp only [Option.bind_some]
      have hn := numL_le (b :: r)
      rw [cut_f s i _ (by omega), hl]
      unfold lex_kinds_1.f
      rw [read_f _ (by have := htx (numL (b :: r)); omega) k (by have := htx (numL (b :: r)); omega)]
      simp only [Option.bind_some]
      exact ⟨_, _, _, rfl, fun _ => ⟨rfl, rfl, rfl⟩⟩
    · rw [if_neg c2, if_neg c2]
      by_cases c3 : (b == 34) = true
      · rw [if_pos c3, if_pos c3, quoted_f _ hsz1 (by omega), hfrom]
        simp only [Option.bind_some]
        have hn := (quoteN_bd b r).2
        rw [cut_f s i _ (by omega), hl]
        unfold lex_kinds_3.f
        rw [tunq_f _ (by have := htx (quoteN (b :: r)); omega) k (by have := htx (quoteN (b :: r)); omega), bs_tx]
        simp only [Option.bind_some]
        by_cases c : (unqR [] (quoL ((b :: r).take (quoteN (b :: r))))).2 = 0
        · rw [if_pos c, if_pos c]
          exact ⟨_, _, _, rfl, fun _ => ⟨rfl, rfl, rfl⟩⟩
        · rw [if_neg c, if_neg c]
          exact ⟨_, _, _, rfl, fun _ => ⟨rfl, rfl, rfl⟩⟩
      · rw [if_neg c3, if_neg c3]
        by_cases c4 : sgB b = true
        · rw [if_pos c4, if_pos c4, sign_f _ hsz1, hfrom]
          simp only [Option.bind_some]
          have hn := (signN_bd b r).2
          rw [cut_f s i _ (by omega), hl]
          unfold lex_kinds_5.f
          rw [toList_bs, bs_tx]
          by_cases c : (b :: r).take (signN (b :: r)) = [126]
          · rw [if_pos c, if_pos c]
            exact ⟨_, _, _, rfl, fun _ => ⟨rfl, rfl, rfl⟩⟩
          · rw [if_neg c, if_neg c]
            exact ⟨_, _, _, rfl, fun _ => ⟨rfl, rfl, rfl⟩⟩
        · rw [if_neg c4, if_neg c4]
          exact ⟨_, _, _, rfl, fun h => by cases h⟩
theorem blankN_le : ∀ (l : List UInt8) (f : Bool), blankN f l ≤ l.length
  | [], f => by cases f <;> simp [blankN]
  | b :: r, true => by
    have h1 := blankN_le r true
    have h2 := blankN_le r false
    rw [blankN, List.length_cons]
    split <;> omega
  | b :: r, false => by
    have h1 := blankN_le r true
    have h2 := blankN_le r false
    rw [blankN, List.length_cons]
    split
    · omega
    · split <;> omega
/-- the token at a list's beginning, which stands at p -/
def tokL (l : List UInt8) (p : Nat) : S35 := ⟨(oneL l).2.2.1, tx (l.take (oneL l).1), (⟨(oneL l).2.2.2.1, (oneL l).2.2.2.2.1⟩ : S33), (oneL l).2.2.2.2.2, (p : Int), ((p + (oneL l).1 : Nat) : Int)⟩
/-- tokens -/
def lexP : Nat → List UInt8 → Nat → List S35 × Int × Int
  | 0, _, _ => ([], 0, 0)
  | _ + 1, [], _ => ([], 0, 0)
  | f + 1, b :: r, p =>
    if (oneL (b :: r)).2.1 = 0 then
      (if (lexP f ((b :: r).drop ((oneL (b :: r)).1 + blankN false ((b :: r).drop (oneL (b :: r)).1))) (p + (oneL (b :: r)).1 + blankN false ((b :: r).drop (oneL (b :: r)).1))).2.2 = 0 then
        (tokL (b :: r) p :: (lexP f ((b :: r).drop ((oneL (b :: r)).1 + blankN false ((b :: r).drop (oneL (b :: r)).1))) (p + (oneL (b :: r)).1 + blankN false ((b :: r).drop (oneL (b :: r)).1))).1, 0, 0)
       else ([], (lexP f ((b :: r).drop ((oneL (b :: r)).1 + blankN false ((b :: r).drop (oneL (b :: r)).1))) (p + (oneL (b :: r)).1 + blankN false ((b :: r).drop (oneL (b :: r)).1))).2))
    else ([], (p : Int), (oneL (b :: r)).2.1)
theorem skip_f (s : ByteArray) (hs : s.size ≤ 140737488351232) (i : Nat) (hi : i ≤ s.size) : lex_skip.f s (i : Int) = some ((i + blankN false ((bs s).drop i) : Nat) : Int) := by
  unfold lex_skip.f
  rw [if_pos (by omega), Int.toNat_natCast]
  congr 1
theorem lex_l0 (s : ByteArray) (hs : s.size ≤ 8192) : ∀ (f : Nat) (l : List UInt8) (i : Nat) (out : List S35) (k : Nat), (bs s).drop i = l → i ≤ s.size → l.length < f → out.length ≤ i → 8 * s.size + 200 + f ≤ k →
    lex_Lex.l0 k s out i = some (if (lexP f l i).2.2 = 0 then (out ++ (lexP f l i).1, 0, 0) else ([], (lexP f l i).2))
  | 0, l, i, out, k, _, _, h, _, _ => by omega
  | f + 1, [], i, out, k, hl, hi, hf, ho, hk => by
    obtain ⟨k, rfl⟩ : ∃ m, k = m + 1 := ⟨k - 1, by omega⟩
    have := bs_stop hl
    rw [lex_Lex.l0, if_neg (by omega)]
    simp [lexP]
  | f + 1, b :: r, i, out, k, hl, hi, hf, ho, hk => by
    obtain ⟨k, rfl⟩ : ∃ m, k = m + 1 := ⟨k - 1, by omega⟩
    obtain ⟨h1, h2, h3⟩ := bs_step hl
    obtain ⟨t, a, z, hone, htok⟩ := one_f s (by omega) i k h1 (by omega)
    rw [hl] at hone htok
    rw [lex_Lex.l0, if_pos (by omega), if_pos (by omega), hone]
    simp only [Option.bind_some]
    by_cases he : (oneL (b :: r)).2.1 = 0
    · obtain ⟨rfl, rfl, rfl⟩ := htok he
      obtain ⟨hn1, hn2⟩ := oneL_bd (b :: r) he
      have hlen : (b :: r).length = s.size - i := by rw [← hl, List.length_drop, bs_len]
      rw [if_pos he, if_pos (by omega)]
      have e1 : (i : Int) + ((oneL (b :: r)).1 : Int) = ((i + (oneL (b :: r)).1 : Nat) : Int) := by omega
      have hd : (bs s).drop (i + (oneL (b :: r)).1) = (b :: r).drop (oneL (b :: r)).1 := by rw [← List.drop_drop, hl]
      rw [e1, skip_f s (by omega) _ (by omega), hd]
      simp only [Option.bind_some]
      have hb := blankN_le ((b :: r).drop (oneL (b :: r)).1) false
      rw [List.length_drop] at hb
      have ih := lex_l0 s hs f ((b :: r).drop ((oneL (b :: r)).1 + blankN false ((b :: r).drop (oneL (b :: r)).1))) (i + (oneL (b :: r)).1 + blankN false ((b :: r).drop (oneL (b :: r)).1)) (out ++ [tokL (b :: r) i]) k
        (by rw [← List.drop_drop, hd, List.drop_drop]) (by omega) (by rw [List.length_drop]; omega) (by simp; omega) (by omega)
      unfold tokL at ih
      rw [ih]
      rw [lexP, if_pos he]
      unfold tokL
      by_cases hz : (lexP f ((b :: r).drop ((oneL (b :: r)).1 + blankN false ((b :: r).drop (oneL (b :: r)).1))) (i + (oneL (b :: r)).1 + blankN false ((b :: r).drop (oneL (b :: r)).1))).2.2 = 0
      · rw [if_pos hz, if_pos hz]; simp
      · rw [if_neg hz, if_neg hz, if_neg hz]
    · rw [if_neg he, lexP, if_neg he]
      simp only
      rw [if_neg he]
theorem lexP_ok : ∀ (f : Nat) (l : List UInt8) (p : Nat), (lexP f l p).2.2 = 0 → lexP f l p = ((lexP f l p).1, 0, 0)
  | 0, _, _, _ => rfl
  | f + 1, [], _, _ => rfl
  | f + 1, b :: r, p, h => by
    rw [lexP] at h ⊢
    split at h
    · rename_i he
      rw [if_pos he]
      split at h
      · rename_i hz; rw [if_pos hz]
      · rename_i hz; exact absurd h hz
    · rename_i he; exact absurd h he
theorem lexP_bad : ∀ (f : Nat) (l : List UInt8) (p : Nat), ¬ (lexP f l p).2.2 = 0 → (lexP f l p).1 = []
  | 0, _, _, _ => rfl
  | f + 1, [], _, _ => rfl
  | f + 1, b :: r, p, h => by
    rw [lexP] at h ⊢
    split at h
    · rename_i he
      rw [if_pos he]
      split at h
      · exact absurd rfl h
      · rename_i hz; rw [if_neg hz]
    · rename_i he; rw [if_neg he]
/-- a source's tokens -/
def lexAll (l : List UInt8) : List S35 × Int × Int := if 8192 < l.length then ([], 0, 3) else lexP (l.length + 1) (l.drop (blankN false l)) (blankN false l)
theorem lex_f (s : ByteArray) (k : Nat) (hk : 9 * s.size + 300 ≤ k) : lex_Lex.f k s = some (lexAll (bs s)) := by
  unfold lex_Lex.f lexAll
  rw [bs_len]
  by_cases c : 8192 < s.size
  · rw [if_pos c, if_pos (by omega)]
  · rw [if_neg c, if_neg (by omega)]
    have := skip_f s (by omega) 0 (by omega)
    rw [show ((0 : Nat) : Int) = 0 from rfl] at this
    rw [this, List.drop_zero, Nat.zero_add]
    simp only [Option.bind_some]
    have hb := blankN_le (bs s) false
    rw [bs_len] at hb
    rw [lex_l0 s (by omega) (s.size + 1) _ (blankN false (bs s)) [] k rfl hb (by rw [List.length_drop, bs_len]; omega) (by simp) (by omega)]
    by_cases z : (lexP (s.size + 1) ((bs s).drop (blankN false (bs s))) (blankN false (bs s))).2.2 = 0
    · rw [if_pos z, List.nil_append, ← lexP_ok _ _ _ z]
    · rw [if_neg z]
      congr 1
      exact Prod.ext (lexP_bad _ _ _ z).symm rfl
end Go.Proofs.YtpemgladmnbfhaaDoor.PL
