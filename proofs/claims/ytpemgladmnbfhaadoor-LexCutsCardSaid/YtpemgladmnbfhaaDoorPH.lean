/- What the reference's Lex comes to, in plain terms: blanks, letters, words, signs, Unquote, tokens. -/
import Derived.Test.YtpemgladmnbfhaaDoorPC
import Derived.Test.YtpemgladmnbfhaaDoorQLx21
set_option linter.unusedVariables false
set_option linter.unusedSimpArgs false
namespace Go.Proofs.YtpemgladmnbfhaaDoor.PL
open Go.RowKit Go.Proofs.YtpemgladmnbfhaaDoor.QL Go.Proofs.YtpemgladmnbfhaaDoor.Wd Go.Proofs.YtpemgladmnbfhaaDoorW.PrintWords
theorem bn (b : UInt8) (n : Nat) (c : UInt8) (h : c.toNat = n) : ((b.toNat : Int) = (n : Int)) = (b = c) := by
  apply propext
  constructor
  · intro z; apply UInt8.toNat_inj.1; omega
  · intro z; subst z; omega
theorem rletter_f (b : UInt8) : heirloomref07_letter.f (b.toNat : Int) = some (alB b) := by
  refine all_bytes (P := fun b => heirloomref07_letter.f (b.toNat : Int) = some (alB b)) ?_ b
  decide +kernel
theorem rdigit_f (b : UInt8) : heirloomref07_digit.f (b.toNat : Int) = some (dgB b) := by
  refine all_bytes (P := fun b => heirloomref07_digit.f (b.toNat : Int) = some (dgB b)) ?_ b
  decide +kernel
theorem rb_step {s : ByteArray} {i : Nat} {b : UInt8} {r : List UInt8} (h : (bs s).drop i = b :: r) (k : Nat) :
    heirloomref07_blanks.l0 (k + 1) s (i : Int) = heirloomref07_blanks.j1 k s (i : Int) (decide (b = 32 ∨ b = 9 ∨ b = 10 ∨ b = 13)) := by
  obtain ⟨h1, h2, h3⟩ := bs_step h
  have e9 : ((b.toNat : Int) = 9) = (b = 9) := bn b 9 9 rfl
  have e10 : ((b.toNat : Int) = 10) = (b = 10) := bn b 10 10 rfl
  have e13 : ((b.toNat : Int) = 13) = (b = 13) := bn b 13 13 rfl
  have e32 : ((b.toNat : Int) == 32) = decide (b = 32) := by
    rw [Bool.eq_iff_iff, beq_iff_eq, decide_eq_true_iff]
    exact Eq.to_iff (bn b 32 32 rfl)
  rw [heirloomref07_blanks.l0, if_pos (by omega), if_pos (by omega), h2, e32]
  simp only [e9, e10, e13]
  by_cases c9 : b = 9
  · subst c9; rfl
  · rw [if_neg c9]
    by_cases c10 : b = 10
    · subst c10; rfl
    · rw [if_neg c10]
      by_cases c13 : b = 13
      · subst c13; rfl
      · rw [if_neg c13]
        congr 1
        simp [c9, c10, c13]
theorem rbl {s : ByteArray} (hs : s.size ≤ 140737488351232) : ∀ (l : List UInt8) (i k : Nat), (bs s).drop i = l → i ≤ s.size → 4 * l.length + 4 ≤ k →
    heirloomref07_blanks.l0 k s (i : Int) = some ((i + blankN false l : Nat) : Int) ∧ heirloomref07_blanks.l1 k s (i : Int) = some ((i + blankN true l : Nat) : Int)
  | [], i, k, h, hi, hk => by
    obtain ⟨k, rfl⟩ : ∃ m, k = m + 2 := ⟨k - 2, by simp at hk; omega⟩
    have := bs_stop h
    have a : ∀ k, heirloomref07_blanks.l0 (k + 1) s (i : Int) = some ((i + blankN false [] : Nat) : Int) := by
      intro k
      rw [heirloomref07_blanks.l0, if_neg (by omega)]; simp [blankN]
    refine ⟨a _, ?_⟩
    rw [heirloomref07_blanks.l1, if_neg (by omega), a]; simp [blankN]
  | b :: r, i, k, h, hi, hk => by
    obtain ⟨h1, h2, h3⟩ := bs_step h
    simp only [List.length_cons] at hk
    have e10 : ((b.toNat : Int) = 10) = (b = 10) := bn b 10 10 rfl
    have e45 : ((b.toNat : Int) = 45) = (b = 45) := bn b 45 45 rfl
    have bl : ∀ k, 4 * r.length + 6 ≤ k → (b = 32 ∨ b = 9 ∨ b = 10 ∨ b = 13) → heirloomref07_blanks.l0 k s (i : Int) = some ((i + blankN false (b :: r) : Nat) : Int) := by
      intro k hk c
      obtain ⟨k, rfl⟩ : ∃ m, k = m + 2 := ⟨k - 2, by omega⟩
      rw [rb_step h, decide_eq_true c, heirloomref07_blanks.j1, if_pos rfl, w64 (by omega), (rbl hs r (i + 1) k h3 (by omega) (by omega)).1]
      rw [blankN, if_pos c]
      congr 2; omega
    have rem : ∀ k, 4 * r.length + 5 ≤ k → ¬ b = 10 → heirloomref07_blanks.l1 k s (i : Int) = some ((i + (1 + blankN true r) : Nat) : Int) := by
      intro k hk c
      obtain ⟨k, rfl⟩ : ∃ m, k = m + 1 := ⟨k - 1, by omega⟩
      rw [heirloomref07_blanks.l1, if_pos (by omega), if_pos (by omega), h2]
      simp only [e10]
      rw [if_neg c, w64 (by omega), (rbl hs r (i + 1) k h3 (by omega) (by omega)).2]
      congr 2; omega
    constructor
    · by_cases c : b = 32 ∨ b = 9 ∨ b = 10 ∨ b = 13
      · exact bl k (by omega) c
      · obtain ⟨k, rfl⟩ : ∃ m, k = m + 3 := ⟨k - 3, by omega⟩
        rw [rb_step h, decide_eq_false c, heirloomref07_blanks.j1, if_neg (by decide), if_pos (by omega), if_pos (by omega), h2]
        simp only [e45]
        by_cases c45 : b = 45
        · rw [if_pos c45, w64 (by omega)]
          cases r with
          | nil =>
            have := bs_stop h3
            rw [if_neg (by omega), heirloomref07_blanks.j2, if_neg (by decide)]
            rw [blank_none b [] c (by simp)]; rfl
          | cons d r =>
            obtain ⟨g1, g2, g3⟩ := bs_step h3
            rw [if_pos (by omega), if_pos (by omega), g2]
            by_cases d45 : d = 45
            · have : (((d.toNat : Int)) == 45) = true := by rw [d45]; rfl
              rw [this, heirloomref07_blanks.j2, if_pos rfl, rem k (by omega) (by rw [c45]; decide)]
              rw [blank_remark b (d :: r) c ⟨c45, by rw [d45]; rfl⟩]
              rw [show blankN true (b :: d :: r) = 1 + blankN true (d :: r) by rw [blankN, if_neg (by rw [c45]; decide)]]
            · have : (((d.toNat : Int)) == 45) = false := by
                rw [beq_eq_false_iff_ne]
                exact fun z => d45 ((bn d 45 45 rfl).mp z)
              rw [this, heirloomref07_blanks.j2, if_neg (by decide)]
              rw [blank_none b (d :: r) c (fun z => d45 (by simpa using z.2))]; rfl
        · rw [if_neg c45, heirloomref07_blanks.j2, if_neg (by decide)]
          rw [blank_none b r c (fun z => c45 z.1)]; rfl
    · by_cases c : b = 10
      · obtain ⟨k, rfl⟩ : ∃ m, k = m + 1 := ⟨k - 1, by omega⟩
        rw [heirloomref07_blanks.l1, if_pos (by omega), if_pos (by omega), h2]
        simp only [e10]
        rw [if_pos c, bl k (by omega) (.inr (.inr (.inl c)))]
        rw [show blankN false (b :: r) = 1 + blankN false r by rw [blankN, if_pos (.inr (.inr (.inl c)))], show blankN true (b :: r) = 1 + blankN false r by rw [blankN, if_pos c]]
      · rw [rem k (by omega) c, blankN, if_neg c]
theorem rblanks_f {s : ByteArray} (hs : s.size ≤ 140737488351232) (i k : Nat) (hi : i ≤ s.size) (hk : 4 * s.size + 4 ≤ k) : heirloomref07_blanks.f k s (i : Int) = some ((i + blankN false ((bs s).drop i) : Nat) : Int) :=
  (rbl hs _ i k rfl hi (by rw [List.length_drop, bs_len]; omega)).1
theorem rd_get (W : List ByteArray) (i : Nat) (h : i < W.length) : rdOf ByteArray.empty W (i : Int) = W[i] := by
  unfold rdOf
  rw [Int.toNat_natCast, List.getD_eq_getElem?_getD, List.getElem?_eq_getElem h]; rfl
theorem word_l0 (t : ByteArray) (W : List ByteArray) (hW : W.length ≤ 1000) : ∀ (d i k : Nat), W.length - i = d → i ≤ W.length → d < k → heirloomref07_Word.l0 k t W (i : Int) = some (decide (t.data.toList ∈ (W.drop i).map (·.data.toList)))
  | 0, i, k, hd, hi, hk => by
    obtain ⟨k, rfl⟩ : ∃ m, k = m + 1 := ⟨k - 1, by omega⟩
    rw [heirloomref07_Word.l0, if_neg (by omega), List.drop_of_length_le (by omega)]; simp
  | d + 1, i, k, hd, hi, hk => by
    obtain ⟨k, rfl⟩ : ∃ m, k = m + 1 := ⟨k - 1, by omega⟩
    have hil : i < W.length := by omega
    rw [heirloomref07_Word.l0, if_pos (by omega), if_pos (by omega), rd_get W i hil, toList_bs, toList_bs, List.drop_eq_getElem_cons hil]
    by_cases c : bs W[i] = bs t
    · rw [if_pos c]
      congr 1
      symm
      rw [decide_eq_true_iff, List.map_cons]
      exact List.mem_cons.2 (.inl c.symm)
    · rw [if_neg c, w64 (by omega), word_l0 t W hW d (i + 1) k (by omega) (by omega) (by omega)]
      congr 1
      rw [decide_eq_decide, List.map_cons, List.mem_cons]
      exact ⟨.inr, fun z => z.resolve_left fun y => c y.symm⟩
theorem rword_f (t : ByteArray) (k : Nat) (hk : 20 ≤ k) : heirloomref07_Word.f k t = some (isWord t) := by
  have := word_l0 t theWords (by decide) 18 0 k rfl (by decide) (by omega)
  exact this
/-- the first of some signs that a list begins with: how long; 0: none -/
def sgnR : List (List UInt8) → List UInt8 → Nat
  | [], _ => 0
  | w :: W, l => if l.take w.length = w then w.length else sgnR W l
theorem sgn_l0 (s : ByteArray) (hs : s.size ≤ 140737488351232) (i : Nat) (hi : i ≤ s.size) (W : List ByteArray) (hW : W.length ≤ 1000) (hw : ∀ w ∈ W, w.size ≤ 1000) : ∀ (d j k : Nat), W.length - j = d → j ≤ W.length → d < k →
    heirloomref07_signAt.l0 k s (i : Int) W (j : Int) = some ((sgnR ((W.drop j).map bs) ((bs s).drop i) : Nat) : Int)
  | 0, j, k, hd, hj, hk => by
    obtain ⟨k, rfl⟩ : ∃ m, k = m + 1 := ⟨k - 1, by omega⟩
    rw [heirloomref07_signAt.l0, if_neg (by omega), List.drop_of_length_le (by omega)]; rfl
  | d + 1, j, k, hd, hj, hk => by
    obtain ⟨k, rfl⟩ : ∃ m, k = m + 1 := ⟨k - 1, by omega⟩
    have hjl : j < W.length := by omega
    have hwj := hw _ (List.getElem_mem hjl)
    have ih := sgn_l0 s hs i hi W hW hw d (j + 1) k (by omega) (by omega) (by omega)
    rw [heirloomref07_signAt.l0, if_pos (by omega), if_pos (by omega), rd_get W j hjl, List.drop_eq_getElem_cons hjl, List.map_cons, sgnR, w64i (x := (i : Int) + (W[j].size : Int)) (by omega) (by omega), w64 (by omega), bs_len, ih]
    by_cases c : (i : Int) + (W[j].size : Int) ≤ (s.size : Int)
    · rw [if_pos c, if_pos (by omega), if_pos (by omega), toList_bs, toList_bs, bs_extract]
      rw [show ((i : Int) + (W[j].size : Int)).toNat - (i : Int).toNat = W[j].size by omega, Int.toNat_natCast]
      split <;> rfl
    · rw [if_neg c, if_neg]
      intro z
      have := congrArg List.length z
      rw [List.length_take, List.length_drop, bs_len, bs_len] at this
      omega
def twos : List (List UInt8) := [[47, 47], [46, 46], [61, 61], [126, 61], [60, 61], [62, 61]]
def ones : List (List UInt8) := [[43], [45], [42], [47], [37], [60], [62], [61], [40], [41], [123], [125], [91], [93], [44], [59], [46], [35]]
theorem sgn_one (a : UInt8) : sgnR ones [a] = if sgB a = true ∧ ¬ [a] = [126] then 1 else 0 := by
  refine all_bytes (P := fun a => sgnR ones [a] = if sgB a = true ∧ ¬ [a] = [126] then 1 else 0) ?_ a
  decide +kernel
theorem sgn_only (a : UInt8) : sgnR (twos ++ ones) [a] = if sgB a = true ∧ ¬ [a] = [126] then 1 else 0 := by
  refine all_bytes (P := fun a => sgnR (twos ++ ones) [a] = if sgB a = true ∧ ¬ [a] = [126] then 1 else 0) ?_ a
  decide +kernel
theorem sgn_app (a : UInt8) (l : List UInt8) : ∀ W : List (List UInt8), (∀ w ∈ W, w.length = 1) → sgnR W (a :: l) = sgnR W [a]
  | [], _ => rfl
  | w :: W, h => by
    have := h w (List.mem_cons_self ..)
    rw [sgnR, sgnR, sgn_app a l W (fun x hx => h x (List.mem_cons_of_mem _ hx)), this]; rfl
theorem sgn_two (a b : UInt8) (r : List UInt8) : sgnR (twos ++ ones) (a :: b :: r) = if twoB a b = true then 2 else sgnR ones [a] := by
  have q : ∀ x y : UInt8, ((a :: b :: r).take ([x, y] : List UInt8).length = ([x, y] : List UInt8)) = ((a == x && b == y) = true) := by intro x y; simp
  have h : sgnR ones (a :: b :: r) = sgnR ones [a] := sgn_app a (b :: r) ones (by decide)
  unfold twos
  simp only [List.cons_append, List.nil_append]
  rw [sgnR, sgnR, sgnR, sgnR, sgnR, sgnR, h]
  simp only [q]
  unfold twoB
  cases (a == 47 && b == 47) <;> cases (a == 46 && b == 46) <;> cases (a == 61 && b == 61) <;> cases (a == 126 && b == 61) <;> cases (a == 60 && b == 61) <;> cases (a == 62 && b == 61) <;> rfl
theorem two_sg {a b : UInt8} (h : twoB a b = true) : sgB a = true := by
  unfold twoB at h
  simp only [Bool.or_eq_true, Bool.and_eq_true, beq_iff_eq] at h
  rcases h with ((((h | h) | h) | h) | h) | h <;> rw [h.1] <;> decide
theorem sgn_all (a : UInt8) (r : List UInt8) : sgnR (twos ++ ones) (a :: r) = if sgB a = true ∧ ¬ (a :: r).take (signN (a :: r)) = [126] then signN (a :: r) else 0 := by
  cases r with
  | nil => exact sgn_only a
  | cons b r =>
    rw [sgn_two]
    have e : signN (a :: b :: r) = if twoB a b = true then 2 else 1 := rfl
    by_cases c : twoB a b = true
    · rw [e, if_pos c, if_pos c, if_pos ⟨two_sg c, by simp⟩]
    · rw [e, if_neg c, if_neg c, sgn_one]; rfl
theorem rsign_f (s : ByteArray) (hs : s.size ≤ 140737488351232) (i : Nat) (hi : i ≤ s.size) (a : UInt8) (r : List UInt8) (h : (bs s).drop i = a :: r) (k : Nat) (hk : 30 ≤ k) :
    heirloomref07_signAt.f k s (i : Int) = some (((if sgB a = true ∧ ¬ (a :: r).take (signN (a :: r)) = [126] then signN (a :: r) else 0 : Nat)) : Int) := by
  unfold heirloomref07_signAt.f heirloomref07_Signs.f
  simp only [Option.bind_some]
  have := sgn_l0 s hs i hi [(⟨#[47, 47]⟩ : ByteArray), (⟨#[46, 46]⟩ : ByteArray), (⟨#[61, 61]⟩ : ByteArray), (⟨#[126, 61]⟩ : ByteArray), (⟨#[60, 61]⟩ : ByteArray), (⟨#[62, 61]⟩ : ByteArray), (⟨#[43]⟩ : ByteArray), (⟨#[45]⟩ : ByteArray), (⟨#[42]⟩ : ByteArray), (⟨#[47]⟩ : ByteArray), (⟨#[37]⟩ : ByteArray), (⟨#[60]⟩ : ByteArray), (⟨#[62]⟩ : ByteArray), (⟨#[61]⟩ : ByteArray), (⟨#[40]⟩ : ByteArray), (⟨#[41]⟩ : ByteArray), (⟨#[123]⟩ : ByteArray), (⟨#[125]⟩ : ByteArray), (⟨#[91]⟩ : ByteArray), (⟨#[93]⟩ : ByteArray), (⟨#[44]⟩ : ByteArray), (⟨#[59]⟩ : ByteArray), (⟨#[46]⟩ : ByteArray), (⟨#[35]⟩ : ByteArray)] (by decide) (by decide) 24 0 k rfl (by decide) (by omega)
  rw [h] at this
  refine this.trans ?_
  rw [← sgn_all a r]
  rfl
def hd16 (n : Nat) : UInt8 := ([48, 49, 50, 51, 52, 53, 54, 55, 56, 57, 97, 98, 99, 100, 101, 102] : List UInt8).getD n 0
/-- how one byte is written -/
def oneB (x : UInt8) : List UInt8 := if plB x = true then [x] else [92, 120, hd16 (x.toNat / 16), hd16 (x.toNat % 16)]
theorem oneB_f (x : UInt8) : heirloomref02_one.f (x.toNat : Int) = some (tx (oneB x)) := by
  refine all_bytes (P := fun x => heirloomref02_one.f (x.toNat : Int) = some (tx (oneB x))) ?_ x
  decide +kernel
theorem oneB_len (x : UInt8) : 1 ≤ (oneB x).length ∧ (oneB x).length ≤ 4 := by
  unfold oneB; split <;> simp
theorem hd_hexv (h : UInt8) : 0 ≤ hexv h → hd16 (hexv h).toNat = h := by
  refine all_bytes (P := fun h => 0 ≤ hexv h → hd16 (hexv h).toNat = h) ?_ h
  decide +kernel
theorem hex_back (x : UInt8) : 0 ≤ hexv (hd16 (x.toNat / 16)) ∧ 0 ≤ hexv (hd16 (x.toNat % 16)) ∧ hexB (hd16 (x.toNat / 16)) (hd16 (x.toNat % 16)) = x := by
  refine all_bytes (P := fun x => 0 ≤ hexv (hd16 (x.toNat / 16)) ∧ 0 ≤ hexv (hd16 (x.toNat % 16)) ∧ hexB (hd16 (x.toNat / 16)) (hd16 (x.toNat % 16)) = x) ?_ x
  decide +kernel
theorem hexB_two {h l : UInt8} (h0 : 0 ≤ hexv h) (l0 : 0 ≤ hexv l) : hd16 ((hexB h l).toNat / 16) = h ∧ hd16 ((hexB h l).toNat % 16) = l := by
  have h1 := (hexv_bd h).2
  have l1 := (hexv_bd l).2
  have e : (hexB h l).toNat = (16 * hexv h + hexv l).toNat := by
    unfold hexB
    rw [UInt8.toNat_ofNat']
    exact Nat.mod_eq_of_lt (by omega)
  rw [e, show (16 * hexv h + hexv l).toNat / 16 = (hexv h).toNat by omega, show (16 * hexv h + hexv l).toNat % 16 = (hexv l).toNat by omega]
  exact ⟨hd_hexv h h0, hd_hexv l l0⟩
/-- the byte that a quote's inside begins with, and the rest -/
def stepL : List UInt8 → Option (UInt8 × List UInt8)
  | [] => none
  | b :: r => if plB b = true then some (b, r) else
    match r with
    | x :: h :: l :: r' => if b = 92 ∧ x = 120 ∧ 0 ≤ hexv h ∧ 0 ≤ hexv l ∧ plB (hexB h l) = false then some (hexB h l, r') else none
    | _ => none
theorem st_plain {b : UInt8} (r : List UInt8) (h : plB b = true) : stepL (b :: r) = some (b, r) := by unfold stepL; simp only [h, if_true]
theorem st_four {b : UInt8} (h : ¬ plB b = true) (x y z : UInt8) (r : List UInt8) : stepL (b :: x :: y :: z :: r) = if b = 92 ∧ x = 120 ∧ 0 ≤ hexv y ∧ 0 ≤ hexv z ∧ plB (hexB y z) = false then some (hexB y z, r) else none := by unfold stepL; simp only [h, if_false]; rfl
theorem st_short {b : UInt8} (h : ¬ plB b = true) (r : List UInt8) (hr : r.length < 3) : stepL (b :: r) = none := by
  unfold stepL; simp only [h, if_false]
  match r, hr with
  | [], _ => rfl
  | [_], _ => rfl
  | [_, _], _ => rfl
  | _ :: _ :: _ :: _, hr => simp at hr; omega
theorem unq_step (b : UInt8) (r : List UInt8) : unqL (b :: r) = match stepL (b :: r) with
    | none => none
    | some v => (unqL v.2).map (v.1 :: ·) := by
  by_cases h : plB b = true
  · rw [unq_plain r h, st_plain r h]
  · match r with
    | [] => rw [unq_short h _ (by simp), st_short h _ (by simp)]
    | [_] => rw [unq_short h _ (by simp), st_short h _ (by simp)]
    | [_, _] => rw [unq_short h _ (by simp), st_short h _ (by simp)]
    | x :: y :: z :: r => 
      rw [unq_four h, st_four h]
      split <;> rfl
theorem step_one (x : UInt8) (r : List UInt8) : stepL (oneB x ++ r) = some (x, r) := by
  unfold oneB
  by_cases h : plB x = true
  · rw [if_pos h]; exact st_plain r h
  · rw [if_neg h]
    show stepL (92 :: 120 :: hd16 (x.toNat / 16) :: hd16 (x.toNat % 16) :: r) = _
    obtain ⟨h1, h2, h3⟩ := hex_back x
    rw [st_four (by decide), if_pos ⟨rfl, rfl, h1, h2, by rw [h3]; exact Bool.eq_false_iff.mpr h⟩, h3]
theorem step_some {l : List UInt8} {x : UInt8} {r : List UInt8} (h : stepL l = some (x, r)) : l = oneB x ++ r := by
  match l, h with
  | [], h => cases h
  | b :: t, h =>
    by_cases hp : plB b = true
    · rw [st_plain t hp] at h
      injection h with h; injection h with h1 h2
      subst h1; subst h2
      unfold oneB; rw [if_pos hp]; rfl
    · match t, h with
      | [], h => rw [st_short hp _ (by simp)] at h; cases h
      | [_], h => rw [st_short hp _ (by simp)] at h; cases h
      | [_, _], h => rw [st_short hp _ (by simp)] at h; cases h
      | y :: u :: v :: t, h =>
        rw [st_four hp] at h
        split at h
        · rename_i c
          injection h with h; injection h with h1 h2
          subst h2
          obtain ⟨c1, c2, c3, c4, c5⟩ := c
          obtain ⟨g1, g2⟩ := hexB_two c3 c4
          subst h1
          unfold oneB; rw [c5, if_neg (by decide), g1, g2, c1, c2]; rfl
        · cases h
def Mt (x : UInt8) (L : List UInt8) : Prop := L.take (oneB x).length = oneB x
theorem mt_step {x : UInt8} {L : List UInt8} (h : Mt x L) : stepL L = some (x, L.drop (oneB x).length) := by
  have e := List.take_append_drop (oneB x).length L
  rw [h] at e
  rw [← step_one x (L.drop (oneB x).length), e]
theorem step_mt {x : UInt8} {L r : List UInt8} (h : stepL L = some (x, r)) : Mt x L ∧ L.drop (oneB x).length = r := by
  have e := step_some h
  refine ⟨?_, ?_⟩
  · unfold Mt; rw [e, List.take_left]
  · rw [e, List.drop_left]
/-! the loops -/
abbrev insL (t : ByteArray) (p : Nat) : List UInt8 := ((bs t).drop p).take (t.size - 1 - p)
theorem ins_len {t : ByteArray} {p : Nat} (hp : p ≤ t.size - 1) : (insL t p).length = t.size - 1 - p := by
  rw [List.length_take, List.length_drop, bs_len]; omega
theorem mt_at {t : ByteArray} {p : Nat} (hp : p ≤ t.size - 1) (x : UInt8) : Mt x (insL t p) ↔ p + (oneB x).length ≤ t.size - 1 ∧ (t.extract p (p + (oneB x).length)).toList = oneB x := by
  have hl := ins_len hp
  unfold Mt
  rw [toList_bs, bs_extract, show p + (oneB x).length - p = (oneB x).length by omega]
  constructor
  · intro z
    have hz := congrArg List.length z
    rw [List.length_take, hl] at hz
    have : p + (oneB x).length ≤ t.size - 1 := by have := (oneB_len x).1; omega
    refine ⟨this, ?_⟩
    rw [List.take_take, Nat.min_eq_left (by omega)] at z
    exact z
  · intro ⟨z, y⟩
    rw [List.take_take, Nat.min_eq_left (by omega)]
    exact y
theorem u_done {t : ByteArray} (k : Nat) (acc : List Int) (p a : Int) : heirloomref02_Unquote.l1 (k + 2) t acc p true a = heirloomref02_Unquote.l0 k t acc p := by
  rw [heirloomref02_Unquote.l1, Bool.not_true, ite_self, heirloomref02_Unquote.j2, if_neg (show ¬ (false = true) by decide), if_pos rfl]
theorem u_end {t : ByteArray} (k : Nat) (acc : List Int) (p : Int) : heirloomref02_Unquote.l1 (k + 2) t acc p false 256 = some ((⟨#[]⟩ : ByteArray), 6) := by
  rw [heirloomref02_Unquote.l1, if_neg (by decide), heirloomref02_Unquote.j2, if_neg (by decide), if_neg (by decide)]
section
variable {t : ByteArray} (ht : t.size ≤ 140737488351232) (h2 : 2 ≤ t.size)
include ht h2
theorem u_test (k : Nat) (acc : List UInt8) (p a : Nat) (hp : p ≤ t.size - 1) (ha : a < 256) (hacc : acc.length ≤ p) :
    heirloomref02_Unquote.l1 (k + 2) t (nums acc) (p : Int) false (a : Int) =
      if p + (oneB (UInt8.ofNat a)).length ≤ t.size - 1 ∧ (t.extract p (p + (oneB (UInt8.ofNat a)).length)).toList = oneB (UInt8.ofNat a) then
        heirloomref02_Unquote.l1 k t (nums (acc ++ [UInt8.ofNat a])) ((p + (oneB (UInt8.ofNat a)).length : Nat) : Int) true ((a + 1 : Nat) : Int)
      else heirloomref02_Unquote.l1 k t (nums acc) (p : Int) false ((a + 1 : Nat) : Int) := by
  have hb := oneB_len (UInt8.ofNat a)
  have hx : ((UInt8.ofNat a).toNat : Int) = (a : Int) % 256 := by rw [UInt8.toNat_ofNat']; omega
  rw [heirloomref02_Unquote.l1, if_pos (by omega), Bool.not_false, heirloomref02_Unquote.j2, if_pos rfl, ← hx, oneB_f]
  simp only [Option.bind_some]
  rw [tx_size, w64i (x := (p : Int) + ((oneB (UInt8.ofNat a)).length : Int)) (by omega) (by omega), w64i (x := (t.size : Int) - 1) (by omega) (by omega), w64 (by omega)]
  by_cases c : p + (oneB (UInt8.ofNat a)).length ≤ t.size - 1
  · rw [if_pos (by omega), if_pos (by omega), if_pos (by omega), if_pos (by omega)]
    rw [show ((p : Int) + ((oneB (UInt8.ofNat a)).length : Int)).toNat = p + (oneB (UInt8.ofNat a)).length by omega, Int.toNat_natCast, toList_bs (tx (oneB (UInt8.ofNat a))), bs_tx]
    by_cases d : (t.extract p (p + (oneB (UInt8.ofNat a)).length)).toList = oneB (UInt8.ofNat a)
    · rw [if_pos d, if_pos (by rw [nums_len]; omega), nums_snoc, if_pos ⟨c, d⟩]; rfl
    · rw [if_neg d, if_neg (fun z => d z.2)]
  · rw [if_neg (by omega), if_neg (fun z => c z.1)]
theorem u_skip (acc : List UInt8) (p : Nat) (hp : p ≤ t.size - 1) (hacc : acc.length ≤ p) (k : Nat) : ∀ (d a : Nat), a + d ≤ 256 → (∀ x, a ≤ x → x < a + d → ¬ Mt (UInt8.ofNat x) (insL t p)) →
    heirloomref02_Unquote.l1 (k + 2 * d) t (nums acc) (p : Int) false (a : Int) = heirloomref02_Unquote.l1 k t (nums acc) (p : Int) false ((a + d : Nat) : Int)
  | 0, a, _, _ => rfl
  | d + 1, a, h, hn => by
    rw [show k + 2 * (d + 1) = k + 2 * d + 2 by omega, u_test ht h2 _ acc p a hp (by omega) hacc, if_neg (fun z => hn a (Nat.le_refl _) (by omega) ((mt_at hp _).2 z)),
      u_skip acc p hp hacc k d (a + 1) (by omega) (fun x h1 h2 => hn x (by omega) (by omega)), show a + 1 + d = a + (d + 1) by omega]
theorem u_l0 : ∀ (n : Nat) (acc : List UInt8) (p k : Nat), t.size - 1 - p ≤ n → p ≤ t.size - 1 → acc.length ≤ p → 600 * n + 600 ≤ k →
    heirloomref02_Unquote.l0 k t (nums acc) (p : Int) = some (match unqL (insL t p) with
      | none => (⟨#[]⟩, 6)
      | some o => if bt t 0 = 34 ∧ bt t ((t.size - 1 : Nat) : Int) = 34 then (tx (acc ++ o), 0) else (⟨#[]⟩, 6)) := by
  intro n
  induction n with
  | zero =>
    intro acc p k hn hp hacc hk
    obtain ⟨k, rfl⟩ : ∃ m, k = m + 1 := ⟨k - 1, by omega⟩
    rw [show insL t p = [] from List.eq_nil_of_length_eq_zero (by rw [ins_len hp]; omega)]
    simp only [unqL]
    rw [heirloomref02_Unquote.l0, w64i (by omega) (by omega), if_neg (by omega), if_pos (by omega), show (t.size : Int) - 1 = ((t.size - 1 : Nat) : Int) by omega, nums_str, List.append_nil]
    by_cases c : bt t 0 = 34
    · rw [if_pos c, if_pos (by omega), if_pos (by omega)]
      by_cases d : bt t ((t.size - 1 : Nat) : Int) = 34
      · rw [if_pos d, if_pos ⟨c, d⟩]
      · rw [if_neg d, if_neg (fun z => d z.2)]
    · rw [if_neg c, if_neg (fun z => c z.1)]
  | succ n ih =>
    intro acc p k hn hp hacc hk
    by_cases hlt : p < t.size - 1
    · obtain ⟨b, r, hbr⟩ : ∃ b r, insL t p = b :: r := by
        cases h : insL t p with
        | nil => have := ins_len hp; rw [h] at this; simp at this; omega
        | cons b r => exact ⟨b, r, rfl⟩
      obtain ⟨k, rfl⟩ : ∃ m, k = m + 1 := ⟨k - 1, by omega⟩
      rw [heirloomref02_Unquote.l0, w64i (by omega) (by omega), if_pos (by omega), hbr, unq_step b r]
      cases hs : stepL (b :: r) with
      | none =>
        obtain ⟨k, rfl⟩ : ∃ m, k = m + 2 + 2 * 256 := ⟨k - 514, by omega⟩
        have := u_skip ht h2 acc p hp hacc (k + 2) 256 0 (by omega) (fun x _ _ z => by rw [hbr] at z; rw [mt_step z] at hs; cases hs)
        rw [show ((0 : Nat) : Int) = 0 from rfl, show ((0 + 256 : Nat) : Int) = 256 from rfl] at this
        rw [this, u_end]
      | some v =>
        obtain ⟨x, r'⟩ := v
        obtain ⟨m1, m2⟩ := step_mt hs
        have hx := x.toNat_lt
        obtain ⟨k, rfl⟩ : ∃ m, k = m + 2 + 2 + 2 * x.toNat := ⟨k - (4 + 2 * x.toNat), by omega⟩
        have := u_skip ht h2 acc p hp hacc (k + 2 + 2) x.toNat 0 (by omega) (fun y _ hy z => by
          rw [hbr] at z
          have := mt_step z
          rw [hs] at this
          injection this with this
          injection this with e _
          have := congrArg UInt8.toNat e
          rw [UInt8.toNat_ofNat'] at this
          omega)
        rw [show ((0 : Nat) : Int) = 0 from rfl, Nat.zero_add] at this
        have hm := m1
        rw [← hbr] at hm
        have hm2 := (mt_at hp x).1 hm
        have hb := oneB_len x
        rw [this, u_test ht h2 _ acc p x.toNat hp hx hacc, UInt8.ofNat_toNat, if_pos hm2, u_done,
          ih (acc ++ [x]) (p + (oneB x).length) k (by omega) hm2.1 (by simp; omega) (by omega)]
        have e : insL t (p + (oneB x).length) = r' := by
          rw [← m2, ← hbr]
          unfold insL
          rw [List.drop_take, List.drop_drop, show t.size - 1 - (p + (oneB x).length) = t.size - 1 - p - (oneB x).length by omega]
        rw [e]
        cases hu : unqL r' with
        | none => simp [hu]
        | some o => simp [hu]
    · exact ih acc p k (by omega) hp hacc (by omega)
end
theorem runq_f (t : ByteArray) (ht : t.size ≤ 140737488351232) (k : Nat) (hk : 600 * t.size + 600 ≤ k) : heirloomref02_Unquote.f k t = some (unqR [] (quoL (bs t))) := by
  unfold heirloomref02_Unquote.f quoL
  rw [bs_len]
  by_cases h2 : t.size < 2
  · rw [if_pos (by omega), if_pos (.inl h2)]; rfl
  · rw [if_neg (by omega)]
    have := u_l0 ht (by omega) (t.size - 2) [] 1 k (by omega) (by omega) (by simp) (by omega)
    rw [show nums [] = ([] : List Int) from rfl, show ((1 : Nat) : Int) = 1 from rfl] at this
    rw [this]
    obtain ⟨b, r, hl⟩ : ∃ b r, bs t = b :: r := by
      cases h : bs t with
      | nil => have := bs_len t; rw [h] at this; simp at this; omega
      | cons b r => exact ⟨b, r, rfl⟩
    obtain ⟨h0, h1, hs⟩ := bs_0 hl
    have hd : (bs t).head? = some b := by rw [hl]; rfl
    obtain ⟨c, hc⟩ : ∃ c, (bs t).drop (t.size - 1) = [c] := by
      have hlen : ((bs t).drop (t.size - 1)).length = 1 := by rw [List.length_drop, bs_len]; omega
      match h : (bs t).drop (t.size - 1), hlen with
      | [c], _ => exact ⟨c, rfl⟩
    have g := bs_step hc
    have hlast : (bs t).getLast? = some c := by
      have e := List.take_append_drop (t.size - 1) (bs t)
      rw [← e, hc]; simp
    have q1 : (bt t 0 = 34) = (b = 34) := by rw [h1]; exact bn b 34 34 rfl
    have q2 : (bt t ((t.size - 1 : Nat) : Int) = 34) = (c = 34) := by rw [g.2.1]; exact bn c 34 34 rfl
    have e : insL t 1 = ((bs t).drop 1).take (t.size - 2) := rfl
    rw [e, hd, hlast]
    simp only [q1, q2]
    by_cases z : b = 34 ∧ c = 34
    · have nz : ¬ (t.size < 2 ∨ some b ≠ some 34 ∨ some c ≠ some 34) := fun y => y.elim h2 fun y => y.elim (fun y => y (by rw [z.1])) (fun y => y (by rw [z.2]))
      rw [if_neg nz]
      cases unqL (((bs t).drop 1).take (t.size - 2)) with
      | none => rfl
      | some o => simp [z, unqR]
    · rw [if_pos (by
        by_cases y : b = 34
        · exact .inr (.inr (fun x => z ⟨y, by injection x⟩))
        · exact .inr (.inl (fun x => y (by injection x))))]
      cases unqL (((bs t).drop 1).take (t.size - 2)) with
      | none => rfl
      | some o => simp only [if_neg z]; rfl
theorem rread_f (t : ByteArray) (ht : t.size ≤ 140737488351232) (k : Nat) (hk : 8 * t.size + 90 ≤ k) : heirloomref01_Read.f k t = some (readP t) := by
  obtain ⟨v, h1, h2⟩ := FT.read_eq ht k hk
  rw [read_f t ht k hk] at h1
  rw [h2, ← h1]
/-- how far a quote's end is -/
def q34 : List UInt8 → Nat
  | [] => 0
  | b :: r => if b = 34 then 0 else q34 r + 1
theorem q34_le : ∀ l, q34 l ≤ l.length
  | [] => Nat.le_refl _
  | b :: r => by
    have := q34_le r
    rw [q34]; split <;> simp only [List.length_cons] <;> omega
theorem q34_ix : ∀ l, Lib.indexByte l 34 = if q34 l = l.length then -1 else ((q34 l : Nat) : Int)
  | [] => rfl
  | b :: r => by
    have ih := q34_ix r
    have := q34_le r
    rw [Lib.indexByte, q34, ih]
    by_cases c : b = 34
    · rw [if_pos (by rw [c]; rfl), if_pos c, if_neg (by simp)]; rfl
    · rw [if_neg (by simpa using c), if_neg c]
      simp only [List.length_cons]
      by_cases d : q34 r = r.length
      · rw [if_pos d, if_pos (by rfl), if_pos (by omega)]
      · rw [if_neg d, if_neg (by rw [beq_iff_eq]; omega), if_neg (by omega)]; omega
section
variable {s : ByteArray} (hs : s.size ≤ 140737488351232) (a : Nat)
include hs
/-- what an end of letters hands back -/
def wEnd (s : ByteArray) (a j : Nat) (p : Int) : Int × ByteArray × Int × Int × ByteArray × Int × Int × Int := (if isWord (s.extract a j) = true then 2 else 1, s.extract a j, 0, 0, ⟨#[]⟩, p, (j : Int), 0)
omit hs in
theorem w_end (k j : Nat) (h1 : a ≤ j) (h2 : j ≤ s.size) (hk : 20 ≤ k) (p : Int) : (if 0 ≤ (a : Int) then (if (a : Int) ≤ (j : Int) then (if (j : Int) ≤ (s.size : Int) then ((heirloomref07_Word.f k (s.extract (a : Int).toNat (j : Int).toNat)).bind fun t204 => (if t204 = true then (some ((2 : Int), s.extract (a : Int).toNat (j : Int).toNat, (0 : Int), (0 : Int), (⟨#[]⟩ : ByteArray), p, (j : Int), (0 : Int))) else (some (1, s.extract (a : Int).toNat (j : Int).toNat, 0, 0, (⟨#[]⟩ : ByteArray), p, (j : Int), 0)))) else (none)) else (none)) else (none)) = some (wEnd s a j p) := by
  rw [if_pos (by omega), if_pos (by omega), if_pos (by omega), rword_f _ k hk]
  simp only [Option.bind_some, Int.toNat_natCast]
  unfold wEnd
  split <;> rfl
theorem one_l0 : ∀ (l : List UInt8) (x k : Nat), (bs s).drop x = l → a ≤ x → x ≤ s.size → l.length + 30 ≤ k → heirloomref07_one.l0 k s a x 0 ⟨#[]⟩ 0 0 ⟨#[]⟩ a 0 = some (wEnd s a (x + runL l) a)
  | [], x, k, h, ha, hx, hk => by
    obtain ⟨k, rfl⟩ : ∃ m, k = m + 1 := ⟨k - 1, by omega⟩
    have := bs_stop h
    rw [heirloomref07_one.l0, if_neg (by omega)]
    exact w_end a k x ha hx (by simp at hk; omega) _
  | b :: r, x, k, h, ha, hx, hk => by
    obtain ⟨k, rfl⟩ : ∃ m, k = m + 1 := ⟨k - 1, by omega⟩
    obtain ⟨h1, h2, h3⟩ := bs_step h
    simp only [List.length_cons] at hk
    rw [heirloomref07_one.l0, if_pos (by omega), if_pos (by omega), h2, rletter_f, rdigit_f, w64 (by omega), one_l0 r (x + 1) k h3 (by omega) (by omega) (by omega)]
    simp only [Option.bind_some]
    have e : runL (b :: r) = if (alB b || dgB b) = true then runL r + 1 else 0 := rfl
    rw [e]
    by_cases c : alB b = true
    · rw [if_pos c, c, Bool.true_or, if_pos rfl, show x + 1 + runL r = x + (runL r + 1) by omega]
    · rw [if_neg c]
      by_cases d : dgB b = true
      · rw [if_pos d, d, Bool.or_true, if_pos rfl, show x + 1 + runL r = x + (runL r + 1) by omega]
      · rw [if_neg d, if_neg (show ¬ ((alB b || dgB b) = true) by rw [Bool.or_eq_true]; exact fun z => z.elim c d)]
        exact w_end a k x ha hx (by omega) _
def nEnd (s : ByteArray) (a j : Nat) (p : Int) : Int × ByteArray × Int × Int × ByteArray × Int × Int × Int := (3, s.extract a j, (readP (s.extract a j)).1, (readP (s.extract a j)).2.1, ⟨#[]⟩, p, (j : Int), (readP (s.extract a j)).2.2)
theorem n_end (k j : Nat) (h1 : a ≤ j) (h2 : j ≤ s.size) (hk : 8 * s.size + 90 ≤ k) (p : Int) : (if 0 ≤ (a : Int) then (if (a : Int) ≤ (j : Int) then (if (j : Int) ≤ (s.size : Int) then ((heirloomref01_Read.f k (s.extract (a : Int).toNat (j : Int).toNat)).bind fun bt210 => (some ((3 : Int), s.extract (a : Int).toNat (j : Int).toNat, bt210.1, bt210.2.1, (⟨#[]⟩ : ByteArray), p, (j : Int), bt210.2.2))) else (none)) else (none)) else (none)) = some (nEnd s a j p) := by
  have hz : (s.extract a j).size ≤ s.size := by rw [ByteArray.size_extract]; omega
  rw [if_pos (by omega), if_pos (by omega), if_pos (by omega)]
  simp only [Int.toNat_natCast]
  rw [rread_f _ (by omega) k (by omega)]
  rfl
theorem one_l1 : ∀ (l : List UInt8) (x k : Nat), (bs s).drop x = l → a ≤ x → x ≤ s.size → 8 * s.size + l.length + 100 ≤ k → heirloomref07_one.l1 k s a x 0 ⟨#[]⟩ 0 0 ⟨#[]⟩ a 0 = some (nEnd s a (x + numL l) a)
  | [], x, k, h, ha, hx, hk => by
    obtain ⟨k, rfl⟩ : ∃ m, k = m + 1 := ⟨k - 1, by omega⟩
    have := bs_stop h
    rw [heirloomref07_one.l1, if_neg (by omega)]
    exact n_end hs a k x ha hx (by omega) _
  | b :: r, x, k, h, ha, hx, hk => by
    obtain ⟨k, rfl⟩ : ∃ m, k = m + 1 := ⟨k - 1, by omega⟩
    obtain ⟨h1, h2, h3⟩ := bs_step h
    simp only [List.length_cons] at hk
    have e46 : ((b.toNat : Int) = 46) = (b = 46) := bn b 46 46 rfl
    have en := n_end hs a k x ha hx (by omega) (a : Int)
    rw [heirloomref07_one.l1, if_pos (by omega), if_pos (by omega), h2, rletter_f, rdigit_f, w64 (by omega), one_l1 r (x + 1) k h3 (by omega) (by omega) (by omega)]
    simp only [Option.bind_some]
    have e : numL (b :: r) = if ((alB b || dgB b) || (b == 46 && hdD r)) = true then numL r + 1 else 0 := rfl
    rw [e, en]
    by_cases c : alB b = true
    · rw [if_pos c, c, Bool.true_or, Bool.true_or, if_pos rfl, show x + 1 + numL r = x + (numL r + 1) by omega]
    · rw [if_neg c]
      by_cases d : dgB b = true
      · rw [if_pos d, d, Bool.or_true, Bool.true_or, if_pos rfl, show x + 1 + numL r = x + (numL r + 1) by omega]
      · rw [if_neg d]
        simp only [e46]
        have cf : (alB b || dgB b) = false := by rw [Bool.or_eq_false_iff]; exact ⟨Bool.eq_false_iff.mpr c, Bool.eq_false_iff.mpr d⟩
        rw [cf, Bool.false_or]
        by_cases c46 : b = 46
        · rw [if_pos c46, show (b == 46) = true from by rw [c46]; rfl, Bool.true_and]
          cases r with
          | nil =>
            have := bs_stop h3
            rw [if_neg (by omega)]; rfl
          | cons y r =>
            obtain ⟨g1, g2, g3⟩ := bs_step h3
            rw [if_pos (by omega), if_pos (by omega), g2, rdigit_f]
            simp only [Option.bind_some]
            rw [show hdD (y :: r) = dgB y from rfl]
            by_cases f : dgB y = true
            · rw [if_pos f, if_pos f, show x + 1 + numL (y :: r) = x + (numL (y :: r) + 1) by omega]
            · rw [if_neg f, if_neg f]; rfl
        · rw [if_neg c46, show (b == 46) = false from beq_eq_false_iff_ne.2 c46]; rfl
theorem one_l2 : ∀ (l : List UInt8) (x k : Nat), (bs s).drop x = l → x ≤ s.size → l.length < k → ∃ k', k = k' + q34 l + 1 ∧ heirloomref07_one.l2 k s a x 0 ⟨#[]⟩ 0 0 ⟨#[]⟩ a 0 = heirloomref07_one.j3 k' s a ((x + q34 l : Nat) : Int) 0 ⟨#[]⟩ 0 0 ⟨#[]⟩ a 0
  | [], x, k, h, hx, hk => by
    obtain ⟨k, rfl⟩ : ∃ m, k = m + 1 := ⟨k - 1, by omega⟩
    have := bs_stop h
    refine ⟨k, rfl, ?_⟩
    rw [heirloomref07_one.l2, if_neg (by omega)]; rfl
  | b :: r, x, k, h, hx, hk => by
    obtain ⟨k, rfl⟩ : ∃ m, k = m + 1 := ⟨k - 1, by omega⟩
    obtain ⟨h1, h2, h3⟩ := bs_step h
    have e34 : ((b.toNat : Int) = 34) = (b = 34) := bn b 34 34 rfl
    rw [heirloomref07_one.l2, if_pos (by omega), if_pos (by omega), h2, q34]
    simp only [e34]
    by_cases c : b = 34
    · rw [if_pos c, if_pos c]
      exact ⟨k, rfl, rfl⟩
    · obtain ⟨k', e1, e2⟩ := one_l2 r (x + 1) k h3 (by omega) (by simp at hk; omega)
      rw [if_neg c, if_neg c, w64 (by omega), e2]
      exact ⟨k', by omega, by rw [show x + 1 + q34 r = x + (q34 r + 1) by omega]⟩
end
theorem rone_f (s : ByteArray) (hs : s.size ≤ 140737488351232) (i k : Nat) (hi : i < s.size) (hk : 610 * s.size + 1000 ≤ k) :
    ∃ v, heirloomref07_one.f k s i = some v ∧ v.2.2.2.2.2.2.2 = (oneL ((bs s).drop i)).2.1 ∧
      ((oneL ((bs s).drop i)).2.1 = 0 → v = ((oneL ((bs s).drop i)).2.2.1, tx (((bs s).drop i).take (oneL ((bs s).drop i)).1), (oneL ((bs s).drop i)).2.2.2.1, (oneL ((bs s).drop i)).2.2.2.2.1, (oneL ((bs s).drop i)).2.2.2.2.2, (i : Int), ((i + (oneL ((bs s).drop i)).1 : Nat) : Int), 0)) := by
  obtain ⟨b, r, hl⟩ : ∃ b r, (bs s).drop i = b :: r := by
    cases h : (bs s).drop i with
    | nil => have := bs_stop h; omega
    | cons b r => exact ⟨b, r, rfl⟩
  obtain ⟨h1, h2, h3⟩ := bs_step hl
  have hlen : (b :: r).length = s.size - i := by rw [← hl, List.length_drop, bs_len]
  have hx : ∀ n, s.extract i (i + n) = tx ((b :: r).take n) := by
    intro n; rw [extract_tx, hl, show i + n - i = n by omega]
  have e34 : ((b.toNat : Int) = 34) = (b = 34) := bn b 34 34 rfl
  rw [hl]
  unfold heirloomref07_one.f oneL
  rw [if_pos (by omega), if_pos (by omega), h2, rletter_f, rdigit_f]
  simp only [Option.bind_some, e34]
  by_cases c1 : alB b = true
  · rw [if_pos c1, if_pos c1, one_l0 hs i (b :: r) i k hl (Nat.le_refl _) (by omega) (by omega)]
    unfold wEnd
    rw [hx]
    exact ⟨_, rfl, rfl, fun _ => rfl⟩
  · rw [if_neg c1, if_neg c1]
    by_cases c2 : dgB b = true
    · rw [if_pos c2, if_pos c2, one_l1 hs i (b :: r) i k hl (Nat.le_refl _) (by omega) (by omega)]
      unfold nEnd
      rw [hx]
      refine ⟨_, rfl, rfl, fun z => ?_⟩
      simp only at z
      rw [z]
    · rw [if_neg c2, if_neg c2]
      by_cases c3 : b = 34
      · rw [if_pos c3, if_pos (by rw [c3]; rfl), w64 (by omega)]
        obtain ⟨k', e1, e2⟩ := one_l2 hs i r (i + 1) k h3 (by omega) (by simp at hlen; omega)
        have hq := q34_le r
        simp only [List.length_cons] at hlen
        obtain ⟨k', rfl⟩ : ∃ m, k' = m + 1 := ⟨k' - 1, by omega⟩
        rw [e2, heirloomref07_one.j3]
        have hix := q34_ix r
        by_cases d : q34 r = r.length
        · rw [if_pos d] at hix
          have hn : quoteN (b :: r) = 1 := by unfold quoteN; rw [List.drop_one, List.tail_cons, hix]; rfl
          rw [if_pos (by omega), hn]
          have hu : quoL ((b :: r).take 1) = none := by unfold quoL; rw [if_pos (.inl (by simp))]
          rw [hu]
          exact ⟨_, rfl, rfl, fun z => by exact absurd z (by decide)⟩
        · rw [if_neg d] at hix
          have hn : quoteN (b :: r) = q34 r + 2 := by unfold quoteN; rw [List.drop_one, List.tail_cons, hix, if_neg (by omega)]; omega
          rw [if_neg (by omega), w64 (by omega), if_pos (by omega), if_pos (by omega), if_pos (by omega), Int.toNat_natCast, Int.toNat_natCast, hn]
          rw [show i + 1 + q34 r + 1 = i + (q34 r + 2) by omega, hx]
          have hz : (tx ((b :: r).take (q34 r + 2))).size ≤ s.size := by rw [tx_size, List.length_take]; simp only [List.length_cons]; omega
          rw [runq_f _ (by omega) k' (by omega), bs_tx]
          simp only [Option.bind_some]
          by_cases c : (unqR [] (quoL ((b :: r).take (q34 r + 2)))).2 = 0
          · rw [if_pos c, if_pos c]
            exact ⟨_, rfl, rfl, fun _ => rfl⟩
          · rw [if_neg c, if_neg c]
            exact ⟨_, rfl, rfl, fun z => by exact absurd z (by decide)⟩
      · rw [if_neg c3, if_neg (by simpa using c3), rsign_f s hs i (by omega) b r hl k (by omega)]
        simp only [Option.bind_some]
        have hb := signN_bd b r
        by_cases c4 : sgB b = true
        · rw [if_pos c4]
          by_cases c5 : (b :: r).take (signN (b :: r)) = [126]
          · rw [if_neg (show ¬ (sgB b = true ∧ ¬ (b :: r).take (signN (b :: r)) = [126]) from fun z => z.2 c5), if_pos (show ((0 : Nat) : Int) = 0 from rfl), if_pos c5]
            exact ⟨_, rfl, rfl, fun z => by exact absurd z (show ¬ (15 : Int) = 0 by decide)⟩
          · rw [if_pos (show (sgB b = true ∧ ¬ (b :: r).take (signN (b :: r)) = [126]) from ⟨c4, c5⟩), if_neg (show ¬ ((signN (b :: r) : Nat) : Int) = 0 by omega), if_neg c5, w64i (x := (i : Int) + (signN (b :: r) : Int)) (by omega) (by omega), if_pos (by omega), if_pos (by omega)]
            rw [show ((i : Int) + (signN (b :: r) : Int)).toNat = i + signN (b :: r) by omega, Int.toNat_natCast, hx]
            exact ⟨_, rfl, rfl, fun _ => rfl⟩
        · rw [if_neg (show ¬ (sgB b = true ∧ ¬ (b :: r).take (signN (b :: r)) = [126]) from fun z => c4 z.1), if_pos (show ((0 : Nat) : Int) = 0 from rfl), if_neg c4]
          exact ⟨_, rfl, rfl, fun z => by exact absurd z (by decide)⟩
theorem rlex_l0 (s : ByteArray) (hs : s.size ≤ 8192) : ∀ (f : Nat) (l : List UInt8) (i : Nat) (out : List S35) (k : Nat), (bs s).drop i = l → i ≤ s.size → l.length < f → out.length ≤ i → 610 * s.size + 1000 + f ≤ k →
    heirloomref07_Lex.l0 k s out i = some (if (lexP f l i).2.2 = 0 then (out ++ (lexP f l i).1, 0, 0) else ([], (lexP f l i).2))
  | 0, l, i, out, k, _, _, h, _, _ => by omega
  | f + 1, [], i, out, k, hl, hi, hf, ho, hk => by
    obtain ⟨k, rfl⟩ : ∃ m, k = m + 1 := ⟨k - 1, by omega⟩
    have := bs_stop hl
    rw [heirloomref07_Lex.l0, if_neg (by omega)]
    simp [lexP]
  | f + 1, b :: r, i, out, k, hl, hi, hf, ho, hk => by
    obtain ⟨k, rfl⟩ : ∃ m, k = m + 1 := ⟨k - 1, by omega⟩
    obtain ⟨h1, h2, h3⟩ := bs_step hl
    obtain ⟨v, hone, herr, htok⟩ := rone_f s (by omega) i k h1 (by omega)
    rw [hl] at herr htok
    rw [heirloomref07_Lex.l0, if_pos (by omega), hone]
    simp only [Option.bind_some]
    rw [herr]
    by_cases he : (oneL (b :: r)).2.1 = 0
    · rw [htok he]
      obtain ⟨hn1, hn2⟩ := oneL_bd (b :: r) he
      have hlen : (b :: r).length = s.size - i := by rw [← hl, List.length_drop, bs_len]
      rw [if_pos he, if_pos (by omega)]
      have hd : (bs s).drop (i + (oneL (b :: r)).1) = (b :: r).drop (oneL (b :: r)).1 := by rw [← List.drop_drop, hl]
      simp only
      rw [rblanks_f (by omega) _ k (by omega) (by omega), hd]
      simp only [Option.bind_some]
      have hb := blankN_le ((b :: r).drop (oneL (b :: r)).1) false
      rw [List.length_drop] at hb
      have ih := rlex_l0 s hs f ((b :: r).drop ((oneL (b :: r)).1 + blankN false ((b :: r).drop (oneL (b :: r)).1))) (i + (oneL (b :: r)).1 + blankN false ((b :: r).drop (oneL (b :: r)).1)) (out ++ [tokL (b :: r) i]) k
        (by rw [← List.drop_drop, hd, List.drop_drop]) (by omega) (by rw [List.length_drop]; omega) (by simp; omega) (by omega)
      unfold tokL at ih
      rw [ih]
      rw [lexP, if_pos he]
      unfold tokL
      by_cases hz : (lexP f ((b :: r).drop ((oneL (b :: r)).1 + blankN false ((b :: r).drop (oneL (b :: r)).1))) (i + (oneL (b :: r)).1 + blankN false ((b :: r).drop (oneL (b :: r)).1))).2.2 = 0
      · rw [if_pos hz, if_pos hz]; simp
      · rw [if_neg hz, if_neg hz, if_neg hz]
    · rw [if_neg he, lexP, if_neg he]
      simp only
      rw [if_neg he]
theorem rlex_f (s : ByteArray) (k : Nat) (hk : 611 * s.size + 1100 ≤ k) : heirloomref07_Lex.f k s = some (lexAll (bs s)) := by
  unfold heirloomref07_Lex.f lexAll
  rw [bs_len]
  by_cases c : 8192 < s.size
  · rw [if_pos c, if_pos (by omega)]
  · rw [if_neg c, if_neg (by omega)]
    have := rblanks_f (s := s) (by omega) 0 k (by omega) (by omega)
    rw [show ((0 : Nat) : Int) = 0 from rfl] at this
    rw [this, List.drop_zero, Nat.zero_add]
    simp only [Option.bind_some]
    have hb := blankN_le (bs s) false
    rw [bs_len] at hb
    rw [rlex_l0 s (by omega) (s.size + 1) _ (blankN false (bs s)) [] k rfl hb (by rw [List.length_drop, bs_len]; omega) (by simp) (by omega)]
    by_cases z : (lexP (s.size + 1) ((bs s).drop (blankN false (bs s))) (blankN false (bs s))).2.2 = 0
    · rw [if_pos z, List.nil_append, ← lexP_ok _ _ _ z]
    · rw [if_neg z]
      congr 1
      exact Prod.ext (lexP_bad _ _ _ z).symm rfl
end Go.Proofs.YtpemgladmnbfhaaDoor.PL
