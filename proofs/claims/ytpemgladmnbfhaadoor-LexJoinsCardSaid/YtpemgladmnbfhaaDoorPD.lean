/- Tokens that stand among other blanks, and parts of a source: plain lists. And the chapter's examples. -/
import Derived.Test.YtpemgladmnbfhaaDoorPC
import Derived.Test.YtpemgladmnbfhaaDoorQLx13
set_option linter.unusedVariables false
set_option linter.unusedSimpArgs false
namespace Go.Proofs.YtpemgladmnbfhaaDoor.PL
open Go.RowKit Go.Proofs.YtpemgladmnbfhaaDoor.QL Go.Proofs.YtpemgladmnbfhaaDoor.Wd Go.Proofs.YtpemgladmnbfhaaDoorW.PrintWords
theorem no_f (x : Int) : heirloomlaw07_no.f x = some x := rfl
theorem al1 : (lexAll (bs ⟨#[97, 61, 49, 46, 46, 50]⟩)).2.2 = 0 ∧ (lexAll (bs ⟨#[97, 61, 49, 46, 46, 50]⟩)).1.length = 5 ∧ ((lexAll (bs ⟨#[97, 61, 49, 46, 46, 50]⟩)).1.getD 3 z35).f1.toList = [46, 46] := by decide +kernel
theorem al2 : (lexAll (bs ⟨#[120, 45, 45, 121]⟩)).2.2 = 0 ∧ (lexAll (bs ⟨#[120, 45, 45, 121]⟩)).1.length = 1 := by decide +kernel
theorem al3 : (lexAll (bs ⟨#[97, 32, 36]⟩)).2.2 = 15 ∧ (lexAll (bs ⟨#[97, 32, 36]⟩)).2.1 = 2 := by decide +kernel
theorem al4 : (lexAll (bs ⟨#[34, 97]⟩)).2.2 = 16 := by decide +kernel
theorem al5 : isWord ⟨#[119, 104, 105, 108, 101]⟩ = true ∧ isWord ⟨#[120]⟩ = false := by decide +kernel
theorem alive_at (k : Nat) (h : 1000 ≤ k) : heirloomlaw07_alive.f k = some true := by
  unfold heirloomlaw07_alive.f
  rw [lex_f _ k (by show 9 * 6 + 300 ≤ k; omega), lex_f _ k (by show 9 * 4 + 300 ≤ k; omega), lex_f _ k (by show 9 * 3 + 300 ≤ k; omega), lex_f _ k (by show 9 * 2 + 300 ≤ k; omega)]
  simp only [Option.bind_some, no_f]
  rw [if_pos al1.1, if_pos (by rw [al1.2.1]; rfl), if_pos (by rw [al1.2.1]; decide), if_pos (show ((rd_T35 (lexAll (bs ⟨#[97, 61, 49, 46, 46, 50]⟩)).1 3).f1).toList = _ from al1.2.2)]
  rw [if_pos al2.1, if_pos (by rw [al2.2]; rfl), if_pos al3.2, if_pos al3.1, if_pos al4]
  have w1 : lex_Word.f (⟨#[119, 104, 105, 108, 101]⟩ : ByteArray) = some true := by
    unfold lex_Word.f; rw [if_pos (by decide), al5.1]
  have w2 : lex_Word.f (⟨#[120]⟩ : ByteArray) = some false := by
    unfold lex_Word.f; rw [if_pos (by decide), al5.2]
  rw [w1, w2]
  rfl
/-! blanks -/
theorem blank_idem : ∀ (l : List UInt8) (f : Bool), blankN false (l.drop (blankN f l)) = 0
  | [], f => by cases f <;> simp [blankN]
  | b :: r, true => by
    rw [blankN]
    by_cases h : b = 10
    · rw [if_pos h, Nat.add_comm, List.drop_succ_cons]; exact blank_idem r false
    · rw [if_neg h, Nat.add_comm, List.drop_succ_cons]; exact blank_idem r true
  | b :: r, false => by
    by_cases h : b = 32 ∨ b = 9 ∨ b = 10 ∨ b = 13
    · rw [blankN, if_pos h, Nat.add_comm, List.drop_succ_cons]; exact blank_idem r false
    · by_cases h2 : b = 45 ∧ r.head? = some 45
      · rw [blankN, if_neg h, if_pos h2, Nat.add_comm, List.drop_succ_cons]; exact blank_idem r true
      · rw [blankN, if_neg h, if_neg h2, List.drop_zero, blankN, if_neg h, if_neg h2]
theorem blank_take : ∀ (l : List UInt8) (f : Bool) (m : Nat), blankN f l ≤ m → blankN f (l.take m) = blankN f l
  | [], f, m, _ => by rw [List.take_nil]
  | b :: r, f, 0, h => by
    have : blankN f (b :: r) = 0 := by omega
    rw [this, List.take_zero]; cases f <;> rfl
  | b :: r, true, m + 1, h => by
    rw [blankN] at h
    rw [List.take_succ_cons, blankN, blankN]
    by_cases c : b = 10
    · rw [if_pos c] at h ⊢
      rw [if_pos c, blank_take r false m (by omega)]
    · rw [if_neg c] at h ⊢
      rw [if_neg c, blank_take r true m (by omega)]
  | b :: r, false, m + 1, h => by
    rw [blankN] at h
    rw [List.take_succ_cons, blankN, blankN]
    by_cases c : b = 32 ∨ b = 9 ∨ b = 10 ∨ b = 13
    · rw [if_pos c] at h ⊢
      rw [if_pos c, blank_take r false m (by omega)]
    · rw [if_neg c] at h ⊢
      rw [if_neg c]
      by_cases c2 : b = 45 ∧ r.head? = some 45
      · rw [if_pos c2] at h ⊢
        have hr : ∃ r', r = 45 :: r' := by
          cases r with
          | nil => simp at c2
          | cons x r' => exact ⟨r', by simpa using c2.2⟩
        obtain ⟨r', rfl⟩ := hr
        have h1 : 1 ≤ blankN true (45 :: r') := by rw [blankN, if_neg (by decide)]; omega
        obtain ⟨m, rfl⟩ : ∃ q, m = q + 1 := ⟨m - 1, by omega⟩
        rw [if_pos ⟨c2.1, by simp⟩, blank_take (45 :: r') true (m + 1) (by omega)]
      · rw [if_neg c2]
        have : ¬ (b = 45 ∧ (r.take m).head? = some 45) := by
          intro z
          refine c2 ⟨z.1, ?_⟩
          have z2 := z.2
          rw [List.head?_take] at z2
          split at z2
          · cases z2
          · exact z2
        rw [if_neg this]
def blB (c : UInt8) : Bool := c == 32 || c == 9 || c == 10 || c == 13
/-- what may stand behind a token instead of r -/
def Ends (r r' : List UInt8) : Prop := r' = [] ∨ (∃ c t, r' = c :: t ∧ blB c = true) ∨ ∃ j, r' = r.take j
theorem blB_an : ∀ c, blB c = true → anB c = false ∧ (c == 46) = false ∧ (c == 45) = false ∧ (c == 47) = false ∧ (c == 61) = false := by
  intro c h
  unfold blB at h
  simp only [Bool.or_eq_true, beq_iff_eq] at h
  rcases h with ((h | h) | h) | h <;> subst h <;> decide
theorem run_stab {r r' : List UInt8} (hR : Ends r r') : ∀ x : List UInt8, runL (x ++ r) = x.length → runL (x ++ r') = x.length
  | [], h => by
    simp only [List.nil_append, List.length_nil] at h ⊢
    rcases hR with rfl | ⟨c, t, rfl, hc⟩ | ⟨j, rfl⟩
    · rfl
    · rw [runL, if_neg (by rw [(blB_an c hc).1]; decide)]
    · cases r with
      | nil => rw [List.take_nil]; rfl
      | cons b r =>
        cases j with
        | zero => rfl
        | succ j =>
          rw [List.take_succ_cons]
          rw [runL] at h ⊢
          split at h
          · omega
          · rename_i hb; rw [if_neg hb]
  | b :: x, h => by
    simp only [List.cons_append, List.length_cons] at h ⊢
    rw [runL] at h ⊢
    split at h
    · rename_i hb
      rw [if_pos hb, run_stab hR x (by omega)]
    · omega
theorem num_stab {r r' : List UInt8} (hR : Ends r r') : ∀ x : List UInt8, numL (x ++ r) = x.length → numL (x ++ r') = x.length
  | [], h => by
    simp only [List.nil_append, List.length_nil] at h ⊢
    rcases hR with rfl | ⟨c, t, rfl, hc⟩ | ⟨j, rfl⟩
    · rfl
    · rw [numL, (blB_an c hc).1, (blB_an c hc).2.1]; rfl
    · cases r with
      | nil => rw [List.take_nil]; rfl
      | cons b r =>
        cases j with
        | zero => rfl
        | succ j =>
          rw [List.take_succ_cons]
          rw [numL] at h ⊢
          split at h
          · omega
          · rename_i hb
            rw [if_neg]
            intro z
            refine hb ?_
            simp only [Bool.or_eq_true, Bool.and_eq_true] at z ⊢
            rcases z with z | ⟨z1, z2⟩
            · exact .inl z
            · refine .inr ⟨z1, ?_⟩
              cases r with
              | nil => rw [List.take_nil] at z2; exact z2
              | cons c r => cases j with
                | zero => simp [hdD] at z2
                | succ j => exact z2
  | b :: x, h => by
    simp only [List.cons_append, List.length_cons] at h ⊢
    rw [numL] at h ⊢
    split at h
    · rename_i hb
      have hx : numL (x ++ r) = x.length := by omega
      rw [if_pos, num_stab hR x hx]
      simp only [Bool.or_eq_true, Bool.and_eq_true] at hb ⊢
      rcases hb with hb | ⟨h1, h2⟩
      · exact .inl hb
      · refine .inr ⟨h1, ?_⟩
        cases x with
        | nil =>
          simp only [List.nil_append, List.length_nil] at hx h2
          cases r with
          | nil => simp [hdD] at h2
          | cons c r =>
            have : dgB c = true := h2
            rw [numL, if_pos (by unfold anB; rw [this]; simp)] at hx
            omega
        | cons c x => exact h2
    · omega
theorem idx_stab : ∀ (x r r' : List UInt8) (c : UInt8) (j : Nat), Lib.indexByte (x ++ r) c = j → j < x.length → Lib.indexByte (x ++ r') c = j
  | [], _, _, _, _, _, h => by simp at h
  | b :: x, r, r', c, j, h, hj => by
    simp only [List.cons_append] at h ⊢
    rw [Lib.indexByte] at h ⊢
    by_cases hb : (b == c) = true
    · rw [if_pos hb] at h ⊢; exact h
    · rw [if_neg hb] at h ⊢
      by_cases h2 : (Lib.indexByte (x ++ r) c == -1) = true
      · rw [if_pos h2] at h; omega
      · rw [if_neg h2] at h
        cases j with
        | zero =>
          have := Lib.indexByte_ge (x ++ r) c
          simp only [beq_iff_eq] at h2
          omega
        | succ j =>
          simp only [List.length_cons] at hj
          have := idx_stab x r r' c j (by omega) (by omega)
          rw [this, if_neg (by simp only [beq_iff_eq]; omega)]
          omega
theorem take_app (x r : List UInt8) (n : Nat) (h : n = x.length) : (x ++ r).take n = x := by subst h; exact List.take_left
theorem sign_stab {r r' : List UInt8} (hR : Ends r r') (b : UInt8) (x : List UInt8) (h : signN (b :: (x ++ r)) = x.length + 1) : signN (b :: (x ++ r')) = x.length + 1 := by
  match x, h with
  | [], h =>
    simp only [List.nil_append, List.length_nil] at h ⊢
    rcases hR with rfl | ⟨c, t, rfl, hc⟩ | ⟨j, rfl⟩
    · rfl
    · have hz := blB_an c hc
      rw [show signN (b :: c :: t) = if twoB b c = true then 2 else 1 from rfl, if_neg]
      unfold twoB
      rw [hz.2.1, hz.2.2.2.1, hz.2.2.2.2]
      simp
    · cases r with
      | nil => rw [List.take_nil]; rfl
      | cons c r => cases j with
        | zero => rfl
        | succ j =>
          rw [List.take_succ_cons]
          rw [show signN (b :: c :: r) = if twoB b c = true then 2 else 1 from rfl] at h
          rw [show signN (b :: c :: r.take j) = if twoB b c = true then 2 else 1 from rfl]
          exact h
  | [c], h =>
    simp only [List.cons_append, List.nil_append] at h ⊢
    rw [show signN (b :: c :: r) = if twoB b c = true then 2 else 1 from rfl] at h
    rw [show signN (b :: c :: r') = if twoB b c = true then 2 else 1 from rfl]
    exact h
  | c :: d :: x, h =>
    exfalso
    simp only [List.cons_append, List.length_cons] at h
    rw [show signN (b :: c :: (d :: (x ++ r))) = if twoB b c = true then 2 else 1 from rfl] at h
    split at h <;> omega
/-- a token is the same whatever stands behind it, as long as that ends it -/
theorem one_stab {r r' : List UInt8} (hR : Ends r r') (x : List UInt8) (he : (oneL (x ++ r)).2.1 = 0) (hn : (oneL (x ++ r)).1 = x.length) : oneL (x ++ r') = oneL (x ++ r) := by
  have hb1 := (oneL_bd _ he).1
  cases x with
  | nil => rw [hn] at hb1; simp at hb1
  | cons b x =>
    simp only [List.cons_append] at he hn ⊢
    unfold oneL at he hn ⊢
    simp only at he hn ⊢
    by_cases c1 : alB b = true
    · simp only [if_pos c1] at he hn ⊢
      have h' := run_stab hR (b :: x) hn
      simp only [List.cons_append] at h'
      rw [h', hn]
      rw [show b :: (x ++ r') = (b :: x) ++ r' from rfl, show b :: (x ++ r) = (b :: x) ++ r from rfl, take_app _ r' _ rfl, take_app _ r _ rfl]
    · simp only [if_neg c1] at he hn ⊢
      by_cases c2 : dgB b = true
      · simp only [if_pos c2] at he hn ⊢
        have h' := num_stab hR (b :: x) hn
        simp only [List.cons_append] at h'
        rw [h', hn]
        rw [show b :: (x ++ r') = (b :: x) ++ r' from rfl, show b :: (x ++ r) = (b :: x) ++ r from rfl, take_app _ r' _ rfl, take_app _ r _ rfl]
      · simp only [if_neg c2] at he hn ⊢
        by_cases c3 : (b == 34) = true
        · simp only [if_pos c3] at he hn ⊢
          have h' : quoteN (b :: (x ++ r')) = (b :: x).length := by
            unfold quoteN at hn ⊢
            simp only [List.drop_one, List.tail_cons] at hn ⊢
            by_cases hi : Lib.indexByte (x ++ r) 34 < 0
            · exfalso
              rw [if_pos hi] at hn
              have hx : x = [] := by
                cases x with
                | nil => rfl
                | cons _ _ => simp at hn
              subst hx
              unfold quoteN at he
              simp only [List.drop_one, List.tail_cons] at he
              rw [if_pos hi] at he
              have : quoL ((b :: ([] ++ r)).take 1) = none := by
                unfold quoL
                rw [if_pos (.inl (by simp))]
              rw [this] at he
              simp [unqR] at he
            · rw [if_neg hi] at hn
              obtain ⟨j, hj⟩ := Int.eq_ofNat_of_zero_le (Int.not_lt.1 hi)
              rw [hj] at hn
              have hjx : j + 2 = x.length + 1 := by simp only [List.length_cons] at hn; omega
              have h2 := idx_stab x r r' 34 j hj (by omega)
              rw [h2, if_neg (by omega)]
              simp only [List.length_cons]; omega
          rw [h', hn]
          rw [show b :: (x ++ r') = (b :: x) ++ r' from rfl, show b :: (x ++ r) = (b :: x) ++ r from rfl, take_app _ r' _ rfl, take_app _ r _ rfl]
        · simp only [if_neg c3] at he hn ⊢
          by_cases c4 : sgB b = true
          · simp only [if_pos c4] at he hn ⊢
            have h' := sign_stab hR b x hn
            rw [h', hn]
            have t1 : (b :: (x ++ r')).take (x.length + 1) = b :: x := take_app (b :: x) r' _ rfl
            have t2 : (b :: (x ++ r)).take (b :: x).length = b :: x := take_app (b :: x) r _ rfl
            rw [t1, t2]
            rfl
          · simp only [if_neg c4] at he
            cases he
theorem blank_0 (b : UInt8) (l : List UInt8) : blankN false (b :: l) = 0 ↔ blB b = false ∧ ¬ (b = 45 ∧ l.head? = some 45) := by
  have e : (b = 32 ∨ b = 9 ∨ b = 10 ∨ b = 13) ↔ blB b = true := by unfold blB; simp [or_assoc]
  rw [blankN]
  by_cases h : b = 32 ∨ b = 9 ∨ b = 10 ∨ b = 13
  · rw [if_pos h]
    constructor
    · intro z; omega
    · intro z; rw [e.1 h] at z; cases z.1
  · rw [if_neg h]
    have hb : blB b = false := Bool.eq_false_iff.mpr fun z => h (e.2 z)
    by_cases h2 : b = 45 ∧ l.head? = some 45
    · rw [if_pos h2]
      constructor
      · intro z; omega
      · intro z; exact absurd h2 z.2
    · rw [if_neg h2]
      exact ⟨fun _ => ⟨hb, h2⟩, fun _ => rfl⟩
theorem blank_stab {r r' : List UInt8} (hR : Ends r r') (x : List UInt8) (hx : x ≠ []) (h : blankN false (x ++ r) = 0) : blankN false (x ++ r') = 0 := by
  match x, hx with
  | b :: c :: x, _ =>
    simp only [List.cons_append] at h ⊢
    rw [blank_0] at h ⊢
    exact h
  | [b], _ =>
    simp only [List.cons_append, List.nil_append] at h ⊢
    rw [blank_0] at h ⊢
    refine ⟨h.1, fun z => ?_⟩
    rcases hR with rfl | ⟨c, t, rfl, hc⟩ | ⟨j, rfl⟩
    · simp at z
    · have := (blB_an c hc).2.2.1
      have z2 := z.2
      simp only [List.head?_cons, Option.some.injEq] at z2
      rw [z2] at this; cases this
    · refine h.2 ⟨z.1, ?_⟩
      have z2 := z.2
      rw [List.head?_take] at z2
      split at z2
      · cases z2
      · exact z2
end Go.Proofs.YtpemgladmnbfhaaDoor.PL
