/- Tokens that are the same again: among other blanks, in a part of a source. Plain lists. -/
import Derived.Test.YtpemgladmnbfhaaDoorPD
set_option linter.unusedVariables false
set_option linter.unusedSimpArgs false
namespace Go.Proofs.YtpemgladmnbfhaaDoor.PL
open Go.RowKit Go.Proofs.YtpemgladmnbfhaaDoor.QL Go.Proofs.YtpemgladmnbfhaaDoor.Wd Go.Proofs.YtpemgladmnbfhaaDoorW.PrintWords
/-- two lists of tokens are the same (p: their places, too) -/
def RelL (p : Bool) : List S35 → List S35 → Prop
  | [], [] => True
  | x :: xs, y :: ys => tokSame p x y = true ∧ RelL p xs ys
  | _, _ => False
theorem tok_refl (p : Bool) (x : S35) : tokSame p x x = true := by unfold tokSame; cases p <;> simp
theorem rel_refl (p : Bool) : ∀ l, RelL p l l
  | [] => trivial
  | x :: l => ⟨tok_refl p x, rel_refl p l⟩
theorem rel_len {p : Bool} : ∀ {a b : List S35}, RelL p a b → a.length = b.length
  | [], [], _ => rfl
  | x :: a, y :: b, h => by simp [rel_len h.2]
  | [], _ :: _, h => h.elim
  | _ :: _, [], h => h.elim
theorem rel_at {p : Bool} : ∀ {a b : List S35}, RelL p a b → ∀ i, i < a.length → tokSame p (a.getD i z35) (b.getD i z35) = true
  | [], _, _, i, h => by simp at h
  | x :: a, y :: b, h, 0, _ => h.1
  | x :: a, y :: b, h, i + 1, hi => rel_at h.2 i (by simpa using hi)
  | _ :: _, [], h, _, _ => h.elim
theorem same_l0 {p : Bool} {a b : List S35} (h : RelL p a b) (hl : a.length ≤ 140737488351232) : ∀ (d i k : Nat), a.length - i = d → i ≤ a.length → d < k → heirloomref07_Same.l0 k a b p (i : Int) = some true
  | 0, i, k, hd, hi, hk => by
    obtain ⟨k, rfl⟩ : ∃ m, k = m + 1 := ⟨k - 1, by omega⟩
    rw [heirloomref07_Same.l0, if_neg (by omega)]
  | d + 1, i, k, hd, hi, hk => by
    obtain ⟨k, rfl⟩ : ∃ m, k = m + 1 := ⟨k - 1, by omega⟩
    have := rel_len h
    rw [heirloomref07_Same.l0, if_pos (by omega), if_pos (by omega), if_pos (by omega)]
    have ht : tokSame p (rd_T35 a (i : Int)) (rd_T35 b (i : Int)) = true := rel_at h i (by omega)
    rw [if_pos ht, w64 (by omega)]
    exact same_l0 h hl d (i + 1) k (by omega) (by omega) (by omega)
theorem same_f {p : Bool} {a b : List S35} (h : RelL p a b) (hl : a.length ≤ 140737488351232) (k : Nat) (hk : a.length < k) : heirloomref07_Same.f k a b p = some true := by
  unfold heirloomref07_Same.f
  have := rel_len h
  rw [if_pos (by omega)]
  exact same_l0 h hl a.length 0 k (by omega) (by omega) hk
/-- one token, and what is behind it -/
theorem lexP_cons {f : Nat} {b : UInt8} {r : List UInt8} {p : Nat} (h : (lexP (f + 1) (b :: r) p).2.2 = 0) :
    (oneL (b :: r)).2.1 = 0 ∧ (lexP f ((b :: r).drop ((oneL (b :: r)).1 + blankN false ((b :: r).drop (oneL (b :: r)).1))) (p + (oneL (b :: r)).1 + blankN false ((b :: r).drop (oneL (b :: r)).1))).2.2 = 0 ∧
    lexP (f + 1) (b :: r) p = (tokL (b :: r) p :: (lexP f ((b :: r).drop ((oneL (b :: r)).1 + blankN false ((b :: r).drop (oneL (b :: r)).1))) (p + (oneL (b :: r)).1 + blankN false ((b :: r).drop (oneL (b :: r)).1))).1, 0, 0) := by
  rw [lexP] at h ⊢
  by_cases he : (oneL (b :: r)).2.1 = 0
  · rw [if_pos he] at h ⊢
    split at h
    · rename_i hz; rw [if_pos hz]; exact ⟨he, hz, rfl⟩
    · rename_i hz; exact absurd h hz
  · rw [if_neg he] at h; exact absurd h he
theorem lexP_make {f : Nat} {l : List UInt8} {p n m : Nat} (hl : l ≠ []) (he : (oneL l).2.1 = 0) (hn : (oneL l).1 = n) (hm : blankN false (l.drop n) = m) (hz : (lexP f (l.drop (n + m)) (p + n + m)).2.2 = 0) :
    lexP (f + 1) l p = (tokL l p :: (lexP f (l.drop (n + m)) (p + n + m)).1, 0, 0) := by
  cases l with
  | nil => exact absurd rfl hl
  | cons b r => subst hn; subst hm; rw [lexP, if_pos he, if_pos hz]
/-- blanks that may stand between two tokens -/
def Blk (B : List UInt8) : Prop := (∃ c t, B = c :: t ∧ blB c = true) ∧ ∀ l, blankN false (B ++ l) = B.length + blankN false l
def okB : List (List UInt8) → Prop
  | [] => True
  | [B] => B = [] ∨ Blk B
  | B :: Bs => Blk B ∧ okB Bs
theorem okB_cons {B : List UInt8} {Bs : List (List UInt8)} (h : okB (B :: Bs)) : (Blk B ∨ (B = [] ∧ Bs = [])) ∧ okB Bs := by
  cases Bs with
  | nil => exact ⟨h.elim (fun z => .inr ⟨z, rfl⟩) .inl, trivial⟩
  | cons C Cs => exact ⟨.inl h.1, h.2⟩
/-- tokens' texts with blanks behind each -/
def weave : List (List UInt8) → List (List UInt8) → List UInt8
  | x :: xs, B :: Bs => x ++ (B ++ weave xs Bs)
  | _, _ => []
theorem drop_app (x r : List UInt8) (n : Nat) (h : n = x.length) : (x ++ r).drop n = r := by subst h; exact List.drop_left
theorem rebuild : ∀ (f : Nat) (l : List UInt8) (p : Nat), (lexP f l p).2.2 = 0 → l.length < f → blankN false l = 0 → ∀ Bs, Bs.length = (lexP f l p).1.length → okB Bs →
    blankN false (weave ((lexP f l p).1.map fun t => bs t.f1) Bs) = 0 ∧ ∀ (f' p' : Nat), (weave ((lexP f l p).1.map fun t => bs t.f1) Bs).length < f' →
      (lexP f' (weave ((lexP f l p).1.map fun t => bs t.f1) Bs) p').2.2 = 0 ∧ RelL false (lexP f l p).1 (lexP f' (weave ((lexP f l p).1.map fun t => bs t.f1) Bs) p').1
  | 0, l, p, _, h, _, _, _, _ => by omega
  | f + 1, [], p, _, _, _, Bs, _, _ => by
    refine ⟨rfl, fun f' p' hf => ?_⟩
    cases f' with
    | zero => simp at hf
    | succ f' => exact ⟨rfl, trivial⟩
  | f + 1, b :: r, p, h, hf, hb, Bs, hlen, hok => by
    obtain ⟨he, hz, heq⟩ := lexP_cons h
    obtain ⟨hn1, hn2⟩ := oneL_bd _ he
    generalize hn : (oneL (b :: r)).1 = n at *
    generalize hm : blankN false ((b :: r).drop n) = m at *
    rw [heq] at hlen ⊢
    cases Bs with
    | nil => simp at hlen
    | cons B Bs =>
      obtain ⟨hB, hok'⟩ := okB_cons hok
      simp only [List.length_cons] at hlen
      have hl' : blankN false ((b :: r).drop (n + m)) = 0 := by rw [← List.drop_drop, ← hm]; exact blank_idem _ false
      obtain ⟨ih1, ih2⟩ := rebuild f ((b :: r).drop (n + m)) (p + n + m) hz (by rw [List.length_drop]; omega) hl' Bs (by omega) hok'
      generalize hT' : weave ((lexP f ((b :: r).drop (n + m)) (p + n + m)).1.map fun t => bs t.f1) Bs = T' at *
      have hx : (b :: r).take n ++ (b :: r).drop n = b :: r := List.take_append_drop _ _
      have hxl : ((b :: r).take n).length = n := by rw [List.length_take]; omega
      have hxne : (b :: r).take n ≠ [] := by intro z; rw [z] at hxl; simp at hxl; omega
      have ht : bs (tokL (b :: r) p).f1 = (b :: r).take n := by unfold tokL; rw [hn, bs_tx]
      have hT : weave (((tokL (b :: r) p) :: (lexP f ((b :: r).drop (n + m)) (p + n + m)).1).map fun t => bs t.f1) (B :: Bs) = (b :: r).take n ++ (B ++ T') := by
        rw [List.map_cons, weave, ht, hT']
      have hE : Ends ((b :: r).drop n) (B ++ T') := by
        rcases hB with ⟨⟨c, t, rfl, hc⟩, _⟩ | ⟨rfl, rfl⟩
        · exact .inr (.inl ⟨c, t ++ T', rfl, hc⟩)
        · left
          rw [← hT']
          cases (lexP f ((b :: r).drop (n + m)) (p + n + m)).1.map fun t => bs t.f1 <;> rfl
      have hone : oneL ((b :: r).take n ++ (B ++ T')) = oneL (b :: r) := by
        rw [← hx] at he hn
        have := one_stab hE ((b :: r).take n) he (by rw [hn, hxl])
        rwa [hx] at this
      have hbB : blankN false (B ++ T') = B.length := by
        rcases hB with ⟨_, hB⟩ | ⟨rfl, rfl⟩
        · rw [hB, ih1]; rfl
        · exact ih1
      rw [hT]
      refine ⟨blank_stab hE _ hxne (by rw [hx]; exact hb), fun f' p' hf' => ?_⟩
      cases f' with
      | zero => simp at hf'
      | succ f' =>
        have hdrop : ((b :: r).take n ++ (B ++ T')).drop n = B ++ T' := drop_app _ _ _ hxl.symm
        have hdrop2 : ((b :: r).take n ++ (B ++ T')).drop (n + B.length) = T' := by rw [← List.drop_drop, hdrop, List.drop_left]
        have hlT : T'.length < f' := by
          rw [List.length_append, List.length_append, hxl] at hf'; omega
        obtain ⟨i1, i2⟩ := ih2 f' (p' + n + B.length) hlT
        have hmk := lexP_make (f := f') (l := (b :: r).take n ++ (B ++ T')) (p := p') (n := n) (m := B.length) (by intro z; exact hxne (List.append_eq_nil_iff.1 z).1) (by rw [hone]; exact he) (by rw [hone]; exact hn) (by rw [hdrop]; exact hbB) (by rw [hdrop2]; exact i1)
        rw [hmk, hdrop2]
        refine ⟨rfl, ?_, i2⟩
        unfold tokL tokSame
        rw [if_neg (by decide), hone, hn]
        have : ((b :: r).take n ++ (B ++ T')).take n = (b :: r).take n := take_app _ _ _ hxl.symm
        rw [this]
        simp
/-- where tokens stand does not matter -/
theorem shift : ∀ (f : Nat) (l : List UInt8) (p : Nat), (lexP f l p).2.2 = 0 → l.length < f → ∀ f' q, l.length < f' → (lexP f' l q).2.2 = 0 ∧ RelL false (lexP f' l q).1 (lexP f l p).1
  | 0, l, p, _, h, _, _, _ => by omega
  | f + 1, [], p, _, _, f', q, hf' => by
    cases f' with
    | zero => simp at hf'
    | succ f' => exact ⟨rfl, trivial⟩
  | f + 1, b :: r, p, h, hf, f', q, hf' => by
    obtain ⟨he, hz, heq⟩ := lexP_cons h
    obtain ⟨hn1, hn2⟩ := oneL_bd _ he
    cases f' with
    | zero => simp at hf'
    | succ f' =>
      simp only [List.length_cons] at hf hf' hn2
      obtain ⟨i1, i2⟩ := shift f _ _ hz (by rw [List.length_drop, List.length_cons]; omega) f' (q + (oneL (b :: r)).1 + blankN false ((b :: r).drop (oneL (b :: r)).1)) (by rw [List.length_drop, List.length_cons]; omega)
      have hmk := lexP_make (f := f') (l := b :: r) (p := q) (by simp) he rfl rfl i1
      rw [hmk, heq]
      refine ⟨rfl, ?_, i2⟩
      unfold tokL tokSame
      rw [if_neg (by decide)]
      simp
/-- a source that is cut at a token's beginning -/
theorem parts : ∀ (f : Nat) (l : List UInt8) (p : Nat), (lexP f l p).2.2 = 0 → l.length < f → blankN false l = 0 → ∀ k, k < (lexP f l p).1.length →
    ∃ o, o ≤ l.length ∧ ((lexP f l p).1.getD k z35).f4 = ((p + o : Nat) : Int) ∧ blankN false (l.drop o) = 0 ∧
      (∀ f' q, (l.drop o).length < f' → (lexP f' (l.drop o) q).2.2 = 0 ∧ RelL false (lexP f' (l.drop o) q).1 ((lexP f l p).1.drop k)) ∧
      (∀ f', (l.take o).length < f' → lexP f' (l.take o) p = ((lexP f l p).1.take k, 0, 0))
  | 0, l, p, _, h, _, _, _ => by omega
  | f + 1, [], p, _, _, _, k, hk => by simp [lexP] at hk
  | f + 1, b :: r, p, h, hf, hb, 0, hk => by
    obtain ⟨he, hz, heq⟩ := lexP_cons h
    refine ⟨0, Nat.zero_le _, ?_, by rw [List.drop_zero]; exact hb, fun f' q hf' => ?_, fun f' hf' => ?_⟩
    · rw [heq]; rfl
    · rw [List.drop_zero, List.drop_zero] at *
      exact shift (f + 1) (b :: r) p h hf f' q hf'
    · rw [List.take_zero, List.take_zero]
      cases f' with
      | zero => simp at hf'
      | succ f' => rfl
  | f + 1, b :: r, p, h, hf, hb, k + 1, hk => by
    obtain ⟨he, hz, heq⟩ := lexP_cons h
    obtain ⟨hn1, hn2⟩ := oneL_bd _ he
    rw [heq] at hk ⊢
    generalize hn : (oneL (b :: r)).1 = n at *
    generalize hm : blankN false ((b :: r).drop n) = m at *
    simp only [List.length_cons] at hk hf hn2
    have hl' : blankN false ((b :: r).drop (n + m)) = 0 := by rw [← List.drop_drop, ← hm]; exact blank_idem _ false
    have hmle := blankN_le ((b :: r).drop n) false
    rw [hm, List.length_drop, List.length_cons] at hmle
    obtain ⟨o, o1, o2, o3, o4, o5⟩ := parts f ((b :: r).drop (n + m)) (p + n + m) hz (by rw [List.length_drop, List.length_cons]; omega) hl' k (by omega)
    rw [List.length_drop, List.length_cons] at o1
    refine ⟨n + m + o, by rw [List.length_cons]; omega, ?_, by rw [← List.drop_drop]; exact o3, ?_, ?_⟩
    · simp only [List.getD_cons_succ]
      rw [o2]; congr 1; omega
    · intro f' q hf'
      rw [← List.drop_drop] at hf' ⊢
      exact o4 f' q hf'
    · intro f' hf'
      cases f' with
      | zero => simp at hf'
      | succ f' =>
        have hx : (b :: r).take n ++ (b :: r).drop n = b :: r := List.take_append_drop _ _
        have hxl : ((b :: r).take n).length = n := by rw [List.length_take, List.length_cons]; omega
        have hcut : (b :: r).take (n + m + o) = (b :: r).take n ++ ((b :: r).drop n).take (m + o) := by
          rw [Nat.add_assoc, List.take_add]
        have hE : Ends ((b :: r).drop n) (((b :: r).drop n).take (m + o)) := .inr (.inr ⟨m + o, rfl⟩)
        have hone : oneL ((b :: r).take (n + m + o)) = oneL (b :: r) := by
          rw [hcut]
          rw [← hx] at he hn
          have := one_stab hE ((b :: r).take n) he (by rw [hn, hxl])
          rwa [hx] at this
        have hd1 : ((b :: r).take (n + m + o)).drop n = ((b :: r).drop n).take (m + o) := by
          rw [List.drop_take]; congr 1; omega
        have hd2 : ((b :: r).take (n + m + o)).drop (n + m) = ((b :: r).drop (n + m)).take o := by
          rw [List.drop_take]; congr 1; omega
        have hbk : blankN false (((b :: r).drop n).take (m + o)) = m := by rw [blank_take _ _ _ (by omega), hm]
        have hlen : (((b :: r).drop (n + m)).take o).length < f' := by
          rw [List.length_take, List.length_cons] at hf'
          rw [List.length_take, List.length_drop, List.length_cons]; omega
        have hrec := o5 f' hlen
        have hmk := lexP_make (f := f') (l := (b :: r).take (n + m + o)) (p := p) (n := n) (m := m) (by intro z; have := congrArg List.length z; rw [List.length_take, List.length_cons] at this; simp at this; omega) (by rw [hone]; exact he) (by rw [hone]; exact hn) (by rw [hd1]; exact hbk) (by rw [hd2, hrec])
        rw [hmk, hd2, hrec]
        have ht : tokL ((b :: r).take (n + m + o)) p = tokL (b :: r) p := by
          unfold tokL
          rw [hone, hn]
          have : ((b :: r).take (n + m + o)).take n = (b :: r).take n := by rw [List.take_take, Nat.min_eq_left (by omega)]
          rw [this]
        rw [ht, List.take_succ_cons]
theorem lexP_len : ∀ (f : Nat) (l : List UInt8) (p : Nat), (lexP f l p).1.length ≤ l.length
  | 0, _, _ => by simp [lexP]
  | f + 1, [], _ => by simp [lexP]
  | f + 1, b :: r, p => by
    by_cases h : (lexP (f + 1) (b :: r) p).2.2 = 0
    · obtain ⟨he, hz, heq⟩ := lexP_cons h
      obtain ⟨hn1, hn2⟩ := oneL_bd _ he
      have ih := lexP_len f ((b :: r).drop ((oneL (b :: r)).1 + blankN false ((b :: r).drop (oneL (b :: r)).1))) (p + (oneL (b :: r)).1 + blankN false ((b :: r).drop (oneL (b :: r)).1))
      rw [List.length_drop] at ih
      rw [heq]
      simp only [List.length_cons] at ih hn2 ⊢
      omega
    · rw [lexP_bad _ _ _ h]; simp
theorem all_ok {l : List UInt8} (h : (lexAll l).2.2 = 0) : l.length ≤ 8192 ∧ lexAll l = lexP (l.length + 1) (l.drop (blankN false l)) (blankN false l) := by
  unfold lexAll at h ⊢
  split at h
  · cases h
  · rename_i hl; rw [if_neg hl]; exact ⟨by omega, rfl⟩
theorem all_len (l : List UInt8) : (lexAll l).1.length ≤ l.length := by
  unfold lexAll
  split
  · simp
  · have := lexP_len (l.length + 1) (l.drop (blankN false l)) (blankN false l)
    rw [List.length_drop] at this; omega
end Go.Proofs.YtpemgladmnbfhaaDoor.PL
