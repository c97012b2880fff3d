/- Tokens' texts, joined and among blanks. Plain lists. -/
import Derived.Test.YtpemgladmnbfhaaDoorPE
import Derived.Lib.Join
set_option linter.unusedVariables false
set_option linter.unusedSimpArgs false
namespace Go.Proofs.YtpemgladmnbfhaaDoor.PL
open Go.RowKit Go.Proofs.YtpemgladmnbfhaaDoor.QL Go.Proofs.YtpemgladmnbfhaaDoor.Wd Go.Proofs.YtpemgladmnbfhaaDoorW.PrintWords
abbrev texts (l : List S35) : List (List UInt8) := l.map fun t => bs t.f1
theorem lexP_texts : ∀ (f : Nat) (l : List UInt8) (p : Nat), ∀ x ∈ texts (lexP f l p).1, x.length ≤ l.length
  | 0, _, _ => by simp [lexP]
  | f + 1, [], _ => by simp [lexP]
  | f + 1, b :: r, p => by
    by_cases h : (lexP (f + 1) (b :: r) p).2.2 = 0
    · obtain ⟨he, hz, heq⟩ := lexP_cons h
      rw [heq]
      intro x hx
      simp only [texts, List.map_cons, List.mem_cons] at hx
      rcases hx with rfl | hx
      · unfold tokL; rw [bs_tx, List.length_take]; omega
      · have := lexP_texts f _ _ x hx
        rw [List.length_drop] at this; omega
    · rw [lexP_bad _ _ _ h]; simp
theorem all_texts (l : List UInt8) : ∀ x ∈ texts (lexAll l).1, x.length ≤ l.length := by
  unfold lexAll
  split
  · simp
  · intro x hx
    have := lexP_texts _ _ _ x hx
    rw [List.length_drop] at this; omega
theorem weave_len (M : Nat) : ∀ (xs Bs : List (List UInt8)), (∀ x ∈ xs, x.length ≤ M) → (∀ B ∈ Bs, B.length ≤ 10) → (weave xs Bs).length ≤ xs.length * (M + 10)
  | [], _, _, _ => by simp [weave]
  | x :: xs, [], _, _ => by simp [weave]
  | x :: xs, B :: Bs, hx, hB => by
    have h1 := hx x (List.mem_cons_self ..)
    have h2 := hB B (List.mem_cons_self ..)
    have ih := weave_len M xs Bs (fun y hy => hx y (List.mem_cons_of_mem _ hy)) (fun y hy => hB y (List.mem_cons_of_mem _ hy))
    rw [weave, List.length_append, List.length_append, List.length_cons, Nat.succ_mul]
    omega
theorem blk_sp : Blk [32] := ⟨⟨32, [], rfl, by decide⟩, fun l => by
  show blankN false (32 :: l) = _
  rw [blankN, if_pos (by decide)]; rfl⟩
def seps : Nat → List (List UInt8)
  | 0 => []
  | 1 => [[]]
  | n + 2 => [32] :: seps (n + 1)
theorem seps_len : ∀ n, (seps n).length = n
  | 0 => rfl
  | 1 => rfl
  | n + 2 => by rw [seps, List.length_cons, seps_len (n + 1)]
theorem seps_ok : ∀ n, okB (seps n)
  | 0 => trivial
  | 1 => .inl rfl
  | 2 => ⟨blk_sp, .inl rfl⟩
  | n + 3 => ⟨blk_sp, seps_ok (n + 2)⟩
theorem seps_small : ∀ n, ∀ B ∈ seps n, B.length ≤ 10
  | 0, B, h => by simp [seps] at h
  | 1, B, h => by simp [seps] at h; subst h; simp
  | n + 2, B, h => by
    rw [seps, List.mem_cons] at h
    rcases h with rfl | h
    · simp
    · exact seps_small (n + 1) B h
theorem weave_join : ∀ xs : List (List UInt8), weave xs (seps xs.length) = Lib.join xs [32]
  | [] => rfl
  | [x] => by rw [Lib.join_one]; simp [seps, weave]
  | x :: y :: r => by
    have ih := weave_join (y :: r)
    rw [Lib.join_cons] at ih ⊢
    have e : seps (x :: y :: r).length = [32] :: seps (y :: r).length := rfl
    rw [e, weave, ih]
    rfl
theorem rd_getD (l : List S35) (i : Nat) (h : i < l.length) : (rd_T35 l (i : Int)).f1 = l[i].f1 := by
  show (l.getD i z35).f1 = _
  simp only [List.getD, List.getElem?_eq_getElem h, Option.getD_some]
end Go.Proofs.YtpemgladmnbfhaaDoor.PL
