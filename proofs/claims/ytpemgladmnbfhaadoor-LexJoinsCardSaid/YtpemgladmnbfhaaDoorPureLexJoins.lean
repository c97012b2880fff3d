/- Tokens joined, and a word: as the reference does. For all tokens and every text. -/
import Derived.Test.YtpemgladmnbfhaaDoorPD
import Derived.Test.YtpemgladmnbfhaaDoorQLx17
import Derived.Deep.Slices
import Derived.SizedLaws
set_option linter.unusedVariables false
set_option linter.unusedSimpArgs false
namespace Go.Proofs.YtpemgladmnbfhaaDoor.Pure
open Go.RowKit Go.Proofs.YtpemgladmnbfhaaDoor.QL Go.Proofs.YtpemgladmnbfhaaDoor.PL Go.Proofs.YtpemgladmnbfhaaDoor.Wd Go.Proofs.YtpemgladmnbfhaaDoorW.PrintWords
abbrev texts (l : List S35) : List (List UInt8) := l.map fun t => bs t.f1
theorem rd_getD (l : List S35) (i : Nat) (h : i < l.length) : (rd_T35 l (i : Int)).f1 = l[i].f1 := by
  show (l.getD i z35).f1 = _
  simp only [List.getD, List.getElem?_eq_getElem h, Option.getD_some]
theorem rd_get (W : List ByteArray) (i : Nat) (h : i < W.length) : rdOf ByteArray.empty W (i : Int) = W[i] := by
  unfold rdOf
  rw [Int.toNat_natCast, List.getD_eq_getElem?_getD, List.getElem?_eq_getElem h]; rfl
theorem word_l0 (t : ByteArray) (W : List ByteArray) (hW : W.length ≤ 1000) : ∀ (d i k : Nat), W.length - i = d → i ≤ W.length → d < k → heirloomref07_Word.l0 k t W (i : Int) = some (decide (t.data.toList ∈ (W.drop i).map (·.data.toList)))
  | 0, i, k, hd, hi, hk => by
    obtain ⟨k, rfl⟩ : ∃ m, k = m + 1 := ⟨k - 1, by omega⟩
    rw [heirloomref07_Word.l0, if_neg (by omega), List.drop_of_length_le (by omega)]; simp
  | d + 1, i, k, hd, hi, hk => by
    obtain ⟨k, rfl⟩ : ∃ m, k = m + 1 := ⟨k - 1, by omega⟩
    have hil : i < W.length := by omega
    rw [heirloomref07_Word.l0, if_pos (by omega), if_pos (by omega), rd_get W i hil, toList_bs, toList_bs, List.drop_eq_getElem_cons hil]
    by_cases c : bs W[i] = bs t
    · rw [if_pos c]
      congr 1
      symm
      rw [decide_eq_true_iff, List.map_cons]
      exact List.mem_cons.2 (.inl c.symm)
    · rw [if_neg c, w64 (by omega), word_l0 t W hW d (i + 1) k (by omega) (by omega) (by omega)]
      congr 1
      rw [decide_eq_decide, List.map_cons, List.mem_cons]
      exact ⟨.inr, fun z => z.resolve_left fun y => c y.symm⟩
theorem rword_f (t : ByteArray) (k : Nat) (hk : 20 ≤ k) : heirloomref07_Word.f k t = some (isWord t) := by
  have := word_l0 t theWords (by decide) 18 0 k rfl (by decide) (by omega)
  exact this
theorem jn_l0 (l : List S35) (hl : l.length ≤ 1000000) (r : ByteArray) (hr : strings_Join.f (l.map (·.f1)) ⟨#[32]⟩ = some r) : ∀ (d i k : Nat), l.length - i = d → i ≤ l.length → d < k →
    lex_Join.l0 k ((l.take i).map (·.f1)) l (l.length : Int) (i : Int) = some r
  | 0, i, k, hd, hi, hk => by
    obtain ⟨k, rfl⟩ : ∃ m, k = m + 1 := ⟨k - 1, by omega⟩
    rw [lex_Join.l0, if_neg (by omega), List.take_of_length_le (by omega), hr]; rfl
  | d + 1, i, k, hd, hi, hk => by
    obtain ⟨k, rfl⟩ : ∃ m, k = m + 1 := ⟨k - 1, by omega⟩
    rw [lex_Join.l0, if_pos (by omega), if_pos (by omega), if_pos (by omega), if_pos (by rw [List.length_map, List.length_take]; omega), rd_getD l i (by omega), w64 (by omega)]
    have e : (l.take i).map (·.f1) ++ [l[i].f1] = (l.take (i + 1)).map (·.f1) := by rw [List.take_succ_eq_append_getElem (by omega), List.map_append]; rfl
    rw [e]
    exact jn_l0 l hl r hr d (i + 1) k (by omega) (by omega) (by omega)
theorem jn_f (l : List S35) (hl : l.length ≤ 1000000) (hz : (Lib.join (texts l) [32]).length ≤ 140737488355328) (k : Nat) (hk : l.length < k) : lex_Join.f k l = some (tx (Lib.join (texts l) [32])) := by
  unfold lex_Join.f
  refine jn_l0 l hl _ ?_ l.length 0 k rfl (Nat.zero_le _) hk
  have e : ((l.map (·.f1)).map fun x => x.data.toList) = texts l := by rw [List.map_map]; rfl
  unfold strings_Join.f
  rw [e]
  show (if _ ∧ (Lib.join (texts l) [32]).length ≤ _ then some (tx (Lib.join (texts l) [32])) else none) = _
  rw [if_pos ⟨by rw [List.length_map]; omega, hz⟩]
def sumL (l : List S35) : Nat := (l.map (·.f1.size)).sum
theorem sum_snoc (l : List S35) (i : Nat) (h : i < l.length) : sumL (l.take (i + 1)) = sumL (l.take i) + l[i].f1.size := by
  unfold sumL
  rw [List.take_succ_eq_append_getElem h, List.map_append, List.sum_append]; simp
theorem sum_le (l : List S35) (hf : ∀ x ∈ l, x.f1.size ≤ 140737488351232) : sumL l ≤ l.length * 140737488351232 := by
  induction l with
  | nil => simp [sumL]
  | cons x l ih =>
    have h1 := hf x (List.mem_cons_self ..)
    have h2 := ih (fun y hy => hf y (List.mem_cons_of_mem _ hy))
    have e : sumL (x :: l) = x.f1.size + sumL l := by simp [sumL]
    rw [e, List.length_cons, Nat.add_mul]; omega
theorem joins_l0 (l : List S35) (t : ByteArray) (hf : ∀ x ∈ l, x.f1.size ≤ 140737488351232) : ∀ (d i k : Nat), 501 - i = d → i ≤ 501 → i ≤ l.length →
    ∃ k' s, k ≤ k' ∧ (l.length ≤ 500 → s = ((sumL l : Nat) : Int)) ∧ heirloomlaw07_LexJoins.l0 (k + d + 1) l t ((sumL (l.take i) : Nat) : Int) (i : Int) = heirloomlaw07_LexJoins.j1 k' l t s
  | 0, i, k, hd, hi, hil => by
    refine ⟨k, ((sumL (l.take i) : Nat) : Int), Nat.le_refl _, fun z => by omega, ?_⟩
    rw [heirloomlaw07_LexJoins.l0]
    by_cases c : i < l.length
    · rw [if_pos (by omega), if_neg (by omega)]
    · rw [if_neg (by omega)]
  | d + 1, i, k, hd, hi, hil => by
    rw [heirloomlaw07_LexJoins.l0]
    by_cases c : i < l.length
    · have h1 := sum_le (l.take i) (fun x hx => hf x (List.mem_of_mem_take hx))
      have h2 := hf l[i] (List.getElem_mem c)
      rw [List.length_take, Nat.min_eq_left hil] at h1
      have h3 : i * 140737488351232 ≤ 501 * 140737488351232 := Nat.mul_le_mul_right _ hi
      rw [if_pos (by omega), if_pos (by omega), if_pos (by omega), rd_getD l i c, w64 (by omega), w64i (by omega) (by omega)]
      have e : ((sumL (l.take i) : Nat) : Int) + (l[i].f1.size : Int) = ((sumL (l.take (i + 1)) : Nat) : Int) := by rw [sum_snoc l i c]; omega
      rw [e]
      exact joins_l0 l t hf d (i + 1) k (by omega) (by omega) c
    · rw [if_neg (by omega)]
      exact ⟨_, _, by omega, fun _ => by rw [List.take_of_length_le (by omega)], rfl⟩
theorem join_snoc (x : List UInt8) : ∀ (r : List (List UInt8)) (y : List UInt8), Lib.join (x :: (r ++ [y])) [32] = Lib.join (x :: r) [32] ++ ([32] ++ y) := by
  intro r y
  rw [Lib.join_cons, Lib.join_cons]
  unfold Lib.joinTail
  rw [List.map_append, List.flatten_append]; simp
theorem texts_len (l : List S35) : Lib.lens (texts l) = sumL l := by
  unfold Lib.lens texts sumL
  rw [List.map_map]
  congr 1
theorem join_len (l : List S35) : (Lib.join (texts l) [32]).length ≤ sumL l + l.length := by
  cases l with
  | nil => simp [Lib.join_nil, texts]
  | cons x l =>
    have e : texts (x :: l) = x.f1.data.toList :: texts l := rfl
    rw [e, Lib.join_length, ← e, texts_len]
    have : (texts l).length = l.length := List.length_map _
    rw [this]; simp; omega
theorem rjn_l0 (l : List S35) (hn : l.length ≤ 500) (hs : sumL l ≤ 20000) : ∀ (d i k : Nat), l.length - i = d → i ≤ l.length → d < k →
    heirloomref07_Join.l0 k l (tx (Lib.join (texts (l.take i)) [32])) (i : Int) = some (tx (Lib.join (texts l) [32]))
  | 0, i, k, hd, hi, hk => by
    obtain ⟨k, rfl⟩ : ∃ m, k = m + 1 := ⟨k - 1, by omega⟩
    rw [heirloomref07_Join.l0, if_neg (by omega), List.take_of_length_le (by omega)]
  | d + 1, i, k, hd, hi, hk => by
    obtain ⟨k, rfl⟩ : ∃ m, k = m + 1 := ⟨k - 1, by omega⟩
    have c : i < l.length := by omega
    have h1 := sum_snoc l i c
    have h2 : sumL (l.take (i + 1)) ≤ sumL l := by
      have e : sumL l = sumL (l.take (i + 1)) + sumL (l.drop (i + 1)) := by
        unfold sumL
        rw [← List.sum_append, ← List.map_append, List.take_append_drop]
      omega
    have h3 := join_len (l.take i)
    rw [List.length_take] at h3
    have hz : (tx (Lib.join (texts (l.take i)) [32])).size ≤ 21000 := by rw [tx_size]; omega
    have ih := rjn_l0 l hn hs d (i + 1) k (by omega) (by omega) (by omega)
    have e1 : texts (l.take (i + 1)) = texts (l.take i) ++ [l[i].f1.data.toList] := by
      unfold texts
      rw [List.take_succ_eq_append_getElem c, List.map_append]; rfl
    rw [heirloomref07_Join.l0, if_pos (by omega), rd_getD l i c, w64 (by omega)]
    have e32 : (tx (Lib.join (texts (l.take i)) [32]) ++ (⟨#[32]⟩ : ByteArray)).size = (tx (Lib.join (texts (l.take i)) [32])).size + 1 := by rw [ByteArray.size_append]; rfl
    have hsz : l[i].f1.size ≤ 20000 := by omega
    have hz1 : (tx (Lib.join (texts (l.take i)) [32]) ++ (⟨#[32]⟩ : ByteArray)).size ≤ 21001 := by rw [e32]; omega
    by_cases z : 0 < i
    · rw [if_pos (by omega), if_pos (by omega), if_pos (by omega), if_pos (by omega)]
      have e : tx (Lib.join (texts (l.take i)) [32]) ++ (⟨#[32]⟩ : ByteArray) ++ l[i].f1 = tx (Lib.join (texts (l.take (i + 1))) [32]) := by
        refine bs_inj ?_
        rw [bs_tx, e1]
        obtain ⟨x, r, hx⟩ : ∃ x r, texts (l.take i) = x :: r := by
          cases h : texts (l.take i) with
          | nil =>
            have := congrArg List.length h
            unfold texts at this
            rw [List.length_map, List.length_take] at this
            rw [List.length_nil] at this; omega
          | cons x r => exact ⟨x, r, rfl⟩
        rw [hx, List.cons_append, join_snoc]
        simp [ByteArray.data_append]
      rw [e]; exact ih
    · have z0 : i = 0 := by omega
      subst z0
      rw [if_neg (by omega), if_pos (by omega), if_pos (by omega)]
      have e : tx (Lib.join (texts (l.take 0)) [32]) ++ l[0].f1 = tx (Lib.join (texts (l.take (0 + 1))) [32]) := by
        refine bs_inj ?_
        rw [bs_tx, e1]
        simp [texts, Lib.join_nil, Lib.join_one]
      rw [e]; exact ih
theorem rjn_f (l : List S35) (hn : l.length ≤ 500) (hs : sumL l ≤ 20000) (k : Nat) (hk : l.length < k) : heirloomref07_Join.f k l = some (tx (Lib.join (texts l) [32])) :=
  rjn_l0 l hn hs l.length 0 k rfl (Nat.zero_le _) hk
theorem LexJoins (l : List S35) (t : ByteArray) (hf : ∀ x ∈ l, x.f1.size ≤ 140737488351232) (ht : t.size ≤ 140737488351232) : ∃ k, heirloomlaw07_LexJoins.f k l t = some true := by
  obtain ⟨k', s, hk, hs, e⟩ := joins_l0 l t hf 501 0 2000 rfl (by omega) (Nat.zero_le _)
  refine ⟨2000 + 501 + 1, ?_⟩
  unfold heirloomlaw07_LexJoins.f
  rw [show ((sumL (l.take 0) : Nat) : Int) = 0 from rfl, show ((0 : Nat) : Int) = 0 from rfl] at e
  rw [e]
  obtain ⟨k, rfl⟩ : ∃ m, k' = m + 2 := ⟨k' - 2, by omega⟩
  have al : heirloomlaw07_alive.f k = some true := alive_at k (by omega)
  have tr : heirloomlaw07_LexJoins.j2 (k + 1) l t true = some true := by rw [heirloomlaw07_LexJoins.j2, if_pos rfl, al]; rfl
  rw [heirloomlaw07_LexJoins.j1]
  by_cases c : (l.length : Int) > 500
  · rw [if_pos c, tr]
  · rw [if_neg c]
    by_cases d : s > 20000
    · rw [decide_eq_true d, tr]
    · have es := hs (by omega)
      have hn : l.length ≤ 500 := by omega
      have hz : sumL l ≤ 20000 := by omega
      have hj := join_len l
      rw [decide_eq_false d, heirloomlaw07_LexJoins.j2, if_neg (by decide), jn_f l (by omega) (by omega) k (by omega), rjn_f l hn hz k (by omega)]
      simp only [Option.bind_some]
      unfold lex_Word.f
      rw [if_pos trivial, if_pos ht, rword_f t k (by omega)]
      simp only [Option.bind_some, beq_self_eq_true, if_true]
      rw [al]; rfl
end Go.Proofs.YtpemgladmnbfhaaDoor.Pure
namespace Go.Proofs.YtpemgladmnbfhaaDoor.Jo
open Go Go.ChangeShapes Go.WideShapes Go.RowKit Go.Deep Go.Proofs.YtpemgladmnbfhaaDoor.QL Go.Proofs.YtpemgladmnbfhaaDoorW.PrintWords
theorem list_of_each {α : Type} (P : Nat → α → Prop) : ∀ n : Nat, (∀ i, i < n → ∃ x, P i x) → ∃ l : List α, l.length = n ∧ ∀ i (h : i < l.length), P i (l[i]'h)
  | 0, _ => ⟨[], rfl, fun i h => absurd h (Nat.not_lt_zero _)⟩
  | n + 1, h => by
    obtain ⟨l, hl, hp⟩ := list_of_each P n (fun i hi => h i (by omega))
    obtain ⟨x, hx⟩ := h n (by omega)
    refine ⟨l ++ [x], by simp [hl], fun i hi => ?_⟩
    by_cases hin : i < l.length
    · rw [List.getElem_append_left hin]; exact hp i hin
    · have : i = l.length := by simp at hi; omega
      subst this
      rw [List.getElem_append_right (Nat.le_refl _)]
      simp only [Nat.sub_self, List.getElem_cons_zero]
      rw [hl]; exact hx
section
variable {H : Type} {enc : TypeId × Value → H} {w : World} {base : Nat} {spare : Nat → Bool} {held : Bool}
theorem take_at {cs : List Value} {k : Nat} {c : Value} (h : List.take 1 (List.drop k cs) = [c]) : cs[k]? = some c := by
  have := congrArg (fun l => l[0]?) h
  simpa [List.getElem?_take, List.getElem?_drop] using this
theorem take_at' {cs : List Value} {k n i : Nat} {c : Value} (h : (List.take n (List.drop k cs))[i]? = some c) : cs[k + i]? = some c := by
  rw [List.getElem?_take] at h
  split at h
  · rwa [List.getElem?_drop] at h
  · cases h
theorem cellsOf2 : Tryd.prog.cellsOf 2 = 1 := by kernel_rfl
theorem cellsOf3 : Tryd.prog.cellsOf 3 = 1 := by kernel_rfl
theorem cellsOf9 : Tryd.prog.cellsOf 9 = 1 := by kernel_rfl
theorem take_of {cs : List Value} {t k : Nat} {c : Value} (ht : Tryd.prog.cellsOf t = 1) (h : List.take (Tryd.prog.cellsOf t) (List.drop k cs) = [c]) : cs[k]? = some c := take_at (by rw [ht] at h; exact h)
set_option maxRecDepth 100000 in
theorem open_v {fuel : Nat} {cs : List Value} {x : DataW H × List MemPlace} (h : DataW.trod enc Tryd.prog w base spare held fuel 33 cs = some x) : ∃ v : S33, cs[0]? = some (.int .i64 v.f0) ∧ cs[1]? = some (.int .i64 v.f1) := by
  obtain ⟨xs, n, _, _, _, hl, hf⟩ := DataW.trod_struct Tryd.underlying33 h
  have hl : xs.length = 2 := hl
  match xs, hl with
  | [y0, y1], _ =>
    obtain ⟨t, e0, _, wt⟩ := DataW.trod_int Tryd.underlying3 (hf 0 _ rfl)
    obtain ⟨m, e1, _, wn⟩ := DataW.trod_int Tryd.underlying2 (hf 1 _ rfl)
    exact ⟨⟨t, m⟩, take_of cellsOf3 (k := 0) e0, take_of cellsOf2 (k := 1) e1⟩
theorem cellsOf35 : Tryd.prog.cellsOf 35 = 7 := by kernel_rfl
set_option maxRecDepth 100000 in
theorem open_tok {fuel : Nat} {cs : List Value} {x : DataW H × List MemPlace} (h : DataW.trod enc Tryd.prog w base spare held fuel 35 cs = some x) (hw : ∀ n ∈ x.1.weights Tryd.prog 35, n ≤ reachBytes) :
    ∃ p : S35, cs = [.int .i64 p.f0, .string p.f1, .int .i64 p.f2.f0, .int .i64 p.f2.f1, .string p.f3, .int .i64 p.f4, .int .i64 p.f5] ∧ p.f1.size ≤ reachBytes := by
  obtain ⟨xs, n, _, rfl, hcl, hl, hf⟩ := DataW.trod_struct Tryd.underlying35 h
  have hl : xs.length = 6 := hl
  rw [cellsOf35] at hcl
  match xs, hl with
  | [y0, y1, y2, y3, y4, y5], _ =>
    obtain ⟨q0, e0, _, _⟩ := DataW.trod_int Tryd.underlying3 (hf 0 _ rfl)
    obtain ⟨q1, e1, d1, _⟩ := DataW.trod_string Tryd.underlying9 (hf 1 _ rfl)
    obtain ⟨q2, e2, e2'⟩ := open_v (hf 2 _ rfl)
    obtain ⟨q3, e3, _, _⟩ := DataW.trod_string Tryd.underlying9 (hf 3 _ rfl)
    obtain ⟨q4, e4, _, _⟩ := DataW.trod_int Tryd.underlying3 (hf 4 _ rfl)
    obtain ⟨q5, e5, _, _⟩ := DataW.trod_int Tryd.underlying3 (hf 5 _ rfl)
    have c0 := take_of cellsOf3 (k := 0) e0
    have c1 := take_of cellsOf9 (k := 1) e1
    have c2 := take_at' (k := 2) (i := 0) e2
    have c3 := take_at' (k := 2) (i := 1) e2'
    have c4 := take_of cellsOf9 (k := 4) e3
    have c5 := take_of cellsOf3 (k := 5) e4
    have c6 := take_of cellsOf3 (k := 6) e5
    refine ⟨⟨q0, q1, q2, q3, q4, q5⟩, ?_, ?_⟩
    · match cs, hcl with
      | [b0, b1, b2, b3, b4, b5, b6], _ =>
        simp at c0 c1 c2 c3 c4 c5 c6
        subst c0; subst c1; subst c2; subst c3; subst c4; subst c5; subst c6
        rfl
    · refine hw _ ?_
      subst d1
      show _ ∈ DataW.weights Tryd.prog 35 (.agg _)
      unfold DataW.weights
      rw [Tryd.underlying35]
      refine DataW.weights_mem_each (j := 1) rfl rfl _ ?_
      show _ ∈ [q1.data.toList.length]
      rw [Array.length_toList]
      exact List.mem_singleton.2 rfl
theorem weights_mem_all {P : Program} {e : TypeId} : ∀ {ds : List (DataW H)} {j : Nat} {d : DataW H}, ds[j]? = some d → ∀ n ∈ d.weights P e, n ∈ DataW.weightsAll P e ds
  | [], _, _, h, _, _ => by simp at h
  | d :: r, 0, _, h, n, hn => by simp at h; subst h; unfold DataW.weightsAll; exact List.mem_append_left _ hn
  | d :: r, j + 1, _, h, n, hn => by simp at h; unfold DataW.weightsAll; exact List.mem_append_right _ (weights_mem_all h n hn)
theorem open_toks {fuel : Nat} {cs : List Value} {x : DataW H × List MemPlace} (h : DataW.trod enc Tryd.prog w base spare held fuel 22 cs = some x) (hw : ∀ n ∈ x.1.weights Tryd.prog 22, n ≤ reachBytes) :
    ∃ (A : Option Addr) (c : Nat) (l : List S35), cs = [.slice A l.length c] ∧ l.length ≤ c ∧ Kd.C k35 w A l.length l ∧ ∀ x ∈ l, x.f1.size ≤ 140737488351232 := by
  rcases open_slice Tryd.underlying22 h with ⟨rfl, _⟩ | ⟨a, len, cap, m, n, D, Pl, rfl, _, hl, hcm, hm, rfl, hel⟩
  · exact ⟨none, 0, [], rfl, Nat.le_refl _, Kd.C_nil _ _, fun x hx => by cases hx⟩
  · have hwd : ∀ i, i < len → ∀ q ∈ (D i).weights Tryd.prog 35, q ≤ reachBytes := fun i hi q hq => hw q (by
      show _ ∈ DataW.weights Tryd.prog 22 (.slice _ _)
      unfold DataW.weights
      rw [Tryd.underlying22]
      refine List.mem_cons_of_mem _ (List.mem_append_left _ (weights_mem_all (j := i) ?_ q hq))
      simp [hi])
    obtain ⟨S, hv, hp⟩ := list_of_each (fun i (p : S35) => w.cells? base (a.add (i * 7)) 7 = some [.int .i64 p.f0, .string p.f1, .int .i64 p.f2.f0, .int .i64 p.f2.f1, .string p.f3, .int .i64 p.f4, .int .i64 p.f5] ∧ p.f1.size ≤ reachBytes) len (fun i hi => by
      obtain ⟨cs', h1, h2⟩ := hel i (by rw [hm]; split <;> omega)
      rw [cellsOf35] at h1
      obtain ⟨p, rfl, hb⟩ := open_tok h2 (hwd i hi)
      exact ⟨p, h1, hb⟩)
    have hml : maxLen = 9223372036854775807 := by decide
    refine ⟨some a, cap, S, by rw [hv], by omega, ⟨rfl, by omega, fun _ => ⟨a, rfl, fun j p hj => ?_⟩⟩, fun x hx => ?_⟩
    · obtain ⟨hjl, rfl⟩ := List.getElem?_eq_some_iff.1 hj
      obtain ⟨g1, _⟩ := hp j hjl
      obtain ⟨_, hlen, hcell⟩ := World.cells?_some g1
      refine ⟨_, rfl, k35_mk w _, fun i u hu => ?_⟩
      have hi := (List.getElem?_eq_some_iff.1 hu).1
      have := (hcell i hi).trans hu
      rwa [Deep.add_add] at this
    · obtain ⟨j, hj, rfl⟩ := List.mem_iff_getElem.1 hx
      have := (hp j hj).2
      have h2 : reachBytes ≤ 140737488351232 := by decide
      omega
end
end Go.Proofs.YtpemgladmnbfhaaDoor.Jo
