/- The reference's Pending: the objects to be finalised, the later mark first, where marks are alike the greater handle. Conditions: at most 1000 things. -/
import Derived.Test.YtollnnbcfhnlfaaSh
import Derived.Test.YtollnnbcfhnlfaaGA
import Derived.Test.YtollnnbcfhnlfaaQRx11
set_option linter.unusedVariables false
set_option linter.unusedSimpArgs false
namespace Go.Proofs.Ytollnnbcfhnlfaa.Pure
open Go Go.RowKit Go.Proofs.Ytollnnbcfhnlfaa.QR Go.Proofs.Ytollnnbcfhnlfaa.Rg Go.Proofs.Ytollnnbcfhnlfaa.Jg Go.Proofs.YtollnnbcfhnlfaaW.PrintWords Go.Proofs.YtollnnbcfhnlfaaW.PrintLast Go.Proofs.YtollnnbcfhnlfaaW.PrintMore
theorem pend0_mem (th : List S43) (first : List Bool) (x : Int) : x ∈ pend0 th first th.length ↔ 1 ≤ x ∧ x ≤ th.length ∧ 0 < finF th x ∧ rdOf false first (x - 1) = false := by
 unfold pend0
 rw [List.mem_map]
 constructor
 ·rintro ⟨i, hi, rfl⟩
  obtain ⟨h1, h2⟩ := List.mem_filter.1 hi
  have h3 := List.mem_range.1 h1
  unfold pendP at h2
  simp only [Bool.and_eq_true, decide_eq_true_eq, Bool.not_eq_true'] at h2
  unfold finF
  rw [Int.add_sub_cancel]
  exact ⟨by omega, by omega, h2⟩
 ·rintro ⟨h1, h2, h3, h4⟩
  refine ⟨(x - 1).toNat, List.mem_filter.2 ⟨List.mem_range.2 (by omega), ?_⟩, by omega⟩
  unfold pendP
  rw [show ((x - 1).toNat : Int) = x - 1 by omega]
  simp only [Bool.and_eq_true, decide_eq_true_eq, Bool.not_eq_true']
  exact ⟨h3, h4⟩
theorem pend0_nodup (th : List S43) (first : List Bool) : (pend0 th first th.length).Nodup := by
 unfold pend0
 show List.Pairwise (· ≠ ·) _
 rw [List.pairwise_map]
 have h0 : List.Pairwise (fun a b : Nat => a ≠ b) (List.range th.length) := List.nodup_range
 have h1 := h0.filter (pendP th first)
 exact h1.imp (fun {a b} hab e => hab (by have e' : (a : Int) + 1 = (b : Int) + 1 := e; omega))
theorem ltI_iff (th : List S43) (x y : Int) : ltI th x y = true ↔ finF th y < finF th x ∨ (finF th x = finF th y ∧ y < x) := by
 unfold ltI cfI
 rw [decide_eq_true_eq]
 by_cases h : finF th x = finF th y
 ·rw [if_neg (fun z => z h)]; omega
 ·rw [if_pos h]
  by_cases h2 : finF th y < finF th x
  ·rw [if_pos h2]; simp [h2]
  ·rw [if_neg h2]; omega
theorem pend_perm (th : List S43) (first : List Bool) : (pendF th first).Perm (pend0 th first th.length) := by
 unfold pendF sortF
 exact List.mergeSort_perm _ _
theorem pend_sorted (th : List S43) (first : List Bool) : (pendF th first).Pairwise (fun x y => (!ltI th y x) = true) := by
 unfold pendF sortF
 refine List.pairwise_mergeSort ?_ ?_ _
 ·intro a b c h1 h2
  simp only [Bool.not_eq_true'] at *
  rw [← Bool.not_eq_true, ltI_iff] at *
  omega
 ·intro a b
  simp only [Bool.or_eq_true, Bool.not_eq_true']
  rw [← Bool.not_eq_true, ← Bool.not_eq_true, ltI_iff, ltI_iff]
  omega
theorem split_last {l : List Int} (h : l ≠ []) : ∃ A y, l = A ++ [y] := ⟨l.dropLast, l.getLast h, (List.dropLast_concat_getLast h).symm⟩
theorem rd_at {l : List Int} {i : Nat} (h : i < l.length) : rd l (i : Int) = l[i] := by
 unfold rd
 rw [Int.toNat_natCast, List.getD_eq_getElem?_getD, List.getElem?_eq_getElem h]
 rfl
/-- x comes ahead of y, or is y -/
def le_ (th : List S43) (x y : Int) : Prop := finF th y < finF th x ∨ (finF th x = finF th y ∧ y ≤ x)
theorem le_of (th : List S43) (x y : Int) : (!ltI th y x) = true ↔ le_ th x y := by
 have := ltI_iff th y x
 unfold le_
 rcases h : ltI th y x with _ | _
 ·have h' : ¬ (ltI th y x = true) := by rw [h]; decide
  rw [this] at h'
  simp only [Bool.not_false, true_iff]
  omega
 ·have h' := this.1 h
  simp only [Bool.not_true, Bool.false_eq_true, false_iff]
  omega
theorem le_anti {th : List S43} {x y : Int} (h : le_ th x y) (h' : le_ th y x) : x = y := by
 unfold le_ at h h'
 omega
theorem sorted_eq {th : List S43} : ∀ {a b : List Int}, a.Perm b → a.Pairwise (le_ th) → b.Pairwise (le_ th) → a = b
 | [], b, p, _, _ => by
  have := p.length_eq
  exact (List.eq_nil_of_length_eq_zero (by simpa using this.symm)).symm
 | x :: a, [], p, _, _ => by have := p.length_eq; simp at this
 | x :: a, y :: b, p, h, k => by
  obtain ⟨h1, h2⟩ := List.pairwise_cons.1 h
  obtain ⟨k1, k2⟩ := List.pairwise_cons.1 k
  have e : x = y := by
   rcases List.mem_cons.1 (p.mem_iff.1 (List.mem_cons_self ..)) with z | z
   ·exact z
   ·rcases List.mem_cons.1 (p.mem_iff.2 (List.mem_cons_self ..)) with w | w
    ·exact w.symm
    ·exact le_anti (h1 _ w) (k1 _ z)
  subst e
  rw [sorted_eq (List.Perm.cons_inv p) h2 k2]
/-- the walk of one handle to its place -/
theorem bubble (th : List S43) (rt : List S40) (first : List Bool) (hl : th.length ≤ 1000) (h : Int) (hh : 1 ≤ h ∧ h ≤ th.length) (R : List Int) (K : Nat) :
  ∀ (n : Nat) (A B : List Int), A.length = n → (∀ x ∈ A, 1 ≤ x ∧ x ≤ th.length) → (A ++ B).length ≤ 1000 →
   (∀ A1 A2, A = A1 ++ A2 → (∀ y ∈ A2, finF th y < finF th h) → (∀ y, A1.getLast? = some y → ¬ finF th y < finF th h) → ∀ k, K ≤ k → heirloomref11_Pending.l0 k first (A1 ++ h :: (A2 ++ B)) (wrap64 (h - 1)) th rt = some R) →
   ∀ k, K + n + 1 ≤ k → heirloomref11_Pending.l1 k first (A ++ h :: B) h (n : Int) th rt = some R
 | 0, A, B, hn, hA, hb, H, k, hk => by
  obtain ⟨k, rfl⟩ : ∃ j, k = j + 1 := ⟨k - 1, by omega⟩
  obtain rfl := List.eq_nil_of_length_eq_zero hn
  rw [heirloomref11_Pending.l1, if_neg (by decide)]
  exact H [] [] rfl (by simp) (by simp) k (by omega)
 | n + 1, A, B, hn, hA, hb, H, k, hk => by
  obtain ⟨k, rfl⟩ : ∃ j, k = j + 1 := ⟨k - 1, by omega⟩
  obtain ⟨A', y, rfl⟩ : ∃ A' y, A = A' ++ [y] := by
   have hne : A ≠ [] := by intro e; rw [e] at hn; cases hn
   exact split_last hne
  have hn' : A'.length = n := by simpa using hn
  have hy := hA y (by simp)
  rw [List.length_append] at hb
  have ry : rd (A' ++ [y] ++ h :: B) (n : Int) = y := by
   rw [rd_at (by simp; omega)]
   simp [← hn']
  have rh : rd (A' ++ [y] ++ h :: B) ((n + 1 : Nat) : Int) = h := by
   rw [rd_at (by simp; omega)]
   simp [← hn']
  have len : ((A' ++ [y] ++ h :: B).length : Int) = n + 2 + B.length := by simp; omega
  have e1 : ((n + 1 : Nat) : Int) - 1 = (n : Int) := by omega
  simp only [List.length_append, List.length_singleton] at hb
  rw [heirloomref11_Pending.l1, if_pos (by omega), e1, w64 (x := (n : Int)) (by omega) (by omega), if_pos (by omega), if_pos (by omega), ry, rh, w64 (x := y - 1) (by omega) (by omega), w64 (x := h - 1) (by omega) (by omega), if_pos (by omega), if_pos (by omega), if_pos (by omega), if_pos (by omega), if_pos (by omega), if_pos (by omega)]
  by_cases c : finF th y < finF th h
  ·rw [if_pos (show (rd_T43 th (y - 1)).f4 < (rd_T43 th (h - 1)).f4 from c)]
   have es : ((A' ++ [y] ++ h :: B).set ((n + 1 : Nat) : Int).toNat y).set (n : Int).toNat h = A' ++ h :: (y :: B) := by
    rw [Int.toNat_natCast, Int.toNat_natCast]
    simp [← hn', List.set_append]
   rw [es]
   refine bubble th rt first hl h hh R K n A' (y :: B) hn' (fun x hx => hA x (by simp [hx])) (by simp; omega) (fun A1 A2 e a b k hk => ?_) k (by omega)
   have := H A1 (A2 ++ [y]) (by rw [e, List.append_assoc]) (fun z hz => by
    rcases List.mem_append.1 hz with w | w
    ·exact a z w
    ·rw [List.mem_singleton.1 w]; exact c) b k hk
   rw [List.append_assoc] at this
   exact this
  ·rw [if_neg (show ¬ (rd_T43 th (y - 1)).f4 < (rd_T43 th (h - 1)).f4 from c)]
   have := H (A' ++ [y]) [] (by simp) (by simp) (fun z hz => by
    simp at hz
    rw [← hz]
    exact c) k (by omega)
   rw [w64 (x := h - 1) (by omega) (by omega)] at this
   exact this
/-- what is told of the list when the handles above j have been gone through -/
structure Pd (th : List S43) (first : List Bool) (j : Nat) (l : List Int) : Prop where
 nd : l.Nodup
 so : l.Pairwise (le_ th)
 me : ∀ x, x ∈ l ↔ (j : Int) < x ∧ x ≤ th.length ∧ 0 < finF th x ∧ rdOf false first (x - 1) = false
theorem Pd.len {th : List S43} {first : List Bool} {j : Nat} {l : List Int} (P : Pd th first j l) : l.length ≤ th.length := by
 have sub : l ⊆ (List.range th.length).map (fun i : Nat => (i : Int) + 1) := fun x hx => by
  obtain ⟨a, b, _⟩ := (P.me x).1 hx
  exact List.mem_map.2 ⟨(x - 1).toNat, List.mem_range.2 (by omega), by omega⟩
 have nm : ((List.range th.length).map (fun i : Nat => (i : Int) + 1)).Nodup := by
  show List.Pairwise (· ≠ ·) _
  rw [List.pairwise_map]
  have h0 : List.Pairwise (fun a b : Nat => a ≠ b) (List.range th.length) := List.nodup_range
  exact h0.imp (fun {a b} hab e => hab (by have e' : (a : Int) + 1 = (b : Int) + 1 := e; omega))
 have nf := (show List.Pairwise (· ≠ ·) ((List.range th.length).map (fun i : Nat => (i : Int) + 1)) from nm).filter (fun x => decide (x ∈ l))
 have pm : l.Perm (((List.range th.length).map (fun i : Nat => (i : Int) + 1)).filter (fun x => decide (x ∈ l))) := (List.perm_ext_iff_of_nodup P.nd nf).2 (fun x => by
  rw [List.mem_filter, decide_eq_true_eq]
  exact ⟨fun h => ⟨sub h, h⟩, fun h => h.2⟩)
 have := List.length_filter_le (fun x => decide (x ∈ l)) ((List.range th.length).map (fun i : Nat => (i : Int) + 1))
 rw [pm.length_eq]
 simpa using this
theorem rpend_l0 (th : List S43) (rt : List S40) (first : List Bool) (hl : th.length ≤ 1000) (hf : first.length = th.length) :
  ∀ (j : Nat) (l : List Int), j ≤ th.length → Pd th first j l → ∃ K, ∀ k, K ≤ k → heirloomref11_Pending.l0 k first l (j : Int) th rt = some (pendF th first)
 | 0, l, _, P => by
  refine ⟨1, fun k hk => ?_⟩
  obtain ⟨k, rfl⟩ : ∃ i, k = i + 1 := ⟨k - 1, by omega⟩
  rw [heirloomref11_Pending.l0, if_neg (by decide)]
  congr 1
  refine sorted_eq (th := th) ?_ P.so ((pend_sorted th first).imp (fun {a b} h => (le_of th a b).1 h))
  have pm := pend_perm th first
  refine List.Perm.trans ?_ pm.symm
  refine (List.perm_ext_iff_of_nodup P.nd (pend0_nodup th first)).2 (fun x => ?_)
  rw [P.me, pend0_mem]
  exact ⟨fun h => ⟨by omega, h.2⟩, fun h => ⟨by omega, h.2⟩⟩
 | j + 1, l, hj, P => by
  have e1 : ((j + 1 : Nat) : Int) - 1 = (j : Int) := by omega
  have ll := P.len
  by_cases c : 0 < finF th ((j : Int) + 1) ∧ rdOf false first (j : Int) = false
  ·obtain ⟨c1, c2⟩ := c
   have above : ∀ y ∈ l, (j : Int) + 1 < y ∧ y ≤ th.length := fun y hy => by have := (P.me y).1 hy; omega
   have nin : ((j : Int) + 1) ∉ l := fun z => by have := above _ z; omega
   have ih : ∀ A1 A2, l = A1 ++ A2 → (∀ y ∈ A2, finF th y < finF th ((j : Int) + 1)) → (∀ y, A1.getLast? = some y → ¬ finF th y < finF th ((j : Int) + 1)) → Pd th first j (A1 ++ ((j : Int) + 1) :: (A2 ++ [])) := by
    intro A1 A2 e a b
    rw [List.append_nil]
    have pr : (A1 ++ ((j : Int) + 1) :: A2).Perm (((j : Int) + 1) :: l) := by rw [e]; exact List.perm_middle
    have hs := P.so
    rw [e] at hs
    obtain ⟨s1, s2, s3⟩ := List.pairwise_append.1 hs
    have first_ : ∀ y ∈ A1, ¬ finF th y < finF th ((j : Int) + 1) := by
     intro y hy
     obtain ⟨A', z, rfl⟩ : ∃ A' z, A1 = A' ++ [z] := by
      have hne : A1 ≠ [] := by intro e; rw [e] at hy; cases hy
      exact split_last hne
     have bz := b z (by simp)
     rcases List.mem_append.1 hy with w | w
     ·have := (List.pairwise_append.1 s1).2.2 y w z (by simp)
      unfold le_ at this
      omega
     ·rw [List.mem_singleton.1 w]; exact bz
    refine ⟨pr.nodup_iff.2 (List.nodup_cons.2 ⟨nin, P.nd⟩), ?_, fun x => ?_⟩
    ·refine List.pairwise_append.2 ⟨s1, List.pairwise_cons.2 ⟨fun y hy => .inl (a y hy), s2⟩, fun x hx y hy => ?_⟩
     rcases List.mem_cons.1 hy with rfl | w
     ·have h1 := first_ x hx
      have h2 := above x (by rw [e]; exact List.mem_append.2 (.inl hx))
      unfold le_
      omega
     ·exact s3 x hx y w
    ·rw [pr.mem_iff, List.mem_cons, P.me]
     constructor
     ·rintro (rfl | z)
      ·rw [Int.add_sub_cancel]
       exact ⟨by omega, by omega, c1, c2⟩
      ·exact ⟨by omega, z.2⟩
     ·rintro ⟨z1, z2⟩
      by_cases d : x = (j : Int) + 1
      ·exact .inl d
      ·exact .inr ⟨by omega, z2⟩
   -- how many rounds: the least that serves every outcome
   obtain ⟨K, HK⟩ : ∃ K, ∀ A1 A2, l = A1 ++ A2 → (∀ y ∈ A2, finF th y < finF th ((j : Int) + 1)) → (∀ y, A1.getLast? = some y → ¬ finF th y < finF th ((j : Int) + 1)) → ∀ k, K ≤ k → heirloomref11_Pending.l0 k first (A1 ++ ((j : Int) + 1) :: (A2 ++ [])) (j : Int) th rt = some (pendF th first) := by
    have cut : ∀ n, n ≤ l.length → ∃ K, ∀ A1 A2, A1.length ≤ n → l = A1 ++ A2 → (∀ y ∈ A2, finF th y < finF th ((j : Int) + 1)) → (∀ y, A1.getLast? = some y → ¬ finF th y < finF th ((j : Int) + 1)) → ∀ k, K ≤ k → heirloomref11_Pending.l0 k first (A1 ++ ((j : Int) + 1) :: (A2 ++ [])) (j : Int) th rt = some (pendF th first) := by
     have one : ∀ n, ∃ K, ∀ A1 A2, A1.length = n → l = A1 ++ A2 → (∀ y ∈ A2, finF th y < finF th ((j : Int) + 1)) → (∀ y, A1.getLast? = some y → ¬ finF th y < finF th ((j : Int) + 1)) → ∀ k, K ≤ k → heirloomref11_Pending.l0 k first (A1 ++ ((j : Int) + 1) :: (A2 ++ [])) (j : Int) th rt = some (pendF th first) := fun n => by
      by_cases ex : ∃ A1 A2, A1.length = n ∧ l = A1 ++ A2 ∧ (∀ y ∈ A2, finF th y < finF th ((j : Int) + 1)) ∧ (∀ y, A1.getLast? = some y → ¬ finF th y < finF th ((j : Int) + 1))
      ·obtain ⟨A1, A2, x1, x2, x3, x4⟩ := ex
       obtain ⟨K, HK⟩ := rpend_l0 th rt first hl hf j _ (by omega) (ih A1 A2 x2 x3 x4)
       refine ⟨K, fun B1 B2 y1 y2 y3 y4 => ?_⟩
       have e := List.append_inj (x2.symm.trans y2) (by omega)
       rw [← e.1, ← e.2]
       exact HK
      ·exact ⟨0, fun A1 A2 x1 x2 x3 x4 => absurd ⟨A1, A2, x1, x2, x3, x4⟩ ex⟩
     intro n
     induction n with
     | zero =>
      intro _
      obtain ⟨K, HK⟩ := one 0
      exact ⟨K, fun A1 A2 h => HK A1 A2 (by omega)⟩
     | succ n ihn =>
      intro hn
      obtain ⟨K, HK⟩ := ihn (by omega)
      obtain ⟨K', HK'⟩ := one (n + 1)
      refine ⟨K + K', fun A1 A2 h x2 x3 x4 k hk => ?_⟩
      by_cases d : A1.length = n + 1
      ·exact HK' A1 A2 d x2 x3 x4 k (by omega)
      ·exact HK A1 A2 (by omega) x2 x3 x4 k (by omega)
    obtain ⟨K, HK⟩ := cut l.length (Nat.le_refl _)
    refine ⟨K, fun A1 A2 x2 => HK A1 A2 (by rw [x2]; simp) x2⟩
   refine ⟨K + l.length + 10, fun k hk => ?_⟩
   obtain ⟨k, rfl⟩ : ∃ i, k = i + 2 := ⟨k - 2, by omega⟩
   have c1' : ¬ (rd_T43 th (j : Int)).f4 ≤ 0 := by
    unfold finF at c1
    rw [Int.add_sub_cancel] at c1
    omega
   rw [heirloomref11_Pending.l0, if_pos (by omega), e1, w64 (x := (j : Int)) (by omega) (by omega), if_pos (by omega), if_pos (by omega), if_neg c1', if_pos (by omega), c2, heirloomref11_Pending.j1, if_neg (by decide), if_pos (by omega), Option.bind_some]
   have := bubble th rt first hl ((j : Int) + 1) (by omega) (pendF th first) K l.length l [] rfl (fun x hx => by have := above x hx; omega) (by simp; omega) (fun A1 A2 x2 x3 x4 k hk => by
    rw [Int.add_sub_cancel, w64 (x := (j : Int)) (by omega) (by omega)]
    exact HK A1 A2 x2 x3 x4 k hk) k (by omega)
   have e2 : wrap64 (((l ++ [((j + 1 : Nat) : Int)]).length : Int) - 1) = (l.length : Int) := by
    rw [w64 (by simp <;> omega) (by simp <;> omega)]
    simp
   rw [e2]
   exact this
  ·obtain ⟨K, HK⟩ := rpend_l0 th rt first hl hf j l (by omega) ⟨P.nd, P.so, fun x => by
    rw [P.me]
    constructor
    ·rintro ⟨a, b⟩
     exact ⟨by omega, b⟩
    ·rintro ⟨a, b⟩
     refine ⟨?_, b⟩
     by_cases d : x = (j : Int) + 1
     ·subst d
      rw [Int.add_sub_cancel] at b
      exact absurd b.2 c
     ·omega⟩
   refine ⟨K + 10, fun k hk => ?_⟩
   obtain ⟨k, rfl⟩ : ∃ i, k = i + 2 := ⟨k - 2, by omega⟩
   have j1 : heirloomref11_Pending.j1 (k + 1) first l ((j + 1 : Nat) : Int) true th rt = some (pendF th first) := by
    rw [heirloomref11_Pending.j1, if_pos rfl, e1, w64 (x := (j : Int)) (by omega) (by omega)]
    exact HK k (by omega)
   rw [heirloomref11_Pending.l0, if_pos (by omega), e1, w64 (x := (j : Int)) (by omega) (by omega), if_pos (by omega), if_pos (by omega)]
   by_cases c1 : (rd_T43 th (j : Int)).f4 ≤ 0
   ·rw [if_pos c1]; exact j1
   ·rw [if_neg c1, if_pos (by omega)]
    have : rdOf false first (j : Int) = true := by
     by_cases z : rdOf false first (j : Int) = true
     ·exact z
     ·refine absurd ⟨?_, by simpa using z⟩ c
      unfold finF
      rw [Int.add_sub_cancel]
      omega
    rw [this]
    exact j1
theorem rpend (th : List S43) (rt : List S40) (first : List Bool) (hl : th.length ≤ 1000) (hf : first.length = th.length) : ∃ K, ∀ k, K ≤ k → heirloomref11_Pending.f k th rt first = some (pendF th first) := by
 obtain ⟨K, HK⟩ := rpend_l0 th rt first hl hf th.length [] (Nat.le_refl _) ⟨List.nodup_nil, List.Pairwise.nil, fun x => by simp; omega⟩
 exact ⟨K, fun k hk => HK k hk⟩
theorem pend_len (th : List S43) (first : List Bool) : (pendF th first).length ≤ th.length := by
 rw [(pend_perm th first).length_eq]
 unfold pend0
 rw [List.length_map]
 have := List.length_filter_le (pendP th first) (List.range th.length)
 simpa using this
end Go.Proofs.Ytollnnbcfhnlfaa.Pure
