/- What ages.Audit tells of a list of objects, as plain functions over lists; what its map has of them. -/
import Derived.Test.YtpdhmfbpmbbmgaaBw
import Derived.Test.YtpdhmfbpmbbmgaaKe
namespace Go.Proofs.Ytpdhmfbpmbbmgaa.Mp
open Go.RowKit Go.Shelf
/-- what lies in a slot -/
structure Vl where
  t : Int
  n : Int
  wt : (Lit.int .i64 t).wf = true
  wn : (Lit.int .i64 n).wf = true
noncomputable def mapOf (pre : List (Int × Ob)) : Value → Option Value := pre.foldl (fun m x => put m (pairV x.2.h x.2.kind) x.2.val) (fun _ => none)
theorem mapOf_snoc (pre : List (Int × Ob)) (x : Int × Ob) : mapOf (pre ++ [x]) = put (mapOf pre) (pairV x.2.h x.2.kind) x.2.val := by simp [mapOf, List.foldl_append]
noncomputable def mapR : List Ob → Value → Option Value
  | [] => fun _ => none
  | x :: xs => put (mapR xs) (pairV x.h x.kind) x.val
theorem mapOf_congr (p q : List (Int × Ob)) (h : p.map (·.2) = q.map (·.2)) : mapOf p = mapOf q := by
  have e : ∀ p : List (Int × Ob), mapOf p = (p.map (·.2)).foldl (fun m x => put m (pairV x.h x.kind) x.val) (fun _ => none) := fun p => by simp [mapOf, List.foldl_map]
  rw [e, e, h]
theorem bwd_map (xs : List Ob) : (bwd xs xs.length).map (·.2) = xs.reverse := by
  refine List.ext_getElem (by simp [bwd]) fun k h1 h2 => ?_
  simp [bwd] at h1
  simp [bwd, bAt]
  rw [List.getElem?_eq_getElem (by omega)]; rfl
theorem mapOf_bwd (xs : List Ob) : mapOf (bwd xs xs.length) = mapR xs := by
  have e : ∀ xs : List Ob, (xs.reverse).foldl (fun m x => put m (pairV x.h x.kind) x.val) (fun _ => none) = mapR xs := by
    intro xs
    induction xs with
    | nil => rfl
    | cons x xs ih => simp only [List.reverse_cons, List.foldl_append, List.foldl_cons, List.foldl_nil, ih]; rfl
  rw [← e, ← bwd_map]
  simp [mapOf, List.foldl_map]
def findO (xs : List Ob) (n t : Int) : Option Ob := xs.find? (fun y => y.h == n && y.kind == t)
theorem pairV_inj {a b c d : Int} : pairV a b = pairV c d ↔ a = c ∧ b = d := by
  unfold pairV
  constructor
  · intro h; simp at h; exact h
  · rintro ⟨rfl, rfl⟩; rfl
theorem mapR_find (xs : List Ob) (n t : Int) : mapR xs (pairV n t) = (findO xs n t).map Ob.val := by
  induction xs with
  | nil => rfl
  | cons x xs ih =>
    unfold mapR findO
    by_cases h : pairV n t = pairV x.h x.kind
    · rw [h, put_same]
      obtain ⟨rfl, rfl⟩ := pairV_inj.1 h
      simp
    · rw [put_ne h, ih]
      have h2 : (x.h == n && x.kind == t) = false := by
        rw [pairV_inj] at h
        simp
        intro h1 h2
        exact h ⟨h1.symm, h2.symm⟩
      simp [h2, findO]
def slotBad (tof : Ob → Ob → Bool) (xs : List Ob) (s : Ob) (x : Vl) : Bool :=
  if x.t < 4 ∨ 9 < x.t then false else match findO xs x.n x.t with
    | none => true
    | some y => !(tof s y)
def slotsOut (tof : Ob → Ob → Bool) (xs : List Ob) (s : Ob) : List Vl → Nat → List (Int × Int)
  | [], _ => []
  | x :: r, i => (if slotBad tof xs s x then [(s.h, (i : Int))] else []) ++ slotsOut tof xs s r (i + 1)
theorem slotsOut_snoc (tof : Ob → Ob → Bool) (xs : List Ob) (s : Ob) (l : List Vl) (x : Vl) (i : Nat) :
    slotsOut tof xs s (l ++ [x]) i = slotsOut tof xs s l i ++ (if slotBad tof xs s x then [(s.h, ((i + l.length : Nat) : Int))] else []) := by
  induction l generalizing i with
  | nil => simp [slotsOut]
  | cons y l ih => simp only [List.cons_append, slotsOut, ih, List.append_assoc, List.length_cons]; rw [show i + 1 + l.length = i + (l.length + 1) by omega]
theorem slotsOut_take (tof : Ob → Ob → Bool) (xs : List Ob) (s : Ob) (l : List Vl) (j : Nat) (hj : j < l.length) :
    slotsOut tof xs s (l.take (j + 1)) 0 = slotsOut tof xs s (l.take j) 0 ++ (if slotBad tof xs s l[j] then [(s.h, (j : Int))] else []) := by
  rw [List.take_succ_eq_append_getElem hj, slotsOut_snoc, List.length_take, Nat.min_eq_left (by omega), Nat.zero_add]
theorem slotsOut_length (tof : Ob → Ob → Bool) (xs : List Ob) (s : Ob) (l : List Vl) (i : Nat) : (slotsOut tof xs s l i).length ≤ l.length := by
  induction l generalizing i with
  | nil => simp [slotsOut]
  | cons y l ih => simp only [slotsOut, List.length_append, List.length_cons]; have := ih (i + 1); split <;> simp <;> omega
def auditOne (self : Ob → Bool) (tof : Ob → Ob → Bool) (xs : List Ob) (p : Ob × List Vl) : List (Int × Int) :=
  (if self p.1 then [] else [(p.1.h, -1)]) ++ slotsOut tof xs p.1 p.2 0
def auditL (self : Ob → Bool) (tof : Ob → Ob → Bool) (xs : List Ob) (S : List (Ob × List Vl)) : List (Int × Int) := S.flatMap (auditOne self tof xs)
theorem auditL_take (self : Ob → Bool) (tof : Ob → Ob → Bool) (xs : List Ob) (S : List (Ob × List Vl)) (k : Nat) (hk : k < S.length) :
    auditL self tof xs (S.take (k + 1)) = auditL self tof xs (S.take k) ++ auditOne self tof xs S[k] := by
  unfold auditL; rw [List.take_succ_eq_append_getElem hk, List.flatMap_append, List.flatMap_singleton]
theorem auditL_length (self : Ob → Bool) (tof : Ob → Ob → Bool) (xs : List Ob) (S : List (Ob × List Vl)) (C : Nat) (hC : ∀ p ∈ S, p.2.length ≤ C) : (auditL self tof xs S).length ≤ S.length * (C + 1) := by
  induction S with
  | nil => simp [auditL]
  | cons p S ih =>
    have h1 := ih (fun q hq => hC q (List.mem_cons_of_mem _ hq))
    have h2 := hC p List.mem_cons_self
    have h3 := slotsOut_length tof xs p.1 p.2 0
    have h4 : (auditOne self tof xs p).length ≤ C + 1 := by unfold auditOne; rw [List.length_append]; split <;> simp <;> omega
    simp only [auditL, List.flatMap_cons, List.length_append, List.length_cons] at h1 ⊢
    rw [Nat.add_mul]
    omega
def flatW (L : List (Int × Int)) : List Value := L.flatMap (fun p => [.int .i64 p.1, .int .i64 p.2])
theorem flatW_snoc (L : List (Int × Int)) (p : Int × Int) : flatW (L ++ [p]) = flatW L ++ [.int .i64 p.1, .int .i64 p.2] := by simp [flatW]
/-- what lies in an object's slots -/
def SlAt (n₀ : Nat) (w : World) (x : Ob) (vals : List Vl) : Prop :=
  (x.sa = none ∧ x.sn = 0 ∧ vals = []) ∨ ∃ b off, x.sa = some ⟨b, off, none⟩ ∧ x.sn = vals.length ∧ b < n₀ ∧ ∀ k (h : k < vals.length), w.cell? ⟨b, off + k * 2, none⟩ = some (.int .i64 (vals[k]'h).t) ∧ w.cell? ⟨b, off + k * 2 + 1, none⟩ = some (.int .i64 (vals[k]'h).n)
theorem SlAt.below {n₀ : Nat} {A B : World} {x : Ob} {vals : List Vl} (h : SlAt n₀ A x vals) (e : Below n₀ A B) : SlAt n₀ B x vals := by
  rcases h with h | ⟨b, off, h1, h2, h3, h4⟩
  · exact .inl h
  · exact .inr ⟨b, off, h1, h2, h3, fun k hk => ⟨(e.cell (p := ⟨b, off + k * 2, none⟩) h3).trans (h4 k hk).1, (e.cell (p := ⟨b, off + k * 2 + 1, none⟩) h3).trans (h4 k hk).2⟩⟩
end Go.Proofs.Ytpdhmfbpmbbmgaa.Mp
