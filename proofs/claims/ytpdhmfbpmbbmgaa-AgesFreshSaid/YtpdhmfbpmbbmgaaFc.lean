/- What the walks of heirloomlaw12.AgesFresh share. -/
import Derived.Test.YtpdhmfbpmbbmgaaSv
import Derived.Test.YtpdhmfbpmbbmgaaOn
import Derived.Test.YtpdhmfbpmbbmgaaAs
set_option linter.unusedVariables false
set_option linter.unusedSimpArgs false
namespace Go.Proofs.Ytpdhmfbpmbbmgaa.Mp
open Go.RowKit Go.Shelf
theorem info36 : (Try.prog.info? 36).map (fun i => (i.zero, i.size, i.bytes)) = some (some (.agg #[.int .i64 0, .int .i64 0, .int .i64 0, .int .i64 0, .slice none 0 0, .int .i64 0, .int .i64 0, .int .i64 0]), 8, 80) := by kernel_rfl
theorem info38 : (Try.prog.info? 38).map (fun i => (i.zero, i.size, i.bytes)) = some (some (.agg #[.int .i64 0, .int .i64 0]), 2, 16) := by kernel_rfl
theorem SlIn.mono {w w' : World} {sa : Option Addr} {vals : List Vl} (h : SlIn w sa vals) (hb : Below w.heap.size w w') : SlIn w' sa vals := by
  rcases h with h | ⟨b, off, h1, h2, h3⟩
  · exact .inl h
  · exact .inr ⟨b, off, h1, Nat.lt_of_lt_of_le h2 hb.size, fun k hk => ⟨(hb.cell (p := ⟨b, off + k * 2, none⟩) h2).trans (h3 k hk).1, (hb.cell (p := ⟨b, off + k * 2 + 1, none⟩) h2).trans (h3 k hk).2⟩⟩
theorem SeenIn.mono {w w' : World} {a : Option Addr} {S : List Inp} (h : SeenIn w a S) (hb : Below w.heap.size w w') : SeenIn w' a S := by
  refine ⟨?_, fun k hk => ⟨(h.2 k hk).1.mono hb, (h.2 k hk).2⟩⟩
  rcases h.1 with h | ⟨b, off, h1, h2, h3⟩
  · exact .inl h
  · exact .inr ⟨b, off, h1, Nat.lt_of_lt_of_le h2 hb.size, fun k hk => ⟨(hb.cell (p := ⟨b, off + k * 8 + 1, none⟩) h2).trans (h3 k hk).1, (hb.cell (p := ⟨b, off + k * 8 + 4, none⟩) h2).trans (h3 k hk).2⟩⟩
def Inp.z : Inp := ⟨0, by decide, none, 0, []⟩
theorem hwf (j : Nat) : (Lit.int .i64 ((min j 100 + 1 : Nat) : Int)).wf = true := by
  have h : min j 100 + 1 ≤ 101 := by omega
  generalize min j 100 + 1 = n at h
  have : ∀ n : Fin 102, (Lit.int .i64 ((n.1 : Nat) : Int)).wf = true := by decide
  exact this ⟨n, by omega⟩
/-- the object that is made of one that came in -/
def obG (S : List Inp) (j : Nat) (sl : Option Addr × Nat × Nat) : Ob := ⟨((min j 100 + 1 : Nat) : Int), (S.getD j Inp.z).kind, 0, 0, sl.1, sl.2.1, sl.2.2, 0, 1, 0, hwf j, (S.getD j Inp.z).wk⟩
def flatS (S : List Inp) (sl : Nat → Option Addr × Nat × Nat) (n : Nat) : List Value := (List.range n).flatMap (fun j => (obG S j (sl j)).cells)
theorem flatS_succ (S : List Inp) (sl : Nat → Option Addr × Nat × Nat) (n : Nat) : flatS S sl (n + 1) = flatS S sl n ++ (obG S n (sl n)).cells := by simp [flatS, List.range_succ]
theorem flatS_length (S : List Inp) (sl : Nat → Option Addr × Nat × Nat) (n : Nat) : (flatS S sl n).length = n * 8 := by
  induction n with
  | zero => rfl
  | succ n ih => rw [flatS_succ, List.length_append, ih, show (obG S n (sl n)).cells.length = 8 from rfl]; omega
def noSl : Nat → Option Addr × Nat × Nat := fun _ => (none, 0, 0)
theorem obG_cells (S : List Inp) (j : Nat) (h : j < S.length) (hj : j ≤ 100) (sl : Option Addr × Nat × Nat) : (obG S j sl).cells = [.int .i64 ((j : Int) + 1), .int .i64 (S[j]'h).kind, .int .i64 0, .int .i64 0, .slice sl.1 sl.2.1 sl.2.2, .int .i64 0, .int .i64 1, .int .i64 0] := by
  have e1 : ((min j 100 + 1 : Nat) : Int) = (j : Int) + 1 := by omega
  have e2 : (S.getD j Inp.z).kind = (S[j]'h).kind := by
    have e3 : S.getD j Inp.z = S[j]'h := by simp [h]
    rw [e3]
  show [Value.int .i64 ((min j 100 + 1 : Nat) : Int), .int .i64 (S.getD j Inp.z).kind, .int .i64 0, .int .i64 0, .slice sl.1 sl.2.1 sl.2.2, .int .i64 0, .int .i64 1, .int .i64 0] = _
  rw [e1, e2]
theorem setCell_grown (W : World) (b j : Nat) (v : Value) : W.grownBy (W.setCell ⟨b, j, none⟩ v) (some b) :=
  ⟨rfl, rfl, rfl, by simp [World.setCell], fun k _ hk => Below.heap_setCell _ _ _ k (fun e => hk (by rw [e]))⟩
def zeroVl : Vl := ⟨0, 0, by decide, by decide⟩
/-- what is made of a value that comes in -/
def cleanV (S : List Inp) (x : Vl) : Vl := if 4 ≤ x.t ∧ x.t ≤ 9 ∧ (x.n < 1 ∨ (S.length : Int) < x.n ∨ (S.getD (x.n.toNat - 1) Inp.z).kind ≠ x.t) then zeroVl else x
def flatV (l : List Vl) : List Value := l.flatMap (fun v => [.int .i64 v.t, .int .i64 v.n])
theorem flatV_snoc (l : List Vl) (v : Vl) : flatV (l ++ [v]) = flatV l ++ [.int .i64 v.t, .int .i64 v.n] := by simp [flatV]
theorem flatV_get (l : List Vl) (k : Nat) (h : k < l.length) : (flatV l)[k * 2]? = some (.int .i64 (l[k]'h).t) ∧ (flatV l)[k * 2 + 1]? = some (.int .i64 (l[k]'h).n) := by
  induction l generalizing k with
  | nil => simp at h
  | cons x l ih =>
    cases k with
    | zero => simp [flatV]
    | succ k =>
      have := ih k (by simpa using h)
      simp only [flatV, List.flatMap_cons] at this ⊢
      rw [show (k + 1) * 2 = k * 2 + 2 by omega, show k * 2 + 2 + 1 = (k * 2 + 1) + 2 by omega]
      simpa using this
def upd (sl : Nat → Option Addr × Nat × Nat) (k : Nat) (c : Option Addr × Nat × Nat) : Nat → Option Addr × Nat × Nat := fun j => if j = k then c else sl j
theorem flatS_get (S : List Inp) (sl : Nat → Option Addr × Nat × Nat) (n k r : Nat) (h : k < n) (hr : r < 8) : (flatS S sl n)[k * 8 + r]? = (obG S k (sl k)).cells[r]? := by
  induction n with
  | zero => omega
  | succ n ih =>
    rw [flatS_succ]
    by_cases hk : k < n
    · rw [List.getElem?_append_left (by rw [flatS_length]; omega)]; exact ih hk
    · obtain rfl : k = n := by omega
      rw [List.getElem?_append_right (by rw [flatS_length]; omega), flatS_length, show k * 8 + r - k * 8 = r by omega]
theorem obG_other (S : List Inp) (k r : Nat) (c c' : Option Addr × Nat × Nat) (h : r ≠ 4) : (obG S k c).cells[r]? = (obG S k c').cells[r]? := by
  match r, h with
  | 0, _ => rfl
  | 1, _ => rfl
  | 2, _ => rfl
  | 3, _ => rfl
  | 5, _ => rfl
  | 6, _ => rfl
  | 7, _ => rfl
  | n + 8, _ => rfl
theorem flatS_set (S : List Inp) (sl : Nat → Option Addr × Nat × Nat) (n k : Nat) (c : Option Addr × Nat × Nat) (h : k < n) : flatS S (upd sl k c) n = (flatS S sl n).set (k * 8 + 4) (.slice c.1 c.2.1 c.2.2) := by
  refine List.ext_getElem? fun t => ?_
  rw [List.getElem?_set, flatS_length]
  by_cases ht : t < n * 8
  · have e : t = t / 8 * 8 + t % 8 := by omega
    have hq : t / 8 < n := by omega
    have hr : t % 8 < 8 := by omega
    generalize t / 8 = q at e hq
    generalize t % 8 = r at e hr
    subst e
    rw [flatS_get _ _ _ _ _ hq hr, flatS_get _ _ _ _ _ hq hr]
    by_cases hqk : q = k
    · subst hqk
      by_cases hr4 : r = 4
      · subst hr4
        rw [if_pos rfl, if_pos (by omega)]
        unfold upd
        rw [if_pos rfl]; rfl
      · rw [if_neg (by omega)]
        exact obG_other _ _ _ _ _ hr4
    · rw [if_neg (by omega)]
      unfold upd
      rw [if_neg hqk]
  · rw [List.getElem?_eq_none (by rw [flatS_length]; omega), if_neg (by omega), List.getElem?_eq_none (by rw [flatS_length]; omega)]
theorem upd_upd (sl : Nat → Option Addr × Nat × Nat) (k : Nat) (c c' : Option Addr × Nat × Nat) : upd (upd sl k c) k c' = upd sl k c' := by
  funext j; unfold upd; split <;> rfl
theorem upd_self (sl : Nat → Option Addr × Nat × Nat) (k : Nat) : upd sl k (sl k) = sl := by
  funext j; unfold upd; split
  · subst_vars; rfl
  · rfl
theorem upd_same (sl : Nat → Option Addr × Nat × Nat) (k : Nat) (c : Option Addr × Nat × Nat) : upd sl k c k = c := by unfold upd; rw [if_pos rfl]
theorem upd_ne (sl : Nat → Option Addr × Nat × Nat) (k j : Nat) (c : Option Addr × Nat × Nat) (h : j ≠ k) : upd sl k c j = sl j := by unfold upd; rw [if_neg h]
theorem grow_on {A B C : World} {g : Nat} {row : Option Nat} (h : A.grownBy B (some g)) (k : B.grownBy C row) (hr : ∀ r, row = some r → A.heap.size ≤ r) : A.grownBy C (some g) :=
  ⟨k.os.trans h.os, k.tape.trans h.tape, k.output.trans h.output, Nat.le_trans h.size k.size, fun i hi hne => (k.block i (Nat.lt_of_lt_of_le hi h.size) (fun e => by have := hr i e.symm; omega)).trans (h.block i hi hne)⟩
theorem grow_same {A B C : World} {g : Nat} (h : A.grownBy B (some g)) (k : B.grownBy C (some g)) : A.grownBy C (some g) := h.trans k
theorem grow_alloc {A B : World} {g : Nat} (h : A.grownBy B (some g)) (o : Obj) : A.grownBy (B.alloc o) (some g) := grow_on h (World.grownBy_alloc B o none) (fun _ e => by cases e)
theorem grow_drew {A B : World} {g : Nat} (h : A.grownBy B (some g)) (n : Nat) : A.grownBy (B.drewN n) (some g) := ⟨h.os, h.tape, h.output, h.size, h.block⟩
theorem grow_below {A B w : World} {g N : Nat} (h : A.grownBy B (some g)) (hb : Below N w A) (hg : N ≤ g) (hN : N ≤ A.heap.size) : Below N w B := hb.grown h hN (fun k e => by cases e; exact hg)
/-- the slots of one object, made whole -/
def FinRow (B : Nat) (w : World) (c : Option Addr × Nat × Nat) (vals : List Vl) : Prop := c.2.1 = vals.length ∧ w.ownsRow (B + 1) 38 2 (.slice c.1 vals.length c.2.2) vals.length (flatV vals)
def fS (S : List Inp) (sl : Nat → Option Addr × Nat × Nat) : List (Ob × List Vl) := (List.range S.length).map (fun j => (obG S j (sl j), (S.getD j Inp.z).vals.map (cleanV S)))
theorem fS_fst (S : List Inp) (sl : Nat → Option Addr × Nat × Nat) : (fS S sl).map (·.1) = (List.range S.length).map (fun j => obG S j (sl j)) := by simp [fS]
theorem slotsOut_nil (tof : Ob → Ob → Bool) (xs : List Ob) (s : Ob) (l : List Vl) (i : Nat) (h : ∀ x ∈ l, slotBad tof xs s x = false) : slotsOut tof xs s l i = [] := by
  induction l generalizing i with
  | nil => rfl
  | cons x l ih => simp [slotsOut, h x List.mem_cons_self, ih (i + 1) (fun y hy => h y (List.mem_cons_of_mem _ hy))]
theorem clean_ok (S : List Inp) (sl : Nat → Option Addr × Nat × Nat) (tof : Ob → Ob → Bool) (htof : ∀ j j', tof (obG S j (sl j)) (obG S j' (sl j')) = true) (hn : S.length ≤ 60) (j : Nat) (x : Vl) :
    slotBad tof ((List.range S.length).map (fun j => obG S j (sl j))) (obG S j (sl j)) (cleanV S x) = false := by
  unfold cleanV
  split
  · rfl
  · rename_i hc
    unfold slotBad
    split
    · rfl
    · rename_i ht
      have h1 : ¬ x.n < 1 := fun h => hc ⟨by omega, by omega, .inl h⟩
      have h2 : ¬ (S.length : Int) < x.n := fun h => hc ⟨by omega, by omega, .inr (.inl h)⟩
      have h3 : (S.getD (x.n.toNat - 1) Inp.z).kind = x.t := Classical.byContradiction fun h => hc ⟨by omega, by omega, .inr (.inr h)⟩
      cases hf : findO ((List.range S.length).map (fun j => obG S j (sl j))) x.n x.t with
      | none =>
        unfold findO at hf
        rw [List.find?_eq_none] at hf
        have := hf (obG S (x.n.toNat - 1) (sl (x.n.toNat - 1))) (List.mem_map.2 ⟨x.n.toNat - 1, by simp; omega, rfl⟩)
        have e1 : (obG S (x.n.toNat - 1) (sl (x.n.toNat - 1))).h = x.n := by
          show ((min (x.n.toNat - 1) 100 + 1 : Nat) : Int) = x.n
          omega
        have e2 : (obG S (x.n.toNat - 1) (sl (x.n.toNat - 1))).kind = x.t := h3
        simp [e1, e2] at this
      | some y =>
        unfold findO at hf
        obtain ⟨j', _, rfl⟩ := List.mem_map.1 (List.mem_of_find?_eq_some hf)
        simp [htof]
theorem fresh_nil (S : List Inp) (sl : Nat → Option Addr × Nat × Nat) (self : Ob → Bool) (tof : Ob → Ob → Bool) (hself : ∀ j, self (obG S j (sl j)) = true) (htof : ∀ j j', tof (obG S j (sl j)) (obG S j' (sl j')) = true) (hn : S.length ≤ 60) :
    auditL self tof ((fS S sl).map (·.1)) (fS S sl) = [] := by
  rw [fS_fst]
  unfold auditL
  rw [List.flatMap_eq_nil_iff]
  intro q hq
  obtain ⟨j, _, rfl⟩ := List.mem_map.1 hq
  unfold auditOne
  simp only [hself, if_true, List.nil_append]
  refine slotsOut_nil _ _ _ _ _ fun x hx => ?_
  obtain ⟨x', _, rfl⟩ := List.mem_map.1 hx
  exact clean_ok S sl tof htof hn j x'
theorem fresh_obs {W : World} {B n : Nat} {a : Option Addr} {c : Nat} (S : List Inp) (sl : Nat → Option Addr × Nat × Nat) (hn : n = S.length) (h : W.ownsRow (B + 1) 36 8 (.slice a n c) n (flatS S sl n)) : Obs W.heap.size W (.slice a ((fS S sl).map (·.1)).length c) ((fS S sl).map (·.1)) := by
  subst hn
  have hl : ((fS S sl).map (·.1)).length = S.length := by simp [fS]
  rw [hl]
  rcases h.2 with ⟨h0, h1⟩ | ⟨g, cap, cur, h0, _, hg, _⟩
  · simp only [Value.slice.injEq] at h0
    obtain ⟨rfl, _, rfl⟩ := h0
    refine .inl ⟨0, by rw [h1], ?_⟩
    exact List.eq_nil_of_length_eq_zero (hl.trans h1)
  · cases h0
    refine .inr ⟨g, 0, c, by rw [hl], hX_lt hg, fun k hk j u hu => ?_⟩
    rw [hl] at hk
    have hj : j < 8 := (List.getElem?_eq_some_iff.1 hu).1
    rw [Nat.zero_add, h.cellAt (k * 8 + j) (by omega), flatS_get _ _ _ _ _ hk hj]
    have e : ((fS S sl).map (·.1))[k]'(by rw [hl]; exact hk) = obG S k (sl k) := by simp [fS]
    rw [e] at hu
    exact hu
theorem fresh_sl {W : World} {B : Nat} (S : List Inp) (sl : Nat → Option Addr × Nat × Nat) (h : ∀ j (h : j < S.length), FinRow B W (sl j) ((S[j]'h).vals.map (cleanV S))) : ∀ p ∈ fS S sl, SlAt W.heap.size W p.1 p.2 := by
  intro p hp
  obtain ⟨j, hj, rfl⟩ := List.mem_map.1 hp
  have hj : j < S.length := by simpa using hj
  have e : S.getD j Inp.z = S[j]'hj := by simp [hj]
  obtain ⟨h1, h2⟩ := h j hj
  show SlAt W.heap.size W (obG S j (sl j)) ((S.getD j Inp.z).vals.map (cleanV S))
  rw [e]
  rcases h2.2 with ⟨h0, h3⟩ | ⟨g, cap, cur, h0, _, hg, _⟩
  · refine .inl ⟨?_, ?_, List.eq_nil_of_length_eq_zero h3⟩
    · show (sl j).1 = none
      simp at h0; exact h0.1
    · show (sl j).2.1 = 0
      rw [h1, h3]
  · simp only [Value.slice.injEq, true_and] at h0
    obtain ⟨h4, h5⟩ := h0
    rw [h4] at h2
    refine .inr ⟨g, 0, h4, h1, hX_lt hg, fun k hk => ?_⟩
    obtain ⟨q0, q1⟩ := flatV_get _ k hk
    rw [Nat.zero_add]
    exact ⟨(h2.cellAt (k * 2) (by omega)).trans q0, (h2.cellAt (k * 2 + 1) (by omega)).trans q1⟩
theorem owns_zero {W : World} {b : Nat} {e : TypeId} {size : Nat} {v : Value} {xs : List Value} (h : W.ownsRow b e size v 0 xs) : ∃ x c, v = .slice x 0 c := by
  rcases h.2 with ⟨rfl, _⟩ | ⟨g, cap, cur, rfl, _⟩
  · exact ⟨_, _, rfl⟩
  · exact ⟨_, _, rfl⟩
theorem setCell_drewN' (w : World) (n : Nat) (a : Addr) (v : Value) : (w.drewN n).setCell a v = (w.setCell a v).drewN n := by
  first
    | rfl
    | (induction n with
       | zero => rfl
       | succ n ih => show ((w.drewN n).drew).setCell a v = ((w.setCell a v).drewN n).drew; rw [← ih]; rfl)
theorem zero_box (w : World) (a b u v : Value) (t : TypeId) (n : Nat) : (((w.alloc (.cells #[a, b] t)).drewN n).setCell ⟨w.heap.size, 0, none⟩ u).setCell ⟨w.heap.size, 1, none⟩ v = (w.alloc (.cells #[u, v] t)).drewN n := by
  rw [setCell_drewN', setCell_drewN', World.setCell_alloc_new, World.setCell_alloc_new]
  rfl
end Go.Proofs.Ytpdhmfbpmbbmgaa.Mp
