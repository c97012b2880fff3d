/- What the walks of ages.Audit share. -/
import Derived.Maps.OwnIn
import Derived.Test.YtpdhmfbpmbbmgaaBw
import Derived.Test.YtpdhmfbpmbbmgaaFn
import Derived.Test.YtpdhmfbpmbbmgaaKe
import Derived.Test.YtpdhmfbpmbbmgaaAs
import Derived.WalkSmall
import Derived.Deep.Onto
import Derived.BigQuiet
import Derived.Deep.QuietTactic
namespace Go.Proofs.Ytpdhmfbpmbbmgaa.Mp
open Go.RowKit Go.Shelf Go.Proofs.YtpdhmfbpmbbmgaaW.PrintWords Go.Proofs.YtpdhmfbpmbbmgaaW.PrintLast
attribute [local go_sem] Oper.semAt_some
theorem grown_at {A B : World} {row : Option Nat} (hg : A.grownBy B row) {k : Nat} {o : Obj} (h : A.heap[k]? = some o) (hne : row ≠ some k) : B.heap[k]? = some o :=
  (hg.block k (Array.getElem?_eq_some_iff.1 h).1 (fun z => hne z.symm)).trans h
theorem MapIs.grown {A B : World} {row : Option Nat} (hg : A.grownBy B row) {P : Program} {k : TypeId} {b : Nat} {m : Value → Option Value} (h : MapIs A P k b m) (hne : row ≠ some b) : MapIs B P k b m :=
  h.kept (hg.block b h.lt (fun z => hne z.symm))
/-- 'm[k] = v' at the operation, in a fence -/
theorem wpIn_update {F : Fence} {nF : Nat} {P : Program} {w : World} {ops : Array Oper} {rest : List Oper} {o : Oper} {a : Act} {Q : Exit → Act → World → Prop} (hg : o.guard = none) (m x v : Operand) (t : TypeId) (hop : o.op = Op.mapUpdate t m x v)
    {k e : TypeId} (K : Maps.Keyed P k) (ht : P.underlying t = some (.map k e)) {b : Nat} {f : Value → Option Value} (hm : a.eval m = .map (some b)) (hown : MapIs w P k b f) {key val : Value} {kl : Lit} (hx : a.eval x = key) (hv : a.eval v = val) (hkey : keyOf P k key = some kl)
    (hK : ∀ w', MapIs w' P k b (put f key val) → Upd b w w' → wpListIn F nF P ops Q rest (a.put o.dst undef) w') :
    wpListIn F nF P ops Q (o :: rest) a w := by
  refine wpListIn_plain hg fun K' hK' => ?_
  obtain ⟨o', hrun, r1⟩ := hown.update K ht hkey val
  unfold Oper.wpIn
  refine ⟨by simp [Oper.about, hop], ?_⟩
  rw [Oper.semAt_plain F _ _ (by rw [hop]; intro c hc'; cases hc')]
  simp [execOp, hop, hm, hx, hv, hrun, Result.andThen]
  exact hK' _ _ (hK _ r1 (Upd.of w b o'))
/-- what holds between two rounds -/
structure Rd (w : World) (cv : Array Value) (pre : List (Int × Ob)) (W : World) : Prop where
  view : W.heap[w.heap.size]? = some (.cells cv 30 (0, 0))
  cell : W.heap[w.heap.size + 1 + 1]? = some (.cells #[.map (some (w.heap.size + 1))] 47 (0, 0))
  map : MapIs W Try.prog 51 (w.heap.size + 1) (mapOf pre)
  below : Below w.heap.size w W
  size : w.heap.size + 4 ≤ W.heap.size
theorem Rd.alloc {w : World} {cv : Array Value} {pre : List (Int × Ob)} {W : World} (h : Rd w cv pre W) (o : Obj) : Rd w cv pre (W.alloc o) :=
  ⟨(Below.heap_alloc W o _ (by have := h.size; omega)).trans h.view, (Below.heap_alloc W o _ (by have := h.size; omega)).trans h.cell, h.map.kept (Below.heap_alloc W o _ (by have := h.size; omega)), h.below.alloc h.below.size _, by have := h.size; simp; omega⟩
theorem cell_at {W : World} {b : Nat} {cs : Array Value} {t : TypeId} {fz : Nat × Nat} (h : W.heap[b]? = some (.cells cs t fz)) (j : Nat) : W.cell? ⟨b, j, none⟩ = cs[j]? := by simp [World.cell?, h]
theorem own_below {A B : World} {base : Nat} {e : TypeId} {size n : Nat} {v : Value} {xs : List Value} (h : A.ownsRow base e size v n xs) (hb : Below A.heap.size A B) : B.ownsRow base e size v n xs :=
  h.kept (row := none) ⟨hb.os, hb.tape, hb.output, hb.size, fun i hi _ => hb.block i hi⟩ (by cases v.ownBlock <;> simp)
theorem own_ne {W : World} {base : Nat} {e t : TypeId} {size n : Nat} {v : Value} {xs : List Value} {b : Nat} {cs : Array Value} {fz : Nat × Nat} (h : W.ownsRow base e size v n xs) (hb : W.heap[b]? = some (.cells cs t fz)) (hne : t ≠ e) : v.ownBlock ≠ some b := by
  rcases h.2 with ⟨rfl, _⟩ | ⟨g, cap, cur, rfl, _, hg, _⟩
  · simp [Value.ownBlock]
  · intro z
    simp [Value.ownBlock] at z
    subst z
    rw [hb] at hg
    cases hg
    exact hne rfl
theorem hz36 : ∀ w, (zeroValue 36).run Try.prog w = .ok (.agg #[.int .i64 0, .int .i64 0, .int .i64 0, .int .i64 0, .slice none 0 0, .int .i64 0, .int .i64 0, .int .i64 0]) w := fun w => by go_simp
theorem slotBad_none {tof : Ob → Ob → Bool} {xs : List Ob} {s : Ob} {x : Vl} (h : ¬ (x.t < 4 ∨ 9 < x.t)) (hf : findO xs x.n x.t = none) : slotBad tof xs s x = true := by
  unfold slotBad; rw [if_neg h, hf]
theorem slotBad_some {tof : Ob → Ob → Bool} {xs : List Ob} {s y : Ob} {x : Vl} (h : ¬ (x.t < 4 ∨ 9 < x.t)) (hf : findO xs x.n x.t = some y) : slotBad tof xs s x = !(tof s y) := by
  unfold slotBad; rw [if_neg h, hf]
theorem hX_lt {W : World} {D : Nat} {o : Obj} (h : W.heap[D]? = some o) : D < W.heap.size := (Array.getElem?_eq_some_iff.1 h).1
theorem info46 : (Try.prog.info? 46).map (fun i => (i.zero, i.size, i.bytes)) = some (some (.agg #[.int .i64 0, .int .i64 0]), 2, 16) := by kernel_rfl
theorem cell_lt {w : World} {b : Nat} {u : Value} (hb : w.cell? ⟨b, 0, none⟩ = some u) : b < w.heap.size := by
  unfold World.cell? at hb
  split at hb
  · rename_i q; exact (Array.getElem?_eq_some_iff.1 q).1
  · cases hb
end Go.Proofs.Ytpdhmfbpmbbmgaa.Mp
