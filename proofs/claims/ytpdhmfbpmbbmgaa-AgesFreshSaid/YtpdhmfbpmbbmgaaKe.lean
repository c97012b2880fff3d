/- The keys of the map in ages.Audit: pairs of ints. -/
import Derived.Test.YtpdhmfbpmbbmgaaMp
import Derived.Test.YtpdhmfbpmbbmgaaProg
namespace Go.Proofs.Ytpdhmfbpmbbmgaa.Mp
open Go.RowKit Go.Maps
theorem laidOut : laidOutB Try.prog = true := by kernel_rfl
theorem K51 : Keyed Try.prog 51 := Keyed.of_law (deep_law_laid laidOut (m := 2) (by omega) (of_decide_eq_true (by kernel_rfl)) (by kernel_rfl) (by kernel_rfl))
def pairV (h k : Int) : Value := .agg #[.int .i64 h, .int .i64 k]
theorem lit3 (h : Int) (wh : (Lit.int .i64 h).wf = true) (m : Nat) : Try.prog.keyLits (m + 1) 3 [.int .i64 h] = some [.int .i64 h] := by
  unfold Program.keyLits
  rw [Try.underlying3]
  simp [wh]
theorem cells51 : Try.prog.cellsOf 51 = 2 := by kernel_rfl
theorem cells3 : Try.prog.cellsOf 3 = 1 := by kernel_rfl
theorem types_pos : ∃ m, Try.prog.types.size = m + 1 := ⟨Try.prog.types.size - 1, by have : 0 < Try.prog.types.size := of_decide_eq_true (by kernel_rfl); omega⟩
theorem key51 (h k : Int) (wh : (Lit.int .i64 h).wf = true) (wk : (Lit.int .i64 k).wf = true) : ∃ l, keyOf Try.prog 51 (pairV h k) = some l := by
  have hu := Try.underlying51
  unfold pairV keyOf
  rw [hu]
  have h1 : Try.prog.keyType 51 = true := by kernel_rfl
  have h2 : Value.formed Try.prog 51 (Value.agg #[Value.int IntKind.i64 h, Value.int IntKind.i64 k]) = true := by
    simp [Value.formed, hu, cells51]
  simp only [h1, h2, Bool.and_self, if_true]
  unfold Program.keyLits
  rw [hu]
  obtain ⟨m, hm⟩ := types_pos
  have e1 := lit3 h wh m
  have e2 := lit3 k wk m
  simp only [Value.cells, cells51, cells3, hm]
  simp [List.range_succ, e1, e2]
end Go.Proofs.Ytpdhmfbpmbbmgaa.Mp
