/- ages.rules at the pause of either mode, and the functions that it hands back. -/
import Derived.Test.YtpdhmfbpmbbmgaaMp
import Derived.Test.YtpdhmfbpmbbmgaaProg
import Derived.Test.YtpdhmfbpmbbmgaaWWords
import Derived.Test.YtpdhmfbpmbbmgaaWLast
import Derived.Laws.EntriesVeiled
import Derived.WideLaws
namespace Go.Proofs.Ytpdhmfbpmbbmgaa.Mp
open Go.RowKit Go.Proofs.YtpdhmfbpmbbmgaaW.PrintWords Go.Proofs.YtpdhmfbpmbbmgaaW.PrintLast
def viewV (mode phase white : Int) (s3 s4 s5 s6 : Value) : Value := .agg #[.int .i64 mode, .int .i64 phase, .int .i64 white, s3, s4, s5, s6]
def obV (h kind weak arr : Int) (sl : Value) (fin col age : Int) : Value := .agg #[.int .i64 h, .int .i64 kind, .int .i64 weak, .int .i64 arr, sl, .int .i64 fin, .int .i64 col, .int .i64 age]
theorem alloc_at (w : World) (o : Obj) : (w.alloc o).heap[w.heap.size]? = some o := by show (w.heap.push o)[w.heap.size]? = _; simp
set_option maxHeartbeats 4000000 in
set_option maxRecDepth 100000 in
theorem rules_gen (w : World) (white : Int) (s3 s4 s5 s6 : Value) : Calls Try.prog 22 #[viewV 1 0 white s3 s4 s5 s6] w fun e w' => e = .returned (.agg #[.func (.func 32) #[] #[], .func (.func 33) #[] #[]]) ∧ Below w.heap.size w w' := by
  unfold viewV
  go_enter Try.func22, Try.ntmps22
  go_wp2
  refine bodyPost_ret (results_cell_row rfl _ _ (w.heap.size + 1) 55 #[.func (.func 32) #[] #[], .func (.func 33) #[] #[]] (0, 0) _ rfl ?hp Try.underlying55 rfl (by kernel_rfl)) rfl ?_
  case hp =>
    refine blk_alloc ?_ _
    have := alloc_at (w.alloc (.cells #[.int .i64 1, .int .i64 0, .int .i64 white, s3, s4, s5, s6] 30)) (.cells #[.func (.func 32) #[] #[], .func (.func 33) #[] #[]] 55)
    rwa [World.size_alloc] at this
  exact ⟨rfl, (((Below.refl _ w).alloc (Nat.le_refl _) _).alloc (by simp) _).alloc (by simp; omega) _⟩
set_option maxHeartbeats 4000000 in
set_option maxRecDepth 100000 in
theorem rules_inc (w : World) (white : Int) (s3 s4 s5 s6 : Value) : Calls Try.prog 22 #[viewV 0 0 white s3 s4 s5 s6] w fun e w' => (∃ b, e = .returned (.agg #[.func (.func 26) #[] #[.pointer (some ⟨b, 0, none⟩)], .func (.func 27) #[] #[]]) ∧ w.heap.size ≤ b ∧ w'.cell? ⟨b, 0, none⟩ = some (.func (.func 25) #[] #[])) ∧ Below w.heap.size w w' := by
  unfold viewV
  go_enter Try.func22, Try.ntmps22
  go_wp2
  refine bodyPost_ret (results_cell_row rfl _ _ (w.heap.size + 1) 55 #[.func (.func 26) #[] #[.pointer (some ⟨w.heap.size + 1 + 1, 0, none⟩)], .func (.func 27) #[] #[]] (0, 0) _ rfl ?hp Try.underlying55 rfl (by kernel_rfl)) rfl ?_
  case hp =>
    refine blk_alloc ?_ _
    have := alloc_at (w.alloc (.cells #[.int .i64 0, .int .i64 0, .int .i64 white, s3, s4, s5, s6] 30)) (.cells #[.func (.func 26) #[] #[.pointer (some ⟨w.heap.size + 1 + 1, 0, none⟩)], .func (.func 27) #[] #[]] 55)
    rwa [World.size_alloc] at this
  exact ⟨⟨w.heap.size + 1 + 1, rfl, by omega, by
    have := alloc_at ((w.alloc (.cells #[.int .i64 0, .int .i64 0, .int .i64 white, s3, s4, s5, s6] 30)).alloc (.cells #[.func (.func 26) #[] #[.pointer (some ⟨w.heap.size + 1 + 1, 0, none⟩)], .func (.func 27) #[] #[]] 55)) (.cells #[.func (.func 25) #[] #[]] 60)
    simp only [World.size_alloc] at this
    simp only [World.cell?]
    rw [this]; rfl⟩, (((Below.refl _ w).alloc (Nat.le_refl _) _).alloc (by simp) _).alloc (by simp; omega) _⟩
end Go.Proofs.Ytpdhmfbpmbbmgaa.Mp
