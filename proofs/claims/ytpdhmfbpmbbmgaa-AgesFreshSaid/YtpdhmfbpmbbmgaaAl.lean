/- heirloomlaw12.alive: true, and nothing that lay has turned. -/
import Derived.Test.YtpdhmfbpmbbmgaaAg
import Derived.Test.YtpdhmfbpmbbmgaaSm
set_option linter.unusedVariables false
set_option linter.unusedSimpArgs false
namespace Go.Proofs.Ytpdhmfbpmbbmgaa.Mp
open Go.RowKit Go.Shelf Go.Proofs.YtpdhmfbpmbbmgaaW.PrintWords Go.Proofs.YtpdhmfbpmbbmgaaW.PrintLast
def aOld (b : Nat) : Ob := ⟨1, 5, 0, 0, some ⟨b, 0, none⟩, 2, 2, 0, 3, 4, by decide, by decide⟩
def aNew : Ob := ⟨2, 5, 0, 0, none, 0, 0, 0, 0, 0, by decide, by decide⟩
def aVals : List Vl := [⟨0, 0, by decide, by decide⟩, ⟨5, 2, by decide, by decide⟩]
theorem alloc_at' {w : World} {n : Nat} (o : Obj) (h : n = w.heap.size) : (w.alloc o).heap[n]? = some o := by rw [h]; exact alloc_at w o
theorem alive_audit (w W : World) (b c : Nat) (hb : W.heap[b]? = some (.cells #[.int .i64 0, .int .i64 0, .int .i64 5, .int .i64 2] 38 (0, 0)))
    (hc : W.heap[c]? = some (.cells #[.int .i64 1, .int .i64 5, .int .i64 0, .int .i64 0, .slice (some ⟨b, 0, none⟩) 2 2, .int .i64 0, .int .i64 3, .int .i64 4, .int .i64 2, .int .i64 5, .int .i64 0, .int .i64 0, .slice none 0 0, .int .i64 0, .int .i64 0, .int .i64 0] 36 (0, 0))) :
    Calls Try.prog 17 #[viewV 1 0 0 (.slice (some ⟨c, 0, none⟩) 2 2) (.slice none 0 0) (.slice none 0 0) (.slice none 0 0)] W fun e w' => (∃ g cap, e = .returned (.slice (some ⟨g, 0, none⟩) 1 cap) ∧ w'.cell? ⟨g, 0, none⟩ = some (.int .i64 1) ∧ w'.cell? ⟨g, 1, none⟩ = some (.int .i64 1)) ∧ Below W.heap.size W w' := by
  have h := audit_gen W 0 (some ⟨c, 0, none⟩) 2 (.slice none 0 0) (.slice none 0 0) (.slice none 0 0) [(aOld b, aVals), (aNew, [])]
    (.inr ⟨c, 0, 2, rfl, hX_lt hc, obsAt_of hc _ rfl⟩) (by simp)
    (by
      intro p hp
      simp only [List.mem_cons, List.not_mem_nil, or_false] at hp
      rcases hp with rfl | rfl
      · refine .inr ⟨b, 0, rfl, rfl, hX_lt hb, fun k hk => ?_⟩
        have : k < 2 := hk
        match k, this with
        | 0, _ => exact ⟨cell_at hb 0, cell_at hb 1⟩
        | 1, _ => exact ⟨cell_at hb 2, cell_at hb 3⟩
      · exact .inl ⟨rfl, rfl, rfl⟩)
    (by simp) (by intro p hp; simp only [List.mem_cons, List.not_mem_nil, or_false] at hp; rcases hp with rfl | rfl <;> simp [aVals])
    (fun h => ([] : List Int).contains h) (fun W' _ h _ => contains_calls W' _ [] (.inl ⟨0, rfl, rfl⟩) (by decide) h)
  refine h.mono ?_
  rintro e w' ⟨v, rfl, hown, hB⟩
  have ha : auditL (fun y => agedV 0 (([] : List Int).contains y.h) y.col y.age) (fun y z => leadsV y.age z.age) ([(aOld b, aVals), (aNew, [])].map (·.1)) [(aOld b, aVals), (aNew, [])] = [(1, 1)] := by rfl
  rw [ha] at hown
  obtain ⟨g, cap, rfl, _⟩ := hown.form (by decide)
  exact ⟨⟨g, cap, rfl, hown.cellAt 0 (by decide), hown.cellAt 1 (by decide)⟩, hB⟩
set_option maxHeartbeats 4000000 in
set_option maxRecDepth 100000 in
theorem alive_calls (w : World) : Calls Try.prog 15 #[] w fun e w' => e = .returned (.bool true) ∧ Below w.heap.size w w' := by
  go_enter Try.func15, Try.ntmps15
  go_wp2_with (first
    | (go_at_call 17; refine (alive_audit w _ w.heap.size (w.heap.size + 1 + 1 + 1) ((Below.heap_alloc _ _ _ (by simp only [World.size_alloc]; omega)).trans ((Below.heap_alloc _ _ _ (by simp only [World.size_alloc]; omega)).trans ((Below.heap_alloc _ _ _ (by simp only [World.size_alloc]; omega)).trans (alloc_at w _)))) (alloc_at' _ (by simp only [World.size_alloc]))).mono ?_; rintro e w1 ⟨⟨g, cap, rfl, hg0, hg1⟩, hb1⟩)
    | (go_at_call 7; refine (ages_Next.calls 0 1 _ (by rfl)).mono ?_; rintro e w2 ⟨rfl, hb2⟩)
    | (go_at_call 11; first | (refine (back4_calls _).mono ?_; rintro e w3 ⟨rfl, hb3⟩) | (refine (back1_calls _).mono ?_; rintro e w4 ⟨rfl, hb4⟩))
    | (go_at_call 13; refine (forward_calls _).mono ?_; rintro e w5 ⟨rfl, hb5⟩; have hA := ((hb2.trans (hb3.mono hb2.size)).trans (hb4.mono (Nat.le_trans hb2.size hb3.size))).trans (hb5.mono (Nat.le_trans (Nat.le_trans hb2.size hb3.size) hb4.size)); have c0 := (hA.cell (p := ⟨g, 0, none⟩) (cell_lt hg0)).trans hg0; have c1 := (hA.cell (p := ⟨g, 1, none⟩) (cell_lt hg0)).trans hg1))
  go_ret
  refine ⟨rfl, ?_⟩
  have hs1 := hb1.size
  simp only [World.size_alloc] at hs1
  refine Below.trans ?_ (hA.mono (by omega))
  exact ((((((Below.refl _ w).alloc (Nat.le_refl _) _).alloc (by simp) _).alloc (by simp; omega) _).alloc (by simp; omega) _).trans (hb1.mono (by simp; omega)))
end Go.Proofs.Ytpdhmfbpmbbmgaa.Mp
