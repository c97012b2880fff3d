/- ages.Old, ages.Back, ages.Forward; how objects lie in a block. -/
import Derived.Test.YtpdhmfbpmbbmgaaCo
import Derived.Test.YtpdhmfbpmbbmgaaNx
namespace Go.Proofs.Ytpdhmfbpmbbmgaa.Mp
open Go.RowKit Go.Shelf Go.Proofs.YtpdhmfbpmbbmgaaW.PrintWords Go.Proofs.YtpdhmfbpmbbmgaaW.PrintLast
def oldV (a : Int) : Bool := decide (2 ≤ a ∧ a ≤ 6)
set_option maxHeartbeats 1000000 in
theorem old_calls (w : World) (a : Int) : Calls Try.prog 9 #[.int .i64 a] w fun e w' => e = .returned (.bool (oldV a)) ∧ Below w.heap.size w w' := by
  by_cases h1 : 2 ≤ a
  · by_cases h2 : a ≤ 6
    · go_enter Try.func9, Try.ntmps9
      go_wp2
      go_ret
      exact ⟨by simp [oldV, h1, h2], Below.refl _ _⟩
    · go_enter Try.func9, Try.ntmps9
      go_wp2
      go_ret
      exact ⟨by simp [oldV, h1, h2], Below.refl _ _⟩
  · go_enter Try.func9, Try.ntmps9
    go_wp2
    go_ret
    exact ⟨by simp [oldV]; omega, Below.refl _ _⟩
set_option maxHeartbeats 1000000 in
theorem back4_calls (w : World) : Calls Try.prog 11 #[.int .i64 4] w fun e w' => e = .returned (.int .i64 5) ∧ Below w.heap.size w w' := by
  go_enter Try.func11, Try.ntmps11
  go_wp2_with (go_at_call 9; refine (old_calls _ _).mono ?_; rintro e w1 ⟨he, hb⟩; rw [show oldV 4 = true from rfl] at he; subst he)
  go_ret
  exact ⟨rfl, hb⟩
set_option maxHeartbeats 1000000 in
theorem back1_calls (w : World) : Calls Try.prog 11 #[.int .i64 1] w fun e w' => e = .returned (.int .i64 1) ∧ Below w.heap.size w w' := by
  go_enter Try.func11, Try.ntmps11
  go_wp2_with (go_at_call 9; refine (old_calls _ _).mono ?_; rintro e w1 ⟨he, hb⟩; rw [show oldV 1 = false from rfl] at he; subst he)
  go_ret
  exact ⟨rfl, hb⟩
set_option maxHeartbeats 1000000 in
theorem young0_calls (w : World) : Calls Try.prog 19 #[.int .i64 0] w fun e w' => e = .returned (.bool true) ∧ Below w.heap.size w w' := by
  go_enter Try.func19, Try.ntmps19
  go_wp2
  go_ret
  exact ⟨rfl, Below.refl _ _⟩
set_option maxHeartbeats 1000000 in
theorem forward_calls (w : World) : Calls Try.prog 13 #[.int .i64 3, .int .i64 0] w fun e w' => e = .returned (.int .i64 2) ∧ Below w.heap.size w w' := by
  go_enter Try.func13, Try.ntmps13
  go_wp2_with (first | (go_at_call 9; refine (old_calls _ _).mono ?_; rintro e w1 ⟨he, hb⟩; rw [show oldV 3 = true from rfl] at he; subst he) | (go_at_call 19; refine (young0_calls _).mono ?_; rintro e w2 ⟨rfl, hb2⟩))
  go_ret
  exact ⟨rfl, hb.trans (hb2.mono hb.size)⟩
theorem flat_obs (xs : List Ob) (k : Nat) (h : k < xs.length) (j : Nat) (hj : j < 8) : (xs.flatMap Ob.cells)[k * 8 + j]? = (xs[k]'h).cells[j]? := by
  induction xs generalizing k with
  | nil => simp at h
  | cons x xs ih =>
    have e8 : x.cells.length = 8 := rfl
    rw [List.flatMap_cons]
    cases k with
    | zero => rw [List.getElem?_append_left (by rw [e8]; omega)]; simp
    | succ k =>
      rw [List.getElem?_append_right (by rw [e8]; omega), e8, show (k + 1) * 8 + j - 8 = k * 8 + j by omega, ih k (by simpa using h)]
      simp
theorem obsAt_of {W : World} {b : Nat} {cs : Array Value} {t : TypeId} {fz : Nat × Nat} (h : W.heap[b]? = some (.cells cs t fz)) (xs : List Ob) (hc : cs = (xs.flatMap Ob.cells).toArray) : ObsAt W b 0 xs := by
  intro k hk j u hu
  have hj : j < 8 := by
    have := (List.getElem?_eq_some_iff.1 hu).1
    exact this
  rw [cell_at h, Nat.zero_add]
  rw [hc, List.getElem?_toArray, flat_obs xs k hk j hj]; exact hu
end Go.Proofs.Ytpdhmfbpmbbmgaa.Mp
