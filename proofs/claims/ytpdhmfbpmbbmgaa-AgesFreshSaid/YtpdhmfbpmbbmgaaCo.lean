/- slices.Contains over a slice of ints. -/
import Derived.Test.YtpdhmfbpmbbmgaaAc
namespace Go.Proofs.Ytpdhmfbpmbbmgaa.Mp
open Go.RowKit Go.Shelf Go.Proofs.YtpdhmfbpmbbmgaaW.PrintWords Go.Proofs.YtpdhmfbpmbbmgaaW.PrintLast
def IntsAt (w : World) (sv : Value) (xs : List Int) : Prop :=
  (∃ c, sv = .slice none 0 c ∧ xs = []) ∨ ∃ b off cap, sv = .slice (some ⟨b, off, none⟩) xs.length cap ∧ ∀ k (h : k < xs.length), w.cell? ⟨b, off + k, none⟩ = some (.int .i64 (xs[k]'h))
set_option maxHeartbeats 4000000 in
set_option maxRecDepth 100000 in
theorem index_calls (w : World) (sv : Value) (xs : List Int) (hs : IntsAt w sv xs) (hl : xs.length ≤ 100000) (v : Int) :
    Calls Try.prog 36 #[sv, .int .i64 v] w fun e w' => ∃ r : Int, e = .returned (.int .i64 r) ∧ (decide (r ≥ 0) = xs.contains v) ∧ Below w.heap.size w w' := by
  rcases hs with ⟨c, rfl, rfl⟩ | ⟨b, off, cap, rfl, hc⟩
  · go_enter Try.func36, Try.ntmps36
    go_wp2
    go_loop [8] (fun i => i = .int .i64 0) (fun _ => 0)
    case atStart => exact rfl
    case round =>
      obtain rfl := hrel
      go_wp2
      go_ret
      exact ⟨_, rfl, by simp, Below.refl _ _⟩
  · go_enter Try.func36, Try.ntmps36
    go_wp2
    go_loop [8] (fun i => ∃ k : Nat, k ≤ xs.length ∧ i = .int .i64 k ∧ (xs.take k).contains v = false) (fun i => xs.length - (intOf i).toNat)
    case atStart => exact ⟨0, Nat.zero_le _, rfl, by simp⟩
    case round =>
      obtain ⟨k, hk, rfl, hn⟩ := hrel
      by_cases hlt : k < xs.length
      · have hg : (k : Int) < xs.length := by omega
        have c0 := hc k hlt
        by_cases hv : v = xs[k]'hlt
        · rw [← hv] at c0
          go_wp2
          go_ret
          refine ⟨_, rfl, ?_, Below.refl _ _⟩
          have : v ∈ xs := by rw [hv]; exact List.getElem_mem hlt
          simp
        · go_wp2
          go_round
          case rel =>
            refine ⟨k + 1, by omega, by simp, ?_⟩
            rw [List.take_succ_eq_append_getElem hlt, List.contains_eq_any_beq, List.any_append, ← List.contains_eq_any_beq, hn]
            simp [hv]
          case measure => simp [intOf]; omega
      · obtain rfl : k = xs.length := by omega
        have hg : ¬ ((xs.length : Int) < xs.length) := by omega
        go_wp2
        go_ret
        refine ⟨_, rfl, ?_, Below.refl _ _⟩
        rw [List.take_length] at hn
        have hn' : ¬ v ∈ xs := by simpa using hn
        simp [hn']
set_option maxHeartbeats 4000000 in
theorem contains_calls (w : World) (sv : Value) (xs : List Int) (hs : IntsAt w sv xs) (hl : xs.length ≤ 100000) (v : Int) :
    Calls Try.prog 35 #[sv, .int .i64 v] w fun e w' => e = .returned (.bool (xs.contains v)) ∧ Below w.heap.size w w' := by
  go_enter Try.func35, Try.ntmps35
  go_wp2_with (go_at_call 36; refine (index_calls _ _ xs hs hl v).mono ?_; rintro e w1 ⟨r, rfl, hr, hb⟩)
  go_ret
  exact ⟨by simp, hb⟩
end Go.Proofs.Ytpdhmfbpmbbmgaa.Mp
