/- heirloomlaw12.small: what its answer says of a view. -/
import Derived.Test.YtpdhmfbpmbbmgaaOp
import Derived.BigQuiet
import Derived.Deep.QuietTactic
set_option linter.unusedVariables false
set_option linter.unusedSimpArgs false
namespace Go.Proofs.Ytpdhmfbpmbbmgaa.Mp
open Go.RowKit Go.Shelf Go.Proofs.YtpdhmfbpmbbmgaaW.PrintWords Go.Proofs.YtpdhmfbpmbbmgaaW.PrintLast
def sumL (l : List Inp) : Nat := (l.map (·.vals.length)).sum
theorem sumL_take (S : List Inp) (k : Nat) (h : k < S.length) : sumL (S.take (k + 1)) = sumL (S.take k) + (S[k]'h).vals.length := by
  unfold sumL
  rw [List.take_succ_eq_append_getElem h, List.map_append, List.sum_append]
  simp
theorem sumL_le (S : List Inp) (B : Nat) (h : ∀ p ∈ S, p.vals.length ≤ B) (k : Nat) : sumL (S.take k) ≤ k * B := by
  induction S generalizing k with
  | nil => simp [sumL]
  | cons q S ih =>
    cases k with
    | zero => simp [sumL]
    | succ k =>
      have h1 := ih (fun p hp => h p (List.mem_cons_of_mem _ hp)) k
      have h2 := h q List.mem_cons_self
      unfold sumL at h1 ⊢
      rw [List.take_succ_cons, List.map_cons, List.sum_cons, Nat.add_mul]
      omega
def SmallAns (S : List Inp) (e : Ending) : Prop := ∃ r, e = .returned (.bool r) ∧ (r = true → S.length ≤ 60 ∧ ∀ p ∈ S, p.vals.length ≤ 600)
theorem le_sumL (S : List Inp) (p : Inp) (h : p ∈ S) : p.vals.length ≤ sumL S := by
  induction S with
  | nil => cases h
  | cons q S ih =>
    simp only [sumL, List.map_cons, List.sum_cons]
    rcases List.mem_cons.1 h with rfl | h
    · omega
    · have := ih h
      unfold sumL at this
      omega
set_option maxHeartbeats 4000000 in
set_option maxRecDepth 100000 in
theorem small_calls (w : World) (m ph wh : Int) (a3 : Option Addr) (c3 : Nat) (S : List Inp) (a4 : Option Addr) (n4 c4 : Nat) (a5 : Option Addr) (n5 c5 : Nat) (a6 : Option Addr) (n6 c6 : Nat) (hS : SeenIn w a3 S) (hb : S.length * 80 ≤ reachBytes) (hb5 : n5 * 8 ≤ reachBytes) :
    Calls Try.prog 16 #[.agg #[.int .i64 m, .int .i64 ph, .int .i64 wh, .slice a3 S.length c3, .slice a4 n4 c4, .slice a5 n5 c5, .slice a6 n6 c6]] w fun e w' => SmallAns S e ∧ Below w.heap.size w w' := by
  have hR : reachBytes = 140737488351232 := by decide
  rw [hR] at hb hb5
  obtain ⟨V, hV⟩ : ∃ V, V = w.alloc (.cells #[.int .i64 m, .int .i64 ph, .int .i64 wh, .slice a3 S.length c3, .slice a4 n4 c4, .slice a5 n5 c5, .slice a6 n6 c6] 30) := ⟨_, rfl⟩
  have hVB : Below w.heap.size w V := by rw [hV]; exact (Below.refl _ w).alloc (Nat.le_refl _) _
  have hVc : V.heap[w.heap.size]? = some (.cells #[.int .i64 m, .int .i64 ph, .int .i64 wh, .slice a3 S.length c3, .slice a4 n4 c4, .slice a5 n5 c5, .slice a6 n6 c6] 30 (0, 0)) := by rw [hV]; exact alloc_at w _
  have hVs : V.heap.size = w.heap.size + 1 := by rw [hV]; simp only [World.size_alloc]
  have v5 := cell_at hVc 5
  have v3 := cell_at hVc 3
  simp only [List.getElem?_toArray, List.getElem?_cons_zero, List.getElem?_cons_succ] at v5 v3
  go_enter Try.func16, Try.ntmps16
  go_wp2
  rw [← hV]
  go_loopw [3, 4] (fun n i wr => ∃ k : Nat, k ≤ S.length ∧ k ≤ 61 ∧ i = .int .i64 k ∧ n = .int .i64 ((n5 + sumL (S.take k) : Nat) : Int) ∧ Below V.heap.size V wr) (fun _ i _ => 61 - (intOf i).toNat)
  case atStart => exact ⟨0, Nat.zero_le _, by omega, rfl, by simp [sumL], Below.refl _ _⟩
  case round =>
    obtain ⟨k, hk, hk2, rfl, rfl, hB⟩ := hrel
    have w3 := (hB.cell (p := ⟨w.heap.size, 3, none⟩) (by show w.heap.size < _; omega)).trans v3
    have hret : ∀ r : Bool, (r = true → S.length ≤ 60 ∧ n5 + sumL (S.take k) ≤ 600 ∧ k = S.length) → SmallAns S (Ending.returned (.bool r)) := by
      intro r hr
      refine ⟨r, rfl, fun h => ?_⟩
      obtain ⟨h1, h2, h3⟩ := hr h
      subst h3
      rw [List.take_length] at h2
      exact ⟨h1, fun p hp => by have := le_sumL S p hp; omega⟩
    by_cases h1 : k < S.length
    · by_cases h2 : k ≤ 60
      · have g1 : (k : Int) < S.length := by omega
        have g2 : ¬ (60 < (k : Int)) := by omega
        have hsum := sumL_take S k h1
        have hl := (hS.2 k h1).2
        rw [hR] at hl
        rcases hS.1 with h0 | ⟨b, off, rfl, hbl, hc⟩
        · rw [h0] at h1; exact absurd h1 (Nat.not_lt_zero _)
        have hcb := ((hVB.trans (hB.mono (by omega))).cell (p := ⟨b, off + k * 8 + 4, none⟩) hbl).trans (hc k h1).2
        have hq := sumL_le S 8796093022207 (fun p hp => by obtain ⟨i, hi, rfl⟩ := List.getElem_of_mem hp; have := (hS.2 i hi).2; rw [hR] at this; omega) k
        have hq2 : k * 8796093022207 ≤ 61 * 8796093022207 := Nat.mul_le_mul_right _ hk2
        have hwr : wrap64 (((n5 + sumL (S.take k) : Nat) : Int) + ((S[k]'h1).vals.length : Int)) = ((n5 + sumL (S.take (k + 1)) : Nat) : Int) := by
          rw [hsum]
          unfold wrap64
          omega
        clear hq hq2
        go_wp2
        go_roundw
        case rel => exact ⟨k + 1, by omega, by omega, by simp, by first | exact congrArg (Value.int .i64) hwr | (simp at hwr ⊢; exact hwr), hB⟩
        case measure => simp [intOf]; omega
      · have g1 : (k : Int) < S.length := by omega
        have g2 : (60 : Int) < (k : Int) := by omega
        have g3 : (60 : Int) < (S.length : Int) := by omega
        go_wp2
        go_ret
        exact ⟨hret _ (fun h => by simp at h), hVB.trans (hB.mono (by omega))⟩
    · have g1 : ¬ ((k : Int) < S.length) := by omega
      by_cases g3 : (60 : Int) < (S.length : Int)
      · go_wp2
        go_ret
        exact ⟨hret _ (fun h => by simp at h), hVB.trans (hB.mono (by omega))⟩
      · go_wp2
        go_ret
        exact ⟨hret _ (fun h => ⟨by omega, by simp at h; omega, by omega⟩), hVB.trans (hB.mono (by omega))⟩
end Go.Proofs.Ytpdhmfbpmbbmgaa.Mp
