/- heirloomlaw12.AgesOne: true at every two ages. -/
import Derived.Test.YtpdhmfbpmbbmgaaAl
import Derived.BigRegion
set_option linter.unusedVariables false
set_option linter.unusedSimpArgs false
namespace Go.Proofs.Ytpdhmfbpmbbmgaa.Mp
open Go.RowKit Go.Shelf Go.Proofs.YtpdhmfbpmbbmgaaW.PrintWords Go.Proofs.YtpdhmfbpmbbmgaaW.PrintLast
theorem frozen_at {W : World} {b : Nat} {cs : Array Value} {t : TypeId} (h : W.heap[b]? = some (.cells cs t (0, 0))) (j : Nat) : W.frozen? ⟨b, j, none⟩ = false := by simp [World.frozen?, h]
def colL : List Int := [0, 0, 2, 3, 3, 2, 3]
theorem set_at {W : World} {b : Nat} {cs : Array Value} {t : TypeId} {fz : Nat × Nat} (h : W.heap[b]? = some (.cells cs t fz)) (j : Nat) (v : Value) : (W.setCell ⟨b, j, none⟩ v).heap[b]? = some (.cells (cs.setIfInBounds j v) t fz) := by
  show (W.heap.modify b _)[b]? = _
  rw [Array.getElem?_modify, if_pos rfl, h]; rfl
def oneA (b a : Nat) : Ob := ⟨1, 7, 0, 0, some ⟨b, 0, none⟩, 1, 1, 0, colL.getD a 0, a, by decide, by decide⟩
def oneB (b : Nat) : Ob := ⟨2, 7, 0, 0, none, 0, 0, 0, colL.getD b 0, b, by decide, by decide⟩
def oneV : List Vl := [⟨7, 2, by decide, by decide⟩]
def oneS (p a b : Nat) : List (Ob × List Vl) := [(oneA p a, oneV), (oneB b, [])]
def oneL (p a b : Nat) : List (Int × Int) := auditL (fun y => agedV 0 (([1, 2] : List Int).contains y.h) y.col y.age) (fun y z => leadsV y.age z.age) ((oneS p a b).map (·.1)) (oneS p a b)
theorem one_len (p a b : Nat) (ha : a ≤ 6) (hb : b ≤ 6) : (oneL p a b).length = if a = 4 ∧ b ≤ 1 ∨ (a = 3 ∨ a = 6) ∧ b = 0 then 1 else 0 := by
  have h1 : a = 0 ∨ a = 1 ∨ a = 2 ∨ a = 3 ∨ a = 4 ∨ a = 5 ∨ a = 6 := by omega
  have h2 : b = 0 ∨ b = 1 ∨ b = 2 ∨ b = 3 ∨ b = 4 ∨ b = 5 ∨ b = 6 := by omega
  rcases h1 with rfl | rfl | rfl | rfl | rfl | rfl | rfl <;> rcases h2 with rfl | rfl | rfl | rfl | rfl | rfl | rfl <;> rfl
theorem one_audit (W : World) (p c g a b : Nat) (ha : a ≤ 6) (hb : b ≤ 6) (hp : W.heap[p]? = some (.cells #[.int .i64 7, .int .i64 2] 38 (0, 0))) (hg : W.heap[g]? = some (.cells #[.int .i64 1, .int .i64 2] 3 (0, 0)))
    (hc : W.heap[c]? = some (.cells #[.int .i64 1, .int .i64 7, .int .i64 0, .int .i64 0, .slice (some ⟨p, 0, none⟩) 1 1, .int .i64 0, .int .i64 (colL.getD a 0), .int .i64 a, .int .i64 2, .int .i64 7, .int .i64 0, .int .i64 0, .slice none 0 0, .int .i64 0, .int .i64 (colL.getD b 0), .int .i64 b] 36 (0, 0))) :
    Calls Try.prog 17 #[viewV 1 0 0 (.slice (some ⟨c, 0, none⟩) 2 2) (.slice none 0 0) (.slice (some ⟨g, 0, none⟩) 2 2) (.slice none 0 0)] W fun e w' => (∃ x cap, e = .returned (.slice x (if a = 4 ∧ b ≤ 1 ∨ (a = 3 ∨ a = 6) ∧ b = 0 then 1 else 0) cap)) ∧ Below W.heap.size W w' := by
  have h := audit_gen W 0 (some ⟨c, 0, none⟩) 2 (.slice none 0 0) (.slice (some ⟨g, 0, none⟩) 2 2) (.slice none 0 0) (oneS p a b)
    (.inr ⟨c, 0, 2, rfl, hX_lt hc, obsAt_of hc _ rfl⟩) (by simp [oneS])
    (by
      intro q hq
      simp only [oneS, List.mem_cons, List.not_mem_nil, or_false] at hq
      rcases hq with rfl | rfl
      · refine .inr ⟨p, 0, rfl, rfl, hX_lt hp, fun k hk => ?_⟩
        have : k < 1 := hk
        match k, this with
        | 0, _ => exact ⟨cell_at hp 0, cell_at hp 1⟩
      · exact .inl ⟨rfl, rfl, rfl⟩)
    (by simp [oneS]) (by intro q hq; simp only [oneS, List.mem_cons, List.not_mem_nil, or_false] at hq; rcases hq with rfl | rfl <;> simp [oneV])
    (fun h => ([1, 2] : List Int).contains h) (fun W' hW' h _ => contains_calls W' _ [1, 2] (.inr ⟨g, 0, 2, rfl, fun k hk => by
      have : k < 2 := hk
      refine ((hW'.cell (p := ⟨g, 0 + k, none⟩) (hX_lt hg)).trans (cell_at hg (0 + k))).trans ?_
      match k, this with
      | 0, _ => rfl
      | 1, _ => rfl⟩) (by decide) h)
  refine h.mono ?_
  rintro e w' ⟨v, rfl, hown, hB⟩
  have hl : (auditL (fun y => agedV 0 (([1, 2] : List Int).contains y.h) y.col y.age) (fun y z => leadsV y.age z.age) ((oneS p a b).map (·.1)) (oneS p a b)).length = _ := one_len p a b ha hb
  rw [hl] at hown
  refine ⟨?_, hB⟩
  rcases hown.2 with ⟨rfl, h0⟩ | ⟨g, cap, cur, rfl, _⟩
  · exact ⟨none, 0, by rw [h0]⟩
  · exact ⟨_, _, rfl⟩
set_option maxHeartbeats 4000000 in
set_option maxRecDepth 100000 in
theorem one_in (w : World) (a b : Nat) (ha : a ≤ 6) (hb : b ≤ 6) : Calls Try.prog 6 #[.int .i64 (a : Int), .int .i64 (b : Int)] w fun e w' => e = .returned (.bool true) ∧ Below w.heap.size w w' := by
  have h1 : ¬ ((a : Int) < 0) := by omega
  have h2 : ¬ (6 < (a : Int)) := by omega
  have h3 : ¬ ((b : Int) < 0) := by omega
  have h4 : ¬ (6 < (b : Int)) := by omega
  have hca : ∀ n : Nat, n ≤ 6 → (#[Value.int .i64 0, .int .i64 0, .int .i64 2, .int .i64 3, .int .i64 3, .int .i64 2, .int .i64 3] : Array Value)[n]? = some (.int .i64 (colL.getD n 0)) := by
    intro n hn
    match n, hn with
    | 0, _ => rfl
    | 1, _ => rfl
    | 2, _ => rfl
    | 3, _ => rfl
    | 4, _ => rfl
    | 5, _ => rfl
    | 6, _ => rfl
  go_enter Try.func6, Try.ntmps6
  go_wp2
  obtain ⟨vw, hvw⟩ : ∃ vw : Array Value, vw = #[.int .i64 1, .int .i64 0, .int .i64 0, .slice none 0 0, .slice none 0 0, .slice (some ⟨w.heap.size, 0, none⟩) 2 2, .slice none 0 0] := ⟨_, rfl⟩
  have hg := alloc_at w (.cells #[.int .i64 1, .int .i64 2] 3)
  have hv := alloc_at (w.alloc (.cells #[.int .i64 1, .int .i64 2] 3)) (.cells #[.int .i64 1, .int .i64 0, .int .i64 0, .slice none 0 0, .slice none 0 0, .slice (some ⟨w.heap.size, 0, none⟩) 2 2, .slice none 0 0] 30)
  have hc := alloc_at ((w.alloc (.cells #[.int .i64 1, .int .i64 2] 3)).alloc (.cells #[.int .i64 1, .int .i64 0, .int .i64 0, .slice none 0 0, .slice none 0 0, .slice (some ⟨w.heap.size, 0, none⟩) 2 2, .slice none 0 0] 30)) (.cells #[.int .i64 0, .int .i64 0, .int .i64 2, .int .i64 3, .int .i64 3, .int .i64 2, .int .i64 3] 3)
  have hB0 := (((Below.refl _ w).alloc (Nat.le_refl _) (.cells #[.int .i64 1, .int .i64 2] 3)).alloc (by simp) (.cells #[.int .i64 1, .int .i64 0, .int .i64 0, .slice none 0 0, .slice none 0 0, .slice (some ⟨w.heap.size, 0, none⟩) 2 2, .slice none 0 0] 30)).alloc (by simp; omega) (.cells #[.int .i64 0, .int .i64 0, .int .i64 2, .int .i64 3, .int .i64 3, .int .i64 2, .int .i64 3] 3)
  have hg := (Below.heap_alloc _ (.cells #[.int .i64 0, .int .i64 0, .int .i64 2, .int .i64 3, .int .i64 3, .int .i64 2, .int .i64 3] 3) _ (by simp only [World.size_alloc]; omega)).trans ((Below.heap_alloc _ (.cells #[.int .i64 1, .int .i64 0, .int .i64 0, .slice none 0 0, .slice none 0 0, .slice (some ⟨w.heap.size, 0, none⟩) 2 2, .slice none 0 0] 30) _ (by simp only [World.size_alloc]; omega)).trans hg)
  have hv := (Below.heap_alloc _ (.cells #[.int .i64 0, .int .i64 0, .int .i64 2, .int .i64 3, .int .i64 3, .int .i64 2, .int .i64 3] 3) _ (by simp only [World.size_alloc]; omega)).trans hv
  simp only [World.size_alloc] at hv hc
  have hsz : (((w.alloc (.cells #[.int .i64 1, .int .i64 2] 3)).alloc (.cells #[.int .i64 1, .int .i64 0, .int .i64 0, .slice none 0 0, .slice none 0 0, .slice (some ⟨w.heap.size, 0, none⟩) 2 2, .slice none 0 0] 30)).alloc (.cells #[.int .i64 0, .int .i64 0, .int .i64 2, .int .i64 3, .int .i64 3, .int .i64 2, .int .i64 3] 3)).heap.size = w.heap.size + 3 := by simp only [World.size_alloc]
  obtain ⟨W, hW⟩ : ∃ W, (((w.alloc (.cells #[.int .i64 1, .int .i64 2] 3)).alloc (.cells #[.int .i64 1, .int .i64 0, .int .i64 0, .slice none 0 0, .slice none 0 0, .slice (some ⟨w.heap.size, 0, none⟩) 2 2, .slice none 0 0] 30)).alloc (.cells #[.int .i64 0, .int .i64 0, .int .i64 2, .int .i64 3, .int .i64 3, .int .i64 2, .int .i64 3] 3)) = W := ⟨_, rfl⟩
  rw [hW] at hg hv hc hB0 hsz ⊢
  clear hW
  have ca := (cell_at hc a).trans (hca a ha)
  have cb := (cell_at hc b).trans (hca b hb)
  have ca1 : ∀ o, (W.alloc o).cell? ⟨w.heap.size + 1 + 1, a, none⟩ = _ := fun o => (((Below.refl _ W).alloc (Nat.le_refl _) o).cell (p := ⟨w.heap.size + 1 + 1, a, none⟩) (by show w.heap.size + 1 + 1 < _; omega)).trans ca
  have cb1 : ∀ o, (W.alloc o).cell? ⟨w.heap.size + 1 + 1, b, none⟩ = _ := fun o => (((Below.refl _ W).alloc (Nat.le_refl _) o).cell (p := ⟨w.heap.size + 1 + 1, b, none⟩) (by show w.heap.size + 1 + 1 < _; omega)).trans cb
  have hB2 : ∀ o o', Below W.heap.size W ((W.alloc o).alloc o') := fun o o' => ((Below.refl _ W).alloc (Nat.le_refl _) o).alloc (by simp) o'
  have cs : ∀ o o', ((W.alloc o).alloc o').cell? ⟨w.heap.size + 1, 3, none⟩ = some (.slice none 0 0) := fun o o' => ((hB2 o o').cell (p := ⟨w.heap.size + 1, 3, none⟩) (by show w.heap.size + 1 < _; omega)).trans (cell_at hv 3)
  have fs : ∀ o o', ((W.alloc o).alloc o').frozen? ⟨w.heap.size + 1, 3, none⟩ = false := fun o o' => frozen_at (((hB2 o o').block (w.heap.size + 1) (by omega)).trans hv) 3
  have gx : (a : Int) < 7 := by omega
  have gy : (b : Int) < 7 := by omega
  have g0 : (0 : Int) ≤ (a : Int) := by omega
  have g00 : (0 : Int) ≤ (b : Int) := by omega
  go_region
  have hX := set_at hv 3 (.slice (some ⟨w.heap.size + 3 + 1, 0, none⟩) 2 2)
  have hXg := (Below.heap_setCell W ⟨w.heap.size + 1, 3, none⟩ (.slice (some ⟨w.heap.size + 3 + 1, 0, none⟩) 2 2) w.heap.size (by simp)).trans hg
  have hXs : (W.setCell ⟨w.heap.size + 1, 3, none⟩ (.slice (some ⟨w.heap.size + 3 + 1, 0, none⟩) 2 2)).heap.size = W.heap.size := by simp [World.setCell]
  have hXB := hB0.setCell (p := ⟨w.heap.size + 1, 3, none⟩) (by show w.heap.size ≤ w.heap.size + 1; omega) (.slice (some ⟨w.heap.size + 3 + 1, 0, none⟩) 2 2)
  obtain ⟨X, hXX⟩ : ∃ X, W.setCell ⟨w.heap.size + 1, 3, none⟩ (.slice (some ⟨w.heap.size + 3 + 1, 0, none⟩) 2 2) = X := ⟨_, rfl⟩
  rw [hXX] at hX hXg hXs hXB ⊢
  clear hXX fs cs hB2 cb1 ca1 ca cb hc hg hv hB0
  rw [hsz] at hXs
  have zs : ((X.alloc (.cells #[.int .i64 7, .int .i64 2] 38)).alloc (.cells #[.int .i64 1, .int .i64 7, .int .i64 0, .int .i64 0, .slice (some ⟨w.heap.size + 3, 0, none⟩) 1 1, .int .i64 0, .int .i64 (colL.getD a 0), .int .i64 a, .int .i64 2, .int .i64 7, .int .i64 0, .int .i64 0, .slice none 0 0, .int .i64 0, .int .i64 (colL.getD b 0), .int .i64 b] 36)).drew.heap.size = w.heap.size + 5 := by show ((X.alloc (.cells #[.int .i64 7, .int .i64 2] 38)).alloc (.cells #[.int .i64 1, .int .i64 7, .int .i64 0, .int .i64 0, .slice (some ⟨w.heap.size + 3, 0, none⟩) 1 1, .int .i64 0, .int .i64 (colL.getD a 0), .int .i64 a, .int .i64 2, .int .i64 7, .int .i64 0, .int .i64 0, .slice none 0 0, .int .i64 0, .int .i64 (colL.getD b 0), .int .i64 b] 36)).heap.size = _; simp only [World.size_alloc, hXs]
  have zp : ((X.alloc (.cells #[.int .i64 7, .int .i64 2] 38)).alloc (.cells #[.int .i64 1, .int .i64 7, .int .i64 0, .int .i64 0, .slice (some ⟨w.heap.size + 3, 0, none⟩) 1 1, .int .i64 0, .int .i64 (colL.getD a 0), .int .i64 a, .int .i64 2, .int .i64 7, .int .i64 0, .int .i64 0, .slice none 0 0, .int .i64 0, .int .i64 (colL.getD b 0), .int .i64 b] 36)).drew.heap[w.heap.size + 3]? = some (.cells #[.int .i64 7, .int .i64 2] 38) := (Below.heap_alloc _ (.cells #[.int .i64 1, .int .i64 7, .int .i64 0, .int .i64 0, .slice (some ⟨w.heap.size + 3, 0, none⟩) 1 1, .int .i64 0, .int .i64 (colL.getD a 0), .int .i64 a, .int .i64 2, .int .i64 7, .int .i64 0, .int .i64 0, .slice none 0 0, .int .i64 0, .int .i64 (colL.getD b 0), .int .i64 b] 36) _ (by simp only [World.size_alloc, hXs]; omega)).trans (alloc_at' (.cells #[.int .i64 7, .int .i64 2] 38) hXs.symm)
  have zc : ((X.alloc (.cells #[.int .i64 7, .int .i64 2] 38)).alloc (.cells #[.int .i64 1, .int .i64 7, .int .i64 0, .int .i64 0, .slice (some ⟨w.heap.size + 3, 0, none⟩) 1 1, .int .i64 0, .int .i64 (colL.getD a 0), .int .i64 a, .int .i64 2, .int .i64 7, .int .i64 0, .int .i64 0, .slice none 0 0, .int .i64 0, .int .i64 (colL.getD b 0), .int .i64 b] 36)).drew.heap[w.heap.size + 3 + 1]? = some (.cells #[.int .i64 1, .int .i64 7, .int .i64 0, .int .i64 0, .slice (some ⟨w.heap.size + 3, 0, none⟩) 1 1, .int .i64 0, .int .i64 (colL.getD a 0), .int .i64 a, .int .i64 2, .int .i64 7, .int .i64 0, .int .i64 0, .slice none 0 0, .int .i64 0, .int .i64 (colL.getD b 0), .int .i64 b] 36) := alloc_at' (.cells #[.int .i64 1, .int .i64 7, .int .i64 0, .int .i64 0, .slice (some ⟨w.heap.size + 3, 0, none⟩) 1 1, .int .i64 0, .int .i64 (colL.getD a 0), .int .i64 a, .int .i64 2, .int .i64 7, .int .i64 0, .int .i64 0, .slice none 0 0, .int .i64 0, .int .i64 (colL.getD b 0), .int .i64 b] 36) (by simp only [World.size_alloc, hXs])
  have zg : ((X.alloc (.cells #[.int .i64 7, .int .i64 2] 38)).alloc (.cells #[.int .i64 1, .int .i64 7, .int .i64 0, .int .i64 0, .slice (some ⟨w.heap.size + 3, 0, none⟩) 1 1, .int .i64 0, .int .i64 (colL.getD a 0), .int .i64 a, .int .i64 2, .int .i64 7, .int .i64 0, .int .i64 0, .slice none 0 0, .int .i64 0, .int .i64 (colL.getD b 0), .int .i64 b] 36)).drew.heap[w.heap.size]? = some (.cells #[.int .i64 1, .int .i64 2] 3) := (Below.heap_alloc _ (.cells #[.int .i64 1, .int .i64 7, .int .i64 0, .int .i64 0, .slice (some ⟨w.heap.size + 3, 0, none⟩) 1 1, .int .i64 0, .int .i64 (colL.getD a 0), .int .i64 a, .int .i64 2, .int .i64 7, .int .i64 0, .int .i64 0, .slice none 0 0, .int .i64 0, .int .i64 (colL.getD b 0), .int .i64 b] 36) _ (by simp only [World.size_alloc, hXs]; omega)).trans ((Below.heap_alloc X (.cells #[.int .i64 7, .int .i64 2] 38) _ (by omega)).trans hXg)
  have zv : ((X.alloc (.cells #[.int .i64 7, .int .i64 2] 38)).alloc (.cells #[.int .i64 1, .int .i64 7, .int .i64 0, .int .i64 0, .slice (some ⟨w.heap.size + 3, 0, none⟩) 1 1, .int .i64 0, .int .i64 (colL.getD a 0), .int .i64 a, .int .i64 2, .int .i64 7, .int .i64 0, .int .i64 0, .slice none 0 0, .int .i64 0, .int .i64 (colL.getD b 0), .int .i64 b] 36)).drew.heap[w.heap.size + 1]? = some (.cells #[.int .i64 1, .int .i64 0, .int .i64 0, .slice (some ⟨w.heap.size + 3 + 1, 0, none⟩) 2 2, .slice none 0 0, .slice (some ⟨w.heap.size, 0, none⟩) 2 2, .slice none 0 0] 30) := (Below.heap_alloc _ (.cells #[.int .i64 1, .int .i64 7, .int .i64 0, .int .i64 0, .slice (some ⟨w.heap.size + 3, 0, none⟩) 1 1, .int .i64 0, .int .i64 (colL.getD a 0), .int .i64 a, .int .i64 2, .int .i64 7, .int .i64 0, .int .i64 0, .slice none 0 0, .int .i64 0, .int .i64 (colL.getD b 0), .int .i64 b] 36) _ (by simp only [World.size_alloc, hXs]; omega)).trans ((Below.heap_alloc X (.cells #[.int .i64 7, .int .i64 2] 38) _ (by omega)).trans hX)
  have zB : Below w.heap.size w ((X.alloc (.cells #[.int .i64 7, .int .i64 2] 38)).alloc (.cells #[.int .i64 1, .int .i64 7, .int .i64 0, .int .i64 0, .slice (some ⟨w.heap.size + 3, 0, none⟩) 1 1, .int .i64 0, .int .i64 (colL.getD a 0), .int .i64 a, .int .i64 2, .int .i64 7, .int .i64 0, .int .i64 0, .slice none 0 0, .int .i64 0, .int .i64 (colL.getD b 0), .int .i64 b] 36)).drew := pw_below_drewN ((hXB.alloc (by omega) (.cells #[.int .i64 7, .int .i64 2] 38)).alloc (by simp only [World.size_alloc, hXs]; omega) (.cells #[.int .i64 1, .int .i64 7, .int .i64 0, .int .i64 0, .slice (some ⟨w.heap.size + 3, 0, none⟩) 1 1, .int .i64 0, .int .i64 (colL.getD a 0), .int .i64 a, .int .i64 2, .int .i64 7, .int .i64 0, .int .i64 0, .slice none 0 0, .int .i64 0, .int .i64 (colL.getD b 0), .int .i64 b] 36)) 1
  obtain ⟨Z, hZ⟩ : ∃ Z, ((X.alloc (.cells #[.int .i64 7, .int .i64 2] 38)).alloc (.cells #[.int .i64 1, .int .i64 7, .int .i64 0, .int .i64 0, .slice (some ⟨w.heap.size + 3, 0, none⟩) 1 1, .int .i64 0, .int .i64 (colL.getD a 0), .int .i64 a, .int .i64 2, .int .i64 7, .int .i64 0, .int .i64 0, .slice none 0 0, .int .i64 0, .int .i64 (colL.getD b 0), .int .i64 b] 36)).drew = Z := ⟨_, rfl⟩
  rw [hZ] at zp zc zs zg zv zB
  have e0 : ((X.alloc (.cells #[.int .i64 7, .int .i64 2] 38)).alloc (.cells #[.int .i64 1, .int .i64 7, .int .i64 0, .int .i64 0, .slice (some ⟨w.heap.size + 3, 0, none⟩) 1 1, .int .i64 0, .int .i64 (colL[a]?.getD 0), .int .i64 a, .int .i64 2, .int .i64 7, .int .i64 0, .int .i64 0, .slice none 0 0, .int .i64 0, .int .i64 (colL[b]?.getD 0), .int .i64 b] 36)).drew = Z := hZ
  rw [e0]
  clear e0 hZ hX hXg hXs hXB
  have v0 := cell_at zv 0
  have v1 := cell_at zv 1
  have v2 := cell_at zv 2
  have v3 := cell_at zv 3
  have v4 := cell_at zv 4
  have v5 := cell_at zv 5
  have v6 := cell_at zv 6
  simp only [List.getElem?_toArray, List.getElem?_cons_zero, List.getElem?_cons_succ] at v0 v1 v2 v3 v4 v5 v6
  by_cases hw : a = 4 ∧ b ≤ 1 ∨ (a = 3 ∨ a = 6) ∧ b = 0
  · go_wp2_with (first
      | (go_at_call 17; refine (one_audit Z (w.heap.size + 3) (w.heap.size + 3 + 1) w.heap.size a b ha hb zp zg zc).mono ?_; rintro e w1 ⟨⟨x, cap, he⟩, hb1⟩; rw [if_pos hw] at he; subst he)
      | (go_at_call 15; refine (alive_calls _).mono ?_; rintro e w2 ⟨rfl, hb2⟩))
    all_goals first
      | (exfalso; omega)
      | (go_ret; exact ⟨rfl, (zB.trans (hb1.mono zB.size)).trans (hb2.mono (Nat.le_trans zB.size hb1.size))⟩)
  · go_wp2_with (first
      | (go_at_call 17; refine (one_audit Z (w.heap.size + 3) (w.heap.size + 3 + 1) w.heap.size a b ha hb zp zg zc).mono ?_; rintro e w1 ⟨⟨x, cap, he⟩, hb1⟩; rw [if_neg hw] at he; subst he)
      | (go_at_call 15; refine (alive_calls _).mono ?_; rintro e w2 ⟨rfl, hb2⟩))
    all_goals first
      | (exfalso; omega)
      | (go_ret; exact ⟨rfl, (zB.trans (hb1.mono zB.size)).trans (hb2.mono (Nat.le_trans zB.size hb1.size))⟩)
set_option maxHeartbeats 4000000 in
theorem one_calls (a b : Int) (w : World) : Calls Try.prog 6 #[.int .i64 a, .int .i64 b] w fun e w' => e = .returned (.bool true) ∧ Below w.heap.size w w' := by
  by_cases h1 : a < 0
  · go_enter Try.func6, Try.ntmps6
    go_wp2_with (go_at_call 15; refine (alive_calls _).mono ?_; rintro e w2 ⟨rfl, hb2⟩)
    go_ret
    exact ⟨rfl, hb2⟩
  by_cases h2 : 6 < a
  · go_enter Try.func6, Try.ntmps6
    go_wp2_with (go_at_call 15; refine (alive_calls _).mono ?_; rintro e w2 ⟨rfl, hb2⟩)
    go_ret
    exact ⟨rfl, hb2⟩
  by_cases h3 : b < 0
  · go_enter Try.func6, Try.ntmps6
    go_wp2_with (go_at_call 15; refine (alive_calls _).mono ?_; rintro e w2 ⟨rfl, hb2⟩)
    go_ret
    exact ⟨rfl, hb2⟩
  by_cases h4 : 6 < b
  · go_enter Try.func6, Try.ntmps6
    go_wp2_with (go_at_call 15; refine (alive_calls _).mono ?_; rintro e w2 ⟨rfl, hb2⟩)
    go_ret
    exact ⟨rfl, hb2⟩
  obtain ⟨n, rfl⟩ : ∃ n : Nat, a = n := ⟨a.toNat, by omega⟩
  obtain ⟨m, rfl⟩ : ∃ m : Nat, b = m := ⟨b.toNat, by omega⟩
  exact one_in w n m (by omega) (by omega)
end Go.Proofs.Ytpdhmfbpmbbmgaa.Mp
