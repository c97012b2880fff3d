/- slices.Backward over a slice of api.Seen: what its closure hands to a loop, the last element first. -/
import Derived.RangeFuncNested
import Derived.RangeFuncBound
import Derived.RangeFuncCalls
import Derived.RangeFuncLeaves
import Derived.Shelf.Abstract
import Derived.Shelf.RegionOpen
import Derived.WalkKit
import Derived.OwnWalkIn
import Derived.TacticsInMore
import Derived.LoopNIn
import Derived.LoopIn
import Derived.Test.YtpdhmfbpmbbmgaaMp
import Derived.Test.YtpdhmfbpmbbmgaaProg
namespace Go.Proofs.Ytpdhmfbpmbbmgaa.Mp
open Go.RowKit Go.Shelf
attribute [local go_sem] Oper.semAt_some
/-- an object as it lies in a slice of objects -/
structure Ob where
  h : Int
  kind : Int
  weak : Int
  arr : Int
  sa : Option Addr
  sn : Nat
  sc : Nat
  fin : Int
  col : Int
  age : Int
  wh : (Lit.int .i64 h).wf = true
  wk : (Lit.int .i64 kind).wf = true
def Ob.cells (x : Ob) : List Value := [.int .i64 x.h, .int .i64 x.kind, .int .i64 x.weak, .int .i64 x.arr, .slice x.sa x.sn x.sc, .int .i64 x.fin, .int .i64 x.col, .int .i64 x.age]
def Ob.val (x : Ob) : Value := .agg x.cells.toArray
/-- the objects of a slice lie from (b, off) on -/
def ObsAt (w : World) (b off : Nat) (xs : List Ob) : Prop := ∀ k (h : k < xs.length), ∀ j u, (xs[k]'h).cells[j]? = some u → w.cell? ⟨b, off + (k * 8 + j), none⟩ = some u
theorem ObsAt.below {n₀ : Nat} {A B : World} {b off : Nat} {xs : List Ob} (h : ObsAt A b off xs) (hb : b < n₀) (e : Below n₀ A B) : ObsAt B b off xs := fun k hk j u hu => (e.cell (p := ⟨b, off + (k * 8 + j), none⟩) hb).trans (h k hk j u hu)
def Ob.z : Ob := ⟨0, 0, 0, 0, none, 0, 0, 0, 0, 0, by decide, by decide⟩
theorem cell_same {A B : World} {i : Nat} (h : B.heap[i]? = A.heap[i]?) : B.cell? ⟨i, 0, none⟩ = A.cell? ⟨i, 0, none⟩ := by simp [World.cell?, h]
/-- what a round keeps: what lay below n₀, and the box that the iterator reads -/
def KpB (n₀ Bs : Nat) (A B : World) : Prop := Below n₀ A B ∧ B.cell? ⟨Bs, 0, none⟩ = A.cell? ⟨Bs, 0, none⟩
theorem KpB.refl (n₀ Bs : Nat) (A : World) : KpB n₀ Bs A A := ⟨Below.refl _ _, rfl⟩
theorem KpB.trans {n₀ Bs : Nat} {A B C : World} (h : KpB n₀ Bs A B) (k : KpB n₀ Bs B C) : KpB n₀ Bs A C := ⟨h.1.trans k.1, k.2.trans h.2⟩
theorem KpB.put {n₀ Bs : Nat} {w : World} (hn : n₀ ≤ w.heap.size) (hB : Bs < w.heap.size) (W : World) (l : Nat) (o o' : Obj) (hl : w.heap.size ≤ l) (h : W.heap[l]? = some o) (hc : o.isCells = false) (hw : o.isWalk = false) : KpB n₀ Bs W (W.putObj l o') :=
  ⟨belowK_b hn W l o o' hl h hc hw, cell_same (by show (W.heap.setIfInBounds l o')[Bs]? = _; rw [Array.getElem?_setIfInBounds_ne (by omega)])⟩
/-- what comes in round j, and what has come behind j rounds -/
def bAt (xs : List Ob) (j : Nat) : Int × Ob := ((xs.length : Int) - 1 - j, xs.getD (xs.length - 1 - j) Ob.z)
def bwd (xs : List Ob) (j : Nat) : List (Int × Ob) := (List.range j).map (bAt xs)
theorem bwd_succ (xs : List Ob) (j : Nat) : bwd xs (j + 1) = bwd xs j ++ [bAt xs j] := by simp [bwd, List.range_succ]
theorem bwd_length (xs : List Ob) (j : Nat) : (bwd xs j).length = j := by simp [bwd]
set_option maxRecDepth 100000 in
set_option maxHeartbeats 2000000 in
theorem bw1_in (F : Fence) (n : Nat) (h24 : F.fn 24) (hro : F.round = none) (hn : 1 ≤ n) (l Bs n₀ b off len cap : Nat) (xs : List Ob) (hl : xs.length = len) (hreach : len * 64 ≤ 140737488351232) (hb : b < n₀) (J Jx : List (Int × Ob) → World → Prop)
    (hY : ∀ pre x W, J pre W → pre.length < len → YieldAt F (n - 1) Try.prog l #[.int .i64 x.1, x.2.val] W fun e W' =>
      (e = .returned (.bool true) ∧ J (pre ++ [x]) W' ∧ KpB n₀ Bs W W') ∨ (e = .returned (.bool false) ∧ Jx (pre ++ [x]) W'))
    (W : World) (hBs : W.cell? ⟨Bs, 0, none⟩ = some (.slice (some ⟨b, off, none⟩) len cap)) (hc : ObsAt W b off xs) (h0 : J [] W) :
    CallsIn F n Try.prog 24 #[.func (.yield l) #[] #[], .pointer (some ⟨Bs, 0, none⟩)] W fun e W' => (∃ v, e = .returned v) ∧
      ((∃ ys, ys = bwd xs len ∧ J ys W') ∨ (∃ pre, (∃ k, k ≤ len ∧ pre = bwd xs k) ∧ Jx pre W')) := by
  refine callsIn_of_wp Try.func24 rfl h24 ?_ hro
  simp only [Try.ntmps24, List.size_toArray, List.length_cons, List.length_nil, Nat.reduceAdd, Nat.reduceSub, Array.replicate_succ, Array.replicate_zero, List.push_toArray, List.append_toArray, List.nil_append, List.cons_append]
  gi_wp2
  gi_loopw [3] (fun i wr => ∃ k : Nat, k ≤ len ∧ i = .int .i64 ((len : Int) - 1 - k) ∧ J (bwd xs k) wr ∧ KpB n₀ Bs W wr)
    (fun i _ => (intOf i + 1).toNat)
  case atStart =>
    exact ⟨0, Nat.zero_le _, by simp, h0, KpB.refl _ _ _⟩
  case round =>
    obtain ⟨k, hk, rfl, hJs, hnx⟩ := hrel
    by_cases hlt : k < len
    · obtain ⟨fn, tmps, assign, body, hy, hR⟩ := hY _ (bAt xs k) wr hJs (by rw [bwd_length]; exact hlt)
      have hBw := hnx.2.trans hBs
      have hcj : ∀ j u, (bAt xs k).2.cells[j]? = some u → wr.cell? ⟨b, off + (len - 1 - k) * 8 + j, none⟩ = some u := by
        intro j u hu
        have e : (bAt xs k).2 = xs[len - 1 - k]'(by omega) := by
          subst hl
          show xs.getD (xs.length - 1 - k) Ob.z = _
          rw [List.getD_eq_getElem?_getD, List.getElem?_eq_getElem (by omega)]; rfl
        rw [e] at hu
        have := (hnx.1.cell (p := ⟨b, off + ((len - 1 - k) * 8 + j), none⟩) hb).trans (hc (len - 1 - k) (by omega) j u hu)
        rw [Nat.add_assoc]; exact this
      have c0 := hcj 0 _ rfl
      rw [Nat.add_zero] at c0
      have c1 := hcj 1 _ rfl
      have c2 := hcj 2 _ rfl
      have c3 := hcj 3 _ rfl
      have c4 := hcj 4 _ rfl
      have c5 := hcj 5 _ rfl
      have c6 := hcj 6 _ rfl
      have c7 := hcj 7 _ rfl
      have e1 : (bAt xs k).1 = (len : Int) - 1 - k := by unfold bAt; rw [hl]
      rw [e1] at hy
      unfold Ob.val Ob.cells at hy
      gi_wp2
      refine hR.mono ?_
      rintro e W3 (⟨rfl, hJ3, hk3⟩ | ⟨rfl, hJx3⟩)
      · gi_wp2
        go_roundw
        case rel => exact ⟨k + 1, by omega, by congr 1; omega, by rw [bwd_succ]; exact hJ3, hnx.trans hk3⟩
        case measure => simp [intOf]; omega
      · gi_wp2
        refine bodyPost_ret (results_none rfl _ _ _) rfl ?_
        exact ⟨⟨_, rfl⟩, .inr ⟨_, ⟨k + 1, by omega, (bwd_succ _ _).symm⟩, hJx3⟩⟩
    · obtain rfl : k = len := by omega
      gi_wp2
      go_end0
      exact ⟨⟨_, rfl⟩, .inl ⟨_, rfl, hJs⟩⟩

set_option maxRecDepth 100000 in
set_option maxHeartbeats 2000000 in
theorem bw1_nil_in (F : Fence) (n : Nat) (h24 : F.fn 24) (hro : F.round = none) (l Bs c : Nat) (J : List (Int × Ob) → World → Prop) (W : World) (hBs : W.cell? ⟨Bs, 0, none⟩ = some (.slice none 0 c)) (h0 : J [] W) :
    CallsIn F n Try.prog 24 #[.func (.yield l) #[] #[], .pointer (some ⟨Bs, 0, none⟩)] W fun e W' => (∃ v, e = .returned v) ∧ J [] W' := by
  refine callsIn_of_wp Try.func24 rfl h24 ?_ hro
  simp only [Try.ntmps24, List.size_toArray, List.length_cons, List.length_nil, Nat.reduceAdd, Nat.reduceSub, Array.replicate_succ, Array.replicate_zero, List.push_toArray, List.append_toArray, List.nil_append, List.cons_append]
  gi_wp2
  gi_loopw [3] (fun i wr => i = .int .i64 (-1) ∧ J [] wr) (fun _ _ => 0)
  case atStart => exact ⟨rfl, h0⟩
  case round =>
    obtain ⟨rfl, hJs⟩ := hrel
    gi_wp2
    go_end0
    exact ⟨⟨_, rfl⟩, hJs⟩
set_option maxHeartbeats 1000000 in
theorem back_in (F : Fence) (n : Nat) (h21 : F.fn 21) (hro : F.round = none) (a : Option Addr) (len cap : Nat) (w : World) :
    CallsIn F n Try.prog 21 #[.slice a len cap] w fun e w' => e = .returned (.func (.func 24) #[] #[.pointer (some ⟨w.heap.size, 0, none⟩)]) ∧ w' = w.alloc (.cells #[.slice a len cap] 27) := by
  refine callsIn_of_wp Try.func21 rfl h21 ?_ hro
  simp only [Try.ntmps21, List.size_toArray, List.length_cons, List.length_nil, Nat.reduceAdd, Nat.reduceSub, Array.replicate_succ, Array.replicate_zero, List.push_toArray, List.append_toArray, List.nil_append, List.cons_append]
  gi_wp2
  go_ret
  exact ⟨rfl, rfl⟩
/-- a slice of objects -/
def Obs (n₀ : Nat) (w : World) (sv : Value) (xs : List Ob) : Prop := (∃ c, sv = .slice none 0 c ∧ xs = []) ∨ ∃ b off cap, sv = .slice (some ⟨b, off, none⟩) xs.length cap ∧ b < n₀ ∧ ObsAt w b off xs
theorem Obs.below {n₀ : Nat} {A B : World} {sv : Value} {xs : List Ob} (h : Obs n₀ A sv xs) (e : Below n₀ A B) : Obs n₀ B sv xs := by
  rcases h with h | ⟨b, off, cap, h1, h2, h3⟩
  · exact .inl h
  · exact .inr ⟨b, off, cap, h1, h2, h3.below h2 e⟩
theorem bw_stops (F : Fence) (n : Nat) (h24 : F.fn 24) (hro : F.round = none) (hn : 1 ≤ n) (Bs n₀ : Nat) (sv : Value) (xs : List Ob) (hreach : xs.length * 64 ≤ 140737488351232) (w : World) (hBs : Bs < w.heap.size) (hn₀ : n₀ ≤ w.heap.size)
    (hc : w.cell? ⟨Bs, 0, none⟩ = some sv) (hI : Obs n₀ w sv xs) :
    SeqStopsK F n Try.prog 24 #[.pointer (some ⟨Bs, 0, none⟩)] (fun x : Int × Ob => #[Value.int .i64 x.1, x.2.val]) (KpB n₀ Bs) (fun ys => ys = bwd xs xs.length)
      (fun pre => ∃ k, k ≤ xs.length ∧ pre = bwd xs k) xs.length w := fun l J Jx W hW _ _ hY h0 => by
  have hc' := (hW.cell (p := ⟨Bs, 0, none⟩) hBs).trans hc
  rcases hI.below (hW.mono hn₀) with ⟨c, rfl, rfl⟩ | ⟨b, off, cap, rfl, hb, hcs⟩
  · exact (bw1_nil_in F n h24 hro l Bs c J W hc' h0).mono fun e W' ⟨he, hj⟩ => ⟨he, .inl ⟨_, rfl, hj⟩⟩
  · exact bw1_in F n h24 hro hn l Bs n₀ b off xs.length cap xs rfl hreach hb J Jx hY W hc' hcs h0
end Go.Proofs.Ytpdhmfbpmbbmgaa.Mp
