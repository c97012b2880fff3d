/- The functions that ages.rules hands back: what they answer of a view and its objects. -/
import Derived.Test.YtpdhmfbpmbbmgaaRu
namespace Go.Proofs.Ytpdhmfbpmbbmgaa.Mp
open Go.RowKit Go.Proofs.YtpdhmfbpmbbmgaaW.PrintWords Go.Proofs.YtpdhmfbpmbbmgaaW.PrintLast
set_option maxHeartbeats 4000000 in
set_option maxRecDepth 100000 in
theorem fresh_calls (w : World) (h kind weak arr : Int) (sl : Value) (fin col age : Int) : Calls Try.prog 25 #[obV h kind weak arr sl fin col age] w fun e w' => e = .returned (.bool (age == 0)) ∧ Below w.heap.size w w' := by
  unfold obV
  go_enter Try.func25, Try.ntmps25
  go_wp2
  go_ret
  exact ⟨rfl, (Below.refl _ w).alloc (Nat.le_refl _) _⟩
set_option maxHeartbeats 4000000 in
set_option maxRecDepth 100000 in
theorem any_calls (w : World) (mode phase white : Int) (s3 s4 s5 s6 : Value) (h kind weak arr : Int) (sl : Value) (fin col age : Int) (h' kind' weak' arr' : Int) (sl' : Value) (fin' col' age' : Int) :
    Calls Try.prog 27 #[viewV mode phase white s3 s4 s5 s6, obV h kind weak arr sl fin col age, obV h' kind' weak' arr' sl' fin' col' age'] w fun e w' => e = .returned (.bool true) ∧ Below w.heap.size w w' := by
  unfold obV viewV
  go_enter Try.func27, Try.ntmps27
  go_wp2
  go_ret
  exact ⟨rfl, (((Below.refl _ w).alloc (Nat.le_refl _) _).alloc (by simp) _).alloc (by simp; omega) _⟩
set_option maxHeartbeats 4000000 in
set_option maxRecDepth 100000 in
theorem inc_calls (w : World) (mode phase white : Int) (s3 s4 s5 s6 : Value) (h kind weak arr : Int) (sl : Value) (fin col age : Int) (b : Nat) (hb : w.cell? ⟨b, 0, none⟩ = some (.func (.func 25) #[] #[])) :
    Calls Try.prog 26 #[viewV mode phase white s3 s4 s5 s6, obV h kind weak arr sl fin col age, .pointer (some ⟨b, 0, none⟩)] w fun e w' => e = .returned (.bool (decide (age = 0 ∧ col = white))) ∧ Below w.heap.size w w' := by
  unfold obV viewV
  have hb1 := (((Below.refl w.heap.size w).alloc (Nat.le_refl _) (.cells #[.int .i64 mode, .int .i64 phase, .int .i64 white, s3, s4, s5, s6] 30)).alloc (by simp) (.cells #[.int .i64 h, .int .i64 kind, .int .i64 weak, .int .i64 arr, sl, .int .i64 fin, .int .i64 col, .int .i64 age] 36))
  have hbl : b < w.heap.size := by
    unfold World.cell? at hb
    split at hb
    · rename_i q; exact (Array.getElem?_eq_some_iff.1 q).1
    · cases hb
  have hc := (hb1.cell (p := ⟨b, 0, none⟩) hbl).trans hb
  go_enter Try.func26, Try.ntmps26
  go_wp2
  all_goals go_ret
  all_goals refine ⟨?_, (((Below.refl _ w).alloc (Nat.le_refl _) _).alloc (by simp) _).alloc (by simp; omega) _⟩
  all_goals simp_all
  all_goals (by_cases hq : col = white <;> simp [hq])
def leadsV (a b : Int) : Bool := if a = 4 then !(b == 0 || b == 1) else if a = 3 ∨ a = 6 then b != 0 else true
set_option maxHeartbeats 8000000 in
set_option maxRecDepth 100000 in
theorem leads_calls (w : World) (mode phase white : Int) (s3 s4 s5 s6 : Value) (h kind weak arr : Int) (sl : Value) (fin col age : Int) (h' kind' weak' arr' : Int) (sl' : Value) (fin' col' age' : Int) :
    Calls Try.prog 33 #[viewV mode phase white s3 s4 s5 s6, obV h kind weak arr sl fin col age, obV h' kind' weak' arr' sl' fin' col' age'] w fun e w' => e = .returned (.bool (leadsV age age')) ∧ Below w.heap.size w w' := by
  unfold obV viewV
  have HB := (((Below.refl w.heap.size w).alloc (Nat.le_refl _) (.cells #[.int .i64 mode, .int .i64 phase, .int .i64 white, s3, s4, s5, s6] 30)).alloc (by simp) (.cells #[.int .i64 h, .int .i64 kind, .int .i64 weak, .int .i64 arr, sl, .int .i64 fin, .int .i64 col, .int .i64 age] 36)).alloc (by simp; omega) (.cells #[.int .i64 h', .int .i64 kind', .int .i64 weak', .int .i64 arr', sl', .int .i64 fin', .int .i64 col', .int .i64 age'] 36)
  go_enter Try.func33, Try.ntmps33
  go_wp2
  all_goals go_ret
  all_goals refine ⟨?_, by first | exact (((Below.refl _ w).alloc (Nat.le_refl _) _).alloc (by simp) _).alloc (by simp; omega) _ | (repeat apply pw_below_drewN); exact (((Below.refl _ w).alloc (Nat.le_refl _) _).alloc (by simp) _).alloc (by simp; omega) _⟩
  all_goals (unfold leadsV; simp_all)
def agedV (white : Int) (c : Bool) (col age : Int) : Bool :=
  if age = 0 ∨ age = 1 then col == white else if age = 5 then (col == 2) && c else if age = 2 then col == 2 || col == 3 else if age = 3 ∨ age = 4 ∨ age = 6 then col == 3 else false
set_option maxHeartbeats 8000000 in
set_option maxRecDepth 100000 in
theorem aged_calls (w : World) (mode phase white : Int) (s3 s4 s5 s6 : Value) (h kind weak arr : Int) (sl : Value) (fin col age : Int) (c : Bool)
    (hcon : ∀ W, Below w.heap.size w W → Calls Try.prog 35 #[s5, .int .i64 h] W fun e w' => e = .returned (.bool c) ∧ Below W.heap.size W w') :
    Calls Try.prog 32 #[viewV mode phase white s3 s4 s5 s6, obV h kind weak arr sl fin col age] w fun e w' => e = .returned (.bool (agedV white c col age)) ∧ Below w.heap.size w w' := by
  unfold obV viewV
  go_enter Try.func32, Try.ntmps32
  go_wp2_with (go_at_call 35; refine (hcon _ (((Below.refl _ w).alloc (Nat.le_refl _) _).alloc (by simp) _)).mono ?_; rintro e w1 ⟨rfl, hb⟩)
  all_goals go_ret
  all_goals refine ⟨?_, by first | exact ((Below.refl _ w).alloc (Nat.le_refl _) _).alloc (by simp) _ | exact (((Below.refl _ w).alloc (Nat.le_refl _) _).alloc (by simp) _).trans (hb.mono (by simp; omega)) | ((repeat apply pw_below_drewN); exact ((Below.refl _ w).alloc (Nat.le_refl _) _).alloc (by simp) _)⟩
  all_goals (unfold agedV; simp_all)
end Go.Proofs.Ytpdhmfbpmbbmgaa.Mp
