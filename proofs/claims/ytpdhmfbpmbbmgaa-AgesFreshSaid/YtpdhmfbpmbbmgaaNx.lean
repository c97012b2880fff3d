/- ages.next and ages.Next: the map from each age to what comes behind it, and the look-up in it. -/
import Derived.Test.YtpdhmfbpmbbmgaaMp
import Derived.Test.YtpdhmfbpmbbmgaaProg
import Derived.Test.YtpdhmfbpmbbmgaaWWords
namespace Go.Proofs.Ytpdhmfbpmbbmgaa.Mp
open Go.RowKit Go.Proofs.YtpdhmfbpmbbmgaaW.PrintWords
noncomputable def nextM : Value → Option Value := put (put (put (put (put (put (put (fun _ => none) (.int .i64 0) (.int .i64 1)) (.int .i64 1) (.int .i64 3)) (.int .i64 2) (.int .i64 3)) (.int .i64 3) (.int .i64 4)) (.int .i64 4) (.int .i64 4)) (.int .i64 5) (.int .i64 6)) (.int .i64 6) (.int .i64 4)
theorem key3 (n : Int) (h : (Lit.int .i64 n).wf = true) : keyOf Try.prog 3 (.int .i64 n) = some (.int .i64 n) := Maps.keyOf_int_mk Try.underlying3 h
set_option maxHeartbeats 2000000 in
theorem next_calls (w : World) : Calls Try.prog 18 #[] w fun e w' => ∃ b, e = .returned (.map (some b)) ∧ MapIs w' Try.prog 3 b nextM ∧ Below w.heap.size w w' := by
  have hmm := @run_makeMap Try.prog
  have hown : MapIs (w.alloc (.map #[] 0)) Try.prog 3 w.heap.size (fun _ => none) := MapIs.made w 3
  have HB : Below w.heap.size w (w.alloc (.map #[] 0)) := (Below.refl _ w).alloc (Nat.le_refl _) _
  go_enter Try.func18, Try.ntmps18
  go_wp2_with (refine wp_update rfl _ _ _ _ (.inr rfl) (Maps.int_keyed Try.underlying3) Try.underlying43 rfl hown (key := .int .i64 _) (val := .int .i64 _) rfl rfl (key3 _ (by decide)) ?_; intro w1 hown' hu; have HB' := hu.below HB (Nat.le_refl _); clear hown HB hu; have hown := hown'; have HB := HB'; clear hown' HB')
  go_ret
  exact ⟨_, rfl, hown, HB⟩
def nextV (n : Int) : Int := if n = 0 then 1 else if n = 1 then 3 else if n = 2 then 3 else if n = 3 then 4 else if n = 4 then 4 else if n = 5 then 6 else if n = 6 then 4 else n
theorem nextM_at (n : Int) : nextM (.int .i64 n) = if 0 ≤ n ∧ n ≤ 6 then some (.int .i64 (nextV n)) else none := by
  have hne : ∀ m : Int, n ≠ m → (Value.int .i64 n) ≠ (Value.int .i64 m) := fun m h z => h (by cases z; rfl)
  unfold nextM nextV
  by_cases h6 : n = 6
  · subst h6; rw [put_same]; simp
  rw [put_ne (hne _ h6)]
  by_cases h5 : n = 5
  · subst h5; rw [put_same]; simp
  rw [put_ne (hne _ h5)]
  by_cases h4 : n = 4
  · subst h4; rw [put_same]; simp
  rw [put_ne (hne _ h4)]
  by_cases h3 : n = 3
  · subst h3; rw [put_same]; simp
  rw [put_ne (hne _ h3)]
  by_cases h2 : n = 2
  · subst h2; rw [put_same]; simp
  rw [put_ne (hne _ h2)]
  by_cases h1 : n = 1
  · subst h1; rw [put_same]; simp
  rw [put_ne (hne _ h1)]
  by_cases h0 : n = 0
  · subst h0; rw [put_same]; simp
  rw [put_ne (hne _ h0), if_neg (by omega)]
def ages_Next.f (a0 : Int) : Option (Int) := if (Lit.int .i64 a0).wf = true then some (nextV a0) else none
set_option maxHeartbeats 2000000 in
theorem ages_Next.calls (a0 : Int) (r : Int) (w : World) (h : ages_Next.f a0 = some r) :
    Calls Try.prog 7 #[.int .i64 a0] w fun e w' => e = .returned (.int .i64 r) ∧ Below w.heap.size w w' := by
  unfold ages_Next.f at h
  split at h
  case isFalse => cases h
  rename_i hw0
  obtain rfl := Option.some.inj h
  have hz : ∀ w, (zeroValue 3).run Try.prog w = .ok (.int .i64 0) w := fun w => by go_simp
  have hN := nextM_at a0
  by_cases hr : 0 ≤ a0 ∧ a0 ≤ 6
  · rw [if_pos hr] at hN
    go_enter Try.func7, Try.ntmps7
    go_wp2_with (go_at_call 18; refine (next_calls _).mono ?_; rintro e w1 ⟨b, rfl, hown, hb⟩; have hlk := hown.lookup (Maps.int_keyed Try.underlying3) Try.underlying43 hz (key3 _ hw0); rw [hN] at hlk; simp only [Option.getD_some, Option.isSome_some] at hlk)
    go_ret
    exact ⟨rfl, hb⟩
  · rw [if_neg hr] at hN
    have e0 : nextV a0 = a0 := by unfold nextV; repeat (rw [if_neg (by omega)])
    rw [e0]
    go_enter Try.func7, Try.ntmps7
    go_wp2_with (go_at_call 18; refine (next_calls _).mono ?_; rintro e w1 ⟨b, rfl, hown, hb⟩; have hlk := hown.lookup (Maps.int_keyed Try.underlying3) Try.underlying43 hz (key3 _ hw0); rw [hN] at hlk; simp only [Option.getD_none, Option.isSome_none] at hlk)
    go_ret
    exact ⟨rfl, hb⟩
end Go.Proofs.Ytpdhmfbpmbbmgaa.Mp
