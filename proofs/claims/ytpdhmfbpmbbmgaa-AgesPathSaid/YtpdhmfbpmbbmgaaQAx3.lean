-- WRITTEN BY wip/tools/myprint.py, a program of this session, over the kit's printer
import Derived.Test.YtpdhmfbpmbbmgaaQAx0
import Derived.Test.YtpdhmfbpmbbmgaaQAx1
import Derived.Test.YtpdhmfbpmbbmgaaQAx2
namespace Go.Proofs.Ytpdhmfbpmbbmgaa.QA
open Go.RowKit Go.Proofs.YtpdhmfbpmbbmgaaW.PrintWords Go.Proofs.YtpdhmfbpmbbmgaaW.PrintLast Go.Proofs.YtpdhmfbpmbbmgaaW.PrintMore
attribute [local go_sem] max2_int min2_int max_two min_two max_three min_three max_four min_four   -- for this text's walks alone
set_option linter.unusedVariables false
set_option linter.unusedSimpArgs false

/-! ### heirloomlaw12_AgesPath: function 4 -/
mutual
def heirloomlaw12_AgesPath.j0 : Nat → Int → Bool → Option (Bool)
  | 0, _, _ => none
  | k + 1, x0, x10 => if x10 = true then ((ages_Next.f x0).bind fun t130 => (if t130 = x0 then ((ages_Old.f x0).bind fun t131 => (if t131 = true then (some false) else ((heirloomlaw12_alive.f).bind fun t132 => (some t132)))) else (some false))) else ((ages_Next.f x0).bind fun t133 => ((ages_Next.f t133).bind fun t134 => ((ages_Next.f t134).bind fun t135 => ((ages_Back.f x0).bind fun t136 => (if t135 = 4 then ((ages_Next.f t135).bind fun t137 => (if t137 = 4 then ((ages_Old.f x0).bind fun t138 => (if t138 = true then (if t136 = 5 then ((ages_Next.f t136).bind fun t139 => ((ages_Next.f t139).bind fun t140 => (if t140 = 4 then ((ages_Old.f x0).bind fun t141 => (if t141 = true then (heirloomlaw12_AgesPath.j1 k x0 false) else (heirloomlaw12_AgesPath.j1 k x0 (t136 != x0)))) else (heirloomlaw12_AgesPath.j1 k x0 true)))) else (heirloomlaw12_AgesPath.j1 k x0 true)) else ((ages_Old.f x0).bind fun t142 => (if t142 = true then (heirloomlaw12_AgesPath.j1 k x0 false) else (heirloomlaw12_AgesPath.j1 k x0 (t136 != x0)))))) else (heirloomlaw12_AgesPath.j1 k x0 true))) else (heirloomlaw12_AgesPath.j1 k x0 true))))))
def heirloomlaw12_AgesPath.j1 : Nat → Int → Bool → Option (Bool)
  | 0, _, _ => none
  | k + 1, x0, x59 => if x59 = true then (some false) else ((ages_Old.f x0).bind fun t143 => (if t143 = true then ((ages_Next.f x0).bind fun t144 => ((ages_Old.f t144).bind fun t145 => (if t145 = true then ((heirloomlaw12_alive.f).bind fun t146 => (some t146)) else (some false)))) else ((heirloomlaw12_alive.f).bind fun t147 => (some t147))))
end
def heirloomlaw12_AgesPath.f (k : Nat) (a0 : Int) : Option (Bool) := if a0 < 0 then (heirloomlaw12_AgesPath.j0 k a0 true) else (heirloomlaw12_AgesPath.j0 k a0 (decide (a0 > 6)))
theorem heirloomlaw12_AgesPath.mono_l : ∀ k, (∀ y0 y1, LeO (heirloomlaw12_AgesPath.j0 k y0 y1) (heirloomlaw12_AgesPath.j0 (k + 1) y0 y1)) ∧ (∀ y0 y1, LeO (heirloomlaw12_AgesPath.j1 k y0 y1) (heirloomlaw12_AgesPath.j1 (k + 1) y0 y1))
  | 0 => ⟨fun _ _ r h => by simp [heirloomlaw12_AgesPath.j0] at h, fun _ _ r h => by simp [heirloomlaw12_AgesPath.j1] at h⟩
  | k + 1 => by
    obtain ⟨ih0, ih1⟩ := heirloomlaw12_AgesPath.mono_l k
    refine ⟨?_, ?_⟩
    · intro y0 y1
      unfold heirloomlaw12_AgesPath.j0
      repeat' first
      | (with_reducible exact ih0 _ _)
      | (with_reducible exact ih1 _ _)
      | (with_reducible exact LeO.refl _)
      | (with_reducible exact LeO.none _)
      | (with_reducible refine LeO.ite ?_ ?_)
      | (with_reducible refine LeO.bind ?_ (fun _ => ?_))
      | exact ih0 _ _
      | exact ih1 _ _
      | exact LeO.none _
      | refine LeO.ite ?_ ?_
      | refine LeO.bind ?_ (fun _ => ?_)
    · intro y0 y1
      unfold heirloomlaw12_AgesPath.j1
      repeat' first
      | (with_reducible exact ih0 _ _)
      | (with_reducible exact ih1 _ _)
      | (with_reducible exact LeO.refl _)
      | (with_reducible exact LeO.none _)
      | (with_reducible refine LeO.ite ?_ ?_)
      | (with_reducible refine LeO.bind ?_ (fun _ => ?_))
      | exact ih0 _ _
      | exact ih1 _ _
      | exact LeO.none _
      | refine LeO.ite ?_ ?_
      | refine LeO.bind ?_ (fun _ => ?_)
theorem heirloomlaw12_AgesPath.mono : ∀ a0 k, LeO (heirloomlaw12_AgesPath.f k a0) (heirloomlaw12_AgesPath.f (k + 1) a0) := by
  intro a0 k
  obtain ⟨ih0, ih1⟩ := heirloomlaw12_AgesPath.mono_l k
  unfold heirloomlaw12_AgesPath.f
  repeat' first
      | (with_reducible exact ih0 _ _)
      | (with_reducible exact ih1 _ _)
      | (with_reducible exact LeO.refl _)
      | (with_reducible exact LeO.none _)
      | (with_reducible refine LeO.ite ?_ ?_)
      | (with_reducible refine LeO.bind ?_ (fun _ => ?_))
      | exact ih0 _ _
      | exact ih1 _ _
      | exact LeO.none _
      | refine LeO.ite ?_ ?_
      | refine LeO.bind ?_ (fun _ => ?_)
set_option maxHeartbeats 8000000 in
set_option maxRecDepth 100000 in
theorem heirloomlaw12_AgesPath.calls (k : Nat) (a0 : Int) (r : Bool) (w : World) (h : heirloomlaw12_AgesPath.f k a0 = some r) :
    Calls Try.prog 4 #[.int .i64 a0] w fun e w' => e = .returned (.bool r) ∧ Below w.heap.size w w' := by
  have HB := Aside0.mk (Below.refl w.heap.size w)
  have H : (if a0 < 0 then (heirloomlaw12_AgesPath.j0 k a0 true) else (heirloomlaw12_AgesPath.j0 k a0 (decide (a0 > 6)))) = some r := h
  clear h
  have HC2 := Aside0.mk H
  clear H
  go_enter Try.func4, Try.ntmps4
  go_upto_region 1 with (fail)
  go_cut [10] (fun v10 wc => ∃ (kq : Nat) (x10_1 : Bool), v10 = .bool x10_1 ∧ Aside0 (heirloomlaw12_AgesPath.j0 kq a0 x10_1 = some r) ∧ Aside0 (kq ≤ k) ∧ Aside0 (Below w.heap.size w wc))
  case first =>
    have H := HC2.out
    clear HC2
    by_cases c3 : a0 < 0
    · rw [if_pos c3] at H
      have c3b0 : decide (a0 < 0) = true := decide_eq_true c3
      clear c3
      (first | rw [c3b0] | (simp only [i64_w, i32_w]; rw [c3b0]) | skip)
      have H' := Aside0.mk H
      clear H
      go_wp2
      go_meet
      case rel => exact ⟨_, (true), (by first | rfl | (simp; done) | (simp [*]; done)), H', ⟨by first | omega | exact Nat.le_refl _⟩, ⟨by repeat (first | (with_reducible first | exact HB.out | apply below_alloc | apply pw_below_drewN | apply below_drew1) | exact HB.out)⟩⟩
    · rw [if_neg c3] at H
      have c3b0 : decide (a0 < 0) = false := decide_eq_false c3
      clear c3
      (first | rw [c3b0] | (simp only [i64_w, i32_w]; rw [c3b0]) | skip)
      have H' := Aside0.mk H
      clear H
      go_wp2
      go_meet
      case rel => exact ⟨_, (decide (a0 > 6)), (by first | rfl | (simp; done) | (simp [*]; done)), H', ⟨by first | omega | exact Nat.le_refl _⟩, ⟨by repeat (first | (with_reducible first | exact HB.out | apply below_alloc | apply pw_below_drewN | apply below_drew1) | exact HB.out)⟩⟩
  case rest =>
    clear HC2
    try clear p2
    try clear c3
    try clear c3b0
    obtain ⟨kq, x10_1, rfl, HA, HJ1, HB⟩ := hcut
    cases kq with
    | zero => exact absurd HA.out (by simp [heirloomlaw12_AgesPath.j0])
    | succ kj1 =>
      have H := HA.out
      clear HA
      simp only [heirloomlaw12_AgesPath.j0] at H
      by_cases c4 : x10_1 = true
      · subst c4
        have H1 : ((ages_Next.f a0).bind fun t130 => (if t130 = a0 then ((ages_Old.f a0).bind fun t131 => (if t131 = true then (some false) else ((heirloomlaw12_alive.f).bind fun t132 => (some t132)))) else (some false))) = some r := by rw [if_pos rfl] at H; exact H
        clear H
        have H := H1
        clear H1
        replace H := Option.bind_eq_some_iff.mp H
        obtain ⟨t130, A50, H⟩ := H
        replace H : (if t130 = a0 then ((ages_Old.f a0).bind fun t131 => (if t131 = true then (some false) else ((heirloomlaw12_alive.f).bind fun t132 => (some t132)))) else (some false)) = some r := H
        have A5 := Aside0.mk A50
        clear A50
        by_cases c6 : t130 = a0
        · rw [if_pos c6] at H
          have c6b0 : (t130 == a0) = true := beq_iff_eq.mpr c6
          have c6b1 : (t130 != a0) = false := bne_eq_false_iff_eq.mpr c6
          clear c6
          replace H := Option.bind_eq_some_iff.mp H
          obtain ⟨t131, A70, H⟩ := H
          replace H : (if t131 = true then (some false) else ((heirloomlaw12_alive.f).bind fun t132 => (some t132))) = some r := H
          have A7 := Aside0.mk A70
          clear A70
          by_cases c8 : t131 = true
          · subst c8
            have H1 : (some false) = some r := by rw [if_pos rfl] at H; exact H
            clear H
            have H := H1
            clear H1
            obtain rfl := Option.some.inj H
            go_wp2_with (first | ((with_reducible refine gate_callee (f := 7) rfl ?_); refine goesL_ (some 12) rfl rfl Try.func7 (by kernel_rfl) rfl #[.int .i64 a0] rfl (by (try simp only [List.map_toArray, List.map_cons, List.map_nil]); first | done | rfl | (simp only [List.length_drop, List.length_take]; rfl)) ?_; (with_reducible refine (ages_Next.calls a0 t130 _ A5.out).mono ?_); rintro e w9 ⟨rfl, hb⟩; refine ⟨_, rfl, ?_⟩; have n0_ := Aside0.mk (below_step (by repeat (first | (with_reducible first | exact HB.out | apply below_alloc | apply pw_below_drewN | apply below_drew1) | exact HB.out)) hb); clear HB; have HB := n0_; clear n0_; (try clear hb); (try clear hb2); (try clear hk); (try clear hi)) | (go_at_call 9; (with_reducible refine (ages_Old.calls a0 true _ A7.out).mono ?_); rintro e w' ⟨rfl, ⟨nd, rfl⟩⟩))
            go_ret
            exact ⟨by first | rfl | (simp [errW_none, errW_some] <;> rfl) | (simp [*, errW_none, errW_some] <;> rfl), by repeat (first | (with_reducible first | exact HB.out | apply below_alloc | apply pw_below_drewN | apply below_drew1) | exact HB.out)⟩
          · replace c8 := Bool.eq_false_iff.mpr c8
            subst c8
            have H1 : ((heirloomlaw12_alive.f).bind fun t132 => (some t132)) = some r := by rw [if_neg (show ¬ (false = true) by decide)] at H; exact H
            clear H
            have H := H1
            clear H1
            replace H := Option.bind_eq_some_iff.mp H
            obtain ⟨t132, A100, H⟩ := H
            replace H : (some t132) = some r := H
            have A10 := Aside0.mk A100
            clear A100
            obtain rfl := Option.some.inj H
            go_wp2_with (first | ((with_reducible refine gate_callee (f := 7) rfl ?_); refine goesL_ (some 12) rfl rfl Try.func7 (by kernel_rfl) rfl #[.int .i64 a0] rfl (by (try simp only [List.map_toArray, List.map_cons, List.map_nil]); first | done | rfl | (simp only [List.length_drop, List.length_take]; rfl)) ?_; (with_reducible refine (ages_Next.calls a0 t130 _ A5.out).mono ?_); rintro e w11 ⟨rfl, hb⟩; refine ⟨_, rfl, ?_⟩; have n0_ := Aside0.mk (below_step (by repeat (first | (with_reducible first | exact HB.out | apply below_alloc | apply pw_below_drewN | apply below_drew1) | exact HB.out)) hb); clear HB; have HB := n0_; clear n0_; (try clear hb); (try clear hb2); (try clear hk); (try clear hi)) | (go_at_call 9; (with_reducible refine (ages_Old.calls a0 false _ A7.out).mono ?_); rintro e w' ⟨rfl, ⟨nd, rfl⟩⟩) | (go_at_call 15; (with_reducible refine (heirloomlaw12_alive.calls  t132 _ A10.out).mono ?_); rintro e w12 ⟨rfl, hb⟩; have n0_ := Aside0.mk (below_step (by repeat (first | (with_reducible first | exact HB.out | apply below_alloc | apply pw_below_drewN | apply below_drew1) | exact HB.out)) hb); clear HB; have HB := n0_; clear n0_; (try clear hb); (try clear hb2); (try clear hk); (try clear hi)))
            go_ret
            exact ⟨by first | rfl | (simp [errW_none, errW_some] <;> rfl) | (simp [*, errW_none, errW_some] <;> rfl), by repeat (first | (with_reducible first | exact HB.out | apply below_alloc | apply pw_below_drewN | apply below_drew1) | exact HB.out)⟩
        · rw [if_neg c6] at H
          have c6b0 : (t130 == a0) = false := beq_eq_false_iff_ne.mpr c6
          have c6b1 : (t130 != a0) = true := bne_iff_ne.mpr c6
          obtain rfl := Option.some.inj H
          go_wp2_with (first | ((with_reducible refine gate_callee (f := 7) rfl ?_); refine goesL_ (some 12) rfl rfl Try.func7 (by kernel_rfl) rfl #[.int .i64 a0] rfl (by (try simp only [List.map_toArray, List.map_cons, List.map_nil]); first | done | rfl | (simp only [List.length_drop, List.length_take]; rfl)) ?_; (with_reducible refine (ages_Next.calls a0 t130 _ A5.out).mono ?_); rintro e w13 ⟨rfl, hb⟩; refine ⟨_, rfl, ?_⟩; have n0_ := Aside0.mk (below_step (by repeat (first | (with_reducible first | exact HB.out | apply below_alloc | apply pw_below_drewN | apply below_drew1) | exact HB.out)) hb); clear HB; have HB := n0_; clear n0_; (try clear hb); (try clear hb2); (try clear hk); (try clear hi)))
          go_ret
          exact ⟨by first | rfl | (simp [errW_none, errW_some] <;> rfl) | (simp [*, errW_none, errW_some] <;> rfl), by repeat (first | (with_reducible first | exact HB.out | apply below_alloc | apply pw_below_drewN | apply below_drew1) | exact HB.out)⟩
      · replace c4 := Bool.eq_false_iff.mpr c4
        subst c4
        have H1 : ((ages_Next.f a0).bind fun t133 => ((ages_Next.f t133).bind fun t134 => ((ages_Next.f t134).bind fun t135 => ((ages_Back.f a0).bind fun t136 => (if t135 = 4 then ((ages_Next.f t135).bind fun t137 => (if t137 = 4 then ((ages_Old.f a0).bind fun t138 => (if t138 = true then (if t136 = 5 then ((ages_Next.f t136).bind fun t139 => ((ages_Next.f t139).bind fun t140 => (if t140 = 4 then ((ages_Old.f a0).bind fun t141 => (if t141 = true then (heirloomlaw12_AgesPath.j1 kj1 a0 false) else (heirloomlaw12_AgesPath.j1 kj1 a0 (t136 != a0)))) else (heirloomlaw12_AgesPath.j1 kj1 a0 true)))) else (heirloomlaw12_AgesPath.j1 kj1 a0 true)) else ((ages_Old.f a0).bind fun t142 => (if t142 = true then (heirloomlaw12_AgesPath.j1 kj1 a0 false) else (heirloomlaw12_AgesPath.j1 kj1 a0 (t136 != a0)))))) else (heirloomlaw12_AgesPath.j1 kj1 a0 true))) else (heirloomlaw12_AgesPath.j1 kj1 a0 true)))))) = some r := by rw [if_neg (show ¬ (false = true) by decide)] at H; exact H
        clear H
        have H := H1
        clear H1
        replace H := Option.bind_eq_some_iff.mp H
        obtain ⟨t133, A140, H⟩ := H
        replace H : ((ages_Next.f t133).bind fun t134 => ((ages_Next.f t134).bind fun t135 => ((ages_Back.f a0).bind fun t136 => (if t135 = 4 then ((ages_Next.f t135).bind fun t137 => (if t137 = 4 then ((ages_Old.f a0).bind fun t138 => (if t138 = true then (if t136 = 5 then ((ages_Next.f t136).bind fun t139 => ((ages_Next.f t139).bind fun t140 => (if t140 = 4 then ((ages_Old.f a0).bind fun t141 => (if t141 = true then (heirloomlaw12_AgesPath.j1 kj1 a0 false) else (heirloomlaw12_AgesPath.j1 kj1 a0 (t136 != a0)))) else (heirloomlaw12_AgesPath.j1 kj1 a0 true)))) else (heirloomlaw12_AgesPath.j1 kj1 a0 true)) else ((ages_Old.f a0).bind fun t142 => (if t142 = true then (heirloomlaw12_AgesPath.j1 kj1 a0 false) else (heirloomlaw12_AgesPath.j1 kj1 a0 (t136 != a0)))))) else (heirloomlaw12_AgesPath.j1 kj1 a0 true))) else (heirloomlaw12_AgesPath.j1 kj1 a0 true))))) = some r := H
        have A14 := Aside0.mk A140
        clear A140
        replace H := Option.bind_eq_some_iff.mp H
        obtain ⟨t134, A150, H⟩ := H
        replace H : ((ages_Next.f t134).bind fun t135 => ((ages_Back.f a0).bind fun t136 => (if t135 = 4 then ((ages_Next.f t135).bind fun t137 => (if t137 = 4 then ((ages_Old.f a0).bind fun t138 => (if t138 = true then (if t136 = 5 then ((ages_Next.f t136).bind fun t139 => ((ages_Next.f t139).bind fun t140 => (if t140 = 4 then ((ages_Old.f a0).bind fun t141 => (if t141 = true then (heirloomlaw12_AgesPath.j1 kj1 a0 false) else (heirloomlaw12_AgesPath.j1 kj1 a0 (t136 != a0)))) else (heirloomlaw12_AgesPath.j1 kj1 a0 true)))) else (heirloomlaw12_AgesPath.j1 kj1 a0 true)) else ((ages_Old.f a0).bind fun t142 => (if t142 = true then (heirloomlaw12_AgesPath.j1 kj1 a0 false) else (heirloomlaw12_AgesPath.j1 kj1 a0 (t136 != a0)))))) else (heirloomlaw12_AgesPath.j1 kj1 a0 true))) else (heirloomlaw12_AgesPath.j1 kj1 a0 true)))) = some r := H
        have A15 := Aside0.mk A150
        clear A150
        replace H := Option.bind_eq_some_iff.mp H
        obtain ⟨t135, A160, H⟩ := H
        replace H : ((ages_Back.f a0).bind fun t136 => (if t135 = 4 then ((ages_Next.f t135).bind fun t137 => (if t137 = 4 then ((ages_Old.f a0).bind fun t138 => (if t138 = true then (if t136 = 5 then ((ages_Next.f t136).bind fun t139 => ((ages_Next.f t139).bind fun t140 => (if t140 = 4 then ((ages_Old.f a0).bind fun t141 => (if t141 = true then (heirloomlaw12_AgesPath.j1 kj1 a0 false) else (heirloomlaw12_AgesPath.j1 kj1 a0 (t136 != a0)))) else (heirloomlaw12_AgesPath.j1 kj1 a0 true)))) else (heirloomlaw12_AgesPath.j1 kj1 a0 true)) else ((ages_Old.f a0).bind fun t142 => (if t142 = true then (heirloomlaw12_AgesPath.j1 kj1 a0 false) else (heirloomlaw12_AgesPath.j1 kj1 a0 (t136 != a0)))))) else (heirloomlaw12_AgesPath.j1 kj1 a0 true))) else (heirloomlaw12_AgesPath.j1 kj1 a0 true))) = some r := H
        have A16 := Aside0.mk A160
        clear A160
        replace H := Option.bind_eq_some_iff.mp H
        obtain ⟨t136, A170, H⟩ := H
        replace H : (if t135 = 4 then ((ages_Next.f t135).bind fun t137 => (if t137 = 4 then ((ages_Old.f a0).bind fun t138 => (if t138 = true then (if t136 = 5 then ((ages_Next.f t136).bind fun t139 => ((ages_Next.f t139).bind fun t140 => (if t140 = 4 then ((ages_Old.f a0).bind fun t141 => (if t141 = true then (heirloomlaw12_AgesPath.j1 kj1 a0 false) else (heirloomlaw12_AgesPath.j1 kj1 a0 (t136 != a0)))) else (heirloomlaw12_AgesPath.j1 kj1 a0 true)))) else (heirloomlaw12_AgesPath.j1 kj1 a0 true)) else ((ages_Old.f a0).bind fun t142 => (if t142 = true then (heirloomlaw12_AgesPath.j1 kj1 a0 false) else (heirloomlaw12_AgesPath.j1 kj1 a0 (t136 != a0)))))) else (heirloomlaw12_AgesPath.j1 kj1 a0 true))) else (heirloomlaw12_AgesPath.j1 kj1 a0 true)) = some r := H
        have A17 := Aside0.mk A170
        clear A170
        have HC18 := Aside0.mk H
        clear H
        go_upto_region 5 with (first | ((with_reducible refine gate_callee (f := 7) rfl ?_); refine goesL_ (some 24) rfl rfl Try.func7 (by kernel_rfl) rfl #[.int .i64 a0] rfl (by (try simp only [List.map_toArray, List.map_cons, List.map_nil]); first | done | rfl | (simp only [List.length_drop, List.length_take]; rfl)) ?_; (with_reducible refine (ages_Next.calls a0 t133 _ A14.out).mono ?_); rintro e w19 ⟨rfl, hb⟩; refine ⟨_, rfl, ?_⟩; have n0_ := Aside0.mk (below_step (by repeat (first | (with_reducible first | exact HB.out | apply below_alloc | apply pw_below_drewN | apply below_drew1) | exact HB.out)) hb); clear HB; have HB := n0_; clear n0_; (try clear hb); (try clear hb2); (try clear hk); (try clear hi)) | ((with_reducible refine gate_callee (f := 7) rfl ?_); refine goesL_ (some 25) rfl rfl Try.func7 (by kernel_rfl) rfl #[.int .i64 t133] rfl (by (try simp only [List.map_toArray, List.map_cons, List.map_nil]); first | done | rfl | (simp only [List.length_drop, List.length_take]; rfl)) ?_; (with_reducible refine (ages_Next.calls t133 t134 _ A15.out).mono ?_); rintro e w20 ⟨rfl, hb⟩; refine ⟨_, rfl, ?_⟩; have n0_ := Aside0.mk (below_step (by repeat (first | (with_reducible first | exact HB.out | apply below_alloc | apply pw_below_drewN | apply below_drew1) | exact HB.out)) hb); clear HB; have HB := n0_; clear n0_; (try clear hb); (try clear hb2); (try clear hk); (try clear hi)) | ((with_reducible refine gate_callee (f := 7) rfl ?_); refine goesL_ (some 26) rfl rfl Try.func7 (by kernel_rfl) rfl #[.int .i64 t134] rfl (by (try simp only [List.map_toArray, List.map_cons, List.map_nil]); first | done | rfl | (simp only [List.length_drop, List.length_take]; rfl)) ?_; (with_reducible refine (ages_Next.calls t134 t135 _ A16.out).mono ?_); rintro e w21 ⟨rfl, hb⟩; refine ⟨_, rfl, ?_⟩; have n0_ := Aside0.mk (below_step (by repeat (first | (with_reducible first | exact HB.out | apply below_alloc | apply pw_below_drewN | apply below_drew1) | exact HB.out)) hb); clear HB; have HB := n0_; clear n0_; (try clear hb); (try clear hb2); (try clear hk); (try clear hi)) | ((with_reducible refine gate_callee (f := 11) rfl ?_); refine goesL_ (some 28) rfl rfl Try.func11 (by kernel_rfl) rfl #[.int .i64 a0] rfl (by (try simp only [List.map_toArray, List.map_cons, List.map_nil]); first | done | rfl | (simp only [List.length_drop, List.length_take]; rfl)) ?_; (with_reducible refine (ages_Back.calls a0 t136 _ A17.out).mono ?_); rintro e w' ⟨rfl, ⟨nd, rfl⟩⟩; refine ⟨_, rfl, ?_⟩))
        (try simp only [Act.put, List.setIfInBounds_toArray, List.set_cons_zero, List.set_cons_succ])
        go_cut [59] (fun v59 wc => ∃ (kq : Nat) (x59_17 : Bool), v59 = .bool x59_17 ∧ Aside0 (heirloomlaw12_AgesPath.j1 kq a0 x59_17 = some r) ∧ Aside0 (kq ≤ kj1) ∧ Aside0 (Below w.heap.size w wc))
        case first =>
          have H := HC18.out
          clear HC18
          by_cases c22 : t135 = 4
          · rw [if_pos c22] at H
            have c22b0 : (t135 == 4) = true := beq_iff_eq.mpr c22
            have c22b1 : (t135 != 4) = false := bne_eq_false_iff_eq.mpr c22
            clear c22
            (first | rw [c22b0] | (simp only [i64_w, i32_w]; rw [c22b0]) | skip)
            replace H := Option.bind_eq_some_iff.mp H
            obtain ⟨t137, A230, H⟩ := H
            replace H : (if t137 = 4 then ((ages_Old.f a0).bind fun t138 => (if t138 = true then (if t136 = 5 then ((ages_Next.f t136).bind fun t139 => ((ages_Next.f t139).bind fun t140 => (if t140 = 4 then ((ages_Old.f a0).bind fun t141 => (if t141 = true then (heirloomlaw12_AgesPath.j1 kj1 a0 false) else (heirloomlaw12_AgesPath.j1 kj1 a0 (t136 != a0)))) else (heirloomlaw12_AgesPath.j1 kj1 a0 true)))) else (heirloomlaw12_AgesPath.j1 kj1 a0 true)) else ((ages_Old.f a0).bind fun t142 => (if t142 = true then (heirloomlaw12_AgesPath.j1 kj1 a0 false) else (heirloomlaw12_AgesPath.j1 kj1 a0 (t136 != a0)))))) else (heirloomlaw12_AgesPath.j1 kj1 a0 true)) = some r := H
            have A23 := Aside0.mk A230
            clear A230
            by_cases c24 : t137 = 4
            · rw [if_pos c24] at H
              have c24b0 : (t137 == 4) = true := beq_iff_eq.mpr c24
              have c24b1 : (t137 != 4) = false := bne_eq_false_iff_eq.mpr c24
              clear c24
              replace H := Option.bind_eq_some_iff.mp H
              obtain ⟨t138, A250, H⟩ := H
              replace H : (if t138 = true then (if t136 = 5 then ((ages_Next.f t136).bind fun t139 => ((ages_Next.f t139).bind fun t140 => (if t140 = 4 then ((ages_Old.f a0).bind fun t141 => (if t141 = true then (heirloomlaw12_AgesPath.j1 kj1 a0 false) else (heirloomlaw12_AgesPath.j1 kj1 a0 (t136 != a0)))) else (heirloomlaw12_AgesPath.j1 kj1 a0 true)))) else (heirloomlaw12_AgesPath.j1 kj1 a0 true)) else ((ages_Old.f a0).bind fun t142 => (if t142 = true then (heirloomlaw12_AgesPath.j1 kj1 a0 false) else (heirloomlaw12_AgesPath.j1 kj1 a0 (t136 != a0))))) = some r := H
              have A25 := Aside0.mk A250
              clear A250
              by_cases c26 : t138 = true
              · subst c26
                have H1 : (if t136 = 5 then ((ages_Next.f t136).bind fun t139 => ((ages_Next.f t139).bind fun t140 => (if t140 = 4 then ((ages_Old.f a0).bind fun t141 => (if t141 = true then (heirloomlaw12_AgesPath.j1 kj1 a0 false) else (heirloomlaw12_AgesPath.j1 kj1 a0 (t136 != a0)))) else (heirloomlaw12_AgesPath.j1 kj1 a0 true)))) else (heirloomlaw12_AgesPath.j1 kj1 a0 true)) = some r := by rw [if_pos rfl] at H; exact H
                clear H
                have H := H1
                clear H1
                by_cases c27 : t136 = 5
                · rw [if_pos c27] at H
                  have c27b0 : (t136 == 5) = true := beq_iff_eq.mpr c27
                  have c27b1 : (t136 != 5) = false := bne_eq_false_iff_eq.mpr c27
                  clear c27
                  replace H := Option.bind_eq_some_iff.mp H
                  obtain ⟨t139, A280, H⟩ := H
                  replace H : ((ages_Next.f t139).bind fun t140 => (if t140 = 4 then ((ages_Old.f a0).bind fun t141 => (if t141 = true then (heirloomlaw12_AgesPath.j1 kj1 a0 false) else (heirloomlaw12_AgesPath.j1 kj1 a0 (t136 != a0)))) else (heirloomlaw12_AgesPath.j1 kj1 a0 true))) = some r := H
                  have A28 := Aside0.mk A280
                  clear A280
                  replace H := Option.bind_eq_some_iff.mp H
                  obtain ⟨t140, A290, H⟩ := H
                  replace H : (if t140 = 4 then ((ages_Old.f a0).bind fun t141 => (if t141 = true then (heirloomlaw12_AgesPath.j1 kj1 a0 false) else (heirloomlaw12_AgesPath.j1 kj1 a0 (t136 != a0)))) else (heirloomlaw12_AgesPath.j1 kj1 a0 true)) = some r := H
                  have A29 := Aside0.mk A290
                  clear A290
                  by_cases c30 : t140 = 4
                  · rw [if_pos c30] at H
                    have c30b0 : (t140 == 4) = true := beq_iff_eq.mpr c30
                    have c30b1 : (t140 != 4) = false := bne_eq_false_iff_eq.mpr c30
                    clear c30
                    replace H := Option.bind_eq_some_iff.mp H
                    obtain ⟨t141, A310, H⟩ := H
                    replace H : (if t141 = true then (heirloomlaw12_AgesPath.j1 kj1 a0 false) else (heirloomlaw12_AgesPath.j1 kj1 a0 (t136 != a0))) = some r := H
                    have A31 := Aside0.mk A310
                    clear A310
                    by_cases c32 : t141 = true
                    · subst c32
                      have H1 : (heirloomlaw12_AgesPath.j1 kj1 a0 false) = some r := by rw [if_pos rfl] at H; exact H
                      clear H
                      have H := H1
                      clear H1
                      have H' := Aside0.mk H
                      clear H
                      go_wp2_with (first | (go_at_call 7; (with_reducible refine (ages_Next.calls t135 t137 _ A23.out).mono ?_); rintro e w33 ⟨rfl, hb⟩; have n0_ := Aside0.mk (below_step (by repeat (first | (with_reducible first | exact HB.out | apply below_alloc | apply pw_below_drewN | apply below_drew1) | exact HB.out)) hb); clear HB; have HB := n0_; clear n0_; (try clear hb); (try clear hb2); (try clear hk); (try clear hi)) | (go_at_call 9; (with_reducible refine (ages_Old.calls a0 true _ A25.out).mono ?_); rintro e w' ⟨rfl, ⟨nd, rfl⟩⟩) | (go_at_call 7; (with_reducible refine (ages_Next.calls t136 t139 _ A28.out).mono ?_); rintro e w34 ⟨rfl, hb⟩; have n0_ := Aside0.mk (below_step (by repeat (first | (with_reducible first | exact HB.out | apply below_alloc | apply pw_below_drewN | apply below_drew1) | exact HB.out)) hb); clear HB; have HB := n0_; clear n0_; (try clear hb); (try clear hb2); (try clear hk); (try clear hi)) | (go_at_call 7; (with_reducible refine (ages_Next.calls t139 t140 _ A29.out).mono ?_); rintro e w35 ⟨rfl, hb⟩; have n0_ := Aside0.mk (below_step (by repeat (first | (with_reducible first | exact HB.out | apply below_alloc | apply pw_below_drewN | apply below_drew1) | exact HB.out)) hb); clear HB; have HB := n0_; clear n0_; (try clear hb); (try clear hb2); (try clear hk); (try clear hi)) | (go_at_call 9; (with_reducible refine (ages_Old.calls a0 true _ A31.out).mono ?_); rintro e w' ⟨rfl, ⟨nd, rfl⟩⟩))
                      go_meet
                      case rel => exact ⟨_, (false), (by first | rfl | (simp; done) | (simp [*]; done)), H', ⟨by have := HJ1.out; first | omega | exact Nat.le_refl _⟩, ⟨by repeat (first | (with_reducible first | exact HB.out | apply below_alloc | apply pw_below_drewN | apply below_drew1) | exact HB.out)⟩⟩
                    · replace c32 := Bool.eq_false_iff.mpr c32
                      subst c32
                      have H1 : (heirloomlaw12_AgesPath.j1 kj1 a0 (t136 != a0)) = some r := by rw [if_neg (show ¬ (false = true) by decide)] at H; exact H
                      clear H
                      have H := H1
                      clear H1
                      have H' := Aside0.mk H
                      clear H
                      go_wp2_with (first | (go_at_call 7; (with_reducible refine (ages_Next.calls t135 t137 _ A23.out).mono ?_); rintro e w36 ⟨rfl, hb⟩; have n0_ := Aside0.mk (below_step (by repeat (first | (with_reducible first | exact HB.out | apply below_alloc | apply pw_below_drewN | apply below_drew1) | exact HB.out)) hb); clear HB; have HB := n0_; clear n0_; (try clear hb); (try clear hb2); (try clear hk); (try clear hi)) | (go_at_call 9; (with_reducible refine (ages_Old.calls a0 true _ A25.out).mono ?_); rintro e w' ⟨rfl, ⟨nd, rfl⟩⟩) | (go_at_call 7; (with_reducible refine (ages_Next.calls t136 t139 _ A28.out).mono ?_); rintro e w37 ⟨rfl, hb⟩; have n0_ := Aside0.mk (below_step (by repeat (first | (with_reducible first | exact HB.out | apply below_alloc | apply pw_below_drewN | apply below_drew1) | exact HB.out)) hb); clear HB; have HB := n0_; clear n0_; (try clear hb); (try clear hb2); (try clear hk); (try clear hi)) | (go_at_call 7; (with_reducible refine (ages_Next.calls t139 t140 _ A29.out).mono ?_); rintro e w38 ⟨rfl, hb⟩; have n0_ := Aside0.mk (below_step (by repeat (first | (with_reducible first | exact HB.out | apply below_alloc | apply pw_below_drewN | apply below_drew1) | exact HB.out)) hb); clear HB; have HB := n0_; clear n0_; (try clear hb); (try clear hb2); (try clear hk); (try clear hi)) | (go_at_call 9; (with_reducible refine (ages_Old.calls a0 false _ A31.out).mono ?_); rintro e w' ⟨rfl, ⟨nd, rfl⟩⟩))
                      go_meet
                      case rel => exact ⟨_, ((t136 != a0)), (by first | rfl | (simp; done) | (simp [*]; done) | exact absurd (A25.out.symm.trans A31.out) (by simp)), H', ⟨by have := HJ1.out; first | omega | exact Nat.le_refl _⟩, ⟨by repeat (first | (with_reducible first | exact HB.out | apply below_alloc | apply pw_below_drewN | apply below_drew1) | exact HB.out)⟩⟩
                  · rw [if_neg c30] at H
                    have c30b0 : (t140 == 4) = false := beq_eq_false_iff_ne.mpr c30
                    have c30b1 : (t140 != 4) = true := bne_iff_ne.mpr c30
                    have H' := Aside0.mk H
                    clear H
                    go_wp2_with (first | (go_at_call 7; (with_reducible refine (ages_Next.calls t135 t137 _ A23.out).mono ?_); rintro e w39 ⟨rfl, hb⟩; have n0_ := Aside0.mk (below_step (by repeat (first | (with_reducible first | exact HB.out | apply below_alloc | apply pw_below_drewN | apply below_drew1) | exact HB.out)) hb); clear HB; have HB := n0_; clear n0_; (try clear hb); (try clear hb2); (try clear hk); (try clear hi)) | (go_at_call 9; (with_reducible refine (ages_Old.calls a0 true _ A25.out).mono ?_); rintro e w' ⟨rfl, ⟨nd, rfl⟩⟩) | (go_at_call 7; (with_reducible refine (ages_Next.calls t136 t139 _ A28.out).mono ?_); rintro e w40 ⟨rfl, hb⟩; have n0_ := Aside0.mk (below_step (by repeat (first | (with_reducible first | exact HB.out | apply below_alloc | apply pw_below_drewN | apply below_drew1) | exact HB.out)) hb); clear HB; have HB := n0_; clear n0_; (try clear hb); (try clear hb2); (try clear hk); (try clear hi)) | (go_at_call 7; (with_reducible refine (ages_Next.calls t139 t140 _ A29.out).mono ?_); rintro e w41 ⟨rfl, hb⟩; have n0_ := Aside0.mk (below_step (by repeat (first | (with_reducible first | exact HB.out | apply below_alloc | apply pw_below_drewN | apply below_drew1) | exact HB.out)) hb); clear HB; have HB := n0_; clear n0_; (try clear hb); (try clear hb2); (try clear hk); (try clear hi)))
                    go_meet
                    case rel => exact ⟨_, (true), (by first | rfl | (simp; done) | (simp [*]; done)), H', ⟨by have := HJ1.out; first | omega | exact Nat.le_refl _⟩, ⟨by repeat (first | (with_reducible first | exact HB.out | apply below_alloc | apply pw_below_drewN | apply below_drew1) | exact HB.out)⟩⟩
                · rw [if_neg c27] at H
                  have c27b0 : (t136 == 5) = false := beq_eq_false_iff_ne.mpr c27
                  have c27b1 : (t136 != 5) = true := bne_iff_ne.mpr c27
                  have H' := Aside0.mk H
                  clear H
                  go_wp2_with (first | (go_at_call 7; (with_reducible refine (ages_Next.calls t135 t137 _ A23.out).mono ?_); rintro e w42 ⟨rfl, hb⟩; have n0_ := Aside0.mk (below_step (by repeat (first | (with_reducible first | exact HB.out | apply below_alloc | apply pw_below_drewN | apply below_drew1) | exact HB.out)) hb); clear HB; have HB := n0_; clear n0_; (try clear hb); (try clear hb2); (try clear hk); (try clear hi)) | (go_at_call 9; (with_reducible refine (ages_Old.calls a0 true _ A25.out).mono ?_); rintro e w' ⟨rfl, ⟨nd, rfl⟩⟩))
                  go_meet
                  case rel => exact ⟨_, (true), (by first | rfl | (simp; done) | (simp [*]; done)), H', ⟨by have := HJ1.out; first | omega | exact Nat.le_refl _⟩, ⟨by repeat (first | (with_reducible first | exact HB.out | apply below_alloc | apply pw_below_drewN | apply below_drew1) | exact HB.out)⟩⟩
              · replace c26 := Bool.eq_false_iff.mpr c26
                subst c26
                have H1 : ((ages_Old.f a0).bind fun t142 => (if t142 = true then (heirloomlaw12_AgesPath.j1 kj1 a0 false) else (heirloomlaw12_AgesPath.j1 kj1 a0 (t136 != a0)))) = some r := by rw [if_neg (show ¬ (false = true) by decide)] at H; exact H
                clear H
                have H := H1
                clear H1
                replace H := Option.bind_eq_some_iff.mp H
                obtain ⟨t142, A430, H⟩ := H
                replace H : (if t142 = true then (heirloomlaw12_AgesPath.j1 kj1 a0 false) else (heirloomlaw12_AgesPath.j1 kj1 a0 (t136 != a0))) = some r := H
                have A43 := Aside0.mk A430
                clear A430
                by_cases c44 : t142 = true
                · subst c44
                  have H1 : (heirloomlaw12_AgesPath.j1 kj1 a0 false) = some r := by rw [if_pos rfl] at H; exact H
                  clear H
                  have H := H1
                  clear H1
                  have H' := Aside0.mk H
                  clear H
                  go_wp2_with (first | (go_at_call 7; (with_reducible refine (ages_Next.calls t135 t137 _ A23.out).mono ?_); rintro e w45 ⟨rfl, hb⟩; have n0_ := Aside0.mk (below_step (by repeat (first | (with_reducible first | exact HB.out | apply below_alloc | apply pw_below_drewN | apply below_drew1) | exact HB.out)) hb); clear HB; have HB := n0_; clear n0_; (try clear hb); (try clear hb2); (try clear hk); (try clear hi)) | (go_at_call 9; (with_reducible refine (ages_Old.calls a0 false _ A25.out).mono ?_); rintro e w' ⟨rfl, ⟨nd, rfl⟩⟩) | (go_at_call 9; (with_reducible refine (ages_Old.calls a0 true _ A43.out).mono ?_); rintro e w' ⟨rfl, ⟨nd, rfl⟩⟩))
                  go_meet
                  case rel => exact ⟨_, (false), (by first | rfl | (simp; done) | (simp [*]; done) | exact absurd (A25.out.symm.trans A43.out) (by simp)), H', ⟨by have := HJ1.out; first | omega | exact Nat.le_refl _⟩, ⟨by repeat (first | (with_reducible first | exact HB.out | apply below_alloc | apply pw_below_drewN | apply below_drew1) | exact HB.out)⟩⟩
                · replace c44 := Bool.eq_false_iff.mpr c44
                  subst c44
                  have H1 : (heirloomlaw12_AgesPath.j1 kj1 a0 (t136 != a0)) = some r := by rw [if_neg (show ¬ (false = true) by decide)] at H; exact H
                  clear H
                  have H := H1
                  clear H1
                  have H' := Aside0.mk H
                  clear H
                  go_wp2_with (first | (go_at_call 7; (with_reducible refine (ages_Next.calls t135 t137 _ A23.out).mono ?_); rintro e w46 ⟨rfl, hb⟩; have n0_ := Aside0.mk (below_step (by repeat (first | (with_reducible first | exact HB.out | apply below_alloc | apply pw_below_drewN | apply below_drew1) | exact HB.out)) hb); clear HB; have HB := n0_; clear n0_; (try clear hb); (try clear hb2); (try clear hk); (try clear hi)) | (go_at_call 9; (with_reducible refine (ages_Old.calls a0 false _ A25.out).mono ?_); rintro e w' ⟨rfl, ⟨nd, rfl⟩⟩) | (go_at_call 9; (with_reducible refine (ages_Old.calls a0 false _ A43.out).mono ?_); rintro e w' ⟨rfl, ⟨nd, rfl⟩⟩))
                  go_meet
                  case rel => exact ⟨_, ((t136 != a0)), (by first | rfl | (simp; done) | (simp [*]; done)), H', ⟨by have := HJ1.out; first | omega | exact Nat.le_refl _⟩, ⟨by repeat (first | (with_reducible first | exact HB.out | apply below_alloc | apply pw_below_drewN | apply below_drew1) | exact HB.out)⟩⟩
            · rw [if_neg c24] at H
              have c24b0 : (t137 == 4) = false := beq_eq_false_iff_ne.mpr c24
              have c24b1 : (t137 != 4) = true := bne_iff_ne.mpr c24
              have H' := Aside0.mk H
              clear H
              go_wp2_with (first | (go_at_call 7; (with_reducible refine (ages_Next.calls t135 t137 _ A23.out).mono ?_); rintro e w47 ⟨rfl, hb⟩; have n0_ := Aside0.mk (below_step (by repeat (first | (with_reducible first | exact HB.out | apply below_alloc | apply pw_below_drewN | apply below_drew1) | exact HB.out)) hb); clear HB; have HB := n0_; clear n0_; (try clear hb); (try clear hb2); (try clear hk); (try clear hi)))
              go_meet
              case rel => exact ⟨_, (true), (by first | rfl | (simp; done) | (simp [*]; done)), H', ⟨by have := HJ1.out; first | omega | exact Nat.le_refl _⟩, ⟨by repeat (first | (with_reducible first | exact HB.out | apply below_alloc | apply pw_below_drewN | apply below_drew1) | exact HB.out)⟩⟩
          · rw [if_neg c22] at H
            have c22b0 : (t135 == 4) = false := beq_eq_false_iff_ne.mpr c22
            have c22b1 : (t135 != 4) = true := bne_iff_ne.mpr c22
            (first | rw [c22b0] | (simp only [i64_w, i32_w]; rw [c22b0]) | skip)
            have H' := Aside0.mk H
            clear H
            go_wp2
            go_meet
            case rel => exact ⟨_, (true), (by first | rfl | (simp; done) | (simp [*]; done)), H', ⟨by have := HJ1.out; first | omega | exact Nat.le_refl _⟩, ⟨by repeat (first | (with_reducible first | exact HB.out | apply below_alloc | apply pw_below_drewN | apply below_drew1) | exact HB.out)⟩⟩
        case rest =>
          clear HC18
          try clear c1
          try clear c2
          try clear p2
          try clear c3
          try clear c3b0
          try clear c4
          try clear c6
          try clear c6b0
          try clear c6b1
          try clear c7
          try clear c8
          try clear c11
          try clear c22
          try clear c22b0
          try clear c22b1
          try clear c24
          try clear c24b0
          try clear c24b1
          try clear c26
          try clear c27
          try clear c27b0
          try clear c27b1
          try clear c30
          try clear c30b0
          try clear c30b1
          try clear c32
          try clear c44
          try clear p2
          obtain ⟨kq, x59_17, rfl, HA, HJ17, HB⟩ := hcut
          cases kq with
          | zero => exact absurd HA.out (by simp [heirloomlaw12_AgesPath.j1])
          | succ kj17 =>
            have H := HA.out
            clear HA
            simp only [heirloomlaw12_AgesPath.j1] at H
            by_cases c48 : x59_17 = true
            · subst c48
              have H1 : (some false) = some r := by rw [if_pos rfl] at H; exact H
              clear H
              have H := H1
              clear H1
              obtain rfl := Option.some.inj H
              go_wp2
              go_ret
              exact ⟨by first | rfl | (simp [errW_none, errW_some] <;> rfl) | (simp [*, errW_none, errW_some] <;> rfl), by repeat (first | (with_reducible first | exact HB.out | apply below_alloc | apply pw_below_drewN | apply below_drew1) | exact HB.out)⟩
            · replace c48 := Bool.eq_false_iff.mpr c48
              subst c48
              have H1 : ((ages_Old.f a0).bind fun t143 => (if t143 = true then ((ages_Next.f a0).bind fun t144 => ((ages_Old.f t144).bind fun t145 => (if t145 = true then ((heirloomlaw12_alive.f).bind fun t146 => (some t146)) else (some false)))) else ((heirloomlaw12_alive.f).bind fun t147 => (some t147)))) = some r := by rw [if_neg (show ¬ (false = true) by decide)] at H; exact H
              clear H
              have H := H1
              clear H1
              replace H := Option.bind_eq_some_iff.mp H
              obtain ⟨t143, A490, H⟩ := H
              replace H : (if t143 = true then ((ages_Next.f a0).bind fun t144 => ((ages_Old.f t144).bind fun t145 => (if t145 = true then ((heirloomlaw12_alive.f).bind fun t146 => (some t146)) else (some false)))) else ((heirloomlaw12_alive.f).bind fun t147 => (some t147))) = some r := H
              have A49 := Aside0.mk A490
              clear A490
              by_cases c50 : t143 = true
              · subst c50
                have H1 : ((ages_Next.f a0).bind fun t144 => ((ages_Old.f t144).bind fun t145 => (if t145 = true then ((heirloomlaw12_alive.f).bind fun t146 => (some t146)) else (some false)))) = some r := by rw [if_pos rfl] at H; exact H
                clear H
                have H := H1
                clear H1
                replace H := Option.bind_eq_some_iff.mp H
                obtain ⟨t144, A510, H⟩ := H
                replace H : ((ages_Old.f t144).bind fun t145 => (if t145 = true then ((heirloomlaw12_alive.f).bind fun t146 => (some t146)) else (some false))) = some r := H
                have A51 := Aside0.mk A510
                clear A510
                replace H := Option.bind_eq_some_iff.mp H
                obtain ⟨t145, A520, H⟩ := H
                replace H : (if t145 = true then ((heirloomlaw12_alive.f).bind fun t146 => (some t146)) else (some false)) = some r := H
                have A52 := Aside0.mk A520
                clear A520
                by_cases c53 : t145 = true
                · subst c53
                  have H1 : ((heirloomlaw12_alive.f).bind fun t146 => (some t146)) = some r := by rw [if_pos rfl] at H; exact H
                  clear H
                  have H := H1
                  clear H1
                  replace H := Option.bind_eq_some_iff.mp H
                  obtain ⟨t146, A540, H⟩ := H
                  replace H : (some t146) = some r := H
                  have A54 := Aside0.mk A540
                  clear A540
                  obtain rfl := Option.some.inj H
                  go_wp2_with (first | ((with_reducible refine gate_callee (f := 9) rfl ?_); refine goesL_ (some 61) rfl rfl Try.func9 (by kernel_rfl) rfl #[.int .i64 a0] rfl (by (try simp only [List.map_toArray, List.map_cons, List.map_nil]); first | done | rfl | (simp only [List.length_drop, List.length_take]; rfl)) ?_; (with_reducible refine (ages_Old.calls a0 true _ A49.out).mono ?_); rintro e w' ⟨rfl, ⟨nd, rfl⟩⟩; refine ⟨_, rfl, ?_⟩) | (go_at_call 7; (with_reducible refine (ages_Next.calls a0 t144 _ A51.out).mono ?_); rintro e w55 ⟨rfl, hb⟩; have n0_ := Aside0.mk (below_step (by repeat (first | (with_reducible first | exact HB.out | apply below_alloc | apply pw_below_drewN | apply below_drew1) | exact HB.out)) hb); clear HB; have HB := n0_; clear n0_; (try clear hb); (try clear hb2); (try clear hk); (try clear hi)) | (go_at_call 9; (with_reducible refine (ages_Old.calls t144 true _ A52.out).mono ?_); rintro e w' ⟨rfl, ⟨nd, rfl⟩⟩) | (go_at_call 15; (with_reducible refine (heirloomlaw12_alive.calls  t146 _ A54.out).mono ?_); rintro e w56 ⟨rfl, hb⟩; have n0_ := Aside0.mk (below_step (by repeat (first | (with_reducible first | exact HB.out | apply below_alloc | apply pw_below_drewN | apply below_drew1) | exact HB.out)) hb); clear HB; have HB := n0_; clear n0_; (try clear hb); (try clear hb2); (try clear hk); (try clear hi)))
                  go_ret
                  exact ⟨by first | rfl | (simp [errW_none, errW_some] <;> rfl) | (simp [*, errW_none, errW_some] <;> rfl), by repeat (first | (with_reducible first | exact HB.out | apply below_alloc | apply pw_below_drewN | apply below_drew1) | exact HB.out)⟩
                · replace c53 := Bool.eq_false_iff.mpr c53
                  subst c53
                  have H1 : (some false) = some r := by rw [if_neg (show ¬ (false = true) by decide)] at H; exact H
                  clear H
                  have H := H1
                  clear H1
                  obtain rfl := Option.some.inj H
                  go_wp2_with (first | ((with_reducible refine gate_callee (f := 9) rfl ?_); refine goesL_ (some 61) rfl rfl Try.func9 (by kernel_rfl) rfl #[.int .i64 a0] rfl (by (try simp only [List.map_toArray, List.map_cons, List.map_nil]); first | done | rfl | (simp only [List.length_drop, List.length_take]; rfl)) ?_; (with_reducible refine (ages_Old.calls a0 true _ A49.out).mono ?_); rintro e w' ⟨rfl, ⟨nd, rfl⟩⟩; refine ⟨_, rfl, ?_⟩) | (go_at_call 7; (with_reducible refine (ages_Next.calls a0 t144 _ A51.out).mono ?_); rintro e w57 ⟨rfl, hb⟩; have n0_ := Aside0.mk (below_step (by repeat (first | (with_reducible first | exact HB.out | apply below_alloc | apply pw_below_drewN | apply below_drew1) | exact HB.out)) hb); clear HB; have HB := n0_; clear n0_; (try clear hb); (try clear hb2); (try clear hk); (try clear hi)) | (go_at_call 9; (with_reducible refine (ages_Old.calls t144 false _ A52.out).mono ?_); rintro e w' ⟨rfl, ⟨nd, rfl⟩⟩))
                  go_ret
                  exact ⟨by first | rfl | (simp [errW_none, errW_some] <;> rfl) | (simp [*, errW_none, errW_some] <;> rfl), by repeat (first | (with_reducible first | exact HB.out | apply below_alloc | apply pw_below_drewN | apply below_drew1) | exact HB.out)⟩
              · replace c50 := Bool.eq_false_iff.mpr c50
                subst c50
                have H1 : ((heirloomlaw12_alive.f).bind fun t147 => (some t147)) = some r := by rw [if_neg (show ¬ (false = true) by decide)] at H; exact H
                clear H
                have H := H1
                clear H1
                replace H := Option.bind_eq_some_iff.mp H
                obtain ⟨t147, A580, H⟩ := H
                replace H : (some t147) = some r := H
                have A58 := Aside0.mk A580
                clear A580
                obtain rfl := Option.some.inj H
                go_wp2_with (first | ((with_reducible refine gate_callee (f := 9) rfl ?_); refine goesL_ (some 61) rfl rfl Try.func9 (by kernel_rfl) rfl #[.int .i64 a0] rfl (by (try simp only [List.map_toArray, List.map_cons, List.map_nil]); first | done | rfl | (simp only [List.length_drop, List.length_take]; rfl)) ?_; (with_reducible refine (ages_Old.calls a0 false _ A49.out).mono ?_); rintro e w' ⟨rfl, ⟨nd, rfl⟩⟩; refine ⟨_, rfl, ?_⟩) | (go_at_call 15; (with_reducible refine (heirloomlaw12_alive.calls  t147 _ A58.out).mono ?_); rintro e w59 ⟨rfl, hb⟩; have n0_ := Aside0.mk (below_step (by repeat (first | (with_reducible first | exact HB.out | apply below_alloc | apply pw_below_drewN | apply below_drew1) | exact HB.out)) hb); clear HB; have HB := n0_; clear n0_; (try clear hb); (try clear hb2); (try clear hk); (try clear hi)))
                go_ret
                exact ⟨by first | rfl | (simp [errW_none, errW_some] <;> rfl) | (simp [*, errW_none, errW_some] <;> rfl), by repeat (first | (with_reducible first | exact HB.out | apply below_alloc | apply pw_below_drewN | apply below_drew1) | exact HB.out)⟩

/-- THE ONE PURE STATEMENT of heirloomlaw12_AgesPath: yours. -/
def heirloomlaw12_AgesPath.Pure : Prop := ∀ (a0 : Int), (Lit.int .i64 a0).wf = true → ∃ k, heirloomlaw12_AgesPath.f k a0 = some true
theorem heirloomlaw12_AgesPath.walk (P : heirloomlaw12_AgesPath.Pure) (a0 : Int) (w : World) (w0 : (Lit.int .i64 a0).wf = true) :
    Calls Try.prog 4 #[.int .i64 a0] w fun e w' => e = .returned (.bool true) ∧ Below w.heap.size w w' := by
  obtain ⟨k, h⟩ := P a0 w0
  refine (heirloomlaw12_AgesPath.calls k a0 true w h).mono ?_
  rintro e w' ⟨rfl, hd⟩
  exact ⟨rfl, hd⟩

end Go.Proofs.Ytpdhmfbpmbbmgaa.QA
