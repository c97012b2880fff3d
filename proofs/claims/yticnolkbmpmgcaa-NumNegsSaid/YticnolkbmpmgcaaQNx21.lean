-- WRITTEN BY wip/tools/myprint.py, a program of this session, over the kit's printer
import Derived.Test.YticnolkbmpmgcaaSh
import Derived.Test.YticnolkbmpmgcaaQNx0
import Derived.Test.YticnolkbmpmgcaaQNx1
import Derived.Test.YticnolkbmpmgcaaQNx2
import Derived.Test.YticnolkbmpmgcaaQNx8
import Derived.Test.YticnolkbmpmgcaaQNx19
import Derived.Test.YticnolkbmpmgcaaQNx20
namespace Go.Proofs.Yticnolkbmpmgcaa.QN
open Go.Proofs.Yticnolkbmpmgcaa.Sh
open Go.RowKit Go.Proofs.YticnolkbmpmgcaaW.PrintWords Go.Proofs.YticnolkbmpmgcaaW.PrintLast Go.Proofs.YticnolkbmpmgcaaW.PrintMore
attribute [local go_sem] max2_int min2_int max_two min_two max_three min_three max_four min_four   -- for this text's walks alone
open Go.Proofs.Yticnolkbmpmgcaa.Fl
attribute [local go_sem high] bo_eq bo_ne bo_lt bo_le bo_gt bo_ge
attribute [local go_sem] run39 run40 neg_fl
set_option linter.unusedVariables false
set_option linter.unusedSimpArgs false

attribute [local go_sem high] eqA23
/-! ### heirloomlaw01_NumNegs: function 12 -/
def heirloomlaw01_NumNegs.f (k : Nat) (a0_0 : Int) (a0_1 : Int) : Option (Bool) := (num_Neg.f a0_0 a0_1).bind fun bt441 => ((heirloomref01_Neg.f a0_0 a0_1).bind fun bt445 => (if (bt441.1 == bt445.1 && (bt441.2.1 == bt445.2.1)) = true then ((heirloomlaw01_no.f bt441.2.2).bind fun t449 => (if t449 = bt445.2.2 then ((num_Key.f a0_0 a0_1).bind fun bt450 => ((heirloomref01_Key.f k a0_0 a0_1).bind fun bt452 => (if (bt450.1 == bt452.1 && (bt450.2 == bt452.2)) = true then ((heirloomlaw01_alive.f k).bind fun t454 => (some t454)) else (some false)))) else (some false))) else (some false)))
theorem heirloomlaw01_NumNegs.mono : ∀ a0 a1 k, LeO (heirloomlaw01_NumNegs.f k a0 a1) (heirloomlaw01_NumNegs.f (k + 1) a0 a1) := by
  intro a0 a1 k
  unfold heirloomlaw01_NumNegs.f
  repeat' first
      | (with_reducible exact heirloomlaw01_alive.mono _)
      | (with_reducible exact heirloomref01_Key.mono _ _ _)
      | (with_reducible exact LeO.refl _)
      | (with_reducible exact LeO.none _)
      | (with_reducible refine LeO.ite ?_ ?_)
      | (with_reducible refine LeO.bind ?_ (fun _ => ?_))
      | exact heirloomlaw01_alive.mono _
      | exact heirloomref01_Key.mono _ _ _
      | exact LeO.none _
      | refine LeO.ite ?_ ?_
      | refine LeO.bind ?_ (fun _ => ?_)
def heirloomlaw01_NumNegs.T3 : Bool × List (List Nat × List Nat) := (true, [([], []), ([], []), ([0, 1], [0, 1]), ([2], [2]), ([3], [3]), ([4, 3, 3], [3, 4]), ([3], [3]), ([5, 6, 3], [3, 5, 6]), ([3, 7], [3, 7]), ([8, 5], [8]), ([9], [9]), ([10, 9, 9], [9, 10]), ([9], [9]), ([12, 11, 9], [9, 12]), ([11, 13, 9], [9, 11, 13]), ([9, 14], [9, 14]), ([15, 13], [15]), ([16, 16], [16]), ([16, 17], [16, 17]), ([18, 17, 0, 1, 2, 3, 4, 5, 6, 7, 8, 9, 10, 11, 12, 13, 14, 15, 16, 17, 18], [18])])
def heirloomlaw01_NumNegs.B3 : List Nat := [0, 0, 3, 7, 15, 31, 15, 127, 255, 511, 1023, 2047, 1023, 8191, 16383, 32767, 65535, 131071, 262143, 524287]
theorem heirloomlaw01_NumNegs.tab3 : rtab .any (opsOf Try.f12 3) = heirloomlaw01_NumNegs.T3 := by kernel_rfl
theorem heirloomlaw01_NumNegs.bits3 : waitsOk heirloomlaw01_NumNegs.T3.2 heirloomlaw01_NumNegs.B3 = true := by kernel_rfl
set_option maxHeartbeats 8000000 in
set_option maxRecDepth 100000 in
theorem heirloomlaw01_NumNegs.calls (k : Nat) (a0_0 : Int) (a0_1 : Int) (r : Bool) (w : World) (h : heirloomlaw01_NumNegs.f k a0_0 a0_1 = some r) :
    Calls Try.prog 12 #[.agg #[.int .i64 a0_0, .int .i64 a0_1]] w fun e w' => e = .returned (.bool r) ∧ Below w.heap.size w w' := by
  have hu23 := Try.underlying23
  have HB := Aside0.mk (Below.refl w.heap.size w)
  have H : ((num_Neg.f a0_0 a0_1).bind fun bt441 => ((heirloomref01_Neg.f a0_0 a0_1).bind fun bt445 => (if (bt441.1 == bt445.1 && (bt441.2.1 == bt445.2.1)) = true then ((heirloomlaw01_no.f bt441.2.2).bind fun t449 => (if t449 = bt445.2.2 then ((num_Key.f a0_0 a0_1).bind fun bt450 => ((heirloomref01_Key.f k a0_0 a0_1).bind fun bt452 => (if (bt450.1 == bt452.1 && (bt450.2 == bt452.2)) = true then ((heirloomlaw01_alive.f k).bind fun t454 => (some t454)) else (some false)))) else (some false))) else (some false)))) = some r := h
  clear h
  replace H := Option.bind_eq_some_iff.mp H
  obtain ⟨⟨t441, t442, t443⟩, A20, H⟩ := H
  replace H : ((heirloomref01_Neg.f a0_0 a0_1).bind fun bt445 => (if (t441 == bt445.1 && (t442 == bt445.2.1)) = true then ((heirloomlaw01_no.f t443).bind fun t449 => (if t449 = bt445.2.2 then ((num_Key.f a0_0 a0_1).bind fun bt450 => ((heirloomref01_Key.f k a0_0 a0_1).bind fun bt452 => (if (bt450.1 == bt452.1 && (bt450.2 == bt452.2)) = true then ((heirloomlaw01_alive.f k).bind fun t454 => (some t454)) else (some false)))) else (some false))) else (some false))) = some r := H
  have A2 := Aside0.mk A20
  clear A20
  replace H := Option.bind_eq_some_iff.mp H
  obtain ⟨⟨t445, t446, t447⟩, A30, H⟩ := H
  replace H : (if (t441 == t445 && (t442 == t446)) = true then ((heirloomlaw01_no.f t443).bind fun t449 => (if t449 = t447 then ((num_Key.f a0_0 a0_1).bind fun bt450 => ((heirloomref01_Key.f k a0_0 a0_1).bind fun bt452 => (if (bt450.1 == bt452.1 && (bt450.2 == bt452.2)) = true then ((heirloomlaw01_alive.f k).bind fun t454 => (some t454)) else (some false)))) else (some false))) else (some false)) = some r := H
  have A3 := Aside0.mk A30
  clear A30
  by_cases c4 : (t441 == t445 && (t442 == t446)) = true
  · rw [if_pos c4] at H
    have c4b0 : (t441 == t445 && (t442 == t446)) = true := c4
    (try (have c4b1 : decide (t441 = t445 && (t442 == t446)) = true := by simpa using c4))
    (try (have c4b2 : (t441 == t445 && (t442 == t446)) = true := by simpa using c4))
    clear c4
    replace H := Option.bind_eq_some_iff.mp H
    obtain ⟨t449, A50, H⟩ := H
    replace H : (if t449 = t447 then ((num_Key.f a0_0 a0_1).bind fun bt450 => ((heirloomref01_Key.f k a0_0 a0_1).bind fun bt452 => (if (bt450.1 == bt452.1 && (bt450.2 == bt452.2)) = true then ((heirloomlaw01_alive.f k).bind fun t454 => (some t454)) else (some false)))) else (some false)) = some r := H
    have A5 := Aside0.mk A50
    clear A50
    by_cases c6 : t449 = t447
    · rw [if_pos c6] at H
      have c6b0 : (t449 == t447) = true := beq_iff_eq.mpr c6
      have c6b1 : (t449 != t447) = false := bne_eq_false_iff_eq.mpr c6
      clear c6
      replace H := Option.bind_eq_some_iff.mp H
      obtain ⟨⟨t450, t451⟩, A70, H⟩ := H
      replace H : ((heirloomref01_Key.f k a0_0 a0_1).bind fun bt452 => (if (t450 == bt452.1 && (t451 == bt452.2)) = true then ((heirloomlaw01_alive.f k).bind fun t454 => (some t454)) else (some false))) = some r := H
      have A7 := Aside0.mk A70
      clear A70
      replace H := Option.bind_eq_some_iff.mp H
      obtain ⟨⟨t452, t453⟩, A80, H⟩ := H
      replace H : (if (t450 == t452 && (t451 == t453)) = true then ((heirloomlaw01_alive.f k).bind fun t454 => (some t454)) else (some false)) = some r := H
      have A8 := Aside0.mk A80
      clear A80
      by_cases c9 : (t450 == t452 && (t451 == t453)) = true
      · rw [if_pos c9] at H
        have c9b0 : (t450 == t452 && (t451 == t453)) = true := c9
        (try (have c9b1 : decide (t450 = t452 && (t451 == t453)) = true := by simpa using c9))
        (try (have c9b2 : (t450 == t452 && (t451 == t453)) = true := by simpa using c9))
        clear c9
        replace H := Option.bind_eq_some_iff.mp H
        obtain ⟨t454, A100, H⟩ := H
        replace H : (some t454) = some r := H
        have A10 := Aside0.mk A100
        clear A100
        obtain rfl := Option.some.inj H
        go_enter Try.func12, Try.ntmps12
        try go_wp2_with (first | ((with_reducible refine gate_dst (N := 1) rfl ?_); refine box_event ?hg (N := 1) ?hd (cs := #[.int .i64 a0_0, .int .i64 a0_1]) (t := 23) ?hr ?_; (case hd => rfl); (case hg => rfl); (case hr => go_simp <;> rfl); intro gb440 hg w11 hbox hb; have n0_ := Aside0.mk (below_step (by repeat first | exact HB.out | apply zb | apply zn | apply zd) hb); have n1_ := Aside0.mk (hbox); have n2_ := Aside0.mk ((by rw [hg]; exact (below_size (by repeat first | exact HB.out | apply zb | apply zn | apply zd)) : w.heap.size ≤ gb440)); have n3_ := n2_; clear HB; have HB := n0_; have BK440 := n1_; have GW440 := n2_; have GE440 := n3_; clear n0_ n1_ n2_ n3_; clear hb hbox hg; have hcz12_0 : w11.cell? ⟨gb440, 0, none⟩ = some (.int .i64 a0_0) := (blk_cell BK440.out 0).trans rfl; have hcz12_1 : w11.cell? ⟨gb440, 1, none⟩ = some (.int .i64 a0_1) := (blk_cell BK440.out 1).trans rfl; have hfz12_0 := blk_frozen BK440.out 0; have hfz12_1 := blk_frozen BK440.out 1) | ((with_reducible refine gate_callee (f := 35) rfl ?_); refine goesL_ (some 9) rfl rfl Try.func35 (by kernel_rfl) rfl #[.agg #[.int .i64 a0_0, .int .i64 a0_1]] rfl (by simp only [m1, m2, m3] <;> rfl) ?_; (with_reducible refine (num_Neg.calls a0_0 a0_1 t441 t442 t443 _ A2.out).mono ?_); rintro e w13 ⟨rfl, hb⟩; refine ⟨_, rfl, ?_⟩; have n0_ := Aside0.mk (blk_below (g := gb440) (o := .cells #[.int .i64 a0_0, .int .i64 a0_1] 23 (0, 0)) (by (with_reducible repeat first | refine kn ?_ _ | refine kd ?_ | refine ka ?_ _); exact BK440.out) hb); have n1_ := Aside0.mk (below_step (by repeat first | exact HB.out | apply zb | apply zn | apply zd | refine zs ?_ GE440.out) hb); clear BK440; clear HB; have BK440 := n0_; have HB := n1_; clear n0_ n1_; (try clear hb)) | ((with_reducible refine gate_dst (N := 3) rfl ?_); refine box_event ?hg (N := 3) ?hd (cs := #[.int .i64 0, .int .i64 0]) (t := 23) ?hr ?_; (case hd => rfl); (case hg => rfl); (case hr => go_simp <;> rfl); intro gb444 hg w14 hbox hb; have n0_ := Aside0.mk (blk_below (g := gb440) (o := .cells #[.int .i64 a0_0, .int .i64 a0_1] 23 (0, 0)) (by (with_reducible repeat first | refine kn ?_ _ | refine kd ?_ | refine ka ?_ _); exact BK440.out) hb); have n1_ := Aside0.mk (below_step (by repeat first | exact HB.out | apply zb | apply zn | apply zd | refine zs ?_ GE440.out) hb); have n2_ := Aside0.mk (hbox); have n3_ := Aside0.mk ((by rw [hg]; exact (below_size (by repeat first | exact HB.out | apply zb | apply zn | apply zd | refine zs ?_ GE440.out)) : w.heap.size ≤ gb444)); have n4_ := Aside0.mk ((by rw [hg]; exact (below_size (by repeat first | exact HB.out | apply zb | apply zn | apply zd | refine zs ?_ GE440.out)) : w.heap.size ≤ gb444)); have n5_ := Aside0.mk ((by rw [hg]; exact Nat.ne_of_lt (blk_lt (g := gb440) (o := .cells #[.int .i64 a0_0, .int .i64 a0_1] 23 (0, 0)) (by (with_reducible repeat first | refine kn ?_ _ | refine kd ?_ | refine ka ?_ _); exact BK440.out)) : gb440 ≠ gb444)); have n6_ := Aside0.mk ((by rw [hg]; exact Nat.ne_of_gt (blk_lt (g := gb440) (o := .cells #[.int .i64 a0_0, .int .i64 a0_1] 23 (0, 0)) (by (with_reducible repeat first | refine kn ?_ _ | refine kd ?_ | refine ka ?_ _); exact BK440.out)) : gb444 ≠ gb440)); clear BK440; clear HB; have BK440 := n0_; have HB := n1_; have BK444 := n2_; have GW444 := n3_; have GE444 := n4_; have NB440_444 := n5_; have NB444_440 := n6_; clear n0_ n1_ n2_ n3_ n4_ n5_ n6_; clear hb hbox hg; have hnb15 := NB444_440.out; have hnc15 := NB440_444.out; have hcz16_0 : w14.cell? ⟨gb444, 0, none⟩ = some (.int .i64 0) := (blk_cell BK444.out 0).trans rfl; have hcz16_1 : w14.cell? ⟨gb444, 1, none⟩ = some (.int .i64 0) := (blk_cell BK444.out 1).trans rfl; have hfz16_0 := blk_frozen BK444.out 0; have hfz16_1 := blk_frozen BK444.out 1; have hcz17_0 : w14.cell? ⟨gb440, 0, none⟩ = some (.int .i64 a0_0) := (blk_cell BK440.out 0).trans rfl; have hcz17_1 : w14.cell? ⟨gb440, 1, none⟩ = some (.int .i64 a0_1) := (blk_cell BK440.out 1).trans rfl; have hfz17_0 := blk_frozen BK440.out 0; have hfz17_1 := blk_frozen BK440.out 1) | ((with_reducible refine gate_callee (f := 36) rfl ?_); refine goesL_ (some 14) rfl rfl Try.func36 (by kernel_rfl) rfl #[.agg #[.int .i64 a0_0, .int .i64 a0_1]] rfl (by simp only [m1, m2, m3] <;> rfl) ?_; (with_reducible refine (heirloomref01_Neg.calls a0_0 a0_1 t445 t446 t447 _ A3.out).mono ?_); rintro e w18 ⟨rfl, hb⟩; refine ⟨_, rfl, ?_⟩; have n0_ := Aside0.mk (blk_below (g := gb440) (o := .cells #[.int .i64 a0_0, .int .i64 a0_1] 23 (0, 0)) (by (with_reducible repeat first | refine kn ?_ _ | refine kd ?_ | refine ka ?_ _); refine blk_far ?_ NB440_444.out _; (with_reducible repeat first | refine kn ?_ _ | refine kd ?_ | refine ka ?_ _); refine blk_far ?_ NB440_444.out _; (with_reducible repeat first | refine kn ?_ _ | refine kd ?_ | refine ka ?_ _); exact BK440.out) hb); have n1_ := Aside0.mk (blk_below (g := gb444) (o := .cells #[.int .i64 t441, .int .i64 t442] 23 (0, 0)) (by (with_reducible repeat first | refine kn ?_ _ | refine kd ?_ | refine ka ?_ _); refine blk_put (cs := #[.int .i64 t441, .int .i64 0]) ?_ 1 _ rfl; (with_reducible repeat first | refine kn ?_ _ | refine kd ?_ | refine ka ?_ _); refine blk_put (cs := #[.int .i64 0, .int .i64 0]) ?_ 0 _ rfl; (with_reducible repeat first | refine kn ?_ _ | refine kd ?_ | refine ka ?_ _); exact BK444.out) hb); have n2_ := Aside0.mk (below_step (by repeat first | exact HB.out | apply zb | apply zn | apply zd | refine zs ?_ GE440.out | refine zs ?_ GE444.out) hb); clear BK440; clear BK444; clear HB; have BK440 := n0_; have BK444 := n1_; have HB := n2_; clear n0_ n1_ n2_; (try clear hb)) | ((with_reducible refine gate_dst (N := 5) rfl ?_); refine box_event ?hg (N := 5) ?hd (cs := #[.int .i64 0, .int .i64 0]) (t := 23) ?hr ?_; (case hd => rfl); (case hg => rfl); (case hr => go_simp <;> rfl); intro gb448 hg w19 hbox hb; have n0_ := Aside0.mk (blk_below (g := gb440) (o := .cells #[.int .i64 a0_0, .int .i64 a0_1] 23 (0, 0)) (by (with_reducible repeat first | refine kn ?_ _ | refine kd ?_ | refine ka ?_ _); exact BK440.out) hb); have n1_ := Aside0.mk (blk_below (g := gb444) (o := .cells #[.int .i64 t441, .int .i64 t442] 23 (0, 0)) (by (with_reducible repeat first | refine kn ?_ _ | refine kd ?_ | refine ka ?_ _); exact BK444.out) hb); have n2_ := Aside0.mk (below_step (by repeat first | exact HB.out | apply zb | apply zn | apply zd | refine zs ?_ GE440.out | refine zs ?_ GE444.out) hb); have n3_ := Aside0.mk (hbox); have n4_ := Aside0.mk ((by rw [hg]; exact (below_size (by repeat first | exact HB.out | apply zb | apply zn | apply zd | refine zs ?_ GE440.out | refine zs ?_ GE444.out)) : w.heap.size ≤ gb448)); have n5_ := Aside0.mk ((by rw [hg]; exact (below_size (by repeat first | exact HB.out | apply zb | apply zn | apply zd | refine zs ?_ GE440.out | refine zs ?_ GE444.out)) : w.heap.size ≤ gb448)); have n6_ := Aside0.mk ((by rw [hg]; exact Nat.ne_of_lt (blk_lt (g := gb440) (o := .cells #[.int .i64 a0_0, .int .i64 a0_1] 23 (0, 0)) (by (with_reducible repeat first | refine kn ?_ _ | refine kd ?_ | refine ka ?_ _); exact BK440.out)) : gb440 ≠ gb448)); have n7_ := Aside0.mk ((by rw [hg]; exact Nat.ne_of_gt (blk_lt (g := gb440) (o := .cells #[.int .i64 a0_0, .int .i64 a0_1] 23 (0, 0)) (by (with_reducible repeat first | refine kn ?_ _ | refine kd ?_ | refine ka ?_ _); exact BK440.out)) : gb448 ≠ gb440)); have n8_ := Aside0.mk ((by rw [hg]; exact Nat.ne_of_lt (blk_lt (g := gb444) (o := .cells #[.int .i64 t441, .int .i64 t442] 23 (0, 0)) (by (with_reducible repeat first | refine kn ?_ _ | refine kd ?_ | refine ka ?_ _); exact BK444.out)) : gb444 ≠ gb448)); have n9_ := Aside0.mk ((by rw [hg]; exact Nat.ne_of_gt (blk_lt (g := gb444) (o := .cells #[.int .i64 t441, .int .i64 t442] 23 (0, 0)) (by (with_reducible repeat first | refine kn ?_ _ | refine kd ?_ | refine ka ?_ _); exact BK444.out)) : gb448 ≠ gb444)); clear BK440; clear BK444; clear HB; have BK440 := n0_; have BK444 := n1_; have HB := n2_; have BK448 := n3_; have GW448 := n4_; have GE448 := n5_; have NB440_448 := n6_; have NB448_440 := n7_; have NB444_448 := n8_; have NB448_444 := n9_; clear n0_ n1_ n2_ n3_ n4_ n5_ n6_ n7_ n8_ n9_; clear hb hbox hg; have hnb20 := NB448_440.out; have hnc20 := NB440_448.out; have hnb21 := NB448_444.out; have hnc21 := NB444_448.out; have hcz22_0 : w19.cell? ⟨gb448, 0, none⟩ = some (.int .i64 0) := (blk_cell BK448.out 0).trans rfl; have hcz22_1 : w19.cell? ⟨gb448, 1, none⟩ = some (.int .i64 0) := (blk_cell BK448.out 1).trans rfl; have hfz22_0 := blk_frozen BK448.out 0; have hfz22_1 := blk_frozen BK448.out 1))
        have n0_ : Aside0 (((w19.setCell ⟨gb448, 0, none⟩ (.int .i64 t445)).setCell ⟨gb448, 1, none⟩ (.int .i64 t446)).heap[gb440]? = some (.cells #[.int .i64 a0_0, .int .i64 a0_1] 23 (0, 0))) := ⟨by (with_reducible repeat first | refine kn ?_ _ | refine kd ?_ | refine ka ?_ _); refine blk_far ?_ NB440_448.out _; (with_reducible repeat first | refine kn ?_ _ | refine kd ?_ | refine ka ?_ _); refine blk_far ?_ NB440_448.out _; (with_reducible repeat first | refine kn ?_ _ | refine kd ?_ | refine ka ?_ _); exact BK440.out⟩
        have n1_ : Aside0 (((w19.setCell ⟨gb448, 0, none⟩ (.int .i64 t445)).setCell ⟨gb448, 1, none⟩ (.int .i64 t446)).heap[gb444]? = some (.cells #[.int .i64 t441, .int .i64 t442] 23 (0, 0))) := ⟨by (with_reducible repeat first | refine kn ?_ _ | refine kd ?_ | refine ka ?_ _); refine blk_far ?_ NB444_448.out _; (with_reducible repeat first | refine kn ?_ _ | refine kd ?_ | refine ka ?_ _); refine blk_far ?_ NB444_448.out _; (with_reducible repeat first | refine kn ?_ _ | refine kd ?_ | refine ka ?_ _); exact BK444.out⟩
        have n2_ : Aside0 (((w19.setCell ⟨gb448, 0, none⟩ (.int .i64 t445)).setCell ⟨gb448, 1, none⟩ (.int .i64 t446)).heap[gb448]? = some (.cells #[.int .i64 t445, .int .i64 t446] 23 (0, 0))) := ⟨by (with_reducible repeat first | refine kn ?_ _ | refine kd ?_ | refine ka ?_ _); refine blk_put (cs := #[.int .i64 t445, .int .i64 0]) ?_ 1 _ rfl; (with_reducible repeat first | refine kn ?_ _ | refine kd ?_ | refine ka ?_ _); refine blk_put (cs := #[.int .i64 0, .int .i64 0]) ?_ 0 _ rfl; (with_reducible repeat first | refine kn ?_ _ | refine kd ?_ | refine ka ?_ _); exact BK448.out⟩
        have n3_ : Aside0 (Below w.heap.size w ((w19.setCell ⟨gb448, 0, none⟩ (.int .i64 t445)).setCell ⟨gb448, 1, none⟩ (.int .i64 t446))) := ⟨by repeat first | exact HB.out | apply zb | apply zn | apply zd | refine zs ?_ GE440.out | refine zs ?_ GE444.out | refine zs ?_ GE448.out⟩
        (try clear BK440)
        (try clear BK444)
        (try clear BK448)
        (try clear HB)
        generalize ((w19.setCell ⟨gb448, 0, none⟩ (.int .i64 t445)).setCell ⟨gb448, 1, none⟩ (.int .i64 t446)) = w23 at n0_ n1_ n2_ n3_ ⊢
        have BK440 := n0_
        have BK444 := n1_
        have BK448 := n2_
        have HB := n3_
        clear n0_ n1_ n2_ n3_
        have n0_ := Aside0.mk (blk_drew BK440.out)
        have n1_ := Aside0.mk (blk_drew BK444.out)
        have n2_ := Aside0.mk (blk_drew BK448.out)
        have n3_ := Aside0.mk (below_drew1 HB.out)
        clear BK440
        clear BK444
        clear BK448
        clear HB
        have BK440 := n0_
        have BK444 := n1_
        have BK448 := n2_
        have HB := n3_
        clear n0_ n1_ n2_ n3_
        refine start_ (n := 20) (S := fun w' => w'.cell? ⟨gb444, 0, none⟩ = some (.int .i64 t441) ∧ w'.cell? ⟨gb444, 1, none⟩ = some (.int .i64 t442) ∧ w'.cell? ⟨gb448, 0, none⟩ = some (.int .i64 t445) ∧ w'.cell? ⟨gb448, 1, none⟩ = some (.int .i64 t446) ∧ w'.cell? ⟨gb440, 0, none⟩ = some (.int .i64 a0_0) ∧ w'.cell? ⟨gb440, 1, none⟩ = some (.int .i64 a0_1)) (ds := []) #[false, false, false, false, false, false, false, false, false, false, false, false, false, false, false, false, false, false, false, false] (by kernel_rfl) rfl rfl ⟨(blk_cell BK444.out 0).trans rfl, (blk_cell BK444.out 1).trans rfl, (blk_cell BK448.out 0).trans rfl, (blk_cell BK448.out 1).trans rfl, (blk_cell BK440.out 0).trans rfl, (blk_cell BK440.out 1).trans rfl⟩ (fun hHeld => ?_); refine with_tabW heirloomlaw01_NumNegs.tab3 heirloomlaw01_NumNegs.bits3 (fun HT_ HW_ => ?_)
        generalize w23.drew = w24 at BK440 BK444 BK448 HB hHeld ⊢
        refine take_ (i := 0) (N := some 17) (v := ?_) (a' := ?_) #[true, false, false, false, false, false, false, false, false, false, false, false, false, false, false, false, false, false, false, false] rfl rfl (take_ofW HT_.out HW_.out (by kernel_rfl)) (fun _ _ _ h => h) (Or.inl ⟨by rfl, ?_⟩) hHeld ?_ ?_
        rotate_left
        · rintro w' ⟨s0, s1, s2, s3, s4, s5⟩
          go_simp
          first | with_reducible rfl | (rw [if_neg (by have hq_ : (_ + _ : Nat) ≤ 9223372036854775807 := (by assumption); simp only [ByteArray.size_extract] at hq_; simp only [decide_eq_true_eq] at *; omega)]; done)
        rotate_left
        · simp only [Act.put, List.setIfInBounds_toArray, List.set_cons_zero, List.set_cons_succ, i64_w, i32_w]
          rfl
        refine take_ (i := 1) (N := some 18) (v := ?_) (a' := ?_) #[true, true, false, false, false, false, false, false, false, false, false, false, false, false, false, false, false, false, false, false] rfl rfl (take_ofW HT_.out HW_.out (by kernel_rfl)) (fun _ _ _ h => h) (Or.inl ⟨by rfl, ?_⟩) hHeld ?_ ?_
        rotate_left
        · rintro w' ⟨s0, s1, s2, s3, s4, s5⟩
          go_simp
          first | with_reducible rfl | (rw [if_neg (by have hq_ : (_ + _ : Nat) ≤ 9223372036854775807 := (by assumption); simp only [ByteArray.size_extract] at hq_; simp only [decide_eq_true_eq] at *; omega)]; done)
        rotate_left
        · simp only [Act.put, List.setIfInBounds_toArray, List.set_cons_zero, List.set_cons_succ, i64_w, i32_w]
          rfl
        refine pure_ (i := 2) (N := some 19) (v := ?_) (a' := ?_) #[true, true, true, false, false, false, false, false, false, false, false, false, false, false, false, false, false, false, false, false] rfl rfl (any_of HT_.out (by kernel_rfl)) (fun _ _ _ h => h) (Or.inl ⟨by rfl, ?_⟩) ?_ ?_
        rotate_left
        · intro w'
          go_simp
          first | with_reducible rfl | (rw [if_neg (by have hq_ : (_ + _ : Nat) ≤ 9223372036854775807 := (by assumption); simp only [ByteArray.size_extract] at hq_; simp only [decide_eq_true_eq] at *; omega)]; done)
        rotate_left
        · simp only [Act.put, List.setIfInBounds_toArray, List.set_cons_zero, List.set_cons_succ, i64_w, i32_w]
          rfl
        refine pure_ (i := 3) (N := some 20) (v := ?_) (a' := ?_) #[true, true, true, true, false, false, false, false, false, false, false, false, false, false, false, false, false, false, false, false] rfl rfl (any_of HT_.out (by kernel_rfl)) (fun _ _ _ h => h) (Or.inl ⟨by rfl, ?_⟩) ?_ ?_
        rotate_left
        · intro w'
          go_simp
          first | with_reducible rfl | (rw [if_neg (by have hq_ : (_ + _ : Nat) ≤ 9223372036854775807 := (by assumption); simp only [ByteArray.size_extract] at hq_; simp only [decide_eq_true_eq] at *; omega)]; done)
        rotate_left
        · simp only [Act.put, List.setIfInBounds_toArray, List.set_cons_zero, List.set_cons_succ, i64_w, i32_w]
          rfl
        refine pure_ (i := 4) (N := some 21) (v := ?_) (a' := ?_) #[true, true, true, true, true, false, false, false, false, false, false, false, false, false, false, false, false, false, false, false] rfl rfl (any_of HT_.out (by kernel_rfl)) (fun _ _ _ h => h) (Or.inl ⟨by rfl, ?_⟩) ?_ ?_
        rotate_left
        · intro w'
          go_simp
          first | with_reducible rfl | (rw [if_neg (by have hq_ : (_ + _ : Nat) ≤ 9223372036854775807 := (by assumption); simp only [ByteArray.size_extract] at hq_; simp only [decide_eq_true_eq] at *; omega)]; done)
        rotate_left
        · simp only [Act.put, List.setIfInBounds_toArray, List.set_cons_zero, List.set_cons_succ, i64_w, i32_w]
          rfl
        refine pure_ (i := 6) (N := some 23) (v := ?_) (a' := ?_) #[true, true, true, true, true, false, true, false, false, false, false, false, false, false, false, false, false, false, false, false] rfl rfl (any_of HT_.out (by kernel_rfl)) (fun _ _ _ h => h) (Or.inl ⟨by rfl, ?_⟩) ?_ ?_
        rotate_left
        · intro w'
          go_simp
          first | with_reducible rfl | (rw [if_neg (by have hq_ : (_ + _ : Nat) ≤ 9223372036854775807 := (by assumption); simp only [ByteArray.size_extract] at hq_; simp only [decide_eq_true_eq] at *; omega)]; done)
        rotate_left
        · simp only [Act.put, List.setIfInBounds_toArray, List.set_cons_zero, List.set_cons_succ, i64_w, i32_w]
          rfl
        refine one_ (i := 5) (N := some 22) #[true, true, true, true, true, true, true, false, false, false, false, false, false, false, false, false, false, false, false, false] rfl rfl (one_of HT_.out (by kernel_rfl)) (by decide) (fun K hK => ?_)
        refine goes_ Try.func24 (by kernel_rfl) rfl #[.int .i64 t443] (by rfl) rfl rfl (by (try simp only [List.map_toArray, List.map_cons, List.map_nil]); first | done | rfl | (simp only [List.length_drop, List.length_take]; rfl)) ?_
        with_reducible refine (heirloomlaw01_no.calls t443 t449 _ A5.out).mono ?_
        rintro e w' ⟨rfl, ⟨nd, rfl⟩⟩
        refine ⟨_, rfl, ?_⟩
        refine hK.out _ _ ⟨(blk_cell BK444.out 0).trans rfl, (blk_cell BK444.out 1).trans rfl, (blk_cell BK448.out 0).trans rfl, (blk_cell BK448.out 1).trans rfl, (blk_cell BK440.out 0).trans rfl, (blk_cell BK440.out 1).trans rfl⟩ (fun hHeld => ?_)
        clear hK K
        refine norm_ (a' := ?_) ?_ ?_
        rotate_left
        · show Act.put _ (some 22) _ = _
          simp only [Act.put, List.setIfInBounds_toArray, List.set_cons_zero, List.set_cons_succ, i64_w, i32_w]
          rfl
        refine pure_ (i := 7) (N := some 24) (v := ?_) (a' := ?_) #[true, true, true, true, true, true, true, true, false, false, false, false, false, false, false, false, false, false, false, false] rfl rfl (any_of HT_.out (by kernel_rfl)) (fun _ _ _ h => h) (Or.inl ⟨by rfl, ?_⟩) ?_ ?_
        rotate_left
        · intro w'
          go_simp
          first | with_reducible rfl | (rw [if_neg (by have hq_ : (_ + _ : Nat) ≤ 9223372036854775807 := (by assumption); simp only [ByteArray.size_extract] at hq_; simp only [decide_eq_true_eq] at *; omega)]; done)
        rotate_left
        · simp only [Act.put, List.setIfInBounds_toArray, List.set_cons_zero, List.set_cons_succ, i64_w, i32_w]
          rfl
        refine pure_ (i := 8) (N := some 25) (v := ?_) (a' := ?_) #[true, true, true, true, true, true, true, true, true, false, false, false, false, false, false, false, false, false, false, false] rfl rfl (any_of HT_.out (by kernel_rfl)) (fun _ _ _ h => h) (Or.inl ⟨by rfl, ?_⟩) ?_ ?_
        rotate_left
        · intro w'
          go_simp
          first | with_reducible rfl | (rw [if_neg (by have hq_ : (_ + _ : Nat) ≤ 9223372036854775807 := (by assumption); simp only [ByteArray.size_extract] at hq_; simp only [decide_eq_true_eq] at *; omega)]; done)
        rotate_left
        · simp only [Act.put, List.setIfInBounds_toArray, List.set_cons_zero, List.set_cons_succ, i64_w, i32_w]
          rfl
        refine pure_ (i := 9) (N := some 26) (v := ?_) (a' := ?_) #[true, true, true, true, true, true, true, true, true, true, false, false, false, false, false, false, false, false, false, false] rfl rfl (any_of HT_.out (by kernel_rfl)) (fun _ _ _ h => h) (Or.inl ⟨by rfl, ?_⟩) ?_ ?_
        rotate_left
        · intro w'
          go_simp
          first | with_reducible rfl | (rw [if_neg (by have hq_ : (_ + _ : Nat) ≤ 9223372036854775807 := (by assumption); simp only [ByteArray.size_extract] at hq_; simp only [decide_eq_true_eq] at *; omega)]; done)
        rotate_left
        · simp only [Act.put, List.setIfInBounds_toArray, List.set_cons_zero, List.set_cons_succ, i64_w, i32_w]
          rfl
        refine take_ (i := 10) (N := some 27) (v := ?_) (a' := ?_) #[true, true, true, true, true, true, true, true, true, true, true, false, false, false, false, false, false, false, false, false] rfl rfl (take_ofW HT_.out HW_.out (by kernel_rfl)) (fun _ _ _ h => h) (Or.inl ⟨by rfl, ?_⟩) hHeld ?_ ?_
        rotate_left
        · rintro w' ⟨s0, s1, s2, s3, s4, s5⟩
          go_simp
          first | with_reducible rfl | (rw [if_neg (by have hq_ : (_ + _ : Nat) ≤ 9223372036854775807 := (by assumption); simp only [ByteArray.size_extract] at hq_; simp only [decide_eq_true_eq] at *; omega)]; done)
        rotate_left
        · simp only [Act.put, List.setIfInBounds_toArray, List.set_cons_zero, List.set_cons_succ, i64_w, i32_w]
          rfl
        refine take_ (i := 12) (N := some 29) (v := ?_) (a' := ?_) #[true, true, true, true, true, true, true, true, true, true, true, false, true, false, false, false, false, false, false, false] rfl rfl (take_ofW HT_.out HW_.out (by kernel_rfl)) (fun _ _ _ h => h) (Or.inl ⟨by rfl, ?_⟩) hHeld ?_ ?_
        rotate_left
        · rintro w' ⟨s0, s1, s2, s3, s4, s5⟩
          go_simp
          first | with_reducible rfl | (rw [if_neg (by have hq_ : (_ + _ : Nat) ≤ 9223372036854775807 := (by assumption); simp only [ByteArray.size_extract] at hq_; simp only [decide_eq_true_eq] at *; omega)]; done)
        rotate_left
        · simp only [Act.put, List.setIfInBounds_toArray, List.set_cons_zero, List.set_cons_succ, i64_w, i32_w]
          rfl
        refine one_ (i := 11) (N := some 28) #[true, true, true, true, true, true, true, true, true, true, true, true, true, false, false, false, false, false, false, false] rfl rfl (one_of HT_.out (by kernel_rfl)) (by decide) (fun K hK => ?_)
        refine goes_ Try.func34 (by kernel_rfl) rfl #[.agg #[.int .i64 a0_0, .int .i64 a0_1]] (by rfl) rfl rfl (by (try simp only [List.map_toArray, List.map_cons, List.map_nil]); first | done | rfl | (simp only [List.length_drop, List.length_take]; rfl)) ?_
        with_reducible refine (num_Key.calls a0_0 a0_1 t450 t451 _ A7.out).mono ?_
        rintro e w25 ⟨rfl, hb⟩
        refine ⟨_, rfl, ?_⟩
        have n0_ := Aside0.mk (blk_below (g := gb440) (o := .cells #[.int .i64 a0_0, .int .i64 a0_1] 23 (0, 0)) (by (with_reducible repeat first | refine kn ?_ _ | refine kd ?_ | refine ka ?_ _); exact BK440.out) hb)
        have n1_ := Aside0.mk (blk_below (g := gb444) (o := .cells #[.int .i64 t441, .int .i64 t442] 23 (0, 0)) (by (with_reducible repeat first | refine kn ?_ _ | refine kd ?_ | refine ka ?_ _); exact BK444.out) hb)
        have n2_ := Aside0.mk (blk_below (g := gb448) (o := .cells #[.int .i64 t445, .int .i64 t446] 23 (0, 0)) (by (with_reducible repeat first | refine kn ?_ _ | refine kd ?_ | refine ka ?_ _); exact BK448.out) hb)
        have n3_ := Aside0.mk (below_step (by repeat first | exact HB.out | apply zb | apply zn | apply zd | refine zs ?_ GE440.out | refine zs ?_ GE444.out | refine zs ?_ GE448.out) hb)
        clear BK440
        clear BK444
        clear BK448
        clear HB
        have BK440 := n0_
        have BK444 := n1_
        have BK448 := n2_
        have HB := n3_
        clear n0_ n1_ n2_ n3_
        (try clear hb)
        (try clear hb2)
        (try clear hk)
        (try clear hi)
        refine hK.out _ _ ⟨(blk_cell BK444.out 0).trans rfl, (blk_cell BK444.out 1).trans rfl, (blk_cell BK448.out 0).trans rfl, (blk_cell BK448.out 1).trans rfl, (blk_cell BK440.out 0).trans rfl, (blk_cell BK440.out 1).trans rfl⟩ (fun hHeld => ?_)
        clear hK K
        refine norm_ (a' := ?_) ?_ ?_
        rotate_left
        · show Act.put _ (some 28) _ = _
          simp only [Act.put, List.setIfInBounds_toArray, List.set_cons_zero, List.set_cons_succ, i64_w, i32_w]
          rfl
        refine one_ (i := 13) (N := some 30) #[true, true, true, true, true, true, true, true, true, true, true, true, true, true, false, false, false, false, false, false] rfl rfl (one_of HT_.out (by kernel_rfl)) (by decide) (fun K hK => ?_)
        refine goes_ Try.func37 (by kernel_rfl) rfl #[.agg #[.int .i64 a0_0, .int .i64 a0_1]] (by rfl) rfl rfl (by (try simp only [List.map_toArray, List.map_cons, List.map_nil]); first | done | rfl | (simp only [List.length_drop, List.length_take]; rfl)) ?_
        with_reducible refine (heirloomref01_Key.calls k a0_0 a0_1 t452 t453 _ A8.out).mono ?_
        rintro e w26 ⟨rfl, hb⟩
        refine ⟨_, rfl, ?_⟩
        have n0_ := Aside0.mk (blk_below (g := gb440) (o := .cells #[.int .i64 a0_0, .int .i64 a0_1] 23 (0, 0)) (by (with_reducible repeat first | refine kn ?_ _ | refine kd ?_ | refine ka ?_ _); exact BK440.out) hb)
        have n1_ := Aside0.mk (blk_below (g := gb444) (o := .cells #[.int .i64 t441, .int .i64 t442] 23 (0, 0)) (by (with_reducible repeat first | refine kn ?_ _ | refine kd ?_ | refine ka ?_ _); exact BK444.out) hb)
        have n2_ := Aside0.mk (blk_below (g := gb448) (o := .cells #[.int .i64 t445, .int .i64 t446] 23 (0, 0)) (by (with_reducible repeat first | refine kn ?_ _ | refine kd ?_ | refine ka ?_ _); exact BK448.out) hb)
        have n3_ := Aside0.mk (below_step (by repeat first | exact HB.out | apply zb | apply zn | apply zd | refine zs ?_ GE440.out | refine zs ?_ GE444.out | refine zs ?_ GE448.out) hb)
        clear BK440
        clear BK444
        clear BK448
        clear HB
        have BK440 := n0_
        have BK444 := n1_
        have BK448 := n2_
        have HB := n3_
        clear n0_ n1_ n2_ n3_
        (try clear hb)
        (try clear hb2)
        (try clear hk)
        (try clear hi)
        refine hK.out _ _ ⟨(blk_cell BK444.out 0).trans rfl, (blk_cell BK444.out 1).trans rfl, (blk_cell BK448.out 0).trans rfl, (blk_cell BK448.out 1).trans rfl, (blk_cell BK440.out 0).trans rfl, (blk_cell BK440.out 1).trans rfl⟩ (fun hHeld => ?_)
        clear hK K
        refine norm_ (a' := ?_) ?_ ?_
        rotate_left
        · show Act.put _ (some 30) _ = _
          simp only [Act.put, List.setIfInBounds_toArray, List.set_cons_zero, List.set_cons_succ, i64_w, i32_w]
          rfl
        refine pure_ (i := 14) (N := some 31) (v := ?_) (a' := ?_) #[true, true, true, true, true, true, true, true, true, true, true, true, true, true, true, false, false, false, false, false] rfl rfl (any_of HT_.out (by kernel_rfl)) (fun _ _ _ h => h) (Or.inl ⟨by rfl, ?_⟩) ?_ ?_
        rotate_left
        · intro w'
          go_simp
          first | with_reducible rfl | (rw [if_neg (by have hq_ : (_ + _ : Nat) ≤ 9223372036854775807 := (by assumption); simp only [ByteArray.size_extract] at hq_; simp only [decide_eq_true_eq] at *; omega)]; done)
        rotate_left
        · simp only [Act.put, List.setIfInBounds_toArray, List.set_cons_zero, List.set_cons_succ, i64_w, i32_w]
          rfl
        refine pure_ (i := 15) (N := some 32) (v := ?_) (a' := ?_) #[true, true, true, true, true, true, true, true, true, true, true, true, true, true, true, true, false, false, false, false] rfl rfl (any_of HT_.out (by kernel_rfl)) (fun _ _ _ h => h) (Or.inl ⟨by rfl, ?_⟩) ?_ ?_
        rotate_left
        · intro w'
          go_simp
          first | with_reducible rfl | (rw [if_neg (by have hq_ : (_ + _ : Nat) ≤ 9223372036854775807 := (by assumption); simp only [ByteArray.size_extract] at hq_; simp only [decide_eq_true_eq] at *; omega)]; done)
        rotate_left
        · simp only [Act.put, List.setIfInBounds_toArray, List.set_cons_zero, List.set_cons_succ, i64_w, i32_w]
          rfl
        refine pure_ (i := 16) (N := some 33) (v := ?_) (a' := ?_) #[true, true, true, true, true, true, true, true, true, true, true, true, true, true, true, true, true, false, false, false] rfl rfl (any_of HT_.out (by kernel_rfl)) (fun _ _ _ h => h) (Or.inl ⟨by rfl, ?_⟩) ?_ ?_
        rotate_left
        · intro w'
          go_simp
          first | with_reducible rfl | (rw [if_neg (by have hq_ : (_ + _ : Nat) ≤ 9223372036854775807 := (by assumption); simp only [ByteArray.size_extract] at hq_; simp only [decide_eq_true_eq] at *; omega)]; done)
        rotate_left
        · simp only [Act.put, List.setIfInBounds_toArray, List.set_cons_zero, List.set_cons_succ, i64_w, i32_w]
          rfl
        refine one_ (i := 17) (N := some 34) #[true, true, true, true, true, true, true, true, true, true, true, true, true, true, true, true, true, true, false, false] rfl rfl (one_of HT_.out (by kernel_rfl)) (by decide) (fun K hK => ?_)
        refine goes_ Try.func25 (by kernel_rfl) rfl #[] (by rfl) rfl rfl (by (try simp only [List.map_toArray, List.map_cons, List.map_nil]); first | done | rfl | (simp only [List.length_drop, List.length_take]; rfl)) ?_
        with_reducible refine (heirloomlaw01_alive.calls k  t454 _ A10.out).mono ?_
        rintro e w27 ⟨rfl, hb⟩
        refine ⟨_, rfl, ?_⟩
        have n0_ := Aside0.mk (blk_below (g := gb440) (o := .cells #[.int .i64 a0_0, .int .i64 a0_1] 23 (0, 0)) (by (with_reducible repeat first | refine kn ?_ _ | refine kd ?_ | refine ka ?_ _); exact BK440.out) hb)
        have n1_ := Aside0.mk (blk_below (g := gb444) (o := .cells #[.int .i64 t441, .int .i64 t442] 23 (0, 0)) (by (with_reducible repeat first | refine kn ?_ _ | refine kd ?_ | refine ka ?_ _); exact BK444.out) hb)
        have n2_ := Aside0.mk (blk_below (g := gb448) (o := .cells #[.int .i64 t445, .int .i64 t446] 23 (0, 0)) (by (with_reducible repeat first | refine kn ?_ _ | refine kd ?_ | refine ka ?_ _); exact BK448.out) hb)
        have n3_ := Aside0.mk (below_step (by repeat first | exact HB.out | apply zb | apply zn | apply zd | refine zs ?_ GE440.out | refine zs ?_ GE444.out | refine zs ?_ GE448.out) hb)
        clear BK440
        clear BK444
        clear BK448
        clear HB
        have BK440 := n0_
        have BK444 := n1_
        have BK448 := n2_
        have HB := n3_
        clear n0_ n1_ n2_ n3_
        (try clear hb)
        (try clear hb2)
        (try clear hk)
        (try clear hi)
        refine hK.out _ _ ⟨(blk_cell BK444.out 0).trans rfl, (blk_cell BK444.out 1).trans rfl, (blk_cell BK448.out 0).trans rfl, (blk_cell BK448.out 1).trans rfl, (blk_cell BK440.out 0).trans rfl, (blk_cell BK440.out 1).trans rfl⟩ (fun hHeld => ?_)
        clear hK K
        refine norm_ (a' := ?_) ?_ ?_
        rotate_left
        · show Act.put _ (some 34) _ = _
          simp only [Act.put, List.setIfInBounds_toArray, List.set_cons_zero, List.set_cons_succ, i64_w, i32_w]
          rfl
        refine pure_ (i := 18) (N := some 35) (v := ?_) (a' := ?_) #[true, true, true, true, true, true, true, true, true, true, true, true, true, true, true, true, true, true, true, false] rfl rfl (any_of HT_.out (by kernel_rfl)) (fun _ _ _ h => h) (Or.inl ⟨by rfl, ?_⟩) ?_ ?_
        rotate_left
        · intro w'
          go_simp
          first | with_reducible rfl | (rw [if_neg (by have hq_ : (_ + _ : Nat) ≤ 9223372036854775807 := (by assumption); simp only [ByteArray.size_extract] at hq_; simp only [decide_eq_true_eq] at *; omega)]; done)
        rotate_left
        · simp only [Act.put, List.setIfInBounds_toArray, List.set_cons_zero, List.set_cons_succ, i64_w, i32_w]
          rfl
        refine pure_ (i := 19) (N := some 2) (v := ?_) (a' := ?_) #[true, true, true, true, true, true, true, true, true, true, true, true, true, true, true, true, true, true, true, true] rfl rfl (any_of HT_.out (by kernel_rfl)) (fun _ _ _ h => h) (Or.inl ⟨by rfl, ?_⟩) ?_ ?_
        rotate_left
        · intro w'
          go_simp
          first | with_reducible rfl | (rw [if_neg (by have hq_ : (_ + _ : Nat) ≤ 9223372036854775807 := (by assumption); simp only [ByteArray.size_extract] at hq_; simp only [decide_eq_true_eq] at *; omega)]; done)
        rotate_left
        · simp only [Act.put, List.setIfInBounds_toArray, List.set_cons_zero, List.set_cons_succ, i64_w, i32_w]
          rfl
        refine done_ (done_of HT_.out (by kernel_rfl)) ?_
        try go_wp2
        go_ret
        exact ⟨by first | rfl | (simp [errW_none, errW_some] <;> rfl) | (simp [*, errW_none, errW_some] <;> rfl), by repeat first | exact HB.out | apply zb | apply zn | apply zd | refine zs ?_ GE440.out | refine zs ?_ GE444.out | refine zs ?_ GE448.out⟩
      · rw [if_neg c9] at H
        have c9b0 : (t450 == t452 && (t451 == t453)) = false := by simpa using c9
        (try (have c9b1 : decide (t450 = t452 && (t451 == t453)) = false := by simpa using c9))
        (try (have c9b2 : (t450 == t452 && (t451 == t453)) = false := by simpa using c9))
        (try (have c9b3 : ¬ (t450 = t452 && (t451 == t453)) := by simpa using c9))
        clear c9
        obtain rfl := Option.some.inj H
        go_enter Try.func12, Try.ntmps12
        try go_wp2_with (first | ((with_reducible refine gate_dst (N := 1) rfl ?_); refine box_event ?hg (N := 1) ?hd (cs := #[.int .i64 a0_0, .int .i64 a0_1]) (t := 23) ?hr ?_; (case hd => rfl); (case hg => rfl); (case hr => go_simp <;> rfl); intro gb440 hg w28 hbox hb; have n0_ := Aside0.mk (below_step (by repeat first | exact HB.out | apply zb | apply zn | apply zd) hb); have n1_ := Aside0.mk (hbox); have n2_ := Aside0.mk ((by rw [hg]; exact (below_size (by repeat first | exact HB.out | apply zb | apply zn | apply zd)) : w.heap.size ≤ gb440)); have n3_ := n2_; clear HB; have HB := n0_; have BK440 := n1_; have GW440 := n2_; have GE440 := n3_; clear n0_ n1_ n2_ n3_; clear hb hbox hg; have hcz29_0 : w28.cell? ⟨gb440, 0, none⟩ = some (.int .i64 a0_0) := (blk_cell BK440.out 0).trans rfl; have hcz29_1 : w28.cell? ⟨gb440, 1, none⟩ = some (.int .i64 a0_1) := (blk_cell BK440.out 1).trans rfl; have hfz29_0 := blk_frozen BK440.out 0; have hfz29_1 := blk_frozen BK440.out 1) | ((with_reducible refine gate_callee (f := 35) rfl ?_); refine goesL_ (some 9) rfl rfl Try.func35 (by kernel_rfl) rfl #[.agg #[.int .i64 a0_0, .int .i64 a0_1]] rfl (by simp only [m1, m2, m3] <;> rfl) ?_; (with_reducible refine (num_Neg.calls a0_0 a0_1 t441 t442 t443 _ A2.out).mono ?_); rintro e w30 ⟨rfl, hb⟩; refine ⟨_, rfl, ?_⟩; have n0_ := Aside0.mk (blk_below (g := gb440) (o := .cells #[.int .i64 a0_0, .int .i64 a0_1] 23 (0, 0)) (by (with_reducible repeat first | refine kn ?_ _ | refine kd ?_ | refine ka ?_ _); exact BK440.out) hb); have n1_ := Aside0.mk (below_step (by repeat first | exact HB.out | apply zb | apply zn | apply zd | refine zs ?_ GE440.out) hb); clear BK440; clear HB; have BK440 := n0_; have HB := n1_; clear n0_ n1_; (try clear hb)) | ((with_reducible refine gate_dst (N := 3) rfl ?_); refine box_event ?hg (N := 3) ?hd (cs := #[.int .i64 0, .int .i64 0]) (t := 23) ?hr ?_; (case hd => rfl); (case hg => rfl); (case hr => go_simp <;> rfl); intro gb444 hg w31 hbox hb; have n0_ := Aside0.mk (blk_below (g := gb440) (o := .cells #[.int .i64 a0_0, .int .i64 a0_1] 23 (0, 0)) (by (with_reducible repeat first | refine kn ?_ _ | refine kd ?_ | refine ka ?_ _); exact BK440.out) hb); have n1_ := Aside0.mk (below_step (by repeat first | exact HB.out | apply zb | apply zn | apply zd | refine zs ?_ GE440.out) hb); have n2_ := Aside0.mk (hbox); have n3_ := Aside0.mk ((by rw [hg]; exact (below_size (by repeat first | exact HB.out | apply zb | apply zn | apply zd | refine zs ?_ GE440.out)) : w.heap.size ≤ gb444)); have n4_ := Aside0.mk ((by rw [hg]; exact (below_size (by repeat first | exact HB.out | apply zb | apply zn | apply zd | refine zs ?_ GE440.out)) : w.heap.size ≤ gb444)); have n5_ := Aside0.mk ((by rw [hg]; exact Nat.ne_of_lt (blk_lt (g := gb440) (o := .cells #[.int .i64 a0_0, .int .i64 a0_1] 23 (0, 0)) (by (with_reducible repeat first | refine kn ?_ _ | refine kd ?_ | refine ka ?_ _); exact BK440.out)) : gb440 ≠ gb444)); have n6_ := Aside0.mk ((by rw [hg]; exact Nat.ne_of_gt (blk_lt (g := gb440) (o := .cells #[.int .i64 a0_0, .int .i64 a0_1] 23 (0, 0)) (by (with_reducible repeat first | refine kn ?_ _ | refine kd ?_ | refine ka ?_ _); exact BK440.out)) : gb444 ≠ gb440)); clear BK440; clear HB; have BK440 := n0_; have HB := n1_; have BK444 := n2_; have GW444 := n3_; have GE444 := n4_; have NB440_444 := n5_; have NB444_440 := n6_; clear n0_ n1_ n2_ n3_ n4_ n5_ n6_; clear hb hbox hg; have hnb32 := NB444_440.out; have hnc32 := NB440_444.out; have hcz33_0 : w31.cell? ⟨gb444, 0, none⟩ = some (.int .i64 0) := (blk_cell BK444.out 0).trans rfl; have hcz33_1 : w31.cell? ⟨gb444, 1, none⟩ = some (.int .i64 0) := (blk_cell BK444.out 1).trans rfl; have hfz33_0 := blk_frozen BK444.out 0; have hfz33_1 := blk_frozen BK444.out 1; have hcz34_0 : w31.cell? ⟨gb440, 0, none⟩ = some (.int .i64 a0_0) := (blk_cell BK440.out 0).trans rfl; have hcz34_1 : w31.cell? ⟨gb440, 1, none⟩ = some (.int .i64 a0_1) := (blk_cell BK440.out 1).trans rfl; have hfz34_0 := blk_frozen BK440.out 0; have hfz34_1 := blk_frozen BK440.out 1) | ((with_reducible refine gate_callee (f := 36) rfl ?_); refine goesL_ (some 14) rfl rfl Try.func36 (by kernel_rfl) rfl #[.agg #[.int .i64 a0_0, .int .i64 a0_1]] rfl (by simp only [m1, m2, m3] <;> rfl) ?_; (with_reducible refine (heirloomref01_Neg.calls a0_0 a0_1 t445 t446 t447 _ A3.out).mono ?_); rintro e w35 ⟨rfl, hb⟩; refine ⟨_, rfl, ?_⟩; have n0_ := Aside0.mk (blk_below (g := gb440) (o := .cells #[.int .i64 a0_0, .int .i64 a0_1] 23 (0, 0)) (by (with_reducible repeat first | refine kn ?_ _ | refine kd ?_ | refine ka ?_ _); refine blk_far ?_ NB440_444.out _; (with_reducible repeat first | refine kn ?_ _ | refine kd ?_ | refine ka ?_ _); refine blk_far ?_ NB440_444.out _; (with_reducible repeat first | refine kn ?_ _ | refine kd ?_ | refine ka ?_ _); exact BK440.out) hb); have n1_ := Aside0.mk (blk_below (g := gb444) (o := .cells #[.int .i64 t441, .int .i64 t442] 23 (0, 0)) (by (with_reducible repeat first | refine kn ?_ _ | refine kd ?_ | refine ka ?_ _); refine blk_put (cs := #[.int .i64 t441, .int .i64 0]) ?_ 1 _ rfl; (with_reducible repeat first | refine kn ?_ _ | refine kd ?_ | refine ka ?_ _); refine blk_put (cs := #[.int .i64 0, .int .i64 0]) ?_ 0 _ rfl; (with_reducible repeat first | refine kn ?_ _ | refine kd ?_ | refine ka ?_ _); exact BK444.out) hb); have n2_ := Aside0.mk (below_step (by repeat first | exact HB.out | apply zb | apply zn | apply zd | refine zs ?_ GE440.out | refine zs ?_ GE444.out) hb); clear BK440; clear BK444; clear HB; have BK440 := n0_; have BK444 := n1_; have HB := n2_; clear n0_ n1_ n2_; (try clear hb)) | ((with_reducible refine gate_dst (N := 5) rfl ?_); refine box_event ?hg (N := 5) ?hd (cs := #[.int .i64 0, .int .i64 0]) (t := 23) ?hr ?_; (case hd => rfl); (case hg => rfl); (case hr => go_simp <;> rfl); intro gb448 hg w36 hbox hb; have n0_ := Aside0.mk (blk_below (g := gb440) (o := .cells #[.int .i64 a0_0, .int .i64 a0_1] 23 (0, 0)) (by (with_reducible repeat first | refine kn ?_ _ | refine kd ?_ | refine ka ?_ _); exact BK440.out) hb); have n1_ := Aside0.mk (blk_below (g := gb444) (o := .cells #[.int .i64 t441, .int .i64 t442] 23 (0, 0)) (by (with_reducible repeat first | refine kn ?_ _ | refine kd ?_ | refine ka ?_ _); exact BK444.out) hb); have n2_ := Aside0.mk (below_step (by repeat first | exact HB.out | apply zb | apply zn | apply zd | refine zs ?_ GE440.out | refine zs ?_ GE444.out) hb); have n3_ := Aside0.mk (hbox); have n4_ := Aside0.mk ((by rw [hg]; exact (below_size (by repeat first | exact HB.out | apply zb | apply zn | apply zd | refine zs ?_ GE440.out | refine zs ?_ GE444.out)) : w.heap.size ≤ gb448)); have n5_ := Aside0.mk ((by rw [hg]; exact (below_size (by repeat first | exact HB.out | apply zb | apply zn | apply zd | refine zs ?_ GE440.out | refine zs ?_ GE444.out)) : w.heap.size ≤ gb448)); have n6_ := Aside0.mk ((by rw [hg]; exact Nat.ne_of_lt (blk_lt (g := gb440) (o := .cells #[.int .i64 a0_0, .int .i64 a0_1] 23 (0, 0)) (by (with_reducible repeat first | refine kn ?_ _ | refine kd ?_ | refine ka ?_ _); exact BK440.out)) : gb440 ≠ gb448)); have n7_ := Aside0.mk ((by rw [hg]; exact Nat.ne_of_gt (blk_lt (g := gb440) (o := .cells #[.int .i64 a0_0, .int .i64 a0_1] 23 (0, 0)) (by (with_reducible repeat first | refine kn ?_ _ | refine kd ?_ | refine ka ?_ _); exact BK440.out)) : gb448 ≠ gb440)); have n8_ := Aside0.mk ((by rw [hg]; exact Nat.ne_of_lt (blk_lt (g := gb444) (o := .cells #[.int .i64 t441, .int .i64 t442] 23 (0, 0)) (by (with_reducible repeat first | refine kn ?_ _ | refine kd ?_ | refine ka ?_ _); exact BK444.out)) : gb444 ≠ gb448)); have n9_ := Aside0.mk ((by rw [hg]; exact Nat.ne_of_gt (blk_lt (g := gb444) (o := .cells #[.int .i64 t441, .int .i64 t442] 23 (0, 0)) (by (with_reducible repeat first | refine kn ?_ _ | refine kd ?_ | refine ka ?_ _); exact BK444.out)) : gb448 ≠ gb444)); clear BK440; clear BK444; clear HB; have BK440 := n0_; have BK444 := n1_; have HB := n2_; have BK448 := n3_; have GW448 := n4_; have GE448 := n5_; have NB440_448 := n6_; have NB448_440 := n7_; have NB444_448 := n8_; have NB448_444 := n9_; clear n0_ n1_ n2_ n3_ n4_ n5_ n6_ n7_ n8_ n9_; clear hb hbox hg; have hnb37 := NB448_440.out; have hnc37 := NB440_448.out; have hnb38 := NB448_444.out; have hnc38 := NB444_448.out; have hcz39_0 : w36.cell? ⟨gb448, 0, none⟩ = some (.int .i64 0) := (blk_cell BK448.out 0).trans rfl; have hcz39_1 : w36.cell? ⟨gb448, 1, none⟩ = some (.int .i64 0) := (blk_cell BK448.out 1).trans rfl; have hfz39_0 := blk_frozen BK448.out 0; have hfz39_1 := blk_frozen BK448.out 1))
        have n0_ : Aside0 (((w36.setCell ⟨gb448, 0, none⟩ (.int .i64 t445)).setCell ⟨gb448, 1, none⟩ (.int .i64 t446)).heap[gb440]? = some (.cells #[.int .i64 a0_0, .int .i64 a0_1] 23 (0, 0))) := ⟨by (with_reducible repeat first | refine kn ?_ _ | refine kd ?_ | refine ka ?_ _); refine blk_far ?_ NB440_448.out _; (with_reducible repeat first | refine kn ?_ _ | refine kd ?_ | refine ka ?_ _); refine blk_far ?_ NB440_448.out _; (with_reducible repeat first | refine kn ?_ _ | refine kd ?_ | refine ka ?_ _); exact BK440.out⟩
        have n1_ : Aside0 (((w36.setCell ⟨gb448, 0, none⟩ (.int .i64 t445)).setCell ⟨gb448, 1, none⟩ (.int .i64 t446)).heap[gb444]? = some (.cells #[.int .i64 t441, .int .i64 t442] 23 (0, 0))) := ⟨by (with_reducible repeat first | refine kn ?_ _ | refine kd ?_ | refine ka ?_ _); refine blk_far ?_ NB444_448.out _; (with_reducible repeat first | refine kn ?_ _ | refine kd ?_ | refine ka ?_ _); refine blk_far ?_ NB444_448.out _; (with_reducible repeat first | refine kn ?_ _ | refine kd ?_ | refine ka ?_ _); exact BK444.out⟩
        have n2_ : Aside0 (((w36.setCell ⟨gb448, 0, none⟩ (.int .i64 t445)).setCell ⟨gb448, 1, none⟩ (.int .i64 t446)).heap[gb448]? = some (.cells #[.int .i64 t445, .int .i64 t446] 23 (0, 0))) := ⟨by (with_reducible repeat first | refine kn ?_ _ | refine kd ?_ | refine ka ?_ _); refine blk_put (cs := #[.int .i64 t445, .int .i64 0]) ?_ 1 _ rfl; (with_reducible repeat first | refine kn ?_ _ | refine kd ?_ | refine ka ?_ _); refine blk_put (cs := #[.int .i64 0, .int .i64 0]) ?_ 0 _ rfl; (with_reducible repeat first | refine kn ?_ _ | refine kd ?_ | refine ka ?_ _); exact BK448.out⟩
        have n3_ : Aside0 (Below w.heap.size w ((w36.setCell ⟨gb448, 0, none⟩ (.int .i64 t445)).setCell ⟨gb448, 1, none⟩ (.int .i64 t446))) := ⟨by repeat first | exact HB.out | apply zb | apply zn | apply zd | refine zs ?_ GE440.out | refine zs ?_ GE444.out | refine zs ?_ GE448.out⟩
        (try clear BK440)
        (try clear BK444)
        (try clear BK448)
        (try clear HB)
        generalize ((w36.setCell ⟨gb448, 0, none⟩ (.int .i64 t445)).setCell ⟨gb448, 1, none⟩ (.int .i64 t446)) = w40 at n0_ n1_ n2_ n3_ ⊢
        have BK440 := n0_
        have BK444 := n1_
        have BK448 := n2_
        have HB := n3_
        clear n0_ n1_ n2_ n3_
        have n0_ := Aside0.mk (blk_drew BK440.out)
        have n1_ := Aside0.mk (blk_drew BK444.out)
        have n2_ := Aside0.mk (blk_drew BK448.out)
        have n3_ := Aside0.mk (below_drew1 HB.out)
        clear BK440
        clear BK444
        clear BK448
        clear HB
        have BK440 := n0_
        have BK444 := n1_
        have BK448 := n2_
        have HB := n3_
        clear n0_ n1_ n2_ n3_
        refine start_ (n := 20) (S := fun w' => w'.cell? ⟨gb444, 0, none⟩ = some (.int .i64 t441) ∧ w'.cell? ⟨gb444, 1, none⟩ = some (.int .i64 t442) ∧ w'.cell? ⟨gb448, 0, none⟩ = some (.int .i64 t445) ∧ w'.cell? ⟨gb448, 1, none⟩ = some (.int .i64 t446) ∧ w'.cell? ⟨gb440, 0, none⟩ = some (.int .i64 a0_0) ∧ w'.cell? ⟨gb440, 1, none⟩ = some (.int .i64 a0_1)) (ds := []) #[false, false, false, false, false, false, false, false, false, false, false, false, false, false, false, false, false, false, false, false] (by kernel_rfl) rfl rfl ⟨(blk_cell BK444.out 0).trans rfl, (blk_cell BK444.out 1).trans rfl, (blk_cell BK448.out 0).trans rfl, (blk_cell BK448.out 1).trans rfl, (blk_cell BK440.out 0).trans rfl, (blk_cell BK440.out 1).trans rfl⟩ (fun hHeld => ?_); refine with_tabW heirloomlaw01_NumNegs.tab3 heirloomlaw01_NumNegs.bits3 (fun HT_ HW_ => ?_)
        generalize w40.drew = w41 at BK440 BK444 BK448 HB hHeld ⊢
        refine take_ (i := 0) (N := some 17) (v := ?_) (a' := ?_) #[true, false, false, false, false, false, false, false, false, false, false, false, false, false, false, false, false, false, false, false] rfl rfl (take_ofW HT_.out HW_.out (by kernel_rfl)) (fun _ _ _ h => h) (Or.inl ⟨by rfl, ?_⟩) hHeld ?_ ?_
        rotate_left
        · rintro w' ⟨s0, s1, s2, s3, s4, s5⟩
          go_simp
          first | with_reducible rfl | (rw [if_neg (by have hq_ : (_ + _ : Nat) ≤ 9223372036854775807 := (by assumption); simp only [ByteArray.size_extract] at hq_; simp only [decide_eq_true_eq] at *; omega)]; done)
        rotate_left
        · simp only [Act.put, List.setIfInBounds_toArray, List.set_cons_zero, List.set_cons_succ, i64_w, i32_w]
          rfl
        refine take_ (i := 1) (N := some 18) (v := ?_) (a' := ?_) #[true, true, false, false, false, false, false, false, false, false, false, false, false, false, false, false, false, false, false, false] rfl rfl (take_ofW HT_.out HW_.out (by kernel_rfl)) (fun _ _ _ h => h) (Or.inl ⟨by rfl, ?_⟩) hHeld ?_ ?_
        rotate_left
        · rintro w' ⟨s0, s1, s2, s3, s4, s5⟩
          go_simp
          first | with_reducible rfl | (rw [if_neg (by have hq_ : (_ + _ : Nat) ≤ 9223372036854775807 := (by assumption); simp only [ByteArray.size_extract] at hq_; simp only [decide_eq_true_eq] at *; omega)]; done)
        rotate_left
        · simp only [Act.put, List.setIfInBounds_toArray, List.set_cons_zero, List.set_cons_succ, i64_w, i32_w]
          rfl
        refine pure_ (i := 2) (N := some 19) (v := ?_) (a' := ?_) #[true, true, true, false, false, false, false, false, false, false, false, false, false, false, false, false, false, false, false, false] rfl rfl (any_of HT_.out (by kernel_rfl)) (fun _ _ _ h => h) (Or.inl ⟨by rfl, ?_⟩) ?_ ?_
        rotate_left
        · intro w'
          go_simp
          first | with_reducible rfl | (rw [if_neg (by have hq_ : (_ + _ : Nat) ≤ 9223372036854775807 := (by assumption); simp only [ByteArray.size_extract] at hq_; simp only [decide_eq_true_eq] at *; omega)]; done)
        rotate_left
        · simp only [Act.put, List.setIfInBounds_toArray, List.set_cons_zero, List.set_cons_succ, i64_w, i32_w]
          rfl
        refine pure_ (i := 3) (N := some 20) (v := ?_) (a' := ?_) #[true, true, true, true, false, false, false, false, false, false, false, false, false, false, false, false, false, false, false, false] rfl rfl (any_of HT_.out (by kernel_rfl)) (fun _ _ _ h => h) (Or.inl ⟨by rfl, ?_⟩) ?_ ?_
        rotate_left
        · intro w'
          go_simp
          first | with_reducible rfl | (rw [if_neg (by have hq_ : (_ + _ : Nat) ≤ 9223372036854775807 := (by assumption); simp only [ByteArray.size_extract] at hq_; simp only [decide_eq_true_eq] at *; omega)]; done)
        rotate_left
        · simp only [Act.put, List.setIfInBounds_toArray, List.set_cons_zero, List.set_cons_succ, i64_w, i32_w]
          rfl
        refine pure_ (i := 4) (N := some 21) (v := ?_) (a' := ?_) #[true, true, true, true, true, false, false, false, false, false, false, false, false, false, false, false, false, false, false, false] rfl rfl (any_of HT_.out (by kernel_rfl)) (fun _ _ _ h => h) (Or.inl ⟨by rfl, ?_⟩) ?_ ?_
        rotate_left
        · intro w'
          go_simp
          first | with_reducible rfl | (rw [if_neg (by have hq_ : (_ + _ : Nat) ≤ 9223372036854775807 := (by assumption); simp only [ByteArray.size_extract] at hq_; simp only [decide_eq_true_eq] at *; omega)]; done)
        rotate_left
        · simp only [Act.put, List.setIfInBounds_toArray, List.set_cons_zero, List.set_cons_succ, i64_w, i32_w]
          rfl
        refine pure_ (i := 6) (N := some 23) (v := ?_) (a' := ?_) #[true, true, true, true, true, false, true, false, false, false, false, false, false, false, false, false, false, false, false, false] rfl rfl (any_of HT_.out (by kernel_rfl)) (fun _ _ _ h => h) (Or.inl ⟨by rfl, ?_⟩) ?_ ?_
        rotate_left
        · intro w'
          go_simp
          first | with_reducible rfl | (rw [if_neg (by have hq_ : (_ + _ : Nat) ≤ 9223372036854775807 := (by assumption); simp only [ByteArray.size_extract] at hq_; simp only [decide_eq_true_eq] at *; omega)]; done)
        rotate_left
        · simp only [Act.put, List.setIfInBounds_toArray, List.set_cons_zero, List.set_cons_succ, i64_w, i32_w]
          rfl
        refine one_ (i := 5) (N := some 22) #[true, true, true, true, true, true, true, false, false, false, false, false, false, false, false, false, false, false, false, false] rfl rfl (one_of HT_.out (by kernel_rfl)) (by decide) (fun K hK => ?_)
        refine goes_ Try.func24 (by kernel_rfl) rfl #[.int .i64 t443] (by rfl) rfl rfl (by (try simp only [List.map_toArray, List.map_cons, List.map_nil]); first | done | rfl | (simp only [List.length_drop, List.length_take]; rfl)) ?_
        with_reducible refine (heirloomlaw01_no.calls t443 t449 _ A5.out).mono ?_
        rintro e w' ⟨rfl, ⟨nd, rfl⟩⟩
        refine ⟨_, rfl, ?_⟩
        refine hK.out _ _ ⟨(blk_cell BK444.out 0).trans rfl, (blk_cell BK444.out 1).trans rfl, (blk_cell BK448.out 0).trans rfl, (blk_cell BK448.out 1).trans rfl, (blk_cell BK440.out 0).trans rfl, (blk_cell BK440.out 1).trans rfl⟩ (fun hHeld => ?_)
        clear hK K
        refine norm_ (a' := ?_) ?_ ?_
        rotate_left
        · show Act.put _ (some 22) _ = _
          simp only [Act.put, List.setIfInBounds_toArray, List.set_cons_zero, List.set_cons_succ, i64_w, i32_w]
          rfl
        refine pure_ (i := 7) (N := some 24) (v := ?_) (a' := ?_) #[true, true, true, true, true, true, true, true, false, false, false, false, false, false, false, false, false, false, false, false] rfl rfl (any_of HT_.out (by kernel_rfl)) (fun _ _ _ h => h) (Or.inl ⟨by rfl, ?_⟩) ?_ ?_
        rotate_left
        · intro w'
          go_simp
          first | with_reducible rfl | (rw [if_neg (by have hq_ : (_ + _ : Nat) ≤ 9223372036854775807 := (by assumption); simp only [ByteArray.size_extract] at hq_; simp only [decide_eq_true_eq] at *; omega)]; done)
        rotate_left
        · simp only [Act.put, List.setIfInBounds_toArray, List.set_cons_zero, List.set_cons_succ, i64_w, i32_w]
          rfl
        refine pure_ (i := 8) (N := some 25) (v := ?_) (a' := ?_) #[true, true, true, true, true, true, true, true, true, false, false, false, false, false, false, false, false, false, false, false] rfl rfl (any_of HT_.out (by kernel_rfl)) (fun _ _ _ h => h) (Or.inl ⟨by rfl, ?_⟩) ?_ ?_
        rotate_left
        · intro w'
          go_simp
          first | with_reducible rfl | (rw [if_neg (by have hq_ : (_ + _ : Nat) ≤ 9223372036854775807 := (by assumption); simp only [ByteArray.size_extract] at hq_; simp only [decide_eq_true_eq] at *; omega)]; done)
        rotate_left
        · simp only [Act.put, List.setIfInBounds_toArray, List.set_cons_zero, List.set_cons_succ, i64_w, i32_w]
          rfl
        refine pure_ (i := 9) (N := some 26) (v := ?_) (a' := ?_) #[true, true, true, true, true, true, true, true, true, true, false, false, false, false, false, false, false, false, false, false] rfl rfl (any_of HT_.out (by kernel_rfl)) (fun _ _ _ h => h) (Or.inl ⟨by rfl, ?_⟩) ?_ ?_
        rotate_left
        · intro w'
          go_simp
          first | with_reducible rfl | (rw [if_neg (by have hq_ : (_ + _ : Nat) ≤ 9223372036854775807 := (by assumption); simp only [ByteArray.size_extract] at hq_; simp only [decide_eq_true_eq] at *; omega)]; done)
        rotate_left
        · simp only [Act.put, List.setIfInBounds_toArray, List.set_cons_zero, List.set_cons_succ, i64_w, i32_w]
          rfl
        refine take_ (i := 10) (N := some 27) (v := ?_) (a' := ?_) #[true, true, true, true, true, true, true, true, true, true, true, false, false, false, false, false, false, false, false, false] rfl rfl (take_ofW HT_.out HW_.out (by kernel_rfl)) (fun _ _ _ h => h) (Or.inl ⟨by rfl, ?_⟩) hHeld ?_ ?_
        rotate_left
        · rintro w' ⟨s0, s1, s2, s3, s4, s5⟩
          go_simp
          first | with_reducible rfl | (rw [if_neg (by have hq_ : (_ + _ : Nat) ≤ 9223372036854775807 := (by assumption); simp only [ByteArray.size_extract] at hq_; simp only [decide_eq_true_eq] at *; omega)]; done)
        rotate_left
        · simp only [Act.put, List.setIfInBounds_toArray, List.set_cons_zero, List.set_cons_succ, i64_w, i32_w]
          rfl
        refine take_ (i := 12) (N := some 29) (v := ?_) (a' := ?_) #[true, true, true, true, true, true, true, true, true, true, true, false, true, false, false, false, false, false, false, false] rfl rfl (take_ofW HT_.out HW_.out (by kernel_rfl)) (fun _ _ _ h => h) (Or.inl ⟨by rfl, ?_⟩) hHeld ?_ ?_
        rotate_left
        · rintro w' ⟨s0, s1, s2, s3, s4, s5⟩
          go_simp
          first | with_reducible rfl | (rw [if_neg (by have hq_ : (_ + _ : Nat) ≤ 9223372036854775807 := (by assumption); simp only [ByteArray.size_extract] at hq_; simp only [decide_eq_true_eq] at *; omega)]; done)
        rotate_left
        · simp only [Act.put, List.setIfInBounds_toArray, List.set_cons_zero, List.set_cons_succ, i64_w, i32_w]
          rfl
        refine one_ (i := 11) (N := some 28) #[true, true, true, true, true, true, true, true, true, true, true, true, true, false, false, false, false, false, false, false] rfl rfl (one_of HT_.out (by kernel_rfl)) (by decide) (fun K hK => ?_)
        refine goes_ Try.func34 (by kernel_rfl) rfl #[.agg #[.int .i64 a0_0, .int .i64 a0_1]] (by rfl) rfl rfl (by (try simp only [List.map_toArray, List.map_cons, List.map_nil]); first | done | rfl | (simp only [List.length_drop, List.length_take]; rfl)) ?_
        with_reducible refine (num_Key.calls a0_0 a0_1 t450 t451 _ A7.out).mono ?_
        rintro e w42 ⟨rfl, hb⟩
        refine ⟨_, rfl, ?_⟩
        have n0_ := Aside0.mk (blk_below (g := gb440) (o := .cells #[.int .i64 a0_0, .int .i64 a0_1] 23 (0, 0)) (by (with_reducible repeat first | refine kn ?_ _ | refine kd ?_ | refine ka ?_ _); exact BK440.out) hb)
        have n1_ := Aside0.mk (blk_below (g := gb444) (o := .cells #[.int .i64 t441, .int .i64 t442] 23 (0, 0)) (by (with_reducible repeat first | refine kn ?_ _ | refine kd ?_ | refine ka ?_ _); exact BK444.out) hb)
        have n2_ := Aside0.mk (blk_below (g := gb448) (o := .cells #[.int .i64 t445, .int .i64 t446] 23 (0, 0)) (by (with_reducible repeat first | refine kn ?_ _ | refine kd ?_ | refine ka ?_ _); exact BK448.out) hb)
        have n3_ := Aside0.mk (below_step (by repeat first | exact HB.out | apply zb | apply zn | apply zd | refine zs ?_ GE440.out | refine zs ?_ GE444.out | refine zs ?_ GE448.out) hb)
        clear BK440
        clear BK444
        clear BK448
        clear HB
        have BK440 := n0_
        have BK444 := n1_
        have BK448 := n2_
        have HB := n3_
        clear n0_ n1_ n2_ n3_
        (try clear hb)
        (try clear hb2)
        (try clear hk)
        (try clear hi)
        refine hK.out _ _ ⟨(blk_cell BK444.out 0).trans rfl, (blk_cell BK444.out 1).trans rfl, (blk_cell BK448.out 0).trans rfl, (blk_cell BK448.out 1).trans rfl, (blk_cell BK440.out 0).trans rfl, (blk_cell BK440.out 1).trans rfl⟩ (fun hHeld => ?_)
        clear hK K
        refine norm_ (a' := ?_) ?_ ?_
        rotate_left
        · show Act.put _ (some 28) _ = _
          simp only [Act.put, List.setIfInBounds_toArray, List.set_cons_zero, List.set_cons_succ, i64_w, i32_w]
          rfl
        refine one_ (i := 13) (N := some 30) #[true, true, true, true, true, true, true, true, true, true, true, true, true, true, false, false, false, false, false, false] rfl rfl (one_of HT_.out (by kernel_rfl)) (by decide) (fun K hK => ?_)
        refine goes_ Try.func37 (by kernel_rfl) rfl #[.agg #[.int .i64 a0_0, .int .i64 a0_1]] (by rfl) rfl rfl (by (try simp only [List.map_toArray, List.map_cons, List.map_nil]); first | done | rfl | (simp only [List.length_drop, List.length_take]; rfl)) ?_
        with_reducible refine (heirloomref01_Key.calls k a0_0 a0_1 t452 t453 _ A8.out).mono ?_
        rintro e w43 ⟨rfl, hb⟩
        refine ⟨_, rfl, ?_⟩
        have n0_ := Aside0.mk (blk_below (g := gb440) (o := .cells #[.int .i64 a0_0, .int .i64 a0_1] 23 (0, 0)) (by (with_reducible repeat first | refine kn ?_ _ | refine kd ?_ | refine ka ?_ _); exact BK440.out) hb)
        have n1_ := Aside0.mk (blk_below (g := gb444) (o := .cells #[.int .i64 t441, .int .i64 t442] 23 (0, 0)) (by (with_reducible repeat first | refine kn ?_ _ | refine kd ?_ | refine ka ?_ _); exact BK444.out) hb)
        have n2_ := Aside0.mk (blk_below (g := gb448) (o := .cells #[.int .i64 t445, .int .i64 t446] 23 (0, 0)) (by (with_reducible repeat first | refine kn ?_ _ | refine kd ?_ | refine ka ?_ _); exact BK448.out) hb)
        have n3_ := Aside0.mk (below_step (by repeat first | exact HB.out | apply zb | apply zn | apply zd | refine zs ?_ GE440.out | refine zs ?_ GE444.out | refine zs ?_ GE448.out) hb)
        clear BK440
        clear BK444
        clear BK448
        clear HB
        have BK440 := n0_
        have BK444 := n1_
        have BK448 := n2_
        have HB := n3_
        clear n0_ n1_ n2_ n3_
        (try clear hb)
        (try clear hb2)
        (try clear hk)
        (try clear hi)
        refine hK.out _ _ ⟨(blk_cell BK444.out 0).trans rfl, (blk_cell BK444.out 1).trans rfl, (blk_cell BK448.out 0).trans rfl, (blk_cell BK448.out 1).trans rfl, (blk_cell BK440.out 0).trans rfl, (blk_cell BK440.out 1).trans rfl⟩ (fun hHeld => ?_)
        clear hK K
        refine norm_ (a' := ?_) ?_ ?_
        rotate_left
        · show Act.put _ (some 30) _ = _
          simp only [Act.put, List.setIfInBounds_toArray, List.set_cons_zero, List.set_cons_succ, i64_w, i32_w]
          rfl
        refine pure_ (i := 14) (N := some 31) (v := ?_) (a' := ?_) #[true, true, true, true, true, true, true, true, true, true, true, true, true, true, true, false, false, false, false, false] rfl rfl (any_of HT_.out (by kernel_rfl)) (fun _ _ _ h => h) (Or.inl ⟨by rfl, ?_⟩) ?_ ?_
        rotate_left
        · intro w'
          go_simp
          first | with_reducible rfl | (rw [if_neg (by have hq_ : (_ + _ : Nat) ≤ 9223372036854775807 := (by assumption); simp only [ByteArray.size_extract] at hq_; simp only [decide_eq_true_eq] at *; omega)]; done)
        rotate_left
        · simp only [Act.put, List.setIfInBounds_toArray, List.set_cons_zero, List.set_cons_succ, i64_w, i32_w]
          rfl
        refine pure_ (i := 15) (N := some 32) (v := ?_) (a' := ?_) #[true, true, true, true, true, true, true, true, true, true, true, true, true, true, true, true, false, false, false, false] rfl rfl (any_of HT_.out (by kernel_rfl)) (fun _ _ _ h => h) (Or.inl ⟨by rfl, ?_⟩) ?_ ?_
        rotate_left
        · intro w'
          go_simp
          first | with_reducible rfl | (rw [if_neg (by have hq_ : (_ + _ : Nat) ≤ 9223372036854775807 := (by assumption); simp only [ByteArray.size_extract] at hq_; simp only [decide_eq_true_eq] at *; omega)]; done)
        rotate_left
        · simp only [Act.put, List.setIfInBounds_toArray, List.set_cons_zero, List.set_cons_succ, i64_w, i32_w]
          rfl
        refine pure_ (i := 16) (N := some 33) (v := ?_) (a' := ?_) #[true, true, true, true, true, true, true, true, true, true, true, true, true, true, true, true, true, false, false, false] rfl rfl (any_of HT_.out (by kernel_rfl)) (fun _ _ _ h => h) (Or.inl ⟨by rfl, ?_⟩) ?_ ?_
        rotate_left
        · intro w'
          go_simp
          first | with_reducible rfl | (rw [if_neg (by have hq_ : (_ + _ : Nat) ≤ 9223372036854775807 := (by assumption); simp only [ByteArray.size_extract] at hq_; simp only [decide_eq_true_eq] at *; omega)]; done)
        rotate_left
        · simp only [Act.put, List.setIfInBounds_toArray, List.set_cons_zero, List.set_cons_succ, i64_w, i32_w]
          rfl
        refine pure_ (i := 17) (N := some 34) (v := undef) (a' := ?_) #[true, true, true, true, true, true, true, true, true, true, true, true, true, true, true, true, true, true, false, false] rfl rfl (any_of HT_.out (by kernel_rfl)) (fun _ _ _ h => h) (Or.inr ⟨by rfl, rfl⟩) ?_ ?_
        rotate_left
        · simp only [Act.put, List.setIfInBounds_toArray, List.set_cons_zero, List.set_cons_succ, i64_w, i32_w]
          rfl
        refine pure_ (i := 18) (N := some 35) (v := ?_) (a' := ?_) #[true, true, true, true, true, true, true, true, true, true, true, true, true, true, true, true, true, true, true, false] rfl rfl (any_of HT_.out (by kernel_rfl)) (fun _ _ _ h => h) (Or.inl ⟨by rfl, ?_⟩) ?_ ?_
        rotate_left
        · intro w'
          go_simp
          first | with_reducible rfl | (rw [if_neg (by have hq_ : (_ + _ : Nat) ≤ 9223372036854775807 := (by assumption); simp only [ByteArray.size_extract] at hq_; simp only [decide_eq_true_eq] at *; omega)]; done)
        rotate_left
        · simp only [Act.put, List.setIfInBounds_toArray, List.set_cons_zero, List.set_cons_succ, i64_w, i32_w]
          rfl
        refine pure_ (i := 19) (N := some 2) (v := ?_) (a' := ?_) #[true, true, true, true, true, true, true, true, true, true, true, true, true, true, true, true, true, true, true, true] rfl rfl (any_of HT_.out (by kernel_rfl)) (fun _ _ _ h => h) (Or.inl ⟨by rfl, ?_⟩) ?_ ?_
        rotate_left
        · intro w'
          go_simp
          first | with_reducible rfl | (rw [if_neg (by have hq_ : (_ + _ : Nat) ≤ 9223372036854775807 := (by assumption); simp only [ByteArray.size_extract] at hq_; simp only [decide_eq_true_eq] at *; omega)]; done)
        rotate_left
        · simp only [Act.put, List.setIfInBounds_toArray, List.set_cons_zero, List.set_cons_succ, i64_w, i32_w]
          rfl
        refine done_ (done_of HT_.out (by kernel_rfl)) ?_
        try go_wp2
        go_ret
        exact ⟨by first | rfl | (simp [errW_none, errW_some] <;> rfl) | (simp [*, errW_none, errW_some] <;> rfl), by repeat first | exact HB.out | apply zb | apply zn | apply zd | refine zs ?_ GE440.out | refine zs ?_ GE444.out | refine zs ?_ GE448.out⟩
    · rw [if_neg c6] at H
      have c6b0 : (t449 == t447) = false := beq_eq_false_iff_ne.mpr c6
      have c6b1 : (t449 != t447) = true := bne_iff_ne.mpr c6
      obtain rfl := Option.some.inj H
      go_enter Try.func12, Try.ntmps12
      try go_wp2_with (first | ((with_reducible refine gate_dst (N := 1) rfl ?_); refine box_event ?hg (N := 1) ?hd (cs := #[.int .i64 a0_0, .int .i64 a0_1]) (t := 23) ?hr ?_; (case hd => rfl); (case hg => rfl); (case hr => go_simp <;> rfl); intro gb440 hg w44 hbox hb; have n0_ := Aside0.mk (below_step (by repeat first | exact HB.out | apply zb | apply zn | apply zd) hb); have n1_ := Aside0.mk (hbox); have n2_ := Aside0.mk ((by rw [hg]; exact (below_size (by repeat first | exact HB.out | apply zb | apply zn | apply zd)) : w.heap.size ≤ gb440)); have n3_ := n2_; clear HB; have HB := n0_; have BK440 := n1_; have GW440 := n2_; have GE440 := n3_; clear n0_ n1_ n2_ n3_; clear hb hbox hg; have hcz45_0 : w44.cell? ⟨gb440, 0, none⟩ = some (.int .i64 a0_0) := (blk_cell BK440.out 0).trans rfl; have hcz45_1 : w44.cell? ⟨gb440, 1, none⟩ = some (.int .i64 a0_1) := (blk_cell BK440.out 1).trans rfl; have hfz45_0 := blk_frozen BK440.out 0; have hfz45_1 := blk_frozen BK440.out 1) | ((with_reducible refine gate_callee (f := 35) rfl ?_); refine goesL_ (some 9) rfl rfl Try.func35 (by kernel_rfl) rfl #[.agg #[.int .i64 a0_0, .int .i64 a0_1]] rfl (by simp only [m1, m2, m3] <;> rfl) ?_; (with_reducible refine (num_Neg.calls a0_0 a0_1 t441 t442 t443 _ A2.out).mono ?_); rintro e w46 ⟨rfl, hb⟩; refine ⟨_, rfl, ?_⟩; have n0_ := Aside0.mk (blk_below (g := gb440) (o := .cells #[.int .i64 a0_0, .int .i64 a0_1] 23 (0, 0)) (by (with_reducible repeat first | refine kn ?_ _ | refine kd ?_ | refine ka ?_ _); exact BK440.out) hb); have n1_ := Aside0.mk (below_step (by repeat first | exact HB.out | apply zb | apply zn | apply zd | refine zs ?_ GE440.out) hb); clear BK440; clear HB; have BK440 := n0_; have HB := n1_; clear n0_ n1_; (try clear hb)) | ((with_reducible refine gate_dst (N := 3) rfl ?_); refine box_event ?hg (N := 3) ?hd (cs := #[.int .i64 0, .int .i64 0]) (t := 23) ?hr ?_; (case hd => rfl); (case hg => rfl); (case hr => go_simp <;> rfl); intro gb444 hg w47 hbox hb; have n0_ := Aside0.mk (blk_below (g := gb440) (o := .cells #[.int .i64 a0_0, .int .i64 a0_1] 23 (0, 0)) (by (with_reducible repeat first | refine kn ?_ _ | refine kd ?_ | refine ka ?_ _); exact BK440.out) hb); have n1_ := Aside0.mk (below_step (by repeat first | exact HB.out | apply zb | apply zn | apply zd | refine zs ?_ GE440.out) hb); have n2_ := Aside0.mk (hbox); have n3_ := Aside0.mk ((by rw [hg]; exact (below_size (by repeat first | exact HB.out | apply zb | apply zn | apply zd | refine zs ?_ GE440.out)) : w.heap.size ≤ gb444)); have n4_ := Aside0.mk ((by rw [hg]; exact (below_size (by repeat first | exact HB.out | apply zb | apply zn | apply zd | refine zs ?_ GE440.out)) : w.heap.size ≤ gb444)); have n5_ := Aside0.mk ((by rw [hg]; exact Nat.ne_of_lt (blk_lt (g := gb440) (o := .cells #[.int .i64 a0_0, .int .i64 a0_1] 23 (0, 0)) (by (with_reducible repeat first | refine kn ?_ _ | refine kd ?_ | refine ka ?_ _); exact BK440.out)) : gb440 ≠ gb444)); have n6_ := Aside0.mk ((by rw [hg]; exact Nat.ne_of_gt (blk_lt (g := gb440) (o := .cells #[.int .i64 a0_0, .int .i64 a0_1] 23 (0, 0)) (by (with_reducible repeat first | refine kn ?_ _ | refine kd ?_ | refine ka ?_ _); exact BK440.out)) : gb444 ≠ gb440)); clear BK440; clear HB; have BK440 := n0_; have HB := n1_; have BK444 := n2_; have GW444 := n3_; have GE444 := n4_; have NB440_444 := n5_; have NB444_440 := n6_; clear n0_ n1_ n2_ n3_ n4_ n5_ n6_; clear hb hbox hg; have hnb48 := NB444_440.out; have hnc48 := NB440_444.out; have hcz49_0 : w47.cell? ⟨gb444, 0, none⟩ = some (.int .i64 0) := (blk_cell BK444.out 0).trans rfl; have hcz49_1 : w47.cell? ⟨gb444, 1, none⟩ = some (.int .i64 0) := (blk_cell BK444.out 1).trans rfl; have hfz49_0 := blk_frozen BK444.out 0; have hfz49_1 := blk_frozen BK444.out 1; have hcz50_0 : w47.cell? ⟨gb440, 0, none⟩ = some (.int .i64 a0_0) := (blk_cell BK440.out 0).trans rfl; have hcz50_1 : w47.cell? ⟨gb440, 1, none⟩ = some (.int .i64 a0_1) := (blk_cell BK440.out 1).trans rfl; have hfz50_0 := blk_frozen BK440.out 0; have hfz50_1 := blk_frozen BK440.out 1) | ((with_reducible refine gate_callee (f := 36) rfl ?_); refine goesL_ (some 14) rfl rfl Try.func36 (by kernel_rfl) rfl #[.agg #[.int .i64 a0_0, .int .i64 a0_1]] rfl (by simp only [m1, m2, m3] <;> rfl) ?_; (with_reducible refine (heirloomref01_Neg.calls a0_0 a0_1 t445 t446 t447 _ A3.out).mono ?_); rintro e w51 ⟨rfl, hb⟩; refine ⟨_, rfl, ?_⟩; have n0_ := Aside0.mk (blk_below (g := gb440) (o := .cells #[.int .i64 a0_0, .int .i64 a0_1] 23 (0, 0)) (by (with_reducible repeat first | refine kn ?_ _ | refine kd ?_ | refine ka ?_ _); refine blk_far ?_ NB440_444.out _; (with_reducible repeat first | refine kn ?_ _ | refine kd ?_ | refine ka ?_ _); refine blk_far ?_ NB440_444.out _; (with_reducible repeat first | refine kn ?_ _ | refine kd ?_ | refine ka ?_ _); exact BK440.out) hb); have n1_ := Aside0.mk (blk_below (g := gb444) (o := .cells #[.int .i64 t441, .int .i64 t442] 23 (0, 0)) (by (with_reducible repeat first | refine kn ?_ _ | refine kd ?_ | refine ka ?_ _); refine blk_put (cs := #[.int .i64 t441, .int .i64 0]) ?_ 1 _ rfl; (with_reducible repeat first | refine kn ?_ _ | refine kd ?_ | refine ka ?_ _); refine blk_put (cs := #[.int .i64 0, .int .i64 0]) ?_ 0 _ rfl; (with_reducible repeat first | refine kn ?_ _ | refine kd ?_ | refine ka ?_ _); exact BK444.out) hb); have n2_ := Aside0.mk (below_step (by repeat first | exact HB.out | apply zb | apply zn | apply zd | refine zs ?_ GE440.out | refine zs ?_ GE444.out) hb); clear BK440; clear BK444; clear HB; have BK440 := n0_; have BK444 := n1_; have HB := n2_; clear n0_ n1_ n2_; (try clear hb)) | ((with_reducible refine gate_dst (N := 5) rfl ?_); refine box_event ?hg (N := 5) ?hd (cs := #[.int .i64 0, .int .i64 0]) (t := 23) ?hr ?_; (case hd => rfl); (case hg => rfl); (case hr => go_simp <;> rfl); intro gb448 hg w52 hbox hb; have n0_ := Aside0.mk (blk_below (g := gb440) (o := .cells #[.int .i64 a0_0, .int .i64 a0_1] 23 (0, 0)) (by (with_reducible repeat first | refine kn ?_ _ | refine kd ?_ | refine ka ?_ _); exact BK440.out) hb); have n1_ := Aside0.mk (blk_below (g := gb444) (o := .cells #[.int .i64 t441, .int .i64 t442] 23 (0, 0)) (by (with_reducible repeat first | refine kn ?_ _ | refine kd ?_ | refine ka ?_ _); exact BK444.out) hb); have n2_ := Aside0.mk (below_step (by repeat first | exact HB.out | apply zb | apply zn | apply zd | refine zs ?_ GE440.out | refine zs ?_ GE444.out) hb); have n3_ := Aside0.mk (hbox); have n4_ := Aside0.mk ((by rw [hg]; exact (below_size (by repeat first | exact HB.out | apply zb | apply zn | apply zd | refine zs ?_ GE440.out | refine zs ?_ GE444.out)) : w.heap.size ≤ gb448)); have n5_ := Aside0.mk ((by rw [hg]; exact (below_size (by repeat first | exact HB.out | apply zb | apply zn | apply zd | refine zs ?_ GE440.out | refine zs ?_ GE444.out)) : w.heap.size ≤ gb448)); have n6_ := Aside0.mk ((by rw [hg]; exact Nat.ne_of_lt (blk_lt (g := gb440) (o := .cells #[.int .i64 a0_0, .int .i64 a0_1] 23 (0, 0)) (by (with_reducible repeat first | refine kn ?_ _ | refine kd ?_ | refine ka ?_ _); exact BK440.out)) : gb440 ≠ gb448)); have n7_ := Aside0.mk ((by rw [hg]; exact Nat.ne_of_gt (blk_lt (g := gb440) (o := .cells #[.int .i64 a0_0, .int .i64 a0_1] 23 (0, 0)) (by (with_reducible repeat first | refine kn ?_ _ | refine kd ?_ | refine ka ?_ _); exact BK440.out)) : gb448 ≠ gb440)); have n8_ := Aside0.mk ((by rw [hg]; exact Nat.ne_of_lt (blk_lt (g := gb444) (o := .cells #[.int .i64 t441, .int .i64 t442] 23 (0, 0)) (by (with_reducible repeat first | refine kn ?_ _ | refine kd ?_ | refine ka ?_ _); exact BK444.out)) : gb444 ≠ gb448)); have n9_ := Aside0.mk ((by rw [hg]; exact Nat.ne_of_gt (blk_lt (g := gb444) (o := .cells #[.int .i64 t441, .int .i64 t442] 23 (0, 0)) (by (with_reducible repeat first | refine kn ?_ _ | refine kd ?_ | refine ka ?_ _); exact BK444.out)) : gb448 ≠ gb444)); clear BK440; clear BK444; clear HB; have BK440 := n0_; have BK444 := n1_; have HB := n2_; have BK448 := n3_; have GW448 := n4_; have GE448 := n5_; have NB440_448 := n6_; have NB448_440 := n7_; have NB444_448 := n8_; have NB448_444 := n9_; clear n0_ n1_ n2_ n3_ n4_ n5_ n6_ n7_ n8_ n9_; clear hb hbox hg; have hnb53 := NB448_440.out; have hnc53 := NB440_448.out; have hnb54 := NB448_444.out; have hnc54 := NB444_448.out; have hcz55_0 : w52.cell? ⟨gb448, 0, none⟩ = some (.int .i64 0) := (blk_cell BK448.out 0).trans rfl; have hcz55_1 : w52.cell? ⟨gb448, 1, none⟩ = some (.int .i64 0) := (blk_cell BK448.out 1).trans rfl; have hfz55_0 := blk_frozen BK448.out 0; have hfz55_1 := blk_frozen BK448.out 1))
      have n0_ : Aside0 (((w52.setCell ⟨gb448, 0, none⟩ (.int .i64 t445)).setCell ⟨gb448, 1, none⟩ (.int .i64 t446)).heap[gb440]? = some (.cells #[.int .i64 a0_0, .int .i64 a0_1] 23 (0, 0))) := ⟨by (with_reducible repeat first | refine kn ?_ _ | refine kd ?_ | refine ka ?_ _); refine blk_far ?_ NB440_448.out _; (with_reducible repeat first | refine kn ?_ _ | refine kd ?_ | refine ka ?_ _); refine blk_far ?_ NB440_448.out _; (with_reducible repeat first | refine kn ?_ _ | refine kd ?_ | refine ka ?_ _); exact BK440.out⟩
      have n1_ : Aside0 (((w52.setCell ⟨gb448, 0, none⟩ (.int .i64 t445)).setCell ⟨gb448, 1, none⟩ (.int .i64 t446)).heap[gb444]? = some (.cells #[.int .i64 t441, .int .i64 t442] 23 (0, 0))) := ⟨by (with_reducible repeat first | refine kn ?_ _ | refine kd ?_ | refine ka ?_ _); refine blk_far ?_ NB444_448.out _; (with_reducible repeat first | refine kn ?_ _ | refine kd ?_ | refine ka ?_ _); refine blk_far ?_ NB444_448.out _; (with_reducible repeat first | refine kn ?_ _ | refine kd ?_ | refine ka ?_ _); exact BK444.out⟩
      have n2_ : Aside0 (((w52.setCell ⟨gb448, 0, none⟩ (.int .i64 t445)).setCell ⟨gb448, 1, none⟩ (.int .i64 t446)).heap[gb448]? = some (.cells #[.int .i64 t445, .int .i64 t446] 23 (0, 0))) := ⟨by (with_reducible repeat first | refine kn ?_ _ | refine kd ?_ | refine ka ?_ _); refine blk_put (cs := #[.int .i64 t445, .int .i64 0]) ?_ 1 _ rfl; (with_reducible repeat first | refine kn ?_ _ | refine kd ?_ | refine ka ?_ _); refine blk_put (cs := #[.int .i64 0, .int .i64 0]) ?_ 0 _ rfl; (with_reducible repeat first | refine kn ?_ _ | refine kd ?_ | refine ka ?_ _); exact BK448.out⟩
      have n3_ : Aside0 (Below w.heap.size w ((w52.setCell ⟨gb448, 0, none⟩ (.int .i64 t445)).setCell ⟨gb448, 1, none⟩ (.int .i64 t446))) := ⟨by repeat first | exact HB.out | apply zb | apply zn | apply zd | refine zs ?_ GE440.out | refine zs ?_ GE444.out | refine zs ?_ GE448.out⟩
      (try clear BK440)
      (try clear BK444)
      (try clear BK448)
      (try clear HB)
      generalize ((w52.setCell ⟨gb448, 0, none⟩ (.int .i64 t445)).setCell ⟨gb448, 1, none⟩ (.int .i64 t446)) = w56 at n0_ n1_ n2_ n3_ ⊢
      have BK440 := n0_
      have BK444 := n1_
      have BK448 := n2_
      have HB := n3_
      clear n0_ n1_ n2_ n3_
      have n0_ := Aside0.mk (blk_drew BK440.out)
      have n1_ := Aside0.mk (blk_drew BK444.out)
      have n2_ := Aside0.mk (blk_drew BK448.out)
      have n3_ := Aside0.mk (below_drew1 HB.out)
      clear BK440
      clear BK444
      clear BK448
      clear HB
      have BK440 := n0_
      have BK444 := n1_
      have BK448 := n2_
      have HB := n3_
      clear n0_ n1_ n2_ n3_
      refine start_ (n := 20) (S := fun w' => w'.cell? ⟨gb444, 0, none⟩ = some (.int .i64 t441) ∧ w'.cell? ⟨gb444, 1, none⟩ = some (.int .i64 t442) ∧ w'.cell? ⟨gb448, 0, none⟩ = some (.int .i64 t445) ∧ w'.cell? ⟨gb448, 1, none⟩ = some (.int .i64 t446)) (ds := []) #[false, false, false, false, false, false, false, false, false, false, false, false, false, false, false, false, false, false, false, false] (by kernel_rfl) rfl rfl ⟨(blk_cell BK444.out 0).trans rfl, (blk_cell BK444.out 1).trans rfl, (blk_cell BK448.out 0).trans rfl, (blk_cell BK448.out 1).trans rfl⟩ (fun hHeld => ?_); refine with_tabW heirloomlaw01_NumNegs.tab3 heirloomlaw01_NumNegs.bits3 (fun HT_ HW_ => ?_)
      generalize w56.drew = w57 at BK440 BK444 BK448 HB hHeld ⊢
      refine take_ (i := 0) (N := some 17) (v := ?_) (a' := ?_) #[true, false, false, false, false, false, false, false, false, false, false, false, false, false, false, false, false, false, false, false] rfl rfl (take_ofW HT_.out HW_.out (by kernel_rfl)) (fun _ _ _ h => h) (Or.inl ⟨by rfl, ?_⟩) hHeld ?_ ?_
      rotate_left
      · rintro w' ⟨s0, s1, s2, s3⟩
        go_simp
        first | with_reducible rfl | (rw [if_neg (by have hq_ : (_ + _ : Nat) ≤ 9223372036854775807 := (by assumption); simp only [ByteArray.size_extract] at hq_; simp only [decide_eq_true_eq] at *; omega)]; done)
      rotate_left
      · simp only [Act.put, List.setIfInBounds_toArray, List.set_cons_zero, List.set_cons_succ, i64_w, i32_w]
        rfl
      refine take_ (i := 1) (N := some 18) (v := ?_) (a' := ?_) #[true, true, false, false, false, false, false, false, false, false, false, false, false, false, false, false, false, false, false, false] rfl rfl (take_ofW HT_.out HW_.out (by kernel_rfl)) (fun _ _ _ h => h) (Or.inl ⟨by rfl, ?_⟩) hHeld ?_ ?_
      rotate_left
      · rintro w' ⟨s0, s1, s2, s3⟩
        go_simp
        first | with_reducible rfl | (rw [if_neg (by have hq_ : (_ + _ : Nat) ≤ 9223372036854775807 := (by assumption); simp only [ByteArray.size_extract] at hq_; simp only [decide_eq_true_eq] at *; omega)]; done)
      rotate_left
      · simp only [Act.put, List.setIfInBounds_toArray, List.set_cons_zero, List.set_cons_succ, i64_w, i32_w]
        rfl
      refine pure_ (i := 2) (N := some 19) (v := ?_) (a' := ?_) #[true, true, true, false, false, false, false, false, false, false, false, false, false, false, false, false, false, false, false, false] rfl rfl (any_of HT_.out (by kernel_rfl)) (fun _ _ _ h => h) (Or.inl ⟨by rfl, ?_⟩) ?_ ?_
      rotate_left
      · intro w'
        go_simp
        first | with_reducible rfl | (rw [if_neg (by have hq_ : (_ + _ : Nat) ≤ 9223372036854775807 := (by assumption); simp only [ByteArray.size_extract] at hq_; simp only [decide_eq_true_eq] at *; omega)]; done)
      rotate_left
      · simp only [Act.put, List.setIfInBounds_toArray, List.set_cons_zero, List.set_cons_succ, i64_w, i32_w]
        rfl
      refine pure_ (i := 3) (N := some 20) (v := ?_) (a' := ?_) #[true, true, true, true, false, false, false, false, false, false, false, false, false, false, false, false, false, false, false, false] rfl rfl (any_of HT_.out (by kernel_rfl)) (fun _ _ _ h => h) (Or.inl ⟨by rfl, ?_⟩) ?_ ?_
      rotate_left
      · intro w'
        go_simp
        first | with_reducible rfl | (rw [if_neg (by have hq_ : (_ + _ : Nat) ≤ 9223372036854775807 := (by assumption); simp only [ByteArray.size_extract] at hq_; simp only [decide_eq_true_eq] at *; omega)]; done)
      rotate_left
      · simp only [Act.put, List.setIfInBounds_toArray, List.set_cons_zero, List.set_cons_succ, i64_w, i32_w]
        rfl
      refine pure_ (i := 4) (N := some 21) (v := ?_) (a' := ?_) #[true, true, true, true, true, false, false, false, false, false, false, false, false, false, false, false, false, false, false, false] rfl rfl (any_of HT_.out (by kernel_rfl)) (fun _ _ _ h => h) (Or.inl ⟨by rfl, ?_⟩) ?_ ?_
      rotate_left
      · intro w'
        go_simp
        first | with_reducible rfl | (rw [if_neg (by have hq_ : (_ + _ : Nat) ≤ 9223372036854775807 := (by assumption); simp only [ByteArray.size_extract] at hq_; simp only [decide_eq_true_eq] at *; omega)]; done)
      rotate_left
      · simp only [Act.put, List.setIfInBounds_toArray, List.set_cons_zero, List.set_cons_succ, i64_w, i32_w]
        rfl
      refine pure_ (i := 6) (N := some 23) (v := ?_) (a' := ?_) #[true, true, true, true, true, false, true, false, false, false, false, false, false, false, false, false, false, false, false, false] rfl rfl (any_of HT_.out (by kernel_rfl)) (fun _ _ _ h => h) (Or.inl ⟨by rfl, ?_⟩) ?_ ?_
      rotate_left
      · intro w'
        go_simp
        first | with_reducible rfl | (rw [if_neg (by have hq_ : (_ + _ : Nat) ≤ 9223372036854775807 := (by assumption); simp only [ByteArray.size_extract] at hq_; simp only [decide_eq_true_eq] at *; omega)]; done)
      rotate_left
      · simp only [Act.put, List.setIfInBounds_toArray, List.set_cons_zero, List.set_cons_succ, i64_w, i32_w]
        rfl
      refine one_ (i := 5) (N := some 22) #[true, true, true, true, true, true, true, false, false, false, false, false, false, false, false, false, false, false, false, false] rfl rfl (one_of HT_.out (by kernel_rfl)) (by decide) (fun K hK => ?_)
      refine goes_ Try.func24 (by kernel_rfl) rfl #[.int .i64 t443] (by rfl) rfl rfl (by (try simp only [List.map_toArray, List.map_cons, List.map_nil]); first | done | rfl | (simp only [List.length_drop, List.length_take]; rfl)) ?_
      with_reducible refine (heirloomlaw01_no.calls t443 t449 _ A5.out).mono ?_
      rintro e w' ⟨rfl, ⟨nd, rfl⟩⟩
      refine ⟨_, rfl, ?_⟩
      refine hK.out _ _ ⟨(blk_cell BK444.out 0).trans rfl, (blk_cell BK444.out 1).trans rfl, (blk_cell BK448.out 0).trans rfl, (blk_cell BK448.out 1).trans rfl⟩ (fun hHeld => ?_)
      clear hK K
      refine norm_ (a' := ?_) ?_ ?_
      rotate_left
      · show Act.put _ (some 22) _ = _
        simp only [Act.put, List.setIfInBounds_toArray, List.set_cons_zero, List.set_cons_succ, i64_w, i32_w]
        rfl
      refine pure_ (i := 7) (N := some 24) (v := ?_) (a' := ?_) #[true, true, true, true, true, true, true, true, false, false, false, false, false, false, false, false, false, false, false, false] rfl rfl (any_of HT_.out (by kernel_rfl)) (fun _ _ _ h => h) (Or.inl ⟨by rfl, ?_⟩) ?_ ?_
      rotate_left
      · intro w'
        go_simp
        first | with_reducible rfl | (rw [if_neg (by have hq_ : (_ + _ : Nat) ≤ 9223372036854775807 := (by assumption); simp only [ByteArray.size_extract] at hq_; simp only [decide_eq_true_eq] at *; omega)]; done)
      rotate_left
      · simp only [Act.put, List.setIfInBounds_toArray, List.set_cons_zero, List.set_cons_succ, i64_w, i32_w]
        rfl
      refine pure_ (i := 8) (N := some 25) (v := ?_) (a' := ?_) #[true, true, true, true, true, true, true, true, true, false, false, false, false, false, false, false, false, false, false, false] rfl rfl (any_of HT_.out (by kernel_rfl)) (fun _ _ _ h => h) (Or.inl ⟨by rfl, ?_⟩) ?_ ?_
      rotate_left
      · intro w'
        go_simp
        first | with_reducible rfl | (rw [if_neg (by have hq_ : (_ + _ : Nat) ≤ 9223372036854775807 := (by assumption); simp only [ByteArray.size_extract] at hq_; simp only [decide_eq_true_eq] at *; omega)]; done)
      rotate_left
      · simp only [Act.put, List.setIfInBounds_toArray, List.set_cons_zero, List.set_cons_succ, i64_w, i32_w]
        rfl
      refine pure_ (i := 9) (N := some 26) (v := ?_) (a' := ?_) #[true, true, true, true, true, true, true, true, true, true, false, false, false, false, false, false, false, false, false, false] rfl rfl (any_of HT_.out (by kernel_rfl)) (fun _ _ _ h => h) (Or.inl ⟨by rfl, ?_⟩) ?_ ?_
      rotate_left
      · intro w'
        go_simp
        first | with_reducible rfl | (rw [if_neg (by have hq_ : (_ + _ : Nat) ≤ 9223372036854775807 := (by assumption); simp only [ByteArray.size_extract] at hq_; simp only [decide_eq_true_eq] at *; omega)]; done)
      rotate_left
      · simp only [Act.put, List.setIfInBounds_toArray, List.set_cons_zero, List.set_cons_succ, i64_w, i32_w]
        rfl
      refine pure_ (i := 10) (N := some 27) (v := undef) (a' := ?_) #[true, true, true, true, true, true, true, true, true, true, true, false, false, false, false, false, false, false, false, false] rfl rfl (any_of HT_.out (by kernel_rfl)) (fun _ _ _ h => h) (Or.inr ⟨by rfl, rfl⟩) ?_ ?_
      rotate_left
      · simp only [Act.put, List.setIfInBounds_toArray, List.set_cons_zero, List.set_cons_succ, i64_w, i32_w]
        rfl
      refine pure_ (i := 11) (N := some 28) (v := undef) (a' := ?_) #[true, true, true, true, true, true, true, true, true, true, true, true, false, false, false, false, false, false, false, false] rfl rfl (any_of HT_.out (by kernel_rfl)) (fun _ _ _ h => h) (Or.inr ⟨by rfl, rfl⟩) ?_ ?_
      rotate_left
      · simp only [Act.put, List.setIfInBounds_toArray, List.set_cons_zero, List.set_cons_succ, i64_w, i32_w]
        rfl
      refine pure_ (i := 12) (N := some 29) (v := undef) (a' := ?_) #[true, true, true, true, true, true, true, true, true, true, true, true, true, false, false, false, false, false, false, false] rfl rfl (any_of HT_.out (by kernel_rfl)) (fun _ _ _ h => h) (Or.inr ⟨by rfl, rfl⟩) ?_ ?_
      rotate_left
      · simp only [Act.put, List.setIfInBounds_toArray, List.set_cons_zero, List.set_cons_succ, i64_w, i32_w]
        rfl
      refine pure_ (i := 13) (N := some 30) (v := undef) (a' := ?_) #[true, true, true, true, true, true, true, true, true, true, true, true, true, true, false, false, false, false, false, false] rfl rfl (any_of HT_.out (by kernel_rfl)) (fun _ _ _ h => h) (Or.inr ⟨by rfl, rfl⟩) ?_ ?_
      rotate_left
      · simp only [Act.put, List.setIfInBounds_toArray, List.set_cons_zero, List.set_cons_succ, i64_w, i32_w]
        rfl
      refine pure_ (i := 14) (N := some 31) (v := undef) (a' := ?_) #[true, true, true, true, true, true, true, true, true, true, true, true, true, true, true, false, false, false, false, false] rfl rfl (any_of HT_.out (by kernel_rfl)) (fun _ _ _ h => h) (Or.inr ⟨by rfl, rfl⟩) ?_ ?_
      rotate_left
      · simp only [Act.put, List.setIfInBounds_toArray, List.set_cons_zero, List.set_cons_succ, i64_w, i32_w]
        rfl
      refine pure_ (i := 15) (N := some 32) (v := ?_) (a' := ?_) #[true, true, true, true, true, true, true, true, true, true, true, true, true, true, true, true, false, false, false, false] rfl rfl (any_of HT_.out (by kernel_rfl)) (fun _ _ _ h => h) (Or.inl ⟨by rfl, ?_⟩) ?_ ?_
      rotate_left
      · intro w'
        go_simp
        first | with_reducible rfl | (rw [if_neg (by have hq_ : (_ + _ : Nat) ≤ 9223372036854775807 := (by assumption); simp only [ByteArray.size_extract] at hq_; simp only [decide_eq_true_eq] at *; omega)]; done)
      rotate_left
      · simp only [Act.put, List.setIfInBounds_toArray, List.set_cons_zero, List.set_cons_succ, i64_w, i32_w]
        rfl
      refine pure_ (i := 16) (N := some 33) (v := ?_) (a' := ?_) #[true, true, true, true, true, true, true, true, true, true, true, true, true, true, true, true, true, false, false, false] rfl rfl (any_of HT_.out (by kernel_rfl)) (fun _ _ _ h => h) (Or.inl ⟨by rfl, ?_⟩) ?_ ?_
      rotate_left
      · intro w'
        go_simp
        first | with_reducible rfl | (rw [if_neg (by have hq_ : (_ + _ : Nat) ≤ 9223372036854775807 := (by assumption); simp only [ByteArray.size_extract] at hq_; simp only [decide_eq_true_eq] at *; omega)]; done)
      rotate_left
      · simp only [Act.put, List.setIfInBounds_toArray, List.set_cons_zero, List.set_cons_succ, i64_w, i32_w]
        rfl
      refine pure_ (i := 17) (N := some 34) (v := undef) (a' := ?_) #[true, true, true, true, true, true, true, true, true, true, true, true, true, true, true, true, true, true, false, false] rfl rfl (any_of HT_.out (by kernel_rfl)) (fun _ _ _ h => h) (Or.inr ⟨by rfl, rfl⟩) ?_ ?_
      rotate_left
      · simp only [Act.put, List.setIfInBounds_toArray, List.set_cons_zero, List.set_cons_succ, i64_w, i32_w]
        rfl
      refine pure_ (i := 18) (N := some 35) (v := ?_) (a' := ?_) #[true, true, true, true, true, true, true, true, true, true, true, true, true, true, true, true, true, true, true, false] rfl rfl (any_of HT_.out (by kernel_rfl)) (fun _ _ _ h => h) (Or.inl ⟨by rfl, ?_⟩) ?_ ?_
      rotate_left
      · intro w'
        go_simp
        first | with_reducible rfl | (rw [if_neg (by have hq_ : (_ + _ : Nat) ≤ 9223372036854775807 := (by assumption); simp only [ByteArray.size_extract] at hq_; simp only [decide_eq_true_eq] at *; omega)]; done)
      rotate_left
      · simp only [Act.put, List.setIfInBounds_toArray, List.set_cons_zero, List.set_cons_succ, i64_w, i32_w]
        rfl
      refine pure_ (i := 19) (N := some 2) (v := ?_) (a' := ?_) #[true, true, true, true, true, true, true, true, true, true, true, true, true, true, true, true, true, true, true, true] rfl rfl (any_of HT_.out (by kernel_rfl)) (fun _ _ _ h => h) (Or.inl ⟨by rfl, ?_⟩) ?_ ?_
      rotate_left
      · intro w'
        go_simp
        first | with_reducible rfl | (rw [if_neg (by have hq_ : (_ + _ : Nat) ≤ 9223372036854775807 := (by assumption); simp only [ByteArray.size_extract] at hq_; simp only [decide_eq_true_eq] at *; omega)]; done)
      rotate_left
      · simp only [Act.put, List.setIfInBounds_toArray, List.set_cons_zero, List.set_cons_succ, i64_w, i32_w]
        rfl
      refine done_ (done_of HT_.out (by kernel_rfl)) ?_
      try go_wp2
      go_ret
      exact ⟨by first | rfl | (simp [errW_none, errW_some] <;> rfl) | (simp [*, errW_none, errW_some] <;> rfl), by repeat first | exact HB.out | apply zb | apply zn | apply zd | refine zs ?_ GE440.out | refine zs ?_ GE444.out | refine zs ?_ GE448.out⟩
  · rw [if_neg c4] at H
    have c4b0 : (t441 == t445 && (t442 == t446)) = false := by simpa using c4
    (try (have c4b1 : decide (t441 = t445 && (t442 == t446)) = false := by simpa using c4))
    (try (have c4b2 : (t441 == t445 && (t442 == t446)) = false := by simpa using c4))
    (try (have c4b3 : ¬ (t441 = t445 && (t442 == t446)) := by simpa using c4))
    clear c4
    obtain rfl := Option.some.inj H
    go_enter Try.func12, Try.ntmps12
    try go_wp2_with (first | ((with_reducible refine gate_dst (N := 1) rfl ?_); refine box_event ?hg (N := 1) ?hd (cs := #[.int .i64 a0_0, .int .i64 a0_1]) (t := 23) ?hr ?_; (case hd => rfl); (case hg => rfl); (case hr => go_simp <;> rfl); intro gb440 hg w58 hbox hb; have n0_ := Aside0.mk (below_step (by repeat first | exact HB.out | apply zb | apply zn | apply zd) hb); have n1_ := Aside0.mk (hbox); have n2_ := Aside0.mk ((by rw [hg]; exact (below_size (by repeat first | exact HB.out | apply zb | apply zn | apply zd)) : w.heap.size ≤ gb440)); have n3_ := n2_; clear HB; have HB := n0_; have BK440 := n1_; have GW440 := n2_; have GE440 := n3_; clear n0_ n1_ n2_ n3_; clear hb hbox hg; have hcz59_0 : w58.cell? ⟨gb440, 0, none⟩ = some (.int .i64 a0_0) := (blk_cell BK440.out 0).trans rfl; have hcz59_1 : w58.cell? ⟨gb440, 1, none⟩ = some (.int .i64 a0_1) := (blk_cell BK440.out 1).trans rfl; have hfz59_0 := blk_frozen BK440.out 0; have hfz59_1 := blk_frozen BK440.out 1) | ((with_reducible refine gate_callee (f := 35) rfl ?_); refine goesL_ (some 9) rfl rfl Try.func35 (by kernel_rfl) rfl #[.agg #[.int .i64 a0_0, .int .i64 a0_1]] rfl (by simp only [m1, m2, m3] <;> rfl) ?_; (with_reducible refine (num_Neg.calls a0_0 a0_1 t441 t442 t443 _ A2.out).mono ?_); rintro e w60 ⟨rfl, hb⟩; refine ⟨_, rfl, ?_⟩; have n0_ := Aside0.mk (blk_below (g := gb440) (o := .cells #[.int .i64 a0_0, .int .i64 a0_1] 23 (0, 0)) (by (with_reducible repeat first | refine kn ?_ _ | refine kd ?_ | refine ka ?_ _); exact BK440.out) hb); have n1_ := Aside0.mk (below_step (by repeat first | exact HB.out | apply zb | apply zn | apply zd | refine zs ?_ GE440.out) hb); clear BK440; clear HB; have BK440 := n0_; have HB := n1_; clear n0_ n1_; (try clear hb)) | ((with_reducible refine gate_dst (N := 3) rfl ?_); refine box_event ?hg (N := 3) ?hd (cs := #[.int .i64 0, .int .i64 0]) (t := 23) ?hr ?_; (case hd => rfl); (case hg => rfl); (case hr => go_simp <;> rfl); intro gb444 hg w61 hbox hb; have n0_ := Aside0.mk (blk_below (g := gb440) (o := .cells #[.int .i64 a0_0, .int .i64 a0_1] 23 (0, 0)) (by (with_reducible repeat first | refine kn ?_ _ | refine kd ?_ | refine ka ?_ _); exact BK440.out) hb); have n1_ := Aside0.mk (below_step (by repeat first | exact HB.out | apply zb | apply zn | apply zd | refine zs ?_ GE440.out) hb); have n2_ := Aside0.mk (hbox); have n3_ := Aside0.mk ((by rw [hg]; exact (below_size (by repeat first | exact HB.out | apply zb | apply zn | apply zd | refine zs ?_ GE440.out)) : w.heap.size ≤ gb444)); have n4_ := Aside0.mk ((by rw [hg]; exact (below_size (by repeat first | exact HB.out | apply zb | apply zn | apply zd | refine zs ?_ GE440.out)) : w.heap.size ≤ gb444)); have n5_ := Aside0.mk ((by rw [hg]; exact Nat.ne_of_lt (blk_lt (g := gb440) (o := .cells #[.int .i64 a0_0, .int .i64 a0_1] 23 (0, 0)) (by (with_reducible repeat first | refine kn ?_ _ | refine kd ?_ | refine ka ?_ _); exact BK440.out)) : gb440 ≠ gb444)); have n6_ := Aside0.mk ((by rw [hg]; exact Nat.ne_of_gt (blk_lt (g := gb440) (o := .cells #[.int .i64 a0_0, .int .i64 a0_1] 23 (0, 0)) (by (with_reducible repeat first | refine kn ?_ _ | refine kd ?_ | refine ka ?_ _); exact BK440.out)) : gb444 ≠ gb440)); clear BK440; clear HB; have BK440 := n0_; have HB := n1_; have BK444 := n2_; have GW444 := n3_; have GE444 := n4_; have NB440_444 := n5_; have NB444_440 := n6_; clear n0_ n1_ n2_ n3_ n4_ n5_ n6_; clear hb hbox hg; have hnb62 := NB444_440.out; have hnc62 := NB440_444.out; have hcz63_0 : w61.cell? ⟨gb444, 0, none⟩ = some (.int .i64 0) := (blk_cell BK444.out 0).trans rfl; have hcz63_1 : w61.cell? ⟨gb444, 1, none⟩ = some (.int .i64 0) := (blk_cell BK444.out 1).trans rfl; have hfz63_0 := blk_frozen BK444.out 0; have hfz63_1 := blk_frozen BK444.out 1; have hcz64_0 : w61.cell? ⟨gb440, 0, none⟩ = some (.int .i64 a0_0) := (blk_cell BK440.out 0).trans rfl; have hcz64_1 : w61.cell? ⟨gb440, 1, none⟩ = some (.int .i64 a0_1) := (blk_cell BK440.out 1).trans rfl; have hfz64_0 := blk_frozen BK440.out 0; have hfz64_1 := blk_frozen BK440.out 1) | ((with_reducible refine gate_callee (f := 36) rfl ?_); refine goesL_ (some 14) rfl rfl Try.func36 (by kernel_rfl) rfl #[.agg #[.int .i64 a0_0, .int .i64 a0_1]] rfl (by simp only [m1, m2, m3] <;> rfl) ?_; (with_reducible refine (heirloomref01_Neg.calls a0_0 a0_1 t445 t446 t447 _ A3.out).mono ?_); rintro e w65 ⟨rfl, hb⟩; refine ⟨_, rfl, ?_⟩; have n0_ := Aside0.mk (blk_below (g := gb440) (o := .cells #[.int .i64 a0_0, .int .i64 a0_1] 23 (0, 0)) (by (with_reducible repeat first | refine kn ?_ _ | refine kd ?_ | refine ka ?_ _); refine blk_far ?_ NB440_444.out _; (with_reducible repeat first | refine kn ?_ _ | refine kd ?_ | refine ka ?_ _); refine blk_far ?_ NB440_444.out _; (with_reducible repeat first | refine kn ?_ _ | refine kd ?_ | refine ka ?_ _); exact BK440.out) hb); have n1_ := Aside0.mk (blk_below (g := gb444) (o := .cells #[.int .i64 t441, .int .i64 t442] 23 (0, 0)) (by (with_reducible repeat first | refine kn ?_ _ | refine kd ?_ | refine ka ?_ _); refine blk_put (cs := #[.int .i64 t441, .int .i64 0]) ?_ 1 _ rfl; (with_reducible repeat first | refine kn ?_ _ | refine kd ?_ | refine ka ?_ _); refine blk_put (cs := #[.int .i64 0, .int .i64 0]) ?_ 0 _ rfl; (with_reducible repeat first | refine kn ?_ _ | refine kd ?_ | refine ka ?_ _); exact BK444.out) hb); have n2_ := Aside0.mk (below_step (by repeat first | exact HB.out | apply zb | apply zn | apply zd | refine zs ?_ GE440.out | refine zs ?_ GE444.out) hb); clear BK440; clear BK444; clear HB; have BK440 := n0_; have BK444 := n1_; have HB := n2_; clear n0_ n1_ n2_; (try clear hb)) | ((with_reducible refine gate_dst (N := 5) rfl ?_); refine box_event ?hg (N := 5) ?hd (cs := #[.int .i64 0, .int .i64 0]) (t := 23) ?hr ?_; (case hd => rfl); (case hg => rfl); (case hr => go_simp <;> rfl); intro gb448 hg w66 hbox hb; have n0_ := Aside0.mk (blk_below (g := gb440) (o := .cells #[.int .i64 a0_0, .int .i64 a0_1] 23 (0, 0)) (by (with_reducible repeat first | refine kn ?_ _ | refine kd ?_ | refine ka ?_ _); exact BK440.out) hb); have n1_ := Aside0.mk (blk_below (g := gb444) (o := .cells #[.int .i64 t441, .int .i64 t442] 23 (0, 0)) (by (with_reducible repeat first | refine kn ?_ _ | refine kd ?_ | refine ka ?_ _); exact BK444.out) hb); have n2_ := Aside0.mk (below_step (by repeat first | exact HB.out | apply zb | apply zn | apply zd | refine zs ?_ GE440.out | refine zs ?_ GE444.out) hb); have n3_ := Aside0.mk (hbox); have n4_ := Aside0.mk ((by rw [hg]; exact (below_size (by repeat first | exact HB.out | apply zb | apply zn | apply zd | refine zs ?_ GE440.out | refine zs ?_ GE444.out)) : w.heap.size ≤ gb448)); have n5_ := Aside0.mk ((by rw [hg]; exact (below_size (by repeat first | exact HB.out | apply zb | apply zn | apply zd | refine zs ?_ GE440.out | refine zs ?_ GE444.out)) : w.heap.size ≤ gb448)); have n6_ := Aside0.mk ((by rw [hg]; exact Nat.ne_of_lt (blk_lt (g := gb440) (o := .cells #[.int .i64 a0_0, .int .i64 a0_1] 23 (0, 0)) (by (with_reducible repeat first | refine kn ?_ _ | refine kd ?_ | refine ka ?_ _); exact BK440.out)) : gb440 ≠ gb448)); have n7_ := Aside0.mk ((by rw [hg]; exact Nat.ne_of_gt (blk_lt (g := gb440) (o := .cells #[.int .i64 a0_0, .int .i64 a0_1] 23 (0, 0)) (by (with_reducible repeat first | refine kn ?_ _ | refine kd ?_ | refine ka ?_ _); exact BK440.out)) : gb448 ≠ gb440)); have n8_ := Aside0.mk ((by rw [hg]; exact Nat.ne_of_lt (blk_lt (g := gb444) (o := .cells #[.int .i64 t441, .int .i64 t442] 23 (0, 0)) (by (with_reducible repeat first | refine kn ?_ _ | refine kd ?_ | refine ka ?_ _); exact BK444.out)) : gb444 ≠ gb448)); have n9_ := Aside0.mk ((by rw [hg]; exact Nat.ne_of_gt (blk_lt (g := gb444) (o := .cells #[.int .i64 t441, .int .i64 t442] 23 (0, 0)) (by (with_reducible repeat first | refine kn ?_ _ | refine kd ?_ | refine ka ?_ _); exact BK444.out)) : gb448 ≠ gb444)); clear BK440; clear BK444; clear HB; have BK440 := n0_; have BK444 := n1_; have HB := n2_; have BK448 := n3_; have GW448 := n4_; have GE448 := n5_; have NB440_448 := n6_; have NB448_440 := n7_; have NB444_448 := n8_; have NB448_444 := n9_; clear n0_ n1_ n2_ n3_ n4_ n5_ n6_ n7_ n8_ n9_; clear hb hbox hg; have hnb67 := NB448_440.out; have hnc67 := NB440_448.out; have hnb68 := NB448_444.out; have hnc68 := NB444_448.out; have hcz69_0 : w66.cell? ⟨gb448, 0, none⟩ = some (.int .i64 0) := (blk_cell BK448.out 0).trans rfl; have hcz69_1 : w66.cell? ⟨gb448, 1, none⟩ = some (.int .i64 0) := (blk_cell BK448.out 1).trans rfl; have hfz69_0 := blk_frozen BK448.out 0; have hfz69_1 := blk_frozen BK448.out 1))
    have n0_ : Aside0 (((w66.setCell ⟨gb448, 0, none⟩ (.int .i64 t445)).setCell ⟨gb448, 1, none⟩ (.int .i64 t446)).heap[gb440]? = some (.cells #[.int .i64 a0_0, .int .i64 a0_1] 23 (0, 0))) := ⟨by (with_reducible repeat first | refine kn ?_ _ | refine kd ?_ | refine ka ?_ _); refine blk_far ?_ NB440_448.out _; (with_reducible repeat first | refine kn ?_ _ | refine kd ?_ | refine ka ?_ _); refine blk_far ?_ NB440_448.out _; (with_reducible repeat first | refine kn ?_ _ | refine kd ?_ | refine ka ?_ _); exact BK440.out⟩
    have n1_ : Aside0 (((w66.setCell ⟨gb448, 0, none⟩ (.int .i64 t445)).setCell ⟨gb448, 1, none⟩ (.int .i64 t446)).heap[gb444]? = some (.cells #[.int .i64 t441, .int .i64 t442] 23 (0, 0))) := ⟨by (with_reducible repeat first | refine kn ?_ _ | refine kd ?_ | refine ka ?_ _); refine blk_far ?_ NB444_448.out _; (with_reducible repeat first | refine kn ?_ _ | refine kd ?_ | refine ka ?_ _); refine blk_far ?_ NB444_448.out _; (with_reducible repeat first | refine kn ?_ _ | refine kd ?_ | refine ka ?_ _); exact BK444.out⟩
    have n2_ : Aside0 (((w66.setCell ⟨gb448, 0, none⟩ (.int .i64 t445)).setCell ⟨gb448, 1, none⟩ (.int .i64 t446)).heap[gb448]? = some (.cells #[.int .i64 t445, .int .i64 t446] 23 (0, 0))) := ⟨by (with_reducible repeat first | refine kn ?_ _ | refine kd ?_ | refine ka ?_ _); refine blk_put (cs := #[.int .i64 t445, .int .i64 0]) ?_ 1 _ rfl; (with_reducible repeat first | refine kn ?_ _ | refine kd ?_ | refine ka ?_ _); refine blk_put (cs := #[.int .i64 0, .int .i64 0]) ?_ 0 _ rfl; (with_reducible repeat first | refine kn ?_ _ | refine kd ?_ | refine ka ?_ _); exact BK448.out⟩
    have n3_ : Aside0 (Below w.heap.size w ((w66.setCell ⟨gb448, 0, none⟩ (.int .i64 t445)).setCell ⟨gb448, 1, none⟩ (.int .i64 t446))) := ⟨by repeat first | exact HB.out | apply zb | apply zn | apply zd | refine zs ?_ GE440.out | refine zs ?_ GE444.out | refine zs ?_ GE448.out⟩
    (try clear BK440)
    (try clear BK444)
    (try clear BK448)
    (try clear HB)
    generalize ((w66.setCell ⟨gb448, 0, none⟩ (.int .i64 t445)).setCell ⟨gb448, 1, none⟩ (.int .i64 t446)) = w70 at n0_ n1_ n2_ n3_ ⊢
    have BK440 := n0_
    have BK444 := n1_
    have BK448 := n2_
    have HB := n3_
    clear n0_ n1_ n2_ n3_
    have n0_ := Aside0.mk (blk_drew BK440.out)
    have n1_ := Aside0.mk (blk_drew BK444.out)
    have n2_ := Aside0.mk (blk_drew BK448.out)
    have n3_ := Aside0.mk (below_drew1 HB.out)
    clear BK440
    clear BK444
    clear BK448
    clear HB
    have BK440 := n0_
    have BK444 := n1_
    have BK448 := n2_
    have HB := n3_
    clear n0_ n1_ n2_ n3_
    refine start_ (n := 20) (S := fun w' => w'.cell? ⟨gb444, 0, none⟩ = some (.int .i64 t441) ∧ w'.cell? ⟨gb444, 1, none⟩ = some (.int .i64 t442) ∧ w'.cell? ⟨gb448, 0, none⟩ = some (.int .i64 t445) ∧ w'.cell? ⟨gb448, 1, none⟩ = some (.int .i64 t446)) (ds := []) #[false, false, false, false, false, false, false, false, false, false, false, false, false, false, false, false, false, false, false, false] (by kernel_rfl) rfl rfl ⟨(blk_cell BK444.out 0).trans rfl, (blk_cell BK444.out 1).trans rfl, (blk_cell BK448.out 0).trans rfl, (blk_cell BK448.out 1).trans rfl⟩ (fun hHeld => ?_); refine with_tabW heirloomlaw01_NumNegs.tab3 heirloomlaw01_NumNegs.bits3 (fun HT_ HW_ => ?_)
    generalize w70.drew = w71 at BK440 BK444 BK448 HB hHeld ⊢
    refine take_ (i := 0) (N := some 17) (v := ?_) (a' := ?_) #[true, false, false, false, false, false, false, false, false, false, false, false, false, false, false, false, false, false, false, false] rfl rfl (take_ofW HT_.out HW_.out (by kernel_rfl)) (fun _ _ _ h => h) (Or.inl ⟨by rfl, ?_⟩) hHeld ?_ ?_
    rotate_left
    · rintro w' ⟨s0, s1, s2, s3⟩
      go_simp
      first | with_reducible rfl | (rw [if_neg (by have hq_ : (_ + _ : Nat) ≤ 9223372036854775807 := (by assumption); simp only [ByteArray.size_extract] at hq_; simp only [decide_eq_true_eq] at *; omega)]; done)
    rotate_left
    · simp only [Act.put, List.setIfInBounds_toArray, List.set_cons_zero, List.set_cons_succ, i64_w, i32_w]
      rfl
    refine take_ (i := 1) (N := some 18) (v := ?_) (a' := ?_) #[true, true, false, false, false, false, false, false, false, false, false, false, false, false, false, false, false, false, false, false] rfl rfl (take_ofW HT_.out HW_.out (by kernel_rfl)) (fun _ _ _ h => h) (Or.inl ⟨by rfl, ?_⟩) hHeld ?_ ?_
    rotate_left
    · rintro w' ⟨s0, s1, s2, s3⟩
      go_simp
      first | with_reducible rfl | (rw [if_neg (by have hq_ : (_ + _ : Nat) ≤ 9223372036854775807 := (by assumption); simp only [ByteArray.size_extract] at hq_; simp only [decide_eq_true_eq] at *; omega)]; done)
    rotate_left
    · simp only [Act.put, List.setIfInBounds_toArray, List.set_cons_zero, List.set_cons_succ, i64_w, i32_w]
      rfl
    refine pure_ (i := 2) (N := some 19) (v := ?_) (a' := ?_) #[true, true, true, false, false, false, false, false, false, false, false, false, false, false, false, false, false, false, false, false] rfl rfl (any_of HT_.out (by kernel_rfl)) (fun _ _ _ h => h) (Or.inl ⟨by rfl, ?_⟩) ?_ ?_
    rotate_left
    · intro w'
      go_simp
      first | with_reducible rfl | (rw [if_neg (by have hq_ : (_ + _ : Nat) ≤ 9223372036854775807 := (by assumption); simp only [ByteArray.size_extract] at hq_; simp only [decide_eq_true_eq] at *; omega)]; done)
    rotate_left
    · simp only [Act.put, List.setIfInBounds_toArray, List.set_cons_zero, List.set_cons_succ, i64_w, i32_w]
      rfl
    refine pure_ (i := 3) (N := some 20) (v := ?_) (a' := ?_) #[true, true, true, true, false, false, false, false, false, false, false, false, false, false, false, false, false, false, false, false] rfl rfl (any_of HT_.out (by kernel_rfl)) (fun _ _ _ h => h) (Or.inl ⟨by rfl, ?_⟩) ?_ ?_
    rotate_left
    · intro w'
      go_simp
      first | with_reducible rfl | (rw [if_neg (by have hq_ : (_ + _ : Nat) ≤ 9223372036854775807 := (by assumption); simp only [ByteArray.size_extract] at hq_; simp only [decide_eq_true_eq] at *; omega)]; done)
    rotate_left
    · simp only [Act.put, List.setIfInBounds_toArray, List.set_cons_zero, List.set_cons_succ, i64_w, i32_w]
      rfl
    refine pure_ (i := 4) (N := some 21) (v := undef) (a' := ?_) #[true, true, true, true, true, false, false, false, false, false, false, false, false, false, false, false, false, false, false, false] rfl rfl (any_of HT_.out (by kernel_rfl)) (fun _ _ _ h => h) (Or.inr ⟨by rfl, rfl⟩) ?_ ?_
    rotate_left
    · simp only [Act.put, List.setIfInBounds_toArray, List.set_cons_zero, List.set_cons_succ, i64_w, i32_w]
      rfl
    refine pure_ (i := 5) (N := some 22) (v := undef) (a' := ?_) #[true, true, true, true, true, true, false, false, false, false, false, false, false, false, false, false, false, false, false, false] rfl rfl (any_of HT_.out (by kernel_rfl)) (fun _ _ _ h => h) (Or.inr ⟨by rfl, rfl⟩) ?_ ?_
    rotate_left
    · simp only [Act.put, List.setIfInBounds_toArray, List.set_cons_zero, List.set_cons_succ, i64_w, i32_w]
      rfl
    refine pure_ (i := 6) (N := some 23) (v := undef) (a' := ?_) #[true, true, true, true, true, true, true, false, false, false, false, false, false, false, false, false, false, false, false, false] rfl rfl (any_of HT_.out (by kernel_rfl)) (fun _ _ _ h => h) (Or.inr ⟨by rfl, rfl⟩) ?_ ?_
    rotate_left
    · simp only [Act.put, List.setIfInBounds_toArray, List.set_cons_zero, List.set_cons_succ, i64_w, i32_w]
      rfl
    refine pure_ (i := 7) (N := some 24) (v := undef) (a' := ?_) #[true, true, true, true, true, true, true, true, false, false, false, false, false, false, false, false, false, false, false, false] rfl rfl (any_of HT_.out (by kernel_rfl)) (fun _ _ _ h => h) (Or.inr ⟨by rfl, rfl⟩) ?_ ?_
    rotate_left
    · simp only [Act.put, List.setIfInBounds_toArray, List.set_cons_zero, List.set_cons_succ, i64_w, i32_w]
      rfl
    refine pure_ (i := 8) (N := some 25) (v := ?_) (a' := ?_) #[true, true, true, true, true, true, true, true, true, false, false, false, false, false, false, false, false, false, false, false] rfl rfl (any_of HT_.out (by kernel_rfl)) (fun _ _ _ h => h) (Or.inl ⟨by rfl, ?_⟩) ?_ ?_
    rotate_left
    · intro w'
      go_simp
      first | with_reducible rfl | (rw [if_neg (by have hq_ : (_ + _ : Nat) ≤ 9223372036854775807 := (by assumption); simp only [ByteArray.size_extract] at hq_; simp only [decide_eq_true_eq] at *; omega)]; done)
    rotate_left
    · simp only [Act.put, List.setIfInBounds_toArray, List.set_cons_zero, List.set_cons_succ, i64_w, i32_w]
      rfl
    refine pure_ (i := 9) (N := some 26) (v := ?_) (a' := ?_) #[true, true, true, true, true, true, true, true, true, true, false, false, false, false, false, false, false, false, false, false] rfl rfl (any_of HT_.out (by kernel_rfl)) (fun _ _ _ h => h) (Or.inl ⟨by rfl, ?_⟩) ?_ ?_
    rotate_left
    · intro w'
      go_simp
      first | with_reducible rfl | (rw [if_neg (by have hq_ : (_ + _ : Nat) ≤ 9223372036854775807 := (by assumption); simp only [ByteArray.size_extract] at hq_; simp only [decide_eq_true_eq] at *; omega)]; done)
    rotate_left
    · simp only [Act.put, List.setIfInBounds_toArray, List.set_cons_zero, List.set_cons_succ, i64_w, i32_w]
      rfl
    refine pure_ (i := 10) (N := some 27) (v := undef) (a' := ?_) #[true, true, true, true, true, true, true, true, true, true, true, false, false, false, false, false, false, false, false, false] rfl rfl (any_of HT_.out (by kernel_rfl)) (fun _ _ _ h => h) (Or.inr ⟨by rfl, rfl⟩) ?_ ?_
    rotate_left
    · simp only [Act.put, List.setIfInBounds_toArray, List.set_cons_zero, List.set_cons_succ, i64_w, i32_w]
      rfl
    refine pure_ (i := 11) (N := some 28) (v := undef) (a' := ?_) #[true, true, true, true, true, true, true, true, true, true, true, true, false, false, false, false, false, false, false, false] rfl rfl (any_of HT_.out (by kernel_rfl)) (fun _ _ _ h => h) (Or.inr ⟨by rfl, rfl⟩) ?_ ?_
    rotate_left
    · simp only [Act.put, List.setIfInBounds_toArray, List.set_cons_zero, List.set_cons_succ, i64_w, i32_w]
      rfl
    refine pure_ (i := 12) (N := some 29) (v := undef) (a' := ?_) #[true, true, true, true, true, true, true, true, true, true, true, true, true, false, false, false, false, false, false, false] rfl rfl (any_of HT_.out (by kernel_rfl)) (fun _ _ _ h => h) (Or.inr ⟨by rfl, rfl⟩) ?_ ?_
    rotate_left
    · simp only [Act.put, List.setIfInBounds_toArray, List.set_cons_zero, List.set_cons_succ, i64_w, i32_w]
      rfl
    refine pure_ (i := 13) (N := some 30) (v := undef) (a' := ?_) #[true, true, true, true, true, true, true, true, true, true, true, true, true, true, false, false, false, false, false, false] rfl rfl (any_of HT_.out (by kernel_rfl)) (fun _ _ _ h => h) (Or.inr ⟨by rfl, rfl⟩) ?_ ?_
    rotate_left
    · simp only [Act.put, List.setIfInBounds_toArray, List.set_cons_zero, List.set_cons_succ, i64_w, i32_w]
      rfl
    refine pure_ (i := 14) (N := some 31) (v := undef) (a' := ?_) #[true, true, true, true, true, true, true, true, true, true, true, true, true, true, true, false, false, false, false, false] rfl rfl (any_of HT_.out (by kernel_rfl)) (fun _ _ _ h => h) (Or.inr ⟨by rfl, rfl⟩) ?_ ?_
    rotate_left
    · simp only [Act.put, List.setIfInBounds_toArray, List.set_cons_zero, List.set_cons_succ, i64_w, i32_w]
      rfl
    refine pure_ (i := 15) (N := some 32) (v := ?_) (a' := ?_) #[true, true, true, true, true, true, true, true, true, true, true, true, true, true, true, true, false, false, false, false] rfl rfl (any_of HT_.out (by kernel_rfl)) (fun _ _ _ h => h) (Or.inl ⟨by rfl, ?_⟩) ?_ ?_
    rotate_left
    · intro w'
      go_simp
      first | with_reducible rfl | (rw [if_neg (by have hq_ : (_ + _ : Nat) ≤ 9223372036854775807 := (by assumption); simp only [ByteArray.size_extract] at hq_; simp only [decide_eq_true_eq] at *; omega)]; done)
    rotate_left
    · simp only [Act.put, List.setIfInBounds_toArray, List.set_cons_zero, List.set_cons_succ, i64_w, i32_w]
      rfl
    refine pure_ (i := 16) (N := some 33) (v := ?_) (a' := ?_) #[true, true, true, true, true, true, true, true, true, true, true, true, true, true, true, true, true, false, false, false] rfl rfl (any_of HT_.out (by kernel_rfl)) (fun _ _ _ h => h) (Or.inl ⟨by rfl, ?_⟩) ?_ ?_
    rotate_left
    · intro w'
      go_simp
      first | with_reducible rfl | (rw [if_neg (by have hq_ : (_ + _ : Nat) ≤ 9223372036854775807 := (by assumption); simp only [ByteArray.size_extract] at hq_; simp only [decide_eq_true_eq] at *; omega)]; done)
    rotate_left
    · simp only [Act.put, List.setIfInBounds_toArray, List.set_cons_zero, List.set_cons_succ, i64_w, i32_w]
      rfl
    refine pure_ (i := 17) (N := some 34) (v := undef) (a' := ?_) #[true, true, true, true, true, true, true, true, true, true, true, true, true, true, true, true, true, true, false, false] rfl rfl (any_of HT_.out (by kernel_rfl)) (fun _ _ _ h => h) (Or.inr ⟨by rfl, rfl⟩) ?_ ?_
    rotate_left
    · simp only [Act.put, List.setIfInBounds_toArray, List.set_cons_zero, List.set_cons_succ, i64_w, i32_w]
      rfl
    refine pure_ (i := 18) (N := some 35) (v := ?_) (a' := ?_) #[true, true, true, true, true, true, true, true, true, true, true, true, true, true, true, true, true, true, true, false] rfl rfl (any_of HT_.out (by kernel_rfl)) (fun _ _ _ h => h) (Or.inl ⟨by rfl, ?_⟩) ?_ ?_
    rotate_left
    · intro w'
      go_simp
      first | with_reducible rfl | (rw [if_neg (by have hq_ : (_ + _ : Nat) ≤ 9223372036854775807 := (by assumption); simp only [ByteArray.size_extract] at hq_; simp only [decide_eq_true_eq] at *; omega)]; done)
    rotate_left
    · simp only [Act.put, List.setIfInBounds_toArray, List.set_cons_zero, List.set_cons_succ, i64_w, i32_w]
      rfl
    refine pure_ (i := 19) (N := some 2) (v := ?_) (a' := ?_) #[true, true, true, true, true, true, true, true, true, true, true, true, true, true, true, true, true, true, true, true] rfl rfl (any_of HT_.out (by kernel_rfl)) (fun _ _ _ h => h) (Or.inl ⟨by rfl, ?_⟩) ?_ ?_
    rotate_left
    · intro w'
      go_simp
      first | with_reducible rfl | (rw [if_neg (by have hq_ : (_ + _ : Nat) ≤ 9223372036854775807 := (by assumption); simp only [ByteArray.size_extract] at hq_; simp only [decide_eq_true_eq] at *; omega)]; done)
    rotate_left
    · simp only [Act.put, List.setIfInBounds_toArray, List.set_cons_zero, List.set_cons_succ, i64_w, i32_w]
      rfl
    refine done_ (done_of HT_.out (by kernel_rfl)) ?_
    try go_wp2
    go_ret
    exact ⟨by first | rfl | (simp [errW_none, errW_some] <;> rfl) | (simp [*, errW_none, errW_some] <;> rfl), by repeat first | exact HB.out | apply zb | apply zn | apply zd | refine zs ?_ GE440.out | refine zs ?_ GE444.out | refine zs ?_ GE448.out⟩

end Go.Proofs.Yticnolkbmpmgcaa.QN
