-- WRITTEN BY wip/tools/myprint.py, a program of this session, over the kit's printer
import Derived.Test.YtpemgladmnbfhaaDoorSh
import Derived.Test.YtpemgladmnbfhaaDoorQLx0
import Derived.Test.YtpemgladmnbfhaaDoorQLx9
-- DENTED
namespace Go.Proofs.YtpemgladmnbfhaaDoor.QL
open Go.Proofs.YtpemgladmnbfhaaDoor.Sh
open Go.RowKit Go.Proofs.YtpemgladmnbfhaaDoorW.PrintWords Go.Proofs.YtpemgladmnbfhaaDoorW.PrintLast Go.Proofs.YtpemgladmnbfhaaDoorW.PrintMore
attribute [local go_sem] max2_int min2_int max_two min_two max_three min_three max_four min_four   -- for this text's walks alone
open Go.Proofs.YtpemgladmnbfhaaDoor.Fl Go.Proofs.YtpemgladmnbfhaaDoor.Wd
attribute [local go_sem high] bo_eq bo_ne bo_lt bo_le bo_gt bo_ge
attribute [local go_sem] run82 run76 neg_fl
set_option linter.unusedVariables false
set_option linter.unusedSimpArgs false

/-! ### heirloomref01_Read: function 44 -/
mutual
def heirloomref01_Read.j0 : Nat → ByteArray → Bool → Option (Int × Int × Int)
 | 0, _, _ => none
 | k + 1, x0, x22 => if x22 = true then (if 2 ≤ (x0.size : Int) then ((heirloomref01_hex.f k (x0.extract 2 x0.size)).bind fun bt172 => (if bt172.2 = true then ((heirloomref01_Is.f 3 (wrap64 (bt172.1))).bind fun t175 => (if t175 = true then (some (3, wrap64 (bt172.1), 0)) else (some (0, 0, 6)))) else (some (0, 0, 6)))) else (none)) else (if (x0.size : Int) > 0 then (if 0 < (x0.size : Int) then (heirloomref01_Read.j1 k x0 ((bt x0 0) == 45)) else (none)) else (heirloomref01_Read.j1 k x0 false))
def heirloomref01_Read.j1 : Nat → ByteArray → Bool → Option (Int × Int × Int)
 | 0, _, _ => none
 | k + 1, x0, x7 => if x7 = true then (if 1 ≤ (x0.size : Int) then (heirloomref01_Read.j2 k x7 (x0.extract 1 x0.size)) else (none)) else (heirloomref01_Read.j2 k x7 x0)
def heirloomref01_Read.j2 : Nat → Bool → ByteArray → Option (Int × Int × Int)
 | 0, _, _ => none
 | k + 1, x7, x8 => (heirloomref01_all.f k x8).bind fun t176 => (if t176 = true then ((heirloomref01_whole.f k x8 x7).bind fun bt177 => (some (bt177.1, bt177.2.1, bt177.2.2))) else ((heirloomref01_point.f k x8).bind fun t180 => (if t180 < 0 then (heirloomref01_Read.j3 k x7 x8 t180 true) else (if 0 ≤ t180 then (if t180 ≤ (x8.size : Int) then ((heirloomref01_all.f k (x8.extract 0 (t180 : Int).toNat)).bind fun t181 => (if t181 = true then (if 0 ≤ (wrap64 (t180 + 1)) then (if (wrap64 (t180 + 1)) ≤ (x8.size : Int) then ((heirloomref01_all.f k (x8.extract ((wrap64 (t180 + 1)) : Int).toNat x8.size)).bind fun t182 => (heirloomref01_Read.j3 k x7 x8 t180 (!t182))) else (none)) else (none)) else (heirloomref01_Read.j3 k x7 x8 t180 true))) else (none)) else (none)))))
def heirloomref01_Read.j3 : Nat → Bool → ByteArray → Int → Bool → Option (Int × Int × Int)
 | 0, _, _, _, _ => none
 | k + 1, x7, x8, x9, x78 => if x78 = true then (some (0, 0, 6)) else (if (x8.size : Int) > 16 then (some (0, 0, 7)) else (heirloomref01_Read.l0 k x7 x8 x9 0 0))
def heirloomref01_Read.l0 : Nat → Bool → ByteArray → Int → Int → Int → Option (Int × Int × Int)
 | 0, _, _, _, _, _ => none
 | k + 1, x7, x8, x9, x10, x11 => if x11 < (x8.size : Int) then (if x11 = x9 then (heirloomref01_Read.l0 k x7 x8 x9 x10 (wrap64 (x11 + 1))) else (if 0 ≤ x11 then (heirloomref01_Read.l0 k x7 x8 x9 (wrap64 ((wrap64 (10 * x10)) + (((bt x8 x11) - 48) % 256))) (wrap64 (x11 + 1))) else (none))) else (heirloomref01_Read.l1 k x7 x8 x10 1 (wrap64 (x9 + 1)))
def heirloomref01_Read.l1 : Nat → Bool → ByteArray → Int → Int → Int → Option (Int × Int × Int)
 | 0, _, _, _, _, _ => none
 | k + 1, x7, x8, x10, x12, x13 => if x13 < (x8.size : Int) then (heirloomref01_Read.l1 k x7 x8 x10 (wrap64 (10 * x12)) (wrap64 (x13 + 1))) else (if (fok .quo (floatOfInt .f64 x10) (floatOfInt .f64 x12)) = true then (if x7 = true then ((heirloomref01_Float.f (fneg (fop .quo (floatOfInt .f64 x10) (floatOfInt .f64 x12)))).bind fun bt183 => (some (bt183.1, bt183.2, 0))) else ((heirloomref01_Float.f (fop .quo (floatOfInt .f64 x10) (floatOfInt .f64 x12))).bind fun bt185 => (some (bt185.1, bt185.2, 0)))) else (none))
end
def heirloomref01_Read.f (k : Nat) (a0 : ByteArray) : Option (Int × Int × Int) := if (a0.size : Int) = 18 then (if 0 ≤ 2 then (if 2 ≤ (a0.size : Int) then (heirloomref01_Read.j0 k a0 ((a0.extract 0 2).toList == ([48, 102] : List UInt8))) else (none)) else (none)) else (heirloomref01_Read.j0 k a0 false)
theorem heirloomref01_Read.mono_l : ∀ k, (∀ y0 y1, LeO (heirloomref01_Read.j0 k y0 y1) (heirloomref01_Read.j0 (k + 1) y0 y1)) ∧ (∀ y0 y1, LeO (heirloomref01_Read.j1 k y0 y1) (heirloomref01_Read.j1 (k + 1) y0 y1)) ∧ (∀ y0 y1, LeO (heirloomref01_Read.j2 k y0 y1) (heirloomref01_Read.j2 (k + 1) y0 y1)) ∧ (∀ y0 y1 y2 y3, LeO (heirloomref01_Read.j3 k y0 y1 y2 y3) (heirloomref01_Read.j3 (k + 1) y0 y1 y2 y3)) ∧ (∀ y0 y1 y2 y3 y4, LeO (heirloomref01_Read.l0 k y0 y1 y2 y3 y4) (heirloomref01_Read.l0 (k + 1) y0 y1 y2 y3 y4)) ∧ (∀ y0 y1 y2 y3 y4, LeO (heirloomref01_Read.l1 k y0 y1 y2 y3 y4) (heirloomref01_Read.l1 (k + 1) y0 y1 y2 y3 y4))
 | 0 => ⟨fun _ _ r h => by simp [heirloomref01_Read.j0] at h, fun _ _ r h => by simp [heirloomref01_Read.j1] at h, fun _ _ r h => by simp [heirloomref01_Read.j2] at h, fun _ _ _ _ r h => by simp [heirloomref01_Read.j3] at h, fun _ _ _ _ _ r h => by simp [heirloomref01_Read.l0] at h, fun _ _ _ _ _ r h => by simp [heirloomref01_Read.l1] at h⟩
 | k + 1 => by
  obtain ⟨ih0, ih1, ih2, ih3, ih4, ih5⟩ := heirloomref01_Read.mono_l k
  refine ⟨?_, ?_, ?_, ?_, ?_, ?_⟩
  ·intro y0 y1
   unfold heirloomref01_Read.j0
   repeat' first
   | (with_reducible exact ih0 _ _)
   | (with_reducible exact ih1 _ _)
   | (with_reducible exact ih2 _ _)
   | (with_reducible exact ih3 _ _ _ _)
   | (with_reducible exact ih4 _ _ _ _ _)
   | (with_reducible exact ih5 _ _ _ _ _)
   | (with_reducible exact heirloomref01_all.mono _ _)
   | (with_reducible exact heirloomref01_hex.mono _ _)
   | (with_reducible exact heirloomref01_point.mono _ _)
   | (with_reducible exact heirloomref01_whole.mono _ _ _)
   | (with_reducible exact LeO.refl _)
   | (with_reducible exact LeO.none _)
   | (with_reducible refine LeO.ite ?_ ?_)
   | (with_reducible refine LeO.bind ?_ (fun _ => ?_))
   | exact ih0 _ _
   | exact ih1 _ _
   | exact ih2 _ _
   | exact ih3 _ _ _ _
   | exact ih4 _ _ _ _ _
   | exact ih5 _ _ _ _ _
   | exact heirloomref01_all.mono _ _
   | exact heirloomref01_hex.mono _ _
   | exact heirloomref01_point.mono _ _
   | exact heirloomref01_whole.mono _ _ _
   | exact LeO.none _
   | refine LeO.ite ?_ ?_
   | refine LeO.bind ?_ (fun _ => ?_)
  ·intro y0 y1
   unfold heirloomref01_Read.j1
   repeat' first
   | (with_reducible exact ih0 _ _)
   | (with_reducible exact ih1 _ _)
   | (with_reducible exact ih2 _ _)
   | (with_reducible exact ih3 _ _ _ _)
   | (with_reducible exact ih4 _ _ _ _ _)
   | (with_reducible exact ih5 _ _ _ _ _)
   | (with_reducible exact heirloomref01_all.mono _ _)
   | (with_reducible exact heirloomref01_hex.mono _ _)
   | (with_reducible exact heirloomref01_point.mono _ _)
   | (with_reducible exact heirloomref01_whole.mono _ _ _)
   | (with_reducible exact LeO.refl _)
   | (with_reducible exact LeO.none _)
   | (with_reducible refine LeO.ite ?_ ?_)
   | (with_reducible refine LeO.bind ?_ (fun _ => ?_))
   | exact ih0 _ _
   | exact ih1 _ _
   | exact ih2 _ _
   | exact ih3 _ _ _ _
   | exact ih4 _ _ _ _ _
   | exact ih5 _ _ _ _ _
   | exact heirloomref01_all.mono _ _
   | exact heirloomref01_hex.mono _ _
   | exact heirloomref01_point.mono _ _
   | exact heirloomref01_whole.mono _ _ _
   | exact LeO.none _
   | refine LeO.ite ?_ ?_
   | refine LeO.bind ?_ (fun _ => ?_)
  ·intro y0 y1
   unfold heirloomref01_Read.j2
   repeat' first
   | (with_reducible exact ih0 _ _)
   | (with_reducible exact ih1 _ _)
   | (with_reducible exact ih2 _ _)
   | (with_reducible exact ih3 _ _ _ _)
   | (with_reducible exact ih4 _ _ _ _ _)
   | (with_reducible exact ih5 _ _ _ _ _)
   | (with_reducible exact heirloomref01_all.mono _ _)
   | (with_reducible exact heirloomref01_hex.mono _ _)
   | (with_reducible exact heirloomref01_point.mono _ _)
   | (with_reducible exact heirloomref01_whole.mono _ _ _)
   | (with_reducible exact LeO.refl _)
   | (with_reducible exact LeO.none _)
   | (with_reducible refine LeO.ite ?_ ?_)
   | (with_reducible refine LeO.bind ?_ (fun _ => ?_))
   | exact ih0 _ _
   | exact ih1 _ _
   | exact ih2 _ _
   | exact ih3 _ _ _ _
   | exact ih4 _ _ _ _ _
   | exact ih5 _ _ _ _ _
   | exact heirloomref01_all.mono _ _
   | exact heirloomref01_hex.mono _ _
   | exact heirloomref01_point.mono _ _
   | exact heirloomref01_whole.mono _ _ _
   | exact LeO.none _
   | refine LeO.ite ?_ ?_
   | refine LeO.bind ?_ (fun _ => ?_)
  ·intro y0 y1 y2 y3
   unfold heirloomref01_Read.j3
   repeat' first
   | (with_reducible exact ih0 _ _)
   | (with_reducible exact ih1 _ _)
   | (with_reducible exact ih2 _ _)
   | (with_reducible exact ih3 _ _ _ _)
   | (with_reducible exact ih4 _ _ _ _ _)
   | (with_reducible exact ih5 _ _ _ _ _)
   | (with_reducible exact heirloomref01_all.mono _ _)
   | (with_reducible exact heirloomref01_hex.mono _ _)
   | (with_reducible exact heirloomref01_point.mono _ _)
   | (with_reducible exact heirloomref01_whole.mono _ _ _)
   | (with_reducible exact LeO.refl _)
   | (with_reducible exact LeO.none _)
   | (with_reducible refine LeO.ite ?_ ?_)
   | (with_reducible refine LeO.bind ?_ (fun _ => ?_))
   | exact ih0 _ _
   | exact ih1 _ _
   | exact ih2 _ _
   | exact ih3 _ _ _ _
   | exact ih4 _ _ _ _ _
   | exact ih5 _ _ _ _ _
   | exact heirloomref01_all.mono _ _
   | exact heirloomref01_hex.mono _ _
   | exact heirloomref01_point.mono _ _
   | exact heirloomref01_whole.mono _ _ _
   | exact LeO.none _
   | refine LeO.ite ?_ ?_
   | refine LeO.bind ?_ (fun _ => ?_)
  ·intro y0 y1 y2 y3 y4
   unfold heirloomref01_Read.l0
   repeat' first
   | (with_reducible exact ih0 _ _)
   | (with_reducible exact ih1 _ _)
   | (with_reducible exact ih2 _ _)
   | (with_reducible exact ih3 _ _ _ _)
   | (with_reducible exact ih4 _ _ _ _ _)
   | (with_reducible exact ih5 _ _ _ _ _)
   | (with_reducible exact heirloomref01_all.mono _ _)
   | (with_reducible exact heirloomref01_hex.mono _ _)
   | (with_reducible exact heirloomref01_point.mono _ _)
   | (with_reducible exact heirloomref01_whole.mono _ _ _)
   | (with_reducible exact LeO.refl _)
   | (with_reducible exact LeO.none _)
   | (with_reducible refine LeO.ite ?_ ?_)
   | (with_reducible refine LeO.bind ?_ (fun _ => ?_))
   | exact ih0 _ _
   | exact ih1 _ _
   | exact ih2 _ _
   | exact ih3 _ _ _ _
   | exact ih4 _ _ _ _ _
   | exact ih5 _ _ _ _ _
   | exact heirloomref01_all.mono _ _
   | exact heirloomref01_hex.mono _ _
   | exact heirloomref01_point.mono _ _
   | exact heirloomref01_whole.mono _ _ _
   | exact LeO.none _
   | refine LeO.ite ?_ ?_
   | refine LeO.bind ?_ (fun _ => ?_)
  ·intro y0 y1 y2 y3 y4
   unfold heirloomref01_Read.l1
   repeat' first
   | (with_reducible exact ih0 _ _)
   | (with_reducible exact ih1 _ _)
   | (with_reducible exact ih2 _ _)
   | (with_reducible exact ih3 _ _ _ _)
   | (with_reducible exact ih4 _ _ _ _ _)
   | (with_reducible exact ih5 _ _ _ _ _)
   | (with_reducible exact heirloomref01_all.mono _ _)
   | (with_reducible exact heirloomref01_hex.mono _ _)
   | (with_reducible exact heirloomref01_point.mono _ _)
   | (with_reducible exact heirloomref01_whole.mono _ _ _)
   | (with_reducible exact LeO.refl _)
   | (with_reducible exact LeO.none _)
   | (with_reducible refine LeO.ite ?_ ?_)
   | (with_reducible refine LeO.bind ?_ (fun _ => ?_))
   | exact ih0 _ _
   | exact ih1 _ _
   | exact ih2 _ _
   | exact ih3 _ _ _ _
   | exact ih4 _ _ _ _ _
   | exact ih5 _ _ _ _ _
   | exact heirloomref01_all.mono _ _
   | exact heirloomref01_hex.mono _ _
   | exact heirloomref01_point.mono _ _
   | exact heirloomref01_whole.mono _ _ _
   | exact LeO.none _
   | refine LeO.ite ?_ ?_
   | refine LeO.bind ?_ (fun _ => ?_)
theorem heirloomref01_Read.mono : ∀ a0 k, LeO (heirloomref01_Read.f k a0) (heirloomref01_Read.f (k + 1) a0) := by
 intro a0 k
 obtain ⟨ih0, ih1, ih2, ih3, ih4, ih5⟩ := heirloomref01_Read.mono_l k
 unfold heirloomref01_Read.f
 repeat' first
   | (with_reducible exact ih0 _ _)
   | (with_reducible exact ih1 _ _)
   | (with_reducible exact ih2 _ _)
   | (with_reducible exact ih3 _ _ _ _)
   | (with_reducible exact ih4 _ _ _ _ _)
   | (with_reducible exact ih5 _ _ _ _ _)
   | (with_reducible exact heirloomref01_all.mono _ _)
   | (with_reducible exact heirloomref01_hex.mono _ _)
   | (with_reducible exact heirloomref01_point.mono _ _)
   | (with_reducible exact heirloomref01_whole.mono _ _ _)
   | (with_reducible exact LeO.refl _)
   | (with_reducible exact LeO.none _)
   | (with_reducible refine LeO.ite ?_ ?_)
   | (with_reducible refine LeO.bind ?_ (fun _ => ?_))
   | exact ih0 _ _
   | exact ih1 _ _
   | exact ih2 _ _
   | exact ih3 _ _ _ _
   | exact ih4 _ _ _ _ _
   | exact ih5 _ _ _ _ _
   | exact heirloomref01_all.mono _ _
   | exact heirloomref01_hex.mono _ _
   | exact heirloomref01_point.mono _ _
   | exact heirloomref01_whole.mono _ _ _
   | exact LeO.none _
   | refine LeO.ite ?_ ?_
   | refine LeO.bind ?_ (fun _ => ?_)
set_option maxHeartbeats 8000000 in
set_option maxRecDepth 100000 in
theorem heirloomref01_Read.calls (k : Nat) (a0 : ByteArray) (r1 : Int) (r2 : Int) (r3 : Int) (w : World) (h : heirloomref01_Read.f k a0 = some (r1, r2, r3)) :
  Calls Tryd.prog 44 #[.string a0] w fun e w' => e = .returned (.tuple #[.agg #[.int .i64 r1, .int .i64 r2], .int .i64 r3]) ∧ Below w.heap.size w w' := by
 have hu33 := Tryd.underlying33
 have HB := Aside0.mk (Below.refl w.heap.size w)
 have H : (if (a0.size : Int) = 18 then (if 0 ≤ 2 then (if 2 ≤ (a0.size : Int) then (heirloomref01_Read.j0 k a0 ((a0.extract 0 2).toList == ([48, 102] : List UInt8))) else (none)) else (none)) else (heirloomref01_Read.j0 k a0 false)) = some (r1, r2, r3) := h
 clear h
 have HC2 := Aside0.mk H
 clear H
 go_enter Tryd.func44, Tryd.ntmps44
 go_upto_region 1 with (first | ((with_reducible refine gate_dst (N := 2) rfl ?_); refine box_event ?hg (N := 2) ?hd (cs := #[.int .i64 0, .int .i64 0]) (t := 33) ?hr ?_; (case hd => rfl); (case hg => rfl); (case hr => go_simp <;> rfl); intro gb171 hg w3 hbox hb; have n0_ := Aside0.mk (below_step (by repeat (first | (with_reducible first | exact HB.out | apply zb | apply zn | apply zd) | exact HB.out)) hb); have n1_ := Aside0.mk (hbox); have n2_ := Aside0.mk ((by rw [hg]; exact (below_size (by repeat (first | (with_reducible first | exact HB.out | apply zb | apply zn | apply zd) | exact HB.out))) : w.heap.size ≤ gb171)); have n3_ := n2_; clear HB; have HB := n0_; have BK171 := n1_; have GW171 := n2_; have GE171 := n3_; clear n0_ n1_ n2_ n3_; clear hb hbox hg))
 (try simp only [Act.put, List.setIfInBounds_toArray, List.set_cons_zero, List.set_cons_succ])
 go_cut [22] (fun v22 wc => ∃ (kq : Nat) (x22_1 : Bool), v22 = .bool x22_1 ∧ Aside0 (heirloomref01_Read.j0 kq a0 x22_1 = some (r1, r2, r3)) ∧ Aside0 (kq ≤ k) ∧ Aside0 (wc.heap[gb171]? = some (.cells #[.int .i64 0, .int .i64 0] 33 (0, 0))) ∧ Aside0 (Below w.heap.size w wc))
 case first =>
  have H := HC2.out
  clear HC2
  by_cases c4 : (a0.size : Int) = 18
  ·rw [if_pos c4] at H
   have c4b0 : ((a0.size : Int) == 18) = true := beq_iff_eq.mpr c4
   have c4b1 : ((a0.size : Int) != 18) = false := bne_eq_false_iff_eq.mpr c4
   clear c4
   (first | rw [c4b0] | (simp only [i64_w, i32_w]; rw [c4b0]) | skip)
   by_cases c5 : 0 ≤ 2
   ·rw [if_pos c5] at H
    have c5b0 := eq_true c5
    have c5b1 : decide (0 ≤ 2) = true := decide_eq_true c5
    clear c5
    by_cases c6 : 2 ≤ (a0.size : Int)
    ·rw [if_pos c6] at H
     have c6b0 := eq_true c6
     have c6b1 : decide (2 ≤ (a0.size : Int)) = true := decide_eq_true c6
     clear c6
     have H' := Aside0.mk H
     clear H
     go_wp2
     go_meet
     case rel => exact ⟨_, (((a0.extract 0 2).toList == ([48, 102] : List UInt8))), (by first | rfl | (simp; done) | (simp [*]; done)), H', ⟨by first | omega | exact Nat.le_refl _⟩, ⟨by (with_reducible repeat first | refine kn ?_ _ | refine kd ?_ | refine ka ?_ _); exact BK171.out⟩, ⟨by repeat (first | (with_reducible first | exact HB.out | apply zb | apply zn | apply zd | refine zs ?_ GE171.out) | exact HB.out)⟩⟩
    ·rw [if_neg c6] at H
     exact absurd H (by simp)
   ·rw [if_neg c5] at H
    exact absurd H (by simp)
  ·rw [if_neg c4] at H
   have c4b0 : ((a0.size : Int) == 18) = false := beq_eq_false_iff_ne.mpr c4
   have c4b1 : ((a0.size : Int) != 18) = true := bne_iff_ne.mpr c4
   (first | rw [c4b0] | (simp only [i64_w, i32_w]; rw [c4b0]) | skip)
   have H' := Aside0.mk H
   clear H
   go_wp2
   go_meet
   case rel => exact ⟨_, (false), (by first | rfl | (simp; done) | (simp [*]; done)), H', ⟨by first | omega | exact Nat.le_refl _⟩, ⟨by (with_reducible repeat first | refine kn ?_ _ | refine kd ?_ | refine ka ?_ _); exact BK171.out⟩, ⟨by repeat (first | (with_reducible first | exact HB.out | apply zb | apply zn | apply zd | refine zs ?_ GE171.out) | exact HB.out)⟩⟩
 case rest =>
  clear HC2
  try clear p2
  try clear c4
  try clear c4b0
  try clear c4b1
  try clear c5
  try clear c5b0
  try clear c5b1
  try clear c6
  try clear c6b0
  try clear c6b1
  obtain ⟨kq, x22_1, rfl, HA, HJ1, BK171, HB⟩ := hcut
  cases kq with
  | zero => exact absurd HA.out (by simp [heirloomref01_Read.j0])
  | succ kj1 =>
   have H := HA.out
   clear HA
   simp only [heirloomref01_Read.j0] at H
   by_cases c7 : x22_1 = true
   ·subst c7
    have H1 : (if 2 ≤ (a0.size : Int) then ((heirloomref01_hex.f kj1 (a0.extract 2 a0.size)).bind fun bt172 => (if bt172.2 = true then ((heirloomref01_Is.f 3 (wrap64 (bt172.1))).bind fun t175 => (if t175 = true then (some (3, wrap64 (bt172.1), 0)) else (some (0, 0, 6)))) else (some (0, 0, 6)))) else (none)) = some (r1, r2, r3) := by rw [if_pos rfl] at H; exact H
    clear H
    have H := H1
    clear H1
    by_cases c8 : 2 ≤ (a0.size : Int)
    ·rw [if_pos c8] at H
     have c8b0 := eq_true c8
     have c8b1 : decide (2 ≤ (a0.size : Int)) = true := decide_eq_true c8
     clear c8
     replace H := Option.bind_eq_some_iff.mp H
     obtain ⟨⟨t172, t173⟩, A90, H⟩ := H
     replace H : (if t173 = true then ((heirloomref01_Is.f 3 (wrap64 (t172))).bind fun t175 => (if t175 = true then (some (3, wrap64 (t172), 0)) else (some (0, 0, 6)))) else (some (0, 0, 6))) = some (r1, r2, r3) := H
     have A9 := Aside0.mk A90
     clear A90
     by_cases c10 : t173 = true
     ·subst c10
      have H1 : ((heirloomref01_Is.f 3 (wrap64 (t172))).bind fun t175 => (if t175 = true then (some (3, wrap64 (t172), 0)) else (some (0, 0, 6)))) = some (r1, r2, r3) := by rw [if_pos rfl] at H; exact H
      clear H
      have H := H1
      clear H1
      replace H := Option.bind_eq_some_iff.mp H
      obtain ⟨t175, A110, H⟩ := H
      replace H : (if t175 = true then (some (3, wrap64 (t172), 0)) else (some (0, 0, 6))) = some (r1, r2, r3) := H
      have A11 := Aside0.mk A110
      clear A110
      by_cases c12 : t175 = true
      ·subst c12
       have H1 : (some (3, wrap64 (t172), 0)) = some (r1, r2, r3) := by rw [if_pos rfl] at H; exact H
       clear H
       have H := H1
       clear H1
       simp only [Option.some.injEq, Prod.mk.injEq] at H
       obtain ⟨rfl, rfl, rfl⟩ := H
       go_wp2_with (first | ((with_reducible refine gate_callee (f := 58) rfl ?_); refine goesL_ (some 26) rfl rfl Tryd.func58 (by kernel_rfl) rfl #[.string (a0.extract 2 a0.size)] rfl (by (try simp only [List.map_toArray, List.map_cons, List.map_nil]); first | done | rfl | (simp only [List.length_drop, List.length_take]; rfl)) ?_; (with_reducible refine (heirloomref01_hex.calls kj1 (a0.extract 2 a0.size) t172 true _ A9.out).mono ?_); rintro e w' ⟨rfl, ⟨nd, rfl⟩⟩; refine ⟨_, rfl, ?_⟩; (try (rw [drewN_self wc]; generalize hq_ : World.drewN wc _ = wc; have n0_ : Aside0 (wc.heap[gb171]? = some (.cells #[.int .i64 0, .int .i64 0] 33 (0, 0))) := ⟨by rw [← hq_]; exact (by (with_reducible repeat first | refine kn ?_ _ | refine kd ?_ | refine ka ?_ _); exact BK171.out)⟩; have n1_ : Aside0 (Below w.heap.size w wc) := ⟨by rw [← hq_]; exact (by repeat (first | (with_reducible first | exact HB.out | apply zb | apply zn | apply zd | refine zs ?_ GE171.out) | exact HB.out))⟩; clear BK171 HB hq_; have BK171 := n0_; have HB := n1_; clear n0_ n1_))) | ((with_reducible refine gate_dst (N := 6) rfl ?_); refine box_event ?hg (N := 6) ?hd (cs := #[.int .i64 0, .int .i64 0]) (t := 33) ?hr ?_; (case hd => rfl); (case hg => rfl); (case hr => go_simp <;> rfl); intro gb174 hg w13 hbox hb; have n0_ := Aside0.mk (blk_below (g := gb171) (o := .cells #[.int .i64 0, .int .i64 0] 33 (0, 0)) (by (with_reducible repeat first | refine kn ?_ _ | refine kd ?_ | refine ka ?_ _); exact BK171.out) hb); have n1_ := Aside0.mk (below_step (by repeat (first | (with_reducible first | exact HB.out | apply zb | apply zn | apply zd | refine zs ?_ GE171.out) | exact HB.out)) hb); have n2_ := Aside0.mk (hbox); have n3_ := Aside0.mk ((by rw [hg]; exact (below_size (by repeat (first | (with_reducible first | exact HB.out | apply zb | apply zn | apply zd | refine zs ?_ GE171.out) | exact HB.out))) : w.heap.size ≤ gb174)); have n4_ := Aside0.mk ((by rw [hg]; exact (below_size (by repeat (first | (with_reducible first | exact HB.out | apply zb | apply zn | apply zd | refine zs ?_ GE171.out) | exact HB.out))) : w.heap.size ≤ gb174)); have n5_ := Aside0.mk ((by rw [hg]; exact Nat.ne_of_lt (blk_lt (g := gb171) (o := .cells #[.int .i64 0, .int .i64 0] 33 (0, 0)) (by (with_reducible repeat first | refine kn ?_ _ | refine kd ?_ | refine ka ?_ _); exact BK171.out)) : gb171 ≠ gb174)); have n6_ := Aside0.mk ((by rw [hg]; exact Nat.ne_of_gt (blk_lt (g := gb171) (o := .cells #[.int .i64 0, .int .i64 0] 33 (0, 0)) (by (with_reducible repeat first | refine kn ?_ _ | refine kd ?_ | refine ka ?_ _); exact BK171.out)) : gb174 ≠ gb171)); clear BK171; clear HB; have BK171 := n0_; have HB := n1_; have BK174 := n2_; have GW174 := n3_; have GE174 := n4_; have NB171_174 := n5_; have NB174_171 := n6_; clear n0_ n1_ n2_ n3_ n4_ n5_ n6_; clear hb hbox hg; have hnb14 := NB174_171.out; have hnc14 := NB171_174.out; have hcz15_0 : w13.cell? ⟨gb174, 0, none⟩ = some (.int .i64 0) := (blk_cell BK174.out 0).trans rfl; have hcz15_1 : w13.cell? ⟨gb174, 1, none⟩ = some (.int .i64 0) := (blk_cell BK174.out 1).trans rfl; have hfz15_0 := blk_frozen BK174.out 0; have hfz15_1 := blk_frozen BK174.out 1) | (go_at_call 59; (with_reducible refine (heirloomref01_Is.calls 3 (wrap64 (t172)) true _ A11.out).mono ?_); rintro e w16 ⟨rfl, hb⟩; have n0_ := Aside0.mk (blk_below (g := gb171) (o := .cells #[.int .i64 0, .int .i64 0] 33 (0, 0)) (by (repeat first | (with_reducible first | refine kn ?_ _ | refine kd ?_ | refine ka ?_ _ | apply bp) | apply blk_far (hp := NB171_174.out)); exact BK171.out; all_goals rfl) hb); have n1_ := Aside0.mk (blk_below (g := gb174) (o := .cells #[.int .i64 3, .int .i64 (wrap64 (t172))] 33 (0, 0)) (by (with_reducible repeat first | refine kn ?_ _ | refine kd ?_ | refine ka ?_ _ | apply bp); exact BK174.out; all_goals rfl) hb); have n2_ := Aside0.mk (below_step (by repeat (first | (with_reducible first | exact HB.out | apply zb | apply zn | apply zd | refine zs ?_ GE171.out | refine zs ?_ GE174.out) | exact HB.out)) hb); clear BK171; clear BK174; clear HB; have BK171 := n0_; have BK174 := n1_; have HB := n2_; clear n0_ n1_ n2_; (try clear hb); have hcz17_0 : w16.cell? ⟨gb174, 0, none⟩ = some (.int .i64 3) := (blk_cell BK174.out 0).trans rfl; have hcz17_1 : w16.cell? ⟨gb174, 1, none⟩ = some (.int .i64 (wrap64 (t172))) := (blk_cell BK174.out 1).trans rfl; have hfz17_0 := blk_frozen BK174.out 0; have hfz17_1 := blk_frozen BK174.out 1; have hcz18_0 : w16.cell? ⟨gb171, 0, none⟩ = some (.int .i64 0) := (blk_cell BK171.out 0).trans rfl; have hcz18_1 : w16.cell? ⟨gb171, 1, none⟩ = some (.int .i64 0) := (blk_cell BK171.out 1).trans rfl; have hfz18_0 := blk_frozen BK171.out 0; have hfz18_1 := blk_frozen BK171.out 1))
       refine bodyPost_ret (results_ct rfl _ _ gb171 33 #[.int .i64 3, .int .i64 (wrap64 (t172))] (0, 0) _ rfl (by (with_reducible repeat first | refine kn ?_ _ | refine kd ?_ | refine ka ?_ _ | apply bp); exact BK171.out; all_goals rfl) Tryd.underlying33 rfl (by kernel_rfl)) rfl ?_
       exact ⟨by first | rfl | (simp [errW_none, errW_some] <;> rfl) | (simp [*, errW_none, errW_some] <;> rfl), by repeat (first | (with_reducible first | exact HB.out | apply zb | apply zn | apply zd | refine zs ?_ GE171.out | refine zs ?_ GE174.out) | exact HB.out)⟩
      ·replace c12 := Bool.eq_false_iff.mpr c12
       subst c12
       have H1 : (some (0, 0, 6)) = some (r1, r2, r3) := by rw [if_neg (show ¬ (false = true) by decide)] at H; exact H
       clear H
       have H := H1
       clear H1
       simp only [Option.some.injEq, Prod.mk.injEq] at H
       obtain ⟨rfl, rfl, rfl⟩ := H
       go_wp2_with (first | ((with_reducible refine gate_callee (f := 58) rfl ?_); refine goesL_ (some 26) rfl rfl Tryd.func58 (by kernel_rfl) rfl #[.string (a0.extract 2 a0.size)] rfl (by (try simp only [List.map_toArray, List.map_cons, List.map_nil]); first | done | rfl | (simp only [List.length_drop, List.length_take]; rfl)) ?_; (with_reducible refine (heirloomref01_hex.calls kj1 (a0.extract 2 a0.size) t172 true _ A9.out).mono ?_); rintro e w' ⟨rfl, ⟨nd, rfl⟩⟩; refine ⟨_, rfl, ?_⟩; (try (rw [drewN_self wc]; generalize hq_ : World.drewN wc _ = wc; have n0_ : Aside0 (wc.heap[gb171]? = some (.cells #[.int .i64 0, .int .i64 0] 33 (0, 0))) := ⟨by rw [← hq_]; exact (by (with_reducible repeat first | refine kn ?_ _ | refine kd ?_ | refine ka ?_ _); exact BK171.out)⟩; have n1_ : Aside0 (Below w.heap.size w wc) := ⟨by rw [← hq_]; exact (by repeat (first | (with_reducible first | exact HB.out | apply zb | apply zn | apply zd | refine zs ?_ GE171.out) | exact HB.out))⟩; clear BK171 HB hq_; have BK171 := n0_; have HB := n1_; clear n0_ n1_))) | ((with_reducible refine gate_dst (N := 6) rfl ?_); refine box_event ?hg (N := 6) ?hd (cs := #[.int .i64 0, .int .i64 0]) (t := 33) ?hr ?_; (case hd => rfl); (case hg => rfl); (case hr => go_simp <;> rfl); intro gb174 hg w19 hbox hb; have n0_ := Aside0.mk (blk_below (g := gb171) (o := .cells #[.int .i64 0, .int .i64 0] 33 (0, 0)) (by (with_reducible repeat first | refine kn ?_ _ | refine kd ?_ | refine ka ?_ _); exact BK171.out) hb); have n1_ := Aside0.mk (below_step (by repeat (first | (with_reducible first | exact HB.out | apply zb | apply zn | apply zd | refine zs ?_ GE171.out) | exact HB.out)) hb); have n2_ := Aside0.mk (hbox); have n3_ := Aside0.mk ((by rw [hg]; exact (below_size (by repeat (first | (with_reducible first | exact HB.out | apply zb | apply zn | apply zd | refine zs ?_ GE171.out) | exact HB.out))) : w.heap.size ≤ gb174)); have n4_ := Aside0.mk ((by rw [hg]; exact (below_size (by repeat (first | (with_reducible first | exact HB.out | apply zb | apply zn | apply zd | refine zs ?_ GE171.out) | exact HB.out))) : w.heap.size ≤ gb174)); have n5_ := Aside0.mk ((by rw [hg]; exact Nat.ne_of_lt (blk_lt (g := gb171) (o := .cells #[.int .i64 0, .int .i64 0] 33 (0, 0)) (by (with_reducible repeat first | refine kn ?_ _ | refine kd ?_ | refine ka ?_ _); exact BK171.out)) : gb171 ≠ gb174)); have n6_ := Aside0.mk ((by rw [hg]; exact Nat.ne_of_gt (blk_lt (g := gb171) (o := .cells #[.int .i64 0, .int .i64 0] 33 (0, 0)) (by (with_reducible repeat first | refine kn ?_ _ | refine kd ?_ | refine ka ?_ _); exact BK171.out)) : gb174 ≠ gb171)); clear BK171; clear HB; have BK171 := n0_; have HB := n1_; have BK174 := n2_; have GW174 := n3_; have GE174 := n4_; have NB171_174 := n5_; have NB174_171 := n6_; clear n0_ n1_ n2_ n3_ n4_ n5_ n6_; clear hb hbox hg; have hnb20 := NB174_171.out; have hnc20 := NB171_174.out; have hcz21_0 : w19.cell? ⟨gb174, 0, none⟩ = some (.int .i64 0) := (blk_cell BK174.out 0).trans rfl; have hcz21_1 : w19.cell? ⟨gb174, 1, none⟩ = some (.int .i64 0) := (blk_cell BK174.out 1).trans rfl; have hfz21_0 := blk_frozen BK174.out 0; have hfz21_1 := blk_frozen BK174.out 1) | (go_at_call 59; (with_reducible refine (heirloomref01_Is.calls 3 (wrap64 (t172)) false _ A11.out).mono ?_); rintro e w22 ⟨rfl, hb⟩; have n0_ := Aside0.mk (blk_below (g := gb171) (o := .cells #[.int .i64 0, .int .i64 0] 33 (0, 0)) (by (repeat first | (with_reducible first | refine kn ?_ _ | refine kd ?_ | refine ka ?_ _ | apply bp) | apply blk_far (hp := NB171_174.out)); exact BK171.out; all_goals rfl) hb); have n1_ := Aside0.mk (blk_below (g := gb174) (o := .cells #[.int .i64 3, .int .i64 (wrap64 (t172))] 33 (0, 0)) (by (with_reducible repeat first | refine kn ?_ _ | refine kd ?_ | refine ka ?_ _ | apply bp); exact BK174.out; all_goals rfl) hb); have n2_ := Aside0.mk (below_step (by repeat (first | (with_reducible first | exact HB.out | apply zb | apply zn | apply zd | refine zs ?_ GE171.out | refine zs ?_ GE174.out) | exact HB.out)) hb); clear BK171; clear BK174; clear HB; have BK171 := n0_; have BK174 := n1_; have HB := n2_; clear n0_ n1_ n2_; (try clear hb); have hcz23_0 : w22.cell? ⟨gb171, 0, none⟩ = some (.int .i64 0) := (blk_cell BK171.out 0).trans rfl; have hcz23_1 : w22.cell? ⟨gb171, 1, none⟩ = some (.int .i64 0) := (blk_cell BK171.out 1).trans rfl; have hfz23_0 := blk_frozen BK171.out 0; have hfz23_1 := blk_frozen BK171.out 1))
       refine bodyPost_ret (results_ct rfl _ _ gb171 33 #[.int .i64 0, .int .i64 0] (0, 0) _ rfl (by (with_reducible repeat first | refine kn ?_ _ | refine kd ?_ | refine ka ?_ _ | apply bp); exact BK171.out; all_goals rfl) Tryd.underlying33 rfl (by kernel_rfl)) rfl ?_
       exact ⟨by first | rfl | (simp [errW_none, errW_some] <;> rfl) | (simp [*, errW_none, errW_some] <;> rfl), by repeat (first | (with_reducible first | exact HB.out | apply zb | apply zn | apply zd | refine zs ?_ GE171.out | refine zs ?_ GE174.out) | exact HB.out)⟩
     ·replace c10 := Bool.eq_false_iff.mpr c10
      subst c10
      have H1 : (some (0, 0, 6)) = some (r1, r2, r3) := by rw [if_neg (show ¬ (false = true) by decide)] at H; exact H
      clear H
      have H := H1
      clear H1
      simp only [Option.some.injEq, Prod.mk.injEq] at H
      obtain ⟨rfl, rfl, rfl⟩ := H
      go_wp2_with (first | ((with_reducible refine gate_callee (f := 58) rfl ?_); refine goesL_ (some 26) rfl rfl Tryd.func58 (by kernel_rfl) rfl #[.string (a0.extract 2 a0.size)] rfl (by (try simp only [List.map_toArray, List.map_cons, List.map_nil]); first | done | rfl | (simp only [List.length_drop, List.length_take]; rfl)) ?_; (with_reducible refine (heirloomref01_hex.calls kj1 (a0.extract 2 a0.size) t172 false _ A9.out).mono ?_); rintro e w' ⟨rfl, ⟨nd, rfl⟩⟩; refine ⟨_, rfl, ?_⟩; (try (rw [drewN_self wc]; generalize hq_ : World.drewN wc _ = wc; have n0_ : Aside0 (wc.heap[gb171]? = some (.cells #[.int .i64 0, .int .i64 0] 33 (0, 0))) := ⟨by rw [← hq_]; exact (by (with_reducible repeat first | refine kn ?_ _ | refine kd ?_ | refine ka ?_ _); exact BK171.out)⟩; have n1_ : Aside0 (Below w.heap.size w wc) := ⟨by rw [← hq_]; exact (by repeat (first | (with_reducible first | exact HB.out | apply zb | apply zn | apply zd | refine zs ?_ GE171.out) | exact HB.out))⟩; clear BK171 HB hq_; have BK171 := n0_; have HB := n1_; clear n0_ n1_))) | ((with_reducible refine gate_dst (N := 6) rfl ?_); refine box_event ?hg (N := 6) ?hd (cs := #[.int .i64 0, .int .i64 0]) (t := 33) ?hr ?_; (case hd => rfl); (case hg => rfl); (case hr => go_simp <;> rfl); intro gb174 hg w24 hbox hb; have n0_ := Aside0.mk (blk_below (g := gb171) (o := .cells #[.int .i64 0, .int .i64 0] 33 (0, 0)) (by (with_reducible repeat first | refine kn ?_ _ | refine kd ?_ | refine ka ?_ _); exact BK171.out) hb); have n1_ := Aside0.mk (below_step (by repeat (first | (with_reducible first | exact HB.out | apply zb | apply zn | apply zd | refine zs ?_ GE171.out) | exact HB.out)) hb); have n2_ := Aside0.mk (hbox); have n3_ := Aside0.mk ((by rw [hg]; exact (below_size (by repeat (first | (with_reducible first | exact HB.out | apply zb | apply zn | apply zd | refine zs ?_ GE171.out) | exact HB.out))) : w.heap.size ≤ gb174)); have n4_ := Aside0.mk ((by rw [hg]; exact (below_size (by repeat (first | (with_reducible first | exact HB.out | apply zb | apply zn | apply zd | refine zs ?_ GE171.out) | exact HB.out))) : w.heap.size ≤ gb174)); have n5_ := Aside0.mk ((by rw [hg]; exact Nat.ne_of_lt (blk_lt (g := gb171) (o := .cells #[.int .i64 0, .int .i64 0] 33 (0, 0)) (by (with_reducible repeat first | refine kn ?_ _ | refine kd ?_ | refine ka ?_ _); exact BK171.out)) : gb171 ≠ gb174)); have n6_ := Aside0.mk ((by rw [hg]; exact Nat.ne_of_gt (blk_lt (g := gb171) (o := .cells #[.int .i64 0, .int .i64 0] 33 (0, 0)) (by (with_reducible repeat first | refine kn ?_ _ | refine kd ?_ | refine ka ?_ _); exact BK171.out)) : gb174 ≠ gb171)); clear BK171; clear HB; have BK171 := n0_; have HB := n1_; have BK174 := n2_; have GW174 := n3_; have GE174 := n4_; have NB171_174 := n5_; have NB174_171 := n6_; clear n0_ n1_ n2_ n3_ n4_ n5_ n6_; clear hb hbox hg; have hnb25 := NB174_171.out; have hnc25 := NB171_174.out; have hcz26_0 : w24.cell? ⟨gb174, 0, none⟩ = some (.int .i64 0) := (blk_cell BK174.out 0).trans rfl; have hcz26_1 : w24.cell? ⟨gb174, 1, none⟩ = some (.int .i64 0) := (blk_cell BK174.out 1).trans rfl; have hfz26_0 := blk_frozen BK174.out 0; have hfz26_1 := blk_frozen BK174.out 1; have hcz27_0 : w24.cell? ⟨gb171, 0, none⟩ = some (.int .i64 0) := (blk_cell BK171.out 0).trans rfl; have hcz27_1 : w24.cell? ⟨gb171, 1, none⟩ = some (.int .i64 0) := (blk_cell BK171.out 1).trans rfl; have hfz27_0 := blk_frozen BK171.out 0; have hfz27_1 := blk_frozen BK171.out 1))
      refine bodyPost_ret (results_ct rfl _ _ gb171 33 #[.int .i64 0, .int .i64 0] (0, 0) _ rfl (by (repeat first | (with_reducible first | refine kn ?_ _ | refine kd ?_ | refine ka ?_ _ | apply bp) | apply blk_far (hp := NB171_174.out)); exact BK171.out; all_goals rfl) Tryd.underlying33 rfl (by kernel_rfl)) rfl ?_
      exact ⟨by first | rfl | (simp [errW_none, errW_some] <;> rfl) | (simp [*, errW_none, errW_some] <;> rfl), by repeat (first | (with_reducible first | exact HB.out | apply zb | apply zn | apply zd | refine zs ?_ GE171.out | refine zs ?_ GE174.out) | exact HB.out)⟩
    ·rw [if_neg c8] at H
     exact absurd H (by simp)
   ·replace c7 := Bool.eq_false_iff.mpr c7
    subst c7
    have H1 : (if (a0.size : Int) > 0 then (if 0 < (a0.size : Int) then (heirloomref01_Read.j1 kj1 a0 ((bt a0 0) == 45)) else (none)) else (heirloomref01_Read.j1 kj1 a0 false)) = some (r1, r2, r3) := by rw [if_neg (show ¬ (false = true) by decide)] at H; exact H
    clear H
    have H := H1
    clear H1
    have HC28 := Aside0.mk H
    clear H
    go_upto_region 7 with (fail)
    go_cut [7] (fun v7 wc => ∃ (kq : Nat) (x7_27 : Bool), v7 = .bool x7_27 ∧ Aside0 (heirloomref01_Read.j1 kq a0 x7_27 = some (r1, r2, r3)) ∧ Aside0 (kq ≤ kj1) ∧ Aside0 (wc.heap[gb171]? = some (.cells #[.int .i64 0, .int .i64 0] 33 (0, 0))) ∧ Aside0 (Below w.heap.size w wc))
    case first =>
     have H := HC28.out
     clear HC28
     by_cases c29 : (a0.size : Int) > 0
     ·rw [if_pos c29] at H
      have c29b0 : decide (0 < (a0.size : Int)) = true := decide_eq_true c29
      have c29b1 : decide (0 < a0.size) = true := decide_eq_true (by omega)
      clear c29
      (first | rw [c29b0] | (simp only [i64_w, i32_w]; rw [c29b0]) | skip)
      by_cases c30 : 0 < (a0.size : Int)
      ·rw [if_pos c30] at H
       have c30b0 : decide (0 < (a0.size : Int)) = true := decide_eq_true c30
       have c30b1 : decide (0 < a0.size) = true := decide_eq_true (by omega)
       clear c30
       have H' := Aside0.mk H
       clear H
       have p31 : 0 ≤ (0 : Int) := (by omega)
       have q31 : 0 < a0.size := (by have : (0 : Int) < (a0.size : Int) := of_decide_eq_true (by first | (with_reducible assumption) | assumption); omega)
       have hx31 : ∀ h : 0 < a0.size, ((a0[0]'h).toNat : Int) = bt a0 0 := bt_at a0 0
       clear p31
       have qi31 : (0 < (a0.size : Int)) = True := eq_true (of_decide_eq_true (by first | (with_reducible assumption) | assumption))
       replace q31 := eq_true q31
       go_wp2
       go_meet
       case rel => exact ⟨_, (((bt a0 0) == 45)), (by first | rfl | (simp; done) | (simp [*]; done)), H', ⟨by have := HJ1.out; first | omega | exact Nat.le_refl _⟩, ⟨by (with_reducible repeat first | refine kn ?_ _ | refine kd ?_ | refine ka ?_ _); exact BK171.out⟩, ⟨by repeat (first | (with_reducible first | exact HB.out | apply zb | apply zn | apply zd | refine zs ?_ GE171.out) | exact HB.out)⟩⟩
      ·rw [if_neg c30] at H
       exact absurd H (by simp)
     ·rw [if_neg c29] at H
      have c29b0 : decide (0 < (a0.size : Int)) = false := decide_eq_false c29
      have c29b1 : decide (0 < a0.size) = false := decide_eq_false (by omega)
      clear c29
      (first | rw [c29b0] | (simp only [i64_w, i32_w]; rw [c29b0]) | skip)
      have H' := Aside0.mk H
      clear H
      go_wp2
      go_meet
      case rel => exact ⟨_, (false), (by first | rfl | (simp; done) | (simp [*]; done)), H', ⟨by have := HJ1.out; first | omega | exact Nat.le_refl _⟩, ⟨by (with_reducible repeat first | refine kn ?_ _ | refine kd ?_ | refine ka ?_ _); exact BK171.out⟩, ⟨by repeat (first | (with_reducible first | exact HB.out | apply zb | apply zn | apply zd | refine zs ?_ GE171.out) | exact HB.out)⟩⟩
    case rest =>
     clear HC28
     try clear c1
     try clear c2
     try clear p2
     try clear c3
     try clear p3
     try clear q3
     try clear hx3
     try clear qi3
     try clear c4
     try clear c4b0
     try clear c4b1
     try clear c5
     try clear c5b0
     try clear c5b1
     try clear c6
     try clear c6b0
     try clear c6b1
     try clear p6
     try clear c7
     try clear c8
     try clear c8b0
     try clear c8b1
     try clear c10
     try clear c12
     try clear c14
     try clear c20
     try clear c25
     try clear c29
     try clear c29b0
     try clear c29b1
     try clear c30
     try clear c30b0
     try clear c30b1
     try clear p31
     try clear q31
     try clear hx31
     try clear qi31
     try clear hcz15_0
     try clear hcz15_1
     try clear hcz17_0
     try clear hcz17_1
     try clear hcz18_0
     try clear hcz18_1
     try clear hcz21_0
     try clear hcz21_1
     try clear hcz23_0
     try clear hcz23_1
     try clear hcz26_0
     try clear hcz26_1
     try clear hcz27_0
     try clear hcz27_1
     try clear hfz15_0
     try clear hfz15_1
     try clear hfz17_0
     try clear hfz17_1
     try clear hfz18_0
     try clear hfz18_1
     try clear hfz21_0
     try clear hfz21_1
     try clear hfz23_0
     try clear hfz23_1
     try clear hfz26_0
     try clear hfz26_1
     try clear hfz27_0
     try clear hfz27_1
     try clear p2
     try clear p31
     try clear q31
     obtain ⟨kq, x7_27, rfl, HA, HJ27, BK171, HB⟩ := hcut
     cases kq with
     | zero => exact absurd HA.out (by simp [heirloomref01_Read.j1])
     | succ kj27 =>
      have H := HA.out
      clear HA
      simp only [heirloomref01_Read.j1] at H
      have HC32 := Aside0.mk H
      clear H
      go_upto_if 50 with (fail)
      go_cut [8] (fun v8 wc => ∃ (kq : Nat) (x8_31 : ByteArray), v8 = .string x8_31 ∧ Aside0 (heirloomref01_Read.j2 kq x7_27 x8_31 = some (r1, r2, r3)) ∧ Aside0 (kq ≤ kj27) ∧ Aside0 (wc.heap[gb171]? = some (.cells #[.int .i64 0, .int .i64 0] 33 (0, 0))) ∧ Aside0 (Below w.heap.size w wc))
      case first =>
       have H := HC32.out
       clear HC32
       by_cases c33 : x7_27 = true
       ·subst c33
        have H1 : (if 1 ≤ (a0.size : Int) then (heirloomref01_Read.j2 kj27 true (a0.extract 1 a0.size)) else (none)) = some (r1, r2, r3) := by rw [if_pos rfl] at H; exact H
        clear H
        have H := H1
        clear H1
        by_cases c34 : 1 ≤ (a0.size : Int)
        ·rw [if_pos c34] at H
         have c34b0 := eq_true c34
         have c34b1 : decide (1 ≤ (a0.size : Int)) = true := decide_eq_true c34
         clear c34
         have H' := Aside0.mk H
         clear H
         go_wp2
         go_meet
         case rel => exact ⟨_, (a0.extract 1 a0.size), (by first | rfl | (simp; done) | (simp [*]; done)), H', ⟨by have := HJ1.out; have := HJ27.out; first | omega | exact Nat.le_refl _⟩, ⟨by (with_reducible repeat first | refine kn ?_ _ | refine kd ?_ | refine ka ?_ _); exact BK171.out⟩, ⟨by repeat (first | (with_reducible first | exact HB.out | apply zb | apply zn | apply zd | refine zs ?_ GE171.out) | exact HB.out)⟩⟩
        ·rw [if_neg c34] at H
         exact absurd H (by simp)
       ·replace c33 := Bool.eq_false_iff.mpr c33
        subst c33
        have H1 : (heirloomref01_Read.j2 kj27 false a0) = some (r1, r2, r3) := by rw [if_neg (show ¬ (false = true) by decide)] at H; exact H
        clear H
        have H := H1
        clear H1
        have H' := Aside0.mk H
        clear H
        go_wp2
        go_meet
        case rel => exact ⟨_, (a0), (by first | rfl | (simp; done) | (simp [*]; done)), H', ⟨by have := HJ1.out; have := HJ27.out; first | omega | exact Nat.le_refl _⟩, ⟨by (with_reducible repeat first | refine kn ?_ _ | refine kd ?_ | refine ka ?_ _); exact BK171.out⟩, ⟨by repeat (first | (with_reducible first | exact HB.out | apply zb | apply zn | apply zd | refine zs ?_ GE171.out) | exact HB.out)⟩⟩
      case rest =>
       clear HC32
       try clear c1
       try clear c2
       try clear p2
       try clear c3
       try clear p3
       try clear q3
       try clear hx3
       try clear qi3
       try clear c4
       try clear c4b0
       try clear c4b1
       try clear c5
       try clear c5b0
       try clear c5b1
       try clear c6
       try clear c6b0
       try clear c6b1
       try clear p6
       try clear c7
       try clear c8
       try clear c8b0
       try clear c8b1
       try clear c10
       try clear c12
       try clear c14
       try clear c20
       try clear c25
       try clear c29
       try clear c29b0
       try clear c29b1
       try clear c30
       try clear c30b0
       try clear c30b1
       try clear p31
       try clear q31
       try clear hx31
       try clear qi31
       try clear c33
       try clear c34
       try clear c34b0
       try clear c34b1
       try clear hcz15_0
       try clear hcz15_1
       try clear hcz17_0
       try clear hcz17_1
       try clear hcz18_0
       try clear hcz18_1
       try clear hcz21_0
       try clear hcz21_1
       try clear hcz23_0
       try clear hcz23_1
       try clear hcz26_0
       try clear hcz26_1
       try clear hcz27_0
       try clear hcz27_1
       try clear hfz15_0
       try clear hfz15_1
       try clear hfz17_0
       try clear hfz17_1
       try clear hfz18_0
       try clear hfz18_1
       try clear hfz21_0
       try clear hfz21_1
       try clear hfz23_0
       try clear hfz23_1
       try clear hfz26_0
       try clear hfz26_1
       try clear hfz27_0
       try clear hfz27_1
       try clear p2
       try clear p3
       try clear p31
       try clear p6
       try clear q3
       try clear q31
       obtain ⟨kq, x8_31, rfl, HA, HJ31, BK171, HB⟩ := hcut
       cases kq with
       | zero => exact absurd HA.out (by simp [heirloomref01_Read.j2])
       | succ kj31 =>
        have H := HA.out
        clear HA
        simp only [heirloomref01_Read.j2] at H
        replace H := Option.bind_eq_some_iff.mp H
        obtain ⟨t176, A350, H⟩ := H
        replace H : (if t176 = true then ((heirloomref01_whole.f kj31 x8_31 x7_27).bind fun bt177 => (some (bt177.1, bt177.2.1, bt177.2.2))) else ((heirloomref01_point.f kj31 x8_31).bind fun t180 => (if t180 < 0 then (heirloomref01_Read.j3 kj31 x7_27 x8_31 t180 true) else (if 0 ≤ t180 then (if t180 ≤ (x8_31.size : Int) then ((heirloomref01_all.f kj31 (x8_31.extract 0 (t180 : Int).toNat)).bind fun t181 => (if t181 = true then (if 0 ≤ (wrap64 (t180 + 1)) then (if (wrap64 (t180 + 1)) ≤ (x8_31.size : Int) then ((heirloomref01_all.f kj31 (x8_31.extract ((wrap64 (t180 + 1)) : Int).toNat x8_31.size)).bind fun t182 => (heirloomref01_Read.j3 kj31 x7_27 x8_31 t180 (!t182))) else (none)) else (none)) else (heirloomref01_Read.j3 kj31 x7_27 x8_31 t180 true))) else (none)) else (none))))) = some (r1, r2, r3) := H
        have A35 := Aside0.mk A350
        clear A350
        by_cases c36 : t176 = true
        ·subst c36
         have H1 : ((heirloomref01_whole.f kj31 x8_31 x7_27).bind fun bt177 => (some (bt177.1, bt177.2.1, bt177.2.2))) = some (r1, r2, r3) := by rw [if_pos rfl] at H; exact H
         clear H
         have H := H1
         clear H1
         replace H := Option.bind_eq_some_iff.mp H
         obtain ⟨⟨t177, t178, t179⟩, A370, H⟩ := H
         replace H : (some (t177, t178, t179)) = some (r1, r2, r3) := H
         have A37 := Aside0.mk A370
         clear A370
         simp only [Option.some.injEq, Prod.mk.injEq] at H
         obtain ⟨rfl, rfl, rfl⟩ := H
         go_wp2_with (first | ((with_reducible refine gate_callee (f := 60) rfl ?_); refine goesL_ (some 54) rfl rfl Tryd.func60 (by kernel_rfl) rfl #[.string x8_31] rfl (by (try simp only [List.map_toArray, List.map_cons, List.map_nil]); first | done | rfl | (simp only [List.length_drop, List.length_take]; rfl)) ?_; (with_reducible refine (heirloomref01_all.calls kj31 x8_31 true _ A35.out).mono ?_); rintro e w' ⟨rfl, ⟨nd, rfl⟩⟩; refine ⟨_, rfl, ?_⟩; (try (rw [drewN_self wc]; generalize hq_ : World.drewN wc _ = wc; have n0_ : Aside0 (wc.heap[gb171]? = some (.cells #[.int .i64 0, .int .i64 0] 33 (0, 0))) := ⟨by rw [← hq_]; exact (by (with_reducible repeat first | refine kn ?_ _ | refine kd ?_ | refine ka ?_ _); exact BK171.out)⟩; have n1_ : Aside0 (Below w.heap.size w wc) := ⟨by rw [← hq_]; exact (by repeat (first | (with_reducible first | exact HB.out | apply zb | apply zn | apply zd | refine zs ?_ GE171.out) | exact HB.out))⟩; clear BK171 HB hq_; have BK171 := n0_; have HB := n1_; clear n0_ n1_))) | ((with_reducible refine gate_callee (f := 61) rfl ?_); refine goesL_ (some 57) rfl rfl Tryd.func61 (by kernel_rfl) rfl #[.string x8_31, .bool x7_27] rfl (by (try simp only [List.map_toArray, List.map_cons, List.map_nil]); first | done | rfl | (simp only [List.length_drop, List.length_take]; rfl)) ?_; (with_reducible refine (heirloomref01_whole.calls kj31 x8_31 x7_27 t177 t178 t179 _ A37.out).mono ?_); rintro e w38 ⟨rfl, hb⟩; refine ⟨_, rfl, ?_⟩; have n0_ := Aside0.mk (blk_below (g := gb171) (o := .cells #[.int .i64 0, .int .i64 0] 33 (0, 0)) (by (with_reducible repeat first | refine kn ?_ _ | refine kd ?_ | refine ka ?_ _); exact BK171.out) hb); have n1_ := Aside0.mk (below_step (by repeat (first | (with_reducible first | exact HB.out | apply zb | apply zn | apply zd | refine zs ?_ GE171.out) | exact HB.out)) hb); clear BK171; clear HB; have BK171 := n0_; have HB := n1_; clear n0_ n1_; (try clear hb); have hcz39_0 : w38.cell? ⟨gb171, 0, none⟩ = some (.int .i64 0) := (blk_cell BK171.out 0).trans rfl; have hcz39_1 : w38.cell? ⟨gb171, 1, none⟩ = some (.int .i64 0) := (blk_cell BK171.out 1).trans rfl; have hfz39_0 := blk_frozen BK171.out 0; have hfz39_1 := blk_frozen BK171.out 1))
         refine bodyPost_ret (results_ct rfl _ _ gb171 33 #[.int .i64 t177, .int .i64 t178] (0, 0) _ rfl (by (with_reducible repeat first | refine kn ?_ _ | refine kd ?_ | refine ka ?_ _ | apply bp); exact BK171.out; all_goals rfl) Tryd.underlying33 rfl (by kernel_rfl)) rfl ?_
         exact ⟨by first | rfl | (simp [errW_none, errW_some] <;> rfl) | (simp [*, errW_none, errW_some] <;> rfl), by repeat (first | (with_reducible first | exact HB.out | apply zb | apply zn | apply zd | refine zs ?_ GE171.out) | exact HB.out)⟩
        ·replace c36 := Bool.eq_false_iff.mpr c36
         subst c36
         have H1 : ((heirloomref01_point.f kj31 x8_31).bind fun t180 => (if t180 < 0 then (heirloomref01_Read.j3 kj31 x7_27 x8_31 t180 true) else (if 0 ≤ t180 then (if t180 ≤ (x8_31.size : Int) then ((heirloomref01_all.f kj31 (x8_31.extract 0 (t180 : Int).toNat)).bind fun t181 => (if t181 = true then (if 0 ≤ (wrap64 (t180 + 1)) then (if (wrap64 (t180 + 1)) ≤ (x8_31.size : Int) then ((heirloomref01_all.f kj31 (x8_31.extract ((wrap64 (t180 + 1)) : Int).toNat x8_31.size)).bind fun t182 => (heirloomref01_Read.j3 kj31 x7_27 x8_31 t180 (!t182))) else (none)) else (none)) else (heirloomref01_Read.j3 kj31 x7_27 x8_31 t180 true))) else (none)) else (none)))) = some (r1, r2, r3) := by rw [if_neg (show ¬ (false = true) by decide)] at H; exact H
         clear H
         have H := H1
         clear H1
         replace H := Option.bind_eq_some_iff.mp H
         obtain ⟨t180, A400, H⟩ := H
         replace H : (if t180 < 0 then (heirloomref01_Read.j3 kj31 x7_27 x8_31 t180 true) else (if 0 ≤ t180 then (if t180 ≤ (x8_31.size : Int) then ((heirloomref01_all.f kj31 (x8_31.extract 0 (t180 : Int).toNat)).bind fun t181 => (if t181 = true then (if 0 ≤ (wrap64 (t180 + 1)) then (if (wrap64 (t180 + 1)) ≤ (x8_31.size : Int) then ((heirloomref01_all.f kj31 (x8_31.extract ((wrap64 (t180 + 1)) : Int).toNat x8_31.size)).bind fun t182 => (heirloomref01_Read.j3 kj31 x7_27 x8_31 t180 (!t182))) else (none)) else (none)) else (heirloomref01_Read.j3 kj31 x7_27 x8_31 t180 true))) else (none)) else (none))) = some (r1, r2, r3) := H
         have A40 := Aside0.mk A400
         clear A400
         have HC41 := Aside0.mk H
         clear H
         go_upto_region 14 with (first | ((with_reducible refine gate_callee (f := 60) rfl ?_); refine goesL_ (some 54) rfl rfl Tryd.func60 (by kernel_rfl) rfl #[.string x8_31] rfl (by (try simp only [List.map_toArray, List.map_cons, List.map_nil]); first | done | rfl | (simp only [List.length_drop, List.length_take]; rfl)) ?_; (with_reducible refine (heirloomref01_all.calls kj31 x8_31 false _ A35.out).mono ?_); rintro e w' ⟨rfl, ⟨nd, rfl⟩⟩; refine ⟨_, rfl, ?_⟩) | ((with_reducible refine gate_callee (f := 62) rfl ?_); refine goesL_ (some 61) rfl rfl Tryd.func62 (by kernel_rfl) rfl #[.string x8_31] rfl (by (try simp only [List.map_toArray, List.map_cons, List.map_nil]); first | done | rfl | (simp only [List.length_drop, List.length_take]; rfl)) ?_; (with_reducible refine (heirloomref01_point.calls kj31 x8_31 t180 _ A40.out).mono ?_); rintro e w' ⟨rfl, ⟨nd, rfl⟩⟩; refine ⟨_, rfl, ?_⟩))
         (try simp only [Act.put, List.setIfInBounds_toArray, List.set_cons_zero, List.set_cons_succ])
         go_cut [78] (fun v78 wc => ∃ (kq : Nat) (x78_40 : Bool), v78 = .bool x78_40 ∧ Aside0 (heirloomref01_Read.j3 kq x7_27 x8_31 t180 x78_40 = some (r1, r2, r3)) ∧ Aside0 (kq ≤ kj31) ∧ Aside0 (wc.heap[gb171]? = some (.cells #[.int .i64 0, .int .i64 0] 33 (0, 0))) ∧ Aside0 (Below w.heap.size w wc))
         case first =>
          have H := HC41.out
          clear HC41
          by_cases c42 : t180 < 0
          ·rw [if_pos c42] at H
           have c42b0 : decide (t180 < 0) = true := decide_eq_true c42
           clear c42
           (first | rw [c42b0] | (simp only [i64_w, i32_w]; rw [c42b0]) | skip)
           have H' := Aside0.mk H
           clear H
           go_wp2
           go_meet
           case rel => exact ⟨_, (true), (by first | rfl | (simp; done) | (simp [*]; done)), H', ⟨by have := HJ1.out; have := HJ27.out; have := HJ31.out; first | omega | exact Nat.le_refl _⟩, ⟨by (with_reducible repeat first | refine kn ?_ _ | refine kd ?_ | refine ka ?_ _); exact BK171.out⟩, ⟨by repeat (first | (with_reducible first | exact HB.out | apply zb | apply zn | apply zd | refine zs ?_ GE171.out) | exact HB.out)⟩⟩
          ·rw [if_neg c42] at H
           have c42b0 : decide (t180 < 0) = false := decide_eq_false c42
           clear c42
           (first | rw [c42b0] | (simp only [i64_w, i32_w]; rw [c42b0]) | skip)
           by_cases c43 : 0 ≤ t180
           ·rw [if_pos c43] at H
            have c43b0 := eq_true c43
            have c43b1 : decide (0 ≤ t180) = true := decide_eq_true c43
            clear c43
            by_cases c44 : t180 ≤ (x8_31.size : Int)
            ·rw [if_pos c44] at H
             have c44b0 := eq_true c44
             have c44b1 : decide (t180 ≤ (x8_31.size : Int)) = true := decide_eq_true c44
             clear c44
             replace H := Option.bind_eq_some_iff.mp H
             obtain ⟨t181, A450, H⟩ := H
             replace H : (if t181 = true then (if 0 ≤ (wrap64 (t180 + 1)) then (if (wrap64 (t180 + 1)) ≤ (x8_31.size : Int) then ((heirloomref01_all.f kj31 (x8_31.extract ((wrap64 (t180 + 1)) : Int).toNat x8_31.size)).bind fun t182 => (heirloomref01_Read.j3 kj31 x7_27 x8_31 t180 (!t182))) else (none)) else (none)) else (heirloomref01_Read.j3 kj31 x7_27 x8_31 t180 true)) = some (r1, r2, r3) := H
             have A45 := Aside0.mk A450
             clear A450
             by_cases c46 : t181 = true
             ·subst c46
              have H1 : (if 0 ≤ (wrap64 (t180 + 1)) then (if (wrap64 (t180 + 1)) ≤ (x8_31.size : Int) then ((heirloomref01_all.f kj31 (x8_31.extract ((wrap64 (t180 + 1)) : Int).toNat x8_31.size)).bind fun t182 => (heirloomref01_Read.j3 kj31 x7_27 x8_31 t180 (!t182))) else (none)) else (none)) = some (r1, r2, r3) := by rw [if_pos rfl] at H; exact H
              clear H
              have H := H1
              clear H1
              obtain ⟨ji47, hji47⟩ : ∃ j_ : Int, (wrap64 (t180 + 1)) = j_ := ⟨_, rfl⟩
              replace H : (if 0 ≤ (ji47) then (if (ji47) ≤ (x8_31.size : Int) then ((heirloomref01_all.f kj31 (x8_31.extract ((ji47) : Int).toNat x8_31.size)).bind fun t182 => (heirloomref01_Read.j3 kj31 x7_27 x8_31 t180 (!t182))) else (none)) else (none)) = some (r1, r2, r3) := by first | (rw [hji47] at H; exact H) | (simp only [hji47] at H ⊢; exact H)
              (try rw [hji47] at A45)
              have hji47w : (IntKind.i64.wrap (t180 + 1)) = ji47 := (i64_w _).trans hji47
              by_cases c48 : 0 ≤ (ji47)
              ·rw [if_pos c48] at H
               have c48b0 := eq_true c48
               have c48b1 : decide (0 ≤ (ji47)) = true := decide_eq_true c48
               clear c48
               by_cases c49 : (ji47) ≤ (x8_31.size : Int)
               ·rw [if_pos c49] at H
                have c49b0 := eq_true c49
                have c49b1 : decide ((ji47) ≤ (x8_31.size : Int)) = true := decide_eq_true c49
                clear c49
                replace H := Option.bind_eq_some_iff.mp H
                obtain ⟨t182, A500, H⟩ := H
                replace H : (heirloomref01_Read.j3 kj31 x7_27 x8_31 t180 (!t182)) = some (r1, r2, r3) := H
                have A50 := Aside0.mk A500
                clear A500
                have H' := Aside0.mk H
                clear H
                go_wp2_with (first | (go_at_call 60; (with_reducible refine (heirloomref01_all.calls kj31 (x8_31.extract 0 (t180 : Int).toNat) true _ A45.out).mono ?_); rintro e w' ⟨rfl, ⟨nd, rfl⟩⟩) | (go_at_call 60; (with_reducible refine (heirloomref01_all.calls kj31 (x8_31.extract ((ji47) : Int).toNat x8_31.size) t182 _ A50.out).mono ?_); rintro e w' ⟨rfl, ⟨nd, rfl⟩⟩))
                go_meet
                case rel => exact ⟨_, (!t182), (by first | rfl | (simp; done) | (simp [*]; done)), H', ⟨by have := HJ1.out; have := HJ27.out; have := HJ31.out; first | omega | exact Nat.le_refl _⟩, ⟨by (with_reducible repeat first | refine kn ?_ _ | refine kd ?_ | refine ka ?_ _); exact BK171.out⟩, ⟨by repeat (first | (with_reducible first | exact HB.out | apply zb | apply zn | apply zd | refine zs ?_ GE171.out) | exact HB.out)⟩⟩
               ·rw [if_neg c49] at H
                exact absurd H (by simp)
              ·rw [if_neg c48] at H
               exact absurd H (by simp)
             ·replace c46 := Bool.eq_false_iff.mpr c46
              subst c46
              have H1 : (heirloomref01_Read.j3 kj31 x7_27 x8_31 t180 true) = some (r1, r2, r3) := by rw [if_neg (show ¬ (false = true) by decide)] at H; exact H
              clear H
              have H := H1
              clear H1
              have H' := Aside0.mk H
              clear H
              go_wp2_with (first | (go_at_call 60; (with_reducible refine (heirloomref01_all.calls kj31 (x8_31.extract 0 (t180 : Int).toNat) false _ A45.out).mono ?_); rintro e w' ⟨rfl, ⟨nd, rfl⟩⟩))
              go_meet
              case rel => exact ⟨_, (true), (by first | rfl | (simp; done) | (simp [*]; done)), H', ⟨by have := HJ1.out; have := HJ27.out; have := HJ31.out; first | omega | exact Nat.le_refl _⟩, ⟨by (with_reducible repeat first | refine kn ?_ _ | refine kd ?_ | refine ka ?_ _); exact BK171.out⟩, ⟨by repeat (first | (with_reducible first | exact HB.out | apply zb | apply zn | apply zd | refine zs ?_ GE171.out) | exact HB.out)⟩⟩
            ·rw [if_neg c44] at H
             exact absurd H (by simp)
           ·rw [if_neg c43] at H
            exact absurd H (by simp)
         case rest =>
          clear HC41
          try clear c1
          try clear c2
          try clear p2
          try clear c3
          try clear p3
          try clear q3
          try clear hx3
          try clear qi3
          try clear c4
          try clear c4b0
          try clear c4b1
          try clear c5
          try clear c5b0
          try clear c5b1
          try clear c6
          try clear c6b0
          try clear c6b1
          try clear p6
          try clear c7
          try clear c8
          try clear c8b0
          try clear c8b1
          try clear c10
          try clear c12
          try clear c14
          try clear c20
          try clear c25
          try clear c29
          try clear c29b0
          try clear c29b1
          try clear c30
          try clear c30b0
          try clear c30b1
          try clear p31
          try clear q31
          try clear hx31
          try clear qi31
          try clear c33
          try clear c34
          try clear c34b0
          try clear c34b1
          try clear c36
          try clear c42
          try clear c42b0
          try clear c43
          try clear c43b0
          try clear c43b1
          try clear c44
          try clear c44b0
          try clear c44b1
          try clear c46
          try clear c48
          try clear c48b0
          try clear c48b1
          try clear c49
          try clear c49b0
          try clear c49b1
          try clear hcz15_0
          try clear hcz15_1
          try clear hcz17_0
          try clear hcz17_1
          try clear hcz18_0
          try clear hcz18_1
          try clear hcz21_0
          try clear hcz21_1
          try clear hcz23_0
          try clear hcz23_1
          try clear hcz26_0
          try clear hcz26_1
          try clear hcz27_0
          try clear hcz27_1
          try clear hcz39_0
          try clear hcz39_1
          try clear hfz15_0
          try clear hfz15_1
          try clear hfz17_0
          try clear hfz17_1
          try clear hfz18_0
          try clear hfz18_1
          try clear hfz21_0
          try clear hfz21_1
          try clear hfz23_0
          try clear hfz23_1
          try clear hfz26_0
          try clear hfz26_1
          try clear hfz27_0
          try clear hfz27_1
          try clear hfz39_0
          try clear hfz39_1
          try clear p2
          try clear p3
          try clear p31
          try clear p6
          try clear q3
          try clear q31
          obtain ⟨kq, x78_40, rfl, HA, HJ40, BK171, HB⟩ := hcut
          cases kq with
          | zero => exact absurd HA.out (by simp [heirloomref01_Read.j3])
          | succ kj40 =>
           have H := HA.out
           clear HA
           simp only [heirloomref01_Read.j3] at H
           by_cases c51 : x78_40 = true
           ·subst c51
            have H1 : (some (0, 0, 6)) = some (r1, r2, r3) := by rw [if_pos rfl] at H; exact H
            clear H
            have H := H1
            clear H1
            simp only [Option.some.injEq, Prod.mk.injEq] at H
            obtain ⟨rfl, rfl, rfl⟩ := H
            have hcz52_0 : wc.cell? ⟨gb171, 0, none⟩ = some (.int .i64 0) := (blk_cell BK171.out 0).trans rfl
            have hcz52_1 : wc.cell? ⟨gb171, 1, none⟩ = some (.int .i64 0) := (blk_cell BK171.out 1).trans rfl
            have hfz52_0 := blk_frozen BK171.out 0
            have hfz52_1 := blk_frozen BK171.out 1
            go_wp2
            refine bodyPost_ret (results_ct rfl _ _ gb171 33 #[.int .i64 0, .int .i64 0] (0, 0) _ rfl (by (with_reducible repeat first | refine kn ?_ _ | refine kd ?_ | refine ka ?_ _ | apply bp); exact BK171.out; all_goals rfl) Tryd.underlying33 rfl (by kernel_rfl)) rfl ?_
            exact ⟨by first | rfl | (simp [errW_none, errW_some] <;> rfl) | (simp [*, errW_none, errW_some] <;> rfl), by repeat (first | (with_reducible first | exact HB.out | apply zb | apply zn | apply zd | refine zs ?_ GE171.out) | exact HB.out)⟩
           ·replace c51 := Bool.eq_false_iff.mpr c51
            subst c51
            have H1 : (if (x8_31.size : Int) > 16 then (some (0, 0, 7)) else (heirloomref01_Read.l0 kj40 x7_27 x8_31 t180 0 0)) = some (r1, r2, r3) := by rw [if_neg (show ¬ (false = true) by decide)] at H; exact H
            clear H
            have H := H1
            clear H1
            by_cases c53 : (x8_31.size : Int) > 16
            ·rw [if_pos c53] at H
             have c53b0 : decide (16 < (x8_31.size : Int)) = true := decide_eq_true c53
             have c53b1 : decide (16 < x8_31.size) = true := decide_eq_true (by omega)
             clear c53
             simp only [Option.some.injEq, Prod.mk.injEq] at H
             obtain ⟨rfl, rfl, rfl⟩ := H
             have hcz54_0 : wc.cell? ⟨gb171, 0, none⟩ = some (.int .i64 0) := (blk_cell BK171.out 0).trans rfl
             have hcz54_1 : wc.cell? ⟨gb171, 1, none⟩ = some (.int .i64 0) := (blk_cell BK171.out 1).trans rfl
             have hfz54_0 := blk_frozen BK171.out 0
             have hfz54_1 := blk_frozen BK171.out 1
             go_wp2
             refine bodyPost_ret (results_ct rfl _ _ gb171 33 #[.int .i64 0, .int .i64 0] (0, 0) _ rfl (by (with_reducible repeat first | refine kn ?_ _ | refine kd ?_ | refine ka ?_ _ | apply bp); exact BK171.out; all_goals rfl) Tryd.underlying33 rfl (by kernel_rfl)) rfl ?_
             exact ⟨by first | rfl | (simp [errW_none, errW_some] <;> rfl) | (simp [*, errW_none, errW_some] <;> rfl), by repeat (first | (with_reducible first | exact HB.out | apply zb | apply zn | apply zd | refine zs ?_ GE171.out) | exact HB.out)⟩
            ·rw [if_neg c53] at H
             have c53b0 : decide (16 < (x8_31.size : Int)) = false := decide_eq_false c53
             have c53b1 : decide (16 < x8_31.size) = false := decide_eq_false (by omega)
             clear c53
             have H' := Aside0.mk H
             clear H
             go_wp2
             go_loopg [10, 11] kj40 (fun kq v10 v11 w' => ∃ (x10_5 : Int) (x11_5 : Int), v10 = .int .i64 x10_5 ∧ v11 = .int .i64 x11_5 ∧ Aside0 (heirloomref01_Read.l0 kq x7_27 x8_31 t180 x10_5 x11_5 = some (r1, r2, r3)) ∧ Aside0 (kq ≤ kj40) ∧ Aside0 (w'.heap[gb171]? = some (.cells #[.int .i64 0, .int .i64 0] 33 (0, 0))) ∧ Aside0 (Below w.heap.size w w'))
             case atStart => exact ⟨(0), (0), (by first | rfl | (simp; done) | (simp [*]; done)), (by first | rfl | (simp; done) | (simp [*]; done)), H', ⟨Nat.le_refl _⟩, ⟨by (with_reducible repeat first | refine kn ?_ _ | refine kd ?_ | refine ka ?_ _); exact BK171.out⟩, ⟨by repeat (first | (with_reducible first | exact HB.out | apply zb | apply zn | apply zd | refine zs ?_ GE171.out) | exact HB.out)⟩⟩
             case round =>
              clear H'
              try clear c1
              try clear c2
              try clear p2
              try clear c3
              try clear p3
              try clear q3
              try clear hx3
              try clear qi3
              try clear c4
              try clear c4b0
              try clear c4b1
              try clear c5
              try clear c5b0
              try clear c5b1
              try clear c6
              try clear c6b0
              try clear c6b1
              try clear p6
              try clear c7
              try clear c8
              try clear c8b0
              try clear c8b1
              try clear c10
              try clear c12
              try clear c14
              try clear c20
              try clear c25
              try clear c29
              try clear c29b0
              try clear c29b1
              try clear c30
              try clear c30b0
              try clear c30b1
              try clear p31
              try clear q31
              try clear hx31
              try clear qi31
              try clear c33
              try clear c34
              try clear c34b0
              try clear c34b1
              try clear c36
              try clear c42
              try clear c42b0
              try clear c43
              try clear c43b0
              try clear c43b1
              try clear c44
              try clear c44b0
              try clear c44b1
              try clear c46
              try clear c48
              try clear c48b0
              try clear c48b1
              try clear c49
              try clear c49b0
              try clear c49b1
              try clear c51
              try clear c53
              try clear c53b0
              try clear c53b1
              try clear hcz15_0
              try clear hcz15_1
              try clear hcz17_0
              try clear hcz17_1
              try clear hcz18_0
              try clear hcz18_1
              try clear hcz21_0
              try clear hcz21_1
              try clear hcz23_0
              try clear hcz23_1
              try clear hcz26_0
              try clear hcz26_1
              try clear hcz27_0
              try clear hcz27_1
              try clear hcz39_0
              try clear hcz39_1
              try clear hcz52_0
              try clear hcz52_1
              try clear hcz54_0
              try clear hcz54_1
              try clear hfz15_0
              try clear hfz15_1
              try clear hfz17_0
              try clear hfz17_1
              try clear hfz18_0
              try clear hfz18_1
              try clear hfz21_0
              try clear hfz21_1
              try clear hfz23_0
              try clear hfz23_1
              try clear hfz26_0
              try clear hfz26_1
              try clear hfz27_0
              try clear hfz27_1
              try clear hfz39_0
              try clear hfz39_1
              try clear hfz52_0
              try clear hfz52_1
              try clear hfz54_0
              try clear hfz54_1
              try clear p2
              try clear p3
              try clear p31
              try clear p6
              try clear q3
              try clear q31
              obtain ⟨x10_5, x11_5, rfl, rfl, HA, HK5, BK171, HB⟩ := hrel
              cases gk with
              | zero => exact absurd HA.out (by simp [heirloomref01_Read.l0])
              | succ k5 =>
               have H := HA.out
               clear HA
               simp only [heirloomref01_Read.l0] at H
               by_cases c55 : x11_5 < (x8_31.size : Int)
               ·rw [if_pos c55] at H
                have c55b0 : decide (x11_5 < (x8_31.size : Int)) = true := decide_eq_true c55
                clear c55
                by_cases c56 : x11_5 = t180
                ·rw [if_pos c56] at H
                 have c56b0 : (x11_5 == t180) = true := beq_iff_eq.mpr c56
                 have c56b1 : (x11_5 != t180) = false := bne_eq_false_iff_eq.mpr c56
                 clear c56
                 have H' := Aside0.mk H
                 clear H
                 go_wp2
                 go_roundg k5
                 case measure => have := HJ1.out; have := HJ27.out; have := HJ31.out; have := HJ40.out; have := HK5.out; omega
                 case rel => exact ⟨(x10_5), (wrap64 (x11_5 + 1)), (by first | rfl | (simp; done) | (simp [*]; done)), (by first | rfl | (simp; done) | (simp [*]; done)), H', ⟨by have := HJ1.out; have := HJ27.out; have := HJ31.out; have := HJ40.out; have := HK5.out; omega⟩, ⟨by (with_reducible repeat first | refine kn ?_ _ | refine kd ?_ | refine ka ?_ _); exact BK171.out⟩, ⟨by repeat (first | (with_reducible first | exact HB.out | apply zb | apply zn | apply zd | refine zs ?_ GE171.out) | exact HB.out)⟩⟩
                ·rw [if_neg c56] at H
                 have c56b0 : (x11_5 == t180) = false := beq_eq_false_iff_ne.mpr c56
                 have c56b1 : (x11_5 != t180) = true := bne_iff_ne.mpr c56
                 by_cases c57 : 0 ≤ x11_5
                 ·rw [if_pos c57] at H
                  have c57b0 : decide (0 ≤ x11_5) = true := decide_eq_true c57
                  clear c57
                  have H' := Aside0.mk H
                  clear H
                  have p58 : 0 ≤ (x11_5 : Int) := of_decide_eq_true (by first | (with_reducible assumption) | assumption)
                  have q58 : x11_5 < (x8_31.size : Int) := of_decide_eq_true (by first | (with_reducible assumption) | assumption)
                  have hx58 := bt_at x8_31 x11_5
                  replace p58 := eq_true p58
                  replace q58 := eq_true q58
                  go_wp2
                  go_roundg k5
                  case measure => have := HJ1.out; have := HJ27.out; have := HJ31.out; have := HJ40.out; have := HK5.out; omega
                  case rel => exact ⟨(wrap64 ((wrap64 (10 * x10_5)) + (((bt x8_31 x11_5) - 48) % 256))), (wrap64 (x11_5 + 1)), (by first | rfl | (simp; done) | (simp [*]; done)), (by first | rfl | (simp; done) | (simp [*]; done)), H', ⟨by have := HJ1.out; have := HJ27.out; have := HJ31.out; have := HJ40.out; have := HK5.out; omega⟩, ⟨by (with_reducible repeat first | refine kn ?_ _ | refine kd ?_ | refine ka ?_ _); exact BK171.out⟩, ⟨by repeat (first | (with_reducible first | exact HB.out | apply zb | apply zn | apply zd | refine zs ?_ GE171.out) | exact HB.out)⟩⟩
                 ·rw [if_neg c57] at H
                  exact absurd H (by simp)
               ·rw [if_neg c55] at H
                have c55b0 : decide (x11_5 < (x8_31.size : Int)) = false := decide_eq_false c55
                clear c55
                have H' := Aside0.mk H
                clear H
                go_wp2
                go_loopg [12, 13] k5 (fun kq v12 v13 w' => ∃ (x12_6 : Int) (x13_6 : Int), v12 = .int .i64 x12_6 ∧ v13 = .int .i64 x13_6 ∧ Aside0 (heirloomref01_Read.l1 kq x7_27 x8_31 x10_5 x12_6 x13_6 = some (r1, r2, r3)) ∧ Aside0 (kq ≤ k5) ∧ Aside0 (w'.heap[gb171]? = some (.cells #[.int .i64 0, .int .i64 0] 33 (0, 0))) ∧ Aside0 (Below w.heap.size w w'))
                case atStart => exact ⟨(1), (wrap64 (t180 + 1)), (by first | rfl | (simp; done) | (simp [*]; done)), (by first | rfl | (simp; done) | (simp [*]; done)), H', ⟨Nat.le_refl _⟩, ⟨by (with_reducible repeat first | refine kn ?_ _ | refine kd ?_ | refine ka ?_ _); exact BK171.out⟩, ⟨by repeat (first | (with_reducible first | exact HB.out | apply zb | apply zn | apply zd | refine zs ?_ GE171.out) | exact HB.out)⟩⟩
                case round =>
                 clear H'
                 try clear c1
                 try clear c2
                 try clear p2
                 try clear c3
                 try clear p3
                 try clear q3
                 try clear hx3
                 try clear qi3
                 try clear c4
                 try clear c4b0
                 try clear c4b1
                 try clear c5
                 try clear c5b0
                 try clear c5b1
                 try clear p5
                 try clear q5
                 try clear hx5
                 try clear c6
                 try clear c6b0
                 try clear c6b1
                 try clear p6
                 try clear c7
                 try clear c8
                 try clear c8b0
                 try clear c8b1
                 try clear c10
                 try clear c12
                 try clear c14
                 try clear c20
                 try clear c25
                 try clear c29
                 try clear c29b0
                 try clear c29b1
                 try clear c30
                 try clear c30b0
                 try clear c30b1
                 try clear p31
                 try clear q31
                 try clear hx31
                 try clear qi31
                 try clear c33
                 try clear c34
                 try clear c34b0
                 try clear c34b1
                 try clear c36
                 try clear c42
                 try clear c42b0
                 try clear c43
                 try clear c43b0
                 try clear c43b1
                 try clear c44
                 try clear c44b0
                 try clear c44b1
                 try clear c46
                 try clear c48
                 try clear c48b0
                 try clear c48b1
                 try clear c49
                 try clear c49b0
                 try clear c49b1
                 try clear c51
                 try clear c53
                 try clear c53b0
                 try clear c53b1
                 try clear c55
                 try clear c55b0
                 try clear c56
                 try clear c56b0
                 try clear c56b1
                 try clear c57
                 try clear c57b0
                 try clear p58
                 try clear q58
                 try clear hx58
                 try clear hcz15_0
                 try clear hcz15_1
                 try clear hcz17_0
                 try clear hcz17_1
                 try clear hcz18_0
                 try clear hcz18_1
                 try clear hcz21_0
                 try clear hcz21_1
                 try clear hcz23_0
                 try clear hcz23_1
                 try clear hcz26_0
                 try clear hcz26_1
                 try clear hcz27_0
                 try clear hcz27_1
                 try clear hcz39_0
                 try clear hcz39_1
                 try clear hcz52_0
                 try clear hcz52_1
                 try clear hcz54_0
                 try clear hcz54_1
                 try clear hfz15_0
                 try clear hfz15_1
                 try clear hfz17_0
                 try clear hfz17_1
                 try clear hfz18_0
                 try clear hfz18_1
                 try clear hfz21_0
                 try clear hfz21_1
                 try clear hfz23_0
                 try clear hfz23_1
                 try clear hfz26_0
                 try clear hfz26_1
                 try clear hfz27_0
                 try clear hfz27_1
                 try clear hfz39_0
                 try clear hfz39_1
                 try clear hfz52_0
                 try clear hfz52_1
                 try clear hfz54_0
                 try clear hfz54_1
                 try clear p2
                 try clear p3
                 try clear p31
                 try clear p58
                 try clear p6
                 try clear q3
                 try clear q31
                 try clear q58
                 obtain ⟨x12_6, x13_6, rfl, rfl, HA, HK6, BK171, HB⟩ := hrel
                 cases gk with
                 | zero => exact absurd HA.out (by simp [heirloomref01_Read.l1])
                 | succ k6 =>
                  have H := HA.out
                  clear HA
                  simp only [heirloomref01_Read.l1] at H
                  by_cases c59 : x13_6 < (x8_31.size : Int)
                  ·rw [if_pos c59] at H
                   have c59b0 : decide (x13_6 < (x8_31.size : Int)) = true := decide_eq_true c59
                   clear c59
                   have H' := Aside0.mk H
                   clear H
                   go_wp2
                   go_roundg k6
                   case measure => have := HJ1.out; have := HJ27.out; have := HJ31.out; have := HJ40.out; have := HK5.out; have := HK6.out; omega
                   case rel => exact ⟨(wrap64 (10 * x12_6)), (wrap64 (x13_6 + 1)), (by first | rfl | (simp; done) | (simp [*]; done)), (by first | rfl | (simp; done) | (simp [*]; done)), H', ⟨by have := HJ1.out; have := HJ27.out; have := HJ31.out; have := HJ40.out; have := HK5.out; have := HK6.out; omega⟩, ⟨by (with_reducible repeat first | refine kn ?_ _ | refine kd ?_ | refine ka ?_ _); exact BK171.out⟩, ⟨by repeat (first | (with_reducible first | exact HB.out | apply zb | apply zn | apply zd | refine zs ?_ GE171.out) | exact HB.out)⟩⟩
                  ·rw [if_neg c59] at H
                   have c59b0 : decide (x13_6 < (x8_31.size : Int)) = false := decide_eq_false c59
                   clear c59
                   by_cases c60 : (fok .quo (floatOfInt .f64 x10_5) (floatOfInt .f64 x12_6)) = true
                   ·rw [if_pos c60] at H
                    have c60b0 := eq_true c60
                    have c60b1 : decide ((fok .quo (floatOfInt .f64 x10_5) (floatOfInt .f64 x12_6)) = true) = true := decide_eq_true c60
                    clear c60
                    by_cases c62 : x7_27 = true
                    ·subst c62
                     have H1 : ((heirloomref01_Float.f (fneg (fop .quo (floatOfInt .f64 x10_5) (floatOfInt .f64 x12_6)))).bind fun bt183 => (some (bt183.1, bt183.2, 0))) = some (r1, r2, r3) := by rw [if_pos rfl] at H; exact H
                     clear H
                     have H := H1
                     clear H1
                     replace H := Option.bind_eq_some_iff.mp H
                     obtain ⟨⟨t183, t184⟩, A630, H⟩ := H
                     replace H : (some (t183, t184, 0)) = some (r1, r2, r3) := H
                     have A63 := Aside0.mk A630
                     clear A630
                     simp only [Option.some.injEq, Prod.mk.injEq] at H
                     obtain ⟨rfl, rfl, rfl⟩ := H
                     have hfo61 := fun (w_ : World) => run_fop (P := Tryd.prog) w_ .quo 86 (floatOfInt .f64 x10_5) (floatOfInt .f64 x12_6) (of_decide_eq_true (by first | (with_reducible assumption) | assumption))
                     go_wp2_with (first | ((with_reducible refine gate_callee (f := 63) rfl ?_); refine goesL_ (some 119) rfl rfl Tryd.func63 (by kernel_rfl) rfl #[.float .f64 (fneg (fop .quo (floatOfInt .f64 x10_5) (floatOfInt .f64 x12_6)))] rfl (by simp only [m1, m2, m3] <;> rfl) ?_; (with_reducible refine (heirloomref01_Float.calls (fneg (fop .quo (floatOfInt .f64 x10_5) (floatOfInt .f64 x12_6))) t183 t184 _ A63.out).mono ?_); rintro e w64 ⟨rfl, hb⟩; refine ⟨_, rfl, ?_⟩; have n0_ := Aside0.mk (blk_below (g := gb171) (o := .cells #[.int .i64 0, .int .i64 0] 33 (0, 0)) (by (with_reducible repeat first | refine kn ?_ _ | refine kd ?_ | refine ka ?_ _); exact BK171.out) hb); have n1_ := Aside0.mk (below_step (by repeat (first | (with_reducible first | exact HB.out | apply zb | apply zn | apply zd | refine zs ?_ GE171.out) | exact HB.out)) hb); clear BK171; clear HB; have BK171 := n0_; have HB := n1_; clear n0_ n1_; (try clear hb); have hcz65_0 : w64.cell? ⟨gb171, 0, none⟩ = some (.int .i64 0) := (blk_cell BK171.out 0).trans rfl; have hcz65_1 : w64.cell? ⟨gb171, 1, none⟩ = some (.int .i64 0) := (blk_cell BK171.out 1).trans rfl; have hfz65_0 := blk_frozen BK171.out 0; have hfz65_1 := blk_frozen BK171.out 1))
                     refine bodyPost_ret (results_ct rfl _ _ gb171 33 #[.int .i64 t183, .int .i64 t184] (0, 0) _ rfl (by (with_reducible repeat first | refine kn ?_ _ | refine kd ?_ | refine ka ?_ _ | apply bp); exact BK171.out; all_goals rfl) Tryd.underlying33 rfl (by kernel_rfl)) rfl ?_
                     exact ⟨by first | rfl | (simp [errW_none, errW_some] <;> rfl) | (simp [*, errW_none, errW_some] <;> rfl), by repeat (first | (with_reducible first | exact HB.out | apply zb | apply zn | apply zd | refine zs ?_ GE171.out) | exact HB.out)⟩
                    ·replace c62 := Bool.eq_false_iff.mpr c62
                     subst c62
                     have H1 : ((heirloomref01_Float.f (fop .quo (floatOfInt .f64 x10_5) (floatOfInt .f64 x12_6))).bind fun bt185 => (some (bt185.1, bt185.2, 0))) = some (r1, r2, r3) := by rw [if_neg (show ¬ (false = true) by decide)] at H; exact H
                     clear H
                     have H := H1
                     clear H1
                     replace H := Option.bind_eq_some_iff.mp H
                     obtain ⟨⟨t185, t186⟩, A660, H⟩ := H
                     replace H : (some (t185, t186, 0)) = some (r1, r2, r3) := H
                     have A66 := Aside0.mk A660
                     clear A660
                     simp only [Option.some.injEq, Prod.mk.injEq] at H
                     obtain ⟨rfl, rfl, rfl⟩ := H
                     have hfo61 := fun (w_ : World) => run_fop (P := Tryd.prog) w_ .quo 86 (floatOfInt .f64 x10_5) (floatOfInt .f64 x12_6) (of_decide_eq_true (by first | (with_reducible assumption) | assumption))
                     go_wp2_with (first | ((with_reducible refine gate_callee (f := 63) rfl ?_); refine goesL_ (some 121) rfl rfl Tryd.func63 (by kernel_rfl) rfl #[.float .f64 (fop .quo (floatOfInt .f64 x10_5) (floatOfInt .f64 x12_6))] rfl (by simp only [m1, m2, m3] <;> rfl) ?_; (with_reducible refine (heirloomref01_Float.calls (fop .quo (floatOfInt .f64 x10_5) (floatOfInt .f64 x12_6)) t185 t186 _ A66.out).mono ?_); rintro e w67 ⟨rfl, hb⟩; refine ⟨_, rfl, ?_⟩; have n0_ := Aside0.mk (blk_below (g := gb171) (o := .cells #[.int .i64 0, .int .i64 0] 33 (0, 0)) (by (with_reducible repeat first | refine kn ?_ _ | refine kd ?_ | refine ka ?_ _); exact BK171.out) hb); have n1_ := Aside0.mk (below_step (by repeat (first | (with_reducible first | exact HB.out | apply zb | apply zn | apply zd | refine zs ?_ GE171.out) | exact HB.out)) hb); clear BK171; clear HB; have BK171 := n0_; have HB := n1_; clear n0_ n1_; (try clear hb); have hcz68_0 : w67.cell? ⟨gb171, 0, none⟩ = some (.int .i64 0) := (blk_cell BK171.out 0).trans rfl; have hcz68_1 : w67.cell? ⟨gb171, 1, none⟩ = some (.int .i64 0) := (blk_cell BK171.out 1).trans rfl; have hfz68_0 := blk_frozen BK171.out 0; have hfz68_1 := blk_frozen BK171.out 1))
                     refine bodyPost_ret (results_ct rfl _ _ gb171 33 #[.int .i64 t185, .int .i64 t186] (0, 0) _ rfl (by (with_reducible repeat first | refine kn ?_ _ | refine kd ?_ | refine ka ?_ _ | apply bp); exact BK171.out; all_goals rfl) Tryd.underlying33 rfl (by kernel_rfl)) rfl ?_
                     exact ⟨by first | rfl | (simp [errW_none, errW_some] <;> rfl) | (simp [*, errW_none, errW_some] <;> rfl), by repeat (first | (with_reducible first | exact HB.out | apply zb | apply zn | apply zd | refine zs ?_ GE171.out) | exact HB.out)⟩
                   ·rw [if_neg c60] at H
                    exact absurd H (by simp)

end Go.Proofs.YtpemgladmnbfhaaDoor.QL
