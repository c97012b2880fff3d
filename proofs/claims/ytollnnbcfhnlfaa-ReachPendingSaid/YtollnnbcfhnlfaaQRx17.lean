-- WRITTEN BY wip/tools/myprint.py, a program of this session, over the kit's printer
import Derived.Test.YtollnnbcfhnlfaaQRx0
import Derived.Test.YtollnnbcfhnlfaaQRy
import Derived.Test.YtollnnbcfhnlfaaQRx2
import Derived.Test.YtollnnbcfhnlfaaQRx3
import Derived.Test.YtollnnbcfhnlfaaQRx8
namespace Go.Proofs.Ytollnnbcfhnlfaa.QR
open Go.RowKit Go.Proofs.YtollnnbcfhnlfaaW.PrintWords Go.Proofs.YtollnnbcfhnlfaaW.PrintLast Go.Proofs.YtollnnbcfhnlfaaW.PrintMore
attribute [local go_sem] max2_int min2_int max_two min_two max_three min_three max_four min_four   -- for this text's walks alone
set_option linter.unusedVariables false
set_option linter.unusedSimpArgs false

/-! ### heirloomlaw11_ReachPending: function 8 -/
mutual
def heirloomlaw11_ReachPending.j0 : Nat → Bool → List (S43) → List (S40) → Option (Bool)
  | 0, _, _, _ => none
  | k + 1, x16, x387000, x387001 => if x16 = true then ((heirloomlaw11_alive.f).bind fun t389 => (some t389)) else ((reach_Collect.f x387000 x387001).bind fun bt390 => ((reach_Strong.f x387000 x387001 ([] : List Int)).bind fun t400 => (if (t400.length : Int) = (x387000.length : Int) then (heirloomlaw11_ReachPending.j1 k t400 ((bt390.1.length : Int) != (t400.length : Int)) x387000 x387001 bt390.1 bt390.2.1 bt390.2.2) else (heirloomlaw11_ReachPending.j1 k t400 true x387000 x387001 bt390.1 bt390.2.1 bt390.2.2))))
def heirloomlaw11_ReachPending.j1 : Nat → List Bool → Bool → List (S43) → List (S40) → List Bool → List Int → List (S49) → Option (Bool)
  | 0, _, _, _, _, _, _, _ => none
  | k + 1, x4, x35, x387000, x387001, x400000, x400001, x400002 => if x35 = true then (some false) else (heirloomlaw11_ReachPending.l0 k x4 0 0 x387000 x387001 x400000 x400001 x400002)
def heirloomlaw11_ReachPending.l0 : Nat → List Bool → Int → Int → List (S43) → List (S40) → List Bool → List Int → List (S49) → Option (Bool)
  | 0, _, _, _, _, _, _, _, _ => none
  | k + 1, x4, x5, x6, x387000, x387001, x400000, x400001, x400002 => if x6 < (x4.length : Int) then (if 0 ≤ x6 then (if x6 < (x387000.length : Int) then (if ((rd_T43 x387000 x6).f4) > 0 then (heirloomlaw11_ReachPending.j3 k x4 x5 x6 (!(rdOf false x4 x6)) x387000 x387001 x400000 x400001 x400002) else (heirloomlaw11_ReachPending.j3 k x4 x5 x6 false x387000 x387001 x400000 x400001 x400002)) else (none)) else (none)) else (heirloomlaw11_ReachPending.l1 k x4 x5 0 x387000 x387001 x400000 x400001 x400002)
def heirloomlaw11_ReachPending.j3 : Nat → List Bool → Int → Int → Bool → List (S43) → List (S40) → List Bool → List Int → List (S49) → Option (Bool)
  | 0, _, _, _, _, _, _, _, _, _ => none
  | k + 1, x4, x5, x6, x55, x387000, x387001, x400000, x400001, x400002 => if x55 = true then (if 0 ≤ x6 then (if x6 < (x4.length : Int) then (if rdOf false x4 x6 = true then (if x6 < (x400000.length : Int) then (if rdOf false x400000 x6 = true then (heirloomlaw11_ReachPending.l0 k x4 (wrap64 (x5 + 1)) (wrap64 (x6 + 1)) x387000 x387001 x400000 x400001 x400002) else (some false)) else (none)) else (heirloomlaw11_ReachPending.l0 k x4 (wrap64 (x5 + 1)) (wrap64 (x6 + 1)) x387000 x387001 x400000 x400001 x400002)) else (none)) else (none)) else (if 0 ≤ x6 then (if x6 < (x4.length : Int) then (if rdOf false x4 x6 = true then (if x6 < (x400000.length : Int) then (if rdOf false x400000 x6 = true then (heirloomlaw11_ReachPending.l0 k x4 x5 (wrap64 (x6 + 1)) x387000 x387001 x400000 x400001 x400002) else (some false)) else (none)) else (heirloomlaw11_ReachPending.l0 k x4 x5 (wrap64 (x6 + 1)) x387000 x387001 x400000 x400001 x400002)) else (none)) else (none))
def heirloomlaw11_ReachPending.l1 : Nat → List Bool → Int → Int → List (S43) → List (S40) → List Bool → List Int → List (S49) → Option (Bool)
  | 0, _, _, _, _, _, _, _, _ => none
  | k + 1, x4, x5, x7, x387000, x387001, x400000, x400001, x400002 => if x7 < (x400001.length : Int) then (if 0 ≤ x7 then (if (rd x400001 x7) < 1 then (some false) else (if (rd x400001 x7) > (x4.length : Int) then (some false) else (if 0 ≤ (wrap64 ((rd x400001 x7) - 1)) then (if (wrap64 ((rd x400001 x7) - 1)) < (x4.length : Int) then (if rdOf false x4 (wrap64 ((rd x400001 x7) - 1)) = true then (some false) else (if (wrap64 ((rd x400001 x7) - 1)) < (x400000.length : Int) then (if (rdOf false x400000 (wrap64 ((rd x400001 x7) - 1)) = true) then (if (wrap64 ((rd x400001 x7) - 1)) < (x387000.length : Int) then (if ((rd_T43 x387000 (wrap64 ((rd x400001 x7) - 1))).f4) < 1 then (some false) else (if x7 > 0 then (if 0 ≤ (wrap64 (x7 - 1)) then (if (wrap64 (x7 - 1)) < (x400001.length : Int) then (if 0 ≤ (wrap64 ((rd x400001 (wrap64 (x7 - 1))) - 1)) then (if (wrap64 ((rd x400001 (wrap64 (x7 - 1))) - 1)) < (x387000.length : Int) then (if ((rd_T43 x387000 (wrap64 ((rd x400001 (wrap64 (x7 - 1))) - 1))).f4) ≤ ((rd_T43 x387000 (wrap64 ((rd x400001 x7) - 1))).f4) then (some false) else (heirloomlaw11_ReachPending.l1 k x4 x5 (wrap64 (x7 + 1)) x387000 x387001 x400000 x400001 x400002)) else (none)) else (none)) else (none)) else (none)) else (heirloomlaw11_ReachPending.l1 k x4 x5 (wrap64 (x7 + 1)) x387000 x387001 x400000 x400001 x400002))) else (none)) else (some false)) else (none))) else (none)) else (none)))) else (none)) else (if (x400001.length : Int) = x5 then ((heirloomlaw11_alive.f).bind fun t416 => (some t416)) else (some false))
end
def heirloomlaw11_ReachPending.f (k : Nat) (l0_0 : List (S43)) (l0_1 : List (S40)) : Option (Bool) := (heirloomlaw11_Small.f k l0_0 l0_1).bind fun t387 => (if t387 = true then ((heirloomref11_Right.f k l0_0 l0_1).bind fun t388 => (heirloomlaw11_ReachPending.j0 k (!t388) l0_0 l0_1)) else (heirloomlaw11_ReachPending.j0 k true l0_0 l0_1))
theorem heirloomlaw11_ReachPending.mono_l : ∀ k, (∀ y0 y1 y2, LeO (heirloomlaw11_ReachPending.j0 k y0 y1 y2) (heirloomlaw11_ReachPending.j0 (k + 1) y0 y1 y2)) ∧ (∀ y0 y1 y2 y3 y4 y5 y6, LeO (heirloomlaw11_ReachPending.j1 k y0 y1 y2 y3 y4 y5 y6) (heirloomlaw11_ReachPending.j1 (k + 1) y0 y1 y2 y3 y4 y5 y6)) ∧ (∀ y0 y1 y2 y3 y4 y5 y6 y7, LeO (heirloomlaw11_ReachPending.l0 k y0 y1 y2 y3 y4 y5 y6 y7) (heirloomlaw11_ReachPending.l0 (k + 1) y0 y1 y2 y3 y4 y5 y6 y7)) ∧ (∀ y0 y1 y2 y3 y4 y5 y6 y7 y8, LeO (heirloomlaw11_ReachPending.j3 k y0 y1 y2 y3 y4 y5 y6 y7 y8) (heirloomlaw11_ReachPending.j3 (k + 1) y0 y1 y2 y3 y4 y5 y6 y7 y8)) ∧ (∀ y0 y1 y2 y3 y4 y5 y6 y7, LeO (heirloomlaw11_ReachPending.l1 k y0 y1 y2 y3 y4 y5 y6 y7) (heirloomlaw11_ReachPending.l1 (k + 1) y0 y1 y2 y3 y4 y5 y6 y7))
  | 0 => ⟨fun _ _ _ r h => by simp [heirloomlaw11_ReachPending.j0] at h, fun _ _ _ _ _ _ _ r h => by simp [heirloomlaw11_ReachPending.j1] at h, fun _ _ _ _ _ _ _ _ r h => by simp [heirloomlaw11_ReachPending.l0] at h, fun _ _ _ _ _ _ _ _ _ r h => by simp [heirloomlaw11_ReachPending.j3] at h, fun _ _ _ _ _ _ _ _ r h => by simp [heirloomlaw11_ReachPending.l1] at h⟩
  | k + 1 => by
    obtain ⟨ih0, ih1, ih2, ih3, ih4⟩ := heirloomlaw11_ReachPending.mono_l k
    refine ⟨?_, ?_, ?_, ?_, ?_⟩
    · intro y0 y1 y2
      unfold heirloomlaw11_ReachPending.j0
      repeat' first
      | (with_reducible exact ih0 _ _ _)
      | (with_reducible exact ih1 _ _ _ _ _ _ _)
      | (with_reducible exact ih2 _ _ _ _ _ _ _ _)
      | (with_reducible exact ih3 _ _ _ _ _ _ _ _ _)
      | (with_reducible exact ih4 _ _ _ _ _ _ _ _)
      | (with_reducible exact heirloomlaw11_Small.mono _ _ _)
      | (with_reducible exact heirloomref11_Right.mono _ _ _)
      | (with_reducible exact LeO.refl _)
      | (with_reducible exact LeO.none _)
      | (with_reducible refine LeO.ite ?_ ?_)
      | (with_reducible refine LeO.bind ?_ (fun _ => ?_))
      | exact ih0 _ _ _
      | exact ih1 _ _ _ _ _ _ _
      | exact ih2 _ _ _ _ _ _ _ _
      | exact ih3 _ _ _ _ _ _ _ _ _
      | exact ih4 _ _ _ _ _ _ _ _
      | exact heirloomlaw11_Small.mono _ _ _
      | exact heirloomref11_Right.mono _ _ _
      | exact LeO.none _
      | refine LeO.ite ?_ ?_
      | refine LeO.bind ?_ (fun _ => ?_)
    · intro y0 y1 y2 y3 y4 y5 y6
      unfold heirloomlaw11_ReachPending.j1
      repeat' first
      | (with_reducible exact ih0 _ _ _)
      | (with_reducible exact ih1 _ _ _ _ _ _ _)
      | (with_reducible exact ih2 _ _ _ _ _ _ _ _)
      | (with_reducible exact ih3 _ _ _ _ _ _ _ _ _)
      | (with_reducible exact ih4 _ _ _ _ _ _ _ _)
      | (with_reducible exact heirloomlaw11_Small.mono _ _ _)
      | (with_reducible exact heirloomref11_Right.mono _ _ _)
      | (with_reducible exact LeO.refl _)
      | (with_reducible exact LeO.none _)
      | (with_reducible refine LeO.ite ?_ ?_)
      | (with_reducible refine LeO.bind ?_ (fun _ => ?_))
      | exact ih0 _ _ _
      | exact ih1 _ _ _ _ _ _ _
      | exact ih2 _ _ _ _ _ _ _ _
      | exact ih3 _ _ _ _ _ _ _ _ _
      | exact ih4 _ _ _ _ _ _ _ _
      | exact heirloomlaw11_Small.mono _ _ _
      | exact heirloomref11_Right.mono _ _ _
      | exact LeO.none _
      | refine LeO.ite ?_ ?_
      | refine LeO.bind ?_ (fun _ => ?_)
    · intro y0 y1 y2 y3 y4 y5 y6 y7
      unfold heirloomlaw11_ReachPending.l0
      repeat' first
      | (with_reducible exact ih0 _ _ _)
      | (with_reducible exact ih1 _ _ _ _ _ _ _)
      | (with_reducible exact ih2 _ _ _ _ _ _ _ _)
      | (with_reducible exact ih3 _ _ _ _ _ _ _ _ _)
      | (with_reducible exact ih4 _ _ _ _ _ _ _ _)
      | (with_reducible exact heirloomlaw11_Small.mono _ _ _)
      | (with_reducible exact heirloomref11_Right.mono _ _ _)
      | (with_reducible exact LeO.refl _)
      | (with_reducible exact LeO.none _)
      | (with_reducible refine LeO.ite ?_ ?_)
      | (with_reducible refine LeO.bind ?_ (fun _ => ?_))
      | exact ih0 _ _ _
      | exact ih1 _ _ _ _ _ _ _
      | exact ih2 _ _ _ _ _ _ _ _
      | exact ih3 _ _ _ _ _ _ _ _ _
      | exact ih4 _ _ _ _ _ _ _ _
      | exact heirloomlaw11_Small.mono _ _ _
      | exact heirloomref11_Right.mono _ _ _
      | exact LeO.none _
      | refine LeO.ite ?_ ?_
      | refine LeO.bind ?_ (fun _ => ?_)
    · intro y0 y1 y2 y3 y4 y5 y6 y7 y8
      unfold heirloomlaw11_ReachPending.j3
      repeat' first
      | (with_reducible exact ih0 _ _ _)
      | (with_reducible exact ih1 _ _ _ _ _ _ _)
      | (with_reducible exact ih2 _ _ _ _ _ _ _ _)
      | (with_reducible exact ih3 _ _ _ _ _ _ _ _ _)
      | (with_reducible exact ih4 _ _ _ _ _ _ _ _)
      | (with_reducible exact heirloomlaw11_Small.mono _ _ _)
      | (with_reducible exact heirloomref11_Right.mono _ _ _)
      | (with_reducible exact LeO.refl _)
      | (with_reducible exact LeO.none _)
      | (with_reducible refine LeO.ite ?_ ?_)
      | (with_reducible refine LeO.bind ?_ (fun _ => ?_))
      | exact ih0 _ _ _
      | exact ih1 _ _ _ _ _ _ _
      | exact ih2 _ _ _ _ _ _ _ _
      | exact ih3 _ _ _ _ _ _ _ _ _
      | exact ih4 _ _ _ _ _ _ _ _
      | exact heirloomlaw11_Small.mono _ _ _
      | exact heirloomref11_Right.mono _ _ _
      | exact LeO.none _
      | refine LeO.ite ?_ ?_
      | refine LeO.bind ?_ (fun _ => ?_)
    · intro y0 y1 y2 y3 y4 y5 y6 y7
      unfold heirloomlaw11_ReachPending.l1
      repeat' first
      | (with_reducible exact ih0 _ _ _)
      | (with_reducible exact ih1 _ _ _ _ _ _ _)
      | (with_reducible exact ih2 _ _ _ _ _ _ _ _)
      | (with_reducible exact ih3 _ _ _ _ _ _ _ _ _)
      | (with_reducible exact ih4 _ _ _ _ _ _ _ _)
      | (with_reducible exact heirloomlaw11_Small.mono _ _ _)
      | (with_reducible exact heirloomref11_Right.mono _ _ _)
      | (with_reducible exact LeO.refl _)
      | (with_reducible exact LeO.none _)
      | (with_reducible refine LeO.ite ?_ ?_)
      | (with_reducible refine LeO.bind ?_ (fun _ => ?_))
      | exact ih0 _ _ _
      | exact ih1 _ _ _ _ _ _ _
      | exact ih2 _ _ _ _ _ _ _ _
      | exact ih3 _ _ _ _ _ _ _ _ _
      | exact ih4 _ _ _ _ _ _ _ _
      | exact heirloomlaw11_Small.mono _ _ _
      | exact heirloomref11_Right.mono _ _ _
      | exact LeO.none _
      | refine LeO.ite ?_ ?_
      | refine LeO.bind ?_ (fun _ => ?_)
theorem heirloomlaw11_ReachPending.mono : ∀ a0 a1 k, LeO (heirloomlaw11_ReachPending.f k a0 a1) (heirloomlaw11_ReachPending.f (k + 1) a0 a1) := by
  intro a0 a1 k
  obtain ⟨ih0, ih1, ih2, ih3, ih4⟩ := heirloomlaw11_ReachPending.mono_l k
  unfold heirloomlaw11_ReachPending.f
  repeat' first
      | (with_reducible exact ih0 _ _ _)
      | (with_reducible exact ih1 _ _ _ _ _ _ _)
      | (with_reducible exact ih2 _ _ _ _ _ _ _ _)
      | (with_reducible exact ih3 _ _ _ _ _ _ _ _ _)
      | (with_reducible exact ih4 _ _ _ _ _ _ _ _)
      | (with_reducible exact heirloomlaw11_Small.mono _ _ _)
      | (with_reducible exact heirloomref11_Right.mono _ _ _)
      | (with_reducible exact LeO.refl _)
      | (with_reducible exact LeO.none _)
      | (with_reducible refine LeO.ite ?_ ?_)
      | (with_reducible refine LeO.bind ?_ (fun _ => ?_))
      | exact ih0 _ _ _
      | exact ih1 _ _ _ _ _ _ _
      | exact ih2 _ _ _ _ _ _ _ _
      | exact ih3 _ _ _ _ _ _ _ _ _
      | exact ih4 _ _ _ _ _ _ _ _
      | exact heirloomlaw11_Small.mono _ _ _
      | exact heirloomref11_Right.mono _ _ _
      | exact LeO.none _
      | refine LeO.ite ?_ ?_
      | refine LeO.bind ?_ (fun _ => ?_)
set_option maxHeartbeats 8000000 in
set_option maxRecDepth 100000 in
theorem heirloomlaw11_ReachPending.calls (k : Nat) (A0_0 : Option Addr) (c0_0 : Nat) (l0_0 : List (S43)) (A0_1 : Option Addr) (c0_1 : Nat) (l0_1 : List (S40)) (r : Bool) (w : World) (hr0_0 : Kd.C k43 w A0_0 l0_0.length l0_0) (hc0_0 : l0_0.length ≤ c0_0) (hr0_1 : Kd.C k40 w A0_1 l0_1.length l0_1) (hc0_1 : l0_1.length ≤ c0_1) (h : heirloomlaw11_ReachPending.f k l0_0 l0_1 = some r) :
    Calls Try.prog 8 #[.agg #[.slice A0_0 l0_0.length c0_0, .slice A0_1 l0_1.length c0_1]] w fun e w' => e = .returned (.bool r) ∧ Below w.heap.size w w' := by
  have hu25 := Try.underlying25
  have hu37 := Try.underlying37
  have HR0_0 := Aside0.mk hr0_0
  have HC0_0 := Aside0.mk hc0_0
  clear hr0_0 hc0_0
  have HR0_1 := Aside0.mk hr0_1
  have HC0_1 := Aside0.mk hc0_1
  clear hr0_1 hc0_1
  have HB := Aside0.mk (Below.refl w.heap.size w)
  have H : ((heirloomlaw11_Small.f k l0_0 l0_1).bind fun t387 => (if t387 = true then ((heirloomref11_Right.f k l0_0 l0_1).bind fun t388 => (heirloomlaw11_ReachPending.j0 k (!t388) l0_0 l0_1)) else (heirloomlaw11_ReachPending.j0 k true l0_0 l0_1))) = some r := h
  clear h
  have HC2 := Aside0.mk H
  clear H
  go_enter Try.func8, Try.ntmps8
  go_upto_region 1 with (first | ((with_reducible refine gate_dst (N := 1) rfl ?_); (try (refine gate_guard (by rfl) ?_; dsimp only)); refine box_event ?hg (N := 1) ?hd (cs := #[.slice A0_0 l0_0.length c0_0, .slice A0_1 l0_1.length c0_1]) (t := 25) ?hr ?_; (case hd => rfl); (case hg => rfl); (case hr => first | (go_simp; done) | (go_simp; rfl)); intro gb386 hg w3 hbox hb; have n0_ := Aside0.mk (below_step (by repeat (first | (with_reducible first | exact HB.out | apply below_alloc | apply pw_below_drewN | apply below_drew1) | exact HB.out)) hb); have n1_ := Aside0.mk (hbox); have n2_ := Aside0.mk ((by rw [hg]; exact (below_size (by repeat (first | (with_reducible first | exact HB.out | apply below_alloc | apply pw_below_drewN | apply below_drew1) | exact HB.out))) : w.heap.size ≤ gb386)); have n3_ := Aside0.mk ((by rw [hg]; exact (below_size (by repeat (first | (with_reducible first | exact HB.out | apply below_alloc | apply pw_below_drewN | apply below_drew1) | exact HB.out))) : w.heap.size ≤ gb386)); clear HB; have HB := n0_; have BK386 := n1_; have GW386 := n2_; have GE386 := n3_; clear n0_ n1_ n2_ n3_; clear hb hbox hg))
  repeat (go_quiet (first | ((with_reducible refine gate_dst (N := 1) rfl ?_); (try (refine gate_guard (by rfl) ?_; dsimp only)); refine box_event ?hg (N := 1) ?hd (cs := #[.slice A0_0 l0_0.length c0_0, .slice A0_1 l0_1.length c0_1]) (t := 25) ?hr ?_; (case hd => rfl); (case hg => rfl); (case hr => first | (go_simp; done) | (go_simp; rfl)); intro gb386 hg w3 hbox hb; have n0_ := Aside0.mk (below_step (by repeat (first | (with_reducible first | exact HB.out | apply below_alloc | apply pw_below_drewN | apply below_drew1) | exact HB.out)) hb); have n1_ := Aside0.mk (hbox); have n2_ := Aside0.mk ((by rw [hg]; exact (below_size (by repeat (first | (with_reducible first | exact HB.out | apply below_alloc | apply pw_below_drewN | apply below_drew1) | exact HB.out))) : w.heap.size ≤ gb386)); have n3_ := Aside0.mk ((by rw [hg]; exact (below_size (by repeat (first | (with_reducible first | exact HB.out | apply below_alloc | apply pw_below_drewN | apply below_drew1) | exact HB.out))) : w.heap.size ≤ gb386)); clear HB; have HB := n0_; have BK386 := n1_; have GW386 := n2_; have GE386 := n3_; clear n0_ n1_ n2_ n3_; clear hb hbox hg)); go_upto_region 1 with (first | ((with_reducible refine gate_dst (N := 1) rfl ?_); (try (refine gate_guard (by rfl) ?_; dsimp only)); refine box_event ?hg (N := 1) ?hd (cs := #[.slice A0_0 l0_0.length c0_0, .slice A0_1 l0_1.length c0_1]) (t := 25) ?hr ?_; (case hd => rfl); (case hg => rfl); (case hr => first | (go_simp; done) | (go_simp; rfl)); intro gb386 hg w3 hbox hb; have n0_ := Aside0.mk (below_step (by repeat (first | (with_reducible first | exact HB.out | apply below_alloc | apply pw_below_drewN | apply below_drew1) | exact HB.out)) hb); have n1_ := Aside0.mk (hbox); have n2_ := Aside0.mk ((by rw [hg]; exact (below_size (by repeat (first | (with_reducible first | exact HB.out | apply below_alloc | apply pw_below_drewN | apply below_drew1) | exact HB.out))) : w.heap.size ≤ gb386)); have n3_ := Aside0.mk ((by rw [hg]; exact (below_size (by repeat (first | (with_reducible first | exact HB.out | apply below_alloc | apply pw_below_drewN | apply below_drew1) | exact HB.out))) : w.heap.size ≤ gb386)); clear HB; have HB := n0_; have BK386 := n1_; have GW386 := n2_; have GE386 := n3_; clear n0_ n1_ n2_ n3_; clear hb hbox hg)))
  (try simp only [Act.put, List.setIfInBounds_toArray, List.set_cons_zero, List.set_cons_succ])
  go_cut [16] (fun v16 wc => ∃ (kq : Nat) (x16_1 : Bool), v16 = .bool x16_1 ∧ Aside0 (heirloomlaw11_ReachPending.j0 kq x16_1 l0_0 l0_1 = some r) ∧ Aside0 (kq ≤ k) ∧ Aside0 (wc.heap[gb386]? = some (.cells #[(.slice A0_0 l0_0.length c0_0), (.slice A0_1 l0_1.length c0_1)] 25 (0, 0))) ∧ Aside0 (Below w.heap.size w wc))
  case first =>
    have H := HC2.out
    clear HC2
    replace H := Option.bind_eq_some_iff.mp H
    obtain ⟨t387, A40, H⟩ := H
    replace H : (if t387 = true then ((heirloomref11_Right.f k l0_0 l0_1).bind fun t388 => (heirloomlaw11_ReachPending.j0 k (!t388) l0_0 l0_1)) else (heirloomlaw11_ReachPending.j0 k true l0_0 l0_1)) = some r := H
    have A4 := Aside0.mk A40
    clear A40
    by_cases c5 : t387 = true
    · subst c5
      have H1 : ((heirloomref11_Right.f k l0_0 l0_1).bind fun t388 => (heirloomlaw11_ReachPending.j0 k (!t388) l0_0 l0_1)) = some r := by rw [if_pos rfl] at H; exact H
      clear H
      have H := H1
      clear H1
      replace H := Option.bind_eq_some_iff.mp H
      obtain ⟨t388, A60, H⟩ := H
      replace H : (heirloomlaw11_ReachPending.j0 k (!t388) l0_0 l0_1) = some r := H
      have A6 := Aside0.mk A60
      clear A60
      have H' := Aside0.mk H
      clear H
      have hcz7_0 : w3.cell? ⟨gb386, 0, none⟩ = some (.slice A0_0 l0_0.length c0_0) := (blk_cell BK386.out 0).trans rfl
      have hcz7_1 : w3.cell? ⟨gb386, 1, none⟩ = some (.slice A0_1 l0_1.length c0_1) := (blk_cell BK386.out 1).trans rfl
      have hfz7_0 := blk_frozen BK386.out 0
      have hfz7_1 := blk_frozen BK386.out 1
      go_wp2_with (first | (go_at_call 10; (with_reducible refine (heirloomlaw11_Small.calls k _ _ l0_0 _ _ l0_1 true _ ?side1 ?side2 ?side3 ?side4 A4.out).mono ?_); (case side1 => repeat (first | exact (Kd.C_below HR0_0.out HB.out) | (with_reducible refine Kd.C_alloc ?_ _) | (with_reducible refine Kd.C_drewN ?_ _) | (with_reducible refine Kd.C_drew ?_))); (case side2 => exact HC0_0.out); (case side3 => repeat (first | exact (Kd.C_below HR0_1.out HB.out) | (with_reducible refine Kd.C_alloc ?_ _) | (with_reducible refine Kd.C_drewN ?_ _) | (with_reducible refine Kd.C_drew ?_))); (case side4 => exact HC0_1.out); rintro e w8 ⟨rfl, hb⟩; have n0_ := Aside0.mk (blk_below (g := gb386) (o := .cells #[.slice A0_0 l0_0.length c0_0, .slice A0_1 l0_1.length c0_1] 25 (0, 0)) (by (with_reducible repeat (first | refine blk_drewN ?_ _ | refine blk_drew ?_ | refine blk_alloc ?_ _)); exact BK386.out) hb); have n1_ := Aside0.mk (below_step (by repeat (first | (with_reducible first | exact HB.out | apply below_alloc | apply pw_below_drewN | apply below_drew1 | refine below_set ?_ GE386.out) | exact HB.out)) hb); clear BK386; clear HB; have BK386 := n0_; have HB := n1_; clear n0_ n1_; (try clear hb); (try clear hb2); (try clear hk); (try clear hi); have hcz9_0 : w8.cell? ⟨gb386, 0, none⟩ = some (.slice A0_0 l0_0.length c0_0) := (blk_cell BK386.out 0).trans rfl; have hcz9_1 : w8.cell? ⟨gb386, 1, none⟩ = some (.slice A0_1 l0_1.length c0_1) := (blk_cell BK386.out 1).trans rfl; have hfz9_0 := blk_frozen BK386.out 0; have hfz9_1 := blk_frozen BK386.out 1) | (go_at_call 16; (with_reducible refine (heirloomref11_Right.calls k _ _ l0_0 _ _ l0_1 t388 _ ?side1 ?side2 ?side3 ?side4 A6.out).mono ?_); (case side1 => repeat (first | exact (Kd.C_below HR0_0.out HB.out) | (with_reducible refine Kd.C_alloc ?_ _) | (with_reducible refine Kd.C_drewN ?_ _) | (with_reducible refine Kd.C_drew ?_))); (case side2 => exact HC0_0.out); (case side3 => repeat (first | exact (Kd.C_below HR0_1.out HB.out) | (with_reducible refine Kd.C_alloc ?_ _) | (with_reducible refine Kd.C_drewN ?_ _) | (with_reducible refine Kd.C_drew ?_))); (case side4 => exact HC0_1.out); rintro e w10 ⟨rfl, hb⟩; have n0_ := Aside0.mk (blk_below (g := gb386) (o := .cells #[.slice A0_0 l0_0.length c0_0, .slice A0_1 l0_1.length c0_1] 25 (0, 0)) (by (with_reducible repeat (first | refine blk_drewN ?_ _ | refine blk_drew ?_ | refine blk_alloc ?_ _)); exact BK386.out) hb); have n1_ := Aside0.mk (below_step (by repeat (first | (with_reducible first | exact HB.out | apply below_alloc | apply pw_below_drewN | apply below_drew1 | refine below_set ?_ GE386.out) | exact HB.out)) hb); clear BK386; clear HB; have BK386 := n0_; have HB := n1_; clear n0_ n1_; (try clear hb); (try clear hb2); (try clear hk); (try clear hi)))
      repeat (go_quiet (first | (go_at_call 10; (with_reducible refine (heirloomlaw11_Small.calls k _ _ l0_0 _ _ l0_1 true _ ?side1 ?side2 ?side3 ?side4 A4.out).mono ?_); (case side1 => repeat (first | exact (Kd.C_below HR0_0.out HB.out) | (with_reducible refine Kd.C_alloc ?_ _) | (with_reducible refine Kd.C_drewN ?_ _) | (with_reducible refine Kd.C_drew ?_))); (case side2 => exact HC0_0.out); (case side3 => repeat (first | exact (Kd.C_below HR0_1.out HB.out) | (with_reducible refine Kd.C_alloc ?_ _) | (with_reducible refine Kd.C_drewN ?_ _) | (with_reducible refine Kd.C_drew ?_))); (case side4 => exact HC0_1.out); rintro e w8 ⟨rfl, hb⟩; have n0_ := Aside0.mk (blk_below (g := gb386) (o := .cells #[.slice A0_0 l0_0.length c0_0, .slice A0_1 l0_1.length c0_1] 25 (0, 0)) (by (with_reducible repeat (first | refine blk_drewN ?_ _ | refine blk_drew ?_ | refine blk_alloc ?_ _)); exact BK386.out) hb); have n1_ := Aside0.mk (below_step (by repeat (first | (with_reducible first | exact HB.out | apply below_alloc | apply pw_below_drewN | apply below_drew1 | refine below_set ?_ GE386.out) | exact HB.out)) hb); clear BK386; clear HB; have BK386 := n0_; have HB := n1_; clear n0_ n1_; (try clear hb); (try clear hb2); (try clear hk); (try clear hi); have hcz9_0 : w8.cell? ⟨gb386, 0, none⟩ = some (.slice A0_0 l0_0.length c0_0) := (blk_cell BK386.out 0).trans rfl; have hcz9_1 : w8.cell? ⟨gb386, 1, none⟩ = some (.slice A0_1 l0_1.length c0_1) := (blk_cell BK386.out 1).trans rfl; have hfz9_0 := blk_frozen BK386.out 0; have hfz9_1 := blk_frozen BK386.out 1) | (go_at_call 16; (with_reducible refine (heirloomref11_Right.calls k _ _ l0_0 _ _ l0_1 t388 _ ?side1 ?side2 ?side3 ?side4 A6.out).mono ?_); (case side1 => repeat (first | exact (Kd.C_below HR0_0.out HB.out) | (with_reducible refine Kd.C_alloc ?_ _) | (with_reducible refine Kd.C_drewN ?_ _) | (with_reducible refine Kd.C_drew ?_))); (case side2 => exact HC0_0.out); (case side3 => repeat (first | exact (Kd.C_below HR0_1.out HB.out) | (with_reducible refine Kd.C_alloc ?_ _) | (with_reducible refine Kd.C_drewN ?_ _) | (with_reducible refine Kd.C_drew ?_))); (case side4 => exact HC0_1.out); rintro e w10 ⟨rfl, hb⟩; have n0_ := Aside0.mk (blk_below (g := gb386) (o := .cells #[.slice A0_0 l0_0.length c0_0, .slice A0_1 l0_1.length c0_1] 25 (0, 0)) (by (with_reducible repeat (first | refine blk_drewN ?_ _ | refine blk_drew ?_ | refine blk_alloc ?_ _)); exact BK386.out) hb); have n1_ := Aside0.mk (below_step (by repeat (first | (with_reducible first | exact HB.out | apply below_alloc | apply pw_below_drewN | apply below_drew1 | refine below_set ?_ GE386.out) | exact HB.out)) hb); clear BK386; clear HB; have BK386 := n0_; have HB := n1_; clear n0_ n1_; (try clear hb); (try clear hb2); (try clear hk); (try clear hi))); try go_wp2_with (first | (go_at_call 10; (with_reducible refine (heirloomlaw11_Small.calls k _ _ l0_0 _ _ l0_1 true _ ?side1 ?side2 ?side3 ?side4 A4.out).mono ?_); (case side1 => repeat (first | exact (Kd.C_below HR0_0.out HB.out) | (with_reducible refine Kd.C_alloc ?_ _) | (with_reducible refine Kd.C_drewN ?_ _) | (with_reducible refine Kd.C_drew ?_))); (case side2 => exact HC0_0.out); (case side3 => repeat (first | exact (Kd.C_below HR0_1.out HB.out) | (with_reducible refine Kd.C_alloc ?_ _) | (with_reducible refine Kd.C_drewN ?_ _) | (with_reducible refine Kd.C_drew ?_))); (case side4 => exact HC0_1.out); rintro e w8 ⟨rfl, hb⟩; have n0_ := Aside0.mk (blk_below (g := gb386) (o := .cells #[.slice A0_0 l0_0.length c0_0, .slice A0_1 l0_1.length c0_1] 25 (0, 0)) (by (with_reducible repeat (first | refine blk_drewN ?_ _ | refine blk_drew ?_ | refine blk_alloc ?_ _)); exact BK386.out) hb); have n1_ := Aside0.mk (below_step (by repeat (first | (with_reducible first | exact HB.out | apply below_alloc | apply pw_below_drewN | apply below_drew1 | refine below_set ?_ GE386.out) | exact HB.out)) hb); clear BK386; clear HB; have BK386 := n0_; have HB := n1_; clear n0_ n1_; (try clear hb); (try clear hb2); (try clear hk); (try clear hi); have hcz9_0 : w8.cell? ⟨gb386, 0, none⟩ = some (.slice A0_0 l0_0.length c0_0) := (blk_cell BK386.out 0).trans rfl; have hcz9_1 : w8.cell? ⟨gb386, 1, none⟩ = some (.slice A0_1 l0_1.length c0_1) := (blk_cell BK386.out 1).trans rfl; have hfz9_0 := blk_frozen BK386.out 0; have hfz9_1 := blk_frozen BK386.out 1) | (go_at_call 16; (with_reducible refine (heirloomref11_Right.calls k _ _ l0_0 _ _ l0_1 t388 _ ?side1 ?side2 ?side3 ?side4 A6.out).mono ?_); (case side1 => repeat (first | exact (Kd.C_below HR0_0.out HB.out) | (with_reducible refine Kd.C_alloc ?_ _) | (with_reducible refine Kd.C_drewN ?_ _) | (with_reducible refine Kd.C_drew ?_))); (case side2 => exact HC0_0.out); (case side3 => repeat (first | exact (Kd.C_below HR0_1.out HB.out) | (with_reducible refine Kd.C_alloc ?_ _) | (with_reducible refine Kd.C_drewN ?_ _) | (with_reducible refine Kd.C_drew ?_))); (case side4 => exact HC0_1.out); rintro e w10 ⟨rfl, hb⟩; have n0_ := Aside0.mk (blk_below (g := gb386) (o := .cells #[.slice A0_0 l0_0.length c0_0, .slice A0_1 l0_1.length c0_1] 25 (0, 0)) (by (with_reducible repeat (first | refine blk_drewN ?_ _ | refine blk_drew ?_ | refine blk_alloc ?_ _)); exact BK386.out) hb); have n1_ := Aside0.mk (below_step (by repeat (first | (with_reducible first | exact HB.out | apply below_alloc | apply pw_below_drewN | apply below_drew1 | refine below_set ?_ GE386.out) | exact HB.out)) hb); clear BK386; clear HB; have BK386 := n0_; have HB := n1_; clear n0_ n1_; (try clear hb); (try clear hb2); (try clear hk); (try clear hi))))
      go_meet
      case rel => exact ⟨_, (!t388), (by first | rfl | (simp; done) | (simp [*]; done)), H', ⟨by first | omega | exact Nat.le_refl _⟩, ⟨by (with_reducible repeat (first | refine blk_drewN ?_ _ | refine blk_drew ?_ | refine blk_alloc ?_ _)); exact BK386.out⟩, ⟨by repeat (first | (with_reducible first | exact HB.out | apply below_alloc | apply pw_below_drewN | apply below_drew1 | refine below_set ?_ GE386.out) | exact HB.out)⟩⟩
    · replace c5 := Bool.eq_false_iff.mpr c5
      subst c5
      have H1 : (heirloomlaw11_ReachPending.j0 k true l0_0 l0_1) = some r := by rw [if_neg (show ¬ (false = true) by decide)] at H; exact H
      clear H
      have H := H1
      clear H1
      have H' := Aside0.mk H
      clear H
      have hcz11_0 : w3.cell? ⟨gb386, 0, none⟩ = some (.slice A0_0 l0_0.length c0_0) := (blk_cell BK386.out 0).trans rfl
      have hcz11_1 : w3.cell? ⟨gb386, 1, none⟩ = some (.slice A0_1 l0_1.length c0_1) := (blk_cell BK386.out 1).trans rfl
      have hfz11_0 := blk_frozen BK386.out 0
      have hfz11_1 := blk_frozen BK386.out 1
      go_wp2_with (first | (go_at_call 10; (with_reducible refine (heirloomlaw11_Small.calls k _ _ l0_0 _ _ l0_1 false _ ?side1 ?side2 ?side3 ?side4 A4.out).mono ?_); (case side1 => repeat (first | exact (Kd.C_below HR0_0.out HB.out) | (with_reducible refine Kd.C_alloc ?_ _) | (with_reducible refine Kd.C_drewN ?_ _) | (with_reducible refine Kd.C_drew ?_))); (case side2 => exact HC0_0.out); (case side3 => repeat (first | exact (Kd.C_below HR0_1.out HB.out) | (with_reducible refine Kd.C_alloc ?_ _) | (with_reducible refine Kd.C_drewN ?_ _) | (with_reducible refine Kd.C_drew ?_))); (case side4 => exact HC0_1.out); rintro e w12 ⟨rfl, hb⟩; have n0_ := Aside0.mk (blk_below (g := gb386) (o := .cells #[.slice A0_0 l0_0.length c0_0, .slice A0_1 l0_1.length c0_1] 25 (0, 0)) (by (with_reducible repeat (first | refine blk_drewN ?_ _ | refine blk_drew ?_ | refine blk_alloc ?_ _)); exact BK386.out) hb); have n1_ := Aside0.mk (below_step (by repeat (first | (with_reducible first | exact HB.out | apply below_alloc | apply pw_below_drewN | apply below_drew1 | refine below_set ?_ GE386.out) | exact HB.out)) hb); clear BK386; clear HB; have BK386 := n0_; have HB := n1_; clear n0_ n1_; (try clear hb); (try clear hb2); (try clear hk); (try clear hi)))
      repeat (go_quiet (first | (go_at_call 10; (with_reducible refine (heirloomlaw11_Small.calls k _ _ l0_0 _ _ l0_1 false _ ?side1 ?side2 ?side3 ?side4 A4.out).mono ?_); (case side1 => repeat (first | exact (Kd.C_below HR0_0.out HB.out) | (with_reducible refine Kd.C_alloc ?_ _) | (with_reducible refine Kd.C_drewN ?_ _) | (with_reducible refine Kd.C_drew ?_))); (case side2 => exact HC0_0.out); (case side3 => repeat (first | exact (Kd.C_below HR0_1.out HB.out) | (with_reducible refine Kd.C_alloc ?_ _) | (with_reducible refine Kd.C_drewN ?_ _) | (with_reducible refine Kd.C_drew ?_))); (case side4 => exact HC0_1.out); rintro e w12 ⟨rfl, hb⟩; have n0_ := Aside0.mk (blk_below (g := gb386) (o := .cells #[.slice A0_0 l0_0.length c0_0, .slice A0_1 l0_1.length c0_1] 25 (0, 0)) (by (with_reducible repeat (first | refine blk_drewN ?_ _ | refine blk_drew ?_ | refine blk_alloc ?_ _)); exact BK386.out) hb); have n1_ := Aside0.mk (below_step (by repeat (first | (with_reducible first | exact HB.out | apply below_alloc | apply pw_below_drewN | apply below_drew1 | refine below_set ?_ GE386.out) | exact HB.out)) hb); clear BK386; clear HB; have BK386 := n0_; have HB := n1_; clear n0_ n1_; (try clear hb); (try clear hb2); (try clear hk); (try clear hi))); try go_wp2_with (first | (go_at_call 10; (with_reducible refine (heirloomlaw11_Small.calls k _ _ l0_0 _ _ l0_1 false _ ?side1 ?side2 ?side3 ?side4 A4.out).mono ?_); (case side1 => repeat (first | exact (Kd.C_below HR0_0.out HB.out) | (with_reducible refine Kd.C_alloc ?_ _) | (with_reducible refine Kd.C_drewN ?_ _) | (with_reducible refine Kd.C_drew ?_))); (case side2 => exact HC0_0.out); (case side3 => repeat (first | exact (Kd.C_below HR0_1.out HB.out) | (with_reducible refine Kd.C_alloc ?_ _) | (with_reducible refine Kd.C_drewN ?_ _) | (with_reducible refine Kd.C_drew ?_))); (case side4 => exact HC0_1.out); rintro e w12 ⟨rfl, hb⟩; have n0_ := Aside0.mk (blk_below (g := gb386) (o := .cells #[.slice A0_0 l0_0.length c0_0, .slice A0_1 l0_1.length c0_1] 25 (0, 0)) (by (with_reducible repeat (first | refine blk_drewN ?_ _ | refine blk_drew ?_ | refine blk_alloc ?_ _)); exact BK386.out) hb); have n1_ := Aside0.mk (below_step (by repeat (first | (with_reducible first | exact HB.out | apply below_alloc | apply pw_below_drewN | apply below_drew1 | refine below_set ?_ GE386.out) | exact HB.out)) hb); clear BK386; clear HB; have BK386 := n0_; have HB := n1_; clear n0_ n1_; (try clear hb); (try clear hb2); (try clear hk); (try clear hi))))
      go_meet
      case rel => exact ⟨_, (true), (by first | rfl | (simp; done) | (simp [*]; done)), H', ⟨by first | omega | exact Nat.le_refl _⟩, ⟨by (with_reducible repeat (first | refine blk_drewN ?_ _ | refine blk_drew ?_ | refine blk_alloc ?_ _)); exact BK386.out⟩, ⟨by repeat (first | (with_reducible first | exact HB.out | apply below_alloc | apply pw_below_drewN | apply below_drew1 | refine below_set ?_ GE386.out) | exact HB.out)⟩⟩
  case rest =>
    clear HC2
    try clear p2
    try clear c5
    try clear c8
    try clear hcz11_0
    try clear hcz11_1
    try clear hcz7_0
    try clear hcz7_1
    try clear hcz9_0
    try clear hcz9_1
    try clear hfz11_0
    try clear hfz11_1
    try clear hfz7_0
    try clear hfz7_1
    try clear hfz9_0
    try clear hfz9_1
    obtain ⟨kq, x16_1, rfl, HA, HJ1, BK386, HB⟩ := hcut
    cases kq with
    | zero => exact absurd HA.out (by simp [heirloomlaw11_ReachPending.j0])
    | succ kj1 =>
      have H := HA.out
      clear HA
      simp only [heirloomlaw11_ReachPending.j0] at H
      by_cases c13 : x16_1 = true
      · subst c13
        have H1 : ((heirloomlaw11_alive.f).bind fun t389 => (some t389)) = some r := by rw [if_pos rfl] at H; exact H
        clear H
        have H := H1
        clear H1
        replace H := Option.bind_eq_some_iff.mp H
        obtain ⟨t389, A140, H⟩ := H
        replace H : (some t389) = some r := H
        have A14 := Aside0.mk A140
        clear A140
        obtain rfl := Option.some.inj H
        go_wp2_with (first | (go_at_call 11; (with_reducible refine (heirloomlaw11_alive.calls  t389 _ A14.out).mono ?_); rintro e w15 ⟨rfl, hb⟩; have n0_ := Aside0.mk (blk_below (g := gb386) (o := .cells #[.slice A0_0 l0_0.length c0_0, .slice A0_1 l0_1.length c0_1] 25 (0, 0)) (by (with_reducible repeat (first | refine blk_drewN ?_ _ | refine blk_drew ?_ | refine blk_alloc ?_ _)); exact BK386.out) hb); have n1_ := Aside0.mk (below_step (by repeat (first | (with_reducible first | exact HB.out | apply below_alloc | apply pw_below_drewN | apply below_drew1 | refine below_set ?_ GE386.out) | exact HB.out)) hb); clear BK386; clear HB; have BK386 := n0_; have HB := n1_; clear n0_ n1_; (try clear hb); (try clear hb2); (try clear hk); (try clear hi)))
        repeat (go_quiet (first | (go_at_call 11; (with_reducible refine (heirloomlaw11_alive.calls  t389 _ A14.out).mono ?_); rintro e w15 ⟨rfl, hb⟩; have n0_ := Aside0.mk (blk_below (g := gb386) (o := .cells #[.slice A0_0 l0_0.length c0_0, .slice A0_1 l0_1.length c0_1] 25 (0, 0)) (by (with_reducible repeat (first | refine blk_drewN ?_ _ | refine blk_drew ?_ | refine blk_alloc ?_ _)); exact BK386.out) hb); have n1_ := Aside0.mk (below_step (by repeat (first | (with_reducible first | exact HB.out | apply below_alloc | apply pw_below_drewN | apply below_drew1 | refine below_set ?_ GE386.out) | exact HB.out)) hb); clear BK386; clear HB; have BK386 := n0_; have HB := n1_; clear n0_ n1_; (try clear hb); (try clear hb2); (try clear hk); (try clear hi))); try go_wp2_with (first | (go_at_call 11; (with_reducible refine (heirloomlaw11_alive.calls  t389 _ A14.out).mono ?_); rintro e w15 ⟨rfl, hb⟩; have n0_ := Aside0.mk (blk_below (g := gb386) (o := .cells #[.slice A0_0 l0_0.length c0_0, .slice A0_1 l0_1.length c0_1] 25 (0, 0)) (by (with_reducible repeat (first | refine blk_drewN ?_ _ | refine blk_drew ?_ | refine blk_alloc ?_ _)); exact BK386.out) hb); have n1_ := Aside0.mk (below_step (by repeat (first | (with_reducible first | exact HB.out | apply below_alloc | apply pw_below_drewN | apply below_drew1 | refine below_set ?_ GE386.out) | exact HB.out)) hb); clear BK386; clear HB; have BK386 := n0_; have HB := n1_; clear n0_ n1_; (try clear hb); (try clear hb2); (try clear hk); (try clear hi))))
        go_ret
        exact ⟨by first | rfl | (simp [errW_none, errW_some] <;> rfl) | (simp [*, errW_none, errW_some] <;> rfl), by repeat (first | (with_reducible first | exact HB.out | apply below_alloc | apply pw_below_drewN | apply below_drew1 | refine below_set ?_ GE386.out) | exact HB.out)⟩
      · replace c13 := Bool.eq_false_iff.mpr c13
        subst c13
        have H1 : ((reach_Collect.f l0_0 l0_1).bind fun bt390 => ((reach_Strong.f l0_0 l0_1 ([] : List Int)).bind fun t400 => (if (t400.length : Int) = (l0_0.length : Int) then (heirloomlaw11_ReachPending.j1 kj1 t400 ((bt390.1.length : Int) != (t400.length : Int)) l0_0 l0_1 bt390.1 bt390.2.1 bt390.2.2) else (heirloomlaw11_ReachPending.j1 kj1 t400 true l0_0 l0_1 bt390.1 bt390.2.1 bt390.2.2)))) = some r := by rw [if_neg (show ¬ (false = true) by decide)] at H; exact H
        clear H
        have H := H1
        clear H1
        replace H := Option.bind_eq_some_iff.mp H
        obtain ⟨⟨t390, t393, t396⟩, A160, H⟩ := H
        replace H : ((reach_Strong.f l0_0 l0_1 ([] : List Int)).bind fun t400 => (if (t400.length : Int) = (l0_0.length : Int) then (heirloomlaw11_ReachPending.j1 kj1 t400 ((t390.length : Int) != (t400.length : Int)) l0_0 l0_1 t390 t393 t396) else (heirloomlaw11_ReachPending.j1 kj1 t400 true l0_0 l0_1 t390 t393 t396))) = some r := H
        have A16 := Aside0.mk A160
        clear A160
        replace H := Option.bind_eq_some_iff.mp H
        obtain ⟨t400, A170, H⟩ := H
        replace H : (if (t400.length : Int) = (l0_0.length : Int) then (heirloomlaw11_ReachPending.j1 kj1 t400 ((t390.length : Int) != (t400.length : Int)) l0_0 l0_1 t390 t393 t396) else (heirloomlaw11_ReachPending.j1 kj1 t400 true l0_0 l0_1 t390 t393 t396)) = some r := H
        have A17 := Aside0.mk A170
        clear A170
        have HC18 := Aside0.mk H
        clear H
        have hcz19_0 : wc.cell? ⟨gb386, 0, none⟩ = some (.slice A0_0 l0_0.length c0_0) := (blk_cell BK386.out 0).trans rfl
        have hcz19_1 : wc.cell? ⟨gb386, 1, none⟩ = some (.slice A0_1 l0_1.length c0_1) := (blk_cell BK386.out 1).trans rfl
        have hfz19_0 := blk_frozen BK386.out 0
        have hfz19_1 := blk_frozen BK386.out 1
        go_upto_region 5 with (first | (go_at_call 18; (with_reducible refine (reach_Collect.calls _ _ l0_0 _ _ l0_1 t390 t393 t396 _ ?side1 ?side2 ?side3 ?side4 A16.out).mono ?_); (case side1 => repeat (first | exact (Kd.C_below HR0_0.out HB.out) | (with_reducible refine Kd.C_alloc ?_ _) | (with_reducible refine Kd.C_drewN ?_ _) | (with_reducible refine Kd.C_drew ?_))); (case side2 => exact HC0_0.out); (case side3 => repeat (first | exact (Kd.C_below HR0_1.out HB.out) | (with_reducible refine Kd.C_alloc ?_ _) | (with_reducible refine Kd.C_drewN ?_ _) | (with_reducible refine Kd.C_drew ?_))); (case side4 => exact HC0_1.out); rintro e w20 ⟨v391, v394, v397, rfl, ho0, ho1, ho2, hb⟩; have n0_ := Aside0.mk (Kd.R_lower ho0 (below_size (by repeat (first | (with_reducible first | exact HB.out | apply below_alloc | apply pw_below_drewN | apply below_drew1 | refine below_set ?_ GE386.out) | exact HB.out)))); have n1_ := Aside0.mk (Kd.R_lower ho1 (below_size (by repeat (first | (with_reducible first | exact HB.out | apply below_alloc | apply pw_below_drewN | apply below_drew1 | refine below_set ?_ GE386.out) | exact HB.out)))); have n2_ := Aside0.mk (Kd.R_lower ho2 (below_size (by repeat (first | (with_reducible first | exact HB.out | apply below_alloc | apply pw_below_drewN | apply below_drew1 | refine below_set ?_ GE386.out) | exact HB.out)))); have n3_ := Aside0.mk (blk_below (g := gb386) (o := .cells #[.slice A0_0 l0_0.length c0_0, .slice A0_1 l0_1.length c0_1] 25 (0, 0)) (by (with_reducible repeat (first | refine blk_drewN ?_ _ | refine blk_drew ?_ | refine blk_alloc ?_ _)); exact BK386.out) hb); have n4_ := Aside0.mk (below_step (by repeat (first | (with_reducible first | exact HB.out | apply below_alloc | apply pw_below_drewN | apply below_drew1 | refine below_set ?_ GE386.out) | exact HB.out)) hb); clear BK386; clear HB; have HO392 := n0_; have HO395 := n1_; have HO398 := n2_; have BK386 := n3_; have HB := n4_; clear n0_ n1_ n2_ n3_ n4_; (try clear hb); (try clear hb2); (try clear hk); (try clear hi); (try clear ho0); (try clear ho1); (try clear ho2)) | ((with_reducible refine gate_dst (N := 3) rfl ?_); (try (refine gate_guard (by rfl) ?_; dsimp only)); refine box_event ?hg (N := 3) ?hd (cs := #[.slice none 0 0, .slice none 0 0, .slice none 0 0]) (t := 37) ?hr ?_; (case hd => rfl); (case hg => rfl); (case hr => first | (go_simp; done) | (go_simp; rfl)); intro gb399 hg w21 hbox hb; have n0_ := Aside0.mk (Kd.R_below (by (with_reducible repeat (first | apply Kd.R_alloc | apply Kd.R_drewN | apply Kd.R_drew)); exact HO392.out) hb); have n1_ := Aside0.mk (Kd.R_below (by (with_reducible repeat (first | apply Kd.R_alloc | apply Kd.R_drewN | apply Kd.R_drew)); exact HO395.out) hb); have n2_ := Aside0.mk (Kd.R_below (by (with_reducible repeat (first | apply Kd.R_alloc | apply Kd.R_drewN | apply Kd.R_drew)); exact HO398.out) hb); have n3_ := Aside0.mk (blk_below (g := gb386) (o := .cells #[.slice A0_0 l0_0.length c0_0, .slice A0_1 l0_1.length c0_1] 25 (0, 0)) (by (with_reducible repeat (first | refine blk_drewN ?_ _ | refine blk_drew ?_ | refine blk_alloc ?_ _)); exact BK386.out) hb); have n4_ := Aside0.mk (below_step (by repeat (first | (with_reducible first | exact HB.out | apply below_alloc | apply pw_below_drewN | apply below_drew1 | refine below_set ?_ GE386.out) | exact HB.out)) hb); have n5_ := Aside0.mk (hbox); have n6_ := Aside0.mk ((by rw [hg]; exact (below_size (by repeat (first | (with_reducible first | exact HB.out | apply below_alloc | apply pw_below_drewN | apply below_drew1 | refine below_set ?_ GE386.out) | exact HB.out))) : w.heap.size ≤ gb399)); have n7_ := Aside0.mk ((by rw [hg]; exact (below_size (by repeat (first | (with_reducible first | exact HB.out | apply below_alloc | apply pw_below_drewN | apply below_drew1 | refine below_set ?_ GE386.out) | exact HB.out))) : w.heap.size ≤ gb399)); have n8_ := Aside0.mk ((by rw [hg]; exact Nat.ne_of_lt (blk_lt (g := gb386) (o := .cells #[.slice A0_0 l0_0.length c0_0, .slice A0_1 l0_1.length c0_1] 25 (0, 0)) (by (with_reducible repeat (first | refine blk_drewN ?_ _ | refine blk_drew ?_ | refine blk_alloc ?_ _)); exact BK386.out)) : gb386 ≠ gb399)); have n9_ := Aside0.mk ((by rw [hg]; exact Nat.ne_of_gt (blk_lt (g := gb386) (o := .cells #[.slice A0_0 l0_0.length c0_0, .slice A0_1 l0_1.length c0_1] 25 (0, 0)) (by (with_reducible repeat (first | refine blk_drewN ?_ _ | refine blk_drew ?_ | refine blk_alloc ?_ _)); exact BK386.out)) : gb399 ≠ gb386)); clear HO392; clear HO395; clear HO398; clear BK386; clear HB; have HO392 := n0_; have HO395 := n1_; have HO398 := n2_; have BK386 := n3_; have HB := n4_; have BK399 := n5_; have GW399 := n6_; have GE399 := n7_; have NB386_399 := n8_; have NB399_386 := n9_; clear n0_ n1_ n2_ n3_ n4_ n5_ n6_ n7_ n8_ n9_; clear hb hbox hg; obtain ⟨Ao22, co22, eo22⟩ := Kd.R_slice HO392.out; subst eo22; have hnb23 := NB399_386.out; have hnc23 := NB386_399.out; have hcz24_0 : w21.cell? ⟨gb399, 0, none⟩ = some (.slice none 0 0) := (blk_cell BK399.out 0).trans rfl; have hcz24_1 : w21.cell? ⟨gb399, 1, none⟩ = some (.slice none 0 0) := (blk_cell BK399.out 1).trans rfl; have hcz24_2 : w21.cell? ⟨gb399, 2, none⟩ = some (.slice none 0 0) := (blk_cell BK399.out 2).trans rfl; have hfz24_0 := blk_frozen BK399.out 0; have hfz24_1 := blk_frozen BK399.out 1; have hfz24_2 := blk_frozen BK399.out 2; obtain ⟨Ao25, co25, eo25⟩ := Kd.R_slice HO395.out; subst eo25; obtain ⟨Ao26, co26, eo26⟩ := Kd.R_slice HO398.out; subst eo26; have hcz27_0 : w21.cell? ⟨gb386, 0, none⟩ = some (.slice A0_0 l0_0.length c0_0) := (blk_cell BK386.out 0).trans rfl; have hcz27_1 : w21.cell? ⟨gb386, 1, none⟩ = some (.slice A0_1 l0_1.length c0_1) := (blk_cell BK386.out 1).trans rfl; have hfz27_0 := blk_frozen BK386.out 0; have hfz27_1 := blk_frozen BK386.out 1) | (go_at_call 13; (refine (reach_Strong.calls _ _ l0_0 _ _ l0_1 _ _ ([] : List Int) t400 _ ?side1 ?side2 ?side3 ?side4 ?side5 ?side6 A17.out).mono ?_); (case side1 => exact Kd.C_below HR0_0.out (by repeat (first | (with_reducible first | exact HB.out | apply below_alloc | apply pw_below_drewN | apply below_drew1 | refine below_set ?_ GE386.out | refine below_set ?_ GE399.out) | exact HB.out))); (case side2 => exact HC0_0.out); (case side3 => exact Kd.C_below HR0_1.out (by repeat (first | (with_reducible first | exact HB.out | apply below_alloc | apply pw_below_drewN | apply below_drew1 | refine below_set ?_ GE386.out | refine below_set ?_ GE399.out) | exact HB.out))); (case side4 => exact HC0_1.out); (case side5 => exact Kd.C_nil _ _); (case side6 => exact Nat.le_refl _); rintro e w28 ⟨v401, rfl, ho0, hb⟩; have n0_ := Aside0.mk (Kd.R_elder' (by (with_reducible repeat (first | apply Kd.R_alloc | apply Kd.R_drewN | apply Kd.R_drew)); exact (Kd.R_mono (Kd.R_far (p := ⟨gb399, 2, none⟩) (Kd.R_far (p := ⟨gb399, 1, none⟩) (Kd.R_far (p := ⟨gb399, 0, none⟩) (Kd.R_types HO392.out BK399.out (by decide)) (fun _ hk => hk.2) (.slice Ao22 t390.length co22)) (fun _ hk => hk.2) (.slice Ao25 t393.length co25)) (fun _ hk => hk.2) (.slice Ao26 t396.length co26)) (fun _ h_ => h_.1))) (Kd.R_base ho0) hb); have n1_ := Aside0.mk (Kd.R_below (by (with_reducible repeat (first | apply Kd.R_alloc | apply Kd.R_drewN | apply Kd.R_drew)); exact (Kd.R_mono (Kd.R_far (p := ⟨gb399, 2, none⟩) (Kd.R_far (p := ⟨gb399, 1, none⟩) (Kd.R_far (p := ⟨gb399, 0, none⟩) (Kd.R_types HO395.out BK399.out (by decide)) (fun _ hk => hk.2) (.slice Ao22 t390.length co22)) (fun _ hk => hk.2) (.slice Ao25 t393.length co25)) (fun _ hk => hk.2) (.slice Ao26 t396.length co26)) (fun _ h_ => h_.1))) hb); have n2_ := Aside0.mk (Kd.R_below (by (with_reducible repeat (first | apply Kd.R_alloc | apply Kd.R_drewN | apply Kd.R_drew)); exact (Kd.R_mono (Kd.R_far (p := ⟨gb399, 2, none⟩) (Kd.R_far (p := ⟨gb399, 1, none⟩) (Kd.R_far (p := ⟨gb399, 0, none⟩) (Kd.R_types HO398.out BK399.out (by decide)) (fun _ hk => hk.2) (.slice Ao22 t390.length co22)) (fun _ hk => hk.2) (.slice Ao25 t393.length co25)) (fun _ hk => hk.2) (.slice Ao26 t396.length co26)) (fun _ h_ => h_.1))) hb); have n3_ := Aside0.mk (Kd.R_lower (Kd.R_new' ho0 (Kd.R_lt (by (with_reducible repeat (first | apply Kd.R_alloc | apply Kd.R_drewN | apply Kd.R_drew)); exact (Kd.R_mono (Kd.R_far (p := ⟨gb399, 2, none⟩) (Kd.R_far (p := ⟨gb399, 1, none⟩) (Kd.R_far (p := ⟨gb399, 0, none⟩) (Kd.R_types HO392.out BK399.out (by decide)) (fun _ hk => hk.2) (.slice Ao22 t390.length co22)) (fun _ hk => hk.2) (.slice Ao25 t393.length co25)) (fun _ hk => hk.2) (.slice Ao26 t396.length co26)) (fun _ h_ => h_.1))))) (below_size (by repeat (first | (with_reducible first | exact HB.out | apply below_alloc | apply pw_below_drewN | apply below_drew1 | refine below_set ?_ GE386.out | refine below_set ?_ GE399.out) | exact HB.out)))); have n4_ := Aside0.mk (blk_below (g := gb386) (o := .cells #[.slice A0_0 l0_0.length c0_0, .slice A0_1 l0_1.length c0_1] 25 (0, 0)) (by (with_reducible repeat (first | refine blk_drewN ?_ _ | refine blk_drew ?_ | refine blk_alloc ?_ _)); refine blk_far ?_ NB386_399.out _; (with_reducible repeat (first | refine blk_drewN ?_ _ | refine blk_drew ?_ | refine blk_alloc ?_ _)); refine blk_far ?_ NB386_399.out _; (with_reducible repeat (first | refine blk_drewN ?_ _ | refine blk_drew ?_ | refine blk_alloc ?_ _)); refine blk_far ?_ NB386_399.out _; (with_reducible repeat (first | refine blk_drewN ?_ _ | refine blk_drew ?_ | refine blk_alloc ?_ _)); exact BK386.out) hb); have n5_ := Aside0.mk (blk_below (g := gb399) (o := .cells #[.slice Ao22 t390.length co22, .slice Ao25 t393.length co25, .slice Ao26 t396.length co26] 37 (0, 0)) (by (with_reducible repeat (first | refine blk_drewN ?_ _ | refine blk_drew ?_ | refine blk_alloc ?_ _)); refine blk_put (cs := #[.slice Ao22 t390.length co22, .slice Ao25 t393.length co25, .slice none 0 0]) ?_ 2 _ rfl; (with_reducible repeat (first | refine blk_drewN ?_ _ | refine blk_drew ?_ | refine blk_alloc ?_ _)); refine blk_put (cs := #[.slice Ao22 t390.length co22, .slice none 0 0, .slice none 0 0]) ?_ 1 _ rfl; (with_reducible repeat (first | refine blk_drewN ?_ _ | refine blk_drew ?_ | refine blk_alloc ?_ _)); refine blk_put (cs := #[.slice none 0 0, .slice none 0 0, .slice none 0 0]) ?_ 0 _ rfl; (with_reducible repeat (first | refine blk_drewN ?_ _ | refine blk_drew ?_ | refine blk_alloc ?_ _)); exact BK399.out) hb); have n6_ := Aside0.mk (below_step (by repeat (first | (with_reducible first | exact HB.out | apply below_alloc | apply pw_below_drewN | apply below_drew1 | refine below_set ?_ GE386.out | refine below_set ?_ GE399.out) | exact HB.out)) hb); clear HO392; clear HO395; clear HO398; clear BK386; clear BK399; clear HB; have HO392 := n0_; have HO395 := n1_; have HO398 := n2_; have HO402 := n3_; have BK386 := n4_; have BK399 := n5_; have HB := n6_; clear n0_ n1_ n2_ n3_ n4_ n5_ n6_; (try clear hb); (try clear hb2); (try clear hk); (try clear hi); (try clear ho0)))
        repeat (go_quiet (first | (go_at_call 18; (with_reducible refine (reach_Collect.calls _ _ l0_0 _ _ l0_1 t390 t393 t396 _ ?side1 ?side2 ?side3 ?side4 A16.out).mono ?_); (case side1 => repeat (first | exact (Kd.C_below HR0_0.out HB.out) | (with_reducible refine Kd.C_alloc ?_ _) | (with_reducible refine Kd.C_drewN ?_ _) | (with_reducible refine Kd.C_drew ?_))); (case side2 => exact HC0_0.out); (case side3 => repeat (first | exact (Kd.C_below HR0_1.out HB.out) | (with_reducible refine Kd.C_alloc ?_ _) | (with_reducible refine Kd.C_drewN ?_ _) | (with_reducible refine Kd.C_drew ?_))); (case side4 => exact HC0_1.out); rintro e w20 ⟨v391, v394, v397, rfl, ho0, ho1, ho2, hb⟩; have n0_ := Aside0.mk (Kd.R_lower ho0 (below_size (by repeat (first | (with_reducible first | exact HB.out | apply below_alloc | apply pw_below_drewN | apply below_drew1 | refine below_set ?_ GE386.out) | exact HB.out)))); have n1_ := Aside0.mk (Kd.R_lower ho1 (below_size (by repeat (first | (with_reducible first | exact HB.out | apply below_alloc | apply pw_below_drewN | apply below_drew1 | refine below_set ?_ GE386.out) | exact HB.out)))); have n2_ := Aside0.mk (Kd.R_lower ho2 (below_size (by repeat (first | (with_reducible first | exact HB.out | apply below_alloc | apply pw_below_drewN | apply below_drew1 | refine below_set ?_ GE386.out) | exact HB.out)))); have n3_ := Aside0.mk (blk_below (g := gb386) (o := .cells #[.slice A0_0 l0_0.length c0_0, .slice A0_1 l0_1.length c0_1] 25 (0, 0)) (by (with_reducible repeat (first | refine blk_drewN ?_ _ | refine blk_drew ?_ | refine blk_alloc ?_ _)); exact BK386.out) hb); have n4_ := Aside0.mk (below_step (by repeat (first | (with_reducible first | exact HB.out | apply below_alloc | apply pw_below_drewN | apply below_drew1 | refine below_set ?_ GE386.out) | exact HB.out)) hb); clear BK386; clear HB; have HO392 := n0_; have HO395 := n1_; have HO398 := n2_; have BK386 := n3_; have HB := n4_; clear n0_ n1_ n2_ n3_ n4_; (try clear hb); (try clear hb2); (try clear hk); (try clear hi); (try clear ho0); (try clear ho1); (try clear ho2)) | ((with_reducible refine gate_dst (N := 3) rfl ?_); (try (refine gate_guard (by rfl) ?_; dsimp only)); refine box_event ?hg (N := 3) ?hd (cs := #[.slice none 0 0, .slice none 0 0, .slice none 0 0]) (t := 37) ?hr ?_; (case hd => rfl); (case hg => rfl); (case hr => first | (go_simp; done) | (go_simp; rfl)); intro gb399 hg w21 hbox hb; have n0_ := Aside0.mk (Kd.R_below (by (with_reducible repeat (first | apply Kd.R_alloc | apply Kd.R_drewN | apply Kd.R_drew)); exact HO392.out) hb); have n1_ := Aside0.mk (Kd.R_below (by (with_reducible repeat (first | apply Kd.R_alloc | apply Kd.R_drewN | apply Kd.R_drew)); exact HO395.out) hb); have n2_ := Aside0.mk (Kd.R_below (by (with_reducible repeat (first | apply Kd.R_alloc | apply Kd.R_drewN | apply Kd.R_drew)); exact HO398.out) hb); have n3_ := Aside0.mk (blk_below (g := gb386) (o := .cells #[.slice A0_0 l0_0.length c0_0, .slice A0_1 l0_1.length c0_1] 25 (0, 0)) (by (with_reducible repeat (first | refine blk_drewN ?_ _ | refine blk_drew ?_ | refine blk_alloc ?_ _)); exact BK386.out) hb); have n4_ := Aside0.mk (below_step (by repeat (first | (with_reducible first | exact HB.out | apply below_alloc | apply pw_below_drewN | apply below_drew1 | refine below_set ?_ GE386.out) | exact HB.out)) hb); have n5_ := Aside0.mk (hbox); have n6_ := Aside0.mk ((by rw [hg]; exact (below_size (by repeat (first | (with_reducible first | exact HB.out | apply below_alloc | apply pw_below_drewN | apply below_drew1 | refine below_set ?_ GE386.out) | exact HB.out))) : w.heap.size ≤ gb399)); have n7_ := Aside0.mk ((by rw [hg]; exact (below_size (by repeat (first | (with_reducible first | exact HB.out | apply below_alloc | apply pw_below_drewN | apply below_drew1 | refine below_set ?_ GE386.out) | exact HB.out))) : w.heap.size ≤ gb399)); have n8_ := Aside0.mk ((by rw [hg]; exact Nat.ne_of_lt (blk_lt (g := gb386) (o := .cells #[.slice A0_0 l0_0.length c0_0, .slice A0_1 l0_1.length c0_1] 25 (0, 0)) (by (with_reducible repeat (first | refine blk_drewN ?_ _ | refine blk_drew ?_ | refine blk_alloc ?_ _)); exact BK386.out)) : gb386 ≠ gb399)); have n9_ := Aside0.mk ((by rw [hg]; exact Nat.ne_of_gt (blk_lt (g := gb386) (o := .cells #[.slice A0_0 l0_0.length c0_0, .slice A0_1 l0_1.length c0_1] 25 (0, 0)) (by (with_reducible repeat (first | refine blk_drewN ?_ _ | refine blk_drew ?_ | refine blk_alloc ?_ _)); exact BK386.out)) : gb399 ≠ gb386)); clear HO392; clear HO395; clear HO398; clear BK386; clear HB; have HO392 := n0_; have HO395 := n1_; have HO398 := n2_; have BK386 := n3_; have HB := n4_; have BK399 := n5_; have GW399 := n6_; have GE399 := n7_; have NB386_399 := n8_; have NB399_386 := n9_; clear n0_ n1_ n2_ n3_ n4_ n5_ n6_ n7_ n8_ n9_; clear hb hbox hg; obtain ⟨Ao22, co22, eo22⟩ := Kd.R_slice HO392.out; subst eo22; have hnb23 := NB399_386.out; have hnc23 := NB386_399.out; have hcz24_0 : w21.cell? ⟨gb399, 0, none⟩ = some (.slice none 0 0) := (blk_cell BK399.out 0).trans rfl; have hcz24_1 : w21.cell? ⟨gb399, 1, none⟩ = some (.slice none 0 0) := (blk_cell BK399.out 1).trans rfl; have hcz24_2 : w21.cell? ⟨gb399, 2, none⟩ = some (.slice none 0 0) := (blk_cell BK399.out 2).trans rfl; have hfz24_0 := blk_frozen BK399.out 0; have hfz24_1 := blk_frozen BK399.out 1; have hfz24_2 := blk_frozen BK399.out 2; obtain ⟨Ao25, co25, eo25⟩ := Kd.R_slice HO395.out; subst eo25; obtain ⟨Ao26, co26, eo26⟩ := Kd.R_slice HO398.out; subst eo26; have hcz27_0 : w21.cell? ⟨gb386, 0, none⟩ = some (.slice A0_0 l0_0.length c0_0) := (blk_cell BK386.out 0).trans rfl; have hcz27_1 : w21.cell? ⟨gb386, 1, none⟩ = some (.slice A0_1 l0_1.length c0_1) := (blk_cell BK386.out 1).trans rfl; have hfz27_0 := blk_frozen BK386.out 0; have hfz27_1 := blk_frozen BK386.out 1) | (go_at_call 13; (refine (reach_Strong.calls _ _ l0_0 _ _ l0_1 _ _ ([] : List Int) t400 _ ?side1 ?side2 ?side3 ?side4 ?side5 ?side6 A17.out).mono ?_); (case side1 => exact Kd.C_below HR0_0.out (by repeat (first | (with_reducible first | exact HB.out | apply below_alloc | apply pw_below_drewN | apply below_drew1 | refine below_set ?_ GE386.out | refine below_set ?_ GE399.out) | exact HB.out))); (case side2 => exact HC0_0.out); (case side3 => exact Kd.C_below HR0_1.out (by repeat (first | (with_reducible first | exact HB.out | apply below_alloc | apply pw_below_drewN | apply below_drew1 | refine below_set ?_ GE386.out | refine below_set ?_ GE399.out) | exact HB.out))); (case side4 => exact HC0_1.out); (case side5 => exact Kd.C_nil _ _); (case side6 => exact Nat.le_refl _); rintro e w28 ⟨v401, rfl, ho0, hb⟩; have n0_ := Aside0.mk (Kd.R_elder' (by (with_reducible repeat (first | apply Kd.R_alloc | apply Kd.R_drewN | apply Kd.R_drew)); exact (Kd.R_mono (Kd.R_far (p := ⟨gb399, 2, none⟩) (Kd.R_far (p := ⟨gb399, 1, none⟩) (Kd.R_far (p := ⟨gb399, 0, none⟩) (Kd.R_types HO392.out BK399.out (by decide)) (fun _ hk => hk.2) (.slice Ao22 t390.length co22)) (fun _ hk => hk.2) (.slice Ao25 t393.length co25)) (fun _ hk => hk.2) (.slice Ao26 t396.length co26)) (fun _ h_ => h_.1))) (Kd.R_base ho0) hb); have n1_ := Aside0.mk (Kd.R_below (by (with_reducible repeat (first | apply Kd.R_alloc | apply Kd.R_drewN | apply Kd.R_drew)); exact (Kd.R_mono (Kd.R_far (p := ⟨gb399, 2, none⟩) (Kd.R_far (p := ⟨gb399, 1, none⟩) (Kd.R_far (p := ⟨gb399, 0, none⟩) (Kd.R_types HO395.out BK399.out (by decide)) (fun _ hk => hk.2) (.slice Ao22 t390.length co22)) (fun _ hk => hk.2) (.slice Ao25 t393.length co25)) (fun _ hk => hk.2) (.slice Ao26 t396.length co26)) (fun _ h_ => h_.1))) hb); have n2_ := Aside0.mk (Kd.R_below (by (with_reducible repeat (first | apply Kd.R_alloc | apply Kd.R_drewN | apply Kd.R_drew)); exact (Kd.R_mono (Kd.R_far (p := ⟨gb399, 2, none⟩) (Kd.R_far (p := ⟨gb399, 1, none⟩) (Kd.R_far (p := ⟨gb399, 0, none⟩) (Kd.R_types HO398.out BK399.out (by decide)) (fun _ hk => hk.2) (.slice Ao22 t390.length co22)) (fun _ hk => hk.2) (.slice Ao25 t393.length co25)) (fun _ hk => hk.2) (.slice Ao26 t396.length co26)) (fun _ h_ => h_.1))) hb); have n3_ := Aside0.mk (Kd.R_lower (Kd.R_new' ho0 (Kd.R_lt (by (with_reducible repeat (first | apply Kd.R_alloc | apply Kd.R_drewN | apply Kd.R_drew)); exact (Kd.R_mono (Kd.R_far (p := ⟨gb399, 2, none⟩) (Kd.R_far (p := ⟨gb399, 1, none⟩) (Kd.R_far (p := ⟨gb399, 0, none⟩) (Kd.R_types HO392.out BK399.out (by decide)) (fun _ hk => hk.2) (.slice Ao22 t390.length co22)) (fun _ hk => hk.2) (.slice Ao25 t393.length co25)) (fun _ hk => hk.2) (.slice Ao26 t396.length co26)) (fun _ h_ => h_.1))))) (below_size (by repeat (first | (with_reducible first | exact HB.out | apply below_alloc | apply pw_below_drewN | apply below_drew1 | refine below_set ?_ GE386.out | refine below_set ?_ GE399.out) | exact HB.out)))); have n4_ := Aside0.mk (blk_below (g := gb386) (o := .cells #[.slice A0_0 l0_0.length c0_0, .slice A0_1 l0_1.length c0_1] 25 (0, 0)) (by (with_reducible repeat (first | refine blk_drewN ?_ _ | refine blk_drew ?_ | refine blk_alloc ?_ _)); refine blk_far ?_ NB386_399.out _; (with_reducible repeat (first | refine blk_drewN ?_ _ | refine blk_drew ?_ | refine blk_alloc ?_ _)); refine blk_far ?_ NB386_399.out _; (with_reducible repeat (first | refine blk_drewN ?_ _ | refine blk_drew ?_ | refine blk_alloc ?_ _)); refine blk_far ?_ NB386_399.out _; (with_reducible repeat (first | refine blk_drewN ?_ _ | refine blk_drew ?_ | refine blk_alloc ?_ _)); exact BK386.out) hb); have n5_ := Aside0.mk (blk_below (g := gb399) (o := .cells #[.slice Ao22 t390.length co22, .slice Ao25 t393.length co25, .slice Ao26 t396.length co26] 37 (0, 0)) (by (with_reducible repeat (first | refine blk_drewN ?_ _ | refine blk_drew ?_ | refine blk_alloc ?_ _)); refine blk_put (cs := #[.slice Ao22 t390.length co22, .slice Ao25 t393.length co25, .slice none 0 0]) ?_ 2 _ rfl; (with_reducible repeat (first | refine blk_drewN ?_ _ | refine blk_drew ?_ | refine blk_alloc ?_ _)); refine blk_put (cs := #[.slice Ao22 t390.length co22, .slice none 0 0, .slice none 0 0]) ?_ 1 _ rfl; (with_reducible repeat (first | refine blk_drewN ?_ _ | refine blk_drew ?_ | refine blk_alloc ?_ _)); refine blk_put (cs := #[.slice none 0 0, .slice none 0 0, .slice none 0 0]) ?_ 0 _ rfl; (with_reducible repeat (first | refine blk_drewN ?_ _ | refine blk_drew ?_ | refine blk_alloc ?_ _)); exact BK399.out) hb); have n6_ := Aside0.mk (below_step (by repeat (first | (with_reducible first | exact HB.out | apply below_alloc | apply pw_below_drewN | apply below_drew1 | refine below_set ?_ GE386.out | refine below_set ?_ GE399.out) | exact HB.out)) hb); clear HO392; clear HO395; clear HO398; clear BK386; clear BK399; clear HB; have HO392 := n0_; have HO395 := n1_; have HO398 := n2_; have HO402 := n3_; have BK386 := n4_; have BK399 := n5_; have HB := n6_; clear n0_ n1_ n2_ n3_ n4_ n5_ n6_; (try clear hb); (try clear hb2); (try clear hk); (try clear hi); (try clear ho0))); go_upto_region 5 with (first | (go_at_call 18; (with_reducible refine (reach_Collect.calls _ _ l0_0 _ _ l0_1 t390 t393 t396 _ ?side1 ?side2 ?side3 ?side4 A16.out).mono ?_); (case side1 => repeat (first | exact (Kd.C_below HR0_0.out HB.out) | (with_reducible refine Kd.C_alloc ?_ _) | (with_reducible refine Kd.C_drewN ?_ _) | (with_reducible refine Kd.C_drew ?_))); (case side2 => exact HC0_0.out); (case side3 => repeat (first | exact (Kd.C_below HR0_1.out HB.out) | (with_reducible refine Kd.C_alloc ?_ _) | (with_reducible refine Kd.C_drewN ?_ _) | (with_reducible refine Kd.C_drew ?_))); (case side4 => exact HC0_1.out); rintro e w20 ⟨v391, v394, v397, rfl, ho0, ho1, ho2, hb⟩; have n0_ := Aside0.mk (Kd.R_lower ho0 (below_size (by repeat (first | (with_reducible first | exact HB.out | apply below_alloc | apply pw_below_drewN | apply below_drew1 | refine below_set ?_ GE386.out) | exact HB.out)))); have n1_ := Aside0.mk (Kd.R_lower ho1 (below_size (by repeat (first | (with_reducible first | exact HB.out | apply below_alloc | apply pw_below_drewN | apply below_drew1 | refine below_set ?_ GE386.out) | exact HB.out)))); have n2_ := Aside0.mk (Kd.R_lower ho2 (below_size (by repeat (first | (with_reducible first | exact HB.out | apply below_alloc | apply pw_below_drewN | apply below_drew1 | refine below_set ?_ GE386.out) | exact HB.out)))); have n3_ := Aside0.mk (blk_below (g := gb386) (o := .cells #[.slice A0_0 l0_0.length c0_0, .slice A0_1 l0_1.length c0_1] 25 (0, 0)) (by (with_reducible repeat (first | refine blk_drewN ?_ _ | refine blk_drew ?_ | refine blk_alloc ?_ _)); exact BK386.out) hb); have n4_ := Aside0.mk (below_step (by repeat (first | (with_reducible first | exact HB.out | apply below_alloc | apply pw_below_drewN | apply below_drew1 | refine below_set ?_ GE386.out) | exact HB.out)) hb); clear BK386; clear HB; have HO392 := n0_; have HO395 := n1_; have HO398 := n2_; have BK386 := n3_; have HB := n4_; clear n0_ n1_ n2_ n3_ n4_; (try clear hb); (try clear hb2); (try clear hk); (try clear hi); (try clear ho0); (try clear ho1); (try clear ho2)) | ((with_reducible refine gate_dst (N := 3) rfl ?_); (try (refine gate_guard (by rfl) ?_; dsimp only)); refine box_event ?hg (N := 3) ?hd (cs := #[.slice none 0 0, .slice none 0 0, .slice none 0 0]) (t := 37) ?hr ?_; (case hd => rfl); (case hg => rfl); (case hr => first | (go_simp; done) | (go_simp; rfl)); intro gb399 hg w21 hbox hb; have n0_ := Aside0.mk (Kd.R_below (by (with_reducible repeat (first | apply Kd.R_alloc | apply Kd.R_drewN | apply Kd.R_drew)); exact HO392.out) hb); have n1_ := Aside0.mk (Kd.R_below (by (with_reducible repeat (first | apply Kd.R_alloc | apply Kd.R_drewN | apply Kd.R_drew)); exact HO395.out) hb); have n2_ := Aside0.mk (Kd.R_below (by (with_reducible repeat (first | apply Kd.R_alloc | apply Kd.R_drewN | apply Kd.R_drew)); exact HO398.out) hb); have n3_ := Aside0.mk (blk_below (g := gb386) (o := .cells #[.slice A0_0 l0_0.length c0_0, .slice A0_1 l0_1.length c0_1] 25 (0, 0)) (by (with_reducible repeat (first | refine blk_drewN ?_ _ | refine blk_drew ?_ | refine blk_alloc ?_ _)); exact BK386.out) hb); have n4_ := Aside0.mk (below_step (by repeat (first | (with_reducible first | exact HB.out | apply below_alloc | apply pw_below_drewN | apply below_drew1 | refine below_set ?_ GE386.out) | exact HB.out)) hb); have n5_ := Aside0.mk (hbox); have n6_ := Aside0.mk ((by rw [hg]; exact (below_size (by repeat (first | (with_reducible first | exact HB.out | apply below_alloc | apply pw_below_drewN | apply below_drew1 | refine below_set ?_ GE386.out) | exact HB.out))) : w.heap.size ≤ gb399)); have n7_ := Aside0.mk ((by rw [hg]; exact (below_size (by repeat (first | (with_reducible first | exact HB.out | apply below_alloc | apply pw_below_drewN | apply below_drew1 | refine below_set ?_ GE386.out) | exact HB.out))) : w.heap.size ≤ gb399)); have n8_ := Aside0.mk ((by rw [hg]; exact Nat.ne_of_lt (blk_lt (g := gb386) (o := .cells #[.slice A0_0 l0_0.length c0_0, .slice A0_1 l0_1.length c0_1] 25 (0, 0)) (by (with_reducible repeat (first | refine blk_drewN ?_ _ | refine blk_drew ?_ | refine blk_alloc ?_ _)); exact BK386.out)) : gb386 ≠ gb399)); have n9_ := Aside0.mk ((by rw [hg]; exact Nat.ne_of_gt (blk_lt (g := gb386) (o := .cells #[.slice A0_0 l0_0.length c0_0, .slice A0_1 l0_1.length c0_1] 25 (0, 0)) (by (with_reducible repeat (first | refine blk_drewN ?_ _ | refine blk_drew ?_ | refine blk_alloc ?_ _)); exact BK386.out)) : gb399 ≠ gb386)); clear HO392; clear HO395; clear HO398; clear BK386; clear HB; have HO392 := n0_; have HO395 := n1_; have HO398 := n2_; have BK386 := n3_; have HB := n4_; have BK399 := n5_; have GW399 := n6_; have GE399 := n7_; have NB386_399 := n8_; have NB399_386 := n9_; clear n0_ n1_ n2_ n3_ n4_ n5_ n6_ n7_ n8_ n9_; clear hb hbox hg; obtain ⟨Ao22, co22, eo22⟩ := Kd.R_slice HO392.out; subst eo22; have hnb23 := NB399_386.out; have hnc23 := NB386_399.out; have hcz24_0 : w21.cell? ⟨gb399, 0, none⟩ = some (.slice none 0 0) := (blk_cell BK399.out 0).trans rfl; have hcz24_1 : w21.cell? ⟨gb399, 1, none⟩ = some (.slice none 0 0) := (blk_cell BK399.out 1).trans rfl; have hcz24_2 : w21.cell? ⟨gb399, 2, none⟩ = some (.slice none 0 0) := (blk_cell BK399.out 2).trans rfl; have hfz24_0 := blk_frozen BK399.out 0; have hfz24_1 := blk_frozen BK399.out 1; have hfz24_2 := blk_frozen BK399.out 2; obtain ⟨Ao25, co25, eo25⟩ := Kd.R_slice HO395.out; subst eo25; obtain ⟨Ao26, co26, eo26⟩ := Kd.R_slice HO398.out; subst eo26; have hcz27_0 : w21.cell? ⟨gb386, 0, none⟩ = some (.slice A0_0 l0_0.length c0_0) := (blk_cell BK386.out 0).trans rfl; have hcz27_1 : w21.cell? ⟨gb386, 1, none⟩ = some (.slice A0_1 l0_1.length c0_1) := (blk_cell BK386.out 1).trans rfl; have hfz27_0 := blk_frozen BK386.out 0; have hfz27_1 := blk_frozen BK386.out 1) | (go_at_call 13; (refine (reach_Strong.calls _ _ l0_0 _ _ l0_1 _ _ ([] : List Int) t400 _ ?side1 ?side2 ?side3 ?side4 ?side5 ?side6 A17.out).mono ?_); (case side1 => exact Kd.C_below HR0_0.out (by repeat (first | (with_reducible first | exact HB.out | apply below_alloc | apply pw_below_drewN | apply below_drew1 | refine below_set ?_ GE386.out | refine below_set ?_ GE399.out) | exact HB.out))); (case side2 => exact HC0_0.out); (case side3 => exact Kd.C_below HR0_1.out (by repeat (first | (with_reducible first | exact HB.out | apply below_alloc | apply pw_below_drewN | apply below_drew1 | refine below_set ?_ GE386.out | refine below_set ?_ GE399.out) | exact HB.out))); (case side4 => exact HC0_1.out); (case side5 => exact Kd.C_nil _ _); (case side6 => exact Nat.le_refl _); rintro e w28 ⟨v401, rfl, ho0, hb⟩; have n0_ := Aside0.mk (Kd.R_elder' (by (with_reducible repeat (first | apply Kd.R_alloc | apply Kd.R_drewN | apply Kd.R_drew)); exact (Kd.R_mono (Kd.R_far (p := ⟨gb399, 2, none⟩) (Kd.R_far (p := ⟨gb399, 1, none⟩) (Kd.R_far (p := ⟨gb399, 0, none⟩) (Kd.R_types HO392.out BK399.out (by decide)) (fun _ hk => hk.2) (.slice Ao22 t390.length co22)) (fun _ hk => hk.2) (.slice Ao25 t393.length co25)) (fun _ hk => hk.2) (.slice Ao26 t396.length co26)) (fun _ h_ => h_.1))) (Kd.R_base ho0) hb); have n1_ := Aside0.mk (Kd.R_below (by (with_reducible repeat (first | apply Kd.R_alloc | apply Kd.R_drewN | apply Kd.R_drew)); exact (Kd.R_mono (Kd.R_far (p := ⟨gb399, 2, none⟩) (Kd.R_far (p := ⟨gb399, 1, none⟩) (Kd.R_far (p := ⟨gb399, 0, none⟩) (Kd.R_types HO395.out BK399.out (by decide)) (fun _ hk => hk.2) (.slice Ao22 t390.length co22)) (fun _ hk => hk.2) (.slice Ao25 t393.length co25)) (fun _ hk => hk.2) (.slice Ao26 t396.length co26)) (fun _ h_ => h_.1))) hb); have n2_ := Aside0.mk (Kd.R_below (by (with_reducible repeat (first | apply Kd.R_alloc | apply Kd.R_drewN | apply Kd.R_drew)); exact (Kd.R_mono (Kd.R_far (p := ⟨gb399, 2, none⟩) (Kd.R_far (p := ⟨gb399, 1, none⟩) (Kd.R_far (p := ⟨gb399, 0, none⟩) (Kd.R_types HO398.out BK399.out (by decide)) (fun _ hk => hk.2) (.slice Ao22 t390.length co22)) (fun _ hk => hk.2) (.slice Ao25 t393.length co25)) (fun _ hk => hk.2) (.slice Ao26 t396.length co26)) (fun _ h_ => h_.1))) hb); have n3_ := Aside0.mk (Kd.R_lower (Kd.R_new' ho0 (Kd.R_lt (by (with_reducible repeat (first | apply Kd.R_alloc | apply Kd.R_drewN | apply Kd.R_drew)); exact (Kd.R_mono (Kd.R_far (p := ⟨gb399, 2, none⟩) (Kd.R_far (p := ⟨gb399, 1, none⟩) (Kd.R_far (p := ⟨gb399, 0, none⟩) (Kd.R_types HO392.out BK399.out (by decide)) (fun _ hk => hk.2) (.slice Ao22 t390.length co22)) (fun _ hk => hk.2) (.slice Ao25 t393.length co25)) (fun _ hk => hk.2) (.slice Ao26 t396.length co26)) (fun _ h_ => h_.1))))) (below_size (by repeat (first | (with_reducible first | exact HB.out | apply below_alloc | apply pw_below_drewN | apply below_drew1 | refine below_set ?_ GE386.out | refine below_set ?_ GE399.out) | exact HB.out)))); have n4_ := Aside0.mk (blk_below (g := gb386) (o := .cells #[.slice A0_0 l0_0.length c0_0, .slice A0_1 l0_1.length c0_1] 25 (0, 0)) (by (with_reducible repeat (first | refine blk_drewN ?_ _ | refine blk_drew ?_ | refine blk_alloc ?_ _)); refine blk_far ?_ NB386_399.out _; (with_reducible repeat (first | refine blk_drewN ?_ _ | refine blk_drew ?_ | refine blk_alloc ?_ _)); refine blk_far ?_ NB386_399.out _; (with_reducible repeat (first | refine blk_drewN ?_ _ | refine blk_drew ?_ | refine blk_alloc ?_ _)); refine blk_far ?_ NB386_399.out _; (with_reducible repeat (first | refine blk_drewN ?_ _ | refine blk_drew ?_ | refine blk_alloc ?_ _)); exact BK386.out) hb); have n5_ := Aside0.mk (blk_below (g := gb399) (o := .cells #[.slice Ao22 t390.length co22, .slice Ao25 t393.length co25, .slice Ao26 t396.length co26] 37 (0, 0)) (by (with_reducible repeat (first | refine blk_drewN ?_ _ | refine blk_drew ?_ | refine blk_alloc ?_ _)); refine blk_put (cs := #[.slice Ao22 t390.length co22, .slice Ao25 t393.length co25, .slice none 0 0]) ?_ 2 _ rfl; (with_reducible repeat (first | refine blk_drewN ?_ _ | refine blk_drew ?_ | refine blk_alloc ?_ _)); refine blk_put (cs := #[.slice Ao22 t390.length co22, .slice none 0 0, .slice none 0 0]) ?_ 1 _ rfl; (with_reducible repeat (first | refine blk_drewN ?_ _ | refine blk_drew ?_ | refine blk_alloc ?_ _)); refine blk_put (cs := #[.slice none 0 0, .slice none 0 0, .slice none 0 0]) ?_ 0 _ rfl; (with_reducible repeat (first | refine blk_drewN ?_ _ | refine blk_drew ?_ | refine blk_alloc ?_ _)); exact BK399.out) hb); have n6_ := Aside0.mk (below_step (by repeat (first | (with_reducible first | exact HB.out | apply below_alloc | apply pw_below_drewN | apply below_drew1 | refine below_set ?_ GE386.out | refine below_set ?_ GE399.out) | exact HB.out)) hb); clear HO392; clear HO395; clear HO398; clear BK386; clear BK399; clear HB; have HO392 := n0_; have HO395 := n1_; have HO398 := n2_; have HO402 := n3_; have BK386 := n4_; have BK399 := n5_; have HB := n6_; clear n0_ n1_ n2_ n3_ n4_ n5_ n6_; (try clear hb); (try clear hb2); (try clear hk); (try clear hi); (try clear ho0))))
        (try simp only [Act.put, List.setIfInBounds_toArray, List.set_cons_zero, List.set_cons_succ])
        go_cut [35] (fun v35 wc => ∃ (kq : Nat) (x35_17 : Bool), v35 = .bool x35_17 ∧ Aside0 (heirloomlaw11_ReachPending.j1 kq t400 x35_17 l0_0 l0_1 t390 t393 t396 = some r) ∧ Aside0 (kq ≤ kj1) ∧ Aside0 (Kd.R Kd.bool 4 wc w.heap.size (fun k_ => some k_ ≠ ((.slice Ao22 t390.length co22) : Value).ownBlock) v401 t400) ∧ Aside0 (Kd.R Kd.bool 4 wc w.heap.size (fun k_ => some k_ ≠ (v401 : Value).ownBlock) (.slice Ao22 t390.length co22) t390) ∧ Aside0 (Kd.R (Kd.int .i64) 3 wc w.heap.size (fun _ => True) (.slice Ao25 t393.length co25) t393) ∧ Aside0 (Kd.R k49 49 wc w.heap.size (fun _ => True) (.slice Ao26 t396.length co26) t396) ∧ Aside0 (wc.heap[gb386]? = some (.cells #[(.slice A0_0 l0_0.length c0_0), (.slice A0_1 l0_1.length c0_1)] 25 (0, 0))) ∧ Aside0 (wc.heap[gb399]? = some (.cells #[(.slice Ao22 t390.length co22), (.slice Ao25 t393.length co25), (.slice Ao26 t396.length co26)] 37 (0, 0))) ∧ Aside0 (Below w.heap.size w wc))
        case first =>
          have H := HC18.out
          clear HC18
          by_cases c29 : (t400.length : Int) = (l0_0.length : Int)
          · rw [if_pos c29] at H
            have c29b0 : ((t400.length : Int) == (l0_0.length : Int)) = true := beq_iff_eq.mpr c29
            have c29b1 : ((t400.length : Int) != (l0_0.length : Int)) = false := bne_eq_false_iff_eq.mpr c29
            have c29b2 : (t400.length == l0_0.length) = true := by first | simpa using c29 | (simp at c29 ⊢; omega)
            clear c29
            (first | rw [c29b0] | (simp only [i64_w, i32_w]; rw [c29b0]) | skip)
            have H' := Aside0.mk H
            clear H
            obtain ⟨Ao30, co30, eo30⟩ := Kd.R_slice HO402.out
            subst eo30
            have hnb31 := NB386_399.out
            have hnc31 := NB399_386.out
            have hcz32_0 : w28.cell? ⟨gb386, 0, none⟩ = some (.slice A0_0 l0_0.length c0_0) := (blk_cell BK386.out 0).trans rfl
            have hcz32_1 : w28.cell? ⟨gb386, 1, none⟩ = some (.slice A0_1 l0_1.length c0_1) := (blk_cell BK386.out 1).trans rfl
            have hfz32_0 := blk_frozen BK386.out 0
            have hfz32_1 := blk_frozen BK386.out 1
            have hcz33_0 : w28.cell? ⟨gb399, 0, none⟩ = some (.slice Ao22 t390.length co22) := (blk_cell BK399.out 0).trans rfl
            have hcz33_1 : w28.cell? ⟨gb399, 1, none⟩ = some (.slice Ao25 t393.length co25) := (blk_cell BK399.out 1).trans rfl
            have hcz33_2 : w28.cell? ⟨gb399, 2, none⟩ = some (.slice Ao26 t396.length co26) := (blk_cell BK399.out 2).trans rfl
            have hfz33_0 := blk_frozen BK399.out 0
            have hfz33_1 := blk_frozen BK399.out 1
            have hfz33_2 := blk_frozen BK399.out 2
            go_wp2
            repeat (go_quiet (fail); try go_wp2)
            go_meet
            case rel => exact ⟨_, (((t390.length : Int) != (t400.length : Int))), (by first | rfl | (simp; done) | (simp [*]; done)), H', ⟨by have := HJ1.out; first | omega | exact Nat.le_refl _⟩, ⟨by (with_reducible repeat (first | apply Kd.R_alloc | apply Kd.R_drewN | apply Kd.R_drew)); exact Kd.R_mono HO402.out (fun _ hk => hk.2)⟩, ⟨by (with_reducible repeat (first | apply Kd.R_alloc | apply Kd.R_drewN | apply Kd.R_drew)); exact Kd.R_mono HO392.out (fun _ hk => hk.2)⟩, ⟨by (with_reducible repeat (first | apply Kd.R_alloc | apply Kd.R_drewN | apply Kd.R_drew)); exact HO395.out⟩, ⟨by (with_reducible repeat (first | apply Kd.R_alloc | apply Kd.R_drewN | apply Kd.R_drew)); exact HO398.out⟩, ⟨by (with_reducible repeat (first | refine blk_drewN ?_ _ | refine blk_drew ?_ | refine blk_alloc ?_ _)); exact BK386.out⟩, ⟨by (with_reducible repeat (first | refine blk_drewN ?_ _ | refine blk_drew ?_ | refine blk_alloc ?_ _)); exact BK399.out⟩, ⟨by repeat (first | (with_reducible first | exact HB.out | apply below_alloc | apply pw_below_drewN | apply below_drew1 | refine below_set ?_ GE386.out | refine below_set ?_ GE399.out) | exact HB.out)⟩⟩
          · rw [if_neg c29] at H
            have c29b0 : ((t400.length : Int) == (l0_0.length : Int)) = false := beq_eq_false_iff_ne.mpr c29
            have c29b1 : ((t400.length : Int) != (l0_0.length : Int)) = true := bne_iff_ne.mpr c29
            have c29b2 : (t400.length == l0_0.length) = false := by first | simpa using c29 | (simp at c29 ⊢; omega)
            (first | rw [c29b0] | (simp only [i64_w, i32_w]; rw [c29b0]) | skip)
            have H' := Aside0.mk H
            clear H
            obtain ⟨Ao34, co34, eo34⟩ := Kd.R_slice HO402.out
            subst eo34
            have hnb35 := NB386_399.out
            have hnc35 := NB399_386.out
            have hcz36_0 : w28.cell? ⟨gb386, 0, none⟩ = some (.slice A0_0 l0_0.length c0_0) := (blk_cell BK386.out 0).trans rfl
            have hcz36_1 : w28.cell? ⟨gb386, 1, none⟩ = some (.slice A0_1 l0_1.length c0_1) := (blk_cell BK386.out 1).trans rfl
            have hfz36_0 := blk_frozen BK386.out 0
            have hfz36_1 := blk_frozen BK386.out 1
            go_wp2
            repeat (go_quiet (fail); try go_wp2)
            go_meet
            case rel => exact ⟨_, (true), (by first | rfl | (simp; done) | (simp [*]; done)), H', ⟨by have := HJ1.out; first | omega | exact Nat.le_refl _⟩, ⟨by (with_reducible repeat (first | apply Kd.R_alloc | apply Kd.R_drewN | apply Kd.R_drew)); exact Kd.R_mono HO402.out (fun _ hk => hk.2)⟩, ⟨by (with_reducible repeat (first | apply Kd.R_alloc | apply Kd.R_drewN | apply Kd.R_drew)); exact Kd.R_mono HO392.out (fun _ hk => hk.2)⟩, ⟨by (with_reducible repeat (first | apply Kd.R_alloc | apply Kd.R_drewN | apply Kd.R_drew)); exact HO395.out⟩, ⟨by (with_reducible repeat (first | apply Kd.R_alloc | apply Kd.R_drewN | apply Kd.R_drew)); exact HO398.out⟩, ⟨by (with_reducible repeat (first | refine blk_drewN ?_ _ | refine blk_drew ?_ | refine blk_alloc ?_ _)); exact BK386.out⟩, ⟨by (with_reducible repeat (first | refine blk_drewN ?_ _ | refine blk_drew ?_ | refine blk_alloc ?_ _)); exact BK399.out⟩, ⟨by repeat (first | (with_reducible first | exact HB.out | apply below_alloc | apply pw_below_drewN | apply below_drew1 | refine below_set ?_ GE386.out | refine below_set ?_ GE399.out) | exact HB.out)⟩⟩
        case rest =>
          clear HC18
          try clear c1
          try clear c2
          try clear p2
          try clear c3
          try clear c5
          try clear c8
          try clear c13
          try clear c23
          try clear c29
          try clear c29b0
          try clear c29b1
          try clear c29b2
          try clear c31
          try clear c35
          try clear hcz11_0
          try clear hcz11_1
          try clear hcz19_0
          try clear hcz19_1
          try clear hcz24_0
          try clear hcz24_1
          try clear hcz24_2
          try clear hcz27_0
          try clear hcz27_1
          try clear hcz32_0
          try clear hcz32_1
          try clear hcz33_0
          try clear hcz33_1
          try clear hcz33_2
          try clear hcz36_0
          try clear hcz36_1
          try clear hcz7_0
          try clear hcz7_1
          try clear hcz9_0
          try clear hcz9_1
          try clear hfz11_0
          try clear hfz11_1
          try clear hfz19_0
          try clear hfz19_1
          try clear hfz24_0
          try clear hfz24_1
          try clear hfz24_2
          try clear hfz27_0
          try clear hfz27_1
          try clear hfz32_0
          try clear hfz32_1
          try clear hfz33_0
          try clear hfz33_1
          try clear hfz33_2
          try clear hfz36_0
          try clear hfz36_1
          try clear hfz7_0
          try clear hfz7_1
          try clear hfz9_0
          try clear hfz9_1
          try clear p2
          obtain ⟨kq, x35_17, rfl, HA, HJ17, HO_4, HO_400000, HO_400001, HO_400002, BK386, BK399, HB⟩ := hcut
          cases kq with
          | zero => exact absurd HA.out (by simp [heirloomlaw11_ReachPending.j1])
          | succ kj17 =>
            have H := HA.out
            clear HA
            simp only [heirloomlaw11_ReachPending.j1] at H
            by_cases c37 : x35_17 = true
            · subst c37
              have H1 : (some false) = some r := by rw [if_pos rfl] at H; exact H
              clear H
              have H := H1
              clear H1
              obtain rfl := Option.some.inj H
              go_wp2
              repeat (go_quiet (fail); try go_wp2)
              go_ret
              exact ⟨by first | rfl | (simp [errW_none, errW_some] <;> rfl) | (simp [*, errW_none, errW_some] <;> rfl), by repeat (first | (with_reducible first | exact HB.out | apply below_alloc | apply pw_below_drewN | apply below_drew1 | refine below_set ?_ GE386.out | refine below_set ?_ GE399.out) | exact HB.out)⟩
            · replace c37 := Bool.eq_false_iff.mpr c37
              subst c37
              have H1 : (heirloomlaw11_ReachPending.l0 kj17 t400 0 0 l0_0 l0_1 t390 t393 t396) = some r := by rw [if_neg (show ¬ (false = true) by decide)] at H; exact H
              clear H
              have H := H1
              clear H1
              have H' := Aside0.mk H
              clear H
              go_wp2
              repeat (go_quiet (fail); try go_wp2)
              go_loopg [5, 6] kj17 (fun kq v5 v6 w' => ∃ (x5_3 : Int) (x6_3 : Int), v5 = .int .i64 x5_3 ∧ v6 = .int .i64 x6_3 ∧ Aside0 (heirloomlaw11_ReachPending.l0 kq t400 x5_3 x6_3 l0_0 l0_1 t390 t393 t396 = some r) ∧ Aside0 (kq ≤ kj17) ∧ Aside0 (Kd.R Kd.bool 4 w' w.heap.size (fun k_ => some k_ ≠ ((.slice Ao22 t390.length co22) : Value).ownBlock) v401 t400) ∧ Aside0 (Kd.R Kd.bool 4 w' w.heap.size (fun k_ => some k_ ≠ (v401 : Value).ownBlock) (.slice Ao22 t390.length co22) t390) ∧ Aside0 (Kd.R (Kd.int .i64) 3 w' w.heap.size (fun _ => True) (.slice Ao25 t393.length co25) t393) ∧ Aside0 (Kd.R k49 49 w' w.heap.size (fun _ => True) (.slice Ao26 t396.length co26) t396) ∧ Aside0 (w'.heap[gb386]? = some (.cells #[(.slice A0_0 l0_0.length c0_0), (.slice A0_1 l0_1.length c0_1)] 25 (0, 0))) ∧ Aside0 (w'.heap[gb399]? = some (.cells #[(.slice Ao22 t390.length co22), (.slice Ao25 t393.length co25), (.slice Ao26 t396.length co26)] 37 (0, 0))) ∧ Aside0 (Below w.heap.size w w'))
              case atStart => exact ⟨(0), (0), (by first | rfl | (simp; done) | (simp [*]; done)), (by first | rfl | (simp; done) | (simp [*]; done)), H', ⟨Nat.le_refl _⟩, ⟨by (with_reducible repeat (first | apply Kd.R_alloc | apply Kd.R_drewN | apply Kd.R_drew)); exact HO_4.out⟩, ⟨by (with_reducible repeat (first | apply Kd.R_alloc | apply Kd.R_drewN | apply Kd.R_drew)); exact HO_400000.out⟩, ⟨by (with_reducible repeat (first | apply Kd.R_alloc | apply Kd.R_drewN | apply Kd.R_drew)); exact HO_400001.out⟩, ⟨by (with_reducible repeat (first | apply Kd.R_alloc | apply Kd.R_drewN | apply Kd.R_drew)); exact HO_400002.out⟩, ⟨by (with_reducible repeat (first | refine blk_drewN ?_ _ | refine blk_drew ?_ | refine blk_alloc ?_ _)); exact BK386.out⟩, ⟨by (with_reducible repeat (first | refine blk_drewN ?_ _ | refine blk_drew ?_ | refine blk_alloc ?_ _)); exact BK399.out⟩, ⟨by repeat (first | (with_reducible first | exact HB.out | apply below_alloc | apply pw_below_drewN | apply below_drew1 | refine below_set ?_ GE386.out | refine below_set ?_ GE399.out) | exact HB.out)⟩⟩
              case round =>
                clear H'
                try clear c1
                try clear c2
                try clear p2
                try clear c3
                try clear c5
                try clear c8
                try clear c13
                try clear c23
                try clear c29
                try clear c29b0
                try clear c29b1
                try clear c29b2
                try clear c31
                try clear c35
                try clear c37
                try clear hcz11_0
                try clear hcz11_1
                try clear hcz19_0
                try clear hcz19_1
                try clear hcz24_0
                try clear hcz24_1
                try clear hcz24_2
                try clear hcz27_0
                try clear hcz27_1
                try clear hcz32_0
                try clear hcz32_1
                try clear hcz33_0
                try clear hcz33_1
                try clear hcz33_2
                try clear hcz36_0
                try clear hcz36_1
                try clear hcz7_0
                try clear hcz7_1
                try clear hcz9_0
                try clear hcz9_1
                try clear hfz11_0
                try clear hfz11_1
                try clear hfz19_0
                try clear hfz19_1
                try clear hfz24_0
                try clear hfz24_1
                try clear hfz24_2
                try clear hfz27_0
                try clear hfz27_1
                try clear hfz32_0
                try clear hfz32_1
                try clear hfz33_0
                try clear hfz33_1
                try clear hfz33_2
                try clear hfz36_0
                try clear hfz36_1
                try clear hfz7_0
                try clear hfz7_1
                try clear hfz9_0
                try clear hfz9_1
                try clear p2
                obtain ⟨x5_3, x6_3, rfl, rfl, HA, HK3, HO_4, HO_400000, HO_400001, HO_400002, BK386, BK399, HB⟩ := hrel
                cases gk with
                | zero => exact absurd HA.out (by simp [heirloomlaw11_ReachPending.l0])
                | succ k3 =>
                  have H := HA.out
                  clear HA
                  simp only [heirloomlaw11_ReachPending.l0] at H
                  by_cases c38 : x6_3 < (t400.length : Int)
                  · rw [if_pos c38] at H
                    have c38b0 : decide (x6_3 < (t400.length : Int)) = true := decide_eq_true c38
                    clear c38
                    have HC39 := Aside0.mk H
                    clear H
                    obtain ⟨Ao40, co40, eo40⟩ := Kd.R_slice HO_4.out
                    subst eo40
                    go_upto_region 11 with (fail)
                    repeat (go_quiet (fail); go_upto_region 11 with (fail))
                    go_cut [55] (fun v55 wc => ∃ (kq : Nat) (x55_38 : Bool), v55 = .bool x55_38 ∧ Aside0 (heirloomlaw11_ReachPending.j3 kq t400 x5_3 x6_3 x55_38 l0_0 l0_1 t390 t393 t396 = some r) ∧ Aside0 (kq ≤ k3) ∧ Aside0 (Kd.R Kd.bool 4 wc w.heap.size (fun k_ => some k_ ≠ ((.slice Ao22 t390.length co22) : Value).ownBlock) (.slice Ao40 t400.length co40) t400) ∧ Aside0 (Kd.R Kd.bool 4 wc w.heap.size (fun k_ => some k_ ≠ ((.slice Ao40 t400.length co40) : Value).ownBlock) (.slice Ao22 t390.length co22) t390) ∧ Aside0 (Kd.R (Kd.int .i64) 3 wc w.heap.size (fun _ => True) (.slice Ao25 t393.length co25) t393) ∧ Aside0 (Kd.R k49 49 wc w.heap.size (fun _ => True) (.slice Ao26 t396.length co26) t396) ∧ Aside0 (wc.heap[gb386]? = some (.cells #[(.slice A0_0 l0_0.length c0_0), (.slice A0_1 l0_1.length c0_1)] 25 (0, 0))) ∧ Aside0 (wc.heap[gb399]? = some (.cells #[(.slice Ao22 t390.length co22), (.slice Ao25 t393.length co25), (.slice Ao26 t396.length co26)] 37 (0, 0))) ∧ Aside0 (Below w.heap.size w wc))
                    case first =>
                      have H := HC39.out
                      clear HC39
                      by_cases c41 : 0 ≤ x6_3
                      · rw [if_pos c41] at H
                        have c41b0 : decide (0 ≤ x6_3) = true := decide_eq_true c41
                        clear c41
                        (first | rw [c41b0] | (simp only [i64_w, i32_w]; rw [c41b0]) | skip)
                        by_cases c42 : x6_3 < (l0_0.length : Int)
                        · rw [if_pos c42] at H
                          have c42b0 : decide (x6_3 < (l0_0.length : Int)) = true := decide_eq_true c42
                          clear c42
                          by_cases c43 : ((rd_T43 l0_0 x6_3).f4) > 0
                          · rw [if_pos c43] at H
                            have c43b0 : decide (0 < ((rd_T43 l0_0 x6_3).f4)) = true := decide_eq_true c43
                            clear c43
                            have H' := Aside0.mk H
                            clear H
                            have hnb44 := NB386_399.out
                            have hnc44 := NB399_386.out
                            have hcz45_0 : wr.cell? ⟨gb386, 0, none⟩ = some (.slice A0_0 l0_0.length c0_0) := (blk_cell BK386.out 0).trans rfl
                            have hcz45_1 : wr.cell? ⟨gb386, 1, none⟩ = some (.slice A0_1 l0_1.length c0_1) := (blk_cell BK386.out 1).trans rfl
                            have hfz45_0 := blk_frozen BK386.out 0
                            have hfz45_1 := blk_frozen BK386.out 1
                            have p403 : 0 ≤ (x6_3 : Int) := of_decide_eq_true (by first | (with_reducible assumption) | assumption)
                            have q403 : x6_3 < (l0_0.length : Int) := of_decide_eq_true (by first | (with_reducible assumption) | assumption)
                            obtain ⟨ad403, A403_3, c403_3, e403, hx403_0, hx403_1, hx403_2, hx403_3, hx403_4, hl403_3, hi403_3⟩ := at_T43 HR0_0.out x6_3 p403 q403
                            cases e403
                            replace hx403_0 := (HB.out.cell (World.block_lt_of_cell? w _ hx403_0)).trans hx403_0
                            replace hx403_1 := (HB.out.cell (World.block_lt_of_cell? w _ hx403_1)).trans hx403_1
                            replace hx403_2 := (HB.out.cell (World.block_lt_of_cell? w _ hx403_2)).trans hx403_2
                            replace hx403_3 := (HB.out.cell (World.block_lt_of_cell? w _ hx403_3)).trans hx403_3
                            replace hx403_4 := (HB.out.cell (World.block_lt_of_cell? w _ hx403_4)).trans hx403_4
                            have HR403_3 := Aside0.mk hi403_3
                            have HC403_3 := Aside0.mk hl403_3
                            clear hi403_3 hl403_3
                            replace p403 := eq_true p403
                            replace q403 := eq_true q403
                            have p404 : 0 ≤ (x6_3 : Int) := of_decide_eq_true (by first | (with_reducible assumption) | assumption)
                            have q404 : x6_3 < (t400.length : Int) := of_decide_eq_true (by first | (with_reducible assumption) | assumption)
                            obtain ⟨ad404, e404, hx404_0⟩ := Kd.at_bool (Kd.R_reads' HO_4.out).2.2 x6_3 p404 q404
                            cases e404
                            replace p404 := eq_true p404
                            replace q404 := eq_true q404
                            go_wp2
                            repeat (go_quiet (fail); try go_wp2)
                            go_meet
                            case rel => exact ⟨_, (!(rdOf false t400 x6_3)), (by first | rfl | (simp; done) | (simp [*]; done)), H', ⟨by have := HJ1.out; have := HJ17.out; have := HK3.out; first | omega | exact Nat.le_refl _⟩, ⟨by (with_reducible repeat (first | apply Kd.R_alloc | apply Kd.R_drewN | apply Kd.R_drew)); exact HO_4.out⟩, ⟨by (with_reducible repeat (first | apply Kd.R_alloc | apply Kd.R_drewN | apply Kd.R_drew)); exact HO_400000.out⟩, ⟨by (with_reducible repeat (first | apply Kd.R_alloc | apply Kd.R_drewN | apply Kd.R_drew)); exact HO_400001.out⟩, ⟨by (with_reducible repeat (first | apply Kd.R_alloc | apply Kd.R_drewN | apply Kd.R_drew)); exact HO_400002.out⟩, ⟨by (with_reducible repeat (first | refine blk_drewN ?_ _ | refine blk_drew ?_ | refine blk_alloc ?_ _)); exact BK386.out⟩, ⟨by (with_reducible repeat (first | refine blk_drewN ?_ _ | refine blk_drew ?_ | refine blk_alloc ?_ _)); exact BK399.out⟩, ⟨by repeat (first | (with_reducible first | exact HB.out | apply below_alloc | apply pw_below_drewN | apply below_drew1 | refine below_set ?_ GE386.out | refine below_set ?_ GE399.out) | exact HB.out)⟩⟩
                          · rw [if_neg c43] at H
                            have c43b0 : decide (0 < ((rd_T43 l0_0 x6_3).f4)) = false := decide_eq_false c43
                            clear c43
                            have H' := Aside0.mk H
                            clear H
                            have hnb46 := NB386_399.out
                            have hnc46 := NB399_386.out
                            have hcz47_0 : wr.cell? ⟨gb386, 0, none⟩ = some (.slice A0_0 l0_0.length c0_0) := (blk_cell BK386.out 0).trans rfl
                            have hcz47_1 : wr.cell? ⟨gb386, 1, none⟩ = some (.slice A0_1 l0_1.length c0_1) := (blk_cell BK386.out 1).trans rfl
                            have hfz47_0 := blk_frozen BK386.out 0
                            have hfz47_1 := blk_frozen BK386.out 1
                            have p403 : 0 ≤ (x6_3 : Int) := of_decide_eq_true (by first | (with_reducible assumption) | assumption)
                            have q403 : x6_3 < (l0_0.length : Int) := of_decide_eq_true (by first | (with_reducible assumption) | assumption)
                            obtain ⟨ad403, A403_3, c403_3, e403, hx403_0, hx403_1, hx403_2, hx403_3, hx403_4, hl403_3, hi403_3⟩ := at_T43 HR0_0.out x6_3 p403 q403
                            cases e403
                            replace hx403_0 := (HB.out.cell (World.block_lt_of_cell? w _ hx403_0)).trans hx403_0
                            replace hx403_1 := (HB.out.cell (World.block_lt_of_cell? w _ hx403_1)).trans hx403_1
                            replace hx403_2 := (HB.out.cell (World.block_lt_of_cell? w _ hx403_2)).trans hx403_2
                            replace hx403_3 := (HB.out.cell (World.block_lt_of_cell? w _ hx403_3)).trans hx403_3
                            replace hx403_4 := (HB.out.cell (World.block_lt_of_cell? w _ hx403_4)).trans hx403_4
                            have HR403_3 := Aside0.mk hi403_3
                            have HC403_3 := Aside0.mk hl403_3
                            clear hi403_3 hl403_3
                            replace p403 := eq_true p403
                            replace q403 := eq_true q403
                            go_wp2
                            repeat (go_quiet (fail); try go_wp2)
                            go_meet
                            case rel => exact ⟨_, (false), (by first | rfl | (simp; done) | (simp [*]; done)), H', ⟨by have := HJ1.out; have := HJ17.out; have := HK3.out; first | omega | exact Nat.le_refl _⟩, ⟨by (with_reducible repeat (first | apply Kd.R_alloc | apply Kd.R_drewN | apply Kd.R_drew)); exact HO_4.out⟩, ⟨by (with_reducible repeat (first | apply Kd.R_alloc | apply Kd.R_drewN | apply Kd.R_drew)); exact HO_400000.out⟩, ⟨by (with_reducible repeat (first | apply Kd.R_alloc | apply Kd.R_drewN | apply Kd.R_drew)); exact HO_400001.out⟩, ⟨by (with_reducible repeat (first | apply Kd.R_alloc | apply Kd.R_drewN | apply Kd.R_drew)); exact HO_400002.out⟩, ⟨by (with_reducible repeat (first | refine blk_drewN ?_ _ | refine blk_drew ?_ | refine blk_alloc ?_ _)); exact BK386.out⟩, ⟨by (with_reducible repeat (first | refine blk_drewN ?_ _ | refine blk_drew ?_ | refine blk_alloc ?_ _)); exact BK399.out⟩, ⟨by repeat (first | (with_reducible first | exact HB.out | apply below_alloc | apply pw_below_drewN | apply below_drew1 | refine below_set ?_ GE386.out | refine below_set ?_ GE399.out) | exact HB.out)⟩⟩
                        · rw [if_neg c42] at H
                          exact absurd H (by simp)
                      · rw [if_neg c41] at H
                        exact absurd H (by simp)
                    case rest =>
                      clear HC39
                      try clear c1
                      try clear c2
                      try clear p2
                      try clear c3
                      try clear c4
                      try clear p4
                      try clear q4
                      try clear hx4
                      try clear c5
                      try clear c8
                      try clear c13
                      try clear c23
                      try clear c29
                      try clear c29b0
                      try clear c29b1
                      try clear c29b2
                      try clear c31
                      try clear c35
                      try clear c37
                      try clear c38
                      try clear c38b0
                      try clear c40
                      try clear p40
                      try clear q40
                      try clear hx40
                      try clear c41
                      try clear c41b0
                      try clear c42
                      try clear c42b0
                      try clear c43
                      try clear c43b0
                      try clear c44
                      try clear c46
                      try clear hcz11_0
                      try clear hcz11_1
                      try clear hcz19_0
                      try clear hcz19_1
                      try clear hcz24_0
                      try clear hcz24_1
                      try clear hcz24_2
                      try clear hcz27_0
                      try clear hcz27_1
                      try clear hcz32_0
                      try clear hcz32_1
                      try clear hcz33_0
                      try clear hcz33_1
                      try clear hcz33_2
                      try clear hcz36_0
                      try clear hcz36_1
                      try clear hcz45_0
                      try clear hcz45_1
                      try clear hcz47_0
                      try clear hcz47_1
                      try clear hcz7_0
                      try clear hcz7_1
                      try clear hcz9_0
                      try clear hcz9_1
                      try clear hfz11_0
                      try clear hfz11_1
                      try clear hfz19_0
                      try clear hfz19_1
                      try clear hfz24_0
                      try clear hfz24_1
                      try clear hfz24_2
                      try clear hfz27_0
                      try clear hfz27_1
                      try clear hfz32_0
                      try clear hfz32_1
                      try clear hfz33_0
                      try clear hfz33_1
                      try clear hfz33_2
                      try clear hfz36_0
                      try clear hfz36_1
                      try clear hfz45_0
                      try clear hfz45_1
                      try clear hfz47_0
                      try clear hfz47_1
                      try clear hfz7_0
                      try clear hfz7_1
                      try clear hfz9_0
                      try clear hfz9_1
                      try clear hx403_0
                      try clear hx403_1
                      try clear hx403_2
                      try clear hx403_3
                      try clear hx403_4
                      try clear hx404_0
                      try clear p2
                      try clear p403
                      try clear p404
                      try clear q403
                      try clear q404
                      obtain ⟨kq, x55_38, rfl, HA, HJ38, HO_4, HO_400000, HO_400001, HO_400002, BK386, BK399, HB⟩ := hcut
                      cases kq with
                      | zero => exact absurd HA.out (by simp [heirloomlaw11_ReachPending.j3])
                      | succ kj38 =>
                        have H := HA.out
                        clear HA
                        simp only [heirloomlaw11_ReachPending.j3] at H
                        by_cases c48 : x55_38 = true
                        · subst c48
                          have H1 : (if 0 ≤ x6_3 then (if x6_3 < (t400.length : Int) then (if rdOf false t400 x6_3 = true then (if x6_3 < (t390.length : Int) then (if rdOf false t390 x6_3 = true then (heirloomlaw11_ReachPending.l0 kj38 t400 (wrap64 (x5_3 + 1)) (wrap64 (x6_3 + 1)) l0_0 l0_1 t390 t393 t396) else (some false)) else (none)) else (heirloomlaw11_ReachPending.l0 kj38 t400 (wrap64 (x5_3 + 1)) (wrap64 (x6_3 + 1)) l0_0 l0_1 t390 t393 t396)) else (none)) else (none)) = some r := by rw [if_pos rfl] at H; exact H
                          clear H
                          have H := H1
                          clear H1
                          by_cases c49 : 0 ≤ x6_3
                          · rw [if_pos c49] at H
                            have c49b0 : decide (0 ≤ x6_3) = true := decide_eq_true c49
                            clear c49
                            by_cases c50 : x6_3 < (t400.length : Int)
                            · rw [if_pos c50] at H
                              have c50b0 : decide (x6_3 < (t400.length : Int)) = true := decide_eq_true c50
                              clear c50
                              obtain ⟨bq51, hbq51⟩ : ∃ b_ : Bool, b_ = (rdOf false t400 x6_3) := ⟨_, rfl⟩
                              replace H : (if bq51 = true then (if x6_3 < (t390.length : Int) then (if rdOf false t390 x6_3 = true then (heirloomlaw11_ReachPending.l0 kj38 t400 (wrap64 (x5_3 + 1)) (wrap64 (x6_3 + 1)) l0_0 l0_1 t390 t393 t396) else (some false)) else (none)) else (heirloomlaw11_ReachPending.l0 kj38 t400 (wrap64 (x5_3 + 1)) (wrap64 (x6_3 + 1)) l0_0 l0_1 t390 t393 t396)) = some r := by rw [← hbq51] at H; exact H
                              have Nbq51 := Aside0.mk hbq51
                              clear hbq51
                              by_cases c52 : bq51 = true
                              · subst c52
                                have H1 : (if x6_3 < (t390.length : Int) then (if rdOf false t390 x6_3 = true then (heirloomlaw11_ReachPending.l0 kj38 t400 (wrap64 (x5_3 + 1)) (wrap64 (x6_3 + 1)) l0_0 l0_1 t390 t393 t396) else (some false)) else (none)) = some r := by rw [if_pos rfl] at H; exact H
                                clear H
                                have H := H1
                                clear H1
                                by_cases c53 : x6_3 < (t390.length : Int)
                                · rw [if_pos c53] at H
                                  have c53b0 : decide (x6_3 < (t390.length : Int)) = true := decide_eq_true c53
                                  clear c53
                                  obtain ⟨bq54, hbq54⟩ : ∃ b_ : Bool, b_ = (rdOf false t390 x6_3) := ⟨_, rfl⟩
                                  replace H : (if bq54 = true then (heirloomlaw11_ReachPending.l0 kj38 t400 (wrap64 (x5_3 + 1)) (wrap64 (x6_3 + 1)) l0_0 l0_1 t390 t393 t396) else (some false)) = some r := by rw [← hbq54] at H; exact H
                                  have Nbq54 := Aside0.mk hbq54
                                  clear hbq54
                                  by_cases c55 : bq54 = true
                                  · subst c55
                                    have H1 : (heirloomlaw11_ReachPending.l0 kj38 t400 (wrap64 (x5_3 + 1)) (wrap64 (x6_3 + 1)) l0_0 l0_1 t390 t393 t396) = some r := by rw [if_pos rfl] at H; exact H
                                    clear H
                                    have H := H1
                                    clear H1
                                    have H' := Aside0.mk H
                                    clear H
                                    have p405 : 0 ≤ (x6_3 : Int) := of_decide_eq_true (by first | (with_reducible assumption) | assumption)
                                    have q405 : x6_3 < (t400.length : Int) := of_decide_eq_true (by first | (with_reducible assumption) | assumption)
                                    obtain ⟨ad405, e405, hx405_0⟩ := Kd.at_bool (Kd.R_reads' HO_4.out).2.2 x6_3 p405 q405
                                    (try rw [← Nbq51.out] at hx405_0)
                                    (try rw [← Nbq54.out] at hx405_0)
                                    cases e405
                                    replace p405 := eq_true p405
                                    replace q405 := eq_true q405
                                    have hnb56 := NB399_386.out
                                    have hnc56 := NB386_399.out
                                    have hcz57_0 : wc.cell? ⟨gb399, 0, none⟩ = some (.slice Ao22 t390.length co22) := (blk_cell BK399.out 0).trans rfl
                                    have hcz57_1 : wc.cell? ⟨gb399, 1, none⟩ = some (.slice Ao25 t393.length co25) := (blk_cell BK399.out 1).trans rfl
                                    have hcz57_2 : wc.cell? ⟨gb399, 2, none⟩ = some (.slice Ao26 t396.length co26) := (blk_cell BK399.out 2).trans rfl
                                    have hfz57_0 := blk_frozen BK399.out 0
                                    have hfz57_1 := blk_frozen BK399.out 1
                                    have hfz57_2 := blk_frozen BK399.out 2
                                    have p406 : 0 ≤ (x6_3 : Int) := of_decide_eq_true (by first | (with_reducible assumption) | assumption)
                                    have q406 : x6_3 < (t390.length : Int) := of_decide_eq_true (by first | (with_reducible assumption) | assumption)
                                    obtain ⟨ad406, e406, hx406_0⟩ := Kd.at_bool (Kd.R_reads' HO_400000.out).2.2 x6_3 p406 q406
                                    (try rw [← Nbq51.out] at hx406_0)
                                    (try rw [← Nbq54.out] at hx406_0)
                                    cases e406
                                    replace p406 := eq_true p406
                                    replace q406 := eq_true q406
                                    go_wp2
                                    repeat (go_quiet (fail); try go_wp2)
                                    go_roundg kj38
                                    case measure => have := HJ1.out; have := HJ17.out; have := HK3.out; have := HJ38.out; omega
                                    case rel => exact ⟨(wrap64 (x5_3 + 1)), (wrap64 (x6_3 + 1)), (by first | rfl | (simp; done) | (simp [*]; done)), (by first | rfl | (simp; done) | (simp [*]; done)), H', ⟨by have := HJ1.out; have := HJ17.out; have := HK3.out; have := HJ38.out; omega⟩, ⟨by (with_reducible repeat (first | apply Kd.R_alloc | apply Kd.R_drewN | apply Kd.R_drew)); exact HO_4.out⟩, ⟨by (with_reducible repeat (first | apply Kd.R_alloc | apply Kd.R_drewN | apply Kd.R_drew)); exact HO_400000.out⟩, ⟨by (with_reducible repeat (first | apply Kd.R_alloc | apply Kd.R_drewN | apply Kd.R_drew)); exact HO_400001.out⟩, ⟨by (with_reducible repeat (first | apply Kd.R_alloc | apply Kd.R_drewN | apply Kd.R_drew)); exact HO_400002.out⟩, ⟨by (with_reducible repeat (first | refine blk_drewN ?_ _ | refine blk_drew ?_ | refine blk_alloc ?_ _)); exact BK386.out⟩, ⟨by (with_reducible repeat (first | refine blk_drewN ?_ _ | refine blk_drew ?_ | refine blk_alloc ?_ _)); exact BK399.out⟩, ⟨by repeat (first | (with_reducible first | exact HB.out | apply below_alloc | apply pw_below_drewN | apply below_drew1 | refine below_set ?_ GE386.out | refine below_set ?_ GE399.out) | exact HB.out)⟩⟩
                                  · replace c55 := Bool.eq_false_iff.mpr c55
                                    subst c55
                                    have H1 : (some false) = some r := by rw [if_neg (show ¬ (false = true) by decide)] at H; exact H
                                    clear H
                                    have H := H1
                                    clear H1
                                    obtain rfl := Option.some.inj H
                                    have p405 : 0 ≤ (x6_3 : Int) := of_decide_eq_true (by first | (with_reducible assumption) | assumption)
                                    have q405 : x6_3 < (t400.length : Int) := of_decide_eq_true (by first | (with_reducible assumption) | assumption)
                                    obtain ⟨ad405, e405, hx405_0⟩ := Kd.at_bool (Kd.R_reads' HO_4.out).2.2 x6_3 p405 q405
                                    (try rw [← Nbq51.out] at hx405_0)
                                    (try rw [← Nbq54.out] at hx405_0)
                                    cases e405
                                    replace p405 := eq_true p405
                                    replace q405 := eq_true q405
                                    have hnb58 := NB399_386.out
                                    have hnc58 := NB386_399.out
                                    have hcz59_0 : wc.cell? ⟨gb399, 0, none⟩ = some (.slice Ao22 t390.length co22) := (blk_cell BK399.out 0).trans rfl
                                    have hcz59_1 : wc.cell? ⟨gb399, 1, none⟩ = some (.slice Ao25 t393.length co25) := (blk_cell BK399.out 1).trans rfl
                                    have hcz59_2 : wc.cell? ⟨gb399, 2, none⟩ = some (.slice Ao26 t396.length co26) := (blk_cell BK399.out 2).trans rfl
                                    have hfz59_0 := blk_frozen BK399.out 0
                                    have hfz59_1 := blk_frozen BK399.out 1
                                    have hfz59_2 := blk_frozen BK399.out 2
                                    have p406 : 0 ≤ (x6_3 : Int) := of_decide_eq_true (by first | (with_reducible assumption) | assumption)
                                    have q406 : x6_3 < (t390.length : Int) := of_decide_eq_true (by first | (with_reducible assumption) | assumption)
                                    obtain ⟨ad406, e406, hx406_0⟩ := Kd.at_bool (Kd.R_reads' HO_400000.out).2.2 x6_3 p406 q406
                                    (try rw [← Nbq51.out] at hx406_0)
                                    (try rw [← Nbq54.out] at hx406_0)
                                    cases e406
                                    replace p406 := eq_true p406
                                    replace q406 := eq_true q406
                                    go_wp2
                                    repeat (go_quiet (fail); try go_wp2)
                                    go_ret
                                    exact ⟨by first | rfl | (simp [errW_none, errW_some] <;> rfl) | (simp [*, errW_none, errW_some] <;> rfl), by repeat (first | (with_reducible first | exact HB.out | apply below_alloc | apply pw_below_drewN | apply below_drew1 | refine below_set ?_ GE386.out | refine below_set ?_ GE399.out) | exact HB.out)⟩
                                · rw [if_neg c53] at H
                                  exact absurd H (by simp)
                              · replace c52 := Bool.eq_false_iff.mpr c52
                                subst c52
                                have H1 : (heirloomlaw11_ReachPending.l0 kj38 t400 (wrap64 (x5_3 + 1)) (wrap64 (x6_3 + 1)) l0_0 l0_1 t390 t393 t396) = some r := by rw [if_neg (show ¬ (false = true) by decide)] at H; exact H
                                clear H
                                have H := H1
                                clear H1
                                have H' := Aside0.mk H
                                clear H
                                have p405 : 0 ≤ (x6_3 : Int) := of_decide_eq_true (by first | (with_reducible assumption) | assumption)
                                have q405 : x6_3 < (t400.length : Int) := of_decide_eq_true (by first | (with_reducible assumption) | assumption)
                                obtain ⟨ad405, e405, hx405_0⟩ := Kd.at_bool (Kd.R_reads' HO_4.out).2.2 x6_3 p405 q405
                                (try rw [← Nbq51.out] at hx405_0)
                                cases e405
                                replace p405 := eq_true p405
                                replace q405 := eq_true q405
                                go_wp2
                                repeat (go_quiet (fail); try go_wp2)
                                go_roundg kj38
                                case measure => have := HJ1.out; have := HJ17.out; have := HK3.out; have := HJ38.out; omega
                                case rel => exact ⟨(wrap64 (x5_3 + 1)), (wrap64 (x6_3 + 1)), (by first | rfl | (simp; done) | (simp [*]; done)), (by first | rfl | (simp; done) | (simp [*]; done)), H', ⟨by have := HJ1.out; have := HJ17.out; have := HK3.out; have := HJ38.out; omega⟩, ⟨by (with_reducible repeat (first | apply Kd.R_alloc | apply Kd.R_drewN | apply Kd.R_drew)); exact HO_4.out⟩, ⟨by (with_reducible repeat (first | apply Kd.R_alloc | apply Kd.R_drewN | apply Kd.R_drew)); exact HO_400000.out⟩, ⟨by (with_reducible repeat (first | apply Kd.R_alloc | apply Kd.R_drewN | apply Kd.R_drew)); exact HO_400001.out⟩, ⟨by (with_reducible repeat (first | apply Kd.R_alloc | apply Kd.R_drewN | apply Kd.R_drew)); exact HO_400002.out⟩, ⟨by (with_reducible repeat (first | refine blk_drewN ?_ _ | refine blk_drew ?_ | refine blk_alloc ?_ _)); exact BK386.out⟩, ⟨by (with_reducible repeat (first | refine blk_drewN ?_ _ | refine blk_drew ?_ | refine blk_alloc ?_ _)); exact BK399.out⟩, ⟨by repeat (first | (with_reducible first | exact HB.out | apply below_alloc | apply pw_below_drewN | apply below_drew1 | refine below_set ?_ GE386.out | refine below_set ?_ GE399.out) | exact HB.out)⟩⟩
                            · rw [if_neg c50] at H
                              exact absurd H (by simp)
                          · rw [if_neg c49] at H
                            exact absurd H (by simp)
                        · replace c48 := Bool.eq_false_iff.mpr c48
                          subst c48
                          have H1 : (if 0 ≤ x6_3 then (if x6_3 < (t400.length : Int) then (if rdOf false t400 x6_3 = true then (if x6_3 < (t390.length : Int) then (if rdOf false t390 x6_3 = true then (heirloomlaw11_ReachPending.l0 kj38 t400 x5_3 (wrap64 (x6_3 + 1)) l0_0 l0_1 t390 t393 t396) else (some false)) else (none)) else (heirloomlaw11_ReachPending.l0 kj38 t400 x5_3 (wrap64 (x6_3 + 1)) l0_0 l0_1 t390 t393 t396)) else (none)) else (none)) = some r := by rw [if_neg (show ¬ (false = true) by decide)] at H; exact H
                          clear H
                          have H := H1
                          clear H1
                          by_cases c60 : 0 ≤ x6_3
                          · rw [if_pos c60] at H
                            have c60b0 : decide (0 ≤ x6_3) = true := decide_eq_true c60
                            clear c60
                            by_cases c61 : x6_3 < (t400.length : Int)
                            · rw [if_pos c61] at H
                              have c61b0 : decide (x6_3 < (t400.length : Int)) = true := decide_eq_true c61
                              clear c61
                              obtain ⟨bq62, hbq62⟩ : ∃ b_ : Bool, b_ = (rdOf false t400 x6_3) := ⟨_, rfl⟩
                              replace H : (if bq62 = true then (if x6_3 < (t390.length : Int) then (if rdOf false t390 x6_3 = true then (heirloomlaw11_ReachPending.l0 kj38 t400 x5_3 (wrap64 (x6_3 + 1)) l0_0 l0_1 t390 t393 t396) else (some false)) else (none)) else (heirloomlaw11_ReachPending.l0 kj38 t400 x5_3 (wrap64 (x6_3 + 1)) l0_0 l0_1 t390 t393 t396)) = some r := by rw [← hbq62] at H; exact H
                              have Nbq62 := Aside0.mk hbq62
                              clear hbq62
                              by_cases c63 : bq62 = true
                              · subst c63
                                have H1 : (if x6_3 < (t390.length : Int) then (if rdOf false t390 x6_3 = true then (heirloomlaw11_ReachPending.l0 kj38 t400 x5_3 (wrap64 (x6_3 + 1)) l0_0 l0_1 t390 t393 t396) else (some false)) else (none)) = some r := by rw [if_pos rfl] at H; exact H
                                clear H
                                have H := H1
                                clear H1
                                by_cases c64 : x6_3 < (t390.length : Int)
                                · rw [if_pos c64] at H
                                  have c64b0 : decide (x6_3 < (t390.length : Int)) = true := decide_eq_true c64
                                  clear c64
                                  obtain ⟨bq65, hbq65⟩ : ∃ b_ : Bool, b_ = (rdOf false t390 x6_3) := ⟨_, rfl⟩
                                  replace H : (if bq65 = true then (heirloomlaw11_ReachPending.l0 kj38 t400 x5_3 (wrap64 (x6_3 + 1)) l0_0 l0_1 t390 t393 t396) else (some false)) = some r := by rw [← hbq65] at H; exact H
                                  have Nbq65 := Aside0.mk hbq65
                                  clear hbq65
                                  by_cases c66 : bq65 = true
                                  · subst c66
                                    have H1 : (heirloomlaw11_ReachPending.l0 kj38 t400 x5_3 (wrap64 (x6_3 + 1)) l0_0 l0_1 t390 t393 t396) = some r := by rw [if_pos rfl] at H; exact H
                                    clear H
                                    have H := H1
                                    clear H1
                                    have H' := Aside0.mk H
                                    clear H
                                    have p407 : 0 ≤ (x6_3 : Int) := of_decide_eq_true (by first | (with_reducible assumption) | assumption)
                                    have q407 : x6_3 < (t400.length : Int) := of_decide_eq_true (by first | (with_reducible assumption) | assumption)
                                    obtain ⟨ad407, e407, hx407_0⟩ := Kd.at_bool (Kd.R_reads' HO_4.out).2.2 x6_3 p407 q407
                                    (try rw [← Nbq62.out] at hx407_0)
                                    (try rw [← Nbq65.out] at hx407_0)
                                    cases e407
                                    replace p407 := eq_true p407
                                    replace q407 := eq_true q407
                                    have hnb67 := NB399_386.out
                                    have hnc67 := NB386_399.out
                                    have hcz68_0 : wc.cell? ⟨gb399, 0, none⟩ = some (.slice Ao22 t390.length co22) := (blk_cell BK399.out 0).trans rfl
                                    have hcz68_1 : wc.cell? ⟨gb399, 1, none⟩ = some (.slice Ao25 t393.length co25) := (blk_cell BK399.out 1).trans rfl
                                    have hcz68_2 : wc.cell? ⟨gb399, 2, none⟩ = some (.slice Ao26 t396.length co26) := (blk_cell BK399.out 2).trans rfl
                                    have hfz68_0 := blk_frozen BK399.out 0
                                    have hfz68_1 := blk_frozen BK399.out 1
                                    have hfz68_2 := blk_frozen BK399.out 2
                                    have p408 : 0 ≤ (x6_3 : Int) := of_decide_eq_true (by first | (with_reducible assumption) | assumption)
                                    have q408 : x6_3 < (t390.length : Int) := of_decide_eq_true (by first | (with_reducible assumption) | assumption)
                                    obtain ⟨ad408, e408, hx408_0⟩ := Kd.at_bool (Kd.R_reads' HO_400000.out).2.2 x6_3 p408 q408
                                    (try rw [← Nbq62.out] at hx408_0)
                                    (try rw [← Nbq65.out] at hx408_0)
                                    cases e408
                                    replace p408 := eq_true p408
                                    replace q408 := eq_true q408
                                    go_wp2
                                    repeat (go_quiet (fail); try go_wp2)
                                    go_roundg kj38
                                    case measure => have := HJ1.out; have := HJ17.out; have := HK3.out; have := HJ38.out; omega
                                    case rel => exact ⟨(x5_3), (wrap64 (x6_3 + 1)), (by first | rfl | (simp; done) | (simp [*]; done)), (by first | rfl | (simp; done) | (simp [*]; done)), H', ⟨by have := HJ1.out; have := HJ17.out; have := HK3.out; have := HJ38.out; omega⟩, ⟨by (with_reducible repeat (first | apply Kd.R_alloc | apply Kd.R_drewN | apply Kd.R_drew)); exact HO_4.out⟩, ⟨by (with_reducible repeat (first | apply Kd.R_alloc | apply Kd.R_drewN | apply Kd.R_drew)); exact HO_400000.out⟩, ⟨by (with_reducible repeat (first | apply Kd.R_alloc | apply Kd.R_drewN | apply Kd.R_drew)); exact HO_400001.out⟩, ⟨by (with_reducible repeat (first | apply Kd.R_alloc | apply Kd.R_drewN | apply Kd.R_drew)); exact HO_400002.out⟩, ⟨by (with_reducible repeat (first | refine blk_drewN ?_ _ | refine blk_drew ?_ | refine blk_alloc ?_ _)); exact BK386.out⟩, ⟨by (with_reducible repeat (first | refine blk_drewN ?_ _ | refine blk_drew ?_ | refine blk_alloc ?_ _)); exact BK399.out⟩, ⟨by repeat (first | (with_reducible first | exact HB.out | apply below_alloc | apply pw_below_drewN | apply below_drew1 | refine below_set ?_ GE386.out | refine below_set ?_ GE399.out) | exact HB.out)⟩⟩
                                  · replace c66 := Bool.eq_false_iff.mpr c66
                                    subst c66
                                    have H1 : (some false) = some r := by rw [if_neg (show ¬ (false = true) by decide)] at H; exact H
                                    clear H
                                    have H := H1
                                    clear H1
                                    obtain rfl := Option.some.inj H
                                    have p407 : 0 ≤ (x6_3 : Int) := of_decide_eq_true (by first | (with_reducible assumption) | assumption)
                                    have q407 : x6_3 < (t400.length : Int) := of_decide_eq_true (by first | (with_reducible assumption) | assumption)
                                    obtain ⟨ad407, e407, hx407_0⟩ := Kd.at_bool (Kd.R_reads' HO_4.out).2.2 x6_3 p407 q407
                                    (try rw [← Nbq62.out] at hx407_0)
                                    (try rw [← Nbq65.out] at hx407_0)
                                    cases e407
                                    replace p407 := eq_true p407
                                    replace q407 := eq_true q407
                                    have hnb69 := NB399_386.out
                                    have hnc69 := NB386_399.out
                                    have hcz70_0 : wc.cell? ⟨gb399, 0, none⟩ = some (.slice Ao22 t390.length co22) := (blk_cell BK399.out 0).trans rfl
                                    have hcz70_1 : wc.cell? ⟨gb399, 1, none⟩ = some (.slice Ao25 t393.length co25) := (blk_cell BK399.out 1).trans rfl
                                    have hcz70_2 : wc.cell? ⟨gb399, 2, none⟩ = some (.slice Ao26 t396.length co26) := (blk_cell BK399.out 2).trans rfl
                                    have hfz70_0 := blk_frozen BK399.out 0
                                    have hfz70_1 := blk_frozen BK399.out 1
                                    have hfz70_2 := blk_frozen BK399.out 2
                                    have p408 : 0 ≤ (x6_3 : Int) := of_decide_eq_true (by first | (with_reducible assumption) | assumption)
                                    have q408 : x6_3 < (t390.length : Int) := of_decide_eq_true (by first | (with_reducible assumption) | assumption)
                                    obtain ⟨ad408, e408, hx408_0⟩ := Kd.at_bool (Kd.R_reads' HO_400000.out).2.2 x6_3 p408 q408
                                    (try rw [← Nbq62.out] at hx408_0)
                                    (try rw [← Nbq65.out] at hx408_0)
                                    cases e408
                                    replace p408 := eq_true p408
                                    replace q408 := eq_true q408
                                    go_wp2
                                    repeat (go_quiet (fail); try go_wp2)
                                    go_ret
                                    exact ⟨by first | rfl | (simp [errW_none, errW_some] <;> rfl) | (simp [*, errW_none, errW_some] <;> rfl), by repeat (first | (with_reducible first | exact HB.out | apply below_alloc | apply pw_below_drewN | apply below_drew1 | refine below_set ?_ GE386.out | refine below_set ?_ GE399.out) | exact HB.out)⟩
                                · rw [if_neg c64] at H
                                  exact absurd H (by simp)
                              · replace c63 := Bool.eq_false_iff.mpr c63
                                subst c63
                                have H1 : (heirloomlaw11_ReachPending.l0 kj38 t400 x5_3 (wrap64 (x6_3 + 1)) l0_0 l0_1 t390 t393 t396) = some r := by rw [if_neg (show ¬ (false = true) by decide)] at H; exact H
                                clear H
                                have H := H1
                                clear H1
                                have H' := Aside0.mk H
                                clear H
                                have p407 : 0 ≤ (x6_3 : Int) := of_decide_eq_true (by first | (with_reducible assumption) | assumption)
                                have q407 : x6_3 < (t400.length : Int) := of_decide_eq_true (by first | (with_reducible assumption) | assumption)
                                obtain ⟨ad407, e407, hx407_0⟩ := Kd.at_bool (Kd.R_reads' HO_4.out).2.2 x6_3 p407 q407
                                (try rw [← Nbq62.out] at hx407_0)
                                cases e407
                                replace p407 := eq_true p407
                                replace q407 := eq_true q407
                                go_wp2
                                repeat (go_quiet (fail); try go_wp2)
                                go_roundg kj38
                                case measure => have := HJ1.out; have := HJ17.out; have := HK3.out; have := HJ38.out; omega
                                case rel => exact ⟨(x5_3), (wrap64 (x6_3 + 1)), (by first | rfl | (simp; done) | (simp [*]; done)), (by first | rfl | (simp; done) | (simp [*]; done)), H', ⟨by have := HJ1.out; have := HJ17.out; have := HK3.out; have := HJ38.out; omega⟩, ⟨by (with_reducible repeat (first | apply Kd.R_alloc | apply Kd.R_drewN | apply Kd.R_drew)); exact HO_4.out⟩, ⟨by (with_reducible repeat (first | apply Kd.R_alloc | apply Kd.R_drewN | apply Kd.R_drew)); exact HO_400000.out⟩, ⟨by (with_reducible repeat (first | apply Kd.R_alloc | apply Kd.R_drewN | apply Kd.R_drew)); exact HO_400001.out⟩, ⟨by (with_reducible repeat (first | apply Kd.R_alloc | apply Kd.R_drewN | apply Kd.R_drew)); exact HO_400002.out⟩, ⟨by (with_reducible repeat (first | refine blk_drewN ?_ _ | refine blk_drew ?_ | refine blk_alloc ?_ _)); exact BK386.out⟩, ⟨by (with_reducible repeat (first | refine blk_drewN ?_ _ | refine blk_drew ?_ | refine blk_alloc ?_ _)); exact BK399.out⟩, ⟨by repeat (first | (with_reducible first | exact HB.out | apply below_alloc | apply pw_below_drewN | apply below_drew1 | refine below_set ?_ GE386.out | refine below_set ?_ GE399.out) | exact HB.out)⟩⟩
                            · rw [if_neg c61] at H
                              exact absurd H (by simp)
                          · rw [if_neg c60] at H
                            exact absurd H (by simp)
                  · rw [if_neg c38] at H
                    have c38b0 : decide (x6_3 < (t400.length : Int)) = false := decide_eq_false c38
                    clear c38
                    have H' := Aside0.mk H
                    clear H
                    obtain ⟨Ao71, co71, eo71⟩ := Kd.R_slice HO_4.out
                    subst eo71
                    go_wp2
                    repeat (go_quiet (fail); try go_wp2)
                    go_loopg [7] k3 (fun kq v7 w' => ∃ (x7_4 : Int), v7 = .int .i64 x7_4 ∧ Aside0 (heirloomlaw11_ReachPending.l1 kq t400 x5_3 x7_4 l0_0 l0_1 t390 t393 t396 = some r) ∧ Aside0 (kq ≤ k3) ∧ Aside0 (Kd.R Kd.bool 4 w' w.heap.size (fun k_ => some k_ ≠ ((.slice Ao22 t390.length co22) : Value).ownBlock) (.slice Ao71 t400.length co71) t400) ∧ Aside0 (Kd.R Kd.bool 4 w' w.heap.size (fun k_ => some k_ ≠ ((.slice Ao71 t400.length co71) : Value).ownBlock) (.slice Ao22 t390.length co22) t390) ∧ Aside0 (Kd.R (Kd.int .i64) 3 w' w.heap.size (fun _ => True) (.slice Ao25 t393.length co25) t393) ∧ Aside0 (Kd.R k49 49 w' w.heap.size (fun _ => True) (.slice Ao26 t396.length co26) t396) ∧ Aside0 (w'.heap[gb386]? = some (.cells #[(.slice A0_0 l0_0.length c0_0), (.slice A0_1 l0_1.length c0_1)] 25 (0, 0))) ∧ Aside0 (w'.heap[gb399]? = some (.cells #[(.slice Ao22 t390.length co22), (.slice Ao25 t393.length co25), (.slice Ao26 t396.length co26)] 37 (0, 0))) ∧ Aside0 (Below w.heap.size w w'))
                    case atStart => exact ⟨(0), (by first | rfl | (simp; done) | (simp [*]; done)), H', ⟨Nat.le_refl _⟩, ⟨by (with_reducible repeat (first | apply Kd.R_alloc | apply Kd.R_drewN | apply Kd.R_drew)); exact HO_4.out⟩, ⟨by (with_reducible repeat (first | apply Kd.R_alloc | apply Kd.R_drewN | apply Kd.R_drew)); exact HO_400000.out⟩, ⟨by (with_reducible repeat (first | apply Kd.R_alloc | apply Kd.R_drewN | apply Kd.R_drew)); exact HO_400001.out⟩, ⟨by (with_reducible repeat (first | apply Kd.R_alloc | apply Kd.R_drewN | apply Kd.R_drew)); exact HO_400002.out⟩, ⟨by (with_reducible repeat (first | refine blk_drewN ?_ _ | refine blk_drew ?_ | refine blk_alloc ?_ _)); exact BK386.out⟩, ⟨by (with_reducible repeat (first | refine blk_drewN ?_ _ | refine blk_drew ?_ | refine blk_alloc ?_ _)); exact BK399.out⟩, ⟨by repeat (first | (with_reducible first | exact HB.out | apply below_alloc | apply pw_below_drewN | apply below_drew1 | refine below_set ?_ GE386.out | refine below_set ?_ GE399.out) | exact HB.out)⟩⟩
                    case round =>
                      clear H'
                      try clear c1
                      try clear c2
                      try clear p2
                      try clear c3
                      try clear c4
                      try clear p4
                      try clear q4
                      try clear hx4
                      try clear c5
                      try clear q5
                      try clear c6
                      try clear p6
                      try clear q6
                      try clear c8
                      try clear c13
                      try clear c23
                      try clear c29
                      try clear c29b0
                      try clear c29b1
                      try clear c29b2
                      try clear c31
                      try clear c35
                      try clear c37
                      try clear c38
                      try clear c38b0
                      try clear c40
                      try clear p40
                      try clear q40
                      try clear hx40
                      try clear c41
                      try clear c41b0
                      try clear c42
                      try clear c42b0
                      try clear c43
                      try clear c43b0
                      try clear c44
                      try clear c46
                      try clear c48
                      try clear c49
                      try clear c49b0
                      try clear c50
                      try clear c50b0
                      try clear q51
                      try clear c52
                      try clear c53
                      try clear c53b0
                      try clear q54
                      try clear c55
                      try clear c56
                      try clear c58
                      try clear c60
                      try clear c60b0
                      try clear c61
                      try clear c61b0
                      try clear q62
                      try clear c63
                      try clear c64
                      try clear c64b0
                      try clear p64
                      try clear q65
                      try clear c66
                      try clear c67
                      try clear c69
                      try clear hcz11_0
                      try clear hcz11_1
                      try clear hcz19_0
                      try clear hcz19_1
                      try clear hcz24_0
                      try clear hcz24_1
                      try clear hcz24_2
                      try clear hcz27_0
                      try clear hcz27_1
                      try clear hcz32_0
                      try clear hcz32_1
                      try clear hcz33_0
                      try clear hcz33_1
                      try clear hcz33_2
                      try clear hcz36_0
                      try clear hcz36_1
                      try clear hcz45_0
                      try clear hcz45_1
                      try clear hcz47_0
                      try clear hcz47_1
                      try clear hcz57_0
                      try clear hcz57_1
                      try clear hcz57_2
                      try clear hcz59_0
                      try clear hcz59_1
                      try clear hcz59_2
                      try clear hcz68_0
                      try clear hcz68_1
                      try clear hcz68_2
                      try clear hcz70_0
                      try clear hcz70_1
                      try clear hcz70_2
                      try clear hcz7_0
                      try clear hcz7_1
                      try clear hcz9_0
                      try clear hcz9_1
                      try clear hfz11_0
                      try clear hfz11_1
                      try clear hfz19_0
                      try clear hfz19_1
                      try clear hfz24_0
                      try clear hfz24_1
                      try clear hfz24_2
                      try clear hfz27_0
                      try clear hfz27_1
                      try clear hfz32_0
                      try clear hfz32_1
                      try clear hfz33_0
                      try clear hfz33_1
                      try clear hfz33_2
                      try clear hfz36_0
                      try clear hfz36_1
                      try clear hfz45_0
                      try clear hfz45_1
                      try clear hfz47_0
                      try clear hfz47_1
                      try clear hfz57_0
                      try clear hfz57_1
                      try clear hfz57_2
                      try clear hfz59_0
                      try clear hfz59_1
                      try clear hfz59_2
                      try clear hfz68_0
                      try clear hfz68_1
                      try clear hfz68_2
                      try clear hfz70_0
                      try clear hfz70_1
                      try clear hfz70_2
                      try clear hfz7_0
                      try clear hfz7_1
                      try clear hfz9_0
                      try clear hfz9_1
                      try clear hx403_0
                      try clear hx403_1
                      try clear hx403_2
                      try clear hx403_3
                      try clear hx403_4
                      try clear hx404_0
                      try clear hx405_0
                      try clear hx406_0
                      try clear hx407_0
                      try clear hx408_0
                      try clear p2
                      try clear p4
                      try clear p40
                      try clear p403
                      try clear p404
                      try clear p405
                      try clear p406
                      try clear p407
                      try clear p408
                      try clear q4
                      try clear q40
                      try clear q403
                      try clear q404
                      try clear q405
                      try clear q406
                      try clear q407
                      try clear q408
                      obtain ⟨x7_4, rfl, HA, HK4, HO_4, HO_400000, HO_400001, HO_400002, BK386, BK399, HB⟩ := hrel
                      cases gk with
                      | zero => exact absurd HA.out (by simp [heirloomlaw11_ReachPending.l1])
                      | succ k4 =>
                        have H := HA.out
                        clear HA
                        simp only [heirloomlaw11_ReachPending.l1] at H
                        by_cases c72 : x7_4 < (t393.length : Int)
                        · rw [if_pos c72] at H
                          have c72b0 : decide (x7_4 < (t393.length : Int)) = true := decide_eq_true c72
                          clear c72
                          by_cases c73 : 0 ≤ x7_4
                          · rw [if_pos c73] at H
                            have c73b0 : decide (0 ≤ x7_4) = true := decide_eq_true c73
                            clear c73
                            by_cases c74 : (rd t393 x7_4) < 1
                            · rw [if_pos c74] at H
                              have c74b0 : decide ((rd t393 x7_4) < 1) = true := decide_eq_true c74
                              clear c74
                              obtain rfl := Option.some.inj H
                              have hnb75 := NB399_386.out
                              have hnc75 := NB386_399.out
                              have hcz76_0 : wr.cell? ⟨gb399, 0, none⟩ = some (.slice Ao22 t390.length co22) := (blk_cell BK399.out 0).trans rfl
                              have hcz76_1 : wr.cell? ⟨gb399, 1, none⟩ = some (.slice Ao25 t393.length co25) := (blk_cell BK399.out 1).trans rfl
                              have hcz76_2 : wr.cell? ⟨gb399, 2, none⟩ = some (.slice Ao26 t396.length co26) := (blk_cell BK399.out 2).trans rfl
                              have hfz76_0 := blk_frozen BK399.out 0
                              have hfz76_1 := blk_frozen BK399.out 1
                              have hfz76_2 := blk_frozen BK399.out 2
                              have p409 : 0 ≤ (x7_4 : Int) := of_decide_eq_true (by first | (with_reducible assumption) | assumption)
                              have q409 : x7_4 < (t393.length : Int) := of_decide_eq_true (by first | (with_reducible assumption) | assumption)
                              obtain ⟨ad409, e409, hx409_0⟩ := Kd.at_int (Kd.R_reads' HO_400001.out).2.2 x7_4 p409 q409
                              cases e409
                              replace p409 := eq_true p409
                              replace q409 := eq_true q409
                              go_wp2
                              repeat (go_quiet (fail); try go_wp2)
                              go_ret
                              exact ⟨by first | rfl | (simp [errW_none, errW_some] <;> rfl) | (simp [*, errW_none, errW_some] <;> rfl), by repeat (first | (with_reducible first | exact HB.out | apply below_alloc | apply pw_below_drewN | apply below_drew1 | refine below_set ?_ GE386.out | refine below_set ?_ GE399.out) | exact HB.out)⟩
                            · rw [if_neg c74] at H
                              have c74b0 : decide ((rd t393 x7_4) < 1) = false := decide_eq_false c74
                              clear c74
                              by_cases c77 : (rd t393 x7_4) > (t400.length : Int)
                              · rw [if_pos c77] at H
                                have c77b0 : decide ((t400.length : Int) < (rd t393 x7_4)) = true := decide_eq_true c77
                                clear c77
                                obtain rfl := Option.some.inj H
                                have hnb78 := NB399_386.out
                                have hnc78 := NB386_399.out
                                have hcz79_0 : wr.cell? ⟨gb399, 0, none⟩ = some (.slice Ao22 t390.length co22) := (blk_cell BK399.out 0).trans rfl
                                have hcz79_1 : wr.cell? ⟨gb399, 1, none⟩ = some (.slice Ao25 t393.length co25) := (blk_cell BK399.out 1).trans rfl
                                have hcz79_2 : wr.cell? ⟨gb399, 2, none⟩ = some (.slice Ao26 t396.length co26) := (blk_cell BK399.out 2).trans rfl
                                have hfz79_0 := blk_frozen BK399.out 0
                                have hfz79_1 := blk_frozen BK399.out 1
                                have hfz79_2 := blk_frozen BK399.out 2
                                have p409 : 0 ≤ (x7_4 : Int) := of_decide_eq_true (by first | (with_reducible assumption) | assumption)
                                have q409 : x7_4 < (t393.length : Int) := of_decide_eq_true (by first | (with_reducible assumption) | assumption)
                                obtain ⟨ad409, e409, hx409_0⟩ := Kd.at_int (Kd.R_reads' HO_400001.out).2.2 x7_4 p409 q409
                                cases e409
                                replace p409 := eq_true p409
                                replace q409 := eq_true q409
                                go_wp2
                                repeat (go_quiet (fail); try go_wp2)
                                go_ret
                                exact ⟨by first | rfl | (simp [errW_none, errW_some] <;> rfl) | (simp [*, errW_none, errW_some] <;> rfl), by repeat (first | (with_reducible first | exact HB.out | apply below_alloc | apply pw_below_drewN | apply below_drew1 | refine below_set ?_ GE386.out | refine below_set ?_ GE399.out) | exact HB.out)⟩
                              · rw [if_neg c77] at H
                                have c77b0 : decide ((t400.length : Int) < (rd t393 x7_4)) = false := decide_eq_false c77
                                clear c77
                                obtain ⟨ji80, hji80⟩ : ∃ j_ : Int, (wrap64 ((rd t393 x7_4) - 1)) = j_ := ⟨_, rfl⟩
                                replace H : (if 0 ≤ (ji80) then (if (ji80) < (t400.length : Int) then (if rdOf false t400 (ji80) = true then (some false) else (if (ji80) < (t390.length : Int) then (if (rdOf false t390 (ji80) = true) then (if (ji80) < (l0_0.length : Int) then (if ((rd_T43 l0_0 (ji80)).f4) < 1 then (some false) else (if x7_4 > 0 then (if 0 ≤ (wrap64 (x7_4 - 1)) then (if (wrap64 (x7_4 - 1)) < (t393.length : Int) then (if 0 ≤ (wrap64 ((rd t393 (wrap64 (x7_4 - 1))) - 1)) then (if (wrap64 ((rd t393 (wrap64 (x7_4 - 1))) - 1)) < (l0_0.length : Int) then (if ((rd_T43 l0_0 (wrap64 ((rd t393 (wrap64 (x7_4 - 1))) - 1))).f4) ≤ ((rd_T43 l0_0 (ji80)).f4) then (some false) else (heirloomlaw11_ReachPending.l1 k4 t400 x5_3 (wrap64 (x7_4 + 1)) l0_0 l0_1 t390 t393 t396)) else (none)) else (none)) else (none)) else (none)) else (heirloomlaw11_ReachPending.l1 k4 t400 x5_3 (wrap64 (x7_4 + 1)) l0_0 l0_1 t390 t393 t396))) else (none)) else (some false)) else (none))) else (none)) else (none)) = some r := by first | (rw [hji80] at H; exact H) | (simp only [hji80] at H ⊢; exact H)
                                have hji80w : (IntKind.i64.wrap ((rd t393 x7_4) - 1)) = ji80 := (i64_w _).trans hji80
                                by_cases c81 : 0 ≤ (ji80)
                                · rw [if_pos c81] at H
                                  have c81b0 : decide (0 ≤ (ji80)) = true := decide_eq_true c81
                                  clear c81
                                  by_cases c82 : (ji80) < (t400.length : Int)
                                  · rw [if_pos c82] at H
                                    have c82b0 : decide ((ji80) < (t400.length : Int)) = true := decide_eq_true c82
                                    clear c82
                                    obtain ⟨bq83, hbq83⟩ : ∃ b_ : Bool, b_ = (rdOf false t400 (ji80)) := ⟨_, rfl⟩
                                    replace H : (if bq83 = true then (some false) else (if (ji80) < (t390.length : Int) then (if (rdOf false t390 (ji80) = true) then (if (ji80) < (l0_0.length : Int) then (if ((rd_T43 l0_0 (ji80)).f4) < 1 then (some false) else (if x7_4 > 0 then (if 0 ≤ (wrap64 (x7_4 - 1)) then (if (wrap64 (x7_4 - 1)) < (t393.length : Int) then (if 0 ≤ (wrap64 ((rd t393 (wrap64 (x7_4 - 1))) - 1)) then (if (wrap64 ((rd t393 (wrap64 (x7_4 - 1))) - 1)) < (l0_0.length : Int) then (if ((rd_T43 l0_0 (wrap64 ((rd t393 (wrap64 (x7_4 - 1))) - 1))).f4) ≤ ((rd_T43 l0_0 (ji80)).f4) then (some false) else (heirloomlaw11_ReachPending.l1 k4 t400 x5_3 (wrap64 (x7_4 + 1)) l0_0 l0_1 t390 t393 t396)) else (none)) else (none)) else (none)) else (none)) else (heirloomlaw11_ReachPending.l1 k4 t400 x5_3 (wrap64 (x7_4 + 1)) l0_0 l0_1 t390 t393 t396))) else (none)) else (some false)) else (none))) = some r := by rw [← hbq83] at H; exact H
                                    have Nbq83 := Aside0.mk hbq83
                                    clear hbq83
                                    by_cases c84 : bq83 = true
                                    · subst c84
                                      have H1 : (some false) = some r := by rw [if_pos rfl] at H; exact H
                                      clear H
                                      have H := H1
                                      clear H1
                                      obtain rfl := Option.some.inj H
                                      have hnb85 := NB399_386.out
                                      have hnc85 := NB386_399.out
                                      have hcz86_0 : wr.cell? ⟨gb399, 0, none⟩ = some (.slice Ao22 t390.length co22) := (blk_cell BK399.out 0).trans rfl
                                      have hcz86_1 : wr.cell? ⟨gb399, 1, none⟩ = some (.slice Ao25 t393.length co25) := (blk_cell BK399.out 1).trans rfl
                                      have hcz86_2 : wr.cell? ⟨gb399, 2, none⟩ = some (.slice Ao26 t396.length co26) := (blk_cell BK399.out 2).trans rfl
                                      have hfz86_0 := blk_frozen BK399.out 0
                                      have hfz86_1 := blk_frozen BK399.out 1
                                      have hfz86_2 := blk_frozen BK399.out 2
                                      have p409 : 0 ≤ (x7_4 : Int) := of_decide_eq_true (by first | (with_reducible assumption) | assumption)
                                      have q409 : x7_4 < (t393.length : Int) := of_decide_eq_true (by first | (with_reducible assumption) | assumption)
                                      obtain ⟨ad409, e409, hx409_0⟩ := Kd.at_int (Kd.R_reads' HO_400001.out).2.2 x7_4 p409 q409
                                      cases e409
                                      replace p409 := eq_true p409
                                      replace q409 := eq_true q409
                                      have p410 : 0 ≤ ((ji80) : Int) := of_decide_eq_true (by first | (with_reducible assumption) | assumption)
                                      have q410 : (ji80) < (t400.length : Int) := of_decide_eq_true (by first | (with_reducible assumption) | assumption)
                                      obtain ⟨ad410, e410, hx410_0⟩ := Kd.at_bool (Kd.R_reads' HO_4.out).2.2 (ji80) p410 q410
                                      (try rw [← Nbq83.out] at hx410_0)
                                      cases e410
                                      replace p410 := eq_true p410
                                      replace q410 := eq_true q410
                                      go_wp2
                                      repeat (go_quiet (fail); try go_wp2)
                                      go_ret
                                      exact ⟨by first | rfl | (simp [errW_none, errW_some] <;> rfl) | (simp only [← hji80]; first | rfl | (simp [errW_none, errW_some] <;> rfl)) | (simp [*, errW_none, errW_some] <;> rfl), by repeat (first | (with_reducible first | exact HB.out | apply below_alloc | apply pw_below_drewN | apply below_drew1 | refine below_set ?_ GE386.out | refine below_set ?_ GE399.out) | exact HB.out)⟩
                                    · replace c84 := Bool.eq_false_iff.mpr c84
                                      subst c84
                                      have H1 : (if (ji80) < (t390.length : Int) then (if (rdOf false t390 (ji80) = true) then (if (ji80) < (l0_0.length : Int) then (if ((rd_T43 l0_0 (ji80)).f4) < 1 then (some false) else (if x7_4 > 0 then (if 0 ≤ (wrap64 (x7_4 - 1)) then (if (wrap64 (x7_4 - 1)) < (t393.length : Int) then (if 0 ≤ (wrap64 ((rd t393 (wrap64 (x7_4 - 1))) - 1)) then (if (wrap64 ((rd t393 (wrap64 (x7_4 - 1))) - 1)) < (l0_0.length : Int) then (if ((rd_T43 l0_0 (wrap64 ((rd t393 (wrap64 (x7_4 - 1))) - 1))).f4) ≤ ((rd_T43 l0_0 (ji80)).f4) then (some false) else (heirloomlaw11_ReachPending.l1 k4 t400 x5_3 (wrap64 (x7_4 + 1)) l0_0 l0_1 t390 t393 t396)) else (none)) else (none)) else (none)) else (none)) else (heirloomlaw11_ReachPending.l1 k4 t400 x5_3 (wrap64 (x7_4 + 1)) l0_0 l0_1 t390 t393 t396))) else (none)) else (some false)) else (none)) = some r := by rw [if_neg (show ¬ (false = true) by decide)] at H; exact H
                                      clear H
                                      have H := H1
                                      clear H1
                                      by_cases c87 : (ji80) < (t390.length : Int)
                                      · rw [if_pos c87] at H
                                        have c87b0 : decide ((ji80) < (t390.length : Int)) = true := decide_eq_true c87
                                        clear c87
                                        obtain ⟨bq88, hbq88⟩ : ∃ b_ : Bool, b_ = (rdOf false t390 (ji80)) := ⟨_, rfl⟩
                                        replace H : (if (bq88 = true) then (if (ji80) < (l0_0.length : Int) then (if ((rd_T43 l0_0 (ji80)).f4) < 1 then (some false) else (if x7_4 > 0 then (if 0 ≤ (wrap64 (x7_4 - 1)) then (if (wrap64 (x7_4 - 1)) < (t393.length : Int) then (if 0 ≤ (wrap64 ((rd t393 (wrap64 (x7_4 - 1))) - 1)) then (if (wrap64 ((rd t393 (wrap64 (x7_4 - 1))) - 1)) < (l0_0.length : Int) then (if ((rd_T43 l0_0 (wrap64 ((rd t393 (wrap64 (x7_4 - 1))) - 1))).f4) ≤ ((rd_T43 l0_0 (ji80)).f4) then (some false) else (heirloomlaw11_ReachPending.l1 k4 t400 x5_3 (wrap64 (x7_4 + 1)) l0_0 l0_1 t390 t393 t396)) else (none)) else (none)) else (none)) else (none)) else (heirloomlaw11_ReachPending.l1 k4 t400 x5_3 (wrap64 (x7_4 + 1)) l0_0 l0_1 t390 t393 t396))) else (none)) else (some false)) = some r := by rw [← hbq88] at H; exact H
                                        have Nbq88 := Aside0.mk hbq88
                                        clear hbq88
                                        by_cases c89 : (bq88 = true)
                                        · subst c89
                                          have H1 : (if (ji80) < (l0_0.length : Int) then (if ((rd_T43 l0_0 (ji80)).f4) < 1 then (some false) else (if x7_4 > 0 then (if 0 ≤ (wrap64 (x7_4 - 1)) then (if (wrap64 (x7_4 - 1)) < (t393.length : Int) then (if 0 ≤ (wrap64 ((rd t393 (wrap64 (x7_4 - 1))) - 1)) then (if (wrap64 ((rd t393 (wrap64 (x7_4 - 1))) - 1)) < (l0_0.length : Int) then (if ((rd_T43 l0_0 (wrap64 ((rd t393 (wrap64 (x7_4 - 1))) - 1))).f4) ≤ ((rd_T43 l0_0 (ji80)).f4) then (some false) else (heirloomlaw11_ReachPending.l1 k4 t400 x5_3 (wrap64 (x7_4 + 1)) l0_0 l0_1 t390 t393 t396)) else (none)) else (none)) else (none)) else (none)) else (heirloomlaw11_ReachPending.l1 k4 t400 x5_3 (wrap64 (x7_4 + 1)) l0_0 l0_1 t390 t393 t396))) else (none)) = some r := by rw [if_pos rfl] at H; exact H
                                          clear H
                                          have H := H1
                                          clear H1
                                          by_cases c90 : (ji80) < (l0_0.length : Int)
                                          · rw [if_pos c90] at H
                                            have c90b0 : decide ((ji80) < (l0_0.length : Int)) = true := decide_eq_true c90
                                            clear c90
                                            by_cases c91 : ((rd_T43 l0_0 (ji80)).f4) < 1
                                            · rw [if_pos c91] at H
                                              have c91b0 : decide (((rd_T43 l0_0 (ji80)).f4) < 1) = true := decide_eq_true c91
                                              clear c91
                                              obtain rfl := Option.some.inj H
                                              have hnb92 := NB399_386.out
                                              have hnc92 := NB386_399.out
                                              have hcz93_0 : wr.cell? ⟨gb399, 0, none⟩ = some (.slice Ao22 t390.length co22) := (blk_cell BK399.out 0).trans rfl
                                              have hcz93_1 : wr.cell? ⟨gb399, 1, none⟩ = some (.slice Ao25 t393.length co25) := (blk_cell BK399.out 1).trans rfl
                                              have hcz93_2 : wr.cell? ⟨gb399, 2, none⟩ = some (.slice Ao26 t396.length co26) := (blk_cell BK399.out 2).trans rfl
                                              have hfz93_0 := blk_frozen BK399.out 0
                                              have hfz93_1 := blk_frozen BK399.out 1
                                              have hfz93_2 := blk_frozen BK399.out 2
                                              have p409 : 0 ≤ (x7_4 : Int) := of_decide_eq_true (by first | (with_reducible assumption) | assumption)
                                              have q409 : x7_4 < (t393.length : Int) := of_decide_eq_true (by first | (with_reducible assumption) | assumption)
                                              obtain ⟨ad409, e409, hx409_0⟩ := Kd.at_int (Kd.R_reads' HO_400001.out).2.2 x7_4 p409 q409
                                              cases e409
                                              replace p409 := eq_true p409
                                              replace q409 := eq_true q409
                                              have p410 : 0 ≤ ((ji80) : Int) := of_decide_eq_true (by first | (with_reducible assumption) | assumption)
                                              have q410 : (ji80) < (t400.length : Int) := of_decide_eq_true (by first | (with_reducible assumption) | assumption)
                                              obtain ⟨ad410, e410, hx410_0⟩ := Kd.at_bool (Kd.R_reads' HO_4.out).2.2 (ji80) p410 q410
                                              (try rw [← Nbq83.out] at hx410_0)
                                              (try rw [← Nbq88.out] at hx410_0)
                                              cases e410
                                              replace p410 := eq_true p410
                                              replace q410 := eq_true q410
                                              have p411 : 0 ≤ ((ji80) : Int) := of_decide_eq_true (by first | (with_reducible assumption) | assumption)
                                              have q411 : (ji80) < (t390.length : Int) := of_decide_eq_true (by first | (with_reducible assumption) | assumption)
                                              obtain ⟨ad411, e411, hx411_0⟩ := Kd.at_bool (Kd.R_reads' HO_400000.out).2.2 (ji80) p411 q411
                                              (try rw [← Nbq83.out] at hx411_0)
                                              (try rw [← Nbq88.out] at hx411_0)
                                              cases e411
                                              replace p411 := eq_true p411
                                              replace q411 := eq_true q411
                                              have hcz94_0 : wr.cell? ⟨gb386, 0, none⟩ = some (.slice A0_0 l0_0.length c0_0) := (blk_cell BK386.out 0).trans rfl
                                              have hcz94_1 : wr.cell? ⟨gb386, 1, none⟩ = some (.slice A0_1 l0_1.length c0_1) := (blk_cell BK386.out 1).trans rfl
                                              have hfz94_0 := blk_frozen BK386.out 0
                                              have hfz94_1 := blk_frozen BK386.out 1
                                              have p412 : 0 ≤ ((ji80) : Int) := of_decide_eq_true (by first | (with_reducible assumption) | assumption)
                                              have q412 : (ji80) < (l0_0.length : Int) := of_decide_eq_true (by first | (with_reducible assumption) | assumption)
                                              obtain ⟨ad412, A412_3, c412_3, e412, hx412_0, hx412_1, hx412_2, hx412_3, hx412_4, hl412_3, hi412_3⟩ := at_T43 HR0_0.out (ji80) p412 q412
                                              cases e412
                                              replace hx412_0 := (HB.out.cell (World.block_lt_of_cell? w _ hx412_0)).trans hx412_0
                                              replace hx412_1 := (HB.out.cell (World.block_lt_of_cell? w _ hx412_1)).trans hx412_1
                                              replace hx412_2 := (HB.out.cell (World.block_lt_of_cell? w _ hx412_2)).trans hx412_2
                                              replace hx412_3 := (HB.out.cell (World.block_lt_of_cell? w _ hx412_3)).trans hx412_3
                                              replace hx412_4 := (HB.out.cell (World.block_lt_of_cell? w _ hx412_4)).trans hx412_4
                                              have HR412_3 := Aside0.mk hi412_3
                                              have HC412_3 := Aside0.mk hl412_3
                                              clear hi412_3 hl412_3
                                              replace p412 := eq_true p412
                                              replace q412 := eq_true q412
                                              go_wp2
                                              repeat (go_quiet (fail); try go_wp2)
                                              go_ret
                                              exact ⟨by first | rfl | (simp [errW_none, errW_some] <;> rfl) | (simp only [← hji80]; first | rfl | (simp [errW_none, errW_some] <;> rfl)) | (simp [*, errW_none, errW_some] <;> rfl), by repeat (first | (with_reducible first | exact HB.out | apply below_alloc | apply pw_below_drewN | apply below_drew1 | refine below_set ?_ GE386.out | refine below_set ?_ GE399.out) | exact HB.out)⟩
                                            · rw [if_neg c91] at H
                                              have c91b0 : decide (((rd_T43 l0_0 (ji80)).f4) < 1) = false := decide_eq_false c91
                                              clear c91
                                              by_cases c95 : x7_4 > 0
                                              · rw [if_pos c95] at H
                                                have c95b0 : decide (0 < x7_4) = true := decide_eq_true c95
                                                clear c95
                                                obtain ⟨ji96, hji96⟩ : ∃ j_ : Int, (wrap64 (x7_4 - 1)) = j_ := ⟨_, rfl⟩
                                                replace H : (if 0 ≤ (ji96) then (if (ji96) < (t393.length : Int) then (if 0 ≤ (wrap64 ((rd t393 (ji96)) - 1)) then (if (wrap64 ((rd t393 (ji96)) - 1)) < (l0_0.length : Int) then (if ((rd_T43 l0_0 (wrap64 ((rd t393 (ji96)) - 1))).f4) ≤ ((rd_T43 l0_0 (ji80)).f4) then (some false) else (heirloomlaw11_ReachPending.l1 k4 t400 x5_3 (wrap64 (x7_4 + 1)) l0_0 l0_1 t390 t393 t396)) else (none)) else (none)) else (none)) else (none)) = some r := by first | (rw [hji96] at H; exact H) | (simp only [hji96] at H ⊢; exact H)
                                                have hji96w : (IntKind.i64.wrap (x7_4 - 1)) = ji96 := (i64_w _).trans hji96
                                                by_cases c97 : 0 ≤ (ji96)
                                                · rw [if_pos c97] at H
                                                  have c97b0 : decide (0 ≤ (ji96)) = true := decide_eq_true c97
                                                  clear c97
                                                  by_cases c98 : (ji96) < (t393.length : Int)
                                                  · rw [if_pos c98] at H
                                                    have c98b0 : decide ((ji96) < (t393.length : Int)) = true := decide_eq_true c98
                                                    clear c98
                                                    obtain ⟨ji99, hji99⟩ : ∃ j_ : Int, (wrap64 ((rd t393 (ji96)) - 1)) = j_ := ⟨_, rfl⟩
                                                    replace H : (if 0 ≤ (ji99) then (if (ji99) < (l0_0.length : Int) then (if ((rd_T43 l0_0 (ji99)).f4) ≤ ((rd_T43 l0_0 (ji80)).f4) then (some false) else (heirloomlaw11_ReachPending.l1 k4 t400 x5_3 (wrap64 (x7_4 + 1)) l0_0 l0_1 t390 t393 t396)) else (none)) else (none)) = some r := by first | (rw [hji99] at H; exact H) | (simp only [hji99] at H ⊢; exact H)
                                                    have hji99w : (IntKind.i64.wrap ((rd t393 (ji96)) - 1)) = ji99 := (i64_w _).trans hji99
                                                    by_cases c100 : 0 ≤ (ji99)
                                                    · rw [if_pos c100] at H
                                                      have c100b0 : decide (0 ≤ (ji99)) = true := decide_eq_true c100
                                                      clear c100
                                                      by_cases c101 : (ji99) < (l0_0.length : Int)
                                                      · rw [if_pos c101] at H
                                                        have c101b0 : decide ((ji99) < (l0_0.length : Int)) = true := decide_eq_true c101
                                                        clear c101
                                                        by_cases c102 : ((rd_T43 l0_0 (ji99)).f4) ≤ ((rd_T43 l0_0 (ji80)).f4)
                                                        · rw [if_pos c102] at H
                                                          have c102b0 : decide (((rd_T43 l0_0 (ji99)).f4) ≤ ((rd_T43 l0_0 (ji80)).f4)) = true := decide_eq_true c102
                                                          clear c102
                                                          obtain rfl := Option.some.inj H
                                                          have hnb103 := NB399_386.out
                                                          have hnc103 := NB386_399.out
                                                          have hcz104_0 : wr.cell? ⟨gb399, 0, none⟩ = some (.slice Ao22 t390.length co22) := (blk_cell BK399.out 0).trans rfl
                                                          have hcz104_1 : wr.cell? ⟨gb399, 1, none⟩ = some (.slice Ao25 t393.length co25) := (blk_cell BK399.out 1).trans rfl
                                                          have hcz104_2 : wr.cell? ⟨gb399, 2, none⟩ = some (.slice Ao26 t396.length co26) := (blk_cell BK399.out 2).trans rfl
                                                          have hfz104_0 := blk_frozen BK399.out 0
                                                          have hfz104_1 := blk_frozen BK399.out 1
                                                          have hfz104_2 := blk_frozen BK399.out 2
                                                          have p409 : 0 ≤ (x7_4 : Int) := of_decide_eq_true (by first | (with_reducible assumption) | assumption)
                                                          have q409 : x7_4 < (t393.length : Int) := of_decide_eq_true (by first | (with_reducible assumption) | assumption)
                                                          obtain ⟨ad409, e409, hx409_0⟩ := Kd.at_int (Kd.R_reads' HO_400001.out).2.2 x7_4 p409 q409
                                                          cases e409
                                                          replace p409 := eq_true p409
                                                          replace q409 := eq_true q409
                                                          have p410 : 0 ≤ ((ji80) : Int) := of_decide_eq_true (by first | (with_reducible assumption) | assumption)
                                                          have q410 : (ji80) < (t400.length : Int) := of_decide_eq_true (by first | (with_reducible assumption) | assumption)
                                                          obtain ⟨ad410, e410, hx410_0⟩ := Kd.at_bool (Kd.R_reads' HO_4.out).2.2 (ji80) p410 q410
                                                          (try rw [← Nbq83.out] at hx410_0)
                                                          (try rw [← Nbq88.out] at hx410_0)
                                                          cases e410
                                                          replace p410 := eq_true p410
                                                          replace q410 := eq_true q410
                                                          have p411 : 0 ≤ ((ji80) : Int) := of_decide_eq_true (by first | (with_reducible assumption) | assumption)
                                                          have q411 : (ji80) < (t390.length : Int) := of_decide_eq_true (by first | (with_reducible assumption) | assumption)
                                                          obtain ⟨ad411, e411, hx411_0⟩ := Kd.at_bool (Kd.R_reads' HO_400000.out).2.2 (ji80) p411 q411
                                                          (try rw [← Nbq83.out] at hx411_0)
                                                          (try rw [← Nbq88.out] at hx411_0)
                                                          cases e411
                                                          replace p411 := eq_true p411
                                                          replace q411 := eq_true q411
                                                          have hcz105_0 : wr.cell? ⟨gb386, 0, none⟩ = some (.slice A0_0 l0_0.length c0_0) := (blk_cell BK386.out 0).trans rfl
                                                          have hcz105_1 : wr.cell? ⟨gb386, 1, none⟩ = some (.slice A0_1 l0_1.length c0_1) := (blk_cell BK386.out 1).trans rfl
                                                          have hfz105_0 := blk_frozen BK386.out 0
                                                          have hfz105_1 := blk_frozen BK386.out 1
                                                          have p412 : 0 ≤ ((ji80) : Int) := of_decide_eq_true (by first | (with_reducible assumption) | assumption)
                                                          have q412 : (ji80) < (l0_0.length : Int) := of_decide_eq_true (by first | (with_reducible assumption) | assumption)
                                                          obtain ⟨ad412, A412_3, c412_3, e412, hx412_0, hx412_1, hx412_2, hx412_3, hx412_4, hl412_3, hi412_3⟩ := at_T43 HR0_0.out (ji80) p412 q412
                                                          cases e412
                                                          replace hx412_0 := (HB.out.cell (World.block_lt_of_cell? w _ hx412_0)).trans hx412_0
                                                          replace hx412_1 := (HB.out.cell (World.block_lt_of_cell? w _ hx412_1)).trans hx412_1
                                                          replace hx412_2 := (HB.out.cell (World.block_lt_of_cell? w _ hx412_2)).trans hx412_2
                                                          replace hx412_3 := (HB.out.cell (World.block_lt_of_cell? w _ hx412_3)).trans hx412_3
                                                          replace hx412_4 := (HB.out.cell (World.block_lt_of_cell? w _ hx412_4)).trans hx412_4
                                                          have HR412_3 := Aside0.mk hi412_3
                                                          have HC412_3 := Aside0.mk hl412_3
                                                          clear hi412_3 hl412_3
                                                          replace p412 := eq_true p412
                                                          replace q412 := eq_true q412
                                                          have p413 : 0 ≤ ((ji96) : Int) := of_decide_eq_true (by first | (with_reducible assumption) | assumption)
                                                          have q413 : (ji96) < (t393.length : Int) := of_decide_eq_true (by first | (with_reducible assumption) | assumption)
                                                          obtain ⟨ad413, e413, hx413_0⟩ := Kd.at_int (Kd.R_reads' HO_400001.out).2.2 (ji96) p413 q413
                                                          obtain rfl : ad409 = ad413 := (by injection e413)
                                                          replace p413 := eq_true p413
                                                          replace q413 := eq_true q413
                                                          have p414 : 0 ≤ ((ji99) : Int) := of_decide_eq_true (by first | (with_reducible assumption) | assumption)
                                                          have q414 : (ji99) < (l0_0.length : Int) := of_decide_eq_true (by first | (with_reducible assumption) | assumption)
                                                          obtain ⟨ad414, A414_3, c414_3, e414, hx414_0, hx414_1, hx414_2, hx414_3, hx414_4, hl414_3, hi414_3⟩ := at_T43 HR0_0.out (ji99) p414 q414
                                                          obtain rfl : ad412 = ad414 := (by injection e414)
                                                          replace hx414_0 := (HB.out.cell (World.block_lt_of_cell? w _ hx414_0)).trans hx414_0
                                                          replace hx414_1 := (HB.out.cell (World.block_lt_of_cell? w _ hx414_1)).trans hx414_1
                                                          replace hx414_2 := (HB.out.cell (World.block_lt_of_cell? w _ hx414_2)).trans hx414_2
                                                          replace hx414_3 := (HB.out.cell (World.block_lt_of_cell? w _ hx414_3)).trans hx414_3
                                                          replace hx414_4 := (HB.out.cell (World.block_lt_of_cell? w _ hx414_4)).trans hx414_4
                                                          have HR414_3 := Aside0.mk hi414_3
                                                          have HC414_3 := Aside0.mk hl414_3
                                                          clear hi414_3 hl414_3
                                                          replace p414 := eq_true p414
                                                          replace q414 := eq_true q414
                                                          have p415 : 0 ≤ ((ji80) : Int) := of_decide_eq_true (by first | (with_reducible assumption) | assumption)
                                                          have q415 : (ji80) < (l0_0.length : Int) := of_decide_eq_true (by first | (with_reducible assumption) | assumption)
                                                          obtain ⟨ad415, A415_3, c415_3, e415, hx415_0, hx415_1, hx415_2, hx415_3, hx415_4, hl415_3, hi415_3⟩ := at_T43 HR0_0.out (ji80) p415 q415
                                                          obtain rfl : ad412 = ad415 := (by injection e415)
                                                          replace hx415_0 := (HB.out.cell (World.block_lt_of_cell? w _ hx415_0)).trans hx415_0
                                                          replace hx415_1 := (HB.out.cell (World.block_lt_of_cell? w _ hx415_1)).trans hx415_1
                                                          replace hx415_2 := (HB.out.cell (World.block_lt_of_cell? w _ hx415_2)).trans hx415_2
                                                          replace hx415_3 := (HB.out.cell (World.block_lt_of_cell? w _ hx415_3)).trans hx415_3
                                                          replace hx415_4 := (HB.out.cell (World.block_lt_of_cell? w _ hx415_4)).trans hx415_4
                                                          have HR415_3 := Aside0.mk hi415_3
                                                          have HC415_3 := Aside0.mk hl415_3
                                                          clear hi415_3 hl415_3
                                                          replace p415 := eq_true p415
                                                          replace q415 := eq_true q415
                                                          have ea_ := Option.some.inj (hx412_3.symm.trans hx415_3)
                                                          injection ea_ with ea_ en_ ec_
                                                          subst ea_
                                                          subst ec_
                                                          clear en_
                                                          go_wp2
                                                          repeat (go_quiet (fail); try go_wp2)
                                                          go_ret
                                                          exact ⟨by first | rfl | (simp [errW_none, errW_some] <;> rfl) | (simp only [← hji80, ← hji96, ← hji99]; first | rfl | (simp [errW_none, errW_some] <;> rfl)) | (simp [*, errW_none, errW_some] <;> rfl), by repeat (first | (with_reducible first | exact HB.out | apply below_alloc | apply pw_below_drewN | apply below_drew1 | refine below_set ?_ GE386.out | refine below_set ?_ GE399.out) | exact HB.out)⟩
                                                        · rw [if_neg c102] at H
                                                          have c102b0 : decide (((rd_T43 l0_0 (ji99)).f4) ≤ ((rd_T43 l0_0 (ji80)).f4)) = false := decide_eq_false c102
                                                          clear c102
                                                          have H' := Aside0.mk H
                                                          clear H
                                                          have hnb106 := NB399_386.out
                                                          have hnc106 := NB386_399.out
                                                          have hcz107_0 : wr.cell? ⟨gb399, 0, none⟩ = some (.slice Ao22 t390.length co22) := (blk_cell BK399.out 0).trans rfl
                                                          have hcz107_1 : wr.cell? ⟨gb399, 1, none⟩ = some (.slice Ao25 t393.length co25) := (blk_cell BK399.out 1).trans rfl
                                                          have hcz107_2 : wr.cell? ⟨gb399, 2, none⟩ = some (.slice Ao26 t396.length co26) := (blk_cell BK399.out 2).trans rfl
                                                          have hfz107_0 := blk_frozen BK399.out 0
                                                          have hfz107_1 := blk_frozen BK399.out 1
                                                          have hfz107_2 := blk_frozen BK399.out 2
                                                          have p409 : 0 ≤ (x7_4 : Int) := of_decide_eq_true (by first | (with_reducible assumption) | assumption)
                                                          have q409 : x7_4 < (t393.length : Int) := of_decide_eq_true (by first | (with_reducible assumption) | assumption)
                                                          obtain ⟨ad409, e409, hx409_0⟩ := Kd.at_int (Kd.R_reads' HO_400001.out).2.2 x7_4 p409 q409
                                                          cases e409
                                                          replace p409 := eq_true p409
                                                          replace q409 := eq_true q409
                                                          have p410 : 0 ≤ ((ji80) : Int) := of_decide_eq_true (by first | (with_reducible assumption) | assumption)
                                                          have q410 : (ji80) < (t400.length : Int) := of_decide_eq_true (by first | (with_reducible assumption) | assumption)
                                                          obtain ⟨ad410, e410, hx410_0⟩ := Kd.at_bool (Kd.R_reads' HO_4.out).2.2 (ji80) p410 q410
                                                          (try rw [← Nbq83.out] at hx410_0)
                                                          (try rw [← Nbq88.out] at hx410_0)
                                                          cases e410
                                                          replace p410 := eq_true p410
                                                          replace q410 := eq_true q410
                                                          have p411 : 0 ≤ ((ji80) : Int) := of_decide_eq_true (by first | (with_reducible assumption) | assumption)
                                                          have q411 : (ji80) < (t390.length : Int) := of_decide_eq_true (by first | (with_reducible assumption) | assumption)
                                                          obtain ⟨ad411, e411, hx411_0⟩ := Kd.at_bool (Kd.R_reads' HO_400000.out).2.2 (ji80) p411 q411
                                                          (try rw [← Nbq83.out] at hx411_0)
                                                          (try rw [← Nbq88.out] at hx411_0)
                                                          cases e411
                                                          replace p411 := eq_true p411
                                                          replace q411 := eq_true q411
                                                          have hcz108_0 : wr.cell? ⟨gb386, 0, none⟩ = some (.slice A0_0 l0_0.length c0_0) := (blk_cell BK386.out 0).trans rfl
                                                          have hcz108_1 : wr.cell? ⟨gb386, 1, none⟩ = some (.slice A0_1 l0_1.length c0_1) := (blk_cell BK386.out 1).trans rfl
                                                          have hfz108_0 := blk_frozen BK386.out 0
                                                          have hfz108_1 := blk_frozen BK386.out 1
                                                          have p412 : 0 ≤ ((ji80) : Int) := of_decide_eq_true (by first | (with_reducible assumption) | assumption)
                                                          have q412 : (ji80) < (l0_0.length : Int) := of_decide_eq_true (by first | (with_reducible assumption) | assumption)
                                                          obtain ⟨ad412, A412_3, c412_3, e412, hx412_0, hx412_1, hx412_2, hx412_3, hx412_4, hl412_3, hi412_3⟩ := at_T43 HR0_0.out (ji80) p412 q412
                                                          cases e412
                                                          replace hx412_0 := (HB.out.cell (World.block_lt_of_cell? w _ hx412_0)).trans hx412_0
                                                          replace hx412_1 := (HB.out.cell (World.block_lt_of_cell? w _ hx412_1)).trans hx412_1
                                                          replace hx412_2 := (HB.out.cell (World.block_lt_of_cell? w _ hx412_2)).trans hx412_2
                                                          replace hx412_3 := (HB.out.cell (World.block_lt_of_cell? w _ hx412_3)).trans hx412_3
                                                          replace hx412_4 := (HB.out.cell (World.block_lt_of_cell? w _ hx412_4)).trans hx412_4
                                                          have HR412_3 := Aside0.mk hi412_3
                                                          have HC412_3 := Aside0.mk hl412_3
                                                          clear hi412_3 hl412_3
                                                          replace p412 := eq_true p412
                                                          replace q412 := eq_true q412
                                                          have p413 : 0 ≤ ((ji96) : Int) := of_decide_eq_true (by first | (with_reducible assumption) | assumption)
                                                          have q413 : (ji96) < (t393.length : Int) := of_decide_eq_true (by first | (with_reducible assumption) | assumption)
                                                          obtain ⟨ad413, e413, hx413_0⟩ := Kd.at_int (Kd.R_reads' HO_400001.out).2.2 (ji96) p413 q413
                                                          obtain rfl : ad409 = ad413 := (by injection e413)
                                                          replace p413 := eq_true p413
                                                          replace q413 := eq_true q413
                                                          have p414 : 0 ≤ ((ji99) : Int) := of_decide_eq_true (by first | (with_reducible assumption) | assumption)
                                                          have q414 : (ji99) < (l0_0.length : Int) := of_decide_eq_true (by first | (with_reducible assumption) | assumption)
                                                          obtain ⟨ad414, A414_3, c414_3, e414, hx414_0, hx414_1, hx414_2, hx414_3, hx414_4, hl414_3, hi414_3⟩ := at_T43 HR0_0.out (ji99) p414 q414
                                                          obtain rfl : ad412 = ad414 := (by injection e414)
                                                          replace hx414_0 := (HB.out.cell (World.block_lt_of_cell? w _ hx414_0)).trans hx414_0
                                                          replace hx414_1 := (HB.out.cell (World.block_lt_of_cell? w _ hx414_1)).trans hx414_1
                                                          replace hx414_2 := (HB.out.cell (World.block_lt_of_cell? w _ hx414_2)).trans hx414_2
                                                          replace hx414_3 := (HB.out.cell (World.block_lt_of_cell? w _ hx414_3)).trans hx414_3
                                                          replace hx414_4 := (HB.out.cell (World.block_lt_of_cell? w _ hx414_4)).trans hx414_4
                                                          have HR414_3 := Aside0.mk hi414_3
                                                          have HC414_3 := Aside0.mk hl414_3
                                                          clear hi414_3 hl414_3
                                                          replace p414 := eq_true p414
                                                          replace q414 := eq_true q414
                                                          have p415 : 0 ≤ ((ji80) : Int) := of_decide_eq_true (by first | (with_reducible assumption) | assumption)
                                                          have q415 : (ji80) < (l0_0.length : Int) := of_decide_eq_true (by first | (with_reducible assumption) | assumption)
                                                          obtain ⟨ad415, A415_3, c415_3, e415, hx415_0, hx415_1, hx415_2, hx415_3, hx415_4, hl415_3, hi415_3⟩ := at_T43 HR0_0.out (ji80) p415 q415
                                                          obtain rfl : ad412 = ad415 := (by injection e415)
                                                          replace hx415_0 := (HB.out.cell (World.block_lt_of_cell? w _ hx415_0)).trans hx415_0
                                                          replace hx415_1 := (HB.out.cell (World.block_lt_of_cell? w _ hx415_1)).trans hx415_1
                                                          replace hx415_2 := (HB.out.cell (World.block_lt_of_cell? w _ hx415_2)).trans hx415_2
                                                          replace hx415_3 := (HB.out.cell (World.block_lt_of_cell? w _ hx415_3)).trans hx415_3
                                                          replace hx415_4 := (HB.out.cell (World.block_lt_of_cell? w _ hx415_4)).trans hx415_4
                                                          have HR415_3 := Aside0.mk hi415_3
                                                          have HC415_3 := Aside0.mk hl415_3
                                                          clear hi415_3 hl415_3
                                                          replace p415 := eq_true p415
                                                          replace q415 := eq_true q415
                                                          have ea_ := Option.some.inj (hx412_3.symm.trans hx415_3)
                                                          injection ea_ with ea_ en_ ec_
                                                          subst ea_
                                                          subst ec_
                                                          clear en_
                                                          go_wp2
                                                          repeat (go_quiet (fail); try go_wp2)
                                                          go_roundg k4
                                                          case measure => have := HJ1.out; have := HJ17.out; have := HK3.out; have := HK4.out; omega
                                                          case rel => exact ⟨(wrap64 (x7_4 + 1)), (by first | rfl | (simp; done) | (simp [*]; done)), H', ⟨by have := HJ1.out; have := HJ17.out; have := HK3.out; have := HK4.out; omega⟩, ⟨by (with_reducible repeat (first | apply Kd.R_alloc | apply Kd.R_drewN | apply Kd.R_drew)); exact HO_4.out⟩, ⟨by (with_reducible repeat (first | apply Kd.R_alloc | apply Kd.R_drewN | apply Kd.R_drew)); exact HO_400000.out⟩, ⟨by (with_reducible repeat (first | apply Kd.R_alloc | apply Kd.R_drewN | apply Kd.R_drew)); exact HO_400001.out⟩, ⟨by (with_reducible repeat (first | apply Kd.R_alloc | apply Kd.R_drewN | apply Kd.R_drew)); exact HO_400002.out⟩, ⟨by (with_reducible repeat (first | refine blk_drewN ?_ _ | refine blk_drew ?_ | refine blk_alloc ?_ _)); exact BK386.out⟩, ⟨by (with_reducible repeat (first | refine blk_drewN ?_ _ | refine blk_drew ?_ | refine blk_alloc ?_ _)); exact BK399.out⟩, ⟨by repeat (first | (with_reducible first | exact HB.out | apply below_alloc | apply pw_below_drewN | apply below_drew1 | refine below_set ?_ GE386.out | refine below_set ?_ GE399.out) | exact HB.out)⟩⟩
                                                      · rw [if_neg c101] at H
                                                        exact absurd H (by simp)
                                                    · rw [if_neg c100] at H
                                                      exact absurd H (by simp)
                                                  · rw [if_neg c98] at H
                                                    exact absurd H (by simp)
                                                · rw [if_neg c97] at H
                                                  exact absurd H (by simp)
                                              · rw [if_neg c95] at H
                                                have c95b0 : decide (0 < x7_4) = false := decide_eq_false c95
                                                clear c95
                                                have H' := Aside0.mk H
                                                clear H
                                                have hnb109 := NB399_386.out
                                                have hnc109 := NB386_399.out
                                                have hcz110_0 : wr.cell? ⟨gb399, 0, none⟩ = some (.slice Ao22 t390.length co22) := (blk_cell BK399.out 0).trans rfl
                                                have hcz110_1 : wr.cell? ⟨gb399, 1, none⟩ = some (.slice Ao25 t393.length co25) := (blk_cell BK399.out 1).trans rfl
                                                have hcz110_2 : wr.cell? ⟨gb399, 2, none⟩ = some (.slice Ao26 t396.length co26) := (blk_cell BK399.out 2).trans rfl
                                                have hfz110_0 := blk_frozen BK399.out 0
                                                have hfz110_1 := blk_frozen BK399.out 1
                                                have hfz110_2 := blk_frozen BK399.out 2
                                                have p409 : 0 ≤ (x7_4 : Int) := of_decide_eq_true (by first | (with_reducible assumption) | assumption)
                                                have q409 : x7_4 < (t393.length : Int) := of_decide_eq_true (by first | (with_reducible assumption) | assumption)
                                                obtain ⟨ad409, e409, hx409_0⟩ := Kd.at_int (Kd.R_reads' HO_400001.out).2.2 x7_4 p409 q409
                                                cases e409
                                                replace p409 := eq_true p409
                                                replace q409 := eq_true q409
                                                have p410 : 0 ≤ ((ji80) : Int) := of_decide_eq_true (by first | (with_reducible assumption) | assumption)
                                                have q410 : (ji80) < (t400.length : Int) := of_decide_eq_true (by first | (with_reducible assumption) | assumption)
                                                obtain ⟨ad410, e410, hx410_0⟩ := Kd.at_bool (Kd.R_reads' HO_4.out).2.2 (ji80) p410 q410
                                                (try rw [← Nbq83.out] at hx410_0)
                                                (try rw [← Nbq88.out] at hx410_0)
                                                cases e410
                                                replace p410 := eq_true p410
                                                replace q410 := eq_true q410
                                                have p411 : 0 ≤ ((ji80) : Int) := of_decide_eq_true (by first | (with_reducible assumption) | assumption)
                                                have q411 : (ji80) < (t390.length : Int) := of_decide_eq_true (by first | (with_reducible assumption) | assumption)
                                                obtain ⟨ad411, e411, hx411_0⟩ := Kd.at_bool (Kd.R_reads' HO_400000.out).2.2 (ji80) p411 q411
                                                (try rw [← Nbq83.out] at hx411_0)
                                                (try rw [← Nbq88.out] at hx411_0)
                                                cases e411
                                                replace p411 := eq_true p411
                                                replace q411 := eq_true q411
                                                have hcz111_0 : wr.cell? ⟨gb386, 0, none⟩ = some (.slice A0_0 l0_0.length c0_0) := (blk_cell BK386.out 0).trans rfl
                                                have hcz111_1 : wr.cell? ⟨gb386, 1, none⟩ = some (.slice A0_1 l0_1.length c0_1) := (blk_cell BK386.out 1).trans rfl
                                                have hfz111_0 := blk_frozen BK386.out 0
                                                have hfz111_1 := blk_frozen BK386.out 1
                                                have p412 : 0 ≤ ((ji80) : Int) := of_decide_eq_true (by first | (with_reducible assumption) | assumption)
                                                have q412 : (ji80) < (l0_0.length : Int) := of_decide_eq_true (by first | (with_reducible assumption) | assumption)
                                                obtain ⟨ad412, A412_3, c412_3, e412, hx412_0, hx412_1, hx412_2, hx412_3, hx412_4, hl412_3, hi412_3⟩ := at_T43 HR0_0.out (ji80) p412 q412
                                                cases e412
                                                replace hx412_0 := (HB.out.cell (World.block_lt_of_cell? w _ hx412_0)).trans hx412_0
                                                replace hx412_1 := (HB.out.cell (World.block_lt_of_cell? w _ hx412_1)).trans hx412_1
                                                replace hx412_2 := (HB.out.cell (World.block_lt_of_cell? w _ hx412_2)).trans hx412_2
                                                replace hx412_3 := (HB.out.cell (World.block_lt_of_cell? w _ hx412_3)).trans hx412_3
                                                replace hx412_4 := (HB.out.cell (World.block_lt_of_cell? w _ hx412_4)).trans hx412_4
                                                have HR412_3 := Aside0.mk hi412_3
                                                have HC412_3 := Aside0.mk hl412_3
                                                clear hi412_3 hl412_3
                                                replace p412 := eq_true p412
                                                replace q412 := eq_true q412
                                                go_wp2
                                                repeat (go_quiet (fail); try go_wp2)
                                                go_roundg k4
                                                case measure => have := HJ1.out; have := HJ17.out; have := HK3.out; have := HK4.out; omega
                                                case rel => exact ⟨(wrap64 (x7_4 + 1)), (by first | rfl | (simp; done) | (simp [*]; done)), H', ⟨by have := HJ1.out; have := HJ17.out; have := HK3.out; have := HK4.out; omega⟩, ⟨by (with_reducible repeat (first | apply Kd.R_alloc | apply Kd.R_drewN | apply Kd.R_drew)); exact HO_4.out⟩, ⟨by (with_reducible repeat (first | apply Kd.R_alloc | apply Kd.R_drewN | apply Kd.R_drew)); exact HO_400000.out⟩, ⟨by (with_reducible repeat (first | apply Kd.R_alloc | apply Kd.R_drewN | apply Kd.R_drew)); exact HO_400001.out⟩, ⟨by (with_reducible repeat (first | apply Kd.R_alloc | apply Kd.R_drewN | apply Kd.R_drew)); exact HO_400002.out⟩, ⟨by (with_reducible repeat (first | refine blk_drewN ?_ _ | refine blk_drew ?_ | refine blk_alloc ?_ _)); exact BK386.out⟩, ⟨by (with_reducible repeat (first | refine blk_drewN ?_ _ | refine blk_drew ?_ | refine blk_alloc ?_ _)); exact BK399.out⟩, ⟨by repeat (first | (with_reducible first | exact HB.out | apply below_alloc | apply pw_below_drewN | apply below_drew1 | refine below_set ?_ GE386.out | refine below_set ?_ GE399.out) | exact HB.out)⟩⟩
                                          · rw [if_neg c90] at H
                                            exact absurd H (by simp)
                                        · replace c89 := Bool.eq_false_iff.mpr c89
                                          subst c89
                                          have H1 : (some false) = some r := by rw [if_neg (show ¬ (false = true) by decide)] at H; exact H
                                          clear H
                                          have H := H1
                                          clear H1
                                          obtain rfl := Option.some.inj H
                                          have hnb112 := NB399_386.out
                                          have hnc112 := NB386_399.out
                                          have hcz113_0 : wr.cell? ⟨gb399, 0, none⟩ = some (.slice Ao22 t390.length co22) := (blk_cell BK399.out 0).trans rfl
                                          have hcz113_1 : wr.cell? ⟨gb399, 1, none⟩ = some (.slice Ao25 t393.length co25) := (blk_cell BK399.out 1).trans rfl
                                          have hcz113_2 : wr.cell? ⟨gb399, 2, none⟩ = some (.slice Ao26 t396.length co26) := (blk_cell BK399.out 2).trans rfl
                                          have hfz113_0 := blk_frozen BK399.out 0
                                          have hfz113_1 := blk_frozen BK399.out 1
                                          have hfz113_2 := blk_frozen BK399.out 2
                                          have p409 : 0 ≤ (x7_4 : Int) := of_decide_eq_true (by first | (with_reducible assumption) | assumption)
                                          have q409 : x7_4 < (t393.length : Int) := of_decide_eq_true (by first | (with_reducible assumption) | assumption)
                                          obtain ⟨ad409, e409, hx409_0⟩ := Kd.at_int (Kd.R_reads' HO_400001.out).2.2 x7_4 p409 q409
                                          cases e409
                                          replace p409 := eq_true p409
                                          replace q409 := eq_true q409
                                          have p410 : 0 ≤ ((ji80) : Int) := of_decide_eq_true (by first | (with_reducible assumption) | assumption)
                                          have q410 : (ji80) < (t400.length : Int) := of_decide_eq_true (by first | (with_reducible assumption) | assumption)
                                          obtain ⟨ad410, e410, hx410_0⟩ := Kd.at_bool (Kd.R_reads' HO_4.out).2.2 (ji80) p410 q410
                                          (try rw [← Nbq83.out] at hx410_0)
                                          (try rw [← Nbq88.out] at hx410_0)
                                          cases e410
                                          replace p410 := eq_true p410
                                          replace q410 := eq_true q410
                                          have p411 : 0 ≤ ((ji80) : Int) := of_decide_eq_true (by first | (with_reducible assumption) | assumption)
                                          have q411 : (ji80) < (t390.length : Int) := of_decide_eq_true (by first | (with_reducible assumption) | assumption)
                                          obtain ⟨ad411, e411, hx411_0⟩ := Kd.at_bool (Kd.R_reads' HO_400000.out).2.2 (ji80) p411 q411
                                          (try rw [← Nbq83.out] at hx411_0)
                                          (try rw [← Nbq88.out] at hx411_0)
                                          cases e411
                                          replace p411 := eq_true p411
                                          replace q411 := eq_true q411
                                          go_wp2
                                          repeat (go_quiet (fail); try go_wp2)
                                          go_ret
                                          exact ⟨by first | rfl | (simp [errW_none, errW_some] <;> rfl) | (simp only [← hji80]; first | rfl | (simp [errW_none, errW_some] <;> rfl)) | (simp [*, errW_none, errW_some] <;> rfl), by repeat (first | (with_reducible first | exact HB.out | apply below_alloc | apply pw_below_drewN | apply below_drew1 | refine below_set ?_ GE386.out | refine below_set ?_ GE399.out) | exact HB.out)⟩
                                      · rw [if_neg c87] at H
                                        exact absurd H (by simp)
                                  · rw [if_neg c82] at H
                                    exact absurd H (by simp)
                                · rw [if_neg c81] at H
                                  exact absurd H (by simp)
                          · rw [if_neg c73] at H
                            exact absurd H (by simp)
                        · rw [if_neg c72] at H
                          have c72b0 : decide (x7_4 < (t393.length : Int)) = false := decide_eq_false c72
                          clear c72
                          by_cases c114 : (t393.length : Int) = x5_3
                          · rw [if_pos c114] at H
                            have c114b0 : ((t393.length : Int) == x5_3) = true := beq_iff_eq.mpr c114
                            have c114b1 : ((t393.length : Int) != x5_3) = false := bne_eq_false_iff_eq.mpr c114
                            clear c114
                            replace H := Option.bind_eq_some_iff.mp H
                            obtain ⟨t416, A1150, H⟩ := H
                            replace H : (some t416) = some r := H
                            have A115 := Aside0.mk A1150
                            clear A1150
                            obtain rfl := Option.some.inj H
                            have hnb116 := NB399_386.out
                            have hnc116 := NB386_399.out
                            have hcz117_0 : wr.cell? ⟨gb399, 0, none⟩ = some (.slice Ao22 t390.length co22) := (blk_cell BK399.out 0).trans rfl
                            have hcz117_1 : wr.cell? ⟨gb399, 1, none⟩ = some (.slice Ao25 t393.length co25) := (blk_cell BK399.out 1).trans rfl
                            have hcz117_2 : wr.cell? ⟨gb399, 2, none⟩ = some (.slice Ao26 t396.length co26) := (blk_cell BK399.out 2).trans rfl
                            have hfz117_0 := blk_frozen BK399.out 0
                            have hfz117_1 := blk_frozen BK399.out 1
                            have hfz117_2 := blk_frozen BK399.out 2
                            go_wp2_with (first | (go_at_call 11; (with_reducible refine (heirloomlaw11_alive.calls  t416 _ A115.out).mono ?_); rintro e w118 ⟨rfl, hb⟩; have n0_ := Aside0.mk (Kd.R_below (by (with_reducible repeat (first | apply Kd.R_alloc | apply Kd.R_drewN | apply Kd.R_drew)); exact HO_4.out) hb); have n1_ := Aside0.mk (Kd.R_below (by (with_reducible repeat (first | apply Kd.R_alloc | apply Kd.R_drewN | apply Kd.R_drew)); exact HO_400000.out) hb); have n2_ := Aside0.mk (Kd.R_below (by (with_reducible repeat (first | apply Kd.R_alloc | apply Kd.R_drewN | apply Kd.R_drew)); exact HO_400001.out) hb); have n3_ := Aside0.mk (Kd.R_below (by (with_reducible repeat (first | apply Kd.R_alloc | apply Kd.R_drewN | apply Kd.R_drew)); exact HO_400002.out) hb); have n4_ := Aside0.mk (blk_below (g := gb386) (o := .cells #[.slice A0_0 l0_0.length c0_0, .slice A0_1 l0_1.length c0_1] 25 (0, 0)) (by (with_reducible repeat (first | refine blk_drewN ?_ _ | refine blk_drew ?_ | refine blk_alloc ?_ _)); exact BK386.out) hb); have n5_ := Aside0.mk (blk_below (g := gb399) (o := .cells #[.slice Ao22 t390.length co22, .slice Ao25 t393.length co25, .slice Ao26 t396.length co26] 37 (0, 0)) (by (with_reducible repeat (first | refine blk_drewN ?_ _ | refine blk_drew ?_ | refine blk_alloc ?_ _)); exact BK399.out) hb); have n6_ := Aside0.mk (below_step (by repeat (first | (with_reducible first | exact HB.out | apply below_alloc | apply pw_below_drewN | apply below_drew1 | refine below_set ?_ GE386.out | refine below_set ?_ GE399.out) | exact HB.out)) hb); clear HO_4; clear HO_400000; clear HO_400001; clear HO_400002; clear BK386; clear BK399; clear HB; have HO_4 := n0_; have HO_400000 := n1_; have HO_400001 := n2_; have HO_400002 := n3_; have BK386 := n4_; have BK399 := n5_; have HB := n6_; clear n0_ n1_ n2_ n3_ n4_ n5_ n6_; (try clear hb); (try clear hb2); (try clear hk); (try clear hi)))
                            repeat (go_quiet (first | (go_at_call 11; (with_reducible refine (heirloomlaw11_alive.calls  t416 _ A115.out).mono ?_); rintro e w118 ⟨rfl, hb⟩; have n0_ := Aside0.mk (Kd.R_below (by (with_reducible repeat (first | apply Kd.R_alloc | apply Kd.R_drewN | apply Kd.R_drew)); exact HO_4.out) hb); have n1_ := Aside0.mk (Kd.R_below (by (with_reducible repeat (first | apply Kd.R_alloc | apply Kd.R_drewN | apply Kd.R_drew)); exact HO_400000.out) hb); have n2_ := Aside0.mk (Kd.R_below (by (with_reducible repeat (first | apply Kd.R_alloc | apply Kd.R_drewN | apply Kd.R_drew)); exact HO_400001.out) hb); have n3_ := Aside0.mk (Kd.R_below (by (with_reducible repeat (first | apply Kd.R_alloc | apply Kd.R_drewN | apply Kd.R_drew)); exact HO_400002.out) hb); have n4_ := Aside0.mk (blk_below (g := gb386) (o := .cells #[.slice A0_0 l0_0.length c0_0, .slice A0_1 l0_1.length c0_1] 25 (0, 0)) (by (with_reducible repeat (first | refine blk_drewN ?_ _ | refine blk_drew ?_ | refine blk_alloc ?_ _)); exact BK386.out) hb); have n5_ := Aside0.mk (blk_below (g := gb399) (o := .cells #[.slice Ao22 t390.length co22, .slice Ao25 t393.length co25, .slice Ao26 t396.length co26] 37 (0, 0)) (by (with_reducible repeat (first | refine blk_drewN ?_ _ | refine blk_drew ?_ | refine blk_alloc ?_ _)); exact BK399.out) hb); have n6_ := Aside0.mk (below_step (by repeat (first | (with_reducible first | exact HB.out | apply below_alloc | apply pw_below_drewN | apply below_drew1 | refine below_set ?_ GE386.out | refine below_set ?_ GE399.out) | exact HB.out)) hb); clear HO_4; clear HO_400000; clear HO_400001; clear HO_400002; clear BK386; clear BK399; clear HB; have HO_4 := n0_; have HO_400000 := n1_; have HO_400001 := n2_; have HO_400002 := n3_; have BK386 := n4_; have BK399 := n5_; have HB := n6_; clear n0_ n1_ n2_ n3_ n4_ n5_ n6_; (try clear hb); (try clear hb2); (try clear hk); (try clear hi))); try go_wp2_with (first | (go_at_call 11; (with_reducible refine (heirloomlaw11_alive.calls  t416 _ A115.out).mono ?_); rintro e w118 ⟨rfl, hb⟩; have n0_ := Aside0.mk (Kd.R_below (by (with_reducible repeat (first | apply Kd.R_alloc | apply Kd.R_drewN | apply Kd.R_drew)); exact HO_4.out) hb); have n1_ := Aside0.mk (Kd.R_below (by (with_reducible repeat (first | apply Kd.R_alloc | apply Kd.R_drewN | apply Kd.R_drew)); exact HO_400000.out) hb); have n2_ := Aside0.mk (Kd.R_below (by (with_reducible repeat (first | apply Kd.R_alloc | apply Kd.R_drewN | apply Kd.R_drew)); exact HO_400001.out) hb); have n3_ := Aside0.mk (Kd.R_below (by (with_reducible repeat (first | apply Kd.R_alloc | apply Kd.R_drewN | apply Kd.R_drew)); exact HO_400002.out) hb); have n4_ := Aside0.mk (blk_below (g := gb386) (o := .cells #[.slice A0_0 l0_0.length c0_0, .slice A0_1 l0_1.length c0_1] 25 (0, 0)) (by (with_reducible repeat (first | refine blk_drewN ?_ _ | refine blk_drew ?_ | refine blk_alloc ?_ _)); exact BK386.out) hb); have n5_ := Aside0.mk (blk_below (g := gb399) (o := .cells #[.slice Ao22 t390.length co22, .slice Ao25 t393.length co25, .slice Ao26 t396.length co26] 37 (0, 0)) (by (with_reducible repeat (first | refine blk_drewN ?_ _ | refine blk_drew ?_ | refine blk_alloc ?_ _)); exact BK399.out) hb); have n6_ := Aside0.mk (below_step (by repeat (first | (with_reducible first | exact HB.out | apply below_alloc | apply pw_below_drewN | apply below_drew1 | refine below_set ?_ GE386.out | refine below_set ?_ GE399.out) | exact HB.out)) hb); clear HO_4; clear HO_400000; clear HO_400001; clear HO_400002; clear BK386; clear BK399; clear HB; have HO_4 := n0_; have HO_400000 := n1_; have HO_400001 := n2_; have HO_400002 := n3_; have BK386 := n4_; have BK399 := n5_; have HB := n6_; clear n0_ n1_ n2_ n3_ n4_ n5_ n6_; (try clear hb); (try clear hb2); (try clear hk); (try clear hi))))
                            go_ret
                            exact ⟨by first | rfl | (simp [errW_none, errW_some] <;> rfl) | (simp [*, errW_none, errW_some] <;> rfl), by repeat (first | (with_reducible first | exact HB.out | apply below_alloc | apply pw_below_drewN | apply below_drew1 | refine below_set ?_ GE386.out | refine below_set ?_ GE399.out) | exact HB.out)⟩
                          · rw [if_neg c114] at H
                            have c114b0 : ((t393.length : Int) == x5_3) = false := beq_eq_false_iff_ne.mpr c114
                            have c114b1 : ((t393.length : Int) != x5_3) = true := bne_iff_ne.mpr c114
                            obtain rfl := Option.some.inj H
                            have hnb119 := NB399_386.out
                            have hnc119 := NB386_399.out
                            have hcz120_0 : wr.cell? ⟨gb399, 0, none⟩ = some (.slice Ao22 t390.length co22) := (blk_cell BK399.out 0).trans rfl
                            have hcz120_1 : wr.cell? ⟨gb399, 1, none⟩ = some (.slice Ao25 t393.length co25) := (blk_cell BK399.out 1).trans rfl
                            have hcz120_2 : wr.cell? ⟨gb399, 2, none⟩ = some (.slice Ao26 t396.length co26) := (blk_cell BK399.out 2).trans rfl
                            have hfz120_0 := blk_frozen BK399.out 0
                            have hfz120_1 := blk_frozen BK399.out 1
                            have hfz120_2 := blk_frozen BK399.out 2
                            go_wp2
                            repeat (go_quiet (fail); try go_wp2)
                            go_ret
                            exact ⟨by first | rfl | (simp [errW_none, errW_some] <;> rfl) | (simp [*, errW_none, errW_some] <;> rfl), by repeat (first | (with_reducible first | exact HB.out | apply below_alloc | apply pw_below_drewN | apply below_drew1 | refine below_set ?_ GE386.out | refine below_set ?_ GE399.out) | exact HB.out)⟩

end Go.Proofs.Ytollnnbcfhnlfaa.QR
