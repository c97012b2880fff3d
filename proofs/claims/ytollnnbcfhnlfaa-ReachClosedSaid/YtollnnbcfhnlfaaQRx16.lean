-- WRITTEN BY wip/tools/myprint.py, a program of this session, over the kit's printer
import Derived.Test.YtollnnbcfhnlfaaQRx0
import Derived.Test.YtollnnbcfhnlfaaQRy
import Derived.Test.YtollnnbcfhnlfaaSh
import Derived.Test.YtollnnbcfhnlfaaQRx2
import Derived.Test.YtollnnbcfhnlfaaQRx3
import Derived.Test.YtollnnbcfhnlfaaQRx4
import Derived.Test.YtollnnbcfhnlfaaQRx8
import Derived.Test.YtollnnbcfhnlfaaQRx15
-- DENTED
namespace Go.Proofs.Ytollnnbcfhnlfaa.QR
open Go.RowKit Go.Proofs.YtollnnbcfhnlfaaW.PrintWords Go.Proofs.YtollnnbcfhnlfaaW.PrintLast Go.Proofs.YtollnnbcfhnlfaaW.PrintMore Go.Proofs.Ytollnnbcfhnlfaa.Sh
attribute [local go_sem] max2_int min2_int max_two min_two max_three min_three max_four min_four   -- for this text's walks alone
set_option linter.unusedVariables false
set_option linter.unusedSimpArgs false

/-! ### heirloomlaw11_ReachClosed: function 7 -/
mutual
def heirloomlaw11_ReachClosed.j0 : Nat → Bool → List (S43) → List (S40) → Option (Bool)
 | 0, _, _, _ => none
 | k + 1, x17, x360000, x360001 => if x17 = true then ((heirloomlaw11_alive.f).bind fun t362 => (some t362)) else ((reach_Collect.f x360000 x360001).bind fun bt363 => (if (bt363.1.length : Int) = (x360000.length : Int) then (heirloomlaw11_ReachClosed.l0 k 0 x360000 x360001 bt363.1 bt363.2.1 bt363.2.2) else (some false)))
def heirloomlaw11_ReachClosed.l0 : Nat → Int → List (S43) → List (S40) → List Bool → List Int → List (S49) → Option (Bool)
 | 0, _, _, _, _, _, _ => none
 | k + 1, x4, x360000, x360001, x373000, x373001, x373002 => if x4 < (x360000.length : Int) then (if 0 ≤ x4 then (heirloomlaw11_ReachClosed.l1 k x4 0 x360000 x360001 x373000 x373001 x373002 ((rd_T43 x360000 x4).f0) ((rd_T43 x360000 x4).f1) ((rd_T43 x360000 x4).f2) ((rd_T43 x360000 x4).f3) ((rd_T43 x360000 x4).f4)) else (none)) else (heirloomlaw11_ReachClosed.l2 k 0 x360000 x360001 x373000 x373001 x373002)
def heirloomlaw11_ReachClosed.l1 : Nat → Int → Int → List (S43) → List (S40) → List Bool → List Int → List (S49) → Int → Int → Int → List (S40) → Int → Option (Bool)
 | 0, _, _, _, _, _, _, _, _, _, _, _, _ => none
 | k + 1, x4, x6, x360000, x360001, x373000, x373001, x373002, x375000, x375001, x375002, x375003, x375004 => if 0 ≤ x4 then (if x4 < (x373000.length : Int) then (if rdOf false x373000 x4 = true then (heirloomlaw11_ReachClosed.j3 k x4 x6 (decide (x6 < (x375003.length : Int))) x360000 x360001 x373000 x373001 x373002 x375000 x375001 x375002 x375003 x375004) else (heirloomlaw11_ReachClosed.j3 k x4 x6 false x360000 x360001 x373000 x373001 x373002 x375000 x375001 x375002 x375003 x375004)) else (none)) else (none)
def heirloomlaw11_ReachClosed.j3 : Nat → Int → Int → Bool → List (S43) → List (S40) → List Bool → List Int → List (S49) → Int → Int → Int → List (S40) → Int → Option (Bool)
 | 0, _, _, _, _, _, _, _, _, _, _, _, _, _ => none
 | k + 1, x4, x6, x51, x360000, x360001, x373000, x373001, x373002, x375000, x375001, x375002, x375003, x375004 => if x51 = true then (if 0 ≤ x6 then (if x6 < (x375003.length : Int) then ((heirloomref11_Object.f k x360000 x360001 ((rd_T40 x375003 x6).f0) ((rd_T40 x375003 x6).f1)).bind fun t377 => (if t377 > 0 then (if 0 ≤ (wrap64 (t377 - 1)) then (if (wrap64 (t377 - 1)) < (x373000.length : Int) then (if (rdOf false x373000 (wrap64 (t377 - 1)) = true) then (heirloomlaw11_ReachClosed.l1 k x4 (wrap64 (x6 + 1)) x360000 x360001 x373000 x373001 x373002 x375000 x375001 x375002 x375003 x375004) else ((heirloomlaw11_cleared.f k x373000 x373001 x373002 (wrap64 (x4 + 1)) x6).bind fun t379 => (if t379 = true then (heirloomlaw11_ReachClosed.l1 k x4 (wrap64 (x6 + 1)) x360000 x360001 x373000 x373001 x373002 x375000 x375001 x375002 x375003 x375004) else (if x375001 > 0 then ((heirloomlaw11_cleared.f k x373000 x373001 x373002 (wrap64 (x4 + 1)) (wrap64 (x6 + 1))).bind fun t380 => (if t380 = true then ((heirloomref11_KeyOf.f k x375000 x375001 x375002 x375003 x375004 (wrap64 (x6 + 1))).bind fun t381 => (if t381 = x6 then (heirloomlaw11_ReachClosed.l1 k x4 (wrap64 (x6 + 1)) x360000 x360001 x373000 x373001 x373002 x375000 x375001 x375002 x375003 x375004) else (some false))) else (some false))) else (some false))))) else (none)) else (none)) else (heirloomlaw11_ReachClosed.l1 k x4 (wrap64 (x6 + 1)) x360000 x360001 x373000 x373001 x373002 x375000 x375001 x375002 x375003 x375004))) else (none)) else (none)) else (heirloomlaw11_ReachClosed.l0 k (wrap64 (x4 + 1)) x360000 x360001 x373000 x373001 x373002)
def heirloomlaw11_ReachClosed.l2 : Nat → Int → List (S43) → List (S40) → List Bool → List Int → List (S49) → Option (Bool)
 | 0, _, _, _, _, _, _ => none
 | k + 1, x8, x360000, x360001, x373000, x373001, x373002 => if x8 < (x360001.length : Int) then (if 0 ≤ x8 then ((heirloomref11_Object.f k x360000 x360001 ((rd_T40 x360001 x8).f0) ((rd_T40 x360001 x8).f1)).bind fun t383 => (if t383 > 0 then (if 0 ≤ (wrap64 (t383 - 1)) then (if (wrap64 (t383 - 1)) < (x373000.length : Int) then (if (rdOf false x373000 (wrap64 (t383 - 1)) = true) then (heirloomlaw11_ReachClosed.l2 k (wrap64 (x8 + 1)) x360000 x360001 x373000 x373001 x373002) else (some false)) else (none)) else (none)) else (heirloomlaw11_ReachClosed.l2 k (wrap64 (x8 + 1)) x360000 x360001 x373000 x373001 x373002))) else (none)) else ((heirloomlaw11_alive.f).bind fun t385 => (some t385))
end
def heirloomlaw11_ReachClosed.f (k : Nat) (l0_0 : List (S43)) (l0_1 : List (S40)) : Option (Bool) := (heirloomlaw11_Small.f k l0_0 l0_1).bind fun t360 => (if t360 = true then ((heirloomref11_Right.f k l0_0 l0_1).bind fun t361 => (heirloomlaw11_ReachClosed.j0 k (!t361) l0_0 l0_1)) else (heirloomlaw11_ReachClosed.j0 k true l0_0 l0_1))
theorem heirloomlaw11_ReachClosed.mono_l : ∀ k, (∀ y0 y1 y2, LeO (heirloomlaw11_ReachClosed.j0 k y0 y1 y2) (heirloomlaw11_ReachClosed.j0 (k + 1) y0 y1 y2)) ∧ (∀ y0 y1 y2 y3 y4 y5, LeO (heirloomlaw11_ReachClosed.l0 k y0 y1 y2 y3 y4 y5) (heirloomlaw11_ReachClosed.l0 (k + 1) y0 y1 y2 y3 y4 y5)) ∧ (∀ y0 y1 y2 y3 y4 y5 y6 y7 y8 y9 y10 y11, LeO (heirloomlaw11_ReachClosed.l1 k y0 y1 y2 y3 y4 y5 y6 y7 y8 y9 y10 y11) (heirloomlaw11_ReachClosed.l1 (k + 1) y0 y1 y2 y3 y4 y5 y6 y7 y8 y9 y10 y11)) ∧ (∀ y0 y1 y2 y3 y4 y5 y6 y7 y8 y9 y10 y11 y12, LeO (heirloomlaw11_ReachClosed.j3 k y0 y1 y2 y3 y4 y5 y6 y7 y8 y9 y10 y11 y12) (heirloomlaw11_ReachClosed.j3 (k + 1) y0 y1 y2 y3 y4 y5 y6 y7 y8 y9 y10 y11 y12)) ∧ (∀ y0 y1 y2 y3 y4 y5, LeO (heirloomlaw11_ReachClosed.l2 k y0 y1 y2 y3 y4 y5) (heirloomlaw11_ReachClosed.l2 (k + 1) y0 y1 y2 y3 y4 y5))
 | 0 => ⟨fun _ _ _ r h => by simp [heirloomlaw11_ReachClosed.j0] at h, fun _ _ _ _ _ _ r h => by simp [heirloomlaw11_ReachClosed.l0] at h, fun _ _ _ _ _ _ _ _ _ _ _ _ r h => by simp [heirloomlaw11_ReachClosed.l1] at h, fun _ _ _ _ _ _ _ _ _ _ _ _ _ r h => by simp [heirloomlaw11_ReachClosed.j3] at h, fun _ _ _ _ _ _ r h => by simp [heirloomlaw11_ReachClosed.l2] at h⟩
 | k + 1 => by
  obtain ⟨ih0, ih1, ih2, ih3, ih4⟩ := heirloomlaw11_ReachClosed.mono_l k
  refine ⟨?_, ?_, ?_, ?_, ?_⟩
  ·intro y0 y1 y2
   unfold heirloomlaw11_ReachClosed.j0
   repeat' first
   | (with_reducible exact ih0 _ _ _)
   | (with_reducible exact ih1 _ _ _ _ _ _)
   | (with_reducible exact ih2 _ _ _ _ _ _ _ _ _ _ _ _)
   | (with_reducible exact ih3 _ _ _ _ _ _ _ _ _ _ _ _ _)
   | (with_reducible exact ih4 _ _ _ _ _ _)
   | (with_reducible exact heirloomlaw11_Small.mono _ _ _)
   | (with_reducible exact heirloomlaw11_cleared.mono _ _ _ _ _ _)
   | (with_reducible exact heirloomref11_KeyOf.mono _ _ _ _ _ _ _)
   | (with_reducible exact heirloomref11_Object.mono _ _ _ _ _)
   | (with_reducible exact heirloomref11_Right.mono _ _ _)
   | (with_reducible exact LeO.refl _)
   | (with_reducible exact LeO.none _)
   | (with_reducible refine LeO.ite ?_ ?_)
   | (with_reducible refine LeO.bind ?_ (fun _ => ?_))
   | exact ih0 _ _ _
   | exact ih1 _ _ _ _ _ _
   | exact ih2 _ _ _ _ _ _ _ _ _ _ _ _
   | exact ih3 _ _ _ _ _ _ _ _ _ _ _ _ _
   | exact ih4 _ _ _ _ _ _
   | exact heirloomlaw11_Small.mono _ _ _
   | exact heirloomlaw11_cleared.mono _ _ _ _ _ _
   | exact heirloomref11_KeyOf.mono _ _ _ _ _ _ _
   | exact heirloomref11_Object.mono _ _ _ _ _
   | exact heirloomref11_Right.mono _ _ _
   | exact LeO.none _
   | refine LeO.ite ?_ ?_
   | refine LeO.bind ?_ (fun _ => ?_)
  ·intro y0 y1 y2 y3 y4 y5
   unfold heirloomlaw11_ReachClosed.l0
   repeat' first
   | (with_reducible exact ih0 _ _ _)
   | (with_reducible exact ih1 _ _ _ _ _ _)
   | (with_reducible exact ih2 _ _ _ _ _ _ _ _ _ _ _ _)
   | (with_reducible exact ih3 _ _ _ _ _ _ _ _ _ _ _ _ _)
   | (with_reducible exact ih4 _ _ _ _ _ _)
   | (with_reducible exact heirloomlaw11_Small.mono _ _ _)
   | (with_reducible exact heirloomlaw11_cleared.mono _ _ _ _ _ _)
   | (with_reducible exact heirloomref11_KeyOf.mono _ _ _ _ _ _ _)
   | (with_reducible exact heirloomref11_Object.mono _ _ _ _ _)
   | (with_reducible exact heirloomref11_Right.mono _ _ _)
   | (with_reducible exact LeO.refl _)
   | (with_reducible exact LeO.none _)
   | (with_reducible refine LeO.ite ?_ ?_)
   | (with_reducible refine LeO.bind ?_ (fun _ => ?_))
   | exact ih0 _ _ _
   | exact ih1 _ _ _ _ _ _
   | exact ih2 _ _ _ _ _ _ _ _ _ _ _ _
   | exact ih3 _ _ _ _ _ _ _ _ _ _ _ _ _
   | exact ih4 _ _ _ _ _ _
   | exact heirloomlaw11_Small.mono _ _ _
   | exact heirloomlaw11_cleared.mono _ _ _ _ _ _
   | exact heirloomref11_KeyOf.mono _ _ _ _ _ _ _
   | exact heirloomref11_Object.mono _ _ _ _ _
   | exact heirloomref11_Right.mono _ _ _
   | exact LeO.none _
   | refine LeO.ite ?_ ?_
   | refine LeO.bind ?_ (fun _ => ?_)
  ·intro y0 y1 y2 y3 y4 y5 y6 y7 y8 y9 y10 y11
   unfold heirloomlaw11_ReachClosed.l1
   repeat' first
   | (with_reducible exact ih0 _ _ _)
   | (with_reducible exact ih1 _ _ _ _ _ _)
   | (with_reducible exact ih2 _ _ _ _ _ _ _ _ _ _ _ _)
   | (with_reducible exact ih3 _ _ _ _ _ _ _ _ _ _ _ _ _)
   | (with_reducible exact ih4 _ _ _ _ _ _)
   | (with_reducible exact heirloomlaw11_Small.mono _ _ _)
   | (with_reducible exact heirloomlaw11_cleared.mono _ _ _ _ _ _)
   | (with_reducible exact heirloomref11_KeyOf.mono _ _ _ _ _ _ _)
   | (with_reducible exact heirloomref11_Object.mono _ _ _ _ _)
   | (with_reducible exact heirloomref11_Right.mono _ _ _)
   | (with_reducible exact LeO.refl _)
   | (with_reducible exact LeO.none _)
   | (with_reducible refine LeO.ite ?_ ?_)
   | (with_reducible refine LeO.bind ?_ (fun _ => ?_))
   | exact ih0 _ _ _
   | exact ih1 _ _ _ _ _ _
   | exact ih2 _ _ _ _ _ _ _ _ _ _ _ _
   | exact ih3 _ _ _ _ _ _ _ _ _ _ _ _ _
   | exact ih4 _ _ _ _ _ _
   | exact heirloomlaw11_Small.mono _ _ _
   | exact heirloomlaw11_cleared.mono _ _ _ _ _ _
   | exact heirloomref11_KeyOf.mono _ _ _ _ _ _ _
   | exact heirloomref11_Object.mono _ _ _ _ _
   | exact heirloomref11_Right.mono _ _ _
   | exact LeO.none _
   | refine LeO.ite ?_ ?_
   | refine LeO.bind ?_ (fun _ => ?_)
  ·intro y0 y1 y2 y3 y4 y5 y6 y7 y8 y9 y10 y11 y12
   unfold heirloomlaw11_ReachClosed.j3
   repeat' first
   | (with_reducible exact ih0 _ _ _)
   | (with_reducible exact ih1 _ _ _ _ _ _)
   | (with_reducible exact ih2 _ _ _ _ _ _ _ _ _ _ _ _)
   | (with_reducible exact ih3 _ _ _ _ _ _ _ _ _ _ _ _ _)
   | (with_reducible exact ih4 _ _ _ _ _ _)
   | (with_reducible exact heirloomlaw11_Small.mono _ _ _)
   | (with_reducible exact heirloomlaw11_cleared.mono _ _ _ _ _ _)
   | (with_reducible exact heirloomref11_KeyOf.mono _ _ _ _ _ _ _)
   | (with_reducible exact heirloomref11_Object.mono _ _ _ _ _)
   | (with_reducible exact heirloomref11_Right.mono _ _ _)
   | (with_reducible exact LeO.refl _)
   | (with_reducible exact LeO.none _)
   | (with_reducible refine LeO.ite ?_ ?_)
   | (with_reducible refine LeO.bind ?_ (fun _ => ?_))
   | exact ih0 _ _ _
   | exact ih1 _ _ _ _ _ _
   | exact ih2 _ _ _ _ _ _ _ _ _ _ _ _
   | exact ih3 _ _ _ _ _ _ _ _ _ _ _ _ _
   | exact ih4 _ _ _ _ _ _
   | exact heirloomlaw11_Small.mono _ _ _
   | exact heirloomlaw11_cleared.mono _ _ _ _ _ _
   | exact heirloomref11_KeyOf.mono _ _ _ _ _ _ _
   | exact heirloomref11_Object.mono _ _ _ _ _
   | exact heirloomref11_Right.mono _ _ _
   | exact LeO.none _
   | refine LeO.ite ?_ ?_
   | refine LeO.bind ?_ (fun _ => ?_)
  ·intro y0 y1 y2 y3 y4 y5
   unfold heirloomlaw11_ReachClosed.l2
   repeat' first
   | (with_reducible exact ih0 _ _ _)
   | (with_reducible exact ih1 _ _ _ _ _ _)
   | (with_reducible exact ih2 _ _ _ _ _ _ _ _ _ _ _ _)
   | (with_reducible exact ih3 _ _ _ _ _ _ _ _ _ _ _ _ _)
   | (with_reducible exact ih4 _ _ _ _ _ _)
   | (with_reducible exact heirloomlaw11_Small.mono _ _ _)
   | (with_reducible exact heirloomlaw11_cleared.mono _ _ _ _ _ _)
   | (with_reducible exact heirloomref11_KeyOf.mono _ _ _ _ _ _ _)
   | (with_reducible exact heirloomref11_Object.mono _ _ _ _ _)
   | (with_reducible exact heirloomref11_Right.mono _ _ _)
   | (with_reducible exact LeO.refl _)
   | (with_reducible exact LeO.none _)
   | (with_reducible refine LeO.ite ?_ ?_)
   | (with_reducible refine LeO.bind ?_ (fun _ => ?_))
   | exact ih0 _ _ _
   | exact ih1 _ _ _ _ _ _
   | exact ih2 _ _ _ _ _ _ _ _ _ _ _ _
   | exact ih3 _ _ _ _ _ _ _ _ _ _ _ _ _
   | exact ih4 _ _ _ _ _ _
   | exact heirloomlaw11_Small.mono _ _ _
   | exact heirloomlaw11_cleared.mono _ _ _ _ _ _
   | exact heirloomref11_KeyOf.mono _ _ _ _ _ _ _
   | exact heirloomref11_Object.mono _ _ _ _ _
   | exact heirloomref11_Right.mono _ _ _
   | exact LeO.none _
   | refine LeO.ite ?_ ?_
   | refine LeO.bind ?_ (fun _ => ?_)
theorem heirloomlaw11_ReachClosed.mono : ∀ a0 a1 k, LeO (heirloomlaw11_ReachClosed.f k a0 a1) (heirloomlaw11_ReachClosed.f (k + 1) a0 a1) := by
 intro a0 a1 k
 obtain ⟨ih0, ih1, ih2, ih3, ih4⟩ := heirloomlaw11_ReachClosed.mono_l k
 unfold heirloomlaw11_ReachClosed.f
 repeat' first
   | (with_reducible exact ih0 _ _ _)
   | (with_reducible exact ih1 _ _ _ _ _ _)
   | (with_reducible exact ih2 _ _ _ _ _ _ _ _ _ _ _ _)
   | (with_reducible exact ih3 _ _ _ _ _ _ _ _ _ _ _ _ _)
   | (with_reducible exact ih4 _ _ _ _ _ _)
   | (with_reducible exact heirloomlaw11_Small.mono _ _ _)
   | (with_reducible exact heirloomlaw11_cleared.mono _ _ _ _ _ _)
   | (with_reducible exact heirloomref11_KeyOf.mono _ _ _ _ _ _ _)
   | (with_reducible exact heirloomref11_Object.mono _ _ _ _ _)
   | (with_reducible exact heirloomref11_Right.mono _ _ _)
   | (with_reducible exact LeO.refl _)
   | (with_reducible exact LeO.none _)
   | (with_reducible refine LeO.ite ?_ ?_)
   | (with_reducible refine LeO.bind ?_ (fun _ => ?_))
   | exact ih0 _ _ _
   | exact ih1 _ _ _ _ _ _
   | exact ih2 _ _ _ _ _ _ _ _ _ _ _ _
   | exact ih3 _ _ _ _ _ _ _ _ _ _ _ _ _
   | exact ih4 _ _ _ _ _ _
   | exact heirloomlaw11_Small.mono _ _ _
   | exact heirloomlaw11_cleared.mono _ _ _ _ _ _
   | exact heirloomref11_KeyOf.mono _ _ _ _ _ _ _
   | exact heirloomref11_Object.mono _ _ _ _ _
   | exact heirloomref11_Right.mono _ _ _
   | exact LeO.none _
   | refine LeO.ite ?_ ?_
   | refine LeO.bind ?_ (fun _ => ?_)
def heirloomlaw11_ReachClosed.T13 : Bool × List (List Nat × List Nat) := (true, [([], []), ([], []), ([1], [1]), ([], []), ([2, 3], [2, 3]), ([4], [4]), ([0, 5], [0, 5]), ([6, 6, 0, 1, 2, 3, 4, 5, 6], [6])])
def heirloomlaw11_ReachClosed.B13 : List Nat := [0, 0, 2, 0, 14, 30, 63, 127]
theorem heirloomlaw11_ReachClosed.tab13 : rtab .any (opsOf Try.f7 13) = heirloomlaw11_ReachClosed.T13 := by kernel_rfl
theorem heirloomlaw11_ReachClosed.bits13 : waitsOk heirloomlaw11_ReachClosed.T13.2 heirloomlaw11_ReachClosed.B13 = true := by kernel_rfl
def heirloomlaw11_ReachClosed.T19 : Bool × List (List Nat × List Nat) := (true, [([], []), ([], []), ([1], [1]), ([], []), ([2, 3], [2, 3]), ([4], [4]), ([0, 5], [0, 5]), ([6, 6, 0, 1, 2, 3, 4, 5, 6], [6])])
def heirloomlaw11_ReachClosed.B19 : List Nat := [0, 0, 2, 0, 14, 30, 63, 127]
theorem heirloomlaw11_ReachClosed.tab19 : rtab .any (opsOf Try.f7 19) = heirloomlaw11_ReachClosed.T19 := by kernel_rfl
theorem heirloomlaw11_ReachClosed.bits19 : waitsOk heirloomlaw11_ReachClosed.T19.2 heirloomlaw11_ReachClosed.B19 = true := by kernel_rfl
set_option maxHeartbeats 8000000 in
set_option maxRecDepth 100000 in
theorem heirloomlaw11_ReachClosed.calls (k : Nat) (A0_0 : Option Addr) (c0_0 : Nat) (l0_0 : List (S43)) (A0_1 : Option Addr) (c0_1 : Nat) (l0_1 : List (S40)) (r : Bool) (w : World) (hr0_0 : Kd.C k43 w A0_0 l0_0.length l0_0) (hc0_0 : l0_0.length ≤ c0_0) (hr0_1 : Kd.C k40 w A0_1 l0_1.length l0_1) (hc0_1 : l0_1.length ≤ c0_1) (h : heirloomlaw11_ReachClosed.f k l0_0 l0_1 = some r) :
  Calls Try.prog 7 #[.agg #[.slice A0_0 l0_0.length c0_0, .slice A0_1 l0_1.length c0_1]] w fun e w' => e = .returned (.bool r) ∧ Below w.heap.size w w' := by
 have hu25 := Try.underlying25
 have hu37 := Try.underlying37
 have hu43 := Try.underlying43
 have hu40 := Try.underlying40
 have HR0_0 := Aside0.mk hr0_0
 have HC0_0 := Aside0.mk hc0_0
 clear hr0_0 hc0_0
 have HR0_1 := Aside0.mk hr0_1
 have HC0_1 := Aside0.mk hc0_1
 clear hr0_1 hc0_1
 have HB := Aside0.mk (Below.refl w.heap.size w)
 have H : ((heirloomlaw11_Small.f k l0_0 l0_1).bind fun t360 => (if t360 = true then ((heirloomref11_Right.f k l0_0 l0_1).bind fun t361 => (heirloomlaw11_ReachClosed.j0 k (!t361) l0_0 l0_1)) else (heirloomlaw11_ReachClosed.j0 k true l0_0 l0_1))) = some r := h
 clear h
 have HC2 := Aside0.mk H
 clear H
 go_enter Try.func7, Try.ntmps7
 go_upto_region 1 with (first | ((with_reducible refine gate_dst (N := 1) rfl ?_); (try (refine gate_guard (by rfl) ?_; dsimp only)); refine box_event ?hg (N := 1) ?hd (cs := #[.slice A0_0 l0_0.length c0_0, .slice A0_1 l0_1.length c0_1]) (t := 25) ?hr ?_; (case hd => rfl); (case hg => rfl); (case hr => go_simp <;> rfl); intro gb359 hg w3 hbox hb; have n0_ := Aside0.mk (below_step (by repeat (first | (with_reducible first | exact HB.out | apply zb | apply zn | apply zd) | exact HB.out)) hb); have n1_ := Aside0.mk (hbox); have n2_ := Aside0.mk ((by rw [hg]; exact (below_size (by repeat (first | (with_reducible first | exact HB.out | apply zb | apply zn | apply zd) | exact HB.out))) : w.heap.size ≤ gb359)); have n3_ := n2_; clear HB; have HB := n0_; have BK359 := n1_; have GW359 := n2_; have GE359 := n3_; clear n0_ n1_ n2_ n3_; clear hb hbox hg))
 (try simp only [Act.put, List.setIfInBounds_toArray, List.set_cons_zero, List.set_cons_succ])
 go_cut [17] (fun v17 wc => ∃ (kq : Nat) (x17_1 : Bool), v17 = .bool x17_1 ∧ Aside0 (heirloomlaw11_ReachClosed.j0 kq x17_1 l0_0 l0_1 = some r) ∧ Aside0 (kq ≤ k) ∧ Aside0 (wc.heap[gb359]? = some (.cells #[(.slice A0_0 l0_0.length c0_0), (.slice A0_1 l0_1.length c0_1)] 25 (0, 0))) ∧ Aside0 (Below w.heap.size w wc))
 case first =>
  have H := HC2.out
  clear HC2
  replace H := Option.bind_eq_some_iff.mp H
  obtain ⟨t360, A40, H⟩ := H
  replace H : (if t360 = true then ((heirloomref11_Right.f k l0_0 l0_1).bind fun t361 => (heirloomlaw11_ReachClosed.j0 k (!t361) l0_0 l0_1)) else (heirloomlaw11_ReachClosed.j0 k true l0_0 l0_1)) = some r := H
  have A4 := Aside0.mk A40
  clear A40
  by_cases c5 : t360 = true
  ·subst c5
   have H1 : ((heirloomref11_Right.f k l0_0 l0_1).bind fun t361 => (heirloomlaw11_ReachClosed.j0 k (!t361) l0_0 l0_1)) = some r := by rw [if_pos rfl] at H; exact H
   clear H
   have H := H1
   clear H1
   replace H := Option.bind_eq_some_iff.mp H
   obtain ⟨t361, A60, H⟩ := H
   replace H : (heirloomlaw11_ReachClosed.j0 k (!t361) l0_0 l0_1) = some r := H
   have A6 := Aside0.mk A60
   clear A60
   have H' := Aside0.mk H
   clear H
   have hcz7_0 : w3.cell? ⟨gb359, 0, none⟩ = some (.slice A0_0 l0_0.length c0_0) := (blk_cell BK359.out 0).trans rfl
   have hcz7_1 : w3.cell? ⟨gb359, 1, none⟩ = some (.slice A0_1 l0_1.length c0_1) := (blk_cell BK359.out 1).trans rfl
   have hfz7_0 := blk_frozen BK359.out 0
   have hfz7_1 := blk_frozen BK359.out 1
   go_wp2_with (first | ((with_reducible refine gate_callee (f := 10) rfl ?_); refine goesL_ (some 11) rfl rfl Try.func10 (by kernel_rfl) rfl #[.agg #[.slice A0_0 l0_0.length c0_0, .slice A0_1 l0_1.length c0_1]] rfl (by (try simp only [List.map_toArray, List.map_cons, List.map_nil]); first | done | rfl | (simp only [List.length_drop, List.length_take]; rfl)) ?_; (with_reducible refine (heirloomlaw11_Small.calls k _ _ l0_0 _ _ l0_1 true _ ?side1 ?side2 ?side3 ?side4 A4.out).mono ?_); (case side1 => repeat (first | exact (Kd.C_below HR0_0.out HB.out) | (with_reducible refine Kd.C_alloc ?_ _) | (with_reducible refine Kd.C_drewN ?_ _) | (with_reducible refine Kd.C_drew ?_))); (case side2 => exact HC0_0.out); (case side3 => repeat (first | exact (Kd.C_below HR0_1.out HB.out) | (with_reducible refine Kd.C_alloc ?_ _) | (with_reducible refine Kd.C_drewN ?_ _) | (with_reducible refine Kd.C_drew ?_))); (case side4 => exact HC0_1.out); rintro e w8 ⟨rfl, hb⟩; refine ⟨_, rfl, ?_⟩; have n0_ := Aside0.mk (blk_below (g := gb359) (o := .cells #[.slice A0_0 l0_0.length c0_0, .slice A0_1 l0_1.length c0_1] 25 (0, 0)) (by (with_reducible repeat first | refine kn ?_ _ | refine kd ?_ | refine ka ?_ _); exact BK359.out) hb); have n1_ := Aside0.mk (below_step (by repeat (first | (with_reducible first | exact HB.out | apply zb | apply zn | apply zd | refine zs ?_ GE359.out) | exact HB.out)) hb); clear BK359; clear HB; have BK359 := n0_; have HB := n1_; clear n0_ n1_; (try clear hb); have hcz9_0 : w8.cell? ⟨gb359, 0, none⟩ = some (.slice A0_0 l0_0.length c0_0) := (blk_cell BK359.out 0).trans rfl; have hcz9_1 : w8.cell? ⟨gb359, 1, none⟩ = some (.slice A0_1 l0_1.length c0_1) := (blk_cell BK359.out 1).trans rfl; have hfz9_0 := blk_frozen BK359.out 0; have hfz9_1 := blk_frozen BK359.out 1) | (go_at_call 16; (with_reducible refine (heirloomref11_Right.calls k _ _ l0_0 _ _ l0_1 t361 _ ?side1 ?side2 ?side3 ?side4 A6.out).mono ?_); (case side1 => repeat (first | exact (Kd.C_below HR0_0.out HB.out) | (with_reducible refine Kd.C_alloc ?_ _) | (with_reducible refine Kd.C_drewN ?_ _) | (with_reducible refine Kd.C_drew ?_))); (case side2 => exact HC0_0.out); (case side3 => repeat (first | exact (Kd.C_below HR0_1.out HB.out) | (with_reducible refine Kd.C_alloc ?_ _) | (with_reducible refine Kd.C_drewN ?_ _) | (with_reducible refine Kd.C_drew ?_))); (case side4 => exact HC0_1.out); rintro e w10 ⟨rfl, hb⟩; have n0_ := Aside0.mk (blk_below (g := gb359) (o := .cells #[.slice A0_0 l0_0.length c0_0, .slice A0_1 l0_1.length c0_1] 25 (0, 0)) (by (with_reducible repeat first | refine kn ?_ _ | refine kd ?_ | refine ka ?_ _); exact BK359.out) hb); have n1_ := Aside0.mk (below_step (by repeat (first | (with_reducible first | exact HB.out | apply zb | apply zn | apply zd | refine zs ?_ GE359.out) | exact HB.out)) hb); clear BK359; clear HB; have BK359 := n0_; have HB := n1_; clear n0_ n1_; (try clear hb)))
   go_meet
   case rel => exact ⟨_, (!t361), (by first | rfl | (simp; done) | (simp [*]; done)), H', ⟨by first | omega | exact Nat.le_refl _⟩, ⟨by (with_reducible repeat first | refine kn ?_ _ | refine kd ?_ | refine ka ?_ _); exact BK359.out⟩, ⟨by repeat (first | (with_reducible first | exact HB.out | apply zb | apply zn | apply zd | refine zs ?_ GE359.out) | exact HB.out)⟩⟩
  ·replace c5 := Bool.eq_false_iff.mpr c5
   subst c5
   have H1 : (heirloomlaw11_ReachClosed.j0 k true l0_0 l0_1) = some r := by rw [if_neg (show ¬ (false = true) by decide)] at H; exact H
   clear H
   have H := H1
   clear H1
   have H' := Aside0.mk H
   clear H
   have hcz11_0 : w3.cell? ⟨gb359, 0, none⟩ = some (.slice A0_0 l0_0.length c0_0) := (blk_cell BK359.out 0).trans rfl
   have hcz11_1 : w3.cell? ⟨gb359, 1, none⟩ = some (.slice A0_1 l0_1.length c0_1) := (blk_cell BK359.out 1).trans rfl
   have hfz11_0 := blk_frozen BK359.out 0
   have hfz11_1 := blk_frozen BK359.out 1
   go_wp2_with (first | ((with_reducible refine gate_callee (f := 10) rfl ?_); refine goesL_ (some 11) rfl rfl Try.func10 (by kernel_rfl) rfl #[.agg #[.slice A0_0 l0_0.length c0_0, .slice A0_1 l0_1.length c0_1]] rfl (by (try simp only [List.map_toArray, List.map_cons, List.map_nil]); first | done | rfl | (simp only [List.length_drop, List.length_take]; rfl)) ?_; (with_reducible refine (heirloomlaw11_Small.calls k _ _ l0_0 _ _ l0_1 false _ ?side1 ?side2 ?side3 ?side4 A4.out).mono ?_); (case side1 => repeat (first | exact (Kd.C_below HR0_0.out HB.out) | (with_reducible refine Kd.C_alloc ?_ _) | (with_reducible refine Kd.C_drewN ?_ _) | (with_reducible refine Kd.C_drew ?_))); (case side2 => exact HC0_0.out); (case side3 => repeat (first | exact (Kd.C_below HR0_1.out HB.out) | (with_reducible refine Kd.C_alloc ?_ _) | (with_reducible refine Kd.C_drewN ?_ _) | (with_reducible refine Kd.C_drew ?_))); (case side4 => exact HC0_1.out); rintro e w12 ⟨rfl, hb⟩; refine ⟨_, rfl, ?_⟩; have n0_ := Aside0.mk (blk_below (g := gb359) (o := .cells #[.slice A0_0 l0_0.length c0_0, .slice A0_1 l0_1.length c0_1] 25 (0, 0)) (by (with_reducible repeat first | refine kn ?_ _ | refine kd ?_ | refine ka ?_ _); exact BK359.out) hb); have n1_ := Aside0.mk (below_step (by repeat (first | (with_reducible first | exact HB.out | apply zb | apply zn | apply zd | refine zs ?_ GE359.out) | exact HB.out)) hb); clear BK359; clear HB; have BK359 := n0_; have HB := n1_; clear n0_ n1_; (try clear hb)))
   go_meet
   case rel => exact ⟨_, (true), (by first | rfl | (simp; done) | (simp [*]; done)), H', ⟨by first | omega | exact Nat.le_refl _⟩, ⟨by (with_reducible repeat first | refine kn ?_ _ | refine kd ?_ | refine ka ?_ _); exact BK359.out⟩, ⟨by repeat (first | (with_reducible first | exact HB.out | apply zb | apply zn | apply zd | refine zs ?_ GE359.out) | exact HB.out)⟩⟩
 case rest =>
  clear HC2
  try clear c1
  try clear p2
  try clear c5
  try clear c7
  try clear c10
  try clear hcz11_0
  try clear hcz11_1
  try clear hcz7_0
  try clear hcz7_1
  try clear hcz9_0
  try clear hcz9_1
  try clear hfz11_0
  try clear hfz11_1
  try clear hfz7_0
  try clear hfz7_1
  try clear hfz9_0
  try clear hfz9_1
  obtain ⟨kq, x17_1, rfl, HA, HJ1, BK359, HB⟩ := hcut
  cases kq with
  | zero => exact absurd HA.out (by simp [heirloomlaw11_ReachClosed.j0])
  | succ kj1 =>
   have H := HA.out
   clear HA
   simp only [heirloomlaw11_ReachClosed.j0] at H
   by_cases c13 : x17_1 = true
   ·subst c13
    have H1 : ((heirloomlaw11_alive.f).bind fun t362 => (some t362)) = some r := by rw [if_pos rfl] at H; exact H
    clear H
    have H := H1
    clear H1
    replace H := Option.bind_eq_some_iff.mp H
    obtain ⟨t362, A140, H⟩ := H
    replace H : (some t362) = some r := H
    have A14 := Aside0.mk A140
    clear A140
    obtain rfl := Option.some.inj H
    go_wp2_with (first | ((with_reducible refine gate_callee (f := 11) rfl ?_); refine goesL_ (some 18) rfl rfl Try.func11 (by kernel_rfl) rfl #[] rfl (by simp only [m1, m2, m3] <;> rfl) ?_; (with_reducible refine (heirloomlaw11_alive.calls  t362 _ A14.out).mono ?_); rintro e w15 ⟨rfl, hb⟩; refine ⟨_, rfl, ?_⟩; have n0_ := Aside0.mk (blk_below (g := gb359) (o := .cells #[.slice A0_0 l0_0.length c0_0, .slice A0_1 l0_1.length c0_1] 25 (0, 0)) (by (with_reducible repeat first | refine kn ?_ _ | refine kd ?_ | refine ka ?_ _); exact BK359.out) hb); have n1_ := Aside0.mk (below_step (by repeat (first | (with_reducible first | exact HB.out | apply zb | apply zn | apply zd | refine zs ?_ GE359.out) | exact HB.out)) hb); clear BK359; clear HB; have BK359 := n0_; have HB := n1_; clear n0_ n1_; (try clear hb)))
    go_ret
    exact ⟨by first | rfl | (simp [errW_none, errW_some] <;> rfl) | (simp [*, errW_none, errW_some] <;> rfl), by repeat (first | (with_reducible first | exact HB.out | apply zb | apply zn | apply zd | refine zs ?_ GE359.out) | exact HB.out)⟩
   ·replace c13 := Bool.eq_false_iff.mpr c13
    subst c13
    have H1 : ((reach_Collect.f l0_0 l0_1).bind fun bt363 => (if (bt363.1.length : Int) = (l0_0.length : Int) then (heirloomlaw11_ReachClosed.l0 kj1 0 l0_0 l0_1 bt363.1 bt363.2.1 bt363.2.2) else (some false))) = some r := by rw [if_neg (show ¬ (false = true) by decide)] at H; exact H
    clear H
    have H := H1
    clear H1
    replace H := Option.bind_eq_some_iff.mp H
    obtain ⟨⟨t363, t366, t369⟩, A160, H⟩ := H
    replace H : (if (t363.length : Int) = (l0_0.length : Int) then (heirloomlaw11_ReachClosed.l0 kj1 0 l0_0 l0_1 t363 t366 t369) else (some false)) = some r := H
    have A16 := Aside0.mk A160
    clear A160
    by_cases c17 : (t363.length : Int) = (l0_0.length : Int)
    ·rw [if_pos c17] at H
     have c17b0 : ((t363.length : Int) == (l0_0.length : Int)) = true := beq_iff_eq.mpr c17
     have c17b1 : ((t363.length : Int) != (l0_0.length : Int)) = false := bne_eq_false_iff_eq.mpr c17
     have c17b2 : (t363.length == l0_0.length) = true := by first | simpa using c17 | (simp at c17 ⊢; omega)
     clear c17
     have H' := Aside0.mk H
     clear H
     have hcz18_0 : wc.cell? ⟨gb359, 0, none⟩ = some (.slice A0_0 l0_0.length c0_0) := (blk_cell BK359.out 0).trans rfl
     have hcz18_1 : wc.cell? ⟨gb359, 1, none⟩ = some (.slice A0_1 l0_1.length c0_1) := (blk_cell BK359.out 1).trans rfl
     have hfz18_0 := blk_frozen BK359.out 0
     have hfz18_1 := blk_frozen BK359.out 1
     go_wp2_with (first | ((with_reducible refine gate_callee (f := 18) rfl ?_); refine goesL_ (some 20) rfl rfl Try.func18 (by kernel_rfl) rfl #[.agg #[.slice A0_0 l0_0.length c0_0, .slice A0_1 l0_1.length c0_1]] rfl (by (try simp only [List.map_toArray, List.map_cons, List.map_nil]); first | done | rfl | (simp only [List.length_drop, List.length_take]; rfl)) ?_; (with_reducible refine (reach_Collect.calls _ _ l0_0 _ _ l0_1 t363 t366 t369 _ ?side1 ?side2 ?side3 ?side4 A16.out).mono ?_); (case side1 => repeat (first | exact (Kd.C_below HR0_0.out HB.out) | (with_reducible refine Kd.C_alloc ?_ _) | (with_reducible refine Kd.C_drewN ?_ _) | (with_reducible refine Kd.C_drew ?_))); (case side2 => exact HC0_0.out); (case side3 => repeat (first | exact (Kd.C_below HR0_1.out HB.out) | (with_reducible refine Kd.C_alloc ?_ _) | (with_reducible refine Kd.C_drewN ?_ _) | (with_reducible refine Kd.C_drew ?_))); (case side4 => exact HC0_1.out); rintro e w19 ⟨v364, v367, v370, rfl, ho0, ho1, ho2, hb⟩; refine ⟨_, rfl, ?_⟩; have n0_ := Aside0.mk (Kd.R_lower ho0 (below_size (by repeat (first | (with_reducible first | exact HB.out | apply zb | apply zn | apply zd | refine zs ?_ GE359.out) | exact HB.out)))); have n1_ := Aside0.mk (Kd.R_lower ho1 (below_size (by repeat (first | (with_reducible first | exact HB.out | apply zb | apply zn | apply zd | refine zs ?_ GE359.out) | exact HB.out)))); have n2_ := Aside0.mk (Kd.R_lower ho2 (below_size (by repeat (first | (with_reducible first | exact HB.out | apply zb | apply zn | apply zd | refine zs ?_ GE359.out) | exact HB.out)))); have n3_ := Aside0.mk (blk_below (g := gb359) (o := .cells #[.slice A0_0 l0_0.length c0_0, .slice A0_1 l0_1.length c0_1] 25 (0, 0)) (by (with_reducible repeat first | refine kn ?_ _ | refine kd ?_ | refine ka ?_ _); exact BK359.out) hb); have n4_ := Aside0.mk (below_step (by repeat (first | (with_reducible first | exact HB.out | apply zb | apply zn | apply zd | refine zs ?_ GE359.out) | exact HB.out)) hb); clear BK359; clear HB; have HO365 := n0_; have HO368 := n1_; have HO371 := n2_; have BK359 := n3_; have HB := n4_; clear n0_ n1_ n2_ n3_ n4_; (try clear hb); (try clear ho0); (try clear ho1); (try clear ho2)) | ((with_reducible refine gate_dst (N := 3) rfl ?_); (try (refine gate_guard (by rfl) ?_; dsimp only)); refine box_event ?hg (N := 3) ?hd (cs := #[.slice none 0 0, .slice none 0 0, .slice none 0 0]) (t := 37) ?hr ?_; (case hd => rfl); (case hg => rfl); (case hr => go_simp <;> rfl); intro gb372 hg w20 hbox hb; have n0_ := Aside0.mk (Kd.R_below (by (with_reducible repeat (first | apply Kd.R_alloc | apply Kd.R_drewN | apply Kd.R_drew)); exact HO365.out) hb); have n1_ := Aside0.mk (Kd.R_below (by (with_reducible repeat (first | apply Kd.R_alloc | apply Kd.R_drewN | apply Kd.R_drew)); exact HO368.out) hb); have n2_ := Aside0.mk (Kd.R_below (by (with_reducible repeat (first | apply Kd.R_alloc | apply Kd.R_drewN | apply Kd.R_drew)); exact HO371.out) hb); have n3_ := Aside0.mk (blk_below (g := gb359) (o := .cells #[.slice A0_0 l0_0.length c0_0, .slice A0_1 l0_1.length c0_1] 25 (0, 0)) (by (with_reducible repeat first | refine kn ?_ _ | refine kd ?_ | refine ka ?_ _); exact BK359.out) hb); have n4_ := Aside0.mk (below_step (by repeat (first | (with_reducible first | exact HB.out | apply zb | apply zn | apply zd | refine zs ?_ GE359.out) | exact HB.out)) hb); have n5_ := Aside0.mk (hbox); have n6_ := Aside0.mk ((by rw [hg]; exact (below_size (by repeat (first | (with_reducible first | exact HB.out | apply zb | apply zn | apply zd | refine zs ?_ GE359.out) | exact HB.out))) : w.heap.size ≤ gb372)); have n7_ := Aside0.mk ((by rw [hg]; exact (below_size (by repeat (first | (with_reducible first | exact HB.out | apply zb | apply zn | apply zd | refine zs ?_ GE359.out) | exact HB.out))) : w.heap.size ≤ gb372)); have n8_ := Aside0.mk ((by rw [hg]; exact Nat.ne_of_lt (blk_lt (g := gb359) (o := .cells #[.slice A0_0 l0_0.length c0_0, .slice A0_1 l0_1.length c0_1] 25 (0, 0)) (by (with_reducible repeat first | refine kn ?_ _ | refine kd ?_ | refine ka ?_ _); exact BK359.out)) : gb359 ≠ gb372)); have n9_ := Aside0.mk ((by rw [hg]; exact Nat.ne_of_gt (blk_lt (g := gb359) (o := .cells #[.slice A0_0 l0_0.length c0_0, .slice A0_1 l0_1.length c0_1] 25 (0, 0)) (by (with_reducible repeat first | refine kn ?_ _ | refine kd ?_ | refine ka ?_ _); exact BK359.out)) : gb372 ≠ gb359)); clear HO365; clear HO368; clear HO371; clear BK359; clear HB; have HO365 := n0_; have HO368 := n1_; have HO371 := n2_; have BK359 := n3_; have HB := n4_; have BK372 := n5_; have GW372 := n6_; have GE372 := n7_; have NB359_372 := n8_; have NB372_359 := n9_; clear n0_ n1_ n2_ n3_ n4_ n5_ n6_ n7_ n8_ n9_; clear hb hbox hg; obtain ⟨Ao21, co21, eo21⟩ := Kd.R_slice HO365.out; subst eo21; have hnb22 := NB372_359.out; have hnc22 := NB359_372.out; have hcz23_0 : w20.cell? ⟨gb372, 0, none⟩ = some (.slice none 0 0) := (blk_cell BK372.out 0).trans rfl; have hcz23_1 : w20.cell? ⟨gb372, 1, none⟩ = some (.slice none 0 0) := (blk_cell BK372.out 1).trans rfl; have hcz23_2 : w20.cell? ⟨gb372, 2, none⟩ = some (.slice none 0 0) := (blk_cell BK372.out 2).trans rfl; have hfz23_0 := blk_frozen BK372.out 0; have hfz23_1 := blk_frozen BK372.out 1; have hfz23_2 := blk_frozen BK372.out 2; obtain ⟨Ao24, co24, eo24⟩ := Kd.R_slice HO368.out; subst eo24; obtain ⟨Ao25, co25, eo25⟩ := Kd.R_slice HO371.out; subst eo25; have hcz26_0 : w20.cell? ⟨gb359, 0, none⟩ = some (.slice A0_0 l0_0.length c0_0) := (blk_cell BK359.out 0).trans rfl; have hcz26_1 : w20.cell? ⟨gb359, 1, none⟩ = some (.slice A0_1 l0_1.length c0_1) := (blk_cell BK359.out 1).trans rfl; have hfz26_0 := blk_frozen BK359.out 0; have hfz26_1 := blk_frozen BK359.out 1))
     go_loopg [4] kj1 (fun kq v4 w' => ∃ (x4_2 : Int), v4 = .int .i64 x4_2 ∧ Aside0 (heirloomlaw11_ReachClosed.l0 kq x4_2 l0_0 l0_1 t363 t366 t369 = some r) ∧ Aside0 (kq ≤ kj1) ∧ Aside0 (Kd.R Kd.bool 4 w' w.heap.size (fun _ => True) (.slice Ao21 t363.length co21) t363) ∧ Aside0 (Kd.R (Kd.int .i64) 3 w' w.heap.size (fun _ => True) (.slice Ao24 t366.length co24) t366) ∧ Aside0 (Kd.R k49 49 w' w.heap.size (fun _ => True) (.slice Ao25 t369.length co25) t369) ∧ Aside0 (w'.heap[gb359]? = some (.cells #[(.slice A0_0 l0_0.length c0_0), (.slice A0_1 l0_1.length c0_1)] 25 (0, 0))) ∧ Aside0 (w'.heap[gb372]? = some (.cells #[(.slice Ao21 t363.length co21), (.slice Ao24 t366.length co24), (.slice Ao25 t369.length co25)] 37 (0, 0))) ∧ Aside0 (Below w.heap.size w w'))
     case atStart => exact ⟨(0), (by first | rfl | (simp; done) | (simp [*]; done)), H', ⟨Nat.le_refl _⟩, ⟨by (with_reducible repeat (first | apply Kd.R_alloc | apply Kd.R_drewN | apply Kd.R_drew)); exact Kd.R_mono (Kd.R_far (p := ⟨gb372, 2, none⟩) (Kd.R_far (p := ⟨gb372, 1, none⟩) (Kd.R_far (p := ⟨gb372, 0, none⟩) (Kd.R_types HO365.out BK372.out (by decide)) (fun _ hk => hk.2) (.slice Ao21 t363.length co21)) (fun _ hk => hk.2) (.slice Ao24 t366.length co24)) (fun _ hk => hk.2) (.slice Ao25 t369.length co25)) (fun _ hk => trivial)⟩, ⟨by (with_reducible repeat (first | apply Kd.R_alloc | apply Kd.R_drewN | apply Kd.R_drew)); exact Kd.R_mono (Kd.R_far (p := ⟨gb372, 2, none⟩) (Kd.R_far (p := ⟨gb372, 1, none⟩) (Kd.R_far (p := ⟨gb372, 0, none⟩) (Kd.R_types HO368.out BK372.out (by decide)) (fun _ hk => hk.2) (.slice Ao21 t363.length co21)) (fun _ hk => hk.2) (.slice Ao24 t366.length co24)) (fun _ hk => hk.2) (.slice Ao25 t369.length co25)) (fun _ hk => trivial)⟩, ⟨by (with_reducible repeat (first | apply Kd.R_alloc | apply Kd.R_drewN | apply Kd.R_drew)); exact Kd.R_mono (Kd.R_far (p := ⟨gb372, 2, none⟩) (Kd.R_far (p := ⟨gb372, 1, none⟩) (Kd.R_far (p := ⟨gb372, 0, none⟩) (Kd.R_types HO371.out BK372.out (by decide)) (fun _ hk => hk.2) (.slice Ao21 t363.length co21)) (fun _ hk => hk.2) (.slice Ao24 t366.length co24)) (fun _ hk => hk.2) (.slice Ao25 t369.length co25)) (fun _ hk => trivial)⟩, ⟨by (repeat first | (with_reducible first | refine kn ?_ _ | refine kd ?_ | refine ka ?_ _ | apply bp) | apply blk_far (hp := NB359_372.out)); exact BK359.out; all_goals rfl⟩, ⟨by (with_reducible repeat first | refine kn ?_ _ | refine kd ?_ | refine ka ?_ _ | apply bp); exact BK372.out; all_goals rfl⟩, ⟨by repeat (first | (with_reducible first | exact HB.out | apply zb | apply zn | apply zd | refine zs ?_ GE359.out | refine zs ?_ GE372.out) | exact HB.out)⟩⟩
     case round =>
      clear H'
      try clear c1
      try clear c2
      try clear p2
      try clear c5
      try clear c7
      try clear c10
      try clear c11
      try clear c13
      try clear c17
      try clear c17b0
      try clear c17b1
      try clear c17b2
      try clear c18
      try clear c22
      try clear hcz11_0
      try clear hcz11_1
      try clear hcz18_0
      try clear hcz18_1
      try clear hcz23_0
      try clear hcz23_1
      try clear hcz23_2
      try clear hcz26_0
      try clear hcz26_1
      try clear hcz7_0
      try clear hcz7_1
      try clear hcz9_0
      try clear hcz9_1
      try clear hfz11_0
      try clear hfz11_1
      try clear hfz18_0
      try clear hfz18_1
      try clear hfz23_0
      try clear hfz23_1
      try clear hfz23_2
      try clear hfz26_0
      try clear hfz26_1
      try clear hfz7_0
      try clear hfz7_1
      try clear hfz9_0
      try clear hfz9_1
      try clear p2
      obtain ⟨x4_2, rfl, HA, HK2, HO_373000, HO_373001, HO_373002, BK359, BK372, HB⟩ := hrel
      cases gk with
      | zero => exact absurd HA.out (by simp [heirloomlaw11_ReachClosed.l0])
      | succ k2 =>
       have H := HA.out
       clear HA
       simp only [heirloomlaw11_ReachClosed.l0] at H
       by_cases c27 : x4_2 < (l0_0.length : Int)
       ·rw [if_pos c27] at H
        have c27b0 : decide (x4_2 < (l0_0.length : Int)) = true := decide_eq_true c27
        clear c27
        by_cases c28 : 0 ≤ x4_2
        ·rw [if_pos c28] at H
         have c28b0 : decide (0 ≤ x4_2) = true := decide_eq_true c28
         clear c28
         have H' := Aside0.mk H
         clear H
         have hnb29 := NB359_372.out
         have hnc29 := NB372_359.out
         have hcz30_0 : wr.cell? ⟨gb359, 0, none⟩ = some (.slice A0_0 l0_0.length c0_0) := (blk_cell BK359.out 0).trans rfl
         have hcz30_1 : wr.cell? ⟨gb359, 1, none⟩ = some (.slice A0_1 l0_1.length c0_1) := (blk_cell BK359.out 1).trans rfl
         have hfz30_0 := blk_frozen BK359.out 0
         have hfz30_1 := blk_frozen BK359.out 1
         have p373 : 0 ≤ (x4_2 : Int) := of_decide_eq_true (by first | (with_reducible assumption) | assumption)
         have q373 : x4_2 < (l0_0.length : Int) := of_decide_eq_true (by first | (with_reducible assumption) | assumption)
         obtain ⟨ad373, A373_3, c373_3, e373, hx373_0, hx373_1, hx373_2, hx373_3, hx373_4, hl373_3, hi373_3⟩ := at_T43 HR0_0.out x4_2 p373 q373
         cases e373
         replace hx373_0 := (HB.out.cell (World.block_lt_of_cell? w _ hx373_0)).trans hx373_0
         replace hx373_1 := (HB.out.cell (World.block_lt_of_cell? w _ hx373_1)).trans hx373_1
         replace hx373_2 := (HB.out.cell (World.block_lt_of_cell? w _ hx373_2)).trans hx373_2
         replace hx373_3 := (HB.out.cell (World.block_lt_of_cell? w _ hx373_3)).trans hx373_3
         replace hx373_4 := (HB.out.cell (World.block_lt_of_cell? w _ hx373_4)).trans hx373_4
         have HR373_3 := Aside0.mk hi373_3
         have HC373_3 := Aside0.mk hl373_3
         clear hi373_3 hl373_3
         replace p373 := eq_true p373
         replace q373 := eq_true q373
         go_wp2_with (first | ((with_reducible refine gate_dst (N := 5) rfl ?_); (try (refine gate_guard (by rfl) ?_; dsimp only)); refine box_event ?hg (N := 5) ?hd (cs := #[.int .i64 0, .int .i64 0, .int .i64 0, .slice none 0 0, .int .i64 0]) (t := 43) ?hr ?_; (case hd => rfl); (case hg => rfl); (case hr => go_simp <;> rfl); intro gb374 hg w31 hbox hb; have n0_ := Aside0.mk (Kd.R_below (by (with_reducible repeat (first | apply Kd.R_alloc | apply Kd.R_drewN | apply Kd.R_drew)); exact HO_373000.out) hb); have n1_ := Aside0.mk (Kd.R_below (by (with_reducible repeat (first | apply Kd.R_alloc | apply Kd.R_drewN | apply Kd.R_drew)); exact HO_373001.out) hb); have n2_ := Aside0.mk (Kd.R_below (by (with_reducible repeat (first | apply Kd.R_alloc | apply Kd.R_drewN | apply Kd.R_drew)); exact HO_373002.out) hb); have n3_ := Aside0.mk (blk_below (g := gb359) (o := .cells #[.slice (some ad373) l0_0.length c0_0, .slice A0_1 l0_1.length c0_1] 25 (0, 0)) (by (with_reducible repeat first | refine kn ?_ _ | refine kd ?_ | refine ka ?_ _); exact BK359.out) hb); have n4_ := Aside0.mk (blk_below (g := gb372) (o := .cells #[.slice Ao21 t363.length co21, .slice Ao24 t366.length co24, .slice Ao25 t369.length co25] 37 (0, 0)) (by (with_reducible repeat first | refine kn ?_ _ | refine kd ?_ | refine ka ?_ _); exact BK372.out) hb); have n5_ := Aside0.mk (below_step (by repeat (first | (with_reducible first | exact HB.out | apply zb | apply zn | apply zd | refine zs ?_ GE359.out | refine zs ?_ GE372.out) | exact HB.out)) hb); have n6_ := Aside0.mk (hbox); have n7_ := Aside0.mk ((by rw [hg]; exact (below_size (by repeat (first | (with_reducible first | exact HB.out | apply zb | apply zn | apply zd | refine zs ?_ GE359.out | refine zs ?_ GE372.out) | exact HB.out))) : w.heap.size ≤ gb374)); have n8_ := Aside0.mk ((by rw [hg]; exact (below_size (by repeat (first | (with_reducible first | exact HB.out | apply zb | apply zn | apply zd | refine zs ?_ GE359.out | refine zs ?_ GE372.out) | exact HB.out))) : w.heap.size ≤ gb374)); have n9_ := Aside0.mk ((by rw [hg]; exact Nat.ne_of_lt (blk_lt (g := gb359) (o := .cells #[.slice (some ad373) l0_0.length c0_0, .slice A0_1 l0_1.length c0_1] 25 (0, 0)) (by (with_reducible repeat first | refine kn ?_ _ | refine kd ?_ | refine ka ?_ _); exact BK359.out)) : gb359 ≠ gb374)); have n10_ := Aside0.mk ((by rw [hg]; exact Nat.ne_of_gt (blk_lt (g := gb359) (o := .cells #[.slice (some ad373) l0_0.length c0_0, .slice A0_1 l0_1.length c0_1] 25 (0, 0)) (by (with_reducible repeat first | refine kn ?_ _ | refine kd ?_ | refine ka ?_ _); exact BK359.out)) : gb374 ≠ gb359)); have n11_ := Aside0.mk ((by rw [hg]; exact Nat.ne_of_lt (blk_lt (g := gb372) (o := .cells #[.slice Ao21 t363.length co21, .slice Ao24 t366.length co24, .slice Ao25 t369.length co25] 37 (0, 0)) (by (with_reducible repeat first | refine kn ?_ _ | refine kd ?_ | refine ka ?_ _); exact BK372.out)) : gb372 ≠ gb374)); have n12_ := Aside0.mk ((by rw [hg]; exact Nat.ne_of_gt (blk_lt (g := gb372) (o := .cells #[.slice Ao21 t363.length co21, .slice Ao24 t366.length co24, .slice Ao25 t369.length co25] 37 (0, 0)) (by (with_reducible repeat first | refine kn ?_ _ | refine kd ?_ | refine ka ?_ _); exact BK372.out)) : gb374 ≠ gb372)); clear HO_373000; clear HO_373001; clear HO_373002; clear BK359; clear BK372; clear HB; have HO_373000 := n0_; have HO_373001 := n1_; have HO_373002 := n2_; have BK359 := n3_; have BK372 := n4_; have HB := n5_; have BK374 := n6_; have GW374 := n7_; have GE374 := n8_; have NB359_374 := n9_; have NB374_359 := n10_; have NB372_374 := n11_; have NB374_372 := n12_; clear n0_ n1_ n2_ n3_ n4_ n5_ n6_ n7_ n8_ n9_ n10_ n11_ n12_; clear hb hbox hg; have hnb32 := NB374_359.out; have hnc32 := NB359_374.out; have hnb33 := NB374_372.out; have hnc33 := NB372_374.out; have hcz34_0 : w31.cell? ⟨gb374, 0, none⟩ = some (.int .i64 0) := (blk_cell BK374.out 0).trans rfl; have hcz34_1 : w31.cell? ⟨gb374, 1, none⟩ = some (.int .i64 0) := (blk_cell BK374.out 1).trans rfl; have hcz34_2 : w31.cell? ⟨gb374, 2, none⟩ = some (.int .i64 0) := (blk_cell BK374.out 2).trans rfl; have hcz34_3 : w31.cell? ⟨gb374, 3, none⟩ = some (.slice none 0 0) := (blk_cell BK374.out 3).trans rfl; have hcz34_4 : w31.cell? ⟨gb374, 4, none⟩ = some (.int .i64 0) := (blk_cell BK374.out 4).trans rfl; have hfz34_0 := blk_frozen BK374.out 0; have hfz34_1 := blk_frozen BK374.out 1; have hfz34_2 := blk_frozen BK374.out 2; have hfz34_3 := blk_frozen BK374.out 3; have hfz34_4 := blk_frozen BK374.out 4))
         go_loopg [6] k2 (fun kq v6 w' => ∃ (x6_3 : Int), v6 = .int .i64 x6_3 ∧ Aside0 (heirloomlaw11_ReachClosed.l1 kq x4_2 x6_3 l0_0 l0_1 t363 t366 t369 ((rd_T43 l0_0 x4_2).f0) ((rd_T43 l0_0 x4_2).f1) ((rd_T43 l0_0 x4_2).f2) ((rd_T43 l0_0 x4_2).f3) ((rd_T43 l0_0 x4_2).f4) = some r) ∧ Aside0 (kq ≤ k2) ∧ Aside0 (Kd.R Kd.bool 4 w' w.heap.size (fun _ => True) (.slice Ao21 t363.length co21) t363) ∧ Aside0 (Kd.R (Kd.int .i64) 3 w' w.heap.size (fun _ => True) (.slice Ao24 t366.length co24) t366) ∧ Aside0 (Kd.R k49 49 w' w.heap.size (fun _ => True) (.slice Ao25 t369.length co25) t369) ∧ Aside0 (w'.heap[gb359]? = some (.cells #[(.slice (some ad373) l0_0.length c0_0), (.slice A0_1 l0_1.length c0_1)] 25 (0, 0))) ∧ Aside0 (w'.heap[gb372]? = some (.cells #[(.slice Ao21 t363.length co21), (.slice Ao24 t366.length co24), (.slice Ao25 t369.length co25)] 37 (0, 0))) ∧ Aside0 (w'.heap[gb374]? = some (.cells #[.int .i64 ((rd_T43 l0_0 x4_2).f0), .int .i64 ((rd_T43 l0_0 x4_2).f1), .int .i64 ((rd_T43 l0_0 x4_2).f2), (.slice A373_3 ((rd_T43 l0_0 x4_2).f3).length c373_3), .int .i64 ((rd_T43 l0_0 x4_2).f4)] 43 (0, 0))) ∧ Aside0 (Below w.heap.size w w'))
         case atStart => exact ⟨(0), (by first | rfl | (simp; done) | (simp [*]; done)), H', ⟨Nat.le_refl _⟩, ⟨by (with_reducible repeat (first | apply Kd.R_alloc | apply Kd.R_drewN | apply Kd.R_drew)); exact Kd.R_mono (Kd.R_far (p := ⟨gb374, 4, none⟩) (Kd.R_far (p := ⟨gb374, 3, none⟩) (Kd.R_far (p := ⟨gb374, 2, none⟩) (Kd.R_far (p := ⟨gb374, 1, none⟩) (Kd.R_far (p := ⟨gb374, 0, none⟩) (Kd.R_types HO_373000.out BK374.out (by decide)) (fun _ hk => hk.2) (.int .i64 ((rd_T43 l0_0 x4_2).f0))) (fun _ hk => hk.2) (.int .i64 ((rd_T43 l0_0 x4_2).f1))) (fun _ hk => hk.2) (.int .i64 ((rd_T43 l0_0 x4_2).f2))) (fun _ hk => hk.2) (.slice A373_3 ((rd_T43 l0_0 x4_2).f3).length c373_3)) (fun _ hk => hk.2) (.int .i64 ((rd_T43 l0_0 x4_2).f4))) (fun _ hk => trivial)⟩, ⟨by (with_reducible repeat (first | apply Kd.R_alloc | apply Kd.R_drewN | apply Kd.R_drew)); exact Kd.R_mono (Kd.R_far (p := ⟨gb374, 4, none⟩) (Kd.R_far (p := ⟨gb374, 3, none⟩) (Kd.R_far (p := ⟨gb374, 2, none⟩) (Kd.R_far (p := ⟨gb374, 1, none⟩) (Kd.R_far (p := ⟨gb374, 0, none⟩) (Kd.R_types HO_373001.out BK374.out (by decide)) (fun _ hk => hk.2) (.int .i64 ((rd_T43 l0_0 x4_2).f0))) (fun _ hk => hk.2) (.int .i64 ((rd_T43 l0_0 x4_2).f1))) (fun _ hk => hk.2) (.int .i64 ((rd_T43 l0_0 x4_2).f2))) (fun _ hk => hk.2) (.slice A373_3 ((rd_T43 l0_0 x4_2).f3).length c373_3)) (fun _ hk => hk.2) (.int .i64 ((rd_T43 l0_0 x4_2).f4))) (fun _ hk => trivial)⟩, ⟨by (with_reducible repeat (first | apply Kd.R_alloc | apply Kd.R_drewN | apply Kd.R_drew)); exact Kd.R_mono (Kd.R_far (p := ⟨gb374, 4, none⟩) (Kd.R_far (p := ⟨gb374, 3, none⟩) (Kd.R_far (p := ⟨gb374, 2, none⟩) (Kd.R_far (p := ⟨gb374, 1, none⟩) (Kd.R_far (p := ⟨gb374, 0, none⟩) (Kd.R_types HO_373002.out BK374.out (by decide)) (fun _ hk => hk.2) (.int .i64 ((rd_T43 l0_0 x4_2).f0))) (fun _ hk => hk.2) (.int .i64 ((rd_T43 l0_0 x4_2).f1))) (fun _ hk => hk.2) (.int .i64 ((rd_T43 l0_0 x4_2).f2))) (fun _ hk => hk.2) (.slice A373_3 ((rd_T43 l0_0 x4_2).f3).length c373_3)) (fun _ hk => hk.2) (.int .i64 ((rd_T43 l0_0 x4_2).f4))) (fun _ hk => trivial)⟩, ⟨by (repeat first | (with_reducible first | refine kn ?_ _ | refine kd ?_ | refine ka ?_ _ | apply bp) | apply blk_far (hp := NB359_374.out)); exact BK359.out; all_goals rfl⟩, ⟨by (repeat first | (with_reducible first | refine kn ?_ _ | refine kd ?_ | refine ka ?_ _ | apply bp) | apply blk_far (hp := NB372_374.out)); exact BK372.out; all_goals rfl⟩, ⟨by (with_reducible repeat first | refine kn ?_ _ | refine kd ?_ | refine ka ?_ _ | apply bp); exact BK374.out; all_goals rfl⟩, ⟨by repeat (first | (with_reducible first | exact HB.out | apply zb | apply zn | apply zd | refine zs ?_ GE359.out | refine zs ?_ GE372.out | refine zs ?_ GE374.out) | exact HB.out)⟩⟩
         case round =>
          clear H'
          try clear c1
          try clear c2
          try clear p2
          try clear c3
          try clear p3
          try clear q3
          try clear hx3
          try clear c5
          try clear c7
          try clear c10
          try clear c11
          try clear c13
          try clear c17
          try clear c17b0
          try clear c17b1
          try clear c17b2
          try clear c18
          try clear c22
          try clear c27
          try clear c27b0
          try clear c28
          try clear c28b0
          try clear c29
          try clear c32
          try clear c33
          try clear hcz11_0
          try clear hcz11_1
          try clear hcz18_0
          try clear hcz18_1
          try clear hcz23_0
          try clear hcz23_1
          try clear hcz23_2
          try clear hcz26_0
          try clear hcz26_1
          try clear hcz30_0
          try clear hcz30_1
          try clear hcz34_0
          try clear hcz34_1
          try clear hcz34_2
          try clear hcz34_3
          try clear hcz34_4
          try clear hcz7_0
          try clear hcz7_1
          try clear hcz9_0
          try clear hcz9_1
          try clear hfz11_0
          try clear hfz11_1
          try clear hfz18_0
          try clear hfz18_1
          try clear hfz23_0
          try clear hfz23_1
          try clear hfz23_2
          try clear hfz26_0
          try clear hfz26_1
          try clear hfz30_0
          try clear hfz30_1
          try clear hfz34_0
          try clear hfz34_1
          try clear hfz34_2
          try clear hfz34_3
          try clear hfz34_4
          try clear hfz7_0
          try clear hfz7_1
          try clear hfz9_0
          try clear hfz9_1
          try clear hx373_0
          try clear hx373_1
          try clear hx373_2
          try clear hx373_3
          try clear hx373_4
          try clear p2
          try clear p373
          try clear q373
          obtain ⟨x6_3, rfl, HA, HK3, HO_373000, HO_373001, HO_373002, BK359, BK372, BK374, HB⟩ := hrel
          cases gk with
          | zero => exact absurd HA.out (by simp [heirloomlaw11_ReachClosed.l1])
          | succ k3 =>
           have H := HA.out
           clear HA
           simp only [heirloomlaw11_ReachClosed.l1] at H
           have HC35 := Aside0.mk H
           clear H
           go_upto_region 11 with (fail)
           go_cut [51] (fun v51 wc => ∃ (kq : Nat) (x51_34 : Bool), v51 = .bool x51_34 ∧ Aside0 (heirloomlaw11_ReachClosed.j3 kq x4_2 x6_3 x51_34 l0_0 l0_1 t363 t366 t369 ((rd_T43 l0_0 x4_2).f0) ((rd_T43 l0_0 x4_2).f1) ((rd_T43 l0_0 x4_2).f2) ((rd_T43 l0_0 x4_2).f3) ((rd_T43 l0_0 x4_2).f4) = some r) ∧ Aside0 (kq ≤ k3) ∧ Aside0 (Kd.R Kd.bool 4 wc w.heap.size (fun _ => True) (.slice Ao21 t363.length co21) t363) ∧ Aside0 (Kd.R (Kd.int .i64) 3 wc w.heap.size (fun _ => True) (.slice Ao24 t366.length co24) t366) ∧ Aside0 (Kd.R k49 49 wc w.heap.size (fun _ => True) (.slice Ao25 t369.length co25) t369) ∧ Aside0 (wc.heap[gb359]? = some (.cells #[(.slice (some ad373) l0_0.length c0_0), (.slice A0_1 l0_1.length c0_1)] 25 (0, 0))) ∧ Aside0 (wc.heap[gb372]? = some (.cells #[(.slice Ao21 t363.length co21), (.slice Ao24 t366.length co24), (.slice Ao25 t369.length co25)] 37 (0, 0))) ∧ Aside0 (wc.heap[gb374]? = some (.cells #[.int .i64 ((rd_T43 l0_0 x4_2).f0), .int .i64 ((rd_T43 l0_0 x4_2).f1), .int .i64 ((rd_T43 l0_0 x4_2).f2), (.slice A373_3 ((rd_T43 l0_0 x4_2).f3).length c373_3), .int .i64 ((rd_T43 l0_0 x4_2).f4)] 43 (0, 0))) ∧ Aside0 (Below w.heap.size w wc))
           case first =>
            have H := HC35.out
            clear HC35
            by_cases c36 : 0 ≤ x4_2
            ·rw [if_pos c36] at H
             have c36b0 : decide (0 ≤ x4_2) = true := decide_eq_true c36
             clear c36
             (first | rw [c36b0] | (simp only [i64_w, i32_w]; rw [c36b0]) | skip)
             by_cases c37 : x4_2 < (t363.length : Int)
             ·rw [if_pos c37] at H
              have c37b0 : decide (x4_2 < (t363.length : Int)) = true := decide_eq_true c37
              clear c37
              obtain ⟨bq38, hbq38⟩ : ∃ b_ : Bool, b_ = (rdOf false t363 x4_2) := ⟨_, rfl⟩
              replace H : (if bq38 = true then (heirloomlaw11_ReachClosed.j3 k3 x4_2 x6_3 (decide (x6_3 < (((rd_T43 l0_0 x4_2).f3).length : Int))) l0_0 l0_1 t363 t366 t369 ((rd_T43 l0_0 x4_2).f0) ((rd_T43 l0_0 x4_2).f1) ((rd_T43 l0_0 x4_2).f2) ((rd_T43 l0_0 x4_2).f3) ((rd_T43 l0_0 x4_2).f4)) else (heirloomlaw11_ReachClosed.j3 k3 x4_2 x6_3 false l0_0 l0_1 t363 t366 t369 ((rd_T43 l0_0 x4_2).f0) ((rd_T43 l0_0 x4_2).f1) ((rd_T43 l0_0 x4_2).f2) ((rd_T43 l0_0 x4_2).f3) ((rd_T43 l0_0 x4_2).f4))) = some r := by rw [← hbq38] at H; exact H
              have Nbq38 := Aside0.mk hbq38
              clear hbq38
              by_cases c39 : bq38 = true
              ·subst c39
               have H1 : (heirloomlaw11_ReachClosed.j3 k3 x4_2 x6_3 (decide (x6_3 < (((rd_T43 l0_0 x4_2).f3).length : Int))) l0_0 l0_1 t363 t366 t369 ((rd_T43 l0_0 x4_2).f0) ((rd_T43 l0_0 x4_2).f1) ((rd_T43 l0_0 x4_2).f2) ((rd_T43 l0_0 x4_2).f3) ((rd_T43 l0_0 x4_2).f4)) = some r := by rw [if_pos rfl] at H; exact H
               clear H
               have H := H1
               clear H1
               have H' := Aside0.mk H
               clear H
               have hnb40 := NB372_359.out
               have hnc40 := NB359_372.out
               have hnb41 := NB372_374.out
               have hnc41 := NB374_372.out
               have hcz42_0 : wr.cell? ⟨gb372, 0, none⟩ = some (.slice Ao21 t363.length co21) := (blk_cell BK372.out 0).trans rfl
               have hcz42_1 : wr.cell? ⟨gb372, 1, none⟩ = some (.slice Ao24 t366.length co24) := (blk_cell BK372.out 1).trans rfl
               have hcz42_2 : wr.cell? ⟨gb372, 2, none⟩ = some (.slice Ao25 t369.length co25) := (blk_cell BK372.out 2).trans rfl
               have hfz42_0 := blk_frozen BK372.out 0
               have hfz42_1 := blk_frozen BK372.out 1
               have hfz42_2 := blk_frozen BK372.out 2
               have p375 : 0 ≤ (x4_2 : Int) := of_decide_eq_true (by first | (with_reducible assumption) | assumption)
               have q375 : x4_2 < (t363.length : Int) := of_decide_eq_true (by first | (with_reducible assumption) | assumption)
               obtain ⟨ad375, e375, hx375_0⟩ := Kd.at_bool (Kd.R_reads' HO_373000.out).2.2 x4_2 p375 q375
               (try rw [← Nbq38.out] at hx375_0)
               cases e375
               replace p375 := eq_true p375
               replace q375 := eq_true q375
               have hnb43 := NB374_359.out
               have hnc43 := NB359_374.out
               have hcz44_0 : wr.cell? ⟨gb374, 0, none⟩ = some (.int .i64 ((rd_T43 l0_0 x4_2).f0)) := (blk_cell BK374.out 0).trans rfl
               have hcz44_1 : wr.cell? ⟨gb374, 1, none⟩ = some (.int .i64 ((rd_T43 l0_0 x4_2).f1)) := (blk_cell BK374.out 1).trans rfl
               have hcz44_2 : wr.cell? ⟨gb374, 2, none⟩ = some (.int .i64 ((rd_T43 l0_0 x4_2).f2)) := (blk_cell BK374.out 2).trans rfl
               have hcz44_3 : wr.cell? ⟨gb374, 3, none⟩ = some (.slice A373_3 ((rd_T43 l0_0 x4_2).f3).length c373_3) := (blk_cell BK374.out 3).trans rfl
               have hcz44_4 : wr.cell? ⟨gb374, 4, none⟩ = some (.int .i64 ((rd_T43 l0_0 x4_2).f4)) := (blk_cell BK374.out 4).trans rfl
               have hfz44_0 := blk_frozen BK374.out 0
               have hfz44_1 := blk_frozen BK374.out 1
               have hfz44_2 := blk_frozen BK374.out 2
               have hfz44_3 := blk_frozen BK374.out 3
               have hfz44_4 := blk_frozen BK374.out 4
               go_wp2
               go_meet
               case rel => exact ⟨_, (decide (x6_3 < (((rd_T43 l0_0 x4_2).f3).length : Int))), (by first | rfl | (simp; done) | (simp [*]; done)), H', ⟨by have := HJ1.out; have := HK2.out; have := HK3.out; first | omega | exact Nat.le_refl _⟩, ⟨by (with_reducible repeat (first | apply Kd.R_alloc | apply Kd.R_drewN | apply Kd.R_drew)); exact HO_373000.out⟩, ⟨by (with_reducible repeat (first | apply Kd.R_alloc | apply Kd.R_drewN | apply Kd.R_drew)); exact HO_373001.out⟩, ⟨by (with_reducible repeat (first | apply Kd.R_alloc | apply Kd.R_drewN | apply Kd.R_drew)); exact HO_373002.out⟩, ⟨by (with_reducible repeat first | refine kn ?_ _ | refine kd ?_ | refine ka ?_ _); exact BK359.out⟩, ⟨by (with_reducible repeat first | refine kn ?_ _ | refine kd ?_ | refine ka ?_ _); exact BK372.out⟩, ⟨by (with_reducible repeat first | refine kn ?_ _ | refine kd ?_ | refine ka ?_ _); exact BK374.out⟩, ⟨by repeat (first | (with_reducible first | exact HB.out | apply zb | apply zn | apply zd | refine zs ?_ GE359.out | refine zs ?_ GE372.out | refine zs ?_ GE374.out) | exact HB.out)⟩⟩
              ·replace c39 := Bool.eq_false_iff.mpr c39
               subst c39
               have H1 : (heirloomlaw11_ReachClosed.j3 k3 x4_2 x6_3 false l0_0 l0_1 t363 t366 t369 ((rd_T43 l0_0 x4_2).f0) ((rd_T43 l0_0 x4_2).f1) ((rd_T43 l0_0 x4_2).f2) ((rd_T43 l0_0 x4_2).f3) ((rd_T43 l0_0 x4_2).f4)) = some r := by rw [if_neg (show ¬ (false = true) by decide)] at H; exact H
               clear H
               have H := H1
               clear H1
               have H' := Aside0.mk H
               clear H
               have hnb45 := NB372_359.out
               have hnc45 := NB359_372.out
               have hnb46 := NB372_374.out
               have hnc46 := NB374_372.out
               have hcz47_0 : wr.cell? ⟨gb372, 0, none⟩ = some (.slice Ao21 t363.length co21) := (blk_cell BK372.out 0).trans rfl
               have hcz47_1 : wr.cell? ⟨gb372, 1, none⟩ = some (.slice Ao24 t366.length co24) := (blk_cell BK372.out 1).trans rfl
               have hcz47_2 : wr.cell? ⟨gb372, 2, none⟩ = some (.slice Ao25 t369.length co25) := (blk_cell BK372.out 2).trans rfl
               have hfz47_0 := blk_frozen BK372.out 0
               have hfz47_1 := blk_frozen BK372.out 1
               have hfz47_2 := blk_frozen BK372.out 2
               have p375 : 0 ≤ (x4_2 : Int) := of_decide_eq_true (by first | (with_reducible assumption) | assumption)
               have q375 : x4_2 < (t363.length : Int) := of_decide_eq_true (by first | (with_reducible assumption) | assumption)
               obtain ⟨ad375, e375, hx375_0⟩ := Kd.at_bool (Kd.R_reads' HO_373000.out).2.2 x4_2 p375 q375
               (try rw [← Nbq38.out] at hx375_0)
               cases e375
               replace p375 := eq_true p375
               replace q375 := eq_true q375
               go_wp2
               go_meet
               case rel => exact ⟨_, (false), (by first | rfl | (simp; done) | (simp [*]; done)), H', ⟨by have := HJ1.out; have := HK2.out; have := HK3.out; first | omega | exact Nat.le_refl _⟩, ⟨by (with_reducible repeat (first | apply Kd.R_alloc | apply Kd.R_drewN | apply Kd.R_drew)); exact HO_373000.out⟩, ⟨by (with_reducible repeat (first | apply Kd.R_alloc | apply Kd.R_drewN | apply Kd.R_drew)); exact HO_373001.out⟩, ⟨by (with_reducible repeat (first | apply Kd.R_alloc | apply Kd.R_drewN | apply Kd.R_drew)); exact HO_373002.out⟩, ⟨by (with_reducible repeat first | refine kn ?_ _ | refine kd ?_ | refine ka ?_ _); exact BK359.out⟩, ⟨by (with_reducible repeat first | refine kn ?_ _ | refine kd ?_ | refine ka ?_ _); exact BK372.out⟩, ⟨by (with_reducible repeat first | refine kn ?_ _ | refine kd ?_ | refine ka ?_ _); exact BK374.out⟩, ⟨by repeat (first | (with_reducible first | exact HB.out | apply zb | apply zn | apply zd | refine zs ?_ GE359.out | refine zs ?_ GE372.out | refine zs ?_ GE374.out) | exact HB.out)⟩⟩
             ·rw [if_neg c37] at H
              exact absurd H (by simp)
            ·rw [if_neg c36] at H
             exact absurd H (by simp)
           case rest =>
            clear HC35
            try clear c1
            try clear c2
            try clear p2
            try clear c3
            try clear p3
            try clear q3
            try clear hx3
            try clear c4
            try clear c5
            try clear c7
            try clear c10
            try clear c11
            try clear c13
            try clear c17
            try clear c17b0
            try clear c17b1
            try clear c17b2
            try clear c18
            try clear c22
            try clear c27
            try clear c27b0
            try clear c28
            try clear c28b0
            try clear c29
            try clear c32
            try clear c33
            try clear c36
            try clear c36b0
            try clear c37
            try clear c37b0
            try clear p37
            try clear q37
            try clear hx37
            try clear q38
            try clear c39
            try clear c40
            try clear c41
            try clear c43
            try clear c45
            try clear c46
            try clear hcz11_0
            try clear hcz11_1
            try clear hcz18_0
            try clear hcz18_1
            try clear hcz23_0
            try clear hcz23_1
            try clear hcz23_2
            try clear hcz26_0
            try clear hcz26_1
            try clear hcz30_0
            try clear hcz30_1
            try clear hcz34_0
            try clear hcz34_1
            try clear hcz34_2
            try clear hcz34_3
            try clear hcz34_4
            try clear hcz42_0
            try clear hcz42_1
            try clear hcz42_2
            try clear hcz44_0
            try clear hcz44_1
            try clear hcz44_2
            try clear hcz44_3
            try clear hcz44_4
            try clear hcz47_0
            try clear hcz47_1
            try clear hcz47_2
            try clear hcz7_0
            try clear hcz7_1
            try clear hcz9_0
            try clear hcz9_1
            try clear hfz11_0
            try clear hfz11_1
            try clear hfz18_0
            try clear hfz18_1
            try clear hfz23_0
            try clear hfz23_1
            try clear hfz23_2
            try clear hfz26_0
            try clear hfz26_1
            try clear hfz30_0
            try clear hfz30_1
            try clear hfz34_0
            try clear hfz34_1
            try clear hfz34_2
            try clear hfz34_3
            try clear hfz34_4
            try clear hfz42_0
            try clear hfz42_1
            try clear hfz42_2
            try clear hfz44_0
            try clear hfz44_1
            try clear hfz44_2
            try clear hfz44_3
            try clear hfz44_4
            try clear hfz47_0
            try clear hfz47_1
            try clear hfz47_2
            try clear hfz7_0
            try clear hfz7_1
            try clear hfz9_0
            try clear hfz9_1
            try clear hx373_0
            try clear hx373_1
            try clear hx373_2
            try clear hx373_3
            try clear hx373_4
            try clear hx375_0
            try clear p2
            try clear p3
            try clear p373
            try clear p375
            try clear q3
            try clear q373
            try clear q375
            obtain ⟨kq, x51_34, rfl, HA, HJ34, HO_373000, HO_373001, HO_373002, BK359, BK372, BK374, HB⟩ := hcut
            cases kq with
            | zero => exact absurd HA.out (by simp [heirloomlaw11_ReachClosed.j3])
            | succ kj34 =>
             have H := HA.out
             clear HA
             simp only [heirloomlaw11_ReachClosed.j3] at H
             by_cases c48 : x51_34 = true
             ·subst c48
              have H1 : (if 0 ≤ x6_3 then (if x6_3 < (((rd_T43 l0_0 x4_2).f3).length : Int) then ((heirloomref11_Object.f kj34 l0_0 l0_1 ((rd_T40 ((rd_T43 l0_0 x4_2).f3) x6_3).f0) ((rd_T40 ((rd_T43 l0_0 x4_2).f3) x6_3).f1)).bind fun t377 => (if t377 > 0 then (if 0 ≤ (wrap64 (t377 - 1)) then (if (wrap64 (t377 - 1)) < (t363.length : Int) then (if (rdOf false t363 (wrap64 (t377 - 1)) = true) then (heirloomlaw11_ReachClosed.l1 kj34 x4_2 (wrap64 (x6_3 + 1)) l0_0 l0_1 t363 t366 t369 ((rd_T43 l0_0 x4_2).f0) ((rd_T43 l0_0 x4_2).f1) ((rd_T43 l0_0 x4_2).f2) ((rd_T43 l0_0 x4_2).f3) ((rd_T43 l0_0 x4_2).f4)) else ((heirloomlaw11_cleared.f kj34 t363 t366 t369 (wrap64 (x4_2 + 1)) x6_3).bind fun t379 => (if t379 = true then (heirloomlaw11_ReachClosed.l1 kj34 x4_2 (wrap64 (x6_3 + 1)) l0_0 l0_1 t363 t366 t369 ((rd_T43 l0_0 x4_2).f0) ((rd_T43 l0_0 x4_2).f1) ((rd_T43 l0_0 x4_2).f2) ((rd_T43 l0_0 x4_2).f3) ((rd_T43 l0_0 x4_2).f4)) else (if ((rd_T43 l0_0 x4_2).f1) > 0 then ((heirloomlaw11_cleared.f kj34 t363 t366 t369 (wrap64 (x4_2 + 1)) (wrap64 (x6_3 + 1))).bind fun t380 => (if t380 = true then ((heirloomref11_KeyOf.f kj34 ((rd_T43 l0_0 x4_2).f0) ((rd_T43 l0_0 x4_2).f1) ((rd_T43 l0_0 x4_2).f2) ((rd_T43 l0_0 x4_2).f3) ((rd_T43 l0_0 x4_2).f4) (wrap64 (x6_3 + 1))).bind fun t381 => (if t381 = x6_3 then (heirloomlaw11_ReachClosed.l1 kj34 x4_2 (wrap64 (x6_3 + 1)) l0_0 l0_1 t363 t366 t369 ((rd_T43 l0_0 x4_2).f0) ((rd_T43 l0_0 x4_2).f1) ((rd_T43 l0_0 x4_2).f2) ((rd_T43 l0_0 x4_2).f3) ((rd_T43 l0_0 x4_2).f4)) else (some false))) else (some false))) else (some false))))) else (none)) else (none)) else (heirloomlaw11_ReachClosed.l1 kj34 x4_2 (wrap64 (x6_3 + 1)) l0_0 l0_1 t363 t366 t369 ((rd_T43 l0_0 x4_2).f0) ((rd_T43 l0_0 x4_2).f1) ((rd_T43 l0_0 x4_2).f2) ((rd_T43 l0_0 x4_2).f3) ((rd_T43 l0_0 x4_2).f4)))) else (none)) else (none)) = some r := by rw [if_pos rfl] at H; exact H
              clear H
              have H := H1
              clear H1
              by_cases c49 : 0 ≤ x6_3
              ·rw [if_pos c49] at H
               have c49b0 : decide (0 ≤ x6_3) = true := decide_eq_true c49
               clear c49
               by_cases c50 : x6_3 < (((rd_T43 l0_0 x4_2).f3).length : Int)
               ·rw [if_pos c50] at H
                have c50b0 : decide (x6_3 < (((rd_T43 l0_0 x4_2).f3).length : Int)) = true := decide_eq_true c50
                clear c50
                replace H := Option.bind_eq_some_iff.mp H
                obtain ⟨t377, A510, H⟩ := H
                replace H : (if t377 > 0 then (if 0 ≤ (wrap64 (t377 - 1)) then (if (wrap64 (t377 - 1)) < (t363.length : Int) then (if (rdOf false t363 (wrap64 (t377 - 1)) = true) then (heirloomlaw11_ReachClosed.l1 kj34 x4_2 (wrap64 (x6_3 + 1)) l0_0 l0_1 t363 t366 t369 ((rd_T43 l0_0 x4_2).f0) ((rd_T43 l0_0 x4_2).f1) ((rd_T43 l0_0 x4_2).f2) ((rd_T43 l0_0 x4_2).f3) ((rd_T43 l0_0 x4_2).f4)) else ((heirloomlaw11_cleared.f kj34 t363 t366 t369 (wrap64 (x4_2 + 1)) x6_3).bind fun t379 => (if t379 = true then (heirloomlaw11_ReachClosed.l1 kj34 x4_2 (wrap64 (x6_3 + 1)) l0_0 l0_1 t363 t366 t369 ((rd_T43 l0_0 x4_2).f0) ((rd_T43 l0_0 x4_2).f1) ((rd_T43 l0_0 x4_2).f2) ((rd_T43 l0_0 x4_2).f3) ((rd_T43 l0_0 x4_2).f4)) else (if ((rd_T43 l0_0 x4_2).f1) > 0 then ((heirloomlaw11_cleared.f kj34 t363 t366 t369 (wrap64 (x4_2 + 1)) (wrap64 (x6_3 + 1))).bind fun t380 => (if t380 = true then ((heirloomref11_KeyOf.f kj34 ((rd_T43 l0_0 x4_2).f0) ((rd_T43 l0_0 x4_2).f1) ((rd_T43 l0_0 x4_2).f2) ((rd_T43 l0_0 x4_2).f3) ((rd_T43 l0_0 x4_2).f4) (wrap64 (x6_3 + 1))).bind fun t381 => (if t381 = x6_3 then (heirloomlaw11_ReachClosed.l1 kj34 x4_2 (wrap64 (x6_3 + 1)) l0_0 l0_1 t363 t366 t369 ((rd_T43 l0_0 x4_2).f0) ((rd_T43 l0_0 x4_2).f1) ((rd_T43 l0_0 x4_2).f2) ((rd_T43 l0_0 x4_2).f3) ((rd_T43 l0_0 x4_2).f4)) else (some false))) else (some false))) else (some false))))) else (none)) else (none)) else (heirloomlaw11_ReachClosed.l1 kj34 x4_2 (wrap64 (x6_3 + 1)) l0_0 l0_1 t363 t366 t369 ((rd_T43 l0_0 x4_2).f0) ((rd_T43 l0_0 x4_2).f1) ((rd_T43 l0_0 x4_2).f2) ((rd_T43 l0_0 x4_2).f3) ((rd_T43 l0_0 x4_2).f4))) = some r := H
                have A51 := Aside0.mk A510
                clear A510
                by_cases c52 : t377 > 0
                ·rw [if_pos c52] at H
                 have c52b0 : decide (0 < t377) = true := decide_eq_true c52
                 clear c52
                 obtain ⟨ji53, hji53⟩ : ∃ j_ : Int, (wrap64 (t377 - 1)) = j_ := ⟨_, rfl⟩
                 replace H : (if 0 ≤ (ji53) then (if (ji53) < (t363.length : Int) then (if (rdOf false t363 (ji53) = true) then (heirloomlaw11_ReachClosed.l1 kj34 x4_2 (wrap64 (x6_3 + 1)) l0_0 l0_1 t363 t366 t369 ((rd_T43 l0_0 x4_2).f0) ((rd_T43 l0_0 x4_2).f1) ((rd_T43 l0_0 x4_2).f2) ((rd_T43 l0_0 x4_2).f3) ((rd_T43 l0_0 x4_2).f4)) else ((heirloomlaw11_cleared.f kj34 t363 t366 t369 (wrap64 (x4_2 + 1)) x6_3).bind fun t379 => (if t379 = true then (heirloomlaw11_ReachClosed.l1 kj34 x4_2 (wrap64 (x6_3 + 1)) l0_0 l0_1 t363 t366 t369 ((rd_T43 l0_0 x4_2).f0) ((rd_T43 l0_0 x4_2).f1) ((rd_T43 l0_0 x4_2).f2) ((rd_T43 l0_0 x4_2).f3) ((rd_T43 l0_0 x4_2).f4)) else (if ((rd_T43 l0_0 x4_2).f1) > 0 then ((heirloomlaw11_cleared.f kj34 t363 t366 t369 (wrap64 (x4_2 + 1)) (wrap64 (x6_3 + 1))).bind fun t380 => (if t380 = true then ((heirloomref11_KeyOf.f kj34 ((rd_T43 l0_0 x4_2).f0) ((rd_T43 l0_0 x4_2).f1) ((rd_T43 l0_0 x4_2).f2) ((rd_T43 l0_0 x4_2).f3) ((rd_T43 l0_0 x4_2).f4) (wrap64 (x6_3 + 1))).bind fun t381 => (if t381 = x6_3 then (heirloomlaw11_ReachClosed.l1 kj34 x4_2 (wrap64 (x6_3 + 1)) l0_0 l0_1 t363 t366 t369 ((rd_T43 l0_0 x4_2).f0) ((rd_T43 l0_0 x4_2).f1) ((rd_T43 l0_0 x4_2).f2) ((rd_T43 l0_0 x4_2).f3) ((rd_T43 l0_0 x4_2).f4)) else (some false))) else (some false))) else (some false))))) else (none)) else (none)) = some r := by first | (rw [hji53] at H; exact H) | (simp only [hji53] at H ⊢; exact H)
                 (try rw [hji53] at A51)
                 have hji53w : (IntKind.i64.wrap (t377 - 1)) = ji53 := (i64_w _).trans hji53
                 by_cases c54 : 0 ≤ (ji53)
                 ·rw [if_pos c54] at H
                  have c54b0 : decide (0 ≤ (ji53)) = true := decide_eq_true c54
                  clear c54
                  by_cases c55 : (ji53) < (t363.length : Int)
                  ·rw [if_pos c55] at H
                   have c55b0 : decide ((ji53) < (t363.length : Int)) = true := decide_eq_true c55
                   clear c55
                   obtain ⟨bq56, hbq56⟩ : ∃ b_ : Bool, b_ = (rdOf false t363 (ji53)) := ⟨_, rfl⟩
                   replace H : (if (bq56 = true) then (heirloomlaw11_ReachClosed.l1 kj34 x4_2 (wrap64 (x6_3 + 1)) l0_0 l0_1 t363 t366 t369 ((rd_T43 l0_0 x4_2).f0) ((rd_T43 l0_0 x4_2).f1) ((rd_T43 l0_0 x4_2).f2) ((rd_T43 l0_0 x4_2).f3) ((rd_T43 l0_0 x4_2).f4)) else ((heirloomlaw11_cleared.f kj34 t363 t366 t369 (wrap64 (x4_2 + 1)) x6_3).bind fun t379 => (if t379 = true then (heirloomlaw11_ReachClosed.l1 kj34 x4_2 (wrap64 (x6_3 + 1)) l0_0 l0_1 t363 t366 t369 ((rd_T43 l0_0 x4_2).f0) ((rd_T43 l0_0 x4_2).f1) ((rd_T43 l0_0 x4_2).f2) ((rd_T43 l0_0 x4_2).f3) ((rd_T43 l0_0 x4_2).f4)) else (if ((rd_T43 l0_0 x4_2).f1) > 0 then ((heirloomlaw11_cleared.f kj34 t363 t366 t369 (wrap64 (x4_2 + 1)) (wrap64 (x6_3 + 1))).bind fun t380 => (if t380 = true then ((heirloomref11_KeyOf.f kj34 ((rd_T43 l0_0 x4_2).f0) ((rd_T43 l0_0 x4_2).f1) ((rd_T43 l0_0 x4_2).f2) ((rd_T43 l0_0 x4_2).f3) ((rd_T43 l0_0 x4_2).f4) (wrap64 (x6_3 + 1))).bind fun t381 => (if t381 = x6_3 then (heirloomlaw11_ReachClosed.l1 kj34 x4_2 (wrap64 (x6_3 + 1)) l0_0 l0_1 t363 t366 t369 ((rd_T43 l0_0 x4_2).f0) ((rd_T43 l0_0 x4_2).f1) ((rd_T43 l0_0 x4_2).f2) ((rd_T43 l0_0 x4_2).f3) ((rd_T43 l0_0 x4_2).f4)) else (some false))) else (some false))) else (some false))))) = some r := by rw [← hbq56] at H; exact H
                   have Nbq56 := Aside0.mk hbq56
                   clear hbq56
                   by_cases c57 : (bq56 = true)
                   ·subst c57
                    have H1 : (heirloomlaw11_ReachClosed.l1 kj34 x4_2 (wrap64 (x6_3 + 1)) l0_0 l0_1 t363 t366 t369 ((rd_T43 l0_0 x4_2).f0) ((rd_T43 l0_0 x4_2).f1) ((rd_T43 l0_0 x4_2).f2) ((rd_T43 l0_0 x4_2).f3) ((rd_T43 l0_0 x4_2).f4)) = some r := by rw [if_pos rfl] at H; exact H
                    clear H
                    have H := H1
                    clear H1
                    have H' := Aside0.mk H
                    clear H
                    try go_wp2
                    have n0_ := Aside0.mk (Kd.R_drew HO_373000.out)
                    have n1_ := Aside0.mk (Kd.R_drew HO_373001.out)
                    have n2_ := Aside0.mk (Kd.R_drew HO_373002.out)
                    have n3_ := Aside0.mk (blk_drew BK359.out)
                    have n4_ := Aside0.mk (blk_drew BK372.out)
                    have n5_ := Aside0.mk (blk_drew BK374.out)
                    have n6_ := Aside0.mk (below_drew1 HB.out)
                    clear HO_373000
                    clear HO_373001
                    clear HO_373002
                    clear BK359
                    clear BK372
                    clear BK374
                    clear HB
                    have HO_373000 := n0_
                    have HO_373001 := n1_
                    have HO_373002 := n2_
                    have BK359 := n3_
                    have BK372 := n4_
                    have BK374 := n5_
                    have HB := n6_
                    clear n0_ n1_ n2_ n3_ n4_ n5_ n6_
                    have p376 : 0 ≤ (x6_3 : Int) := of_decide_eq_true (by first | (with_reducible assumption) | assumption)
                    have q376 : x6_3 < (((rd_T43 l0_0 x4_2).f3).length : Int) := of_decide_eq_true (by first | (with_reducible assumption) | assumption)
                    obtain ⟨ad376, e376, hx376_0, hx376_1⟩ := at_T40 HR373_3.out x6_3 p376 q376
                    have hw376_1 := hx376_1
                    have hw376_0 := hx376_0
                    cases e376
                    replace hx376_0 := (HB.out.cell (World.block_lt_of_cell? w _ hx376_0)).trans hx376_0
                    replace hx376_1 := (HB.out.cell (World.block_lt_of_cell? w _ hx376_1)).trans hx376_1
                    replace p376 := eq_true p376
                    replace q376 := eq_true q376
                    refine start_ (n := 8) (S := fun w' => w'.cell? ⟨gb359, 0, none⟩ = some (.slice (some ad373) l0_0.length c0_0) ∧ w'.cell? ⟨gb359, 1, none⟩ = some (.slice A0_1 l0_1.length c0_1) ∧ w'.cell? ⟨gb374, 0, none⟩ = some (.int .i64 ((rd_T43 l0_0 x4_2).f0)) ∧ w'.cell? ⟨gb374, 1, none⟩ = some (.int .i64 ((rd_T43 l0_0 x4_2).f1)) ∧ w'.cell? ⟨gb374, 2, none⟩ = some (.int .i64 ((rd_T43 l0_0 x4_2).f2)) ∧ w'.cell? ⟨gb374, 3, none⟩ = some (.slice (some ad376) ((rd_T43 l0_0 x4_2).f3).length c373_3) ∧ w'.cell? ⟨gb374, 4, none⟩ = some (.int .i64 ((rd_T43 l0_0 x4_2).f4)) ∧ w'.cell? (ad376.add ((x6_3).toNat * 2)) = some (.int .i64 ((rd_T40 ((rd_T43 l0_0 x4_2).f3) x6_3).f0)) ∧ w'.cell? ⟨(ad376.add ((x6_3).toNat * 2)).block, (ad376.add ((x6_3).toNat * 2)).off + 1, none⟩ = some (.int .i64 ((rd_T40 ((rd_T43 l0_0 x4_2).f3) x6_3).f1))) (ds := []) #[false, false, false, false, false, false, false, false] (by kernel_rfl) rfl rfl ⟨(blk_cell BK359.out 0).trans rfl, (blk_cell BK359.out 1).trans rfl, (blk_cell BK374.out 0).trans rfl, (blk_cell BK374.out 1).trans rfl, (blk_cell BK374.out 2).trans rfl, (blk_cell BK374.out 3).trans rfl, (blk_cell BK374.out 4).trans rfl, ((HB.out.cell (World.block_lt_of_cell? w _ hw376_0)).trans hw376_0), ((HB.out.cell (World.block_lt_of_cell? w _ hw376_1)).trans hw376_1)⟩ (fun hHeld => ?_); refine with_tabW heirloomlaw11_ReachClosed.tab13 heirloomlaw11_ReachClosed.bits13 (fun HT_ HW_ => ?_)
                    generalize wc.drew = w58 at HO_373000 HO_373001 HO_373002 BK359 BK372 BK374 HB hx376_0 hx376_1 hHeld ⊢
                    refine pure_ (i := 1) (N := some 55) (v := ?_) (a' := ?_) #[false, true, false, false, false, false, false, false] rfl rfl (any_of HT_.out (by kernel_rfl)) (fun _ _ _ h => h) (Or.inl ⟨by rfl, ?_⟩) ?_ ?_
                    rotate_left
                    ·intro w'
                     go_simp
                     first | with_reducible rfl | (rw [if_neg (by have hq_ : (_ + _ : Nat) ≤ 9223372036854775807 := (by assumption); simp only [ByteArray.size_extract] at hq_; simp only [decide_eq_true_eq] at *; omega)]; done)
                    rotate_left
                    ·simp only [Act.put, List.setIfInBounds_toArray, List.set_cons_zero, List.set_cons_succ, i64_w, i32_w]
                     rfl
                    refine pure_ (i := 3) (N := some 57) (v := ?_) (a' := ?_) #[false, true, false, true, false, false, false, false] rfl rfl (any_of HT_.out (by kernel_rfl)) (fun _ _ _ h => h) (Or.inl ⟨by rfl, ?_⟩) ?_ ?_
                    rotate_left
                    ·intro w'
                     go_simp
                     first | with_reducible rfl | (rw [if_neg (by have hq_ : (_ + _ : Nat) ≤ 9223372036854775807 := (by assumption); simp only [ByteArray.size_extract] at hq_; simp only [decide_eq_true_eq] at *; omega)]; done)
                    rotate_left
                    ·simp only [Act.put, List.setIfInBounds_toArray, List.set_cons_zero, List.set_cons_succ, i64_w, i32_w]
                     rfl
                    refine take_ (i := 0) (N := some 54) (v := ?_) (a' := ?_) #[true, true, false, true, false, false, false, false] rfl rfl (take_ofW HT_.out HW_.out (by kernel_rfl)) (fun _ _ _ h => h) (Or.inl ⟨by rfl, ?_⟩) hHeld ?_ ?_
                    rotate_left
                    ·rintro w' ⟨s0, s1, s2, s3, s4, s5, s6, s7, s8⟩
                     go_simp
                     first | with_reducible rfl | (rw [if_neg (by have hq_ : (_ + _ : Nat) ≤ 9223372036854775807 := (by assumption); simp only [ByteArray.size_extract] at hq_; simp only [decide_eq_true_eq] at *; omega)]; done)
                    rotate_left
                    ·simp only [Act.put, List.setIfInBounds_toArray, List.set_cons_zero, List.set_cons_succ, i64_w, i32_w]
                     rfl
                    refine take_ (i := 2) (N := some 56) (v := ?_) (a' := ?_) #[true, true, true, true, false, false, false, false] rfl rfl (take_ofW HT_.out HW_.out (by kernel_rfl)) (fun _ _ _ h => h) (Or.inl ⟨by rfl, ?_⟩) hHeld ?_ ?_
                    rotate_left
                    ·rintro w' ⟨s0, s1, s2, s3, s4, s5, s6, s7, s8⟩
                     go_simp
                     first | with_reducible rfl | (rw [if_neg (by have hq_ : (_ + _ : Nat) ≤ 9223372036854775807 := (by assumption); simp only [ByteArray.size_extract] at hq_; simp only [decide_eq_true_eq] at *; omega)]; done)
                    rotate_left
                    ·simp only [Act.put, List.setIfInBounds_toArray, List.set_cons_zero, List.set_cons_succ, i64_w, i32_w]
                     rfl
                    refine pure_ (i := 4) (N := some 58) (v := ?_) (a' := ?_) #[true, true, true, true, true, false, false, false] rfl rfl (any_of HT_.out (by kernel_rfl)) (fun _ _ _ h => h) (Or.inl ⟨by rfl, ?_⟩) ?_ ?_
                    rotate_left
                    ·intro w'
                     go_simp
                     first | with_reducible rfl | (rw [if_neg (by have hq_ : (_ + _ : Nat) ≤ 9223372036854775807 := (by assumption); simp only [ByteArray.size_extract] at hq_; simp only [decide_eq_true_eq] at *; omega)]; done)
                    rotate_left
                    ·simp only [Act.put, List.setIfInBounds_toArray, List.set_cons_zero, List.set_cons_succ, i64_w, i32_w]
                     rfl
                    refine take_ (i := 5) (N := some 59) (v := ?_) (a' := ?_) #[true, true, true, true, true, true, false, false] rfl rfl (take_ofW HT_.out HW_.out (by kernel_rfl)) (fun _ _ _ h => h) (Or.inl ⟨by rfl, ?_⟩) hHeld ?_ ?_
                    rotate_left
                    ·rintro w' ⟨s0, s1, s2, s3, s4, s5, s6, s7, s8⟩
                     go_simp
                     first | with_reducible rfl | (rw [if_neg (by have hq_ : (_ + _ : Nat) ≤ 9223372036854775807 := (by assumption); simp only [ByteArray.size_extract] at hq_; simp only [decide_eq_true_eq] at *; omega)]; done)
                    rotate_left
                    ·simp only [Act.put, List.setIfInBounds_toArray, List.set_cons_zero, List.set_cons_succ, i64_w, i32_w]
                     rfl
                    refine one_ (i := 6) (N := some 60) #[true, true, true, true, true, true, true, false] rfl rfl (one_of HT_.out (by kernel_rfl)) (by decide) (fun K hK => ?_)
                    refine goes_ Try.func21 (by kernel_rfl) rfl #[.agg #[.slice (some ad373) l0_0.length c0_0, .slice A0_1 l0_1.length c0_1], .agg #[.int .i64 ((rd_T40 ((rd_T43 l0_0 x4_2).f3) x6_3).f0), .int .i64 ((rd_T40 ((rd_T43 l0_0 x4_2).f3) x6_3).f1)]] (by rfl) rfl rfl (by (try simp only [List.map_toArray, List.map_cons, List.map_nil]); first | done | rfl | (simp only [List.length_drop, List.length_take]; rfl)) ?_
                    with_reducible refine (heirloomref11_Object.calls kj34 _ _ l0_0 _ _ l0_1 ((rd_T40 ((rd_T43 l0_0 x4_2).f3) x6_3).f0) ((rd_T40 ((rd_T43 l0_0 x4_2).f3) x6_3).f1) t377 _ ?side1 ?side2 ?side3 ?side4 A51.out).mono ?_
                    (case side1 => repeat (first | exact (Kd.C_below HR0_0.out HB.out) | (with_reducible refine Kd.C_alloc ?_ _) | (with_reducible refine Kd.C_drewN ?_ _) | (with_reducible refine Kd.C_drew ?_)))
                    (case side2 => exact HC0_0.out)
                    (case side3 => repeat (first | exact (Kd.C_below HR0_1.out HB.out) | (with_reducible refine Kd.C_alloc ?_ _) | (with_reducible refine Kd.C_drewN ?_ _) | (with_reducible refine Kd.C_drew ?_)))
                    (case side4 => exact HC0_1.out)
                    rintro e w59 ⟨rfl, hb⟩
                    refine ⟨_, rfl, ?_⟩
                    have n0_ := Aside0.mk (Kd.R_below (by (with_reducible repeat (first | apply Kd.R_alloc | apply Kd.R_drewN | apply Kd.R_drew)); exact HO_373000.out) hb)
                    have n1_ := Aside0.mk (Kd.R_below (by (with_reducible repeat (first | apply Kd.R_alloc | apply Kd.R_drewN | apply Kd.R_drew)); exact HO_373001.out) hb)
                    have n2_ := Aside0.mk (Kd.R_below (by (with_reducible repeat (first | apply Kd.R_alloc | apply Kd.R_drewN | apply Kd.R_drew)); exact HO_373002.out) hb)
                    have n3_ := Aside0.mk (blk_below (g := gb359) (o := .cells #[.slice (some ad373) l0_0.length c0_0, .slice A0_1 l0_1.length c0_1] 25 (0, 0)) (by (with_reducible repeat first | refine kn ?_ _ | refine kd ?_ | refine ka ?_ _); exact BK359.out) hb)
                    have n4_ := Aside0.mk (blk_below (g := gb372) (o := .cells #[.slice Ao21 t363.length co21, .slice Ao24 t366.length co24, .slice Ao25 t369.length co25] 37 (0, 0)) (by (with_reducible repeat first | refine kn ?_ _ | refine kd ?_ | refine ka ?_ _); exact BK372.out) hb)
                    have n5_ := Aside0.mk (blk_below (g := gb374) (o := .cells #[.int .i64 ((rd_T43 l0_0 x4_2).f0), .int .i64 ((rd_T43 l0_0 x4_2).f1), .int .i64 ((rd_T43 l0_0 x4_2).f2), .slice (some ad376) ((rd_T43 l0_0 x4_2).f3).length c373_3, .int .i64 ((rd_T43 l0_0 x4_2).f4)] 43 (0, 0)) (by (with_reducible repeat first | refine kn ?_ _ | refine kd ?_ | refine ka ?_ _); exact BK374.out) hb)
                    have n6_ := Aside0.mk (below_step (by repeat (first | (with_reducible first | exact HB.out | apply zb | apply zn | apply zd | refine zs ?_ GE359.out | refine zs ?_ GE372.out | refine zs ?_ GE374.out) | exact HB.out)) hb)
                    clear HO_373000
                    clear HO_373001
                    clear HO_373002
                    clear BK359
                    clear BK372
                    clear BK374
                    clear HB
                    have HO_373000 := n0_
                    have HO_373001 := n1_
                    have HO_373002 := n2_
                    have BK359 := n3_
                    have BK372 := n4_
                    have BK374 := n5_
                    have HB := n6_
                    clear n0_ n1_ n2_ n3_ n4_ n5_ n6_
                    (try clear hb)
                    (try clear hb2)
                    (try clear hk)
                    (try clear hi)
                    refine hK.out _ _ ⟨(blk_cell BK359.out 0).trans rfl, (blk_cell BK359.out 1).trans rfl, (blk_cell BK374.out 0).trans rfl, (blk_cell BK374.out 1).trans rfl, (blk_cell BK374.out 2).trans rfl, (blk_cell BK374.out 3).trans rfl, (blk_cell BK374.out 4).trans rfl, ((HB.out.cell (World.block_lt_of_cell? w _ hw376_0)).trans hw376_0), ((HB.out.cell (World.block_lt_of_cell? w _ hw376_1)).trans hw376_1)⟩ (fun hHeld => ?_)
                    clear hK K
                    refine norm_ (a' := ?_) ?_ ?_
                    rotate_left
                    ·show Act.put _ (some 60) _ = _
                     simp only [Act.put, List.setIfInBounds_toArray, List.set_cons_zero, List.set_cons_succ, i64_w, i32_w]
                     rfl
                    refine pure_ (i := 7) (N := some 7) (v := ?_) (a' := ?_) #[true, true, true, true, true, true, true, true] rfl rfl (any_of HT_.out (by kernel_rfl)) (fun _ _ _ h => h) (Or.inl ⟨by rfl, ?_⟩) ?_ ?_
                    rotate_left
                    ·intro w'
                     go_simp
                     first | with_reducible rfl | (rw [if_neg (by have hq_ : (_ + _ : Nat) ≤ 9223372036854775807 := (by assumption); simp only [ByteArray.size_extract] at hq_; simp only [decide_eq_true_eq] at *; omega)]; done)
                    rotate_left
                    ·simp only [Act.put, List.setIfInBounds_toArray, List.set_cons_zero, List.set_cons_succ, i64_w, i32_w]
                     rfl
                    refine done_ (done_of HT_.out (by kernel_rfl)) ?_
                    have hnb60 := NB372_359.out
                    have hnc60 := NB359_372.out
                    have hnb61 := NB372_374.out
                    have hnc61 := NB374_372.out
                    have hcz62_0 : w59.cell? ⟨gb372, 0, none⟩ = some (.slice Ao21 t363.length co21) := (blk_cell BK372.out 0).trans rfl
                    have hcz62_1 : w59.cell? ⟨gb372, 1, none⟩ = some (.slice Ao24 t366.length co24) := (blk_cell BK372.out 1).trans rfl
                    have hcz62_2 : w59.cell? ⟨gb372, 2, none⟩ = some (.slice Ao25 t369.length co25) := (blk_cell BK372.out 2).trans rfl
                    have hfz62_0 := blk_frozen BK372.out 0
                    have hfz62_1 := blk_frozen BK372.out 1
                    have hfz62_2 := blk_frozen BK372.out 2
                    have p378 : 0 ≤ ((ji53) : Int) := of_decide_eq_true (by first | (with_reducible assumption) | assumption)
                    have q378 : (ji53) < (t363.length : Int) := of_decide_eq_true (by first | (with_reducible assumption) | assumption)
                    obtain ⟨ad378, e378, hx378_0⟩ := Kd.at_bool (Kd.R_reads' HO_373000.out).2.2 (ji53) p378 q378
                    (try rw [← Nbq56.out] at hx378_0)
                    cases e378
                    replace p378 := eq_true p378
                    replace q378 := eq_true q378
                    try go_wp2
                    go_roundg kj34
                    case measure => have := HJ1.out; have := HK2.out; have := HK3.out; have := HJ34.out; omega
                    case rel => exact ⟨(wrap64 (x6_3 + 1)), (by first | rfl | (simp; done) | (simp [*]; done)), H', ⟨by have := HJ1.out; have := HK2.out; have := HK3.out; have := HJ34.out; omega⟩, ⟨by (with_reducible repeat (first | apply Kd.R_alloc | apply Kd.R_drewN | apply Kd.R_drew)); exact HO_373000.out⟩, ⟨by (with_reducible repeat (first | apply Kd.R_alloc | apply Kd.R_drewN | apply Kd.R_drew)); exact HO_373001.out⟩, ⟨by (with_reducible repeat (first | apply Kd.R_alloc | apply Kd.R_drewN | apply Kd.R_drew)); exact HO_373002.out⟩, ⟨by (with_reducible repeat first | refine kn ?_ _ | refine kd ?_ | refine ka ?_ _); exact BK359.out⟩, ⟨by (with_reducible repeat first | refine kn ?_ _ | refine kd ?_ | refine ka ?_ _); exact BK372.out⟩, ⟨by (with_reducible repeat first | refine kn ?_ _ | refine kd ?_ | refine ka ?_ _); exact BK374.out⟩, ⟨by repeat (first | (with_reducible first | exact HB.out | apply zb | apply zn | apply zd | refine zs ?_ GE359.out | refine zs ?_ GE372.out | refine zs ?_ GE374.out) | exact HB.out)⟩⟩
                   ·replace c57 := Bool.eq_false_iff.mpr c57
                    subst c57
                    have H1 : ((heirloomlaw11_cleared.f kj34 t363 t366 t369 (wrap64 (x4_2 + 1)) x6_3).bind fun t379 => (if t379 = true then (heirloomlaw11_ReachClosed.l1 kj34 x4_2 (wrap64 (x6_3 + 1)) l0_0 l0_1 t363 t366 t369 ((rd_T43 l0_0 x4_2).f0) ((rd_T43 l0_0 x4_2).f1) ((rd_T43 l0_0 x4_2).f2) ((rd_T43 l0_0 x4_2).f3) ((rd_T43 l0_0 x4_2).f4)) else (if ((rd_T43 l0_0 x4_2).f1) > 0 then ((heirloomlaw11_cleared.f kj34 t363 t366 t369 (wrap64 (x4_2 + 1)) (wrap64 (x6_3 + 1))).bind fun t380 => (if t380 = true then ((heirloomref11_KeyOf.f kj34 ((rd_T43 l0_0 x4_2).f0) ((rd_T43 l0_0 x4_2).f1) ((rd_T43 l0_0 x4_2).f2) ((rd_T43 l0_0 x4_2).f3) ((rd_T43 l0_0 x4_2).f4) (wrap64 (x6_3 + 1))).bind fun t381 => (if t381 = x6_3 then (heirloomlaw11_ReachClosed.l1 kj34 x4_2 (wrap64 (x6_3 + 1)) l0_0 l0_1 t363 t366 t369 ((rd_T43 l0_0 x4_2).f0) ((rd_T43 l0_0 x4_2).f1) ((rd_T43 l0_0 x4_2).f2) ((rd_T43 l0_0 x4_2).f3) ((rd_T43 l0_0 x4_2).f4)) else (some false))) else (some false))) else (some false)))) = some r := by rw [if_neg (show ¬ (false = true) by decide)] at H; exact H
                    clear H
                    have H := H1
                    clear H1
                    replace H := Option.bind_eq_some_iff.mp H
                    obtain ⟨t379, A630, H⟩ := H
                    replace H : (if t379 = true then (heirloomlaw11_ReachClosed.l1 kj34 x4_2 (wrap64 (x6_3 + 1)) l0_0 l0_1 t363 t366 t369 ((rd_T43 l0_0 x4_2).f0) ((rd_T43 l0_0 x4_2).f1) ((rd_T43 l0_0 x4_2).f2) ((rd_T43 l0_0 x4_2).f3) ((rd_T43 l0_0 x4_2).f4)) else (if ((rd_T43 l0_0 x4_2).f1) > 0 then ((heirloomlaw11_cleared.f kj34 t363 t366 t369 (wrap64 (x4_2 + 1)) (wrap64 (x6_3 + 1))).bind fun t380 => (if t380 = true then ((heirloomref11_KeyOf.f kj34 ((rd_T43 l0_0 x4_2).f0) ((rd_T43 l0_0 x4_2).f1) ((rd_T43 l0_0 x4_2).f2) ((rd_T43 l0_0 x4_2).f3) ((rd_T43 l0_0 x4_2).f4) (wrap64 (x6_3 + 1))).bind fun t381 => (if t381 = x6_3 then (heirloomlaw11_ReachClosed.l1 kj34 x4_2 (wrap64 (x6_3 + 1)) l0_0 l0_1 t363 t366 t369 ((rd_T43 l0_0 x4_2).f0) ((rd_T43 l0_0 x4_2).f1) ((rd_T43 l0_0 x4_2).f2) ((rd_T43 l0_0 x4_2).f3) ((rd_T43 l0_0 x4_2).f4)) else (some false))) else (some false))) else (some false))) = some r := H
                    have A63 := Aside0.mk A630
                    clear A630
                    by_cases c64 : t379 = true
                    ·subst c64
                     have H1 : (heirloomlaw11_ReachClosed.l1 kj34 x4_2 (wrap64 (x6_3 + 1)) l0_0 l0_1 t363 t366 t369 ((rd_T43 l0_0 x4_2).f0) ((rd_T43 l0_0 x4_2).f1) ((rd_T43 l0_0 x4_2).f2) ((rd_T43 l0_0 x4_2).f3) ((rd_T43 l0_0 x4_2).f4)) = some r := by rw [if_pos rfl] at H; exact H
                     clear H
                     have H := H1
                     clear H1
                     have H' := Aside0.mk H
                     clear H
                     try go_wp2
                     have n0_ := Aside0.mk (Kd.R_drew HO_373000.out)
                     have n1_ := Aside0.mk (Kd.R_drew HO_373001.out)
                     have n2_ := Aside0.mk (Kd.R_drew HO_373002.out)
                     have n3_ := Aside0.mk (blk_drew BK359.out)
                     have n4_ := Aside0.mk (blk_drew BK372.out)
                     have n5_ := Aside0.mk (blk_drew BK374.out)
                     have n6_ := Aside0.mk (below_drew1 HB.out)
                     clear HO_373000
                     clear HO_373001
                     clear HO_373002
                     clear BK359
                     clear BK372
                     clear BK374
                     clear HB
                     have HO_373000 := n0_
                     have HO_373001 := n1_
                     have HO_373002 := n2_
                     have BK359 := n3_
                     have BK372 := n4_
                     have BK374 := n5_
                     have HB := n6_
                     clear n0_ n1_ n2_ n3_ n4_ n5_ n6_
                     have p376 : 0 ≤ (x6_3 : Int) := of_decide_eq_true (by first | (with_reducible assumption) | assumption)
                     have q376 : x6_3 < (((rd_T43 l0_0 x4_2).f3).length : Int) := of_decide_eq_true (by first | (with_reducible assumption) | assumption)
                     obtain ⟨ad376, e376, hx376_0, hx376_1⟩ := at_T40 HR373_3.out x6_3 p376 q376
                     have hw376_1 := hx376_1
                     have hw376_0 := hx376_0
                     cases e376
                     replace hx376_0 := (HB.out.cell (World.block_lt_of_cell? w _ hx376_0)).trans hx376_0
                     replace hx376_1 := (HB.out.cell (World.block_lt_of_cell? w _ hx376_1)).trans hx376_1
                     replace p376 := eq_true p376
                     replace q376 := eq_true q376
                     refine start_ (n := 8) (S := fun w' => w'.cell? ⟨gb359, 0, none⟩ = some (.slice (some ad373) l0_0.length c0_0) ∧ w'.cell? ⟨gb359, 1, none⟩ = some (.slice A0_1 l0_1.length c0_1) ∧ w'.cell? ⟨gb374, 0, none⟩ = some (.int .i64 ((rd_T43 l0_0 x4_2).f0)) ∧ w'.cell? ⟨gb374, 1, none⟩ = some (.int .i64 ((rd_T43 l0_0 x4_2).f1)) ∧ w'.cell? ⟨gb374, 2, none⟩ = some (.int .i64 ((rd_T43 l0_0 x4_2).f2)) ∧ w'.cell? ⟨gb374, 3, none⟩ = some (.slice (some ad376) ((rd_T43 l0_0 x4_2).f3).length c373_3) ∧ w'.cell? ⟨gb374, 4, none⟩ = some (.int .i64 ((rd_T43 l0_0 x4_2).f4)) ∧ w'.cell? (ad376.add ((x6_3).toNat * 2)) = some (.int .i64 ((rd_T40 ((rd_T43 l0_0 x4_2).f3) x6_3).f0)) ∧ w'.cell? ⟨(ad376.add ((x6_3).toNat * 2)).block, (ad376.add ((x6_3).toNat * 2)).off + 1, none⟩ = some (.int .i64 ((rd_T40 ((rd_T43 l0_0 x4_2).f3) x6_3).f1))) (ds := []) #[false, false, false, false, false, false, false, false] (by kernel_rfl) rfl rfl ⟨(blk_cell BK359.out 0).trans rfl, (blk_cell BK359.out 1).trans rfl, (blk_cell BK374.out 0).trans rfl, (blk_cell BK374.out 1).trans rfl, (blk_cell BK374.out 2).trans rfl, (blk_cell BK374.out 3).trans rfl, (blk_cell BK374.out 4).trans rfl, ((HB.out.cell (World.block_lt_of_cell? w _ hw376_0)).trans hw376_0), ((HB.out.cell (World.block_lt_of_cell? w _ hw376_1)).trans hw376_1)⟩ (fun hHeld => ?_); refine with_tabW heirloomlaw11_ReachClosed.tab13 heirloomlaw11_ReachClosed.bits13 (fun HT_ HW_ => ?_)
                     generalize wc.drew = w65 at HO_373000 HO_373001 HO_373002 BK359 BK372 BK374 HB hx376_0 hx376_1 hHeld ⊢
                     refine pure_ (i := 1) (N := some 55) (v := ?_) (a' := ?_) #[false, true, false, false, false, false, false, false] rfl rfl (any_of HT_.out (by kernel_rfl)) (fun _ _ _ h => h) (Or.inl ⟨by rfl, ?_⟩) ?_ ?_
                     rotate_left
                     ·intro w'
                      go_simp
                      first | with_reducible rfl | (rw [if_neg (by have hq_ : (_ + _ : Nat) ≤ 9223372036854775807 := (by assumption); simp only [ByteArray.size_extract] at hq_; simp only [decide_eq_true_eq] at *; omega)]; done)
                     rotate_left
                     ·simp only [Act.put, List.setIfInBounds_toArray, List.set_cons_zero, List.set_cons_succ, i64_w, i32_w]
                      rfl
                     refine pure_ (i := 3) (N := some 57) (v := ?_) (a' := ?_) #[false, true, false, true, false, false, false, false] rfl rfl (any_of HT_.out (by kernel_rfl)) (fun _ _ _ h => h) (Or.inl ⟨by rfl, ?_⟩) ?_ ?_
                     rotate_left
                     ·intro w'
                      go_simp
                      first | with_reducible rfl | (rw [if_neg (by have hq_ : (_ + _ : Nat) ≤ 9223372036854775807 := (by assumption); simp only [ByteArray.size_extract] at hq_; simp only [decide_eq_true_eq] at *; omega)]; done)
                     rotate_left
                     ·simp only [Act.put, List.setIfInBounds_toArray, List.set_cons_zero, List.set_cons_succ, i64_w, i32_w]
                      rfl
                     refine take_ (i := 0) (N := some 54) (v := ?_) (a' := ?_) #[true, true, false, true, false, false, false, false] rfl rfl (take_ofW HT_.out HW_.out (by kernel_rfl)) (fun _ _ _ h => h) (Or.inl ⟨by rfl, ?_⟩) hHeld ?_ ?_
                     rotate_left
                     ·rintro w' ⟨s0, s1, s2, s3, s4, s5, s6, s7, s8⟩
                      go_simp
                      first | with_reducible rfl | (rw [if_neg (by have hq_ : (_ + _ : Nat) ≤ 9223372036854775807 := (by assumption); simp only [ByteArray.size_extract] at hq_; simp only [decide_eq_true_eq] at *; omega)]; done)
                     rotate_left
                     ·simp only [Act.put, List.setIfInBounds_toArray, List.set_cons_zero, List.set_cons_succ, i64_w, i32_w]
                      rfl
                     refine take_ (i := 2) (N := some 56) (v := ?_) (a' := ?_) #[true, true, true, true, false, false, false, false] rfl rfl (take_ofW HT_.out HW_.out (by kernel_rfl)) (fun _ _ _ h => h) (Or.inl ⟨by rfl, ?_⟩) hHeld ?_ ?_
                     rotate_left
                     ·rintro w' ⟨s0, s1, s2, s3, s4, s5, s6, s7, s8⟩
                      go_simp
                      first | with_reducible rfl | (rw [if_neg (by have hq_ : (_ + _ : Nat) ≤ 9223372036854775807 := (by assumption); simp only [ByteArray.size_extract] at hq_; simp only [decide_eq_true_eq] at *; omega)]; done)
                     rotate_left
                     ·simp only [Act.put, List.setIfInBounds_toArray, List.set_cons_zero, List.set_cons_succ, i64_w, i32_w]
                      rfl
                     refine pure_ (i := 4) (N := some 58) (v := ?_) (a' := ?_) #[true, true, true, true, true, false, false, false] rfl rfl (any_of HT_.out (by kernel_rfl)) (fun _ _ _ h => h) (Or.inl ⟨by rfl, ?_⟩) ?_ ?_
                     rotate_left
                     ·intro w'
                      go_simp
                      first | with_reducible rfl | (rw [if_neg (by have hq_ : (_ + _ : Nat) ≤ 9223372036854775807 := (by assumption); simp only [ByteArray.size_extract] at hq_; simp only [decide_eq_true_eq] at *; omega)]; done)
                     rotate_left
                     ·simp only [Act.put, List.setIfInBounds_toArray, List.set_cons_zero, List.set_cons_succ, i64_w, i32_w]
                      rfl
                     refine take_ (i := 5) (N := some 59) (v := ?_) (a' := ?_) #[true, true, true, true, true, true, false, false] rfl rfl (take_ofW HT_.out HW_.out (by kernel_rfl)) (fun _ _ _ h => h) (Or.inl ⟨by rfl, ?_⟩) hHeld ?_ ?_
                     rotate_left
                     ·rintro w' ⟨s0, s1, s2, s3, s4, s5, s6, s7, s8⟩
                      go_simp
                      first | with_reducible rfl | (rw [if_neg (by have hq_ : (_ + _ : Nat) ≤ 9223372036854775807 := (by assumption); simp only [ByteArray.size_extract] at hq_; simp only [decide_eq_true_eq] at *; omega)]; done)
                     rotate_left
                     ·simp only [Act.put, List.setIfInBounds_toArray, List.set_cons_zero, List.set_cons_succ, i64_w, i32_w]
                      rfl
                     refine one_ (i := 6) (N := some 60) #[true, true, true, true, true, true, true, false] rfl rfl (one_of HT_.out (by kernel_rfl)) (by decide) (fun K hK => ?_)
                     refine goes_ Try.func21 (by kernel_rfl) rfl #[.agg #[.slice (some ad373) l0_0.length c0_0, .slice A0_1 l0_1.length c0_1], .agg #[.int .i64 ((rd_T40 ((rd_T43 l0_0 x4_2).f3) x6_3).f0), .int .i64 ((rd_T40 ((rd_T43 l0_0 x4_2).f3) x6_3).f1)]] (by rfl) rfl rfl (by (try simp only [List.map_toArray, List.map_cons, List.map_nil]); first | done | rfl | (simp only [List.length_drop, List.length_take]; rfl)) ?_
                     with_reducible refine (heirloomref11_Object.calls kj34 _ _ l0_0 _ _ l0_1 ((rd_T40 ((rd_T43 l0_0 x4_2).f3) x6_3).f0) ((rd_T40 ((rd_T43 l0_0 x4_2).f3) x6_3).f1) t377 _ ?side1 ?side2 ?side3 ?side4 A51.out).mono ?_
                     (case side1 => repeat (first | exact (Kd.C_below HR0_0.out HB.out) | (with_reducible refine Kd.C_alloc ?_ _) | (with_reducible refine Kd.C_drewN ?_ _) | (with_reducible refine Kd.C_drew ?_)))
                     (case side2 => exact HC0_0.out)
                     (case side3 => repeat (first | exact (Kd.C_below HR0_1.out HB.out) | (with_reducible refine Kd.C_alloc ?_ _) | (with_reducible refine Kd.C_drewN ?_ _) | (with_reducible refine Kd.C_drew ?_)))
                     (case side4 => exact HC0_1.out)
                     rintro e w66 ⟨rfl, hb⟩
                     refine ⟨_, rfl, ?_⟩
                     have n0_ := Aside0.mk (Kd.R_below (by (with_reducible repeat (first | apply Kd.R_alloc | apply Kd.R_drewN | apply Kd.R_drew)); exact HO_373000.out) hb)
                     have n1_ := Aside0.mk (Kd.R_below (by (with_reducible repeat (first | apply Kd.R_alloc | apply Kd.R_drewN | apply Kd.R_drew)); exact HO_373001.out) hb)
                     have n2_ := Aside0.mk (Kd.R_below (by (with_reducible repeat (first | apply Kd.R_alloc | apply Kd.R_drewN | apply Kd.R_drew)); exact HO_373002.out) hb)
                     have n3_ := Aside0.mk (blk_below (g := gb359) (o := .cells #[.slice (some ad373) l0_0.length c0_0, .slice A0_1 l0_1.length c0_1] 25 (0, 0)) (by (with_reducible repeat first | refine kn ?_ _ | refine kd ?_ | refine ka ?_ _); exact BK359.out) hb)
                     have n4_ := Aside0.mk (blk_below (g := gb372) (o := .cells #[.slice Ao21 t363.length co21, .slice Ao24 t366.length co24, .slice Ao25 t369.length co25] 37 (0, 0)) (by (with_reducible repeat first | refine kn ?_ _ | refine kd ?_ | refine ka ?_ _); exact BK372.out) hb)
                     have n5_ := Aside0.mk (blk_below (g := gb374) (o := .cells #[.int .i64 ((rd_T43 l0_0 x4_2).f0), .int .i64 ((rd_T43 l0_0 x4_2).f1), .int .i64 ((rd_T43 l0_0 x4_2).f2), .slice (some ad376) ((rd_T43 l0_0 x4_2).f3).length c373_3, .int .i64 ((rd_T43 l0_0 x4_2).f4)] 43 (0, 0)) (by (with_reducible repeat first | refine kn ?_ _ | refine kd ?_ | refine ka ?_ _); exact BK374.out) hb)
                     have n6_ := Aside0.mk (below_step (by repeat (first | (with_reducible first | exact HB.out | apply zb | apply zn | apply zd | refine zs ?_ GE359.out | refine zs ?_ GE372.out | refine zs ?_ GE374.out) | exact HB.out)) hb)
                     clear HO_373000
                     clear HO_373001
                     clear HO_373002
                     clear BK359
                     clear BK372
                     clear BK374
                     clear HB
                     have HO_373000 := n0_
                     have HO_373001 := n1_
                     have HO_373002 := n2_
                     have BK359 := n3_
                     have BK372 := n4_
                     have BK374 := n5_
                     have HB := n6_
                     clear n0_ n1_ n2_ n3_ n4_ n5_ n6_
                     (try clear hb)
                     (try clear hb2)
                     (try clear hk)
                     (try clear hi)
                     refine hK.out _ _ ⟨(blk_cell BK359.out 0).trans rfl, (blk_cell BK359.out 1).trans rfl, (blk_cell BK374.out 0).trans rfl, (blk_cell BK374.out 1).trans rfl, (blk_cell BK374.out 2).trans rfl, (blk_cell BK374.out 3).trans rfl, (blk_cell BK374.out 4).trans rfl, ((HB.out.cell (World.block_lt_of_cell? w _ hw376_0)).trans hw376_0), ((HB.out.cell (World.block_lt_of_cell? w _ hw376_1)).trans hw376_1)⟩ (fun hHeld => ?_)
                     clear hK K
                     refine norm_ (a' := ?_) ?_ ?_
                     rotate_left
                     ·show Act.put _ (some 60) _ = _
                      simp only [Act.put, List.setIfInBounds_toArray, List.set_cons_zero, List.set_cons_succ, i64_w, i32_w]
                      rfl
                     refine pure_ (i := 7) (N := some 7) (v := ?_) (a' := ?_) #[true, true, true, true, true, true, true, true] rfl rfl (any_of HT_.out (by kernel_rfl)) (fun _ _ _ h => h) (Or.inl ⟨by rfl, ?_⟩) ?_ ?_
                     rotate_left
                     ·intro w'
                      go_simp
                      first | with_reducible rfl | (rw [if_neg (by have hq_ : (_ + _ : Nat) ≤ 9223372036854775807 := (by assumption); simp only [ByteArray.size_extract] at hq_; simp only [decide_eq_true_eq] at *; omega)]; done)
                     rotate_left
                     ·simp only [Act.put, List.setIfInBounds_toArray, List.set_cons_zero, List.set_cons_succ, i64_w, i32_w]
                      rfl
                     refine done_ (done_of HT_.out (by kernel_rfl)) ?_
                     have hnb67 := NB372_359.out
                     have hnc67 := NB359_372.out
                     have hnb68 := NB372_374.out
                     have hnc68 := NB374_372.out
                     have hcz69_0 : w66.cell? ⟨gb372, 0, none⟩ = some (.slice Ao21 t363.length co21) := (blk_cell BK372.out 0).trans rfl
                     have hcz69_1 : w66.cell? ⟨gb372, 1, none⟩ = some (.slice Ao24 t366.length co24) := (blk_cell BK372.out 1).trans rfl
                     have hcz69_2 : w66.cell? ⟨gb372, 2, none⟩ = some (.slice Ao25 t369.length co25) := (blk_cell BK372.out 2).trans rfl
                     have hfz69_0 := blk_frozen BK372.out 0
                     have hfz69_1 := blk_frozen BK372.out 1
                     have hfz69_2 := blk_frozen BK372.out 2
                     have p378 : 0 ≤ ((ji53) : Int) := of_decide_eq_true (by first | (with_reducible assumption) | assumption)
                     have q378 : (ji53) < (t363.length : Int) := of_decide_eq_true (by first | (with_reducible assumption) | assumption)
                     obtain ⟨ad378, e378, hx378_0⟩ := Kd.at_bool (Kd.R_reads' HO_373000.out).2.2 (ji53) p378 q378
                     (try rw [← Nbq56.out] at hx378_0)
                     cases e378
                     replace p378 := eq_true p378
                     replace q378 := eq_true q378
                     try go_wp2_with (first | (go_at_call 22; (with_reducible refine (heirloomlaw11_cleared.calls kj34 _ _ t363 _ _ t366 _ _ t369 (wrap64 (x4_2 + 1)) x6_3 true _ ?side1 ?side2 ?side3 ?side4 ?side5 ?side6 A63.out).mono ?_); (case side1 => repeat (first | exact (Kd.R_reads' HO_373000.out).2.2 | (with_reducible refine Kd.C_alloc ?_ _) | (with_reducible refine Kd.C_drewN ?_ _) | (with_reducible refine Kd.C_drew ?_))); (case side2 => exact (Kd.R_reads' HO_373000.out).2.1); (case side3 => repeat (first | exact (Kd.R_reads' HO_373001.out).2.2 | (with_reducible refine Kd.C_alloc ?_ _) | (with_reducible refine Kd.C_drewN ?_ _) | (with_reducible refine Kd.C_drew ?_))); (case side4 => exact (Kd.R_reads' HO_373001.out).2.1); (case side5 => repeat (first | exact (Kd.R_reads' HO_373002.out).2.2 | (with_reducible refine Kd.C_alloc ?_ _) | (with_reducible refine Kd.C_drewN ?_ _) | (with_reducible refine Kd.C_drew ?_))); (case side6 => exact (Kd.R_reads' HO_373002.out).2.1); rintro e w70 ⟨rfl, hb⟩; have n0_ := Aside0.mk (Kd.R_below (by (with_reducible repeat (first | apply Kd.R_alloc | apply Kd.R_drewN | apply Kd.R_drew)); exact HO_373000.out) hb); have n1_ := Aside0.mk (Kd.R_below (by (with_reducible repeat (first | apply Kd.R_alloc | apply Kd.R_drewN | apply Kd.R_drew)); exact HO_373001.out) hb); have n2_ := Aside0.mk (Kd.R_below (by (with_reducible repeat (first | apply Kd.R_alloc | apply Kd.R_drewN | apply Kd.R_drew)); exact HO_373002.out) hb); have n3_ := Aside0.mk (blk_below (g := gb359) (o := .cells #[.slice (some ad373) l0_0.length c0_0, .slice A0_1 l0_1.length c0_1] 25 (0, 0)) (by (with_reducible repeat first | refine kn ?_ _ | refine kd ?_ | refine ka ?_ _); exact BK359.out) hb); have n4_ := Aside0.mk (blk_below (g := gb372) (o := .cells #[.slice (some ad378) t363.length co21, .slice Ao24 t366.length co24, .slice Ao25 t369.length co25] 37 (0, 0)) (by (with_reducible repeat first | refine kn ?_ _ | refine kd ?_ | refine ka ?_ _); exact BK372.out) hb); have n5_ := Aside0.mk (blk_below (g := gb374) (o := .cells #[.int .i64 ((rd_T43 l0_0 x4_2).f0), .int .i64 ((rd_T43 l0_0 x4_2).f1), .int .i64 ((rd_T43 l0_0 x4_2).f2), .slice (some ad376) ((rd_T43 l0_0 x4_2).f3).length c373_3, .int .i64 ((rd_T43 l0_0 x4_2).f4)] 43 (0, 0)) (by (with_reducible repeat first | refine kn ?_ _ | refine kd ?_ | refine ka ?_ _); exact BK374.out) hb); have n6_ := Aside0.mk (below_step (by repeat (first | (with_reducible first | exact HB.out | apply zb | apply zn | apply zd | refine zs ?_ GE359.out | refine zs ?_ GE372.out | refine zs ?_ GE374.out) | exact HB.out)) hb); clear HO_373000; clear HO_373001; clear HO_373002; clear BK359; clear BK372; clear BK374; clear HB; have HO_373000 := n0_; have HO_373001 := n1_; have HO_373002 := n2_; have BK359 := n3_; have BK372 := n4_; have BK374 := n5_; have HB := n6_; clear n0_ n1_ n2_ n3_ n4_ n5_ n6_; (try clear hb)))
                     go_roundg kj34
                     case measure => have := HJ1.out; have := HK2.out; have := HK3.out; have := HJ34.out; omega
                     case rel => exact ⟨(wrap64 (x6_3 + 1)), (by first | rfl | (simp; done) | (simp [*]; done)), H', ⟨by have := HJ1.out; have := HK2.out; have := HK3.out; have := HJ34.out; omega⟩, ⟨by (with_reducible repeat (first | apply Kd.R_alloc | apply Kd.R_drewN | apply Kd.R_drew)); exact HO_373000.out⟩, ⟨by (with_reducible repeat (first | apply Kd.R_alloc | apply Kd.R_drewN | apply Kd.R_drew)); exact HO_373001.out⟩, ⟨by (with_reducible repeat (first | apply Kd.R_alloc | apply Kd.R_drewN | apply Kd.R_drew)); exact HO_373002.out⟩, ⟨by (with_reducible repeat first | refine kn ?_ _ | refine kd ?_ | refine ka ?_ _); exact BK359.out⟩, ⟨by (with_reducible repeat first | refine kn ?_ _ | refine kd ?_ | refine ka ?_ _); exact BK372.out⟩, ⟨by (with_reducible repeat first | refine kn ?_ _ | refine kd ?_ | refine ka ?_ _); exact BK374.out⟩, ⟨by repeat (first | (with_reducible first | exact HB.out | apply zb | apply zn | apply zd | refine zs ?_ GE359.out | refine zs ?_ GE372.out | refine zs ?_ GE374.out) | exact HB.out)⟩⟩
                    ·replace c64 := Bool.eq_false_iff.mpr c64
                     subst c64
                     have H1 : (if ((rd_T43 l0_0 x4_2).f1) > 0 then ((heirloomlaw11_cleared.f kj34 t363 t366 t369 (wrap64 (x4_2 + 1)) (wrap64 (x6_3 + 1))).bind fun t380 => (if t380 = true then ((heirloomref11_KeyOf.f kj34 ((rd_T43 l0_0 x4_2).f0) ((rd_T43 l0_0 x4_2).f1) ((rd_T43 l0_0 x4_2).f2) ((rd_T43 l0_0 x4_2).f3) ((rd_T43 l0_0 x4_2).f4) (wrap64 (x6_3 + 1))).bind fun t381 => (if t381 = x6_3 then (heirloomlaw11_ReachClosed.l1 kj34 x4_2 (wrap64 (x6_3 + 1)) l0_0 l0_1 t363 t366 t369 ((rd_T43 l0_0 x4_2).f0) ((rd_T43 l0_0 x4_2).f1) ((rd_T43 l0_0 x4_2).f2) ((rd_T43 l0_0 x4_2).f3) ((rd_T43 l0_0 x4_2).f4)) else (some false))) else (some false))) else (some false)) = some r := by rw [if_neg (show ¬ (false = true) by decide)] at H; exact H
                     clear H
                     have H := H1
                     clear H1
                     by_cases c71 : ((rd_T43 l0_0 x4_2).f1) > 0
                     ·rw [if_pos c71] at H
                      have c71b0 : decide (0 < ((rd_T43 l0_0 x4_2).f1)) = true := decide_eq_true c71
                      clear c71
                      replace H := Option.bind_eq_some_iff.mp H
                      obtain ⟨t380, A720, H⟩ := H
                      replace H : (if t380 = true then ((heirloomref11_KeyOf.f kj34 ((rd_T43 l0_0 x4_2).f0) ((rd_T43 l0_0 x4_2).f1) ((rd_T43 l0_0 x4_2).f2) ((rd_T43 l0_0 x4_2).f3) ((rd_T43 l0_0 x4_2).f4) (wrap64 (x6_3 + 1))).bind fun t381 => (if t381 = x6_3 then (heirloomlaw11_ReachClosed.l1 kj34 x4_2 (wrap64 (x6_3 + 1)) l0_0 l0_1 t363 t366 t369 ((rd_T43 l0_0 x4_2).f0) ((rd_T43 l0_0 x4_2).f1) ((rd_T43 l0_0 x4_2).f2) ((rd_T43 l0_0 x4_2).f3) ((rd_T43 l0_0 x4_2).f4)) else (some false))) else (some false)) = some r := H
                      have A72 := Aside0.mk A720
                      clear A720
                      by_cases c73 : t380 = true
                      ·subst c73
                       have H1 : ((heirloomref11_KeyOf.f kj34 ((rd_T43 l0_0 x4_2).f0) ((rd_T43 l0_0 x4_2).f1) ((rd_T43 l0_0 x4_2).f2) ((rd_T43 l0_0 x4_2).f3) ((rd_T43 l0_0 x4_2).f4) (wrap64 (x6_3 + 1))).bind fun t381 => (if t381 = x6_3 then (heirloomlaw11_ReachClosed.l1 kj34 x4_2 (wrap64 (x6_3 + 1)) l0_0 l0_1 t363 t366 t369 ((rd_T43 l0_0 x4_2).f0) ((rd_T43 l0_0 x4_2).f1) ((rd_T43 l0_0 x4_2).f2) ((rd_T43 l0_0 x4_2).f3) ((rd_T43 l0_0 x4_2).f4)) else (some false))) = some r := by rw [if_pos rfl] at H; exact H
                       clear H
                       have H := H1
                       clear H1
                       replace H := Option.bind_eq_some_iff.mp H
                       obtain ⟨t381, A740, H⟩ := H
                       replace H : (if t381 = x6_3 then (heirloomlaw11_ReachClosed.l1 kj34 x4_2 (wrap64 (x6_3 + 1)) l0_0 l0_1 t363 t366 t369 ((rd_T43 l0_0 x4_2).f0) ((rd_T43 l0_0 x4_2).f1) ((rd_T43 l0_0 x4_2).f2) ((rd_T43 l0_0 x4_2).f3) ((rd_T43 l0_0 x4_2).f4)) else (some false)) = some r := H
                       have A74 := Aside0.mk A740
                       clear A740
                       by_cases c75 : t381 = x6_3
                       ·rw [if_pos c75] at H
                        have c75b0 : (t381 == x6_3) = true := beq_iff_eq.mpr c75
                        have c75b1 : (t381 != x6_3) = false := bne_eq_false_iff_eq.mpr c75
                        clear c75
                        have H' := Aside0.mk H
                        clear H
                        try go_wp2
                        have n0_ := Aside0.mk (Kd.R_drew HO_373000.out)
                        have n1_ := Aside0.mk (Kd.R_drew HO_373001.out)
                        have n2_ := Aside0.mk (Kd.R_drew HO_373002.out)
                        have n3_ := Aside0.mk (blk_drew BK359.out)
                        have n4_ := Aside0.mk (blk_drew BK372.out)
                        have n5_ := Aside0.mk (blk_drew BK374.out)
                        have n6_ := Aside0.mk (below_drew1 HB.out)
                        clear HO_373000
                        clear HO_373001
                        clear HO_373002
                        clear BK359
                        clear BK372
                        clear BK374
                        clear HB
                        have HO_373000 := n0_
                        have HO_373001 := n1_
                        have HO_373002 := n2_
                        have BK359 := n3_
                        have BK372 := n4_
                        have BK374 := n5_
                        have HB := n6_
                        clear n0_ n1_ n2_ n3_ n4_ n5_ n6_
                        have p376 : 0 ≤ (x6_3 : Int) := of_decide_eq_true (by first | (with_reducible assumption) | assumption)
                        have q376 : x6_3 < (((rd_T43 l0_0 x4_2).f3).length : Int) := of_decide_eq_true (by first | (with_reducible assumption) | assumption)
                        obtain ⟨ad376, e376, hx376_0, hx376_1⟩ := at_T40 HR373_3.out x6_3 p376 q376
                        have hw376_1 := hx376_1
                        have hw376_0 := hx376_0
                        cases e376
                        replace hx376_0 := (HB.out.cell (World.block_lt_of_cell? w _ hx376_0)).trans hx376_0
                        replace hx376_1 := (HB.out.cell (World.block_lt_of_cell? w _ hx376_1)).trans hx376_1
                        replace p376 := eq_true p376
                        replace q376 := eq_true q376
                        refine start_ (n := 8) (S := fun w' => w'.cell? ⟨gb359, 0, none⟩ = some (.slice (some ad373) l0_0.length c0_0) ∧ w'.cell? ⟨gb359, 1, none⟩ = some (.slice A0_1 l0_1.length c0_1) ∧ w'.cell? ⟨gb374, 0, none⟩ = some (.int .i64 ((rd_T43 l0_0 x4_2).f0)) ∧ w'.cell? ⟨gb374, 1, none⟩ = some (.int .i64 ((rd_T43 l0_0 x4_2).f1)) ∧ w'.cell? ⟨gb374, 2, none⟩ = some (.int .i64 ((rd_T43 l0_0 x4_2).f2)) ∧ w'.cell? ⟨gb374, 3, none⟩ = some (.slice (some ad376) ((rd_T43 l0_0 x4_2).f3).length c373_3) ∧ w'.cell? ⟨gb374, 4, none⟩ = some (.int .i64 ((rd_T43 l0_0 x4_2).f4)) ∧ w'.cell? (ad376.add ((x6_3).toNat * 2)) = some (.int .i64 ((rd_T40 ((rd_T43 l0_0 x4_2).f3) x6_3).f0)) ∧ w'.cell? ⟨(ad376.add ((x6_3).toNat * 2)).block, (ad376.add ((x6_3).toNat * 2)).off + 1, none⟩ = some (.int .i64 ((rd_T40 ((rd_T43 l0_0 x4_2).f3) x6_3).f1))) (ds := []) #[false, false, false, false, false, false, false, false] (by kernel_rfl) rfl rfl ⟨(blk_cell BK359.out 0).trans rfl, (blk_cell BK359.out 1).trans rfl, (blk_cell BK374.out 0).trans rfl, (blk_cell BK374.out 1).trans rfl, (blk_cell BK374.out 2).trans rfl, (blk_cell BK374.out 3).trans rfl, (blk_cell BK374.out 4).trans rfl, ((HB.out.cell (World.block_lt_of_cell? w _ hw376_0)).trans hw376_0), ((HB.out.cell (World.block_lt_of_cell? w _ hw376_1)).trans hw376_1)⟩ (fun hHeld => ?_); refine with_tabW heirloomlaw11_ReachClosed.tab13 heirloomlaw11_ReachClosed.bits13 (fun HT_ HW_ => ?_)
                        generalize wc.drew = w76 at HO_373000 HO_373001 HO_373002 BK359 BK372 BK374 HB hx376_0 hx376_1 hHeld ⊢
                        refine pure_ (i := 1) (N := some 55) (v := ?_) (a' := ?_) #[false, true, false, false, false, false, false, false] rfl rfl (any_of HT_.out (by kernel_rfl)) (fun _ _ _ h => h) (Or.inl ⟨by rfl, ?_⟩) ?_ ?_
                        rotate_left
                        ·intro w'
                         go_simp
                         first | with_reducible rfl | (rw [if_neg (by have hq_ : (_ + _ : Nat) ≤ 9223372036854775807 := (by assumption); simp only [ByteArray.size_extract] at hq_; simp only [decide_eq_true_eq] at *; omega)]; done)
                        rotate_left
                        ·simp only [Act.put, List.setIfInBounds_toArray, List.set_cons_zero, List.set_cons_succ, i64_w, i32_w]
                         rfl
                        refine pure_ (i := 3) (N := some 57) (v := ?_) (a' := ?_) #[false, true, false, true, false, false, false, false] rfl rfl (any_of HT_.out (by kernel_rfl)) (fun _ _ _ h => h) (Or.inl ⟨by rfl, ?_⟩) ?_ ?_
                        rotate_left
                        ·intro w'
                         go_simp
                         first | with_reducible rfl | (rw [if_neg (by have hq_ : (_ + _ : Nat) ≤ 9223372036854775807 := (by assumption); simp only [ByteArray.size_extract] at hq_; simp only [decide_eq_true_eq] at *; omega)]; done)
                        rotate_left
                        ·simp only [Act.put, List.setIfInBounds_toArray, List.set_cons_zero, List.set_cons_succ, i64_w, i32_w]
                         rfl
                        refine take_ (i := 0) (N := some 54) (v := ?_) (a' := ?_) #[true, true, false, true, false, false, false, false] rfl rfl (take_ofW HT_.out HW_.out (by kernel_rfl)) (fun _ _ _ h => h) (Or.inl ⟨by rfl, ?_⟩) hHeld ?_ ?_
                        rotate_left
                        ·rintro w' ⟨s0, s1, s2, s3, s4, s5, s6, s7, s8⟩
                         go_simp
                         first | with_reducible rfl | (rw [if_neg (by have hq_ : (_ + _ : Nat) ≤ 9223372036854775807 := (by assumption); simp only [ByteArray.size_extract] at hq_; simp only [decide_eq_true_eq] at *; omega)]; done)
                        rotate_left
                        ·simp only [Act.put, List.setIfInBounds_toArray, List.set_cons_zero, List.set_cons_succ, i64_w, i32_w]
                         rfl
                        refine take_ (i := 2) (N := some 56) (v := ?_) (a' := ?_) #[true, true, true, true, false, false, false, false] rfl rfl (take_ofW HT_.out HW_.out (by kernel_rfl)) (fun _ _ _ h => h) (Or.inl ⟨by rfl, ?_⟩) hHeld ?_ ?_
                        rotate_left
                        ·rintro w' ⟨s0, s1, s2, s3, s4, s5, s6, s7, s8⟩
                         go_simp
                         first | with_reducible rfl | (rw [if_neg (by have hq_ : (_ + _ : Nat) ≤ 9223372036854775807 := (by assumption); simp only [ByteArray.size_extract] at hq_; simp only [decide_eq_true_eq] at *; omega)]; done)
                        rotate_left
                        ·simp only [Act.put, List.setIfInBounds_toArray, List.set_cons_zero, List.set_cons_succ, i64_w, i32_w]
                         rfl
                        refine pure_ (i := 4) (N := some 58) (v := ?_) (a' := ?_) #[true, true, true, true, true, false, false, false] rfl rfl (any_of HT_.out (by kernel_rfl)) (fun _ _ _ h => h) (Or.inl ⟨by rfl, ?_⟩) ?_ ?_
                        rotate_left
                        ·intro w'
                         go_simp
                         first | with_reducible rfl | (rw [if_neg (by have hq_ : (_ + _ : Nat) ≤ 9223372036854775807 := (by assumption); simp only [ByteArray.size_extract] at hq_; simp only [decide_eq_true_eq] at *; omega)]; done)
                        rotate_left
                        ·simp only [Act.put, List.setIfInBounds_toArray, List.set_cons_zero, List.set_cons_succ, i64_w, i32_w]
                         rfl
                        refine take_ (i := 5) (N := some 59) (v := ?_) (a' := ?_) #[true, true, true, true, true, true, false, false] rfl rfl (take_ofW HT_.out HW_.out (by kernel_rfl)) (fun _ _ _ h => h) (Or.inl ⟨by rfl, ?_⟩) hHeld ?_ ?_
                        rotate_left
                        ·rintro w' ⟨s0, s1, s2, s3, s4, s5, s6, s7, s8⟩
                         go_simp
                         first | with_reducible rfl | (rw [if_neg (by have hq_ : (_ + _ : Nat) ≤ 9223372036854775807 := (by assumption); simp only [ByteArray.size_extract] at hq_; simp only [decide_eq_true_eq] at *; omega)]; done)
                        rotate_left
                        ·simp only [Act.put, List.setIfInBounds_toArray, List.set_cons_zero, List.set_cons_succ, i64_w, i32_w]
                         rfl
                        refine one_ (i := 6) (N := some 60) #[true, true, true, true, true, true, true, false] rfl rfl (one_of HT_.out (by kernel_rfl)) (by decide) (fun K hK => ?_)
                        refine goes_ Try.func21 (by kernel_rfl) rfl #[.agg #[.slice (some ad373) l0_0.length c0_0, .slice A0_1 l0_1.length c0_1], .agg #[.int .i64 ((rd_T40 ((rd_T43 l0_0 x4_2).f3) x6_3).f0), .int .i64 ((rd_T40 ((rd_T43 l0_0 x4_2).f3) x6_3).f1)]] (by rfl) rfl rfl (by (try simp only [List.map_toArray, List.map_cons, List.map_nil]); first | done | rfl | (simp only [List.length_drop, List.length_take]; rfl)) ?_
                        with_reducible refine (heirloomref11_Object.calls kj34 _ _ l0_0 _ _ l0_1 ((rd_T40 ((rd_T43 l0_0 x4_2).f3) x6_3).f0) ((rd_T40 ((rd_T43 l0_0 x4_2).f3) x6_3).f1) t377 _ ?side1 ?side2 ?side3 ?side4 A51.out).mono ?_
                        (case side1 => repeat (first | exact (Kd.C_below HR0_0.out HB.out) | (with_reducible refine Kd.C_alloc ?_ _) | (with_reducible refine Kd.C_drewN ?_ _) | (with_reducible refine Kd.C_drew ?_)))
                        (case side2 => exact HC0_0.out)
                        (case side3 => repeat (first | exact (Kd.C_below HR0_1.out HB.out) | (with_reducible refine Kd.C_alloc ?_ _) | (with_reducible refine Kd.C_drewN ?_ _) | (with_reducible refine Kd.C_drew ?_)))
                        (case side4 => exact HC0_1.out)
                        rintro e w77 ⟨rfl, hb⟩
                        refine ⟨_, rfl, ?_⟩
                        have n0_ := Aside0.mk (Kd.R_below (by (with_reducible repeat (first | apply Kd.R_alloc | apply Kd.R_drewN | apply Kd.R_drew)); exact HO_373000.out) hb)
                        have n1_ := Aside0.mk (Kd.R_below (by (with_reducible repeat (first | apply Kd.R_alloc | apply Kd.R_drewN | apply Kd.R_drew)); exact HO_373001.out) hb)
                        have n2_ := Aside0.mk (Kd.R_below (by (with_reducible repeat (first | apply Kd.R_alloc | apply Kd.R_drewN | apply Kd.R_drew)); exact HO_373002.out) hb)
                        have n3_ := Aside0.mk (blk_below (g := gb359) (o := .cells #[.slice (some ad373) l0_0.length c0_0, .slice A0_1 l0_1.length c0_1] 25 (0, 0)) (by (with_reducible repeat first | refine kn ?_ _ | refine kd ?_ | refine ka ?_ _); exact BK359.out) hb)
                        have n4_ := Aside0.mk (blk_below (g := gb372) (o := .cells #[.slice Ao21 t363.length co21, .slice Ao24 t366.length co24, .slice Ao25 t369.length co25] 37 (0, 0)) (by (with_reducible repeat first | refine kn ?_ _ | refine kd ?_ | refine ka ?_ _); exact BK372.out) hb)
                        have n5_ := Aside0.mk (blk_below (g := gb374) (o := .cells #[.int .i64 ((rd_T43 l0_0 x4_2).f0), .int .i64 ((rd_T43 l0_0 x4_2).f1), .int .i64 ((rd_T43 l0_0 x4_2).f2), .slice (some ad376) ((rd_T43 l0_0 x4_2).f3).length c373_3, .int .i64 ((rd_T43 l0_0 x4_2).f4)] 43 (0, 0)) (by (with_reducible repeat first | refine kn ?_ _ | refine kd ?_ | refine ka ?_ _); exact BK374.out) hb)
                        have n6_ := Aside0.mk (below_step (by repeat (first | (with_reducible first | exact HB.out | apply zb | apply zn | apply zd | refine zs ?_ GE359.out | refine zs ?_ GE372.out | refine zs ?_ GE374.out) | exact HB.out)) hb)
                        clear HO_373000
                        clear HO_373001
                        clear HO_373002
                        clear BK359
                        clear BK372
                        clear BK374
                        clear HB
                        have HO_373000 := n0_
                        have HO_373001 := n1_
                        have HO_373002 := n2_
                        have BK359 := n3_
                        have BK372 := n4_
                        have BK374 := n5_
                        have HB := n6_
                        clear n0_ n1_ n2_ n3_ n4_ n5_ n6_
                        (try clear hb)
                        (try clear hb2)
                        (try clear hk)
                        (try clear hi)
                        refine hK.out _ _ ⟨(blk_cell BK359.out 0).trans rfl, (blk_cell BK359.out 1).trans rfl, (blk_cell BK374.out 0).trans rfl, (blk_cell BK374.out 1).trans rfl, (blk_cell BK374.out 2).trans rfl, (blk_cell BK374.out 3).trans rfl, (blk_cell BK374.out 4).trans rfl, ((HB.out.cell (World.block_lt_of_cell? w _ hw376_0)).trans hw376_0), ((HB.out.cell (World.block_lt_of_cell? w _ hw376_1)).trans hw376_1)⟩ (fun hHeld => ?_)
                        clear hK K
                        refine norm_ (a' := ?_) ?_ ?_
                        rotate_left
                        ·show Act.put _ (some 60) _ = _
                         simp only [Act.put, List.setIfInBounds_toArray, List.set_cons_zero, List.set_cons_succ, i64_w, i32_w]
                         rfl
                        refine pure_ (i := 7) (N := some 7) (v := ?_) (a' := ?_) #[true, true, true, true, true, true, true, true] rfl rfl (any_of HT_.out (by kernel_rfl)) (fun _ _ _ h => h) (Or.inl ⟨by rfl, ?_⟩) ?_ ?_
                        rotate_left
                        ·intro w'
                         go_simp
                         first | with_reducible rfl | (rw [if_neg (by have hq_ : (_ + _ : Nat) ≤ 9223372036854775807 := (by assumption); simp only [ByteArray.size_extract] at hq_; simp only [decide_eq_true_eq] at *; omega)]; done)
                        rotate_left
                        ·simp only [Act.put, List.setIfInBounds_toArray, List.set_cons_zero, List.set_cons_succ, i64_w, i32_w]
                         rfl
                        refine done_ (done_of HT_.out (by kernel_rfl)) ?_
                        have hnb78 := NB372_359.out
                        have hnc78 := NB359_372.out
                        have hnb79 := NB372_374.out
                        have hnc79 := NB374_372.out
                        have hcz80_0 : w77.cell? ⟨gb372, 0, none⟩ = some (.slice Ao21 t363.length co21) := (blk_cell BK372.out 0).trans rfl
                        have hcz80_1 : w77.cell? ⟨gb372, 1, none⟩ = some (.slice Ao24 t366.length co24) := (blk_cell BK372.out 1).trans rfl
                        have hcz80_2 : w77.cell? ⟨gb372, 2, none⟩ = some (.slice Ao25 t369.length co25) := (blk_cell BK372.out 2).trans rfl
                        have hfz80_0 := blk_frozen BK372.out 0
                        have hfz80_1 := blk_frozen BK372.out 1
                        have hfz80_2 := blk_frozen BK372.out 2
                        have p378 : 0 ≤ ((ji53) : Int) := of_decide_eq_true (by first | (with_reducible assumption) | assumption)
                        have q378 : (ji53) < (t363.length : Int) := of_decide_eq_true (by first | (with_reducible assumption) | assumption)
                        obtain ⟨ad378, e378, hx378_0⟩ := Kd.at_bool (Kd.R_reads' HO_373000.out).2.2 (ji53) p378 q378
                        (try rw [← Nbq56.out] at hx378_0)
                        cases e378
                        replace p378 := eq_true p378
                        replace q378 := eq_true q378
                        try go_wp2_with (first | (go_at_call 22; (with_reducible refine (heirloomlaw11_cleared.calls kj34 _ _ t363 _ _ t366 _ _ t369 (wrap64 (x4_2 + 1)) x6_3 false _ ?side1 ?side2 ?side3 ?side4 ?side5 ?side6 A63.out).mono ?_); (case side1 => repeat (first | exact (Kd.R_reads' HO_373000.out).2.2 | (with_reducible refine Kd.C_alloc ?_ _) | (with_reducible refine Kd.C_drewN ?_ _) | (with_reducible refine Kd.C_drew ?_))); (case side2 => exact (Kd.R_reads' HO_373000.out).2.1); (case side3 => repeat (first | exact (Kd.R_reads' HO_373001.out).2.2 | (with_reducible refine Kd.C_alloc ?_ _) | (with_reducible refine Kd.C_drewN ?_ _) | (with_reducible refine Kd.C_drew ?_))); (case side4 => exact (Kd.R_reads' HO_373001.out).2.1); (case side5 => repeat (first | exact (Kd.R_reads' HO_373002.out).2.2 | (with_reducible refine Kd.C_alloc ?_ _) | (with_reducible refine Kd.C_drewN ?_ _) | (with_reducible refine Kd.C_drew ?_))); (case side6 => exact (Kd.R_reads' HO_373002.out).2.1); rintro e w81 ⟨rfl, hb⟩; have n0_ := Aside0.mk (Kd.R_below (by (with_reducible repeat (first | apply Kd.R_alloc | apply Kd.R_drewN | apply Kd.R_drew)); exact HO_373000.out) hb); have n1_ := Aside0.mk (Kd.R_below (by (with_reducible repeat (first | apply Kd.R_alloc | apply Kd.R_drewN | apply Kd.R_drew)); exact HO_373001.out) hb); have n2_ := Aside0.mk (Kd.R_below (by (with_reducible repeat (first | apply Kd.R_alloc | apply Kd.R_drewN | apply Kd.R_drew)); exact HO_373002.out) hb); have n3_ := Aside0.mk (blk_below (g := gb359) (o := .cells #[.slice (some ad373) l0_0.length c0_0, .slice A0_1 l0_1.length c0_1] 25 (0, 0)) (by (with_reducible repeat first | refine kn ?_ _ | refine kd ?_ | refine ka ?_ _); exact BK359.out) hb); have n4_ := Aside0.mk (blk_below (g := gb372) (o := .cells #[.slice (some ad378) t363.length co21, .slice Ao24 t366.length co24, .slice Ao25 t369.length co25] 37 (0, 0)) (by (with_reducible repeat first | refine kn ?_ _ | refine kd ?_ | refine ka ?_ _); exact BK372.out) hb); have n5_ := Aside0.mk (blk_below (g := gb374) (o := .cells #[.int .i64 ((rd_T43 l0_0 x4_2).f0), .int .i64 ((rd_T43 l0_0 x4_2).f1), .int .i64 ((rd_T43 l0_0 x4_2).f2), .slice (some ad376) ((rd_T43 l0_0 x4_2).f3).length c373_3, .int .i64 ((rd_T43 l0_0 x4_2).f4)] 43 (0, 0)) (by (with_reducible repeat first | refine kn ?_ _ | refine kd ?_ | refine ka ?_ _); exact BK374.out) hb); have n6_ := Aside0.mk (below_step (by repeat (first | (with_reducible first | exact HB.out | apply zb | apply zn | apply zd | refine zs ?_ GE359.out | refine zs ?_ GE372.out | refine zs ?_ GE374.out) | exact HB.out)) hb); clear HO_373000; clear HO_373001; clear HO_373002; clear BK359; clear BK372; clear BK374; clear HB; have HO_373000 := n0_; have HO_373001 := n1_; have HO_373002 := n2_; have BK359 := n3_; have BK372 := n4_; have BK374 := n5_; have HB := n6_; clear n0_ n1_ n2_ n3_ n4_ n5_ n6_; (try clear hb); have hnb82 := NB374_359.out; have hnc82 := NB359_374.out; have hcz83_0 : w81.cell? ⟨gb374, 0, none⟩ = some (.int .i64 ((rd_T43 l0_0 x4_2).f0)) := (blk_cell BK374.out 0).trans rfl; have hcz83_1 : w81.cell? ⟨gb374, 1, none⟩ = some (.int .i64 ((rd_T43 l0_0 x4_2).f1)) := (blk_cell BK374.out 1).trans rfl; have hcz83_2 : w81.cell? ⟨gb374, 2, none⟩ = some (.int .i64 ((rd_T43 l0_0 x4_2).f2)) := (blk_cell BK374.out 2).trans rfl; have hcz83_3 : w81.cell? ⟨gb374, 3, none⟩ = some (.slice (some ad376) ((rd_T43 l0_0 x4_2).f3).length c373_3) := (blk_cell BK374.out 3).trans rfl; have hcz83_4 : w81.cell? ⟨gb374, 4, none⟩ = some (.int .i64 ((rd_T43 l0_0 x4_2).f4)) := (blk_cell BK374.out 4).trans rfl; have hfz83_0 := blk_frozen BK374.out 0; have hfz83_1 := blk_frozen BK374.out 1; have hfz83_2 := blk_frozen BK374.out 2; have hfz83_3 := blk_frozen BK374.out 3; have hfz83_4 := blk_frozen BK374.out 4; have hcz84_0 : w81.cell? ⟨gb372, 0, none⟩ = some (.slice (some ad378) t363.length co21) := (blk_cell BK372.out 0).trans rfl; have hcz84_1 : w81.cell? ⟨gb372, 1, none⟩ = some (.slice Ao24 t366.length co24) := (blk_cell BK372.out 1).trans rfl; have hcz84_2 : w81.cell? ⟨gb372, 2, none⟩ = some (.slice Ao25 t369.length co25) := (blk_cell BK372.out 2).trans rfl; have hfz84_0 := blk_frozen BK372.out 0; have hfz84_1 := blk_frozen BK372.out 1; have hfz84_2 := blk_frozen BK372.out 2) | (go_at_call 22; (with_reducible refine (heirloomlaw11_cleared.calls kj34 _ _ t363 _ _ t366 _ _ t369 (wrap64 (x4_2 + 1)) (wrap64 (x6_3 + 1)) true _ ?side1 ?side2 ?side3 ?side4 ?side5 ?side6 A72.out).mono ?_); (case side1 => repeat (first | exact (Kd.R_reads' HO_373000.out).2.2 | (with_reducible refine Kd.C_alloc ?_ _) | (with_reducible refine Kd.C_drewN ?_ _) | (with_reducible refine Kd.C_drew ?_))); (case side2 => exact (Kd.R_reads' HO_373000.out).2.1); (case side3 => repeat (first | exact (Kd.R_reads' HO_373001.out).2.2 | (with_reducible refine Kd.C_alloc ?_ _) | (with_reducible refine Kd.C_drewN ?_ _) | (with_reducible refine Kd.C_drew ?_))); (case side4 => exact (Kd.R_reads' HO_373001.out).2.1); (case side5 => repeat (first | exact (Kd.R_reads' HO_373002.out).2.2 | (with_reducible refine Kd.C_alloc ?_ _) | (with_reducible refine Kd.C_drewN ?_ _) | (with_reducible refine Kd.C_drew ?_))); (case side6 => exact (Kd.R_reads' HO_373002.out).2.1); rintro e w85 ⟨rfl, hb⟩; have n0_ := Aside0.mk (Kd.R_below (by (with_reducible repeat (first | apply Kd.R_alloc | apply Kd.R_drewN | apply Kd.R_drew)); exact HO_373000.out) hb); have n1_ := Aside0.mk (Kd.R_below (by (with_reducible repeat (first | apply Kd.R_alloc | apply Kd.R_drewN | apply Kd.R_drew)); exact HO_373001.out) hb); have n2_ := Aside0.mk (Kd.R_below (by (with_reducible repeat (first | apply Kd.R_alloc | apply Kd.R_drewN | apply Kd.R_drew)); exact HO_373002.out) hb); have n3_ := Aside0.mk (blk_below (g := gb359) (o := .cells #[.slice (some ad373) l0_0.length c0_0, .slice A0_1 l0_1.length c0_1] 25 (0, 0)) (by (with_reducible repeat first | refine kn ?_ _ | refine kd ?_ | refine ka ?_ _); exact BK359.out) hb); have n4_ := Aside0.mk (blk_below (g := gb372) (o := .cells #[.slice (some ad378) t363.length co21, .slice Ao24 t366.length co24, .slice Ao25 t369.length co25] 37 (0, 0)) (by (with_reducible repeat first | refine kn ?_ _ | refine kd ?_ | refine ka ?_ _); exact BK372.out) hb); have n5_ := Aside0.mk (blk_below (g := gb374) (o := .cells #[.int .i64 ((rd_T43 l0_0 x4_2).f0), .int .i64 ((rd_T43 l0_0 x4_2).f1), .int .i64 ((rd_T43 l0_0 x4_2).f2), .slice (some ad376) ((rd_T43 l0_0 x4_2).f3).length c373_3, .int .i64 ((rd_T43 l0_0 x4_2).f4)] 43 (0, 0)) (by (with_reducible repeat first | refine kn ?_ _ | refine kd ?_ | refine ka ?_ _); exact BK374.out) hb); have n6_ := Aside0.mk (below_step (by repeat (first | (with_reducible first | exact HB.out | apply zb | apply zn | apply zd | refine zs ?_ GE359.out | refine zs ?_ GE372.out | refine zs ?_ GE374.out) | exact HB.out)) hb); clear HO_373000; clear HO_373001; clear HO_373002; clear BK359; clear BK372; clear BK374; clear HB; have HO_373000 := n0_; have HO_373001 := n1_; have HO_373002 := n2_; have BK359 := n3_; have BK372 := n4_; have BK374 := n5_; have HB := n6_; clear n0_ n1_ n2_ n3_ n4_ n5_ n6_; (try clear hb); have hcz86_0 : w85.cell? ⟨gb374, 0, none⟩ = some (.int .i64 ((rd_T43 l0_0 x4_2).f0)) := (blk_cell BK374.out 0).trans rfl; have hcz86_1 : w85.cell? ⟨gb374, 1, none⟩ = some (.int .i64 ((rd_T43 l0_0 x4_2).f1)) := (blk_cell BK374.out 1).trans rfl; have hcz86_2 : w85.cell? ⟨gb374, 2, none⟩ = some (.int .i64 ((rd_T43 l0_0 x4_2).f2)) := (blk_cell BK374.out 2).trans rfl; have hcz86_3 : w85.cell? ⟨gb374, 3, none⟩ = some (.slice (some ad376) ((rd_T43 l0_0 x4_2).f3).length c373_3) := (blk_cell BK374.out 3).trans rfl; have hcz86_4 : w85.cell? ⟨gb374, 4, none⟩ = some (.int .i64 ((rd_T43 l0_0 x4_2).f4)) := (blk_cell BK374.out 4).trans rfl; have hfz86_0 := blk_frozen BK374.out 0; have hfz86_1 := blk_frozen BK374.out 1; have hfz86_2 := blk_frozen BK374.out 2; have hfz86_3 := blk_frozen BK374.out 3; have hfz86_4 := blk_frozen BK374.out 4) | (go_at_call 23; (with_reducible refine (heirloomref11_KeyOf.calls kj34 ((rd_T43 l0_0 x4_2).f0) ((rd_T43 l0_0 x4_2).f1) ((rd_T43 l0_0 x4_2).f2) _ _ ((rd_T43 l0_0 x4_2).f3) ((rd_T43 l0_0 x4_2).f4) (wrap64 (x6_3 + 1)) t381 _ ?side1 ?side2 A74.out).mono ?_); (case side1 => repeat (first | exact (Kd.C_below HR373_3.out HB.out) | (with_reducible refine Kd.C_alloc ?_ _) | (with_reducible refine Kd.C_drewN ?_ _) | (with_reducible refine Kd.C_drew ?_))); (case side2 => exact HC373_3.out); rintro e w87 ⟨rfl, hb⟩; have n0_ := Aside0.mk (Kd.R_below (by (with_reducible repeat (first | apply Kd.R_alloc | apply Kd.R_drewN | apply Kd.R_drew)); exact HO_373000.out) hb); have n1_ := Aside0.mk (Kd.R_below (by (with_reducible repeat (first | apply Kd.R_alloc | apply Kd.R_drewN | apply Kd.R_drew)); exact HO_373001.out) hb); have n2_ := Aside0.mk (Kd.R_below (by (with_reducible repeat (first | apply Kd.R_alloc | apply Kd.R_drewN | apply Kd.R_drew)); exact HO_373002.out) hb); have n3_ := Aside0.mk (blk_below (g := gb359) (o := .cells #[.slice (some ad373) l0_0.length c0_0, .slice A0_1 l0_1.length c0_1] 25 (0, 0)) (by (with_reducible repeat first | refine kn ?_ _ | refine kd ?_ | refine ka ?_ _); exact BK359.out) hb); have n4_ := Aside0.mk (blk_below (g := gb372) (o := .cells #[.slice (some ad378) t363.length co21, .slice Ao24 t366.length co24, .slice Ao25 t369.length co25] 37 (0, 0)) (by (with_reducible repeat first | refine kn ?_ _ | refine kd ?_ | refine ka ?_ _); exact BK372.out) hb); have n5_ := Aside0.mk (blk_below (g := gb374) (o := .cells #[.int .i64 ((rd_T43 l0_0 x4_2).f0), .int .i64 ((rd_T43 l0_0 x4_2).f1), .int .i64 ((rd_T43 l0_0 x4_2).f2), .slice (some ad376) ((rd_T43 l0_0 x4_2).f3).length c373_3, .int .i64 ((rd_T43 l0_0 x4_2).f4)] 43 (0, 0)) (by (with_reducible repeat first | refine kn ?_ _ | refine kd ?_ | refine ka ?_ _); exact BK374.out) hb); have n6_ := Aside0.mk (below_step (by repeat (first | (with_reducible first | exact HB.out | apply zb | apply zn | apply zd | refine zs ?_ GE359.out | refine zs ?_ GE372.out | refine zs ?_ GE374.out) | exact HB.out)) hb); clear HO_373000; clear HO_373001; clear HO_373002; clear BK359; clear BK372; clear BK374; clear HB; have HO_373000 := n0_; have HO_373001 := n1_; have HO_373002 := n2_; have BK359 := n3_; have BK372 := n4_; have BK374 := n5_; have HB := n6_; clear n0_ n1_ n2_ n3_ n4_ n5_ n6_; (try clear hb)))
                        go_roundg kj34
                        case measure => have := HJ1.out; have := HK2.out; have := HK3.out; have := HJ34.out; omega
                        case rel => exact ⟨(wrap64 (x6_3 + 1)), (by first | rfl | (simp; done) | (simp [*]; done)), H', ⟨by have := HJ1.out; have := HK2.out; have := HK3.out; have := HJ34.out; omega⟩, ⟨by (with_reducible repeat (first | apply Kd.R_alloc | apply Kd.R_drewN | apply Kd.R_drew)); exact HO_373000.out⟩, ⟨by (with_reducible repeat (first | apply Kd.R_alloc | apply Kd.R_drewN | apply Kd.R_drew)); exact HO_373001.out⟩, ⟨by (with_reducible repeat (first | apply Kd.R_alloc | apply Kd.R_drewN | apply Kd.R_drew)); exact HO_373002.out⟩, ⟨by (with_reducible repeat first | refine kn ?_ _ | refine kd ?_ | refine ka ?_ _); exact BK359.out⟩, ⟨by (with_reducible repeat first | refine kn ?_ _ | refine kd ?_ | refine ka ?_ _); exact BK372.out⟩, ⟨by (with_reducible repeat first | refine kn ?_ _ | refine kd ?_ | refine ka ?_ _); exact BK374.out⟩, ⟨by repeat (first | (with_reducible first | exact HB.out | apply zb | apply zn | apply zd | refine zs ?_ GE359.out | refine zs ?_ GE372.out | refine zs ?_ GE374.out) | exact HB.out)⟩⟩
                       ·rw [if_neg c75] at H
                        have c75b0 : (t381 == x6_3) = false := beq_eq_false_iff_ne.mpr c75
                        have c75b1 : (t381 != x6_3) = true := bne_iff_ne.mpr c75
                        obtain rfl := Option.some.inj H
                        try go_wp2
                        have n0_ := Aside0.mk (Kd.R_drew HO_373000.out)
                        have n1_ := Aside0.mk (Kd.R_drew HO_373001.out)
                        have n2_ := Aside0.mk (Kd.R_drew HO_373002.out)
                        have n3_ := Aside0.mk (blk_drew BK359.out)
                        have n4_ := Aside0.mk (blk_drew BK372.out)
                        have n5_ := Aside0.mk (blk_drew BK374.out)
                        have n6_ := Aside0.mk (below_drew1 HB.out)
                        clear HO_373000
                        clear HO_373001
                        clear HO_373002
                        clear BK359
                        clear BK372
                        clear BK374
                        clear HB
                        have HO_373000 := n0_
                        have HO_373001 := n1_
                        have HO_373002 := n2_
                        have BK359 := n3_
                        have BK372 := n4_
                        have BK374 := n5_
                        have HB := n6_
                        clear n0_ n1_ n2_ n3_ n4_ n5_ n6_
                        have p376 : 0 ≤ (x6_3 : Int) := of_decide_eq_true (by first | (with_reducible assumption) | assumption)
                        have q376 : x6_3 < (((rd_T43 l0_0 x4_2).f3).length : Int) := of_decide_eq_true (by first | (with_reducible assumption) | assumption)
                        obtain ⟨ad376, e376, hx376_0, hx376_1⟩ := at_T40 HR373_3.out x6_3 p376 q376
                        have hw376_1 := hx376_1
                        have hw376_0 := hx376_0
                        cases e376
                        replace hx376_0 := (HB.out.cell (World.block_lt_of_cell? w _ hx376_0)).trans hx376_0
                        replace hx376_1 := (HB.out.cell (World.block_lt_of_cell? w _ hx376_1)).trans hx376_1
                        replace p376 := eq_true p376
                        replace q376 := eq_true q376
                        refine start_ (n := 8) (S := fun w' => w'.cell? ⟨gb359, 0, none⟩ = some (.slice (some ad373) l0_0.length c0_0) ∧ w'.cell? ⟨gb359, 1, none⟩ = some (.slice A0_1 l0_1.length c0_1) ∧ w'.cell? ⟨gb374, 0, none⟩ = some (.int .i64 ((rd_T43 l0_0 x4_2).f0)) ∧ w'.cell? ⟨gb374, 1, none⟩ = some (.int .i64 ((rd_T43 l0_0 x4_2).f1)) ∧ w'.cell? ⟨gb374, 2, none⟩ = some (.int .i64 ((rd_T43 l0_0 x4_2).f2)) ∧ w'.cell? ⟨gb374, 3, none⟩ = some (.slice (some ad376) ((rd_T43 l0_0 x4_2).f3).length c373_3) ∧ w'.cell? ⟨gb374, 4, none⟩ = some (.int .i64 ((rd_T43 l0_0 x4_2).f4)) ∧ w'.cell? (ad376.add ((x6_3).toNat * 2)) = some (.int .i64 ((rd_T40 ((rd_T43 l0_0 x4_2).f3) x6_3).f0)) ∧ w'.cell? ⟨(ad376.add ((x6_3).toNat * 2)).block, (ad376.add ((x6_3).toNat * 2)).off + 1, none⟩ = some (.int .i64 ((rd_T40 ((rd_T43 l0_0 x4_2).f3) x6_3).f1))) (ds := []) #[false, false, false, false, false, false, false, false] (by kernel_rfl) rfl rfl ⟨(blk_cell BK359.out 0).trans rfl, (blk_cell BK359.out 1).trans rfl, (blk_cell BK374.out 0).trans rfl, (blk_cell BK374.out 1).trans rfl, (blk_cell BK374.out 2).trans rfl, (blk_cell BK374.out 3).trans rfl, (blk_cell BK374.out 4).trans rfl, ((HB.out.cell (World.block_lt_of_cell? w _ hw376_0)).trans hw376_0), ((HB.out.cell (World.block_lt_of_cell? w _ hw376_1)).trans hw376_1)⟩ (fun hHeld => ?_); refine with_tabW heirloomlaw11_ReachClosed.tab13 heirloomlaw11_ReachClosed.bits13 (fun HT_ HW_ => ?_)
                        generalize wc.drew = w88 at HO_373000 HO_373001 HO_373002 BK359 BK372 BK374 HB hx376_0 hx376_1 hHeld ⊢
                        refine pure_ (i := 1) (N := some 55) (v := ?_) (a' := ?_) #[false, true, false, false, false, false, false, false] rfl rfl (any_of HT_.out (by kernel_rfl)) (fun _ _ _ h => h) (Or.inl ⟨by rfl, ?_⟩) ?_ ?_
                        rotate_left
                        ·intro w'
                         go_simp
                         first | with_reducible rfl | (rw [if_neg (by have hq_ : (_ + _ : Nat) ≤ 9223372036854775807 := (by assumption); simp only [ByteArray.size_extract] at hq_; simp only [decide_eq_true_eq] at *; omega)]; done)
                        rotate_left
                        ·simp only [Act.put, List.setIfInBounds_toArray, List.set_cons_zero, List.set_cons_succ, i64_w, i32_w]
                         rfl
                        refine pure_ (i := 3) (N := some 57) (v := ?_) (a' := ?_) #[false, true, false, true, false, false, false, false] rfl rfl (any_of HT_.out (by kernel_rfl)) (fun _ _ _ h => h) (Or.inl ⟨by rfl, ?_⟩) ?_ ?_
                        rotate_left
                        ·intro w'
                         go_simp
                         first | with_reducible rfl | (rw [if_neg (by have hq_ : (_ + _ : Nat) ≤ 9223372036854775807 := (by assumption); simp only [ByteArray.size_extract] at hq_; simp only [decide_eq_true_eq] at *; omega)]; done)
                        rotate_left
                        ·simp only [Act.put, List.setIfInBounds_toArray, List.set_cons_zero, List.set_cons_succ, i64_w, i32_w]
                         rfl
                        refine take_ (i := 0) (N := some 54) (v := ?_) (a' := ?_) #[true, true, false, true, false, false, false, false] rfl rfl (take_ofW HT_.out HW_.out (by kernel_rfl)) (fun _ _ _ h => h) (Or.inl ⟨by rfl, ?_⟩) hHeld ?_ ?_
                        rotate_left
                        ·rintro w' ⟨s0, s1, s2, s3, s4, s5, s6, s7, s8⟩
                         go_simp
                         first | with_reducible rfl | (rw [if_neg (by have hq_ : (_ + _ : Nat) ≤ 9223372036854775807 := (by assumption); simp only [ByteArray.size_extract] at hq_; simp only [decide_eq_true_eq] at *; omega)]; done)
                        rotate_left
                        ·simp only [Act.put, List.setIfInBounds_toArray, List.set_cons_zero, List.set_cons_succ, i64_w, i32_w]
                         rfl
                        refine take_ (i := 2) (N := some 56) (v := ?_) (a' := ?_) #[true, true, true, true, false, false, false, false] rfl rfl (take_ofW HT_.out HW_.out (by kernel_rfl)) (fun _ _ _ h => h) (Or.inl ⟨by rfl, ?_⟩) hHeld ?_ ?_
                        rotate_left
                        ·rintro w' ⟨s0, s1, s2, s3, s4, s5, s6, s7, s8⟩
                         go_simp
                         first | with_reducible rfl | (rw [if_neg (by have hq_ : (_ + _ : Nat) ≤ 9223372036854775807 := (by assumption); simp only [ByteArray.size_extract] at hq_; simp only [decide_eq_true_eq] at *; omega)]; done)
                        rotate_left
                        ·simp only [Act.put, List.setIfInBounds_toArray, List.set_cons_zero, List.set_cons_succ, i64_w, i32_w]
                         rfl
                        refine pure_ (i := 4) (N := some 58) (v := ?_) (a' := ?_) #[true, true, true, true, true, false, false, false] rfl rfl (any_of HT_.out (by kernel_rfl)) (fun _ _ _ h => h) (Or.inl ⟨by rfl, ?_⟩) ?_ ?_
                        rotate_left
                        ·intro w'
                         go_simp
                         first | with_reducible rfl | (rw [if_neg (by have hq_ : (_ + _ : Nat) ≤ 9223372036854775807 := (by assumption); simp only [ByteArray.size_extract] at hq_; simp only [decide_eq_true_eq] at *; omega)]; done)
                        rotate_left
                        ·simp only [Act.put, List.setIfInBounds_toArray, List.set_cons_zero, List.set_cons_succ, i64_w, i32_w]
                         rfl
                        refine take_ (i := 5) (N := some 59) (v := ?_) (a' := ?_) #[true, true, true, true, true, true, false, false] rfl rfl (take_ofW HT_.out HW_.out (by kernel_rfl)) (fun _ _ _ h => h) (Or.inl ⟨by rfl, ?_⟩) hHeld ?_ ?_
                        rotate_left
                        ·rintro w' ⟨s0, s1, s2, s3, s4, s5, s6, s7, s8⟩
                         go_simp
                         first | with_reducible rfl | (rw [if_neg (by have hq_ : (_ + _ : Nat) ≤ 9223372036854775807 := (by assumption); simp only [ByteArray.size_extract] at hq_; simp only [decide_eq_true_eq] at *; omega)]; done)
                        rotate_left
                        ·simp only [Act.put, List.setIfInBounds_toArray, List.set_cons_zero, List.set_cons_succ, i64_w, i32_w]
                         rfl
                        refine one_ (i := 6) (N := some 60) #[true, true, true, true, true, true, true, false] rfl rfl (one_of HT_.out (by kernel_rfl)) (by decide) (fun K hK => ?_)
                        refine goes_ Try.func21 (by kernel_rfl) rfl #[.agg #[.slice (some ad373) l0_0.length c0_0, .slice A0_1 l0_1.length c0_1], .agg #[.int .i64 ((rd_T40 ((rd_T43 l0_0 x4_2).f3) x6_3).f0), .int .i64 ((rd_T40 ((rd_T43 l0_0 x4_2).f3) x6_3).f1)]] (by rfl) rfl rfl (by (try simp only [List.map_toArray, List.map_cons, List.map_nil]); first | done | rfl | (simp only [List.length_drop, List.length_take]; rfl)) ?_
                        with_reducible refine (heirloomref11_Object.calls kj34 _ _ l0_0 _ _ l0_1 ((rd_T40 ((rd_T43 l0_0 x4_2).f3) x6_3).f0) ((rd_T40 ((rd_T43 l0_0 x4_2).f3) x6_3).f1) t377 _ ?side1 ?side2 ?side3 ?side4 A51.out).mono ?_
                        (case side1 => repeat (first | exact (Kd.C_below HR0_0.out HB.out) | (with_reducible refine Kd.C_alloc ?_ _) | (with_reducible refine Kd.C_drewN ?_ _) | (with_reducible refine Kd.C_drew ?_)))
                        (case side2 => exact HC0_0.out)
                        (case side3 => repeat (first | exact (Kd.C_below HR0_1.out HB.out) | (with_reducible refine Kd.C_alloc ?_ _) | (with_reducible refine Kd.C_drewN ?_ _) | (with_reducible refine Kd.C_drew ?_)))
                        (case side4 => exact HC0_1.out)
                        rintro e w89 ⟨rfl, hb⟩
                        refine ⟨_, rfl, ?_⟩
                        have n0_ := Aside0.mk (Kd.R_below (by (with_reducible repeat (first | apply Kd.R_alloc | apply Kd.R_drewN | apply Kd.R_drew)); exact HO_373000.out) hb)
                        have n1_ := Aside0.mk (Kd.R_below (by (with_reducible repeat (first | apply Kd.R_alloc | apply Kd.R_drewN | apply Kd.R_drew)); exact HO_373001.out) hb)
                        have n2_ := Aside0.mk (Kd.R_below (by (with_reducible repeat (first | apply Kd.R_alloc | apply Kd.R_drewN | apply Kd.R_drew)); exact HO_373002.out) hb)
                        have n3_ := Aside0.mk (blk_below (g := gb359) (o := .cells #[.slice (some ad373) l0_0.length c0_0, .slice A0_1 l0_1.length c0_1] 25 (0, 0)) (by (with_reducible repeat first | refine kn ?_ _ | refine kd ?_ | refine ka ?_ _); exact BK359.out) hb)
                        have n4_ := Aside0.mk (blk_below (g := gb372) (o := .cells #[.slice Ao21 t363.length co21, .slice Ao24 t366.length co24, .slice Ao25 t369.length co25] 37 (0, 0)) (by (with_reducible repeat first | refine kn ?_ _ | refine kd ?_ | refine ka ?_ _); exact BK372.out) hb)
                        have n5_ := Aside0.mk (blk_below (g := gb374) (o := .cells #[.int .i64 ((rd_T43 l0_0 x4_2).f0), .int .i64 ((rd_T43 l0_0 x4_2).f1), .int .i64 ((rd_T43 l0_0 x4_2).f2), .slice (some ad376) ((rd_T43 l0_0 x4_2).f3).length c373_3, .int .i64 ((rd_T43 l0_0 x4_2).f4)] 43 (0, 0)) (by (with_reducible repeat first | refine kn ?_ _ | refine kd ?_ | refine ka ?_ _); exact BK374.out) hb)
                        have n6_ := Aside0.mk (below_step (by repeat (first | (with_reducible first | exact HB.out | apply zb | apply zn | apply zd | refine zs ?_ GE359.out | refine zs ?_ GE372.out | refine zs ?_ GE374.out) | exact HB.out)) hb)
                        clear HO_373000
                        clear HO_373001
                        clear HO_373002
                        clear BK359
                        clear BK372
                        clear BK374
                        clear HB
                        have HO_373000 := n0_
                        have HO_373001 := n1_
                        have HO_373002 := n2_
                        have BK359 := n3_
                        have BK372 := n4_
                        have BK374 := n5_
                        have HB := n6_
                        clear n0_ n1_ n2_ n3_ n4_ n5_ n6_
                        (try clear hb)
                        (try clear hb2)
                        (try clear hk)
                        (try clear hi)
                        refine hK.out _ _ ⟨(blk_cell BK359.out 0).trans rfl, (blk_cell BK359.out 1).trans rfl, (blk_cell BK374.out 0).trans rfl, (blk_cell BK374.out 1).trans rfl, (blk_cell BK374.out 2).trans rfl, (blk_cell BK374.out 3).trans rfl, (blk_cell BK374.out 4).trans rfl, ((HB.out.cell (World.block_lt_of_cell? w _ hw376_0)).trans hw376_0), ((HB.out.cell (World.block_lt_of_cell? w _ hw376_1)).trans hw376_1)⟩ (fun hHeld => ?_)
                        clear hK K
                        refine norm_ (a' := ?_) ?_ ?_
                        rotate_left
                        ·show Act.put _ (some 60) _ = _
                         simp only [Act.put, List.setIfInBounds_toArray, List.set_cons_zero, List.set_cons_succ, i64_w, i32_w]
                         rfl
                        refine pure_ (i := 7) (N := some 7) (v := ?_) (a' := ?_) #[true, true, true, true, true, true, true, true] rfl rfl (any_of HT_.out (by kernel_rfl)) (fun _ _ _ h => h) (Or.inl ⟨by rfl, ?_⟩) ?_ ?_
                        rotate_left
                        ·intro w'
                         go_simp
                         first | with_reducible rfl | (rw [if_neg (by have hq_ : (_ + _ : Nat) ≤ 9223372036854775807 := (by assumption); simp only [ByteArray.size_extract] at hq_; simp only [decide_eq_true_eq] at *; omega)]; done)
                        rotate_left
                        ·simp only [Act.put, List.setIfInBounds_toArray, List.set_cons_zero, List.set_cons_succ, i64_w, i32_w]
                         rfl
                        refine done_ (done_of HT_.out (by kernel_rfl)) ?_
                        have hnb90 := NB372_359.out
                        have hnc90 := NB359_372.out
                        have hnb91 := NB372_374.out
                        have hnc91 := NB374_372.out
                        have hcz92_0 : w89.cell? ⟨gb372, 0, none⟩ = some (.slice Ao21 t363.length co21) := (blk_cell BK372.out 0).trans rfl
                        have hcz92_1 : w89.cell? ⟨gb372, 1, none⟩ = some (.slice Ao24 t366.length co24) := (blk_cell BK372.out 1).trans rfl
                        have hcz92_2 : w89.cell? ⟨gb372, 2, none⟩ = some (.slice Ao25 t369.length co25) := (blk_cell BK372.out 2).trans rfl
                        have hfz92_0 := blk_frozen BK372.out 0
                        have hfz92_1 := blk_frozen BK372.out 1
                        have hfz92_2 := blk_frozen BK372.out 2
                        have p378 : 0 ≤ ((ji53) : Int) := of_decide_eq_true (by first | (with_reducible assumption) | assumption)
                        have q378 : (ji53) < (t363.length : Int) := of_decide_eq_true (by first | (with_reducible assumption) | assumption)
                        obtain ⟨ad378, e378, hx378_0⟩ := Kd.at_bool (Kd.R_reads' HO_373000.out).2.2 (ji53) p378 q378
                        (try rw [← Nbq56.out] at hx378_0)
                        cases e378
                        replace p378 := eq_true p378
                        replace q378 := eq_true q378
                        try go_wp2_with (first | (go_at_call 22; (with_reducible refine (heirloomlaw11_cleared.calls kj34 _ _ t363 _ _ t366 _ _ t369 (wrap64 (x4_2 + 1)) x6_3 false _ ?side1 ?side2 ?side3 ?side4 ?side5 ?side6 A63.out).mono ?_); (case side1 => repeat (first | exact (Kd.R_reads' HO_373000.out).2.2 | (with_reducible refine Kd.C_alloc ?_ _) | (with_reducible refine Kd.C_drewN ?_ _) | (with_reducible refine Kd.C_drew ?_))); (case side2 => exact (Kd.R_reads' HO_373000.out).2.1); (case side3 => repeat (first | exact (Kd.R_reads' HO_373001.out).2.2 | (with_reducible refine Kd.C_alloc ?_ _) | (with_reducible refine Kd.C_drewN ?_ _) | (with_reducible refine Kd.C_drew ?_))); (case side4 => exact (Kd.R_reads' HO_373001.out).2.1); (case side5 => repeat (first | exact (Kd.R_reads' HO_373002.out).2.2 | (with_reducible refine Kd.C_alloc ?_ _) | (with_reducible refine Kd.C_drewN ?_ _) | (with_reducible refine Kd.C_drew ?_))); (case side6 => exact (Kd.R_reads' HO_373002.out).2.1); rintro e w93 ⟨rfl, hb⟩; have n0_ := Aside0.mk (Kd.R_below (by (with_reducible repeat (first | apply Kd.R_alloc | apply Kd.R_drewN | apply Kd.R_drew)); exact HO_373000.out) hb); have n1_ := Aside0.mk (Kd.R_below (by (with_reducible repeat (first | apply Kd.R_alloc | apply Kd.R_drewN | apply Kd.R_drew)); exact HO_373001.out) hb); have n2_ := Aside0.mk (Kd.R_below (by (with_reducible repeat (first | apply Kd.R_alloc | apply Kd.R_drewN | apply Kd.R_drew)); exact HO_373002.out) hb); have n3_ := Aside0.mk (blk_below (g := gb359) (o := .cells #[.slice (some ad373) l0_0.length c0_0, .slice A0_1 l0_1.length c0_1] 25 (0, 0)) (by (with_reducible repeat first | refine kn ?_ _ | refine kd ?_ | refine ka ?_ _); exact BK359.out) hb); have n4_ := Aside0.mk (blk_below (g := gb372) (o := .cells #[.slice (some ad378) t363.length co21, .slice Ao24 t366.length co24, .slice Ao25 t369.length co25] 37 (0, 0)) (by (with_reducible repeat first | refine kn ?_ _ | refine kd ?_ | refine ka ?_ _); exact BK372.out) hb); have n5_ := Aside0.mk (blk_below (g := gb374) (o := .cells #[.int .i64 ((rd_T43 l0_0 x4_2).f0), .int .i64 ((rd_T43 l0_0 x4_2).f1), .int .i64 ((rd_T43 l0_0 x4_2).f2), .slice (some ad376) ((rd_T43 l0_0 x4_2).f3).length c373_3, .int .i64 ((rd_T43 l0_0 x4_2).f4)] 43 (0, 0)) (by (with_reducible repeat first | refine kn ?_ _ | refine kd ?_ | refine ka ?_ _); exact BK374.out) hb); have n6_ := Aside0.mk (below_step (by repeat (first | (with_reducible first | exact HB.out | apply zb | apply zn | apply zd | refine zs ?_ GE359.out | refine zs ?_ GE372.out | refine zs ?_ GE374.out) | exact HB.out)) hb); clear HO_373000; clear HO_373001; clear HO_373002; clear BK359; clear BK372; clear BK374; clear HB; have HO_373000 := n0_; have HO_373001 := n1_; have HO_373002 := n2_; have BK359 := n3_; have BK372 := n4_; have BK374 := n5_; have HB := n6_; clear n0_ n1_ n2_ n3_ n4_ n5_ n6_; (try clear hb); have hnb94 := NB374_359.out; have hnc94 := NB359_374.out; have hcz95_0 : w93.cell? ⟨gb374, 0, none⟩ = some (.int .i64 ((rd_T43 l0_0 x4_2).f0)) := (blk_cell BK374.out 0).trans rfl; have hcz95_1 : w93.cell? ⟨gb374, 1, none⟩ = some (.int .i64 ((rd_T43 l0_0 x4_2).f1)) := (blk_cell BK374.out 1).trans rfl; have hcz95_2 : w93.cell? ⟨gb374, 2, none⟩ = some (.int .i64 ((rd_T43 l0_0 x4_2).f2)) := (blk_cell BK374.out 2).trans rfl; have hcz95_3 : w93.cell? ⟨gb374, 3, none⟩ = some (.slice (some ad376) ((rd_T43 l0_0 x4_2).f3).length c373_3) := (blk_cell BK374.out 3).trans rfl; have hcz95_4 : w93.cell? ⟨gb374, 4, none⟩ = some (.int .i64 ((rd_T43 l0_0 x4_2).f4)) := (blk_cell BK374.out 4).trans rfl; have hfz95_0 := blk_frozen BK374.out 0; have hfz95_1 := blk_frozen BK374.out 1; have hfz95_2 := blk_frozen BK374.out 2; have hfz95_3 := blk_frozen BK374.out 3; have hfz95_4 := blk_frozen BK374.out 4; have hcz96_0 : w93.cell? ⟨gb372, 0, none⟩ = some (.slice (some ad378) t363.length co21) := (blk_cell BK372.out 0).trans rfl; have hcz96_1 : w93.cell? ⟨gb372, 1, none⟩ = some (.slice Ao24 t366.length co24) := (blk_cell BK372.out 1).trans rfl; have hcz96_2 : w93.cell? ⟨gb372, 2, none⟩ = some (.slice Ao25 t369.length co25) := (blk_cell BK372.out 2).trans rfl; have hfz96_0 := blk_frozen BK372.out 0; have hfz96_1 := blk_frozen BK372.out 1; have hfz96_2 := blk_frozen BK372.out 2) | (go_at_call 22; (with_reducible refine (heirloomlaw11_cleared.calls kj34 _ _ t363 _ _ t366 _ _ t369 (wrap64 (x4_2 + 1)) (wrap64 (x6_3 + 1)) true _ ?side1 ?side2 ?side3 ?side4 ?side5 ?side6 A72.out).mono ?_); (case side1 => repeat (first | exact (Kd.R_reads' HO_373000.out).2.2 | (with_reducible refine Kd.C_alloc ?_ _) | (with_reducible refine Kd.C_drewN ?_ _) | (with_reducible refine Kd.C_drew ?_))); (case side2 => exact (Kd.R_reads' HO_373000.out).2.1); (case side3 => repeat (first | exact (Kd.R_reads' HO_373001.out).2.2 | (with_reducible refine Kd.C_alloc ?_ _) | (with_reducible refine Kd.C_drewN ?_ _) | (with_reducible refine Kd.C_drew ?_))); (case side4 => exact (Kd.R_reads' HO_373001.out).2.1); (case side5 => repeat (first | exact (Kd.R_reads' HO_373002.out).2.2 | (with_reducible refine Kd.C_alloc ?_ _) | (with_reducible refine Kd.C_drewN ?_ _) | (with_reducible refine Kd.C_drew ?_))); (case side6 => exact (Kd.R_reads' HO_373002.out).2.1); rintro e w97 ⟨rfl, hb⟩; have n0_ := Aside0.mk (Kd.R_below (by (with_reducible repeat (first | apply Kd.R_alloc | apply Kd.R_drewN | apply Kd.R_drew)); exact HO_373000.out) hb); have n1_ := Aside0.mk (Kd.R_below (by (with_reducible repeat (first | apply Kd.R_alloc | apply Kd.R_drewN | apply Kd.R_drew)); exact HO_373001.out) hb); have n2_ := Aside0.mk (Kd.R_below (by (with_reducible repeat (first | apply Kd.R_alloc | apply Kd.R_drewN | apply Kd.R_drew)); exact HO_373002.out) hb); have n3_ := Aside0.mk (blk_below (g := gb359) (o := .cells #[.slice (some ad373) l0_0.length c0_0, .slice A0_1 l0_1.length c0_1] 25 (0, 0)) (by (with_reducible repeat first | refine kn ?_ _ | refine kd ?_ | refine ka ?_ _); exact BK359.out) hb); have n4_ := Aside0.mk (blk_below (g := gb372) (o := .cells #[.slice (some ad378) t363.length co21, .slice Ao24 t366.length co24, .slice Ao25 t369.length co25] 37 (0, 0)) (by (with_reducible repeat first | refine kn ?_ _ | refine kd ?_ | refine ka ?_ _); exact BK372.out) hb); have n5_ := Aside0.mk (blk_below (g := gb374) (o := .cells #[.int .i64 ((rd_T43 l0_0 x4_2).f0), .int .i64 ((rd_T43 l0_0 x4_2).f1), .int .i64 ((rd_T43 l0_0 x4_2).f2), .slice (some ad376) ((rd_T43 l0_0 x4_2).f3).length c373_3, .int .i64 ((rd_T43 l0_0 x4_2).f4)] 43 (0, 0)) (by (with_reducible repeat first | refine kn ?_ _ | refine kd ?_ | refine ka ?_ _); exact BK374.out) hb); have n6_ := Aside0.mk (below_step (by repeat (first | (with_reducible first | exact HB.out | apply zb | apply zn | apply zd | refine zs ?_ GE359.out | refine zs ?_ GE372.out | refine zs ?_ GE374.out) | exact HB.out)) hb); clear HO_373000; clear HO_373001; clear HO_373002; clear BK359; clear BK372; clear BK374; clear HB; have HO_373000 := n0_; have HO_373001 := n1_; have HO_373002 := n2_; have BK359 := n3_; have BK372 := n4_; have BK374 := n5_; have HB := n6_; clear n0_ n1_ n2_ n3_ n4_ n5_ n6_; (try clear hb); have hcz98_0 : w97.cell? ⟨gb374, 0, none⟩ = some (.int .i64 ((rd_T43 l0_0 x4_2).f0)) := (blk_cell BK374.out 0).trans rfl; have hcz98_1 : w97.cell? ⟨gb374, 1, none⟩ = some (.int .i64 ((rd_T43 l0_0 x4_2).f1)) := (blk_cell BK374.out 1).trans rfl; have hcz98_2 : w97.cell? ⟨gb374, 2, none⟩ = some (.int .i64 ((rd_T43 l0_0 x4_2).f2)) := (blk_cell BK374.out 2).trans rfl; have hcz98_3 : w97.cell? ⟨gb374, 3, none⟩ = some (.slice (some ad376) ((rd_T43 l0_0 x4_2).f3).length c373_3) := (blk_cell BK374.out 3).trans rfl; have hcz98_4 : w97.cell? ⟨gb374, 4, none⟩ = some (.int .i64 ((rd_T43 l0_0 x4_2).f4)) := (blk_cell BK374.out 4).trans rfl; have hfz98_0 := blk_frozen BK374.out 0; have hfz98_1 := blk_frozen BK374.out 1; have hfz98_2 := blk_frozen BK374.out 2; have hfz98_3 := blk_frozen BK374.out 3; have hfz98_4 := blk_frozen BK374.out 4) | (go_at_call 23; (with_reducible refine (heirloomref11_KeyOf.calls kj34 ((rd_T43 l0_0 x4_2).f0) ((rd_T43 l0_0 x4_2).f1) ((rd_T43 l0_0 x4_2).f2) _ _ ((rd_T43 l0_0 x4_2).f3) ((rd_T43 l0_0 x4_2).f4) (wrap64 (x6_3 + 1)) t381 _ ?side1 ?side2 A74.out).mono ?_); (case side1 => repeat (first | exact (Kd.C_below HR373_3.out HB.out) | (with_reducible refine Kd.C_alloc ?_ _) | (with_reducible refine Kd.C_drewN ?_ _) | (with_reducible refine Kd.C_drew ?_))); (case side2 => exact HC373_3.out); rintro e w99 ⟨rfl, hb⟩; have n0_ := Aside0.mk (Kd.R_below (by (with_reducible repeat (first | apply Kd.R_alloc | apply Kd.R_drewN | apply Kd.R_drew)); exact HO_373000.out) hb); have n1_ := Aside0.mk (Kd.R_below (by (with_reducible repeat (first | apply Kd.R_alloc | apply Kd.R_drewN | apply Kd.R_drew)); exact HO_373001.out) hb); have n2_ := Aside0.mk (Kd.R_below (by (with_reducible repeat (first | apply Kd.R_alloc | apply Kd.R_drewN | apply Kd.R_drew)); exact HO_373002.out) hb); have n3_ := Aside0.mk (blk_below (g := gb359) (o := .cells #[.slice (some ad373) l0_0.length c0_0, .slice A0_1 l0_1.length c0_1] 25 (0, 0)) (by (with_reducible repeat first | refine kn ?_ _ | refine kd ?_ | refine ka ?_ _); exact BK359.out) hb); have n4_ := Aside0.mk (blk_below (g := gb372) (o := .cells #[.slice (some ad378) t363.length co21, .slice Ao24 t366.length co24, .slice Ao25 t369.length co25] 37 (0, 0)) (by (with_reducible repeat first | refine kn ?_ _ | refine kd ?_ | refine ka ?_ _); exact BK372.out) hb); have n5_ := Aside0.mk (blk_below (g := gb374) (o := .cells #[.int .i64 ((rd_T43 l0_0 x4_2).f0), .int .i64 ((rd_T43 l0_0 x4_2).f1), .int .i64 ((rd_T43 l0_0 x4_2).f2), .slice (some ad376) ((rd_T43 l0_0 x4_2).f3).length c373_3, .int .i64 ((rd_T43 l0_0 x4_2).f4)] 43 (0, 0)) (by (with_reducible repeat first | refine kn ?_ _ | refine kd ?_ | refine ka ?_ _); exact BK374.out) hb); have n6_ := Aside0.mk (below_step (by repeat (first | (with_reducible first | exact HB.out | apply zb | apply zn | apply zd | refine zs ?_ GE359.out | refine zs ?_ GE372.out | refine zs ?_ GE374.out) | exact HB.out)) hb); clear HO_373000; clear HO_373001; clear HO_373002; clear BK359; clear BK372; clear BK374; clear HB; have HO_373000 := n0_; have HO_373001 := n1_; have HO_373002 := n2_; have BK359 := n3_; have BK372 := n4_; have BK374 := n5_; have HB := n6_; clear n0_ n1_ n2_ n3_ n4_ n5_ n6_; (try clear hb)))
                        go_ret
                        exact ⟨by first | rfl | (simp [errW_none, errW_some] <;> rfl) | (simp only [← hji53]; first | rfl | (simp [errW_none, errW_some] <;> rfl)) | (simp [*, errW_none, errW_some] <;> rfl), by repeat (first | (with_reducible first | exact HB.out | apply zb | apply zn | apply zd | refine zs ?_ GE359.out | refine zs ?_ GE372.out | refine zs ?_ GE374.out) | exact HB.out)⟩
                      ·replace c73 := Bool.eq_false_iff.mpr c73
                       subst c73
                       have H1 : (some false) = some r := by rw [if_neg (show ¬ (false = true) by decide)] at H; exact H
                       clear H
                       have H := H1
                       clear H1
                       obtain rfl := Option.some.inj H
                       try go_wp2
                       have n0_ := Aside0.mk (Kd.R_drew HO_373000.out)
                       have n1_ := Aside0.mk (Kd.R_drew HO_373001.out)
                       have n2_ := Aside0.mk (Kd.R_drew HO_373002.out)
                       have n3_ := Aside0.mk (blk_drew BK359.out)
                       have n4_ := Aside0.mk (blk_drew BK372.out)
                       have n5_ := Aside0.mk (blk_drew BK374.out)
                       have n6_ := Aside0.mk (below_drew1 HB.out)
                       clear HO_373000
                       clear HO_373001
                       clear HO_373002
                       clear BK359
                       clear BK372
                       clear BK374
                       clear HB
                       have HO_373000 := n0_
                       have HO_373001 := n1_
                       have HO_373002 := n2_
                       have BK359 := n3_
                       have BK372 := n4_
                       have BK374 := n5_
                       have HB := n6_
                       clear n0_ n1_ n2_ n3_ n4_ n5_ n6_
                       have p376 : 0 ≤ (x6_3 : Int) := of_decide_eq_true (by first | (with_reducible assumption) | assumption)
                       have q376 : x6_3 < (((rd_T43 l0_0 x4_2).f3).length : Int) := of_decide_eq_true (by first | (with_reducible assumption) | assumption)
                       obtain ⟨ad376, e376, hx376_0, hx376_1⟩ := at_T40 HR373_3.out x6_3 p376 q376
                       have hw376_1 := hx376_1
                       have hw376_0 := hx376_0
                       cases e376
                       replace hx376_0 := (HB.out.cell (World.block_lt_of_cell? w _ hx376_0)).trans hx376_0
                       replace hx376_1 := (HB.out.cell (World.block_lt_of_cell? w _ hx376_1)).trans hx376_1
                       replace p376 := eq_true p376
                       replace q376 := eq_true q376
                       refine start_ (n := 8) (S := fun w' => w'.cell? ⟨gb359, 0, none⟩ = some (.slice (some ad373) l0_0.length c0_0) ∧ w'.cell? ⟨gb359, 1, none⟩ = some (.slice A0_1 l0_1.length c0_1) ∧ w'.cell? ⟨gb374, 0, none⟩ = some (.int .i64 ((rd_T43 l0_0 x4_2).f0)) ∧ w'.cell? ⟨gb374, 1, none⟩ = some (.int .i64 ((rd_T43 l0_0 x4_2).f1)) ∧ w'.cell? ⟨gb374, 2, none⟩ = some (.int .i64 ((rd_T43 l0_0 x4_2).f2)) ∧ w'.cell? ⟨gb374, 3, none⟩ = some (.slice (some ad376) ((rd_T43 l0_0 x4_2).f3).length c373_3) ∧ w'.cell? ⟨gb374, 4, none⟩ = some (.int .i64 ((rd_T43 l0_0 x4_2).f4)) ∧ w'.cell? (ad376.add ((x6_3).toNat * 2)) = some (.int .i64 ((rd_T40 ((rd_T43 l0_0 x4_2).f3) x6_3).f0)) ∧ w'.cell? ⟨(ad376.add ((x6_3).toNat * 2)).block, (ad376.add ((x6_3).toNat * 2)).off + 1, none⟩ = some (.int .i64 ((rd_T40 ((rd_T43 l0_0 x4_2).f3) x6_3).f1))) (ds := []) #[false, false, false, false, false, false, false, false] (by kernel_rfl) rfl rfl ⟨(blk_cell BK359.out 0).trans rfl, (blk_cell BK359.out 1).trans rfl, (blk_cell BK374.out 0).trans rfl, (blk_cell BK374.out 1).trans rfl, (blk_cell BK374.out 2).trans rfl, (blk_cell BK374.out 3).trans rfl, (blk_cell BK374.out 4).trans rfl, ((HB.out.cell (World.block_lt_of_cell? w _ hw376_0)).trans hw376_0), ((HB.out.cell (World.block_lt_of_cell? w _ hw376_1)).trans hw376_1)⟩ (fun hHeld => ?_); refine with_tabW heirloomlaw11_ReachClosed.tab13 heirloomlaw11_ReachClosed.bits13 (fun HT_ HW_ => ?_)
                       generalize wc.drew = w100 at HO_373000 HO_373001 HO_373002 BK359 BK372 BK374 HB hx376_0 hx376_1 hHeld ⊢
                       refine pure_ (i := 1) (N := some 55) (v := ?_) (a' := ?_) #[false, true, false, false, false, false, false, false] rfl rfl (any_of HT_.out (by kernel_rfl)) (fun _ _ _ h => h) (Or.inl ⟨by rfl, ?_⟩) ?_ ?_
                       rotate_left
                       ·intro w'
                        go_simp
                        first | with_reducible rfl | (rw [if_neg (by have hq_ : (_ + _ : Nat) ≤ 9223372036854775807 := (by assumption); simp only [ByteArray.size_extract] at hq_; simp only [decide_eq_true_eq] at *; omega)]; done)
                       rotate_left
                       ·simp only [Act.put, List.setIfInBounds_toArray, List.set_cons_zero, List.set_cons_succ, i64_w, i32_w]
                        rfl
                       refine pure_ (i := 3) (N := some 57) (v := ?_) (a' := ?_) #[false, true, false, true, false, false, false, false] rfl rfl (any_of HT_.out (by kernel_rfl)) (fun _ _ _ h => h) (Or.inl ⟨by rfl, ?_⟩) ?_ ?_
                       rotate_left
                       ·intro w'
                        go_simp
                        first | with_reducible rfl | (rw [if_neg (by have hq_ : (_ + _ : Nat) ≤ 9223372036854775807 := (by assumption); simp only [ByteArray.size_extract] at hq_; simp only [decide_eq_true_eq] at *; omega)]; done)
                       rotate_left
                       ·simp only [Act.put, List.setIfInBounds_toArray, List.set_cons_zero, List.set_cons_succ, i64_w, i32_w]
                        rfl
                       refine take_ (i := 0) (N := some 54) (v := ?_) (a' := ?_) #[true, true, false, true, false, false, false, false] rfl rfl (take_ofW HT_.out HW_.out (by kernel_rfl)) (fun _ _ _ h => h) (Or.inl ⟨by rfl, ?_⟩) hHeld ?_ ?_
                       rotate_left
                       ·rintro w' ⟨s0, s1, s2, s3, s4, s5, s6, s7, s8⟩
                        go_simp
                        first | with_reducible rfl | (rw [if_neg (by have hq_ : (_ + _ : Nat) ≤ 9223372036854775807 := (by assumption); simp only [ByteArray.size_extract] at hq_; simp only [decide_eq_true_eq] at *; omega)]; done)
                       rotate_left
                       ·simp only [Act.put, List.setIfInBounds_toArray, List.set_cons_zero, List.set_cons_succ, i64_w, i32_w]
                        rfl
                       refine take_ (i := 2) (N := some 56) (v := ?_) (a' := ?_) #[true, true, true, true, false, false, false, false] rfl rfl (take_ofW HT_.out HW_.out (by kernel_rfl)) (fun _ _ _ h => h) (Or.inl ⟨by rfl, ?_⟩) hHeld ?_ ?_
                       rotate_left
                       ·rintro w' ⟨s0, s1, s2, s3, s4, s5, s6, s7, s8⟩
                        go_simp
                        first | with_reducible rfl | (rw [if_neg (by have hq_ : (_ + _ : Nat) ≤ 9223372036854775807 := (by assumption); simp only [ByteArray.size_extract] at hq_; simp only [decide_eq_true_eq] at *; omega)]; done)
                       rotate_left
                       ·simp only [Act.put, List.setIfInBounds_toArray, List.set_cons_zero, List.set_cons_succ, i64_w, i32_w]
                        rfl
                       refine pure_ (i := 4) (N := some 58) (v := ?_) (a' := ?_) #[true, true, true, true, true, false, false, false] rfl rfl (any_of HT_.out (by kernel_rfl)) (fun _ _ _ h => h) (Or.inl ⟨by rfl, ?_⟩) ?_ ?_
                       rotate_left
                       ·intro w'
                        go_simp
                        first | with_reducible rfl | (rw [if_neg (by have hq_ : (_ + _ : Nat) ≤ 9223372036854775807 := (by assumption); simp only [ByteArray.size_extract] at hq_; simp only [decide_eq_true_eq] at *; omega)]; done)
                       rotate_left
                       ·simp only [Act.put, List.setIfInBounds_toArray, List.set_cons_zero, List.set_cons_succ, i64_w, i32_w]
                        rfl
                       refine take_ (i := 5) (N := some 59) (v := ?_) (a' := ?_) #[true, true, true, true, true, true, false, false] rfl rfl (take_ofW HT_.out HW_.out (by kernel_rfl)) (fun _ _ _ h => h) (Or.inl ⟨by rfl, ?_⟩) hHeld ?_ ?_
                       rotate_left
                       ·rintro w' ⟨s0, s1, s2, s3, s4, s5, s6, s7, s8⟩
                        go_simp
                        first | with_reducible rfl | (rw [if_neg (by have hq_ : (_ + _ : Nat) ≤ 9223372036854775807 := (by assumption); simp only [ByteArray.size_extract] at hq_; simp only [decide_eq_true_eq] at *; omega)]; done)
                       rotate_left
                       ·simp only [Act.put, List.setIfInBounds_toArray, List.set_cons_zero, List.set_cons_succ, i64_w, i32_w]
                        rfl
                       refine one_ (i := 6) (N := some 60) #[true, true, true, true, true, true, true, false] rfl rfl (one_of HT_.out (by kernel_rfl)) (by decide) (fun K hK => ?_)
                       refine goes_ Try.func21 (by kernel_rfl) rfl #[.agg #[.slice (some ad373) l0_0.length c0_0, .slice A0_1 l0_1.length c0_1], .agg #[.int .i64 ((rd_T40 ((rd_T43 l0_0 x4_2).f3) x6_3).f0), .int .i64 ((rd_T40 ((rd_T43 l0_0 x4_2).f3) x6_3).f1)]] (by rfl) rfl rfl (by (try simp only [List.map_toArray, List.map_cons, List.map_nil]); first | done | rfl | (simp only [List.length_drop, List.length_take]; rfl)) ?_
                       with_reducible refine (heirloomref11_Object.calls kj34 _ _ l0_0 _ _ l0_1 ((rd_T40 ((rd_T43 l0_0 x4_2).f3) x6_3).f0) ((rd_T40 ((rd_T43 l0_0 x4_2).f3) x6_3).f1) t377 _ ?side1 ?side2 ?side3 ?side4 A51.out).mono ?_
                       (case side1 => repeat (first | exact (Kd.C_below HR0_0.out HB.out) | (with_reducible refine Kd.C_alloc ?_ _) | (with_reducible refine Kd.C_drewN ?_ _) | (with_reducible refine Kd.C_drew ?_)))
                       (case side2 => exact HC0_0.out)
                       (case side3 => repeat (first | exact (Kd.C_below HR0_1.out HB.out) | (with_reducible refine Kd.C_alloc ?_ _) | (with_reducible refine Kd.C_drewN ?_ _) | (with_reducible refine Kd.C_drew ?_)))
                       (case side4 => exact HC0_1.out)
                       rintro e w101 ⟨rfl, hb⟩
                       refine ⟨_, rfl, ?_⟩
                       have n0_ := Aside0.mk (Kd.R_below (by (with_reducible repeat (first | apply Kd.R_alloc | apply Kd.R_drewN | apply Kd.R_drew)); exact HO_373000.out) hb)
                       have n1_ := Aside0.mk (Kd.R_below (by (with_reducible repeat (first | apply Kd.R_alloc | apply Kd.R_drewN | apply Kd.R_drew)); exact HO_373001.out) hb)
                       have n2_ := Aside0.mk (Kd.R_below (by (with_reducible repeat (first | apply Kd.R_alloc | apply Kd.R_drewN | apply Kd.R_drew)); exact HO_373002.out) hb)
                       have n3_ := Aside0.mk (blk_below (g := gb359) (o := .cells #[.slice (some ad373) l0_0.length c0_0, .slice A0_1 l0_1.length c0_1] 25 (0, 0)) (by (with_reducible repeat first | refine kn ?_ _ | refine kd ?_ | refine ka ?_ _); exact BK359.out) hb)
                       have n4_ := Aside0.mk (blk_below (g := gb372) (o := .cells #[.slice Ao21 t363.length co21, .slice Ao24 t366.length co24, .slice Ao25 t369.length co25] 37 (0, 0)) (by (with_reducible repeat first | refine kn ?_ _ | refine kd ?_ | refine ka ?_ _); exact BK372.out) hb)
                       have n5_ := Aside0.mk (blk_below (g := gb374) (o := .cells #[.int .i64 ((rd_T43 l0_0 x4_2).f0), .int .i64 ((rd_T43 l0_0 x4_2).f1), .int .i64 ((rd_T43 l0_0 x4_2).f2), .slice (some ad376) ((rd_T43 l0_0 x4_2).f3).length c373_3, .int .i64 ((rd_T43 l0_0 x4_2).f4)] 43 (0, 0)) (by (with_reducible repeat first | refine kn ?_ _ | refine kd ?_ | refine ka ?_ _); exact BK374.out) hb)
                       have n6_ := Aside0.mk (below_step (by repeat (first | (with_reducible first | exact HB.out | apply zb | apply zn | apply zd | refine zs ?_ GE359.out | refine zs ?_ GE372.out | refine zs ?_ GE374.out) | exact HB.out)) hb)
                       clear HO_373000
                       clear HO_373001
                       clear HO_373002
                       clear BK359
                       clear BK372
                       clear BK374
                       clear HB
                       have HO_373000 := n0_
                       have HO_373001 := n1_
                       have HO_373002 := n2_
                       have BK359 := n3_
                       have BK372 := n4_
                       have BK374 := n5_
                       have HB := n6_
                       clear n0_ n1_ n2_ n3_ n4_ n5_ n6_
                       (try clear hb)
                       (try clear hb2)
                       (try clear hk)
                       (try clear hi)
                       refine hK.out _ _ ⟨(blk_cell BK359.out 0).trans rfl, (blk_cell BK359.out 1).trans rfl, (blk_cell BK374.out 0).trans rfl, (blk_cell BK374.out 1).trans rfl, (blk_cell BK374.out 2).trans rfl, (blk_cell BK374.out 3).trans rfl, (blk_cell BK374.out 4).trans rfl, ((HB.out.cell (World.block_lt_of_cell? w _ hw376_0)).trans hw376_0), ((HB.out.cell (World.block_lt_of_cell? w _ hw376_1)).trans hw376_1)⟩ (fun hHeld => ?_)
                       clear hK K
                       refine norm_ (a' := ?_) ?_ ?_
                       rotate_left
                       ·show Act.put _ (some 60) _ = _
                        simp only [Act.put, List.setIfInBounds_toArray, List.set_cons_zero, List.set_cons_succ, i64_w, i32_w]
                        rfl
                       refine pure_ (i := 7) (N := some 7) (v := ?_) (a' := ?_) #[true, true, true, true, true, true, true, true] rfl rfl (any_of HT_.out (by kernel_rfl)) (fun _ _ _ h => h) (Or.inl ⟨by rfl, ?_⟩) ?_ ?_
                       rotate_left
                       ·intro w'
                        go_simp
                        first | with_reducible rfl | (rw [if_neg (by have hq_ : (_ + _ : Nat) ≤ 9223372036854775807 := (by assumption); simp only [ByteArray.size_extract] at hq_; simp only [decide_eq_true_eq] at *; omega)]; done)
                       rotate_left
                       ·simp only [Act.put, List.setIfInBounds_toArray, List.set_cons_zero, List.set_cons_succ, i64_w, i32_w]
                        rfl
                       refine done_ (done_of HT_.out (by kernel_rfl)) ?_
                       have hnb102 := NB372_359.out
                       have hnc102 := NB359_372.out
                       have hnb103 := NB372_374.out
                       have hnc103 := NB374_372.out
                       have hcz104_0 : w101.cell? ⟨gb372, 0, none⟩ = some (.slice Ao21 t363.length co21) := (blk_cell BK372.out 0).trans rfl
                       have hcz104_1 : w101.cell? ⟨gb372, 1, none⟩ = some (.slice Ao24 t366.length co24) := (blk_cell BK372.out 1).trans rfl
                       have hcz104_2 : w101.cell? ⟨gb372, 2, none⟩ = some (.slice Ao25 t369.length co25) := (blk_cell BK372.out 2).trans rfl
                       have hfz104_0 := blk_frozen BK372.out 0
                       have hfz104_1 := blk_frozen BK372.out 1
                       have hfz104_2 := blk_frozen BK372.out 2
                       have p378 : 0 ≤ ((ji53) : Int) := of_decide_eq_true (by first | (with_reducible assumption) | assumption)
                       have q378 : (ji53) < (t363.length : Int) := of_decide_eq_true (by first | (with_reducible assumption) | assumption)
                       obtain ⟨ad378, e378, hx378_0⟩ := Kd.at_bool (Kd.R_reads' HO_373000.out).2.2 (ji53) p378 q378
                       (try rw [← Nbq56.out] at hx378_0)
                       cases e378
                       replace p378 := eq_true p378
                       replace q378 := eq_true q378
                       try go_wp2_with (first | (go_at_call 22; (with_reducible refine (heirloomlaw11_cleared.calls kj34 _ _ t363 _ _ t366 _ _ t369 (wrap64 (x4_2 + 1)) x6_3 false _ ?side1 ?side2 ?side3 ?side4 ?side5 ?side6 A63.out).mono ?_); (case side1 => repeat (first | exact (Kd.R_reads' HO_373000.out).2.2 | (with_reducible refine Kd.C_alloc ?_ _) | (with_reducible refine Kd.C_drewN ?_ _) | (with_reducible refine Kd.C_drew ?_))); (case side2 => exact (Kd.R_reads' HO_373000.out).2.1); (case side3 => repeat (first | exact (Kd.R_reads' HO_373001.out).2.2 | (with_reducible refine Kd.C_alloc ?_ _) | (with_reducible refine Kd.C_drewN ?_ _) | (with_reducible refine Kd.C_drew ?_))); (case side4 => exact (Kd.R_reads' HO_373001.out).2.1); (case side5 => repeat (first | exact (Kd.R_reads' HO_373002.out).2.2 | (with_reducible refine Kd.C_alloc ?_ _) | (with_reducible refine Kd.C_drewN ?_ _) | (with_reducible refine Kd.C_drew ?_))); (case side6 => exact (Kd.R_reads' HO_373002.out).2.1); rintro e w105 ⟨rfl, hb⟩; have n0_ := Aside0.mk (Kd.R_below (by (with_reducible repeat (first | apply Kd.R_alloc | apply Kd.R_drewN | apply Kd.R_drew)); exact HO_373000.out) hb); have n1_ := Aside0.mk (Kd.R_below (by (with_reducible repeat (first | apply Kd.R_alloc | apply Kd.R_drewN | apply Kd.R_drew)); exact HO_373001.out) hb); have n2_ := Aside0.mk (Kd.R_below (by (with_reducible repeat (first | apply Kd.R_alloc | apply Kd.R_drewN | apply Kd.R_drew)); exact HO_373002.out) hb); have n3_ := Aside0.mk (blk_below (g := gb359) (o := .cells #[.slice (some ad373) l0_0.length c0_0, .slice A0_1 l0_1.length c0_1] 25 (0, 0)) (by (with_reducible repeat first | refine kn ?_ _ | refine kd ?_ | refine ka ?_ _); exact BK359.out) hb); have n4_ := Aside0.mk (blk_below (g := gb372) (o := .cells #[.slice (some ad378) t363.length co21, .slice Ao24 t366.length co24, .slice Ao25 t369.length co25] 37 (0, 0)) (by (with_reducible repeat first | refine kn ?_ _ | refine kd ?_ | refine ka ?_ _); exact BK372.out) hb); have n5_ := Aside0.mk (blk_below (g := gb374) (o := .cells #[.int .i64 ((rd_T43 l0_0 x4_2).f0), .int .i64 ((rd_T43 l0_0 x4_2).f1), .int .i64 ((rd_T43 l0_0 x4_2).f2), .slice (some ad376) ((rd_T43 l0_0 x4_2).f3).length c373_3, .int .i64 ((rd_T43 l0_0 x4_2).f4)] 43 (0, 0)) (by (with_reducible repeat first | refine kn ?_ _ | refine kd ?_ | refine ka ?_ _); exact BK374.out) hb); have n6_ := Aside0.mk (below_step (by repeat (first | (with_reducible first | exact HB.out | apply zb | apply zn | apply zd | refine zs ?_ GE359.out | refine zs ?_ GE372.out | refine zs ?_ GE374.out) | exact HB.out)) hb); clear HO_373000; clear HO_373001; clear HO_373002; clear BK359; clear BK372; clear BK374; clear HB; have HO_373000 := n0_; have HO_373001 := n1_; have HO_373002 := n2_; have BK359 := n3_; have BK372 := n4_; have BK374 := n5_; have HB := n6_; clear n0_ n1_ n2_ n3_ n4_ n5_ n6_; (try clear hb); have hnb106 := NB374_359.out; have hnc106 := NB359_374.out; have hcz107_0 : w105.cell? ⟨gb374, 0, none⟩ = some (.int .i64 ((rd_T43 l0_0 x4_2).f0)) := (blk_cell BK374.out 0).trans rfl; have hcz107_1 : w105.cell? ⟨gb374, 1, none⟩ = some (.int .i64 ((rd_T43 l0_0 x4_2).f1)) := (blk_cell BK374.out 1).trans rfl; have hcz107_2 : w105.cell? ⟨gb374, 2, none⟩ = some (.int .i64 ((rd_T43 l0_0 x4_2).f2)) := (blk_cell BK374.out 2).trans rfl; have hcz107_3 : w105.cell? ⟨gb374, 3, none⟩ = some (.slice (some ad376) ((rd_T43 l0_0 x4_2).f3).length c373_3) := (blk_cell BK374.out 3).trans rfl; have hcz107_4 : w105.cell? ⟨gb374, 4, none⟩ = some (.int .i64 ((rd_T43 l0_0 x4_2).f4)) := (blk_cell BK374.out 4).trans rfl; have hfz107_0 := blk_frozen BK374.out 0; have hfz107_1 := blk_frozen BK374.out 1; have hfz107_2 := blk_frozen BK374.out 2; have hfz107_3 := blk_frozen BK374.out 3; have hfz107_4 := blk_frozen BK374.out 4; have hcz108_0 : w105.cell? ⟨gb372, 0, none⟩ = some (.slice (some ad378) t363.length co21) := (blk_cell BK372.out 0).trans rfl; have hcz108_1 : w105.cell? ⟨gb372, 1, none⟩ = some (.slice Ao24 t366.length co24) := (blk_cell BK372.out 1).trans rfl; have hcz108_2 : w105.cell? ⟨gb372, 2, none⟩ = some (.slice Ao25 t369.length co25) := (blk_cell BK372.out 2).trans rfl; have hfz108_0 := blk_frozen BK372.out 0; have hfz108_1 := blk_frozen BK372.out 1; have hfz108_2 := blk_frozen BK372.out 2) | (go_at_call 22; (with_reducible refine (heirloomlaw11_cleared.calls kj34 _ _ t363 _ _ t366 _ _ t369 (wrap64 (x4_2 + 1)) (wrap64 (x6_3 + 1)) false _ ?side1 ?side2 ?side3 ?side4 ?side5 ?side6 A72.out).mono ?_); (case side1 => repeat (first | exact (Kd.R_reads' HO_373000.out).2.2 | (with_reducible refine Kd.C_alloc ?_ _) | (with_reducible refine Kd.C_drewN ?_ _) | (with_reducible refine Kd.C_drew ?_))); (case side2 => exact (Kd.R_reads' HO_373000.out).2.1); (case side3 => repeat (first | exact (Kd.R_reads' HO_373001.out).2.2 | (with_reducible refine Kd.C_alloc ?_ _) | (with_reducible refine Kd.C_drewN ?_ _) | (with_reducible refine Kd.C_drew ?_))); (case side4 => exact (Kd.R_reads' HO_373001.out).2.1); (case side5 => repeat (first | exact (Kd.R_reads' HO_373002.out).2.2 | (with_reducible refine Kd.C_alloc ?_ _) | (with_reducible refine Kd.C_drewN ?_ _) | (with_reducible refine Kd.C_drew ?_))); (case side6 => exact (Kd.R_reads' HO_373002.out).2.1); rintro e w109 ⟨rfl, hb⟩; have n0_ := Aside0.mk (Kd.R_below (by (with_reducible repeat (first | apply Kd.R_alloc | apply Kd.R_drewN | apply Kd.R_drew)); exact HO_373000.out) hb); have n1_ := Aside0.mk (Kd.R_below (by (with_reducible repeat (first | apply Kd.R_alloc | apply Kd.R_drewN | apply Kd.R_drew)); exact HO_373001.out) hb); have n2_ := Aside0.mk (Kd.R_below (by (with_reducible repeat (first | apply Kd.R_alloc | apply Kd.R_drewN | apply Kd.R_drew)); exact HO_373002.out) hb); have n3_ := Aside0.mk (blk_below (g := gb359) (o := .cells #[.slice (some ad373) l0_0.length c0_0, .slice A0_1 l0_1.length c0_1] 25 (0, 0)) (by (with_reducible repeat first | refine kn ?_ _ | refine kd ?_ | refine ka ?_ _); exact BK359.out) hb); have n4_ := Aside0.mk (blk_below (g := gb372) (o := .cells #[.slice (some ad378) t363.length co21, .slice Ao24 t366.length co24, .slice Ao25 t369.length co25] 37 (0, 0)) (by (with_reducible repeat first | refine kn ?_ _ | refine kd ?_ | refine ka ?_ _); exact BK372.out) hb); have n5_ := Aside0.mk (blk_below (g := gb374) (o := .cells #[.int .i64 ((rd_T43 l0_0 x4_2).f0), .int .i64 ((rd_T43 l0_0 x4_2).f1), .int .i64 ((rd_T43 l0_0 x4_2).f2), .slice (some ad376) ((rd_T43 l0_0 x4_2).f3).length c373_3, .int .i64 ((rd_T43 l0_0 x4_2).f4)] 43 (0, 0)) (by (with_reducible repeat first | refine kn ?_ _ | refine kd ?_ | refine ka ?_ _); exact BK374.out) hb); have n6_ := Aside0.mk (below_step (by repeat (first | (with_reducible first | exact HB.out | apply zb | apply zn | apply zd | refine zs ?_ GE359.out | refine zs ?_ GE372.out | refine zs ?_ GE374.out) | exact HB.out)) hb); clear HO_373000; clear HO_373001; clear HO_373002; clear BK359; clear BK372; clear BK374; clear HB; have HO_373000 := n0_; have HO_373001 := n1_; have HO_373002 := n2_; have BK359 := n3_; have BK372 := n4_; have BK374 := n5_; have HB := n6_; clear n0_ n1_ n2_ n3_ n4_ n5_ n6_; (try clear hb)))
                       go_ret
                       exact ⟨by first | rfl | (simp [errW_none, errW_some] <;> rfl) | (simp only [← hji53]; first | rfl | (simp [errW_none, errW_some] <;> rfl)) | (simp [*, errW_none, errW_some] <;> rfl), by repeat (first | (with_reducible first | exact HB.out | apply zb | apply zn | apply zd | refine zs ?_ GE359.out | refine zs ?_ GE372.out | refine zs ?_ GE374.out) | exact HB.out)⟩
                     ·rw [if_neg c71] at H
                      have c71b0 : decide (0 < ((rd_T43 l0_0 x4_2).f1)) = false := decide_eq_false c71
                      clear c71
                      obtain rfl := Option.some.inj H
                      try go_wp2
                      have n0_ := Aside0.mk (Kd.R_drew HO_373000.out)
                      have n1_ := Aside0.mk (Kd.R_drew HO_373001.out)
                      have n2_ := Aside0.mk (Kd.R_drew HO_373002.out)
                      have n3_ := Aside0.mk (blk_drew BK359.out)
                      have n4_ := Aside0.mk (blk_drew BK372.out)
                      have n5_ := Aside0.mk (blk_drew BK374.out)
                      have n6_ := Aside0.mk (below_drew1 HB.out)
                      clear HO_373000
                      clear HO_373001
                      clear HO_373002
                      clear BK359
                      clear BK372
                      clear BK374
                      clear HB
                      have HO_373000 := n0_
                      have HO_373001 := n1_
                      have HO_373002 := n2_
                      have BK359 := n3_
                      have BK372 := n4_
                      have BK374 := n5_
                      have HB := n6_
                      clear n0_ n1_ n2_ n3_ n4_ n5_ n6_
                      have p376 : 0 ≤ (x6_3 : Int) := of_decide_eq_true (by first | (with_reducible assumption) | assumption)
                      have q376 : x6_3 < (((rd_T43 l0_0 x4_2).f3).length : Int) := of_decide_eq_true (by first | (with_reducible assumption) | assumption)
                      obtain ⟨ad376, e376, hx376_0, hx376_1⟩ := at_T40 HR373_3.out x6_3 p376 q376
                      have hw376_1 := hx376_1
                      have hw376_0 := hx376_0
                      cases e376
                      replace hx376_0 := (HB.out.cell (World.block_lt_of_cell? w _ hx376_0)).trans hx376_0
                      replace hx376_1 := (HB.out.cell (World.block_lt_of_cell? w _ hx376_1)).trans hx376_1
                      replace p376 := eq_true p376
                      replace q376 := eq_true q376
                      refine start_ (n := 8) (S := fun w' => w'.cell? ⟨gb359, 0, none⟩ = some (.slice (some ad373) l0_0.length c0_0) ∧ w'.cell? ⟨gb359, 1, none⟩ = some (.slice A0_1 l0_1.length c0_1) ∧ w'.cell? ⟨gb374, 0, none⟩ = some (.int .i64 ((rd_T43 l0_0 x4_2).f0)) ∧ w'.cell? ⟨gb374, 1, none⟩ = some (.int .i64 ((rd_T43 l0_0 x4_2).f1)) ∧ w'.cell? ⟨gb374, 2, none⟩ = some (.int .i64 ((rd_T43 l0_0 x4_2).f2)) ∧ w'.cell? ⟨gb374, 3, none⟩ = some (.slice (some ad376) ((rd_T43 l0_0 x4_2).f3).length c373_3) ∧ w'.cell? ⟨gb374, 4, none⟩ = some (.int .i64 ((rd_T43 l0_0 x4_2).f4)) ∧ w'.cell? (ad376.add ((x6_3).toNat * 2)) = some (.int .i64 ((rd_T40 ((rd_T43 l0_0 x4_2).f3) x6_3).f0)) ∧ w'.cell? ⟨(ad376.add ((x6_3).toNat * 2)).block, (ad376.add ((x6_3).toNat * 2)).off + 1, none⟩ = some (.int .i64 ((rd_T40 ((rd_T43 l0_0 x4_2).f3) x6_3).f1))) (ds := []) #[false, false, false, false, false, false, false, false] (by kernel_rfl) rfl rfl ⟨(blk_cell BK359.out 0).trans rfl, (blk_cell BK359.out 1).trans rfl, (blk_cell BK374.out 0).trans rfl, (blk_cell BK374.out 1).trans rfl, (blk_cell BK374.out 2).trans rfl, (blk_cell BK374.out 3).trans rfl, (blk_cell BK374.out 4).trans rfl, ((HB.out.cell (World.block_lt_of_cell? w _ hw376_0)).trans hw376_0), ((HB.out.cell (World.block_lt_of_cell? w _ hw376_1)).trans hw376_1)⟩ (fun hHeld => ?_); refine with_tabW heirloomlaw11_ReachClosed.tab13 heirloomlaw11_ReachClosed.bits13 (fun HT_ HW_ => ?_)
                      generalize wc.drew = w110 at HO_373000 HO_373001 HO_373002 BK359 BK372 BK374 HB hx376_0 hx376_1 hHeld ⊢
                      refine pure_ (i := 1) (N := some 55) (v := ?_) (a' := ?_) #[false, true, false, false, false, false, false, false] rfl rfl (any_of HT_.out (by kernel_rfl)) (fun _ _ _ h => h) (Or.inl ⟨by rfl, ?_⟩) ?_ ?_
                      rotate_left
                      ·intro w'
                       go_simp
                       first | with_reducible rfl | (rw [if_neg (by have hq_ : (_ + _ : Nat) ≤ 9223372036854775807 := (by assumption); simp only [ByteArray.size_extract] at hq_; simp only [decide_eq_true_eq] at *; omega)]; done)
                      rotate_left
                      ·simp only [Act.put, List.setIfInBounds_toArray, List.set_cons_zero, List.set_cons_succ, i64_w, i32_w]
                       rfl
                      refine pure_ (i := 3) (N := some 57) (v := ?_) (a' := ?_) #[false, true, false, true, false, false, false, false] rfl rfl (any_of HT_.out (by kernel_rfl)) (fun _ _ _ h => h) (Or.inl ⟨by rfl, ?_⟩) ?_ ?_
                      rotate_left
                      ·intro w'
                       go_simp
                       first | with_reducible rfl | (rw [if_neg (by have hq_ : (_ + _ : Nat) ≤ 9223372036854775807 := (by assumption); simp only [ByteArray.size_extract] at hq_; simp only [decide_eq_true_eq] at *; omega)]; done)
                      rotate_left
                      ·simp only [Act.put, List.setIfInBounds_toArray, List.set_cons_zero, List.set_cons_succ, i64_w, i32_w]
                       rfl
                      refine take_ (i := 0) (N := some 54) (v := ?_) (a' := ?_) #[true, true, false, true, false, false, false, false] rfl rfl (take_ofW HT_.out HW_.out (by kernel_rfl)) (fun _ _ _ h => h) (Or.inl ⟨by rfl, ?_⟩) hHeld ?_ ?_
                      rotate_left
                      ·rintro w' ⟨s0, s1, s2, s3, s4, s5, s6, s7, s8⟩
                       go_simp
                       first | with_reducible rfl | (rw [if_neg (by have hq_ : (_ + _ : Nat) ≤ 9223372036854775807 := (by assumption); simp only [ByteArray.size_extract] at hq_; simp only [decide_eq_true_eq] at *; omega)]; done)
                      rotate_left
                      ·simp only [Act.put, List.setIfInBounds_toArray, List.set_cons_zero, List.set_cons_succ, i64_w, i32_w]
                       rfl
                      refine take_ (i := 2) (N := some 56) (v := ?_) (a' := ?_) #[true, true, true, true, false, false, false, false] rfl rfl (take_ofW HT_.out HW_.out (by kernel_rfl)) (fun _ _ _ h => h) (Or.inl ⟨by rfl, ?_⟩) hHeld ?_ ?_
                      rotate_left
                      ·rintro w' ⟨s0, s1, s2, s3, s4, s5, s6, s7, s8⟩
                       go_simp
                       first | with_reducible rfl | (rw [if_neg (by have hq_ : (_ + _ : Nat) ≤ 9223372036854775807 := (by assumption); simp only [ByteArray.size_extract] at hq_; simp only [decide_eq_true_eq] at *; omega)]; done)
                      rotate_left
                      ·simp only [Act.put, List.setIfInBounds_toArray, List.set_cons_zero, List.set_cons_succ, i64_w, i32_w]
                       rfl
                      refine pure_ (i := 4) (N := some 58) (v := ?_) (a' := ?_) #[true, true, true, true, true, false, false, false] rfl rfl (any_of HT_.out (by kernel_rfl)) (fun _ _ _ h => h) (Or.inl ⟨by rfl, ?_⟩) ?_ ?_
                      rotate_left
                      ·intro w'
                       go_simp
                       first | with_reducible rfl | (rw [if_neg (by have hq_ : (_ + _ : Nat) ≤ 9223372036854775807 := (by assumption); simp only [ByteArray.size_extract] at hq_; simp only [decide_eq_true_eq] at *; omega)]; done)
                      rotate_left
                      ·simp only [Act.put, List.setIfInBounds_toArray, List.set_cons_zero, List.set_cons_succ, i64_w, i32_w]
                       rfl
                      refine take_ (i := 5) (N := some 59) (v := ?_) (a' := ?_) #[true, true, true, true, true, true, false, false] rfl rfl (take_ofW HT_.out HW_.out (by kernel_rfl)) (fun _ _ _ h => h) (Or.inl ⟨by rfl, ?_⟩) hHeld ?_ ?_
                      rotate_left
                      ·rintro w' ⟨s0, s1, s2, s3, s4, s5, s6, s7, s8⟩
                       go_simp
                       first | with_reducible rfl | (rw [if_neg (by have hq_ : (_ + _ : Nat) ≤ 9223372036854775807 := (by assumption); simp only [ByteArray.size_extract] at hq_; simp only [decide_eq_true_eq] at *; omega)]; done)
                      rotate_left
                      ·simp only [Act.put, List.setIfInBounds_toArray, List.set_cons_zero, List.set_cons_succ, i64_w, i32_w]
                       rfl
                      refine one_ (i := 6) (N := some 60) #[true, true, true, true, true, true, true, false] rfl rfl (one_of HT_.out (by kernel_rfl)) (by decide) (fun K hK => ?_)
                      refine goes_ Try.func21 (by kernel_rfl) rfl #[.agg #[.slice (some ad373) l0_0.length c0_0, .slice A0_1 l0_1.length c0_1], .agg #[.int .i64 ((rd_T40 ((rd_T43 l0_0 x4_2).f3) x6_3).f0), .int .i64 ((rd_T40 ((rd_T43 l0_0 x4_2).f3) x6_3).f1)]] (by rfl) rfl rfl (by (try simp only [List.map_toArray, List.map_cons, List.map_nil]); first | done | rfl | (simp only [List.length_drop, List.length_take]; rfl)) ?_
                      with_reducible refine (heirloomref11_Object.calls kj34 _ _ l0_0 _ _ l0_1 ((rd_T40 ((rd_T43 l0_0 x4_2).f3) x6_3).f0) ((rd_T40 ((rd_T43 l0_0 x4_2).f3) x6_3).f1) t377 _ ?side1 ?side2 ?side3 ?side4 A51.out).mono ?_
                      (case side1 => repeat (first | exact (Kd.C_below HR0_0.out HB.out) | (with_reducible refine Kd.C_alloc ?_ _) | (with_reducible refine Kd.C_drewN ?_ _) | (with_reducible refine Kd.C_drew ?_)))
                      (case side2 => exact HC0_0.out)
                      (case side3 => repeat (first | exact (Kd.C_below HR0_1.out HB.out) | (with_reducible refine Kd.C_alloc ?_ _) | (with_reducible refine Kd.C_drewN ?_ _) | (with_reducible refine Kd.C_drew ?_)))
                      (case side4 => exact HC0_1.out)
                      rintro e w111 ⟨rfl, hb⟩
                      refine ⟨_, rfl, ?_⟩
                      have n0_ := Aside0.mk (Kd.R_below (by (with_reducible repeat (first | apply Kd.R_alloc | apply Kd.R_drewN | apply Kd.R_drew)); exact HO_373000.out) hb)
                      have n1_ := Aside0.mk (Kd.R_below (by (with_reducible repeat (first | apply Kd.R_alloc | apply Kd.R_drewN | apply Kd.R_drew)); exact HO_373001.out) hb)
                      have n2_ := Aside0.mk (Kd.R_below (by (with_reducible repeat (first | apply Kd.R_alloc | apply Kd.R_drewN | apply Kd.R_drew)); exact HO_373002.out) hb)
                      have n3_ := Aside0.mk (blk_below (g := gb359) (o := .cells #[.slice (some ad373) l0_0.length c0_0, .slice A0_1 l0_1.length c0_1] 25 (0, 0)) (by (with_reducible repeat first | refine kn ?_ _ | refine kd ?_ | refine ka ?_ _); exact BK359.out) hb)
                      have n4_ := Aside0.mk (blk_below (g := gb372) (o := .cells #[.slice Ao21 t363.length co21, .slice Ao24 t366.length co24, .slice Ao25 t369.length co25] 37 (0, 0)) (by (with_reducible repeat first | refine kn ?_ _ | refine kd ?_ | refine ka ?_ _); exact BK372.out) hb)
                      have n5_ := Aside0.mk (blk_below (g := gb374) (o := .cells #[.int .i64 ((rd_T43 l0_0 x4_2).f0), .int .i64 ((rd_T43 l0_0 x4_2).f1), .int .i64 ((rd_T43 l0_0 x4_2).f2), .slice (some ad376) ((rd_T43 l0_0 x4_2).f3).length c373_3, .int .i64 ((rd_T43 l0_0 x4_2).f4)] 43 (0, 0)) (by (with_reducible repeat first | refine kn ?_ _ | refine kd ?_ | refine ka ?_ _); exact BK374.out) hb)
                      have n6_ := Aside0.mk (below_step (by repeat (first | (with_reducible first | exact HB.out | apply zb | apply zn | apply zd | refine zs ?_ GE359.out | refine zs ?_ GE372.out | refine zs ?_ GE374.out) | exact HB.out)) hb)
                      clear HO_373000
                      clear HO_373001
                      clear HO_373002
                      clear BK359
                      clear BK372
                      clear BK374
                      clear HB
                      have HO_373000 := n0_
                      have HO_373001 := n1_
                      have HO_373002 := n2_
                      have BK359 := n3_
                      have BK372 := n4_
                      have BK374 := n5_
                      have HB := n6_
                      clear n0_ n1_ n2_ n3_ n4_ n5_ n6_
                      (try clear hb)
                      (try clear hb2)
                      (try clear hk)
                      (try clear hi)
                      refine hK.out _ _ ⟨(blk_cell BK359.out 0).trans rfl, (blk_cell BK359.out 1).trans rfl, (blk_cell BK374.out 0).trans rfl, (blk_cell BK374.out 1).trans rfl, (blk_cell BK374.out 2).trans rfl, (blk_cell BK374.out 3).trans rfl, (blk_cell BK374.out 4).trans rfl, ((HB.out.cell (World.block_lt_of_cell? w _ hw376_0)).trans hw376_0), ((HB.out.cell (World.block_lt_of_cell? w _ hw376_1)).trans hw376_1)⟩ (fun hHeld => ?_)
                      clear hK K
                      refine norm_ (a' := ?_) ?_ ?_
                      rotate_left
                      ·show Act.put _ (some 60) _ = _
                       simp only [Act.put, List.setIfInBounds_toArray, List.set_cons_zero, List.set_cons_succ, i64_w, i32_w]
                       rfl
                      refine pure_ (i := 7) (N := some 7) (v := ?_) (a' := ?_) #[true, true, true, true, true, true, true, true] rfl rfl (any_of HT_.out (by kernel_rfl)) (fun _ _ _ h => h) (Or.inl ⟨by rfl, ?_⟩) ?_ ?_
                      rotate_left
                      ·intro w'
                       go_simp
                       first | with_reducible rfl | (rw [if_neg (by have hq_ : (_ + _ : Nat) ≤ 9223372036854775807 := (by assumption); simp only [ByteArray.size_extract] at hq_; simp only [decide_eq_true_eq] at *; omega)]; done)
                      rotate_left
                      ·simp only [Act.put, List.setIfInBounds_toArray, List.set_cons_zero, List.set_cons_succ, i64_w, i32_w]
                       rfl
                      refine done_ (done_of HT_.out (by kernel_rfl)) ?_
                      have hnb112 := NB372_359.out
                      have hnc112 := NB359_372.out
                      have hnb113 := NB372_374.out
                      have hnc113 := NB374_372.out
                      have hcz114_0 : w111.cell? ⟨gb372, 0, none⟩ = some (.slice Ao21 t363.length co21) := (blk_cell BK372.out 0).trans rfl
                      have hcz114_1 : w111.cell? ⟨gb372, 1, none⟩ = some (.slice Ao24 t366.length co24) := (blk_cell BK372.out 1).trans rfl
                      have hcz114_2 : w111.cell? ⟨gb372, 2, none⟩ = some (.slice Ao25 t369.length co25) := (blk_cell BK372.out 2).trans rfl
                      have hfz114_0 := blk_frozen BK372.out 0
                      have hfz114_1 := blk_frozen BK372.out 1
                      have hfz114_2 := blk_frozen BK372.out 2
                      have p378 : 0 ≤ ((ji53) : Int) := of_decide_eq_true (by first | (with_reducible assumption) | assumption)
                      have q378 : (ji53) < (t363.length : Int) := of_decide_eq_true (by first | (with_reducible assumption) | assumption)
                      obtain ⟨ad378, e378, hx378_0⟩ := Kd.at_bool (Kd.R_reads' HO_373000.out).2.2 (ji53) p378 q378
                      (try rw [← Nbq56.out] at hx378_0)
                      cases e378
                      replace p378 := eq_true p378
                      replace q378 := eq_true q378
                      try go_wp2_with (first | (go_at_call 22; (with_reducible refine (heirloomlaw11_cleared.calls kj34 _ _ t363 _ _ t366 _ _ t369 (wrap64 (x4_2 + 1)) x6_3 false _ ?side1 ?side2 ?side3 ?side4 ?side5 ?side6 A63.out).mono ?_); (case side1 => repeat (first | exact (Kd.R_reads' HO_373000.out).2.2 | (with_reducible refine Kd.C_alloc ?_ _) | (with_reducible refine Kd.C_drewN ?_ _) | (with_reducible refine Kd.C_drew ?_))); (case side2 => exact (Kd.R_reads' HO_373000.out).2.1); (case side3 => repeat (first | exact (Kd.R_reads' HO_373001.out).2.2 | (with_reducible refine Kd.C_alloc ?_ _) | (with_reducible refine Kd.C_drewN ?_ _) | (with_reducible refine Kd.C_drew ?_))); (case side4 => exact (Kd.R_reads' HO_373001.out).2.1); (case side5 => repeat (first | exact (Kd.R_reads' HO_373002.out).2.2 | (with_reducible refine Kd.C_alloc ?_ _) | (with_reducible refine Kd.C_drewN ?_ _) | (with_reducible refine Kd.C_drew ?_))); (case side6 => exact (Kd.R_reads' HO_373002.out).2.1); rintro e w115 ⟨rfl, hb⟩; have n0_ := Aside0.mk (Kd.R_below (by (with_reducible repeat (first | apply Kd.R_alloc | apply Kd.R_drewN | apply Kd.R_drew)); exact HO_373000.out) hb); have n1_ := Aside0.mk (Kd.R_below (by (with_reducible repeat (first | apply Kd.R_alloc | apply Kd.R_drewN | apply Kd.R_drew)); exact HO_373001.out) hb); have n2_ := Aside0.mk (Kd.R_below (by (with_reducible repeat (first | apply Kd.R_alloc | apply Kd.R_drewN | apply Kd.R_drew)); exact HO_373002.out) hb); have n3_ := Aside0.mk (blk_below (g := gb359) (o := .cells #[.slice (some ad373) l0_0.length c0_0, .slice A0_1 l0_1.length c0_1] 25 (0, 0)) (by (with_reducible repeat first | refine kn ?_ _ | refine kd ?_ | refine ka ?_ _); exact BK359.out) hb); have n4_ := Aside0.mk (blk_below (g := gb372) (o := .cells #[.slice (some ad378) t363.length co21, .slice Ao24 t366.length co24, .slice Ao25 t369.length co25] 37 (0, 0)) (by (with_reducible repeat first | refine kn ?_ _ | refine kd ?_ | refine ka ?_ _); exact BK372.out) hb); have n5_ := Aside0.mk (blk_below (g := gb374) (o := .cells #[.int .i64 ((rd_T43 l0_0 x4_2).f0), .int .i64 ((rd_T43 l0_0 x4_2).f1), .int .i64 ((rd_T43 l0_0 x4_2).f2), .slice (some ad376) ((rd_T43 l0_0 x4_2).f3).length c373_3, .int .i64 ((rd_T43 l0_0 x4_2).f4)] 43 (0, 0)) (by (with_reducible repeat first | refine kn ?_ _ | refine kd ?_ | refine ka ?_ _); exact BK374.out) hb); have n6_ := Aside0.mk (below_step (by repeat (first | (with_reducible first | exact HB.out | apply zb | apply zn | apply zd | refine zs ?_ GE359.out | refine zs ?_ GE372.out | refine zs ?_ GE374.out) | exact HB.out)) hb); clear HO_373000; clear HO_373001; clear HO_373002; clear BK359; clear BK372; clear BK374; clear HB; have HO_373000 := n0_; have HO_373001 := n1_; have HO_373002 := n2_; have BK359 := n3_; have BK372 := n4_; have BK374 := n5_; have HB := n6_; clear n0_ n1_ n2_ n3_ n4_ n5_ n6_; (try clear hb); have hnb116 := NB374_359.out; have hnc116 := NB359_374.out; have hcz117_0 : w115.cell? ⟨gb374, 0, none⟩ = some (.int .i64 ((rd_T43 l0_0 x4_2).f0)) := (blk_cell BK374.out 0).trans rfl; have hcz117_1 : w115.cell? ⟨gb374, 1, none⟩ = some (.int .i64 ((rd_T43 l0_0 x4_2).f1)) := (blk_cell BK374.out 1).trans rfl; have hcz117_2 : w115.cell? ⟨gb374, 2, none⟩ = some (.int .i64 ((rd_T43 l0_0 x4_2).f2)) := (blk_cell BK374.out 2).trans rfl; have hcz117_3 : w115.cell? ⟨gb374, 3, none⟩ = some (.slice (some ad376) ((rd_T43 l0_0 x4_2).f3).length c373_3) := (blk_cell BK374.out 3).trans rfl; have hcz117_4 : w115.cell? ⟨gb374, 4, none⟩ = some (.int .i64 ((rd_T43 l0_0 x4_2).f4)) := (blk_cell BK374.out 4).trans rfl; have hfz117_0 := blk_frozen BK374.out 0; have hfz117_1 := blk_frozen BK374.out 1; have hfz117_2 := blk_frozen BK374.out 2; have hfz117_3 := blk_frozen BK374.out 3; have hfz117_4 := blk_frozen BK374.out 4))
                      go_ret
                      exact ⟨by first | rfl | (simp [errW_none, errW_some] <;> rfl) | (simp only [← hji53]; first | rfl | (simp [errW_none, errW_some] <;> rfl)) | (simp [*, errW_none, errW_some] <;> rfl), by repeat (first | (with_reducible first | exact HB.out | apply zb | apply zn | apply zd | refine zs ?_ GE359.out | refine zs ?_ GE372.out | refine zs ?_ GE374.out) | exact HB.out)⟩
                  ·rw [if_neg c55] at H
                   exact absurd H (by simp)
                 ·rw [if_neg c54] at H
                  exact absurd H (by simp)
                ·rw [if_neg c52] at H
                 have c52b0 : decide (0 < t377) = false := decide_eq_false c52
                 clear c52
                 have H' := Aside0.mk H
                 clear H
                 try go_wp2
                 have n0_ := Aside0.mk (Kd.R_drew HO_373000.out)
                 have n1_ := Aside0.mk (Kd.R_drew HO_373001.out)
                 have n2_ := Aside0.mk (Kd.R_drew HO_373002.out)
                 have n3_ := Aside0.mk (blk_drew BK359.out)
                 have n4_ := Aside0.mk (blk_drew BK372.out)
                 have n5_ := Aside0.mk (blk_drew BK374.out)
                 have n6_ := Aside0.mk (below_drew1 HB.out)
                 clear HO_373000
                 clear HO_373001
                 clear HO_373002
                 clear BK359
                 clear BK372
                 clear BK374
                 clear HB
                 have HO_373000 := n0_
                 have HO_373001 := n1_
                 have HO_373002 := n2_
                 have BK359 := n3_
                 have BK372 := n4_
                 have BK374 := n5_
                 have HB := n6_
                 clear n0_ n1_ n2_ n3_ n4_ n5_ n6_
                 have p376 : 0 ≤ (x6_3 : Int) := of_decide_eq_true (by first | (with_reducible assumption) | assumption)
                 have q376 : x6_3 < (((rd_T43 l0_0 x4_2).f3).length : Int) := of_decide_eq_true (by first | (with_reducible assumption) | assumption)
                 obtain ⟨ad376, e376, hx376_0, hx376_1⟩ := at_T40 HR373_3.out x6_3 p376 q376
                 have hw376_1 := hx376_1
                 have hw376_0 := hx376_0
                 cases e376
                 replace hx376_0 := (HB.out.cell (World.block_lt_of_cell? w _ hx376_0)).trans hx376_0
                 replace hx376_1 := (HB.out.cell (World.block_lt_of_cell? w _ hx376_1)).trans hx376_1
                 replace p376 := eq_true p376
                 replace q376 := eq_true q376
                 refine start_ (n := 8) (S := fun w' => w'.cell? ⟨gb359, 0, none⟩ = some (.slice (some ad373) l0_0.length c0_0) ∧ w'.cell? ⟨gb359, 1, none⟩ = some (.slice A0_1 l0_1.length c0_1) ∧ w'.cell? ⟨gb374, 0, none⟩ = some (.int .i64 ((rd_T43 l0_0 x4_2).f0)) ∧ w'.cell? ⟨gb374, 1, none⟩ = some (.int .i64 ((rd_T43 l0_0 x4_2).f1)) ∧ w'.cell? ⟨gb374, 2, none⟩ = some (.int .i64 ((rd_T43 l0_0 x4_2).f2)) ∧ w'.cell? ⟨gb374, 3, none⟩ = some (.slice (some ad376) ((rd_T43 l0_0 x4_2).f3).length c373_3) ∧ w'.cell? ⟨gb374, 4, none⟩ = some (.int .i64 ((rd_T43 l0_0 x4_2).f4)) ∧ w'.cell? (ad376.add ((x6_3).toNat * 2)) = some (.int .i64 ((rd_T40 ((rd_T43 l0_0 x4_2).f3) x6_3).f0)) ∧ w'.cell? ⟨(ad376.add ((x6_3).toNat * 2)).block, (ad376.add ((x6_3).toNat * 2)).off + 1, none⟩ = some (.int .i64 ((rd_T40 ((rd_T43 l0_0 x4_2).f3) x6_3).f1))) (ds := []) #[false, false, false, false, false, false, false, false] (by kernel_rfl) rfl rfl ⟨(blk_cell BK359.out 0).trans rfl, (blk_cell BK359.out 1).trans rfl, (blk_cell BK374.out 0).trans rfl, (blk_cell BK374.out 1).trans rfl, (blk_cell BK374.out 2).trans rfl, (blk_cell BK374.out 3).trans rfl, (blk_cell BK374.out 4).trans rfl, ((HB.out.cell (World.block_lt_of_cell? w _ hw376_0)).trans hw376_0), ((HB.out.cell (World.block_lt_of_cell? w _ hw376_1)).trans hw376_1)⟩ (fun hHeld => ?_); refine with_tabW heirloomlaw11_ReachClosed.tab13 heirloomlaw11_ReachClosed.bits13 (fun HT_ HW_ => ?_)
                 generalize wc.drew = w118 at HO_373000 HO_373001 HO_373002 BK359 BK372 BK374 HB hx376_0 hx376_1 hHeld ⊢
                 refine pure_ (i := 1) (N := some 55) (v := ?_) (a' := ?_) #[false, true, false, false, false, false, false, false] rfl rfl (any_of HT_.out (by kernel_rfl)) (fun _ _ _ h => h) (Or.inl ⟨by rfl, ?_⟩) ?_ ?_
                 rotate_left
                 ·intro w'
                  go_simp
                  first | with_reducible rfl | (rw [if_neg (by have hq_ : (_ + _ : Nat) ≤ 9223372036854775807 := (by assumption); simp only [ByteArray.size_extract] at hq_; simp only [decide_eq_true_eq] at *; omega)]; done)
                 rotate_left
                 ·simp only [Act.put, List.setIfInBounds_toArray, List.set_cons_zero, List.set_cons_succ, i64_w, i32_w]
                  rfl
                 refine pure_ (i := 3) (N := some 57) (v := ?_) (a' := ?_) #[false, true, false, true, false, false, false, false] rfl rfl (any_of HT_.out (by kernel_rfl)) (fun _ _ _ h => h) (Or.inl ⟨by rfl, ?_⟩) ?_ ?_
                 rotate_left
                 ·intro w'
                  go_simp
                  first | with_reducible rfl | (rw [if_neg (by have hq_ : (_ + _ : Nat) ≤ 9223372036854775807 := (by assumption); simp only [ByteArray.size_extract] at hq_; simp only [decide_eq_true_eq] at *; omega)]; done)
                 rotate_left
                 ·simp only [Act.put, List.setIfInBounds_toArray, List.set_cons_zero, List.set_cons_succ, i64_w, i32_w]
                  rfl
                 refine take_ (i := 0) (N := some 54) (v := ?_) (a' := ?_) #[true, true, false, true, false, false, false, false] rfl rfl (take_ofW HT_.out HW_.out (by kernel_rfl)) (fun _ _ _ h => h) (Or.inl ⟨by rfl, ?_⟩) hHeld ?_ ?_
                 rotate_left
                 ·rintro w' ⟨s0, s1, s2, s3, s4, s5, s6, s7, s8⟩
                  go_simp
                  first | with_reducible rfl | (rw [if_neg (by have hq_ : (_ + _ : Nat) ≤ 9223372036854775807 := (by assumption); simp only [ByteArray.size_extract] at hq_; simp only [decide_eq_true_eq] at *; omega)]; done)
                 rotate_left
                 ·simp only [Act.put, List.setIfInBounds_toArray, List.set_cons_zero, List.set_cons_succ, i64_w, i32_w]
                  rfl
                 refine take_ (i := 2) (N := some 56) (v := ?_) (a' := ?_) #[true, true, true, true, false, false, false, false] rfl rfl (take_ofW HT_.out HW_.out (by kernel_rfl)) (fun _ _ _ h => h) (Or.inl ⟨by rfl, ?_⟩) hHeld ?_ ?_
                 rotate_left
                 ·rintro w' ⟨s0, s1, s2, s3, s4, s5, s6, s7, s8⟩
                  go_simp
                  first | with_reducible rfl | (rw [if_neg (by have hq_ : (_ + _ : Nat) ≤ 9223372036854775807 := (by assumption); simp only [ByteArray.size_extract] at hq_; simp only [decide_eq_true_eq] at *; omega)]; done)
                 rotate_left
                 ·simp only [Act.put, List.setIfInBounds_toArray, List.set_cons_zero, List.set_cons_succ, i64_w, i32_w]
                  rfl
                 refine pure_ (i := 4) (N := some 58) (v := ?_) (a' := ?_) #[true, true, true, true, true, false, false, false] rfl rfl (any_of HT_.out (by kernel_rfl)) (fun _ _ _ h => h) (Or.inl ⟨by rfl, ?_⟩) ?_ ?_
                 rotate_left
                 ·intro w'
                  go_simp
                  first | with_reducible rfl | (rw [if_neg (by have hq_ : (_ + _ : Nat) ≤ 9223372036854775807 := (by assumption); simp only [ByteArray.size_extract] at hq_; simp only [decide_eq_true_eq] at *; omega)]; done)
                 rotate_left
                 ·simp only [Act.put, List.setIfInBounds_toArray, List.set_cons_zero, List.set_cons_succ, i64_w, i32_w]
                  rfl
                 refine take_ (i := 5) (N := some 59) (v := ?_) (a' := ?_) #[true, true, true, true, true, true, false, false] rfl rfl (take_ofW HT_.out HW_.out (by kernel_rfl)) (fun _ _ _ h => h) (Or.inl ⟨by rfl, ?_⟩) hHeld ?_ ?_
                 rotate_left
                 ·rintro w' ⟨s0, s1, s2, s3, s4, s5, s6, s7, s8⟩
                  go_simp
                  first | with_reducible rfl | (rw [if_neg (by have hq_ : (_ + _ : Nat) ≤ 9223372036854775807 := (by assumption); simp only [ByteArray.size_extract] at hq_; simp only [decide_eq_true_eq] at *; omega)]; done)
                 rotate_left
                 ·simp only [Act.put, List.setIfInBounds_toArray, List.set_cons_zero, List.set_cons_succ, i64_w, i32_w]
                  rfl
                 refine one_ (i := 6) (N := some 60) #[true, true, true, true, true, true, true, false] rfl rfl (one_of HT_.out (by kernel_rfl)) (by decide) (fun K hK => ?_)
                 refine goes_ Try.func21 (by kernel_rfl) rfl #[.agg #[.slice (some ad373) l0_0.length c0_0, .slice A0_1 l0_1.length c0_1], .agg #[.int .i64 ((rd_T40 ((rd_T43 l0_0 x4_2).f3) x6_3).f0), .int .i64 ((rd_T40 ((rd_T43 l0_0 x4_2).f3) x6_3).f1)]] (by rfl) rfl rfl (by (try simp only [List.map_toArray, List.map_cons, List.map_nil]); first | done | rfl | (simp only [List.length_drop, List.length_take]; rfl)) ?_
                 with_reducible refine (heirloomref11_Object.calls kj34 _ _ l0_0 _ _ l0_1 ((rd_T40 ((rd_T43 l0_0 x4_2).f3) x6_3).f0) ((rd_T40 ((rd_T43 l0_0 x4_2).f3) x6_3).f1) t377 _ ?side1 ?side2 ?side3 ?side4 A51.out).mono ?_
                 (case side1 => repeat (first | exact (Kd.C_below HR0_0.out HB.out) | (with_reducible refine Kd.C_alloc ?_ _) | (with_reducible refine Kd.C_drewN ?_ _) | (with_reducible refine Kd.C_drew ?_)))
                 (case side2 => exact HC0_0.out)
                 (case side3 => repeat (first | exact (Kd.C_below HR0_1.out HB.out) | (with_reducible refine Kd.C_alloc ?_ _) | (with_reducible refine Kd.C_drewN ?_ _) | (with_reducible refine Kd.C_drew ?_)))
                 (case side4 => exact HC0_1.out)
                 rintro e w119 ⟨rfl, hb⟩
                 refine ⟨_, rfl, ?_⟩
                 have n0_ := Aside0.mk (Kd.R_below (by (with_reducible repeat (first | apply Kd.R_alloc | apply Kd.R_drewN | apply Kd.R_drew)); exact HO_373000.out) hb)
                 have n1_ := Aside0.mk (Kd.R_below (by (with_reducible repeat (first | apply Kd.R_alloc | apply Kd.R_drewN | apply Kd.R_drew)); exact HO_373001.out) hb)
                 have n2_ := Aside0.mk (Kd.R_below (by (with_reducible repeat (first | apply Kd.R_alloc | apply Kd.R_drewN | apply Kd.R_drew)); exact HO_373002.out) hb)
                 have n3_ := Aside0.mk (blk_below (g := gb359) (o := .cells #[.slice (some ad373) l0_0.length c0_0, .slice A0_1 l0_1.length c0_1] 25 (0, 0)) (by (with_reducible repeat first | refine kn ?_ _ | refine kd ?_ | refine ka ?_ _); exact BK359.out) hb)
                 have n4_ := Aside0.mk (blk_below (g := gb372) (o := .cells #[.slice Ao21 t363.length co21, .slice Ao24 t366.length co24, .slice Ao25 t369.length co25] 37 (0, 0)) (by (with_reducible repeat first | refine kn ?_ _ | refine kd ?_ | refine ka ?_ _); exact BK372.out) hb)
                 have n5_ := Aside0.mk (blk_below (g := gb374) (o := .cells #[.int .i64 ((rd_T43 l0_0 x4_2).f0), .int .i64 ((rd_T43 l0_0 x4_2).f1), .int .i64 ((rd_T43 l0_0 x4_2).f2), .slice (some ad376) ((rd_T43 l0_0 x4_2).f3).length c373_3, .int .i64 ((rd_T43 l0_0 x4_2).f4)] 43 (0, 0)) (by (with_reducible repeat first | refine kn ?_ _ | refine kd ?_ | refine ka ?_ _); exact BK374.out) hb)
                 have n6_ := Aside0.mk (below_step (by repeat (first | (with_reducible first | exact HB.out | apply zb | apply zn | apply zd | refine zs ?_ GE359.out | refine zs ?_ GE372.out | refine zs ?_ GE374.out) | exact HB.out)) hb)
                 clear HO_373000
                 clear HO_373001
                 clear HO_373002
                 clear BK359
                 clear BK372
                 clear BK374
                 clear HB
                 have HO_373000 := n0_
                 have HO_373001 := n1_
                 have HO_373002 := n2_
                 have BK359 := n3_
                 have BK372 := n4_
                 have BK374 := n5_
                 have HB := n6_
                 clear n0_ n1_ n2_ n3_ n4_ n5_ n6_
                 (try clear hb)
                 (try clear hb2)
                 (try clear hk)
                 (try clear hi)
                 refine hK.out _ _ ⟨(blk_cell BK359.out 0).trans rfl, (blk_cell BK359.out 1).trans rfl, (blk_cell BK374.out 0).trans rfl, (blk_cell BK374.out 1).trans rfl, (blk_cell BK374.out 2).trans rfl, (blk_cell BK374.out 3).trans rfl, (blk_cell BK374.out 4).trans rfl, ((HB.out.cell (World.block_lt_of_cell? w _ hw376_0)).trans hw376_0), ((HB.out.cell (World.block_lt_of_cell? w _ hw376_1)).trans hw376_1)⟩ (fun hHeld => ?_)
                 clear hK K
                 refine norm_ (a' := ?_) ?_ ?_
                 rotate_left
                 ·show Act.put _ (some 60) _ = _
                  simp only [Act.put, List.setIfInBounds_toArray, List.set_cons_zero, List.set_cons_succ, i64_w, i32_w]
                  rfl
                 refine pure_ (i := 7) (N := some 7) (v := ?_) (a' := ?_) #[true, true, true, true, true, true, true, true] rfl rfl (any_of HT_.out (by kernel_rfl)) (fun _ _ _ h => h) (Or.inl ⟨by rfl, ?_⟩) ?_ ?_
                 rotate_left
                 ·intro w'
                  go_simp
                  first | with_reducible rfl | (rw [if_neg (by have hq_ : (_ + _ : Nat) ≤ 9223372036854775807 := (by assumption); simp only [ByteArray.size_extract] at hq_; simp only [decide_eq_true_eq] at *; omega)]; done)
                 rotate_left
                 ·simp only [Act.put, List.setIfInBounds_toArray, List.set_cons_zero, List.set_cons_succ, i64_w, i32_w]
                  rfl
                 refine done_ (done_of HT_.out (by kernel_rfl)) ?_
                 try go_wp2
                 go_roundg kj34
                 case measure => have := HJ1.out; have := HK2.out; have := HK3.out; have := HJ34.out; omega
                 case rel => exact ⟨(wrap64 (x6_3 + 1)), (by first | rfl | (simp; done) | (simp [*]; done)), H', ⟨by have := HJ1.out; have := HK2.out; have := HK3.out; have := HJ34.out; omega⟩, ⟨by (with_reducible repeat (first | apply Kd.R_alloc | apply Kd.R_drewN | apply Kd.R_drew)); exact HO_373000.out⟩, ⟨by (with_reducible repeat (first | apply Kd.R_alloc | apply Kd.R_drewN | apply Kd.R_drew)); exact HO_373001.out⟩, ⟨by (with_reducible repeat (first | apply Kd.R_alloc | apply Kd.R_drewN | apply Kd.R_drew)); exact HO_373002.out⟩, ⟨by (with_reducible repeat first | refine kn ?_ _ | refine kd ?_ | refine ka ?_ _); exact BK359.out⟩, ⟨by (with_reducible repeat first | refine kn ?_ _ | refine kd ?_ | refine ka ?_ _); exact BK372.out⟩, ⟨by (with_reducible repeat first | refine kn ?_ _ | refine kd ?_ | refine ka ?_ _); exact BK374.out⟩, ⟨by repeat (first | (with_reducible first | exact HB.out | apply zb | apply zn | apply zd | refine zs ?_ GE359.out | refine zs ?_ GE372.out | refine zs ?_ GE374.out) | exact HB.out)⟩⟩
               ·rw [if_neg c50] at H
                exact absurd H (by simp)
              ·rw [if_neg c49] at H
               exact absurd H (by simp)
             ·replace c48 := Bool.eq_false_iff.mpr c48
              subst c48
              have H1 : (heirloomlaw11_ReachClosed.l0 kj34 (wrap64 (x4_2 + 1)) l0_0 l0_1 t363 t366 t369) = some r := by rw [if_neg (show ¬ (false = true) by decide)] at H; exact H
              clear H
              have H := H1
              clear H1
              have H' := Aside0.mk H
              clear H
              go_wp2
              go_roundg kj34
              case measure => have := HJ1.out; have := HK2.out; have := HK3.out; have := HJ34.out; omega
              case rel => exact ⟨(wrap64 (x4_2 + 1)), (by first | rfl | (simp; done) | (simp [*]; done)), H', ⟨by have := HJ1.out; have := HK2.out; have := HK3.out; have := HJ34.out; omega⟩, ⟨by (with_reducible repeat (first | apply Kd.R_alloc | apply Kd.R_drewN | apply Kd.R_drew)); exact HO_373000.out⟩, ⟨by (with_reducible repeat (first | apply Kd.R_alloc | apply Kd.R_drewN | apply Kd.R_drew)); exact HO_373001.out⟩, ⟨by (with_reducible repeat (first | apply Kd.R_alloc | apply Kd.R_drewN | apply Kd.R_drew)); exact HO_373002.out⟩, ⟨by (with_reducible repeat first | refine kn ?_ _ | refine kd ?_ | refine ka ?_ _); exact BK359.out⟩, ⟨by (with_reducible repeat first | refine kn ?_ _ | refine kd ?_ | refine ka ?_ _); exact BK372.out⟩, ⟨by repeat (first | (with_reducible first | exact HB.out | apply zb | apply zn | apply zd | refine zs ?_ GE359.out | refine zs ?_ GE372.out | refine zs ?_ GE374.out) | exact HB.out)⟩⟩
        ·rw [if_neg c28] at H
         exact absurd H (by simp)
       ·rw [if_neg c27] at H
        have c27b0 : decide (x4_2 < (l0_0.length : Int)) = false := decide_eq_false c27
        clear c27
        have H' := Aside0.mk H
        clear H
        have hnb120 := NB359_372.out
        have hnc120 := NB372_359.out
        have hcz121_0 : wr.cell? ⟨gb359, 0, none⟩ = some (.slice A0_0 l0_0.length c0_0) := (blk_cell BK359.out 0).trans rfl
        have hcz121_1 : wr.cell? ⟨gb359, 1, none⟩ = some (.slice A0_1 l0_1.length c0_1) := (blk_cell BK359.out 1).trans rfl
        have hfz121_0 := blk_frozen BK359.out 0
        have hfz121_1 := blk_frozen BK359.out 1
        go_wp2
        go_loopg [8] k2 (fun kq v8 w' => ∃ (x8_3 : Int), v8 = .int .i64 x8_3 ∧ Aside0 (heirloomlaw11_ReachClosed.l2 kq x8_3 l0_0 l0_1 t363 t366 t369 = some r) ∧ Aside0 (kq ≤ k2) ∧ Aside0 (Kd.R Kd.bool 4 w' w.heap.size (fun _ => True) (.slice Ao21 t363.length co21) t363) ∧ Aside0 (Kd.R (Kd.int .i64) 3 w' w.heap.size (fun _ => True) (.slice Ao24 t366.length co24) t366) ∧ Aside0 (Kd.R k49 49 w' w.heap.size (fun _ => True) (.slice Ao25 t369.length co25) t369) ∧ Aside0 (w'.heap[gb359]? = some (.cells #[(.slice A0_0 l0_0.length c0_0), (.slice A0_1 l0_1.length c0_1)] 25 (0, 0))) ∧ Aside0 (w'.heap[gb372]? = some (.cells #[(.slice Ao21 t363.length co21), (.slice Ao24 t366.length co24), (.slice Ao25 t369.length co25)] 37 (0, 0))) ∧ Aside0 (Below w.heap.size w w'))
        case atStart => exact ⟨(0), (by first | rfl | (simp; done) | (simp [*]; done)), H', ⟨Nat.le_refl _⟩, ⟨by (with_reducible repeat (first | apply Kd.R_alloc | apply Kd.R_drewN | apply Kd.R_drew)); exact HO_373000.out⟩, ⟨by (with_reducible repeat (first | apply Kd.R_alloc | apply Kd.R_drewN | apply Kd.R_drew)); exact HO_373001.out⟩, ⟨by (with_reducible repeat (first | apply Kd.R_alloc | apply Kd.R_drewN | apply Kd.R_drew)); exact HO_373002.out⟩, ⟨by (with_reducible repeat first | refine kn ?_ _ | refine kd ?_ | refine ka ?_ _); exact BK359.out⟩, ⟨by (with_reducible repeat first | refine kn ?_ _ | refine kd ?_ | refine ka ?_ _); exact BK372.out⟩, ⟨by repeat (first | (with_reducible first | exact HB.out | apply zb | apply zn | apply zd | refine zs ?_ GE359.out | refine zs ?_ GE372.out) | exact HB.out)⟩⟩
        case round =>
         clear H'
         try clear c1
         try clear c2
         try clear p2
         try clear c3
         try clear p3
         try clear q3
         try clear hx3
         try clear c4
         try clear c5
         try clear q5
         try clear p6
         try clear c7
         try clear c9
         try clear c10
         try clear c11
         try clear c12
         try clear c21
         try clear c27
         try clear c27b0
         try clear c28
         try clear c37
         try clear p37
         try clear q37
         try clear hx37
         try clear c48
         try clear c49
         try clear c50
         try clear c52
         try clear c52b0
         try clear c54
         try clear c55
         try clear q56
         try clear p64
         try clear c71
         try clear c71b0
         try clear c73
         try clear c90
         try clear c91
         try clear c94
         try clear c102
         try clear c103
         try clear c106
         try clear c112
         try clear c113
         try clear c116
         try clear c120
         try clear hcz104_0
         try clear hcz104_1
         try clear hcz104_2
         try clear hcz107_0
         try clear hcz107_1
         try clear hcz107_2
         try clear hcz107_3
         try clear hcz107_4
         try clear hcz108_0
         try clear hcz108_1
         try clear hcz108_2
         try clear hcz114_0
         try clear hcz114_1
         try clear hcz114_2
         try clear hcz117_0
         try clear hcz117_1
         try clear hcz117_2
         try clear hcz117_3
         try clear hcz117_4
         try clear hcz121_0
         try clear hcz121_1
         try clear hcz92_0
         try clear hcz92_1
         try clear hcz92_2
         try clear hcz95_0
         try clear hcz95_1
         try clear hcz95_2
         try clear hcz95_3
         try clear hcz95_4
         try clear hcz96_0
         try clear hcz96_1
         try clear hcz96_2
         try clear hcz98_0
         try clear hcz98_1
         try clear hcz98_2
         try clear hcz98_3
         try clear hcz98_4
         try clear hfz104_0
         try clear hfz104_1
         try clear hfz104_2
         try clear hfz107_0
         try clear hfz107_1
         try clear hfz107_2
         try clear hfz107_3
         try clear hfz107_4
         try clear hfz108_0
         try clear hfz108_1
         try clear hfz108_2
         try clear hfz114_0
         try clear hfz114_1
         try clear hfz114_2
         try clear hfz117_0
         try clear hfz117_1
         try clear hfz117_2
         try clear hfz117_3
         try clear hfz117_4
         try clear hfz121_0
         try clear hfz121_1
         try clear hfz92_0
         try clear hfz92_1
         try clear hfz92_2
         try clear hfz95_0
         try clear hfz95_1
         try clear hfz95_2
         try clear hfz95_3
         try clear hfz95_4
         try clear hfz96_0
         try clear hfz96_1
         try clear hfz96_2
         try clear hfz98_0
         try clear hfz98_1
         try clear hfz98_2
         try clear hfz98_3
         try clear hfz98_4
         try clear hx376_0
         try clear hx376_1
         try clear hx378_0
         try clear p376
         try clear p378
         try clear q376
         try clear q378
         obtain ⟨x8_3, rfl, HA, HK3, HO_373000, HO_373001, HO_373002, BK359, BK372, HB⟩ := hrel
         cases gk with
         | zero => exact absurd HA.out (by simp [heirloomlaw11_ReachClosed.l2])
         | succ k3 =>
          have H := HA.out
          clear HA
          simp only [heirloomlaw11_ReachClosed.l2] at H
          by_cases c122 : x8_3 < (l0_1.length : Int)
          ·rw [if_pos c122] at H
           have c122b0 : decide (x8_3 < (l0_1.length : Int)) = true := decide_eq_true c122
           clear c122
           by_cases c123 : 0 ≤ x8_3
           ·rw [if_pos c123] at H
            have c123b0 : decide (0 ≤ x8_3) = true := decide_eq_true c123
            clear c123
            replace H := Option.bind_eq_some_iff.mp H
            obtain ⟨t383, A1240, H⟩ := H
            replace H : (if t383 > 0 then (if 0 ≤ (wrap64 (t383 - 1)) then (if (wrap64 (t383 - 1)) < (t363.length : Int) then (if (rdOf false t363 (wrap64 (t383 - 1)) = true) then (heirloomlaw11_ReachClosed.l2 k3 (wrap64 (x8_3 + 1)) l0_0 l0_1 t363 t366 t369) else (some false)) else (none)) else (none)) else (heirloomlaw11_ReachClosed.l2 k3 (wrap64 (x8_3 + 1)) l0_0 l0_1 t363 t366 t369)) = some r := H
            have A124 := Aside0.mk A1240
            clear A1240
            by_cases c125 : t383 > 0
            ·rw [if_pos c125] at H
             have c125b0 : decide (0 < t383) = true := decide_eq_true c125
             clear c125
             obtain ⟨ji126, hji126⟩ : ∃ j_ : Int, (wrap64 (t383 - 1)) = j_ := ⟨_, rfl⟩
             replace H : (if 0 ≤ (ji126) then (if (ji126) < (t363.length : Int) then (if (rdOf false t363 (ji126) = true) then (heirloomlaw11_ReachClosed.l2 k3 (wrap64 (x8_3 + 1)) l0_0 l0_1 t363 t366 t369) else (some false)) else (none)) else (none)) = some r := by first | (rw [hji126] at H; exact H) | (simp only [hji126] at H ⊢; exact H)
             (try rw [hji126] at A124)
             have hji126w : (IntKind.i64.wrap (t383 - 1)) = ji126 := (i64_w _).trans hji126
             by_cases c127 : 0 ≤ (ji126)
             ·rw [if_pos c127] at H
              have c127b0 : decide (0 ≤ (ji126)) = true := decide_eq_true c127
              clear c127
              by_cases c128 : (ji126) < (t363.length : Int)
              ·rw [if_pos c128] at H
               have c128b0 : decide ((ji126) < (t363.length : Int)) = true := decide_eq_true c128
               clear c128
               obtain ⟨bq129, hbq129⟩ : ∃ b_ : Bool, b_ = (rdOf false t363 (ji126)) := ⟨_, rfl⟩
               replace H : (if (bq129 = true) then (heirloomlaw11_ReachClosed.l2 k3 (wrap64 (x8_3 + 1)) l0_0 l0_1 t363 t366 t369) else (some false)) = some r := by rw [← hbq129] at H; exact H
               have Nbq129 := Aside0.mk hbq129
               clear hbq129
               by_cases c130 : (bq129 = true)
               ·subst c130
                have H1 : (heirloomlaw11_ReachClosed.l2 k3 (wrap64 (x8_3 + 1)) l0_0 l0_1 t363 t366 t369) = some r := by rw [if_pos rfl] at H; exact H
                clear H
                have H := H1
                clear H1
                have H' := Aside0.mk H
                clear H
                have hnb131 := NB359_372.out
                have hnc131 := NB372_359.out
                have hcz132_0 : wr.cell? ⟨gb359, 0, none⟩ = some (.slice A0_0 l0_0.length c0_0) := (blk_cell BK359.out 0).trans rfl
                have hcz132_1 : wr.cell? ⟨gb359, 1, none⟩ = some (.slice A0_1 l0_1.length c0_1) := (blk_cell BK359.out 1).trans rfl
                have hfz132_0 := blk_frozen BK359.out 0
                have hfz132_1 := blk_frozen BK359.out 1
                try go_wp2
                have n0_ := Aside0.mk (Kd.R_drew HO_373000.out)
                have n1_ := Aside0.mk (Kd.R_drew HO_373001.out)
                have n2_ := Aside0.mk (Kd.R_drew HO_373002.out)
                have n3_ := Aside0.mk (blk_drew BK359.out)
                have n4_ := Aside0.mk (blk_drew BK372.out)
                have n5_ := Aside0.mk (below_drew1 HB.out)
                clear HO_373000
                clear HO_373001
                clear HO_373002
                clear BK359
                clear BK372
                clear HB
                have HO_373000 := n0_
                have HO_373001 := n1_
                have HO_373002 := n2_
                have BK359 := n3_
                have BK372 := n4_
                have HB := n5_
                clear n0_ n1_ n2_ n3_ n4_ n5_
                have p382 : 0 ≤ (x8_3 : Int) := of_decide_eq_true (by first | (with_reducible assumption) | assumption)
                have q382 : x8_3 < (l0_1.length : Int) := of_decide_eq_true (by first | (with_reducible assumption) | assumption)
                obtain ⟨ad382, e382, hx382_0, hx382_1⟩ := at_T40 HR0_1.out x8_3 p382 q382
                have hw382_1 := hx382_1
                have hw382_0 := hx382_0
                cases e382
                replace hx382_0 := (HB.out.cell (World.block_lt_of_cell? w _ hx382_0)).trans hx382_0
                replace hx382_1 := (HB.out.cell (World.block_lt_of_cell? w _ hx382_1)).trans hx382_1
                replace p382 := eq_true p382
                replace q382 := eq_true q382
                refine start_ (n := 8) (S := fun w' => w'.cell? ⟨gb359, 0, none⟩ = some (.slice A0_0 l0_0.length c0_0) ∧ w'.cell? ⟨gb359, 1, none⟩ = some (.slice (some ad382) l0_1.length c0_1) ∧ w'.cell? (ad382.add ((x8_3).toNat * 2)) = some (.int .i64 ((rd_T40 l0_1 x8_3).f0)) ∧ w'.cell? ⟨(ad382.add ((x8_3).toNat * 2)).block, (ad382.add ((x8_3).toNat * 2)).off + 1, none⟩ = some (.int .i64 ((rd_T40 l0_1 x8_3).f1))) (ds := []) #[false, false, false, false, false, false, false, false] (by kernel_rfl) rfl rfl ⟨(blk_cell BK359.out 0).trans rfl, (blk_cell BK359.out 1).trans rfl, ((HB.out.cell (World.block_lt_of_cell? w _ hw382_0)).trans hw382_0), ((HB.out.cell (World.block_lt_of_cell? w _ hw382_1)).trans hw382_1)⟩ (fun hHeld => ?_); refine with_tabW heirloomlaw11_ReachClosed.tab19 heirloomlaw11_ReachClosed.bits19 (fun HT_ HW_ => ?_)
                generalize wr.drew = w133 at HO_373000 HO_373001 HO_373002 BK359 BK372 HB hx382_0 hx382_1 hHeld ⊢
                refine pure_ (i := 1) (N := some 110) (v := ?_) (a' := ?_) #[false, true, false, false, false, false, false, false] rfl rfl (any_of HT_.out (by kernel_rfl)) (fun _ _ _ h => h) (Or.inl ⟨by rfl, ?_⟩) ?_ ?_
                rotate_left
                ·intro w'
                 go_simp
                 first | with_reducible rfl | (rw [if_neg (by have hq_ : (_ + _ : Nat) ≤ 9223372036854775807 := (by assumption); simp only [ByteArray.size_extract] at hq_; simp only [decide_eq_true_eq] at *; omega)]; done)
                rotate_left
                ·simp only [Act.put, List.setIfInBounds_toArray, List.set_cons_zero, List.set_cons_succ, i64_w, i32_w]
                 rfl
                refine pure_ (i := 3) (N := some 112) (v := ?_) (a' := ?_) #[false, true, false, true, false, false, false, false] rfl rfl (any_of HT_.out (by kernel_rfl)) (fun _ _ _ h => h) (Or.inl ⟨by rfl, ?_⟩) ?_ ?_
                rotate_left
                ·intro w'
                 go_simp
                 first | with_reducible rfl | (rw [if_neg (by have hq_ : (_ + _ : Nat) ≤ 9223372036854775807 := (by assumption); simp only [ByteArray.size_extract] at hq_; simp only [decide_eq_true_eq] at *; omega)]; done)
                rotate_left
                ·simp only [Act.put, List.setIfInBounds_toArray, List.set_cons_zero, List.set_cons_succ, i64_w, i32_w]
                 rfl
                refine take_ (i := 0) (N := some 109) (v := ?_) (a' := ?_) #[true, true, false, true, false, false, false, false] rfl rfl (take_ofW HT_.out HW_.out (by kernel_rfl)) (fun _ _ _ h => h) (Or.inl ⟨by rfl, ?_⟩) hHeld ?_ ?_
                rotate_left
                ·rintro w' ⟨s0, s1, s2, s3⟩
                 go_simp
                 first | with_reducible rfl | (rw [if_neg (by have hq_ : (_ + _ : Nat) ≤ 9223372036854775807 := (by assumption); simp only [ByteArray.size_extract] at hq_; simp only [decide_eq_true_eq] at *; omega)]; done)
                rotate_left
                ·simp only [Act.put, List.setIfInBounds_toArray, List.set_cons_zero, List.set_cons_succ, i64_w, i32_w]
                 rfl
                refine take_ (i := 2) (N := some 111) (v := ?_) (a' := ?_) #[true, true, true, true, false, false, false, false] rfl rfl (take_ofW HT_.out HW_.out (by kernel_rfl)) (fun _ _ _ h => h) (Or.inl ⟨by rfl, ?_⟩) hHeld ?_ ?_
                rotate_left
                ·rintro w' ⟨s0, s1, s2, s3⟩
                 go_simp
                 first | with_reducible rfl | (rw [if_neg (by have hq_ : (_ + _ : Nat) ≤ 9223372036854775807 := (by assumption); simp only [ByteArray.size_extract] at hq_; simp only [decide_eq_true_eq] at *; omega)]; done)
                rotate_left
                ·simp only [Act.put, List.setIfInBounds_toArray, List.set_cons_zero, List.set_cons_succ, i64_w, i32_w]
                 rfl
                refine pure_ (i := 4) (N := some 113) (v := ?_) (a' := ?_) #[true, true, true, true, true, false, false, false] rfl rfl (any_of HT_.out (by kernel_rfl)) (fun _ _ _ h => h) (Or.inl ⟨by rfl, ?_⟩) ?_ ?_
                rotate_left
                ·intro w'
                 go_simp
                 first | with_reducible rfl | (rw [if_neg (by have hq_ : (_ + _ : Nat) ≤ 9223372036854775807 := (by assumption); simp only [ByteArray.size_extract] at hq_; simp only [decide_eq_true_eq] at *; omega)]; done)
                rotate_left
                ·simp only [Act.put, List.setIfInBounds_toArray, List.set_cons_zero, List.set_cons_succ, i64_w, i32_w]
                 rfl
                refine take_ (i := 5) (N := some 114) (v := ?_) (a' := ?_) #[true, true, true, true, true, true, false, false] rfl rfl (take_ofW HT_.out HW_.out (by kernel_rfl)) (fun _ _ _ h => h) (Or.inl ⟨by rfl, ?_⟩) hHeld ?_ ?_
                rotate_left
                ·rintro w' ⟨s0, s1, s2, s3⟩
                 go_simp
                 first | with_reducible rfl | (rw [if_neg (by have hq_ : (_ + _ : Nat) ≤ 9223372036854775807 := (by assumption); simp only [ByteArray.size_extract] at hq_; simp only [decide_eq_true_eq] at *; omega)]; done)
                rotate_left
                ·simp only [Act.put, List.setIfInBounds_toArray, List.set_cons_zero, List.set_cons_succ, i64_w, i32_w]
                 rfl
                refine one_ (i := 6) (N := some 115) #[true, true, true, true, true, true, true, false] rfl rfl (one_of HT_.out (by kernel_rfl)) (by decide) (fun K hK => ?_)
                refine goes_ Try.func21 (by kernel_rfl) rfl #[.agg #[.slice A0_0 l0_0.length c0_0, .slice (some ad382) l0_1.length c0_1], .agg #[.int .i64 ((rd_T40 l0_1 x8_3).f0), .int .i64 ((rd_T40 l0_1 x8_3).f1)]] (by rfl) rfl rfl (by (try simp only [List.map_toArray, List.map_cons, List.map_nil]); first | done | rfl | (simp only [List.length_drop, List.length_take]; rfl)) ?_
                with_reducible refine (heirloomref11_Object.calls k3 _ _ l0_0 _ _ l0_1 ((rd_T40 l0_1 x8_3).f0) ((rd_T40 l0_1 x8_3).f1) t383 _ ?side1 ?side2 ?side3 ?side4 A124.out).mono ?_
                (case side1 => repeat (first | exact (Kd.C_below HR0_0.out HB.out) | (with_reducible refine Kd.C_alloc ?_ _) | (with_reducible refine Kd.C_drewN ?_ _) | (with_reducible refine Kd.C_drew ?_)))
                (case side2 => exact HC0_0.out)
                (case side3 => repeat (first | exact (Kd.C_below HR0_1.out HB.out) | (with_reducible refine Kd.C_alloc ?_ _) | (with_reducible refine Kd.C_drewN ?_ _) | (with_reducible refine Kd.C_drew ?_)))
                (case side4 => exact HC0_1.out)
                rintro e w134 ⟨rfl, hb⟩
                refine ⟨_, rfl, ?_⟩
                have n0_ := Aside0.mk (Kd.R_below (by (with_reducible repeat (first | apply Kd.R_alloc | apply Kd.R_drewN | apply Kd.R_drew)); exact HO_373000.out) hb)
                have n1_ := Aside0.mk (Kd.R_below (by (with_reducible repeat (first | apply Kd.R_alloc | apply Kd.R_drewN | apply Kd.R_drew)); exact HO_373001.out) hb)
                have n2_ := Aside0.mk (Kd.R_below (by (with_reducible repeat (first | apply Kd.R_alloc | apply Kd.R_drewN | apply Kd.R_drew)); exact HO_373002.out) hb)
                have n3_ := Aside0.mk (blk_below (g := gb359) (o := .cells #[.slice A0_0 l0_0.length c0_0, .slice (some ad382) l0_1.length c0_1] 25 (0, 0)) (by (with_reducible repeat first | refine kn ?_ _ | refine kd ?_ | refine ka ?_ _); exact BK359.out) hb)
                have n4_ := Aside0.mk (blk_below (g := gb372) (o := .cells #[.slice Ao21 t363.length co21, .slice Ao24 t366.length co24, .slice Ao25 t369.length co25] 37 (0, 0)) (by (with_reducible repeat first | refine kn ?_ _ | refine kd ?_ | refine ka ?_ _); exact BK372.out) hb)
                have n5_ := Aside0.mk (below_step (by repeat (first | (with_reducible first | exact HB.out | apply zb | apply zn | apply zd | refine zs ?_ GE359.out | refine zs ?_ GE372.out) | exact HB.out)) hb)
                clear HO_373000
                clear HO_373001
                clear HO_373002
                clear BK359
                clear BK372
                clear HB
                have HO_373000 := n0_
                have HO_373001 := n1_
                have HO_373002 := n2_
                have BK359 := n3_
                have BK372 := n4_
                have HB := n5_
                clear n0_ n1_ n2_ n3_ n4_ n5_
                (try clear hb)
                (try clear hb2)
                (try clear hk)
                (try clear hi)
                refine hK.out _ _ ⟨(blk_cell BK359.out 0).trans rfl, (blk_cell BK359.out 1).trans rfl, ((HB.out.cell (World.block_lt_of_cell? w _ hw382_0)).trans hw382_0), ((HB.out.cell (World.block_lt_of_cell? w _ hw382_1)).trans hw382_1)⟩ (fun hHeld => ?_)
                clear hK K
                refine norm_ (a' := ?_) ?_ ?_
                rotate_left
                ·show Act.put _ (some 115) _ = _
                 simp only [Act.put, List.setIfInBounds_toArray, List.set_cons_zero, List.set_cons_succ, i64_w, i32_w]
                 rfl
                refine pure_ (i := 7) (N := some 9) (v := ?_) (a' := ?_) #[true, true, true, true, true, true, true, true] rfl rfl (any_of HT_.out (by kernel_rfl)) (fun _ _ _ h => h) (Or.inl ⟨by rfl, ?_⟩) ?_ ?_
                rotate_left
                ·intro w'
                 go_simp
                 first | with_reducible rfl | (rw [if_neg (by have hq_ : (_ + _ : Nat) ≤ 9223372036854775807 := (by assumption); simp only [ByteArray.size_extract] at hq_; simp only [decide_eq_true_eq] at *; omega)]; done)
                rotate_left
                ·simp only [Act.put, List.setIfInBounds_toArray, List.set_cons_zero, List.set_cons_succ, i64_w, i32_w]
                 rfl
                refine done_ (done_of HT_.out (by kernel_rfl)) ?_
                have hcz135_0 : w134.cell? ⟨gb372, 0, none⟩ = some (.slice Ao21 t363.length co21) := (blk_cell BK372.out 0).trans rfl
                have hcz135_1 : w134.cell? ⟨gb372, 1, none⟩ = some (.slice Ao24 t366.length co24) := (blk_cell BK372.out 1).trans rfl
                have hcz135_2 : w134.cell? ⟨gb372, 2, none⟩ = some (.slice Ao25 t369.length co25) := (blk_cell BK372.out 2).trans rfl
                have hfz135_0 := blk_frozen BK372.out 0
                have hfz135_1 := blk_frozen BK372.out 1
                have hfz135_2 := blk_frozen BK372.out 2
                have p384 : 0 ≤ ((ji126) : Int) := of_decide_eq_true (by first | (with_reducible assumption) | assumption)
                have q384 : (ji126) < (t363.length : Int) := of_decide_eq_true (by first | (with_reducible assumption) | assumption)
                obtain ⟨ad384, e384, hx384_0⟩ := Kd.at_bool (Kd.R_reads' HO_373000.out).2.2 (ji126) p384 q384
                (try rw [← Nbq129.out] at hx384_0)
                cases e384
                replace p384 := eq_true p384
                replace q384 := eq_true q384
                try go_wp2
                go_roundg k3
                case measure => have := HJ1.out; have := HK2.out; have := HK3.out; omega
                case rel => exact ⟨(wrap64 (x8_3 + 1)), (by first | rfl | (simp; done) | (simp [*]; done)), H', ⟨by have := HJ1.out; have := HK2.out; have := HK3.out; omega⟩, ⟨by (with_reducible repeat (first | apply Kd.R_alloc | apply Kd.R_drewN | apply Kd.R_drew)); exact HO_373000.out⟩, ⟨by (with_reducible repeat (first | apply Kd.R_alloc | apply Kd.R_drewN | apply Kd.R_drew)); exact HO_373001.out⟩, ⟨by (with_reducible repeat (first | apply Kd.R_alloc | apply Kd.R_drewN | apply Kd.R_drew)); exact HO_373002.out⟩, ⟨by (with_reducible repeat first | refine kn ?_ _ | refine kd ?_ | refine ka ?_ _); exact BK359.out⟩, ⟨by (with_reducible repeat first | refine kn ?_ _ | refine kd ?_ | refine ka ?_ _); exact BK372.out⟩, ⟨by repeat (first | (with_reducible first | exact HB.out | apply zb | apply zn | apply zd | refine zs ?_ GE359.out | refine zs ?_ GE372.out) | exact HB.out)⟩⟩
               ·replace c130 := Bool.eq_false_iff.mpr c130
                subst c130
                have H1 : (some false) = some r := by rw [if_neg (show ¬ (false = true) by decide)] at H; exact H
                clear H
                have H := H1
                clear H1
                obtain rfl := Option.some.inj H
                have hnb136 := NB359_372.out
                have hnc136 := NB372_359.out
                have hcz137_0 : wr.cell? ⟨gb359, 0, none⟩ = some (.slice A0_0 l0_0.length c0_0) := (blk_cell BK359.out 0).trans rfl
                have hcz137_1 : wr.cell? ⟨gb359, 1, none⟩ = some (.slice A0_1 l0_1.length c0_1) := (blk_cell BK359.out 1).trans rfl
                have hfz137_0 := blk_frozen BK359.out 0
                have hfz137_1 := blk_frozen BK359.out 1
                try go_wp2
                have n0_ := Aside0.mk (Kd.R_drew HO_373000.out)
                have n1_ := Aside0.mk (Kd.R_drew HO_373001.out)
                have n2_ := Aside0.mk (Kd.R_drew HO_373002.out)
                have n3_ := Aside0.mk (blk_drew BK359.out)
                have n4_ := Aside0.mk (blk_drew BK372.out)
                have n5_ := Aside0.mk (below_drew1 HB.out)
                clear HO_373000
                clear HO_373001
                clear HO_373002
                clear BK359
                clear BK372
                clear HB
                have HO_373000 := n0_
                have HO_373001 := n1_
                have HO_373002 := n2_
                have BK359 := n3_
                have BK372 := n4_
                have HB := n5_
                clear n0_ n1_ n2_ n3_ n4_ n5_
                have p382 : 0 ≤ (x8_3 : Int) := of_decide_eq_true (by first | (with_reducible assumption) | assumption)
                have q382 : x8_3 < (l0_1.length : Int) := of_decide_eq_true (by first | (with_reducible assumption) | assumption)
                obtain ⟨ad382, e382, hx382_0, hx382_1⟩ := at_T40 HR0_1.out x8_3 p382 q382
                have hw382_1 := hx382_1
                have hw382_0 := hx382_0
                cases e382
                replace hx382_0 := (HB.out.cell (World.block_lt_of_cell? w _ hx382_0)).trans hx382_0
                replace hx382_1 := (HB.out.cell (World.block_lt_of_cell? w _ hx382_1)).trans hx382_1
                replace p382 := eq_true p382
                replace q382 := eq_true q382
                refine start_ (n := 8) (S := fun w' => w'.cell? ⟨gb359, 0, none⟩ = some (.slice A0_0 l0_0.length c0_0) ∧ w'.cell? ⟨gb359, 1, none⟩ = some (.slice (some ad382) l0_1.length c0_1) ∧ w'.cell? (ad382.add ((x8_3).toNat * 2)) = some (.int .i64 ((rd_T40 l0_1 x8_3).f0)) ∧ w'.cell? ⟨(ad382.add ((x8_3).toNat * 2)).block, (ad382.add ((x8_3).toNat * 2)).off + 1, none⟩ = some (.int .i64 ((rd_T40 l0_1 x8_3).f1))) (ds := []) #[false, false, false, false, false, false, false, false] (by kernel_rfl) rfl rfl ⟨(blk_cell BK359.out 0).trans rfl, (blk_cell BK359.out 1).trans rfl, ((HB.out.cell (World.block_lt_of_cell? w _ hw382_0)).trans hw382_0), ((HB.out.cell (World.block_lt_of_cell? w _ hw382_1)).trans hw382_1)⟩ (fun hHeld => ?_); refine with_tabW heirloomlaw11_ReachClosed.tab19 heirloomlaw11_ReachClosed.bits19 (fun HT_ HW_ => ?_)
                generalize wr.drew = w138 at HO_373000 HO_373001 HO_373002 BK359 BK372 HB hx382_0 hx382_1 hHeld ⊢
                refine pure_ (i := 1) (N := some 110) (v := ?_) (a' := ?_) #[false, true, false, false, false, false, false, false] rfl rfl (any_of HT_.out (by kernel_rfl)) (fun _ _ _ h => h) (Or.inl ⟨by rfl, ?_⟩) ?_ ?_
                rotate_left
                ·intro w'
                 go_simp
                 first | with_reducible rfl | (rw [if_neg (by have hq_ : (_ + _ : Nat) ≤ 9223372036854775807 := (by assumption); simp only [ByteArray.size_extract] at hq_; simp only [decide_eq_true_eq] at *; omega)]; done)
                rotate_left
                ·simp only [Act.put, List.setIfInBounds_toArray, List.set_cons_zero, List.set_cons_succ, i64_w, i32_w]
                 rfl
                refine pure_ (i := 3) (N := some 112) (v := ?_) (a' := ?_) #[false, true, false, true, false, false, false, false] rfl rfl (any_of HT_.out (by kernel_rfl)) (fun _ _ _ h => h) (Or.inl ⟨by rfl, ?_⟩) ?_ ?_
                rotate_left
                ·intro w'
                 go_simp
                 first | with_reducible rfl | (rw [if_neg (by have hq_ : (_ + _ : Nat) ≤ 9223372036854775807 := (by assumption); simp only [ByteArray.size_extract] at hq_; simp only [decide_eq_true_eq] at *; omega)]; done)
                rotate_left
                ·simp only [Act.put, List.setIfInBounds_toArray, List.set_cons_zero, List.set_cons_succ, i64_w, i32_w]
                 rfl
                refine take_ (i := 0) (N := some 109) (v := ?_) (a' := ?_) #[true, true, false, true, false, false, false, false] rfl rfl (take_ofW HT_.out HW_.out (by kernel_rfl)) (fun _ _ _ h => h) (Or.inl ⟨by rfl, ?_⟩) hHeld ?_ ?_
                rotate_left
                ·rintro w' ⟨s0, s1, s2, s3⟩
                 go_simp
                 first | with_reducible rfl | (rw [if_neg (by have hq_ : (_ + _ : Nat) ≤ 9223372036854775807 := (by assumption); simp only [ByteArray.size_extract] at hq_; simp only [decide_eq_true_eq] at *; omega)]; done)
                rotate_left
                ·simp only [Act.put, List.setIfInBounds_toArray, List.set_cons_zero, List.set_cons_succ, i64_w, i32_w]
                 rfl
                refine take_ (i := 2) (N := some 111) (v := ?_) (a' := ?_) #[true, true, true, true, false, false, false, false] rfl rfl (take_ofW HT_.out HW_.out (by kernel_rfl)) (fun _ _ _ h => h) (Or.inl ⟨by rfl, ?_⟩) hHeld ?_ ?_
                rotate_left
                ·rintro w' ⟨s0, s1, s2, s3⟩
                 go_simp
                 first | with_reducible rfl | (rw [if_neg (by have hq_ : (_ + _ : Nat) ≤ 9223372036854775807 := (by assumption); simp only [ByteArray.size_extract] at hq_; simp only [decide_eq_true_eq] at *; omega)]; done)
                rotate_left
                ·simp only [Act.put, List.setIfInBounds_toArray, List.set_cons_zero, List.set_cons_succ, i64_w, i32_w]
                 rfl
                refine pure_ (i := 4) (N := some 113) (v := ?_) (a' := ?_) #[true, true, true, true, true, false, false, false] rfl rfl (any_of HT_.out (by kernel_rfl)) (fun _ _ _ h => h) (Or.inl ⟨by rfl, ?_⟩) ?_ ?_
                rotate_left
                ·intro w'
                 go_simp
                 first | with_reducible rfl | (rw [if_neg (by have hq_ : (_ + _ : Nat) ≤ 9223372036854775807 := (by assumption); simp only [ByteArray.size_extract] at hq_; simp only [decide_eq_true_eq] at *; omega)]; done)
                rotate_left
                ·simp only [Act.put, List.setIfInBounds_toArray, List.set_cons_zero, List.set_cons_succ, i64_w, i32_w]
                 rfl
                refine take_ (i := 5) (N := some 114) (v := ?_) (a' := ?_) #[true, true, true, true, true, true, false, false] rfl rfl (take_ofW HT_.out HW_.out (by kernel_rfl)) (fun _ _ _ h => h) (Or.inl ⟨by rfl, ?_⟩) hHeld ?_ ?_
                rotate_left
                ·rintro w' ⟨s0, s1, s2, s3⟩
                 go_simp
                 first | with_reducible rfl | (rw [if_neg (by have hq_ : (_ + _ : Nat) ≤ 9223372036854775807 := (by assumption); simp only [ByteArray.size_extract] at hq_; simp only [decide_eq_true_eq] at *; omega)]; done)
                rotate_left
                ·simp only [Act.put, List.setIfInBounds_toArray, List.set_cons_zero, List.set_cons_succ, i64_w, i32_w]
                 rfl
                refine one_ (i := 6) (N := some 115) #[true, true, true, true, true, true, true, false] rfl rfl (one_of HT_.out (by kernel_rfl)) (by decide) (fun K hK => ?_)
                refine goes_ Try.func21 (by kernel_rfl) rfl #[.agg #[.slice A0_0 l0_0.length c0_0, .slice (some ad382) l0_1.length c0_1], .agg #[.int .i64 ((rd_T40 l0_1 x8_3).f0), .int .i64 ((rd_T40 l0_1 x8_3).f1)]] (by rfl) rfl rfl (by (try simp only [List.map_toArray, List.map_cons, List.map_nil]); first | done | rfl | (simp only [List.length_drop, List.length_take]; rfl)) ?_
                with_reducible refine (heirloomref11_Object.calls k3 _ _ l0_0 _ _ l0_1 ((rd_T40 l0_1 x8_3).f0) ((rd_T40 l0_1 x8_3).f1) t383 _ ?side1 ?side2 ?side3 ?side4 A124.out).mono ?_
                (case side1 => repeat (first | exact (Kd.C_below HR0_0.out HB.out) | (with_reducible refine Kd.C_alloc ?_ _) | (with_reducible refine Kd.C_drewN ?_ _) | (with_reducible refine Kd.C_drew ?_)))
                (case side2 => exact HC0_0.out)
                (case side3 => repeat (first | exact (Kd.C_below HR0_1.out HB.out) | (with_reducible refine Kd.C_alloc ?_ _) | (with_reducible refine Kd.C_drewN ?_ _) | (with_reducible refine Kd.C_drew ?_)))
                (case side4 => exact HC0_1.out)
                rintro e w139 ⟨rfl, hb⟩
                refine ⟨_, rfl, ?_⟩
                have n0_ := Aside0.mk (Kd.R_below (by (with_reducible repeat (first | apply Kd.R_alloc | apply Kd.R_drewN | apply Kd.R_drew)); exact HO_373000.out) hb)
                have n1_ := Aside0.mk (Kd.R_below (by (with_reducible repeat (first | apply Kd.R_alloc | apply Kd.R_drewN | apply Kd.R_drew)); exact HO_373001.out) hb)
                have n2_ := Aside0.mk (Kd.R_below (by (with_reducible repeat (first | apply Kd.R_alloc | apply Kd.R_drewN | apply Kd.R_drew)); exact HO_373002.out) hb)
                have n3_ := Aside0.mk (blk_below (g := gb359) (o := .cells #[.slice A0_0 l0_0.length c0_0, .slice (some ad382) l0_1.length c0_1] 25 (0, 0)) (by (with_reducible repeat first | refine kn ?_ _ | refine kd ?_ | refine ka ?_ _); exact BK359.out) hb)
                have n4_ := Aside0.mk (blk_below (g := gb372) (o := .cells #[.slice Ao21 t363.length co21, .slice Ao24 t366.length co24, .slice Ao25 t369.length co25] 37 (0, 0)) (by (with_reducible repeat first | refine kn ?_ _ | refine kd ?_ | refine ka ?_ _); exact BK372.out) hb)
                have n5_ := Aside0.mk (below_step (by repeat (first | (with_reducible first | exact HB.out | apply zb | apply zn | apply zd | refine zs ?_ GE359.out | refine zs ?_ GE372.out) | exact HB.out)) hb)
                clear HO_373000
                clear HO_373001
                clear HO_373002
                clear BK359
                clear BK372
                clear HB
                have HO_373000 := n0_
                have HO_373001 := n1_
                have HO_373002 := n2_
                have BK359 := n3_
                have BK372 := n4_
                have HB := n5_
                clear n0_ n1_ n2_ n3_ n4_ n5_
                (try clear hb)
                (try clear hb2)
                (try clear hk)
                (try clear hi)
                refine hK.out _ _ ⟨(blk_cell BK359.out 0).trans rfl, (blk_cell BK359.out 1).trans rfl, ((HB.out.cell (World.block_lt_of_cell? w _ hw382_0)).trans hw382_0), ((HB.out.cell (World.block_lt_of_cell? w _ hw382_1)).trans hw382_1)⟩ (fun hHeld => ?_)
                clear hK K
                refine norm_ (a' := ?_) ?_ ?_
                rotate_left
                ·show Act.put _ (some 115) _ = _
                 simp only [Act.put, List.setIfInBounds_toArray, List.set_cons_zero, List.set_cons_succ, i64_w, i32_w]
                 rfl
                refine pure_ (i := 7) (N := some 9) (v := ?_) (a' := ?_) #[true, true, true, true, true, true, true, true] rfl rfl (any_of HT_.out (by kernel_rfl)) (fun _ _ _ h => h) (Or.inl ⟨by rfl, ?_⟩) ?_ ?_
                rotate_left
                ·intro w'
                 go_simp
                 first | with_reducible rfl | (rw [if_neg (by have hq_ : (_ + _ : Nat) ≤ 9223372036854775807 := (by assumption); simp only [ByteArray.size_extract] at hq_; simp only [decide_eq_true_eq] at *; omega)]; done)
                rotate_left
                ·simp only [Act.put, List.setIfInBounds_toArray, List.set_cons_zero, List.set_cons_succ, i64_w, i32_w]
                 rfl
                refine done_ (done_of HT_.out (by kernel_rfl)) ?_
                have hcz140_0 : w139.cell? ⟨gb372, 0, none⟩ = some (.slice Ao21 t363.length co21) := (blk_cell BK372.out 0).trans rfl
                have hcz140_1 : w139.cell? ⟨gb372, 1, none⟩ = some (.slice Ao24 t366.length co24) := (blk_cell BK372.out 1).trans rfl
                have hcz140_2 : w139.cell? ⟨gb372, 2, none⟩ = some (.slice Ao25 t369.length co25) := (blk_cell BK372.out 2).trans rfl
                have hfz140_0 := blk_frozen BK372.out 0
                have hfz140_1 := blk_frozen BK372.out 1
                have hfz140_2 := blk_frozen BK372.out 2
                have p384 : 0 ≤ ((ji126) : Int) := of_decide_eq_true (by first | (with_reducible assumption) | assumption)
                have q384 : (ji126) < (t363.length : Int) := of_decide_eq_true (by first | (with_reducible assumption) | assumption)
                obtain ⟨ad384, e384, hx384_0⟩ := Kd.at_bool (Kd.R_reads' HO_373000.out).2.2 (ji126) p384 q384
                (try rw [← Nbq129.out] at hx384_0)
                cases e384
                replace p384 := eq_true p384
                replace q384 := eq_true q384
                try go_wp2
                go_ret
                exact ⟨by first | rfl | (simp [errW_none, errW_some] <;> rfl) | (simp only [← hji126]; first | rfl | (simp [errW_none, errW_some] <;> rfl)) | (simp [*, errW_none, errW_some] <;> rfl), by repeat (first | (with_reducible first | exact HB.out | apply zb | apply zn | apply zd | refine zs ?_ GE359.out | refine zs ?_ GE372.out) | exact HB.out)⟩
              ·rw [if_neg c128] at H
               exact absurd H (by simp)
             ·rw [if_neg c127] at H
              exact absurd H (by simp)
            ·rw [if_neg c125] at H
             have c125b0 : decide (0 < t383) = false := decide_eq_false c125
             clear c125
             have H' := Aside0.mk H
             clear H
             have hnb141 := NB359_372.out
             have hnc141 := NB372_359.out
             have hcz142_0 : wr.cell? ⟨gb359, 0, none⟩ = some (.slice A0_0 l0_0.length c0_0) := (blk_cell BK359.out 0).trans rfl
             have hcz142_1 : wr.cell? ⟨gb359, 1, none⟩ = some (.slice A0_1 l0_1.length c0_1) := (blk_cell BK359.out 1).trans rfl
             have hfz142_0 := blk_frozen BK359.out 0
             have hfz142_1 := blk_frozen BK359.out 1
             try go_wp2
             have n0_ := Aside0.mk (Kd.R_drew HO_373000.out)
             have n1_ := Aside0.mk (Kd.R_drew HO_373001.out)
             have n2_ := Aside0.mk (Kd.R_drew HO_373002.out)
             have n3_ := Aside0.mk (blk_drew BK359.out)
             have n4_ := Aside0.mk (blk_drew BK372.out)
             have n5_ := Aside0.mk (below_drew1 HB.out)
             clear HO_373000
             clear HO_373001
             clear HO_373002
             clear BK359
             clear BK372
             clear HB
             have HO_373000 := n0_
             have HO_373001 := n1_
             have HO_373002 := n2_
             have BK359 := n3_
             have BK372 := n4_
             have HB := n5_
             clear n0_ n1_ n2_ n3_ n4_ n5_
             have p382 : 0 ≤ (x8_3 : Int) := of_decide_eq_true (by first | (with_reducible assumption) | assumption)
             have q382 : x8_3 < (l0_1.length : Int) := of_decide_eq_true (by first | (with_reducible assumption) | assumption)
             obtain ⟨ad382, e382, hx382_0, hx382_1⟩ := at_T40 HR0_1.out x8_3 p382 q382
             have hw382_1 := hx382_1
             have hw382_0 := hx382_0
             cases e382
             replace hx382_0 := (HB.out.cell (World.block_lt_of_cell? w _ hx382_0)).trans hx382_0
             replace hx382_1 := (HB.out.cell (World.block_lt_of_cell? w _ hx382_1)).trans hx382_1
             replace p382 := eq_true p382
             replace q382 := eq_true q382
             refine start_ (n := 8) (S := fun w' => w'.cell? ⟨gb359, 0, none⟩ = some (.slice A0_0 l0_0.length c0_0) ∧ w'.cell? ⟨gb359, 1, none⟩ = some (.slice (some ad382) l0_1.length c0_1) ∧ w'.cell? (ad382.add ((x8_3).toNat * 2)) = some (.int .i64 ((rd_T40 l0_1 x8_3).f0)) ∧ w'.cell? ⟨(ad382.add ((x8_3).toNat * 2)).block, (ad382.add ((x8_3).toNat * 2)).off + 1, none⟩ = some (.int .i64 ((rd_T40 l0_1 x8_3).f1))) (ds := []) #[false, false, false, false, false, false, false, false] (by kernel_rfl) rfl rfl ⟨(blk_cell BK359.out 0).trans rfl, (blk_cell BK359.out 1).trans rfl, ((HB.out.cell (World.block_lt_of_cell? w _ hw382_0)).trans hw382_0), ((HB.out.cell (World.block_lt_of_cell? w _ hw382_1)).trans hw382_1)⟩ (fun hHeld => ?_); refine with_tabW heirloomlaw11_ReachClosed.tab19 heirloomlaw11_ReachClosed.bits19 (fun HT_ HW_ => ?_)
             generalize wr.drew = w143 at HO_373000 HO_373001 HO_373002 BK359 BK372 HB hx382_0 hx382_1 hHeld ⊢
             refine pure_ (i := 1) (N := some 110) (v := ?_) (a' := ?_) #[false, true, false, false, false, false, false, false] rfl rfl (any_of HT_.out (by kernel_rfl)) (fun _ _ _ h => h) (Or.inl ⟨by rfl, ?_⟩) ?_ ?_
             rotate_left
             ·intro w'
              go_simp
              first | with_reducible rfl | (rw [if_neg (by have hq_ : (_ + _ : Nat) ≤ 9223372036854775807 := (by assumption); simp only [ByteArray.size_extract] at hq_; simp only [decide_eq_true_eq] at *; omega)]; done)
             rotate_left
             ·simp only [Act.put, List.setIfInBounds_toArray, List.set_cons_zero, List.set_cons_succ, i64_w, i32_w]
              rfl
             refine pure_ (i := 3) (N := some 112) (v := ?_) (a' := ?_) #[false, true, false, true, false, false, false, false] rfl rfl (any_of HT_.out (by kernel_rfl)) (fun _ _ _ h => h) (Or.inl ⟨by rfl, ?_⟩) ?_ ?_
             rotate_left
             ·intro w'
              go_simp
              first | with_reducible rfl | (rw [if_neg (by have hq_ : (_ + _ : Nat) ≤ 9223372036854775807 := (by assumption); simp only [ByteArray.size_extract] at hq_; simp only [decide_eq_true_eq] at *; omega)]; done)
             rotate_left
             ·simp only [Act.put, List.setIfInBounds_toArray, List.set_cons_zero, List.set_cons_succ, i64_w, i32_w]
              rfl
             refine take_ (i := 0) (N := some 109) (v := ?_) (a' := ?_) #[true, true, false, true, false, false, false, false] rfl rfl (take_ofW HT_.out HW_.out (by kernel_rfl)) (fun _ _ _ h => h) (Or.inl ⟨by rfl, ?_⟩) hHeld ?_ ?_
             rotate_left
             ·rintro w' ⟨s0, s1, s2, s3⟩
              go_simp
              first | with_reducible rfl | (rw [if_neg (by have hq_ : (_ + _ : Nat) ≤ 9223372036854775807 := (by assumption); simp only [ByteArray.size_extract] at hq_; simp only [decide_eq_true_eq] at *; omega)]; done)
             rotate_left
             ·simp only [Act.put, List.setIfInBounds_toArray, List.set_cons_zero, List.set_cons_succ, i64_w, i32_w]
              rfl
             refine take_ (i := 2) (N := some 111) (v := ?_) (a' := ?_) #[true, true, true, true, false, false, false, false] rfl rfl (take_ofW HT_.out HW_.out (by kernel_rfl)) (fun _ _ _ h => h) (Or.inl ⟨by rfl, ?_⟩) hHeld ?_ ?_
             rotate_left
             ·rintro w' ⟨s0, s1, s2, s3⟩
              go_simp
              first | with_reducible rfl | (rw [if_neg (by have hq_ : (_ + _ : Nat) ≤ 9223372036854775807 := (by assumption); simp only [ByteArray.size_extract] at hq_; simp only [decide_eq_true_eq] at *; omega)]; done)
             rotate_left
             ·simp only [Act.put, List.setIfInBounds_toArray, List.set_cons_zero, List.set_cons_succ, i64_w, i32_w]
              rfl
             refine pure_ (i := 4) (N := some 113) (v := ?_) (a' := ?_) #[true, true, true, true, true, false, false, false] rfl rfl (any_of HT_.out (by kernel_rfl)) (fun _ _ _ h => h) (Or.inl ⟨by rfl, ?_⟩) ?_ ?_
             rotate_left
             ·intro w'
              go_simp
              first | with_reducible rfl | (rw [if_neg (by have hq_ : (_ + _ : Nat) ≤ 9223372036854775807 := (by assumption); simp only [ByteArray.size_extract] at hq_; simp only [decide_eq_true_eq] at *; omega)]; done)
             rotate_left
             ·simp only [Act.put, List.setIfInBounds_toArray, List.set_cons_zero, List.set_cons_succ, i64_w, i32_w]
              rfl
             refine take_ (i := 5) (N := some 114) (v := ?_) (a' := ?_) #[true, true, true, true, true, true, false, false] rfl rfl (take_ofW HT_.out HW_.out (by kernel_rfl)) (fun _ _ _ h => h) (Or.inl ⟨by rfl, ?_⟩) hHeld ?_ ?_
             rotate_left
             ·rintro w' ⟨s0, s1, s2, s3⟩
              go_simp
              first | with_reducible rfl | (rw [if_neg (by have hq_ : (_ + _ : Nat) ≤ 9223372036854775807 := (by assumption); simp only [ByteArray.size_extract] at hq_; simp only [decide_eq_true_eq] at *; omega)]; done)
             rotate_left
             ·simp only [Act.put, List.setIfInBounds_toArray, List.set_cons_zero, List.set_cons_succ, i64_w, i32_w]
              rfl
             refine one_ (i := 6) (N := some 115) #[true, true, true, true, true, true, true, false] rfl rfl (one_of HT_.out (by kernel_rfl)) (by decide) (fun K hK => ?_)
             refine goes_ Try.func21 (by kernel_rfl) rfl #[.agg #[.slice A0_0 l0_0.length c0_0, .slice (some ad382) l0_1.length c0_1], .agg #[.int .i64 ((rd_T40 l0_1 x8_3).f0), .int .i64 ((rd_T40 l0_1 x8_3).f1)]] (by rfl) rfl rfl (by (try simp only [List.map_toArray, List.map_cons, List.map_nil]); first | done | rfl | (simp only [List.length_drop, List.length_take]; rfl)) ?_
             with_reducible refine (heirloomref11_Object.calls k3 _ _ l0_0 _ _ l0_1 ((rd_T40 l0_1 x8_3).f0) ((rd_T40 l0_1 x8_3).f1) t383 _ ?side1 ?side2 ?side3 ?side4 A124.out).mono ?_
             (case side1 => repeat (first | exact (Kd.C_below HR0_0.out HB.out) | (with_reducible refine Kd.C_alloc ?_ _) | (with_reducible refine Kd.C_drewN ?_ _) | (with_reducible refine Kd.C_drew ?_)))
             (case side2 => exact HC0_0.out)
             (case side3 => repeat (first | exact (Kd.C_below HR0_1.out HB.out) | (with_reducible refine Kd.C_alloc ?_ _) | (with_reducible refine Kd.C_drewN ?_ _) | (with_reducible refine Kd.C_drew ?_)))
             (case side4 => exact HC0_1.out)
             rintro e w144 ⟨rfl, hb⟩
             refine ⟨_, rfl, ?_⟩
             have n0_ := Aside0.mk (Kd.R_below (by (with_reducible repeat (first | apply Kd.R_alloc | apply Kd.R_drewN | apply Kd.R_drew)); exact HO_373000.out) hb)
             have n1_ := Aside0.mk (Kd.R_below (by (with_reducible repeat (first | apply Kd.R_alloc | apply Kd.R_drewN | apply Kd.R_drew)); exact HO_373001.out) hb)
             have n2_ := Aside0.mk (Kd.R_below (by (with_reducible repeat (first | apply Kd.R_alloc | apply Kd.R_drewN | apply Kd.R_drew)); exact HO_373002.out) hb)
             have n3_ := Aside0.mk (blk_below (g := gb359) (o := .cells #[.slice A0_0 l0_0.length c0_0, .slice (some ad382) l0_1.length c0_1] 25 (0, 0)) (by (with_reducible repeat first | refine kn ?_ _ | refine kd ?_ | refine ka ?_ _); exact BK359.out) hb)
             have n4_ := Aside0.mk (blk_below (g := gb372) (o := .cells #[.slice Ao21 t363.length co21, .slice Ao24 t366.length co24, .slice Ao25 t369.length co25] 37 (0, 0)) (by (with_reducible repeat first | refine kn ?_ _ | refine kd ?_ | refine ka ?_ _); exact BK372.out) hb)
             have n5_ := Aside0.mk (below_step (by repeat (first | (with_reducible first | exact HB.out | apply zb | apply zn | apply zd | refine zs ?_ GE359.out | refine zs ?_ GE372.out) | exact HB.out)) hb)
             clear HO_373000
             clear HO_373001
             clear HO_373002
             clear BK359
             clear BK372
             clear HB
             have HO_373000 := n0_
             have HO_373001 := n1_
             have HO_373002 := n2_
             have BK359 := n3_
             have BK372 := n4_
             have HB := n5_
             clear n0_ n1_ n2_ n3_ n4_ n5_
             (try clear hb)
             (try clear hb2)
             (try clear hk)
             (try clear hi)
             refine hK.out _ _ ⟨(blk_cell BK359.out 0).trans rfl, (blk_cell BK359.out 1).trans rfl, ((HB.out.cell (World.block_lt_of_cell? w _ hw382_0)).trans hw382_0), ((HB.out.cell (World.block_lt_of_cell? w _ hw382_1)).trans hw382_1)⟩ (fun hHeld => ?_)
             clear hK K
             refine norm_ (a' := ?_) ?_ ?_
             rotate_left
             ·show Act.put _ (some 115) _ = _
              simp only [Act.put, List.setIfInBounds_toArray, List.set_cons_zero, List.set_cons_succ, i64_w, i32_w]
              rfl
             refine pure_ (i := 7) (N := some 9) (v := ?_) (a' := ?_) #[true, true, true, true, true, true, true, true] rfl rfl (any_of HT_.out (by kernel_rfl)) (fun _ _ _ h => h) (Or.inl ⟨by rfl, ?_⟩) ?_ ?_
             rotate_left
             ·intro w'
              go_simp
              first | with_reducible rfl | (rw [if_neg (by have hq_ : (_ + _ : Nat) ≤ 9223372036854775807 := (by assumption); simp only [ByteArray.size_extract] at hq_; simp only [decide_eq_true_eq] at *; omega)]; done)
             rotate_left
             ·simp only [Act.put, List.setIfInBounds_toArray, List.set_cons_zero, List.set_cons_succ, i64_w, i32_w]
              rfl
             refine done_ (done_of HT_.out (by kernel_rfl)) ?_
             try go_wp2
             go_roundg k3
             case measure => have := HJ1.out; have := HK2.out; have := HK3.out; omega
             case rel => exact ⟨(wrap64 (x8_3 + 1)), (by first | rfl | (simp; done) | (simp [*]; done)), H', ⟨by have := HJ1.out; have := HK2.out; have := HK3.out; omega⟩, ⟨by (with_reducible repeat (first | apply Kd.R_alloc | apply Kd.R_drewN | apply Kd.R_drew)); exact HO_373000.out⟩, ⟨by (with_reducible repeat (first | apply Kd.R_alloc | apply Kd.R_drewN | apply Kd.R_drew)); exact HO_373001.out⟩, ⟨by (with_reducible repeat (first | apply Kd.R_alloc | apply Kd.R_drewN | apply Kd.R_drew)); exact HO_373002.out⟩, ⟨by (with_reducible repeat first | refine kn ?_ _ | refine kd ?_ | refine ka ?_ _); exact BK359.out⟩, ⟨by (with_reducible repeat first | refine kn ?_ _ | refine kd ?_ | refine ka ?_ _); exact BK372.out⟩, ⟨by repeat (first | (with_reducible first | exact HB.out | apply zb | apply zn | apply zd | refine zs ?_ GE359.out | refine zs ?_ GE372.out) | exact HB.out)⟩⟩
           ·rw [if_neg c123] at H
            exact absurd H (by simp)
          ·rw [if_neg c122] at H
           have c122b0 : decide (x8_3 < (l0_1.length : Int)) = false := decide_eq_false c122
           clear c122
           replace H := Option.bind_eq_some_iff.mp H
           obtain ⟨t385, A1450, H⟩ := H
           replace H : (some t385) = some r := H
           have A145 := Aside0.mk A1450
           clear A1450
           obtain rfl := Option.some.inj H
           have hnb146 := NB359_372.out
           have hnc146 := NB372_359.out
           have hcz147_0 : wr.cell? ⟨gb359, 0, none⟩ = some (.slice A0_0 l0_0.length c0_0) := (blk_cell BK359.out 0).trans rfl
           have hcz147_1 : wr.cell? ⟨gb359, 1, none⟩ = some (.slice A0_1 l0_1.length c0_1) := (blk_cell BK359.out 1).trans rfl
           have hfz147_0 := blk_frozen BK359.out 0
           have hfz147_1 := blk_frozen BK359.out 1
           go_wp2_with (first | ((with_reducible refine gate_callee (f := 11) rfl ?_); refine goesL_ (some 127) rfl rfl Try.func11 (by kernel_rfl) rfl #[] rfl (by simp only [m1, m2, m3] <;> rfl) ?_; (with_reducible refine (heirloomlaw11_alive.calls  t385 _ A145.out).mono ?_); rintro e w148 ⟨rfl, hb⟩; refine ⟨_, rfl, ?_⟩; have n0_ := Aside0.mk (Kd.R_below (by (with_reducible repeat (first | apply Kd.R_alloc | apply Kd.R_drewN | apply Kd.R_drew)); exact HO_373000.out) hb); have n1_ := Aside0.mk (Kd.R_below (by (with_reducible repeat (first | apply Kd.R_alloc | apply Kd.R_drewN | apply Kd.R_drew)); exact HO_373001.out) hb); have n2_ := Aside0.mk (Kd.R_below (by (with_reducible repeat (first | apply Kd.R_alloc | apply Kd.R_drewN | apply Kd.R_drew)); exact HO_373002.out) hb); have n3_ := Aside0.mk (blk_below (g := gb359) (o := .cells #[.slice A0_0 l0_0.length c0_0, .slice A0_1 l0_1.length c0_1] 25 (0, 0)) (by (with_reducible repeat first | refine kn ?_ _ | refine kd ?_ | refine ka ?_ _); exact BK359.out) hb); have n4_ := Aside0.mk (blk_below (g := gb372) (o := .cells #[.slice Ao21 t363.length co21, .slice Ao24 t366.length co24, .slice Ao25 t369.length co25] 37 (0, 0)) (by (with_reducible repeat first | refine kn ?_ _ | refine kd ?_ | refine ka ?_ _); exact BK372.out) hb); have n5_ := Aside0.mk (below_step (by repeat (first | (with_reducible first | exact HB.out | apply zb | apply zn | apply zd | refine zs ?_ GE359.out | refine zs ?_ GE372.out) | exact HB.out)) hb); clear HO_373000; clear HO_373001; clear HO_373002; clear BK359; clear BK372; clear HB; have HO_373000 := n0_; have HO_373001 := n1_; have HO_373002 := n2_; have BK359 := n3_; have BK372 := n4_; have HB := n5_; clear n0_ n1_ n2_ n3_ n4_ n5_; (try clear hb)))
           go_ret
           exact ⟨by first | rfl | (simp [errW_none, errW_some] <;> rfl) | (simp [*, errW_none, errW_some] <;> rfl), by repeat (first | (with_reducible first | exact HB.out | apply zb | apply zn | apply zd | refine zs ?_ GE359.out | refine zs ?_ GE372.out) | exact HB.out)⟩
    ·rw [if_neg c17] at H
     have c17b0 : ((t363.length : Int) == (l0_0.length : Int)) = false := beq_eq_false_iff_ne.mpr c17
     have c17b1 : ((t363.length : Int) != (l0_0.length : Int)) = true := bne_iff_ne.mpr c17
     have c17b2 : (t363.length == l0_0.length) = false := by first | simpa using c17 | (simp at c17 ⊢; omega)
     obtain rfl := Option.some.inj H
     have hcz149_0 : wc.cell? ⟨gb359, 0, none⟩ = some (.slice A0_0 l0_0.length c0_0) := (blk_cell BK359.out 0).trans rfl
     have hcz149_1 : wc.cell? ⟨gb359, 1, none⟩ = some (.slice A0_1 l0_1.length c0_1) := (blk_cell BK359.out 1).trans rfl
     have hfz149_0 := blk_frozen BK359.out 0
     have hfz149_1 := blk_frozen BK359.out 1
     go_wp2_with (first | ((with_reducible refine gate_callee (f := 18) rfl ?_); refine goesL_ (some 20) rfl rfl Try.func18 (by kernel_rfl) rfl #[.agg #[.slice A0_0 l0_0.length c0_0, .slice A0_1 l0_1.length c0_1]] rfl (by (try simp only [List.map_toArray, List.map_cons, List.map_nil]); first | done | rfl | (simp only [List.length_drop, List.length_take]; rfl)) ?_; (with_reducible refine (reach_Collect.calls _ _ l0_0 _ _ l0_1 t363 t366 t369 _ ?side1 ?side2 ?side3 ?side4 A16.out).mono ?_); (case side1 => repeat (first | exact (Kd.C_below HR0_0.out HB.out) | (with_reducible refine Kd.C_alloc ?_ _) | (with_reducible refine Kd.C_drewN ?_ _) | (with_reducible refine Kd.C_drew ?_))); (case side2 => exact HC0_0.out); (case side3 => repeat (first | exact (Kd.C_below HR0_1.out HB.out) | (with_reducible refine Kd.C_alloc ?_ _) | (with_reducible refine Kd.C_drewN ?_ _) | (with_reducible refine Kd.C_drew ?_))); (case side4 => exact HC0_1.out); rintro e w150 ⟨v364, v367, v370, rfl, ho0, ho1, ho2, hb⟩; refine ⟨_, rfl, ?_⟩; have n0_ := Aside0.mk (Kd.R_lower ho0 (below_size (by repeat (first | (with_reducible first | exact HB.out | apply zb | apply zn | apply zd | refine zs ?_ GE359.out) | exact HB.out)))); have n1_ := Aside0.mk (Kd.R_lower ho1 (below_size (by repeat (first | (with_reducible first | exact HB.out | apply zb | apply zn | apply zd | refine zs ?_ GE359.out) | exact HB.out)))); have n2_ := Aside0.mk (Kd.R_lower ho2 (below_size (by repeat (first | (with_reducible first | exact HB.out | apply zb | apply zn | apply zd | refine zs ?_ GE359.out) | exact HB.out)))); have n3_ := Aside0.mk (blk_below (g := gb359) (o := .cells #[.slice A0_0 l0_0.length c0_0, .slice A0_1 l0_1.length c0_1] 25 (0, 0)) (by (with_reducible repeat first | refine kn ?_ _ | refine kd ?_ | refine ka ?_ _); exact BK359.out) hb); have n4_ := Aside0.mk (below_step (by repeat (first | (with_reducible first | exact HB.out | apply zb | apply zn | apply zd | refine zs ?_ GE359.out) | exact HB.out)) hb); clear BK359; clear HB; have HO365 := n0_; have HO368 := n1_; have HO371 := n2_; have BK359 := n3_; have HB := n4_; clear n0_ n1_ n2_ n3_ n4_; (try clear hb); (try clear ho0); (try clear ho1); (try clear ho2)) | ((with_reducible refine gate_dst (N := 3) rfl ?_); (try (refine gate_guard (by rfl) ?_; dsimp only)); refine box_event ?hg (N := 3) ?hd (cs := #[.slice none 0 0, .slice none 0 0, .slice none 0 0]) (t := 37) ?hr ?_; (case hd => rfl); (case hg => rfl); (case hr => go_simp <;> rfl); intro gb372 hg w151 hbox hb; have n0_ := Aside0.mk (Kd.R_below (by (with_reducible repeat (first | apply Kd.R_alloc | apply Kd.R_drewN | apply Kd.R_drew)); exact HO365.out) hb); have n1_ := Aside0.mk (Kd.R_below (by (with_reducible repeat (first | apply Kd.R_alloc | apply Kd.R_drewN | apply Kd.R_drew)); exact HO368.out) hb); have n2_ := Aside0.mk (Kd.R_below (by (with_reducible repeat (first | apply Kd.R_alloc | apply Kd.R_drewN | apply Kd.R_drew)); exact HO371.out) hb); have n3_ := Aside0.mk (blk_below (g := gb359) (o := .cells #[.slice A0_0 l0_0.length c0_0, .slice A0_1 l0_1.length c0_1] 25 (0, 0)) (by (with_reducible repeat first | refine kn ?_ _ | refine kd ?_ | refine ka ?_ _); exact BK359.out) hb); have n4_ := Aside0.mk (below_step (by repeat (first | (with_reducible first | exact HB.out | apply zb | apply zn | apply zd | refine zs ?_ GE359.out) | exact HB.out)) hb); have n5_ := Aside0.mk (hbox); have n6_ := Aside0.mk ((by rw [hg]; exact (below_size (by repeat (first | (with_reducible first | exact HB.out | apply zb | apply zn | apply zd | refine zs ?_ GE359.out) | exact HB.out))) : w.heap.size ≤ gb372)); have n7_ := Aside0.mk ((by rw [hg]; exact (below_size (by repeat (first | (with_reducible first | exact HB.out | apply zb | apply zn | apply zd | refine zs ?_ GE359.out) | exact HB.out))) : w.heap.size ≤ gb372)); have n8_ := Aside0.mk ((by rw [hg]; exact Nat.ne_of_lt (blk_lt (g := gb359) (o := .cells #[.slice A0_0 l0_0.length c0_0, .slice A0_1 l0_1.length c0_1] 25 (0, 0)) (by (with_reducible repeat first | refine kn ?_ _ | refine kd ?_ | refine ka ?_ _); exact BK359.out)) : gb359 ≠ gb372)); have n9_ := Aside0.mk ((by rw [hg]; exact Nat.ne_of_gt (blk_lt (g := gb359) (o := .cells #[.slice A0_0 l0_0.length c0_0, .slice A0_1 l0_1.length c0_1] 25 (0, 0)) (by (with_reducible repeat first | refine kn ?_ _ | refine kd ?_ | refine ka ?_ _); exact BK359.out)) : gb372 ≠ gb359)); clear HO365; clear HO368; clear HO371; clear BK359; clear HB; have HO365 := n0_; have HO368 := n1_; have HO371 := n2_; have BK359 := n3_; have HB := n4_; have BK372 := n5_; have GW372 := n6_; have GE372 := n7_; have NB359_372 := n8_; have NB372_359 := n9_; clear n0_ n1_ n2_ n3_ n4_ n5_ n6_ n7_ n8_ n9_; clear hb hbox hg; obtain ⟨Ao152, co152, eo152⟩ := Kd.R_slice HO365.out; subst eo152; have hnb153 := NB372_359.out; have hnc153 := NB359_372.out; have hcz154_0 : w151.cell? ⟨gb372, 0, none⟩ = some (.slice none 0 0) := (blk_cell BK372.out 0).trans rfl; have hcz154_1 : w151.cell? ⟨gb372, 1, none⟩ = some (.slice none 0 0) := (blk_cell BK372.out 1).trans rfl; have hcz154_2 : w151.cell? ⟨gb372, 2, none⟩ = some (.slice none 0 0) := (blk_cell BK372.out 2).trans rfl; have hfz154_0 := blk_frozen BK372.out 0; have hfz154_1 := blk_frozen BK372.out 1; have hfz154_2 := blk_frozen BK372.out 2; obtain ⟨Ao155, co155, eo155⟩ := Kd.R_slice HO368.out; subst eo155; obtain ⟨Ao156, co156, eo156⟩ := Kd.R_slice HO371.out; subst eo156; have hcz157_0 : w151.cell? ⟨gb359, 0, none⟩ = some (.slice A0_0 l0_0.length c0_0) := (blk_cell BK359.out 0).trans rfl; have hcz157_1 : w151.cell? ⟨gb359, 1, none⟩ = some (.slice A0_1 l0_1.length c0_1) := (blk_cell BK359.out 1).trans rfl; have hfz157_0 := blk_frozen BK359.out 0; have hfz157_1 := blk_frozen BK359.out 1))
     go_ret
     exact ⟨by first | rfl | (simp [errW_none, errW_some] <;> rfl) | (simp [*, errW_none, errW_some] <;> rfl), by repeat (first | (with_reducible first | exact HB.out | apply zb | apply zn | apply zd | refine zs ?_ GE359.out | refine zs ?_ GE372.out) | exact HB.out)⟩

end Go.Proofs.Ytollnnbcfhnlfaa.QR
