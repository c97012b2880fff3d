-- WRITTEN BY wip/tools/myprint.py, a program of this session, over the kit's printer
import Derived.Test.YtollnnbcfhnlfaaQRx0
import Derived.Test.YtollnnbcfhnlfaaQRy
import Derived.Test.YtollnnbcfhnlfaaSh
import Derived.Test.YtollnnbcfhnlfaaQRx2
import Derived.Test.YtollnnbcfhnlfaaQRx3
import Derived.Test.YtollnnbcfhnlfaaQRxM
-- DENTED
namespace Go.Proofs.Ytollnnbcfhnlfaa.QR
open Go.RowKit Go.Proofs.YtollnnbcfhnlfaaW.PrintWords Go.Proofs.YtollnnbcfhnlfaaW.PrintLast Go.Proofs.YtollnnbcfhnlfaaW.PrintMore Go.Proofs.Ytollnnbcfhnlfaa.Sh
open Go.Proofs.Ytollnnbcfhnlfaa.Rg (w64i_ rd43_get)
attribute [local go_sem] max2_int min2_int max_two min_two max_three min_three max_four min_four   -- for this text's walks alone
set_option linter.unusedVariables false
set_option linter.unusedSimpArgs false

/-! ### heirloomlaw11_ReachWays: function 6 -/
mutual
def heirloomlaw11_ReachWays.l0 : Nat → Int → List Int → Int → List (S43) → List (S40) → List (S43) → List (S40) → Option (Bool)
 | 0, _, _, _, _, _, _, _ => none
 | k + 1, x6, x7, x8, x352000, x352001, x355000, x355001 => if x8 < (x352001.length : Int) then (if 0 ≤ x8 then ((heirloomlaw11_mark.f x355000 x355001 ((rd_T40 x352001 x8).f0) ((rd_T40 x352001 x8).f1) x7 1).bind fun t359 => (heirloomlaw11_ReachWays.l0 k x6 t359 (wrap64 (x8 + 1)) x352000 x352001 x355000 x355001)) else (none)) else (heirloomlaw11_ReachWays.l1 k x6 x7 1 x355000 x355001)
def heirloomlaw11_ReachWays.l1 : Nat → Int → List Int → Int → List (S43) → List (S40) → Option (Bool)
 | 0, _, _, _, _, _ => none
 | k + 1, x6, x7, x9, x355000, x355001 => if x9 ≤ x6 then (heirloomlaw11_ReachWays.l2 k x6 x7 x9 0 x355000 x355001) else ((reach_Strong.f x355000 x355001 ([] : List Int)).bind fun t365 => (if (t365.length : Int) = x6 then (heirloomlaw11_ReachWays.l4 k x6 x7 t365 0) else (some false)))
def heirloomlaw11_ReachWays.l2 : Nat → Int → List Int → Int → Int → List (S43) → List (S40) → Option (Bool)
 | 0, _, _, _, _, _, _ => none
 | k + 1, x6, x7, x9, x10, x355000, x355001 => if x10 < x6 then (heirloomlaw11_ReachWays.l3 k x6 x7 x9 x10 0 x355000 x355001) else (heirloomlaw11_ReachWays.l1 k x6 x7 (wrap64 (x9 + 1)) x355000 x355001)
def heirloomlaw11_ReachWays.l3 : Nat → Int → List Int → Int → Int → Int → List (S43) → List (S40) → Option (Bool)
 | 0, _, _, _, _, _, _, _ => none
 | k + 1, x6, x7, x9, x10, x11, x355000, x355001 => if 0 ≤ x10 then (if x10 < (x7.length : Int) then (if (rd x7 x10) = x9 then (if x10 < (x355000.length : Int) then (if x11 < (((rd_T43 x355000 x10).f3).length : Int) then (if 0 ≤ x11 then ((heirloomlaw11_mark.f x355000 x355001 ((rd_T40 ((rd_T43 x355000 x10).f3) x11).f0) ((rd_T40 ((rd_T43 x355000 x10).f3) x11).f1) x7 (wrap64 (x9 + 1))).bind fun t364 => (heirloomlaw11_ReachWays.l3 k x6 t364 x9 x10 (wrap64 (x11 + 1)) x355000 x355001)) else (none)) else (heirloomlaw11_ReachWays.l2 k x6 x7 x9 (wrap64 (x10 + 1)) x355000 x355001)) else (none)) else (heirloomlaw11_ReachWays.l2 k x6 x7 x9 (wrap64 (x10 + 1)) x355000 x355001)) else (none)) else (none)
def heirloomlaw11_ReachWays.l4 : Nat → Int → List Int → List Bool → Int → Option (Bool)
 | 0, _, _, _, _ => none
 | k + 1, x6, x7, x12, x13 => if x13 < x6 then (if 0 ≤ x13 then (if x13 < (x12.length : Int) then (if x13 < (x7.length : Int) then (if ((rdOf false x12 x13) != (decide ((rd x7 x13) > 0))) = true then (some false) else (heirloomlaw11_ReachWays.l4 k x6 x7 x12 (wrap64 (x13 + 1)))) else (none)) else (none)) else (none)) else ((heirloomlaw11_alive.f).bind fun t370 => (some t370))
end
def heirloomlaw11_ReachWays.f (k : Nat) (l0_0 : List (S43)) (l0_1 : List (S40)) (l1_0 : List (S43)) (l1_1 : List (S40)) : Option (Bool) := (heirloomlaw11_Small.f k l0_0 l0_1).bind fun t352 => (if t352 = true then (if 0 ≤ (l0_0.length : Int) then (if ((l0_0.length : Int) : Int).toNat ≤ 35184372088832 then (heirloomlaw11_ReachWays.l0 k (l0_0.length : Int) (List.replicate ((l0_0.length : Int) : Int).toNat 0) 0 l0_0 l0_1 l1_0 l1_1) else (none)) else (none)) else ((heirloomlaw11_alive.f).bind fun t353 => (some t353)))
theorem heirloomlaw11_ReachWays.mono_l : ∀ k, (∀ y0 y1 y2 y3 y4 y5 y6, LeO (heirloomlaw11_ReachWays.l0 k y0 y1 y2 y3 y4 y5 y6) (heirloomlaw11_ReachWays.l0 (k + 1) y0 y1 y2 y3 y4 y5 y6)) ∧ (∀ y0 y1 y2 y3 y4, LeO (heirloomlaw11_ReachWays.l1 k y0 y1 y2 y3 y4) (heirloomlaw11_ReachWays.l1 (k + 1) y0 y1 y2 y3 y4)) ∧ (∀ y0 y1 y2 y3 y4 y5, LeO (heirloomlaw11_ReachWays.l2 k y0 y1 y2 y3 y4 y5) (heirloomlaw11_ReachWays.l2 (k + 1) y0 y1 y2 y3 y4 y5)) ∧ (∀ y0 y1 y2 y3 y4 y5 y6, LeO (heirloomlaw11_ReachWays.l3 k y0 y1 y2 y3 y4 y5 y6) (heirloomlaw11_ReachWays.l3 (k + 1) y0 y1 y2 y3 y4 y5 y6)) ∧ (∀ y0 y1 y2 y3, LeO (heirloomlaw11_ReachWays.l4 k y0 y1 y2 y3) (heirloomlaw11_ReachWays.l4 (k + 1) y0 y1 y2 y3))
 | 0 => ⟨fun _ _ _ _ _ _ _ r h => by simp [heirloomlaw11_ReachWays.l0] at h, fun _ _ _ _ _ r h => by simp [heirloomlaw11_ReachWays.l1] at h, fun _ _ _ _ _ _ r h => by simp [heirloomlaw11_ReachWays.l2] at h, fun _ _ _ _ _ _ _ r h => by simp [heirloomlaw11_ReachWays.l3] at h, fun _ _ _ _ r h => by simp [heirloomlaw11_ReachWays.l4] at h⟩
 | k + 1 => by
  obtain ⟨ih0, ih1, ih2, ih3, ih4⟩ := heirloomlaw11_ReachWays.mono_l k
  refine ⟨?_, ?_, ?_, ?_, ?_⟩
  ·intro y0 y1 y2 y3 y4 y5 y6
   unfold heirloomlaw11_ReachWays.l0
   repeat' first
   | (with_reducible exact ih0 _ _ _ _ _ _ _)
   | (with_reducible exact ih1 _ _ _ _ _)
   | (with_reducible exact ih2 _ _ _ _ _ _)
   | (with_reducible exact ih3 _ _ _ _ _ _ _)
   | (with_reducible exact ih4 _ _ _ _)
   | (with_reducible exact heirloomlaw11_Small.mono _ _ _)
   | (with_reducible exact LeO.refl _)
   | (with_reducible exact LeO.none _)
   | (with_reducible refine LeO.ite ?_ ?_)
   | (with_reducible refine LeO.bind ?_ (fun _ => ?_))
   | exact ih0 _ _ _ _ _ _ _
   | exact ih1 _ _ _ _ _
   | exact ih2 _ _ _ _ _ _
   | exact ih3 _ _ _ _ _ _ _
   | exact ih4 _ _ _ _
   | exact heirloomlaw11_Small.mono _ _ _
   | exact LeO.none _
   | refine LeO.ite ?_ ?_
   | refine LeO.bind ?_ (fun _ => ?_)
  ·intro y0 y1 y2 y3 y4
   unfold heirloomlaw11_ReachWays.l1
   repeat' first
   | (with_reducible exact ih0 _ _ _ _ _ _ _)
   | (with_reducible exact ih1 _ _ _ _ _)
   | (with_reducible exact ih2 _ _ _ _ _ _)
   | (with_reducible exact ih3 _ _ _ _ _ _ _)
   | (with_reducible exact ih4 _ _ _ _)
   | (with_reducible exact heirloomlaw11_Small.mono _ _ _)
   | (with_reducible exact LeO.refl _)
   | (with_reducible exact LeO.none _)
   | (with_reducible refine LeO.ite ?_ ?_)
   | (with_reducible refine LeO.bind ?_ (fun _ => ?_))
   | exact ih0 _ _ _ _ _ _ _
   | exact ih1 _ _ _ _ _
   | exact ih2 _ _ _ _ _ _
   | exact ih3 _ _ _ _ _ _ _
   | exact ih4 _ _ _ _
   | exact heirloomlaw11_Small.mono _ _ _
   | exact LeO.none _
   | refine LeO.ite ?_ ?_
   | refine LeO.bind ?_ (fun _ => ?_)
  ·intro y0 y1 y2 y3 y4 y5
   unfold heirloomlaw11_ReachWays.l2
   repeat' first
   | (with_reducible exact ih0 _ _ _ _ _ _ _)
   | (with_reducible exact ih1 _ _ _ _ _)
   | (with_reducible exact ih2 _ _ _ _ _ _)
   | (with_reducible exact ih3 _ _ _ _ _ _ _)
   | (with_reducible exact ih4 _ _ _ _)
   | (with_reducible exact heirloomlaw11_Small.mono _ _ _)
   | (with_reducible exact LeO.refl _)
   | (with_reducible exact LeO.none _)
   | (with_reducible refine LeO.ite ?_ ?_)
   | (with_reducible refine LeO.bind ?_ (fun _ => ?_))
   | exact ih0 _ _ _ _ _ _ _
   | exact ih1 _ _ _ _ _
   | exact ih2 _ _ _ _ _ _
   | exact ih3 _ _ _ _ _ _ _
   | exact ih4 _ _ _ _
   | exact heirloomlaw11_Small.mono _ _ _
   | exact LeO.none _
   | refine LeO.ite ?_ ?_
   | refine LeO.bind ?_ (fun _ => ?_)
  ·intro y0 y1 y2 y3 y4 y5 y6
   unfold heirloomlaw11_ReachWays.l3
   repeat' first
   | (with_reducible exact ih0 _ _ _ _ _ _ _)
   | (with_reducible exact ih1 _ _ _ _ _)
   | (with_reducible exact ih2 _ _ _ _ _ _)
   | (with_reducible exact ih3 _ _ _ _ _ _ _)
   | (with_reducible exact ih4 _ _ _ _)
   | (with_reducible exact heirloomlaw11_Small.mono _ _ _)
   | (with_reducible exact LeO.refl _)
   | (with_reducible exact LeO.none _)
   | (with_reducible refine LeO.ite ?_ ?_)
   | (with_reducible refine LeO.bind ?_ (fun _ => ?_))
   | exact ih0 _ _ _ _ _ _ _
   | exact ih1 _ _ _ _ _
   | exact ih2 _ _ _ _ _ _
   | exact ih3 _ _ _ _ _ _ _
   | exact ih4 _ _ _ _
   | exact heirloomlaw11_Small.mono _ _ _
   | exact LeO.none _
   | refine LeO.ite ?_ ?_
   | refine LeO.bind ?_ (fun _ => ?_)
  ·intro y0 y1 y2 y3
   unfold heirloomlaw11_ReachWays.l4
   repeat' first
   | (with_reducible exact ih0 _ _ _ _ _ _ _)
   | (with_reducible exact ih1 _ _ _ _ _)
   | (with_reducible exact ih2 _ _ _ _ _ _)
   | (with_reducible exact ih3 _ _ _ _ _ _ _)
   | (with_reducible exact ih4 _ _ _ _)
   | (with_reducible exact heirloomlaw11_Small.mono _ _ _)
   | (with_reducible exact LeO.refl _)
   | (with_reducible exact LeO.none _)
   | (with_reducible refine LeO.ite ?_ ?_)
   | (with_reducible refine LeO.bind ?_ (fun _ => ?_))
   | exact ih0 _ _ _ _ _ _ _
   | exact ih1 _ _ _ _ _
   | exact ih2 _ _ _ _ _ _
   | exact ih3 _ _ _ _ _ _ _
   | exact ih4 _ _ _ _
   | exact heirloomlaw11_Small.mono _ _ _
   | exact LeO.none _
   | refine LeO.ite ?_ ?_
   | refine LeO.bind ?_ (fun _ => ?_)
theorem heirloomlaw11_ReachWays.mono : ∀ a0 a1 a2 a3 k, LeO (heirloomlaw11_ReachWays.f k a0 a1 a2 a3) (heirloomlaw11_ReachWays.f (k + 1) a0 a1 a2 a3) := by
 intro a0 a1 a2 a3 k
 obtain ⟨ih0, ih1, ih2, ih3, ih4⟩ := heirloomlaw11_ReachWays.mono_l k
 unfold heirloomlaw11_ReachWays.f
 repeat' first
   | (with_reducible exact ih0 _ _ _ _ _ _ _)
   | (with_reducible exact ih1 _ _ _ _ _)
   | (with_reducible exact ih2 _ _ _ _ _ _)
   | (with_reducible exact ih3 _ _ _ _ _ _ _)
   | (with_reducible exact ih4 _ _ _ _)
   | (with_reducible exact heirloomlaw11_Small.mono _ _ _)
   | (with_reducible exact LeO.refl _)
   | (with_reducible exact LeO.none _)
   | (with_reducible refine LeO.ite ?_ ?_)
   | (with_reducible refine LeO.bind ?_ (fun _ => ?_))
   | exact ih0 _ _ _ _ _ _ _
   | exact ih1 _ _ _ _ _
   | exact ih2 _ _ _ _ _ _
   | exact ih3 _ _ _ _ _ _ _
   | exact ih4 _ _ _ _
   | exact heirloomlaw11_Small.mono _ _ _
   | exact LeO.none _
   | refine LeO.ite ?_ ?_
   | refine LeO.bind ?_ (fun _ => ?_)
def heirloomlaw11_ReachWays.T16 : Bool × List (List Nat × List Nat) := (true, [([], []), ([], []), ([1], [1]), ([], []), ([2, 3], [2, 3]), ([4], [4]), ([], []), ([0, 5, 6], [0, 5, 6])])
def heirloomlaw11_ReachWays.B16 : List Nat := [0, 0, 2, 0, 14, 30, 0, 127]
theorem heirloomlaw11_ReachWays.tab16 : rtab .any (opsOf Try.f6 16) = heirloomlaw11_ReachWays.T16 := by kernel_rfl
theorem heirloomlaw11_ReachWays.bits16 : waitsOk heirloomlaw11_ReachWays.T16.2 heirloomlaw11_ReachWays.B16 = true := by kernel_rfl
def heirloomlaw11_ReachWays.T26 : Bool × List (List Nat × List Nat) := (true, [([], []), ([], []), ([1], [1]), ([], []), ([2, 3], [2, 3]), ([4], [4]), ([5], [5]), ([], []), ([6, 7], [6, 7]), ([8], [8]), ([], []), ([], []), ([11], [11]), ([0, 9, 10, 12], [0, 9, 10, 12])])
def heirloomlaw11_ReachWays.B26 : List Nat := [0, 0, 2, 0, 14, 30, 62, 0, 254, 510, 0, 0, 2048, 8191]
theorem heirloomlaw11_ReachWays.tab26 : rtab .any (opsOf Try.f6 26) = heirloomlaw11_ReachWays.T26 := by kernel_rfl
theorem heirloomlaw11_ReachWays.bits26 : waitsOk heirloomlaw11_ReachWays.T26.2 heirloomlaw11_ReachWays.B26 = true := by kernel_rfl
def heirloomlaw11_ReachWays.T33 : Bool × List (List Nat × List Nat) := (true, [([], []), ([], []), ([0, 1], [0, 1]), ([2], [2]), ([], []), ([], []), ([4, 5], [4, 5]), ([6], [6]), ([7], [7]), ([3, 8], [3, 8])])
def heirloomlaw11_ReachWays.B33 : List Nat := [0, 0, 3, 7, 0, 0, 48, 112, 240, 511]
theorem heirloomlaw11_ReachWays.tab33 : rtab .any (opsOf Try.f6 33) = heirloomlaw11_ReachWays.T33 := by kernel_rfl
theorem heirloomlaw11_ReachWays.bits33 : waitsOk heirloomlaw11_ReachWays.T33.2 heirloomlaw11_ReachWays.B33 = true := by kernel_rfl
/-- plain: a thing that holds all strongly. -/
def pl (t : S43) : S43 := ⟨t.f0, 0, t.f2, t.f3, t.f4⟩
/-- Things of an own row whose slots stand in rows of an elder world W. -/
def kV (W : World) : Kd S43 where
  sz := 5
  E := []
  K _ x cs := ∃ A c, cs = [.int .i64 x.f0, .int .i64 x.f1, .int .i64 x.f2, .slice A x.f3.length c, .int .i64 x.f4] ∧ x.f3.length ≤ c ∧ k40.C W A x.f3.length x.f3
  M _ _ _ x cs := ∃ A c, cs = [.int .i64 x.f0, .int .i64 x.f1, .int .i64 x.f2, .slice A x.f3.length c, .int .i64 x.f4] ∧ x.f3.length ≤ c ∧ k40.C W A x.f3.length x.f3
  K_len := by rintro w x cs ⟨A, c, rfl, _⟩; rfl
  K_one := by
    rintro w x cs ⟨A, c, rfl, _⟩ u hu
    simp only [List.mem_cons, List.not_mem_nil, or_false] at hu
    rcases hu with rfl | rfl | rfl | rfl | rfl <;> rfl
  K_below := fun _ h => h
  K_of_M := fun h => h
  M_mono := fun _ h => h
  M_bound := fun h => h
  M_move := fun _ h => h
  M_lower := fun _ h => h
theorem kV_C {w w' : World} (hb : Below w.heap.size w w') {A : Option Addr} {n : Nat} {xs : List S43} (h : Kd.C (kV w) w' A n xs) : Kd.C k43 w' A n xs :=
  ReadsRow.imp_ h (Below.refl _ _) (fun x cs ⟨A3, c3, e, l3, g3⟩ => by subst e; exact k43_mk w' x l3 (Kd.C_below g3 hb))

set_option maxHeartbeats 8000000 in
set_option maxRecDepth 100000 in
theorem heirloomlaw11_ReachWays.calls (k : Nat) (A0_0 : Option Addr) (c0_0 : Nat) (l0_0 : List (S43)) (A0_1 : Option Addr) (c0_1 : Nat) (l0_1 : List (S40)) (r : Bool) (w0_ : World) (hr0_0 : Kd.C k43 w0_ A0_0 l0_0.length l0_0) (hc0_0 : l0_0.length ≤ c0_0) (hr0_1 : Kd.C k40 w0_ A0_1 l0_1.length l0_1) (hc0_1 : l0_1.length ≤ c0_1) (h : heirloomlaw11_ReachWays.f k l0_0 l0_1 (l0_0.map pl) l0_1 = some r ∧ (heirloomlaw11_Small.f k l0_0 l0_1 = some true → l0_0.length ≤ 60)) :
  Calls Try.prog 6 #[.agg #[.slice A0_0 l0_0.length c0_0, .slice A0_1 l0_1.length c0_1]] w0_ fun e w' => e = .returned (.bool r) ∧ Below w0_.heap.size w0_ w' := by
 obtain ⟨h, hsm_⟩ := h
 obtain ⟨l1_0, hl1⟩ : ∃ l, l = l0_0.map pl := ⟨_, rfl⟩
 rw [← hl1] at h
 have HL1 := Aside0.mk hl1
 have HSM := Aside0.mk hsm_
 clear hl1 hsm_
 have hu25 := Try.underlying25
 have hu40 := Try.underlying40
 have HR0_0 := Aside0.mk hr0_0
 have HC0_0 := Aside0.mk hc0_0
 clear hr0_0 hc0_0
 have HR0_1 := Aside0.mk hr0_1
 have HC0_1 := Aside0.mk hc0_1
 clear hr0_1 hc0_1
 have HB := Aside0.mk (Below.refl w0_.heap.size w0_)
 have H : ((heirloomlaw11_Small.f k l0_0 l0_1).bind fun t352 => (if t352 = true then (if 0 ≤ (l0_0.length : Int) then (if ((l0_0.length : Int) : Int).toNat ≤ 35184372088832 then (heirloomlaw11_ReachWays.l0 k (l0_0.length : Int) (List.replicate ((l0_0.length : Int) : Int).toNat 0) 0 l0_0 l0_1 l1_0 l0_1) else (none)) else (none)) else ((heirloomlaw11_alive.f).bind fun t353 => (some t353)))) = some r := h
 clear h
 replace H := Option.bind_eq_some_iff.mp H
 obtain ⟨t352, A30, H⟩ := H
 replace H : (if t352 = true then (if 0 ≤ (l0_0.length : Int) then (if ((l0_0.length : Int) : Int).toNat ≤ 35184372088832 then (heirloomlaw11_ReachWays.l0 k (l0_0.length : Int) (List.replicate ((l0_0.length : Int) : Int).toNat 0) 0 l0_0 l0_1 l1_0 l0_1) else (none)) else (none)) else ((heirloomlaw11_alive.f).bind fun t353 => (some t353))) = some r := H
 have A3 := Aside0.mk A30
 clear A30
 by_cases c4 : t352 = true
 ·subst c4
  have HS := Aside0.mk (HSM.out A3.out)
  have H1 : (if 0 ≤ (l0_0.length : Int) then (if ((l0_0.length : Int) : Int).toNat ≤ 35184372088832 then (heirloomlaw11_ReachWays.l0 k (l0_0.length : Int) (List.replicate ((l0_0.length : Int) : Int).toNat 0) 0 l0_0 l0_1 l1_0 l0_1) else (none)) else (none)) = some r := by rw [if_pos rfl] at H; exact H
  clear H
  have H := H1
  clear H1
  by_cases c5 : 0 ≤ (l0_0.length : Int)
  ·rw [if_pos c5] at H
   have c5b0 := eq_true c5
   have c5b1 : decide (0 ≤ (l0_0.length : Int)) = true := decide_eq_true c5
   clear c5
   by_cases c6 : ((l0_0.length : Int) : Int).toNat ≤ 35184372088832
   ·rw [if_pos c6] at H
    have c6b0 := eq_true c6
    have c6b1 : decide (((l0_0.length : Int) : Int).toNat ≤ 35184372088832) = true := decide_eq_true c6
    clear c6
    obtain ⟨y355, hy355⟩ : ∃ y_ : List Int, y_ = (List.replicate ((l0_0.length : Int) : Int).toNat 0) := ⟨_, rfl⟩
    replace H : (heirloomlaw11_ReachWays.l0 k (l0_0.length : Int) y355 0 l0_0 l0_1 l1_0 l0_1) = some r := by first | (rw [hy355]; with_reducible exact H) | (have H2_ := (Option.bind_some _ _).symm.trans H; rw [hy355]; with_reducible exact H2_) | (have H2_ := (Option.bind_some _ _).symm.trans H; with_reducible exact H2_) | with_reducible exact H | (rw [hy355]; exact H) | exact H
    have Ny355 := Aside0.mk hy355
    clear hy355
    have H' := Aside0.mk H
    clear H
    go_enter Try.func6, Try.ntmps6
    go_wp2_with (first | ((with_reducible refine gate_dst (N := 1) rfl ?_); (try (refine gate_guard (by rfl) ?_; dsimp only)); refine box_event ?hg (N := 1) ?hd (cs := #[.slice A0_0 l0_0.length c0_0, .slice A0_1 l0_1.length c0_1]) (t := 25) ?hr ?_; (case hd => rfl); (case hg => rfl); (case hr => go_simp <;> rfl); intro gb351 hg w7 hbox hb; have n0_ := Aside0.mk (below_step (by repeat (first | (with_reducible first | exact HB.out | apply zb | apply zn | apply zd) | exact HB.out)) hb); have n1_ := Aside0.mk (hbox); have n2_ := Aside0.mk ((by rw [hg]; exact (below_size (by repeat (first | (with_reducible first | exact HB.out | apply zb | apply zn | apply zd) | exact HB.out))) : w0_.heap.size ≤ gb351)); have n3_ := n2_; clear HB; have HB := n0_; have BK351 := n1_; have GW351 := n2_; have GE351 := n3_; clear n0_ n1_ n2_ n3_; clear hb hbox hg; have hcz8_0 : w7.cell? ⟨gb351, 0, none⟩ = some (.slice A0_0 l0_0.length c0_0) := (blk_cell BK351.out 0).trans rfl; have hcz8_1 : w7.cell? ⟨gb351, 1, none⟩ = some (.slice A0_1 l0_1.length c0_1) := (blk_cell BK351.out 1).trans rfl; have hfz8_0 := blk_frozen BK351.out 0; have hfz8_1 := blk_frozen BK351.out 1) | ((with_reducible refine gate_callee (f := 10) rfl ?_); refine goesL_ (some 15) rfl rfl Try.func10 (by kernel_rfl) rfl #[.agg #[.slice A0_0 l0_0.length c0_0, .slice A0_1 l0_1.length c0_1]] rfl (by (try simp only [List.map_toArray, List.map_cons, List.map_nil]); first | done | rfl | (simp only [List.length_drop, List.length_take]; rfl)) ?_; (with_reducible refine (heirloomlaw11_Small.calls k _ _ l0_0 _ _ l0_1 true _ ?side1 ?side2 ?side3 ?side4 A3.out).mono ?_); (case side1 => repeat (first | exact (Kd.C_below HR0_0.out HB.out) | (with_reducible refine Kd.C_alloc ?_ _) | (with_reducible refine Kd.C_drewN ?_ _) | (with_reducible refine Kd.C_drew ?_))); (case side2 => exact HC0_0.out); (case side3 => repeat (first | exact (Kd.C_below HR0_1.out HB.out) | (with_reducible refine Kd.C_alloc ?_ _) | (with_reducible refine Kd.C_drewN ?_ _) | (with_reducible refine Kd.C_drew ?_))); (case side4 => exact HC0_1.out); rintro e w9 ⟨rfl, hb⟩; refine ⟨_, rfl, ?_⟩; have n0_ := Aside0.mk (blk_below (g := gb351) (o := .cells #[.slice A0_0 l0_0.length c0_0, .slice A0_1 l0_1.length c0_1] 25 (0, 0)) (by (with_reducible repeat first | refine kn ?_ _ | refine kd ?_ | refine ka ?_ _); exact BK351.out) hb); have n1_ := Aside0.mk (below_step (by repeat (first | (with_reducible first | exact HB.out | apply zb | apply zn | apply zd | refine zs ?_ GE351.out) | exact HB.out)) hb); clear BK351; clear HB; have BK351 := n0_; have HB := n1_; clear n0_ n1_; (try clear hb)) | ((with_reducible refine gate_dst (N := 3) rfl ?_); (try (refine gate_guard (by rfl) ?_; dsimp only)); refine box_event ?hg (N := 3) ?hd (cs := #[.slice none 0 0, .slice none 0 0]) (t := 25) ?hr ?_; (case hd => rfl); (case hg => rfl); (case hr => go_simp <;> rfl); intro gb354 hg w10 hbox hb; have n0_ := Aside0.mk (blk_below (g := gb351) (o := .cells #[.slice A0_0 l0_0.length c0_0, .slice A0_1 l0_1.length c0_1] 25 (0, 0)) (by (with_reducible repeat first | refine kn ?_ _ | refine kd ?_ | refine ka ?_ _); exact BK351.out) hb); have n1_ := Aside0.mk (below_step (by repeat (first | (with_reducible first | exact HB.out | apply zb | apply zn | apply zd | refine zs ?_ GE351.out) | exact HB.out)) hb); have n2_ := Aside0.mk (hbox); have n3_ := Aside0.mk ((by rw [hg]; exact (below_size (by repeat (first | (with_reducible first | exact HB.out | apply zb | apply zn | apply zd | refine zs ?_ GE351.out) | exact HB.out))) : w0_.heap.size ≤ gb354)); have n4_ := Aside0.mk ((by rw [hg]; exact (below_size (by repeat (first | (with_reducible first | exact HB.out | apply zb | apply zn | apply zd | refine zs ?_ GE351.out) | exact HB.out))) : w0_.heap.size ≤ gb354)); have n5_ := Aside0.mk ((by rw [hg]; exact Nat.ne_of_lt (blk_lt (g := gb351) (o := .cells #[.slice A0_0 l0_0.length c0_0, .slice A0_1 l0_1.length c0_1] 25 (0, 0)) (by (with_reducible repeat first | refine kn ?_ _ | refine kd ?_ | refine ka ?_ _); exact BK351.out)) : gb351 ≠ gb354)); have n6_ := Aside0.mk ((by rw [hg]; exact Nat.ne_of_gt (blk_lt (g := gb351) (o := .cells #[.slice A0_0 l0_0.length c0_0, .slice A0_1 l0_1.length c0_1] 25 (0, 0)) (by (with_reducible repeat first | refine kn ?_ _ | refine kd ?_ | refine ka ?_ _); exact BK351.out)) : gb354 ≠ gb351)); clear BK351; clear HB; have BK351 := n0_; have HB := n1_; have BK354 := n2_; have GW354 := n3_; have GE354 := n4_; have NB351_354 := n5_; have NB354_351 := n6_; clear n0_ n1_ n2_ n3_ n4_ n5_ n6_; clear hb hbox hg; have hnb11 := NB351_354.out; have hnc11 := NB354_351.out; have hcz12_0 : w10.cell? ⟨gb351, 0, none⟩ = some (.slice A0_0 l0_0.length c0_0) := (blk_cell BK351.out 0).trans rfl; have hcz12_1 : w10.cell? ⟨gb351, 1, none⟩ = some (.slice A0_1 l0_1.length c0_1) := (blk_cell BK351.out 1).trans rfl; have hfz12_0 := blk_frozen BK351.out 0; have hfz12_1 := blk_frozen BK351.out 1; have hcp_0 : w10.cell? ⟨gb354, 0, none⟩ = some (.slice none 0 0) := (blk_cell BK354.out 0).trans rfl; have hcp_1 : w10.cell? ⟨gb354, 1, none⟩ = some (.slice none 0 0) := (blk_cell BK354.out 1).trans rfl; have hfp_0 := blk_frozen BK354.out 0; have hfp_1 := blk_frozen BK354.out 1) | ((with_reducible refine gate_store (t := 23) (p := 20) rfl ?_); refine store_event (t := 23) (p := 20) (v := ?vo) (w1 := (w10.setCell ⟨gb354, 1, none⟩ (.slice A0_1 l0_1.length c0_1))) ?hg ?ho ?hn ?hr ?_; (case ho => rfl); (case hg => rfl); (case hn => rfl); (case hr => first | (go_simp; done) | (go_simp; rfl)); intro wA hw; have n0_ := Aside0.mk (show wA.heap[gb351]? = some (.cells #[.slice A0_0 l0_0.length c0_0, .slice A0_1 l0_1.length c0_1] 25 (0, 0)) by rw [hw]; exact blk_far BK351.out NB351_354.out _); have n1_ := Aside0.mk (show wA.heap[gb354]? = some (.cells #[.slice none 0 0, .slice A0_1 l0_1.length c0_1] 25 (0, 0)) by rw [hw]; exact blk_put BK354.out 1 _ rfl); have n2_ := Aside0.mk (show Below w0_.heap.size w0_ wA by rw [hw]; exact below_set HB.out GE354.out); clear BK351; clear BK354; clear HB; have BK351 := n0_; have BK354 := n1_; have HB := n2_; clear n0_ n1_ n2_; clear hw))
    go_loopg [4] l0_0.length (fun kq v4 w' => ∃ (x4 : Int) (xs : List S43) (u4 : Value), v4 = .int .i64 x4 ∧ Aside0 (0 ≤ x4 ∧ (kq : Int) + x4 = (l0_0.length : Int) ∧ xs = (l0_0.take x4.toNat).map pl) ∧ Aside0 (Kd.R (kV w0_) 43 w' w0_.heap.size (fun _ => True) u4 xs) ∧ Aside0 (w'.heap[gb351]? = some (.cells #[.slice A0_0 l0_0.length c0_0, .slice A0_1 l0_1.length c0_1] 25 (0, 0))) ∧ Aside0 (w'.heap[gb354]? = some (.cells #[u4, .slice A0_1 l0_1.length c0_1] 25 (0, 0))) ∧ Aside0 (Below w0_.heap.size w0_ w'))
    case atStart => exact ⟨0, [], .slice none 0 0, rfl, ⟨by omega, by omega, rfl⟩, ⟨Kd.R_nil _ _ _ _ _⟩, ⟨by (with_reducible repeat (first | refine blk_drewN ?_ _ | refine blk_drew ?_ | refine blk_alloc ?_ _)); exact BK351.out⟩, ⟨by (with_reducible repeat (first | refine blk_drewN ?_ _ | refine blk_drew ?_ | refine blk_alloc ?_ _)); exact BK354.out⟩, ⟨by repeat (first | (with_reducible first | exact HB.out | apply below_alloc | apply pw_below_drewN | apply below_drew1) | exact HB.out)⟩⟩
    case round =>
     clear BK351 BK354 HB
     obtain ⟨x4, xs, u4, rfl, HI, HU, BK351, BK354, HB⟩ := hrel
     obtain ⟨hi0, hi1, hi2⟩ := HI.out
     have hcv_0 : wr.cell? ⟨gb351, 0, none⟩ = some (.slice A0_0 l0_0.length c0_0) := (blk_cell BK351.out 0).trans rfl
     have hcv_1 : wr.cell? ⟨gb351, 1, none⟩ = some (.slice A0_1 l0_1.length c0_1) := (blk_cell BK351.out 1).trans rfl
     have hcu_0 : wr.cell? ⟨gb354, 0, none⟩ = some u4 := (blk_cell BK354.out 0).trans rfl
     have hcu_1 : wr.cell? ⟨gb354, 1, none⟩ = some (.slice A0_1 l0_1.length c0_1) := (blk_cell BK354.out 1).trans rfl
     by_cases cx : x4 < (l0_0.length : Int)
     · have cxb : decide (x4 < (l0_0.length : Int)) = true := decide_eq_true cx
       obtain ⟨k1, rfl⟩ : ∃ k1, gk = k1 + 1 := ⟨gk - 1, by omega⟩
       have hsz := HS.out
       have HX := Aside0.mk (show (xs.length + 1) * 56 ≤ 140737488355328 by have h := congrArg List.length hi2; rw [List.length_map, List.length_take] at h; omega)
       obtain ⟨i2, hi3⟩ : ∃ x : Int, x4 + 1 = x := ⟨_, rfl⟩
       have ew2 : IntKind.i64.wrap (x4 + 1) = i2 := (i64_w _).trans ((w64i_ (by omega) (by omega)).trans hi3)
       obtain ⟨ad5, A5_3, c5_3, e5, hx0, hx1, hx2, hx3, hx4, hl5, hi5⟩ := at_T43 HR0_0.out x4 hi0 cx
       cases e5
       replace hx0 := (HB.out.cell (World.block_lt_of_cell? w0_ _ hx0)).trans hx0
       replace hx1 := (HB.out.cell (World.block_lt_of_cell? w0_ _ hx1)).trans hx1
       replace hx2 := (HB.out.cell (World.block_lt_of_cell? w0_ _ hx2)).trans hx2
       replace hx3 := (HB.out.cell (World.block_lt_of_cell? w0_ _ hx3)).trans hx3
       replace hx4 := (HB.out.cell (World.block_lt_of_cell? w0_ _ hx4)).trans hx4
       obtain ⟨t5, ht5⟩ : ∃ t, rd_T43 l0_0 x4 = t := ⟨_, rfl⟩
       rw [ht5] at hx0 hx1 hx2 hx3 hx4 hl5 hi5
       have HR5 := Aside0.mk hi5
       have HC5 := Aside0.mk hl5
       obtain ⟨ys, hys⟩ : ∃ y_, y_ = xs ++ [pl t5] := ⟨_, rfl⟩
       have HY := Aside0.mk hys
       have HN := Aside0.mk (show 0 ≤ i2 ∧ (k1 : Int) + i2 = (l0_0.length : Int) ∧ ys = (l0_0.take i2.toNat).map pl from ⟨by omega, by omega, by
         rw [hys]
         have hj : x4.toNat < l0_0.length := by omega
         have e1 : i2.toNat = x4.toNat + 1 := by omega
         have e2 : rd_T43 l0_0 x4 = l0_0[x4.toNat] := by have := rd43_get hj; rwa [Int.toNat_of_nonneg hi0] at this
         rw [e1, List.take_add_one, List.map_append, ← hi2, List.getElem?_eq_getElem hj, ← ht5, e2]
         rfl⟩)
       clear hi5 hl5 hi1 hi2 hi3 hsz ht5 hys
       replace hi0 := eq_true hi0
       replace cx := eq_true cx
       have hcw_0 : (wr.alloc (.cells #[.int .i64 t5.f0, .int .i64 0, .int .i64 t5.f2, .slice A5_3 t5.f3.length c5_3, .int .i64 t5.f4] 43)).cell? ⟨gb354, 0, none⟩ = some u4 := (blk_cell (blk_alloc BK354.out (.cells #[.int .i64 t5.f0, .int .i64 0, .int .i64 t5.f2, .slice A5_3 t5.f3.length c5_3, .int .i64 t5.f4] 43)) 0).trans rfl
       go_wp2_with (first | ((with_reducible refine gate_builtin (b := .append) (xs := #[.tmp 35, .tmp 37]) rfl ?_); (try (refine gate_guard (by rfl) ?_; dsimp only)); at_builtin; refine Kd.R_append (kV w0_) (w0 := w0_) w0_.heap.size rfl (.tmp 35) (.tmp 37) 22 43 (.agg #[(.int .i64 0), (.int .i64 0), (.int .i64 0), (.slice none 0 0), (.int .i64 0)]) 56 rfl Try.underlying22 info43 rfl (Nat.succ_pos _) (by omega) u4 xs (pl t5) [.int .i64 t5.f0, .int .i64 0, .int .i64 t5.f2, .slice A5_3 t5.f3.length c5_3, .int .i64 t5.f4] (fun _ => True) (fun _ => False) rfl ?aX ?aP (fun _ hk => hk.elim) ?aF ?aO ?aB ?aS ?aL ?_; (case aX => first | rfl | (go_simp; done) | (go_simp; rfl)); (case aP => exact ⟨A5_3, c5_3, rfl, HC5.out, HR5.out⟩); (case aB => exact (by repeat (first | (with_reducible first | exact HB.out | apply below_alloc | apply pw_below_drewN | apply below_drew1) | exact HB.out))); (case aF => exact (fun _ _ => trivial)); (case aO => exact Kd.R_mono (by (with_reducible repeat (first | apply Kd.R_alloc | apply Kd.R_drewN | apply Kd.R_drew)); exact HU.out) (fun _ _ => trivial)); (case aS => exact (below_size (by repeat (first | (with_reducible first | exact HB.out | apply below_alloc | apply pw_below_drewN | apply below_drew1) | exact HB.out)))); (case aL => have := HX.out; omega); intro v38 wE ho hb hg hat; rw [← HY.out] at ho; have n0_ := Aside0.mk (blk_grown (g := gb351) (o := .cells #[.slice (some ad5) l0_0.length c0_0, .slice A0_1 l0_1.length c0_1] 25 (0, 0)) (by (with_reducible repeat (first | refine blk_drewN ?_ _ | refine blk_drew ?_ | refine blk_alloc ?_ _)); exact BK351.out) hg (Kd.R_ne HU.out BK351.out (by decide))); have n1_ := Aside0.mk (blk_grown (g := gb354) (o := .cells #[u4, .slice A0_1 l0_1.length c0_1] 25 (0, 0)) (by (with_reducible repeat (first | refine blk_drewN ?_ _ | refine blk_drew ?_ | refine blk_alloc ?_ _)); exact BK354.out) hg (Kd.R_ne HU.out BK354.out (by decide))); have n2_ := Aside0.mk hb; have n3_ := Aside0.mk ho; clear BK351 BK354 HB; have BK351 := n0_; have BK354 := n1_; have HB := n2_; have HV := n3_; clear n0_ n1_ n2_ n3_ ho hb hg hat; obtain ⟨A6, c6_, e6⟩ := Kd.R_slice HV.out; subst e6; have hch_0 : wE.cell? ⟨gb354, 0, none⟩ = some u4 := (blk_cell BK354.out 0).trans rfl; have hfh_0 := blk_frozen BK354.out 0))
       go_roundg k1
       case measure => omega
       case rel => exact ⟨i2, ys, (.slice A6 ys.length c6_), (by first | rfl | (simp; done) | (simp [*]; done)), HN, ⟨Kd.R_mono (Kd.R_far (p := ⟨gb354, 0, none⟩) (Kd.R_types HV.out BK354.out (fun q hq => by rw [List.mem_singleton.1 (show q ∈ [43] from hq)]; decide)) (fun _ hk => hk.2) _) (fun _ h_ => h_.1)⟩, ⟨blk_far BK351.out (p := ⟨gb354, 0, none⟩) NB351_354.out _⟩, ⟨blk_put BK354.out 0 _ rfl⟩, ⟨below_set HB.out GE354.out⟩⟩
     · have cxb : decide (x4 < (l0_0.length : Int)) = false := decide_eq_false cx
       have hx : xs = l1_0 := by rw [hi2, HL1.out, List.take_of_length_le (by omega)]
       replace HU := Aside0.mk (hx ▸ HU.out : Kd.R (kV w0_) 43 wr w0_.heap.size (fun _ => True) u4 l1_0)
       clear hx hi0 hi1 hi2
       obtain ⟨A1_0, c1_0, eu, hl_, hC_⟩ := Kd.R_reads HU.out
       subst eu
       obtain ⟨w, hw⟩ : ∃ w : World, w = wr := ⟨_, rfl⟩
       have HZ := Aside0.mk (show ∀ W_, Below w.heap.size w W_ → Below w0_.heap.size w0_ W_ from fun W_ h_ => below_step HB.out (by rw [← hw]; exact h_))
       have HC1_0 := Aside0.mk hl_
       have HR1_0 := Aside0.mk (show Kd.C k43 w A1_0 l1_0.length l1_0 by rw [hw]; exact kV_C HB.out hC_)
       have n0_ := Aside0.mk (show Kd.C k43 w A0_0 l0_0.length l0_0 by rw [hw]; exact Kd.C_below HR0_0.out HB.out)
       have n1_ := Aside0.mk (show Kd.C k40 w A0_1 l0_1.length l0_1 by rw [hw]; exact Kd.C_below HR0_1.out HB.out)
       have n2_ := Aside0.mk (show Below w.heap.size w wr by rw [hw]; exact Below.refl _ _)
       clear HU HR0_0 HR0_1 HB hC_ hl_ hw GE351 GE354 GW351 GW354
       have HR0_0 := n0_
       have HR0_1 := n1_
       obtain ⟨A1_1, hA1⟩ : ∃ A_ : Option Addr, A_ = A0_1 := ⟨_, rfl⟩
       have HR1_1 := Aside0.mk (show Kd.C k40 w A1_1 l0_1.length l0_1 by rw [hA1]; exact n1_.out)
       replace BK354 := Aside0.mk (show wr.heap[gb354]? = some (.cells #[.slice A1_0 l1_0.length c1_0, .slice A1_1 l0_1.length c0_1] 25 (0, 0)) by rw [hA1]; exact BK354.out)
       clear hA1 hcu_0 hcu_1
       have HC1_1 := HC0_1
       have HB := n2_
       clear n0_ n1_ n2_
       go_wp2_with (first | ((with_reducible refine gate_dst (N := 44) rfl ?_); (try (refine gate_guard (by rfl) ?_; dsimp only)); refine Kd.R_make (Kd.int .i64) _ 3 rfl (N := 44) rfl 26 _ _ rfl (l0_0.length : Int) rfl rfl Try.underlying26 (.int .i64 0) 8 info3 rfl (by decide) (by omega) 0 (ok := fun _ => True) (okp := fun _ => True) rfl (fun _ hk => hk) trivial (of_decide_eq_true (by first | (with_reducible assumption) | assumption)) (Nat.le_trans (Nat.mul_le_mul_right _ (of_decide_eq_true (by first | (with_reducible assumption) | assumption) : (l0_0.length : Int).toNat ≤ 35184372088832)) (by omega)) (Below.refl _ _) (Nat.le_refl _) ?_; intro v356 w13 ho14 hb hg_ hnew_; clear hg_ hnew_; (first | rw [← Ny355.out] at ho14 | (simp only [Int.reduceToNat] at ho14; rw [← Ny355.out] at ho14)); have n0_ := Aside0.mk (Kd.R_lower ho14 (below_size (by repeat (first | (with_reducible first | exact HB.out | apply zb | apply zn | apply zd | refine zs ?_ GE351.out | refine zs ?_ GE354.out) | exact HB.out)))); have n1_ := Aside0.mk (blk_below (g := gb351) (o := .cells #[.slice A0_0 l0_0.length c0_0, .slice A0_1 l0_1.length c0_1] 25 (0, 0)) (by (with_reducible repeat first | refine kn ?_ _ | refine kd ?_ | refine ka ?_ _); exact BK351.out) hb); have n2_ := Aside0.mk (blk_below (g := gb354) (o := .cells #[.slice A1_0 l1_0.length c1_0, .slice A1_1 l0_1.length c0_1] 25 (0, 0)) (by (with_reducible repeat first | refine kn ?_ _ | refine kd ?_ | refine ka ?_ _); exact BK354.out) hb); have n3_ := Aside0.mk (below_step (by repeat (first | (with_reducible first | exact HB.out | apply zb | apply zn | apply zd | refine zs ?_ GE351.out | refine zs ?_ GE354.out) | exact HB.out)) hb); clear BK351; clear BK354; clear HB; have HO357 := n0_; have BK351 := n1_; have BK354 := n2_; have HB := n3_; clear n0_ n1_ n2_ n3_; clear hb ho14))
       go_loopg [8] k (fun kq v8 w' => ∃ (x7_1 : List Int) (x8_1 : Int), v8 = .int .i64 x8_1 ∧ Aside0 (heirloomlaw11_ReachWays.l0 kq (l0_0.length : Int) x7_1 x8_1 l0_0 l0_1 l1_0 l0_1 = some r) ∧ Aside0 (kq ≤ k) ∧ Aside0 (Kd.R (Kd.int .i64) 3 w' w.heap.size (fun _ => True) v356 x7_1) ∧ Aside0 (w'.heap[gb351]? = some (.cells #[(.slice A0_0 l0_0.length c0_0), (.slice A0_1 l0_1.length c0_1)] 25 (0, 0))) ∧ Aside0 (w'.heap[gb354]? = some (.cells #[(.slice A1_0 l1_0.length c1_0), (.slice A1_1 l0_1.length c0_1)] 25 (0, 0))) ∧ Aside0 (Below w.heap.size w w'))
       case atStart => exact ⟨(y355), (0), (by first | rfl | (simp; done) | (simp [*]; done)), H', ⟨Nat.le_refl _⟩, ⟨by (with_reducible repeat (first | apply Kd.R_alloc | apply Kd.R_drewN | apply Kd.R_drew)); exact HO357.out⟩, ⟨by (with_reducible repeat first | refine kn ?_ _ | refine kd ?_ | refine ka ?_ _); exact BK351.out⟩, ⟨by (with_reducible repeat first | refine kn ?_ _ | refine kd ?_ | refine ka ?_ _); exact BK354.out⟩, ⟨by repeat (first | (with_reducible first | exact HB.out | apply zb | apply zn | apply zd | refine zs ?_ GE351.out | refine zs ?_ GE354.out) | exact HB.out)⟩⟩
       case round =>
        clear H'
        try clear c1
        try clear p2
        try clear c4
        try clear c5
        try clear c5b0
        try clear c5b1
        try clear c6
        try clear c6b0
        try clear c6b1
        try clear c10
        try clear c11
        try clear hcz12_0
        try clear hcz12_1
        try clear hcz8_0
        try clear hcz8_1
        try clear hfz12_0
        try clear hfz12_1
        try clear hfz8_0
        try clear hfz8_1
        obtain ⟨x7_1, x8_1, rfl, HA, HK1, HO_7, BK351, BK354, HB⟩ := hrel
        cases gk with
        | zero => exact absurd HA.out (by simp [heirloomlaw11_ReachWays.l0])
        | succ k1 =>
         have H := HA.out
         clear HA
         simp only [heirloomlaw11_ReachWays.l0] at H
         by_cases c15 : x8_1 < (l0_1.length : Int)
         ·rw [if_pos c15] at H
          have c15b0 : decide (x8_1 < (l0_1.length : Int)) = true := decide_eq_true c15
          clear c15
          by_cases c16 : 0 ≤ x8_1
          ·rw [if_pos c16] at H
           have c16b0 : decide (0 ≤ x8_1) = true := decide_eq_true c16
           clear c16
           replace H := Option.bind_eq_some_iff.mp H
           obtain ⟨t359, A170, H⟩ := H
           replace H : (heirloomlaw11_ReachWays.l0 k1 (l0_0.length : Int) t359 (wrap64 (x8_1 + 1)) l0_0 l0_1 l1_0 l0_1) = some r := H
           have A17 := Aside0.mk A170
           clear A170
           have H' := Aside0.mk H
           clear H
           have hnb18 := NB351_354.out
           have hnc18 := NB354_351.out
           have hcz19_0 : wr.cell? ⟨gb351, 0, none⟩ = some (.slice A0_0 l0_0.length c0_0) := (blk_cell BK351.out 0).trans rfl
           have hcz19_1 : wr.cell? ⟨gb351, 1, none⟩ = some (.slice A0_1 l0_1.length c0_1) := (blk_cell BK351.out 1).trans rfl
           have hfz19_0 := blk_frozen BK351.out 0
           have hfz19_1 := blk_frozen BK351.out 1
           try go_wp2
           have n0_ := Aside0.mk (Kd.R_drew HO_7.out)
           have n1_ := Aside0.mk (blk_drew BK351.out)
           have n2_ := Aside0.mk (blk_drew BK354.out)
           have n3_ := Aside0.mk (below_drew1 HB.out)
           clear HO_7
           clear BK351
           clear BK354
           clear HB
           have HO_7 := n0_
           have BK351 := n1_
           have BK354 := n2_
           have HB := n3_
           clear n0_ n1_ n2_ n3_
           have p358 : 0 ≤ (x8_1 : Int) := of_decide_eq_true (by first | (with_reducible assumption) | assumption)
           have q358 : x8_1 < (l0_1.length : Int) := of_decide_eq_true (by first | (with_reducible assumption) | assumption)
           obtain ⟨ad358, e358, hx358_0, hx358_1⟩ := at_T40 HR0_1.out x8_1 p358 q358
           have hw358_1 := hx358_1
           have hw358_0 := hx358_0
           cases e358
           replace hx358_0 := (HB.out.cell (World.block_lt_of_cell? w _ hx358_0)).trans hx358_0
           replace hx358_1 := (HB.out.cell (World.block_lt_of_cell? w _ hx358_1)).trans hx358_1
           replace p358 := eq_true p358
           replace q358 := eq_true q358
           obtain ⟨Ao21, co21, eo21⟩ := Kd.R_slice HO_7.out
           (first | subst eo21 | (injection eo21 with f1_ f2_ f3_; have f4_ := f1_.symm; have f5_ := f3_.symm; clear f1_ f2_ f3_; subst f4_; subst f5_))
           refine start_ (n := 8) (S := fun w' => w'.cell? ⟨gb354, 0, none⟩ = some (.slice A1_0 l1_0.length c1_0) ∧ w'.cell? ⟨gb354, 1, none⟩ = some (.slice A1_1 l0_1.length c0_1) ∧ w'.cell? ⟨gb351, 0, none⟩ = some (.slice A0_0 l0_0.length c0_0) ∧ w'.cell? ⟨gb351, 1, none⟩ = some (.slice (some ad358) l0_1.length c0_1) ∧ w'.cell? (ad358.add ((x8_1).toNat * 2)) = some (.int .i64 ((rd_T40 l0_1 x8_1).f0)) ∧ w'.cell? ⟨(ad358.add ((x8_1).toNat * 2)).block, (ad358.add ((x8_1).toNat * 2)).off + 1, none⟩ = some (.int .i64 ((rd_T40 l0_1 x8_1).f1))) (ds := []) #[false, false, false, false, false, false, false, false] (by kernel_rfl) rfl rfl ⟨(blk_cell BK354.out 0).trans rfl, (blk_cell BK354.out 1).trans rfl, (blk_cell BK351.out 0).trans rfl, (blk_cell BK351.out 1).trans rfl, ((HB.out.cell (World.block_lt_of_cell? w _ hw358_0)).trans hw358_0), ((HB.out.cell (World.block_lt_of_cell? w _ hw358_1)).trans hw358_1)⟩ (fun hHeld => ?_); refine with_tabW heirloomlaw11_ReachWays.tab16 heirloomlaw11_ReachWays.bits16 (fun HT_ HW_ => ?_)
           generalize wr.drew = w20 at HO_7 BK351 BK354 HB hx358_0 hx358_1 hHeld ⊢
           refine pure_ (i := 1) (N := some 53) (v := ?_) (a' := ?_) #[false, true, false, false, false, false, false, false] rfl rfl (any_of HT_.out (by kernel_rfl)) (fun _ _ _ h => h) (Or.inl ⟨by rfl, ?_⟩) ?_ ?_
           rotate_left
           ·intro w'
            go_simp
            with_reducible rfl
           rotate_left
           ·simp only [Act.put, List.setIfInBounds_toArray, List.set_cons_zero, List.set_cons_succ, i64_w, i32_w]
            rfl
           refine pure_ (i := 3) (N := some 55) (v := ?_) (a' := ?_) #[false, true, false, true, false, false, false, false] rfl rfl (any_of HT_.out (by kernel_rfl)) (fun _ _ _ h => h) (Or.inl ⟨by rfl, ?_⟩) ?_ ?_
           rotate_left
           ·intro w'
            go_simp
            with_reducible rfl
           rotate_left
           ·simp only [Act.put, List.setIfInBounds_toArray, List.set_cons_zero, List.set_cons_succ, i64_w, i32_w]
            rfl
           refine pure_ (i := 6) (N := some 58) (v := ?_) (a' := ?_) #[false, true, false, true, false, false, true, false] rfl rfl (any_of HT_.out (by kernel_rfl)) (fun _ _ _ h => h) (Or.inl ⟨by rfl, ?_⟩) ?_ ?_
           rotate_left
           ·intro w'
            go_simp
            with_reducible rfl
           rotate_left
           ·simp only [Act.put, List.setIfInBounds_toArray, List.set_cons_zero, List.set_cons_succ, i64_w, i32_w]
            rfl
           refine take_ (i := 0) (N := some 52) (v := ?_) (a' := ?_) #[true, true, false, true, false, false, true, false] rfl rfl (take_ofW HT_.out HW_.out (by kernel_rfl)) (fun _ _ _ h => h) (Or.inl ⟨by rfl, ?_⟩) hHeld ?_ ?_
           rotate_left
           ·rintro w' ⟨s0, s1, s2, s3, s4, s5⟩
            go_simp
            with_reducible rfl
           rotate_left
           ·simp only [Act.put, List.setIfInBounds_toArray, List.set_cons_zero, List.set_cons_succ, i64_w, i32_w]
            rfl
           refine take_ (i := 2) (N := some 54) (v := ?_) (a' := ?_) #[true, true, true, true, false, false, true, false] rfl rfl (take_ofW HT_.out HW_.out (by kernel_rfl)) (fun _ _ _ h => h) (Or.inl ⟨by rfl, ?_⟩) hHeld ?_ ?_
           rotate_left
           ·rintro w' ⟨s0, s1, s2, s3, s4, s5⟩
            go_simp
            with_reducible rfl
           rotate_left
           ·simp only [Act.put, List.setIfInBounds_toArray, List.set_cons_zero, List.set_cons_succ, i64_w, i32_w]
            rfl
           refine pure_ (i := 4) (N := some 56) (v := ?_) (a' := ?_) #[true, true, true, true, true, false, true, false] rfl rfl (any_of HT_.out (by kernel_rfl)) (fun _ _ _ h => h) (Or.inl ⟨by rfl, ?_⟩) ?_ ?_
           rotate_left
           ·intro w'
            go_simp
            with_reducible rfl
           rotate_left
           ·simp only [Act.put, List.setIfInBounds_toArray, List.set_cons_zero, List.set_cons_succ, i64_w, i32_w]
            rfl
           refine take_ (i := 5) (N := some 57) (v := ?_) (a' := ?_) #[true, true, true, true, true, true, true, false] rfl rfl (take_ofW HT_.out HW_.out (by kernel_rfl)) (fun _ _ _ h => h) (Or.inl ⟨by rfl, ?_⟩) hHeld ?_ ?_
           rotate_left
           ·rintro w' ⟨s0, s1, s2, s3, s4, s5⟩
            go_simp
            with_reducible rfl
           rotate_left
           ·simp only [Act.put, List.setIfInBounds_toArray, List.set_cons_zero, List.set_cons_succ, i64_w, i32_w]
            rfl
           refine one_ (i := 7) (N := some 59) #[true, true, true, true, true, true, true, true] rfl rfl (one_of HT_.out (by kernel_rfl)) (by decide) (fun K hK => ?_)
           refine goes_ Try.func20 (by kernel_rfl) rfl #[.agg #[.slice A1_0 l1_0.length c1_0, .slice A1_1 l0_1.length c0_1], .agg #[.int .i64 ((rd_T40 l0_1 x8_1).f0), .int .i64 ((rd_T40 l0_1 x8_1).f1)], .slice Ao21 x7_1.length co21, .int .i64 1] (by rfl) rfl rfl (by (try simp only [List.map_toArray, List.map_cons, List.map_nil]); first | done | rfl | (simp only [List.length_drop, List.length_take]; rfl)) ?_
           with_reducible refine (heirloomlaw11_mark.calls _ _ l1_0 _ _ l0_1 ((rd_T40 l0_1 x8_1).f0) ((rd_T40 l0_1 x8_1).f1) (fun k_ => some k_ = (.slice Ao21 x7_1.length co21 : Value).ownBlock) (.slice Ao21 x7_1.length co21) x7_1 1 t359 w _ ?side1 ?side2 ?side3 ?side4 ?side5 ?side6 A17.out).mono ?_
           (case side1 => repeat (first | (with_reducible first | exact HB.out | apply zb | apply zn | apply zd | refine zs ?_ GE351.out | refine zs ?_ GE354.out) | exact HB.out))
           (case side2 => exact Kd.C_kept_came k43_heap HR1_0.out (by repeat (first | (with_reducible first | exact HB.out | apply zb | apply zn | apply zd | refine zs ?_ GE351.out | refine zs ?_ GE354.out) | exact HB.out)) (fun k_ hs_ => (fun e_ => Kd.R_base HO_7.out k_ e_.symm) hs_))
           (case side3 => exact HC1_0.out)
           (case side4 => exact Kd.C_kept_came k40_heap HR1_1.out (by repeat (first | (with_reducible first | exact HB.out | apply zb | apply zn | apply zd | refine zs ?_ GE351.out | refine zs ?_ GE354.out) | exact HB.out)) (fun k_ hs_ => (fun e_ => Kd.R_base HO_7.out k_ e_.symm) hs_))
           (case side5 => exact HC1_1.out)
           (case side6 => exact Kd.R_tight rfl HO_7.out)
           rintro e w22 ⟨rfl, hy0, hb, hkp⟩
           refine ⟨_, rfl, ?_⟩
           have n0_ := Aside0.mk (Kd.R_reok rfl hy0 (fun k_ e_ => HO_7.out.1 k_ e_))
           have n1_ := Aside0.mk (blk_kept (by (with_reducible repeat first | refine kn ?_ _ | refine kd ?_ | refine ka ?_ _); exact BK351.out) hkp (fun hs_ => (fun e_ => (Kd.R_ne HO_7.out BK351.out (by decide)) e_) hs_))
           have n2_ := Aside0.mk (blk_kept (by (with_reducible repeat first | refine kn ?_ _ | refine kd ?_ | refine ka ?_ _); exact BK354.out) hkp (fun hs_ => (fun e_ => (Kd.R_ne HO_7.out BK354.out (by decide)) e_) hs_))
           have n3_ := Aside0.mk (hb)
           clear HO_7
           clear BK351
           clear BK354
           clear HB
           have HO_7 := n0_
           have BK351 := n1_
           have BK354 := n2_
           have HB := n3_
           clear n0_ n1_ n2_ n3_
           (try clear hb)
           (try clear hkp)
           (try clear hy0)
           refine hK.out _ _ ⟨(blk_cell BK354.out 0).trans rfl, (blk_cell BK354.out 1).trans rfl, (blk_cell BK351.out 0).trans rfl, (blk_cell BK351.out 1).trans rfl, ((HB.out.cell (World.block_lt_of_cell? w _ hw358_0)).trans hw358_0), ((HB.out.cell (World.block_lt_of_cell? w _ hw358_1)).trans hw358_1)⟩ (fun hHeld => ?_)
           clear hK K
           refine norm_ (a' := ?_) ?_ ?_
           rotate_left
           ·show Act.put _ (some 59) _ = _
            simp only [Act.put, List.setIfInBounds_toArray, List.set_cons_zero, List.set_cons_succ, i64_w, i32_w]
            rfl
           refine done_ (done_of HT_.out (by kernel_rfl)) ?_
           try go_wp2
           go_roundg k1
           case measure => have := HK1.out; omega
           case rel => exact ⟨(t359), (wrap64 (x8_1 + 1)), (by first | rfl | (simp; done) | (simp [*]; done)), H', ⟨by have := HK1.out; omega⟩, ⟨by (with_reducible repeat (first | apply Kd.R_alloc | apply Kd.R_drewN | apply Kd.R_drew)); exact HO_7.out⟩, ⟨by (with_reducible repeat first | refine kn ?_ _ | refine kd ?_ | refine ka ?_ _); exact BK351.out⟩, ⟨by (with_reducible repeat first | refine kn ?_ _ | refine kd ?_ | refine ka ?_ _); exact BK354.out⟩, ⟨by repeat (first | (with_reducible first | exact HB.out | apply zb | apply zn | apply zd | refine zs ?_ GE351.out | refine zs ?_ GE354.out) | exact HB.out)⟩⟩
          ·rw [if_neg c16] at H
           exact absurd H (by simp)
         ·rw [if_neg c15] at H
          have c15b0 : decide (x8_1 < (l0_1.length : Int)) = false := decide_eq_false c15
          clear c15
          have H' := Aside0.mk H
          clear H
          have hnb23 := NB351_354.out
          have hnc23 := NB354_351.out
          have hcz24_0 : wr.cell? ⟨gb351, 0, none⟩ = some (.slice A0_0 l0_0.length c0_0) := (blk_cell BK351.out 0).trans rfl
          have hcz24_1 : wr.cell? ⟨gb351, 1, none⟩ = some (.slice A0_1 l0_1.length c0_1) := (blk_cell BK351.out 1).trans rfl
          have hfz24_0 := blk_frozen BK351.out 0
          have hfz24_1 := blk_frozen BK351.out 1
          go_wp2
          go_loopg [9] k1 (fun kq v9 w' => ∃ (x7_2 : List Int) (x9_2 : Int), v9 = .int .i64 x9_2 ∧ Aside0 (heirloomlaw11_ReachWays.l1 kq (l0_0.length : Int) x7_2 x9_2 l1_0 l0_1 = some r) ∧ Aside0 (kq ≤ k1) ∧ Aside0 (Kd.R (Kd.int .i64) 3 w' w.heap.size (fun _ => True) v356 x7_2) ∧ Aside0 (w'.heap[gb351]? = some (.cells #[(.slice A0_0 l0_0.length c0_0), (.slice A0_1 l0_1.length c0_1)] 25 (0, 0))) ∧ Aside0 (w'.heap[gb354]? = some (.cells #[(.slice A1_0 l1_0.length c1_0), (.slice A1_1 l0_1.length c0_1)] 25 (0, 0))) ∧ Aside0 (Below w.heap.size w w'))
          case atStart => exact ⟨(x7_1), (1), (by first | rfl | (simp; done) | (simp [*]; done)), H', ⟨Nat.le_refl _⟩, ⟨by (with_reducible repeat (first | apply Kd.R_alloc | apply Kd.R_drewN | apply Kd.R_drew)); exact HO_7.out⟩, ⟨by (with_reducible repeat first | refine kn ?_ _ | refine kd ?_ | refine ka ?_ _); exact BK351.out⟩, ⟨by (with_reducible repeat first | refine kn ?_ _ | refine kd ?_ | refine ka ?_ _); exact BK354.out⟩, ⟨by repeat (first | (with_reducible first | exact HB.out | apply zb | apply zn | apply zd | refine zs ?_ GE351.out | refine zs ?_ GE354.out) | exact HB.out)⟩⟩
          case round =>
           clear H'
           try clear c1
           try clear c2
           try clear p2
           try clear p3
           try clear q3
           try clear hx3
           try clear c4
           try clear c5
           try clear c5b0
           try clear c5b1
           try clear c6
           try clear c6b0
           try clear c6b1
           try clear p6
           try clear c10
           try clear c11
           try clear c15
           try clear c15b0
           try clear c16
           try clear c16b0
           try clear c18
           try clear c20
           try clear c23
           try clear hcz12_0
           try clear hcz12_1
           try clear hcz19_0
           try clear hcz19_1
           try clear hcz24_0
           try clear hcz24_1
           try clear hcz8_0
           try clear hcz8_1
           try clear hfz12_0
           try clear hfz12_1
           try clear hfz19_0
           try clear hfz19_1
           try clear hfz24_0
           try clear hfz24_1
           try clear hfz8_0
           try clear hfz8_1
           try clear hx358_0
           try clear hx358_1
           try clear p2
           try clear p358
           try clear q358
           obtain ⟨x7_2, x9_2, rfl, HA, HK2, HO_7, BK351, BK354, HB⟩ := hrel
           cases gk with
           | zero => exact absurd HA.out (by simp [heirloomlaw11_ReachWays.l1])
           | succ k2 =>
            have H := HA.out
            clear HA
            simp only [heirloomlaw11_ReachWays.l1] at H
            by_cases c25 : x9_2 ≤ (l0_0.length : Int)
            ·rw [if_pos c25] at H
             have c25b0 : decide (x9_2 ≤ (l0_0.length : Int)) = true := decide_eq_true c25
             clear c25
             have H' := Aside0.mk H
             clear H
             go_wp2
             go_loopg [10] k2 (fun kq v10 w' => ∃ (x7_3 : List Int) (x10_3 : Int), v10 = .int .i64 x10_3 ∧ Aside0 (heirloomlaw11_ReachWays.l2 kq (l0_0.length : Int) x7_3 x9_2 x10_3 l1_0 l0_1 = some r) ∧ Aside0 (kq ≤ k2) ∧ Aside0 (Kd.R (Kd.int .i64) 3 w' w.heap.size (fun _ => True) v356 x7_3) ∧ Aside0 (w'.heap[gb351]? = some (.cells #[(.slice A0_0 l0_0.length c0_0), (.slice A0_1 l0_1.length c0_1)] 25 (0, 0))) ∧ Aside0 (w'.heap[gb354]? = some (.cells #[(.slice A1_0 l1_0.length c1_0), (.slice A1_1 l0_1.length c0_1)] 25 (0, 0))) ∧ Aside0 (Below w.heap.size w w'))
             case atStart => exact ⟨(x7_2), (0), (by first | rfl | (simp; done) | (simp [*]; done)), H', ⟨Nat.le_refl _⟩, ⟨by (with_reducible repeat (first | apply Kd.R_alloc | apply Kd.R_drewN | apply Kd.R_drew)); exact HO_7.out⟩, ⟨by (with_reducible repeat first | refine kn ?_ _ | refine kd ?_ | refine ka ?_ _); exact BK351.out⟩, ⟨by (with_reducible repeat first | refine kn ?_ _ | refine kd ?_ | refine ka ?_ _); exact BK354.out⟩, ⟨by repeat (first | (with_reducible first | exact HB.out | apply zb | apply zn | apply zd | refine zs ?_ GE351.out | refine zs ?_ GE354.out) | exact HB.out)⟩⟩
             case round =>
              clear H'
              try clear c1
              try clear c2
              try clear p2
              try clear p3
              try clear q3
              try clear hx3
              try clear c4
              try clear c5
              try clear c5b0
              try clear c5b1
              try clear c6
              try clear c6b0
              try clear c6b1
              try clear p6
              try clear c10
              try clear c11
              try clear c15
              try clear c15b0
              try clear c16
              try clear c16b0
              try clear c18
              try clear c20
              try clear c23
              try clear c25
              try clear c25b0
              try clear hcz12_0
              try clear hcz12_1
              try clear hcz19_0
              try clear hcz19_1
              try clear hcz24_0
              try clear hcz24_1
              try clear hcz8_0
              try clear hcz8_1
              try clear hfz12_0
              try clear hfz12_1
              try clear hfz19_0
              try clear hfz19_1
              try clear hfz24_0
              try clear hfz24_1
              try clear hfz8_0
              try clear hfz8_1
              try clear hx358_0
              try clear hx358_1
              try clear p2
              try clear p3
              try clear p358
              try clear p6
              try clear q3
              try clear q358
              obtain ⟨x7_3, x10_3, rfl, HA, HK3, HO_7, BK351, BK354, HB⟩ := hrel
              cases gk with
              | zero => exact absurd HA.out (by simp [heirloomlaw11_ReachWays.l2])
              | succ k3 =>
               have H := HA.out
               clear HA
               simp only [heirloomlaw11_ReachWays.l2] at H
               by_cases c26 : x10_3 < (l0_0.length : Int)
               ·rw [if_pos c26] at H
                have c26b0 : decide (x10_3 < (l0_0.length : Int)) = true := decide_eq_true c26
                clear c26
                have H' := Aside0.mk H
                clear H
                go_wp2
                go_loopg [11] k3 (fun kq v11 w' => ∃ (x7_4 : List Int) (x11_4 : Int), v11 = .int .i64 x11_4 ∧ Aside0 (heirloomlaw11_ReachWays.l3 kq (l0_0.length : Int) x7_4 x9_2 x10_3 x11_4 l1_0 l0_1 = some r) ∧ Aside0 (kq ≤ k3) ∧ Aside0 (Kd.R (Kd.int .i64) 3 w' w.heap.size (fun _ => True) v356 x7_4) ∧ Aside0 (w'.heap[gb351]? = some (.cells #[(.slice A0_0 l0_0.length c0_0), (.slice A0_1 l0_1.length c0_1)] 25 (0, 0))) ∧ Aside0 (w'.heap[gb354]? = some (.cells #[(.slice A1_0 l1_0.length c1_0), (.slice A1_1 l0_1.length c0_1)] 25 (0, 0))) ∧ Aside0 (Below w.heap.size w w'))
                case atStart => exact ⟨(x7_3), (0), (by first | rfl | (simp; done) | (simp [*]; done)), H', ⟨Nat.le_refl _⟩, ⟨by (with_reducible repeat (first | apply Kd.R_alloc | apply Kd.R_drewN | apply Kd.R_drew)); exact HO_7.out⟩, ⟨by (with_reducible repeat first | refine kn ?_ _ | refine kd ?_ | refine ka ?_ _); exact BK351.out⟩, ⟨by (with_reducible repeat first | refine kn ?_ _ | refine kd ?_ | refine ka ?_ _); exact BK354.out⟩, ⟨by repeat (first | (with_reducible first | exact HB.out | apply zb | apply zn | apply zd | refine zs ?_ GE351.out | refine zs ?_ GE354.out) | exact HB.out)⟩⟩
                case round =>
                 clear H'
                 try clear c1
                 try clear c2
                 try clear p2
                 try clear p3
                 try clear q3
                 try clear hx3
                 try clear c4
                 try clear c5
                 try clear c5b0
                 try clear c5b1
                 try clear c6
                 try clear c6b0
                 try clear c6b1
                 try clear p6
                 try clear c10
                 try clear c11
                 try clear c15
                 try clear c15b0
                 try clear c16
                 try clear c16b0
                 try clear c18
                 try clear c20
                 try clear c23
                 try clear c25
                 try clear c25b0
                 try clear c26
                 try clear c26b0
                 try clear hcz12_0
                 try clear hcz12_1
                 try clear hcz19_0
                 try clear hcz19_1
                 try clear hcz24_0
                 try clear hcz24_1
                 try clear hcz8_0
                 try clear hcz8_1
                 try clear hfz12_0
                 try clear hfz12_1
                 try clear hfz19_0
                 try clear hfz19_1
                 try clear hfz24_0
                 try clear hfz24_1
                 try clear hfz8_0
                 try clear hfz8_1
                 try clear hx358_0
                 try clear hx358_1
                 try clear p2
                 try clear p3
                 try clear p358
                 try clear p6
                 try clear q3
                 try clear q358
                 obtain ⟨x7_4, x11_4, rfl, HA, HK4, HO_7, BK351, BK354, HB⟩ := hrel
                 cases gk with
                 | zero => exact absurd HA.out (by simp [heirloomlaw11_ReachWays.l3])
                 | succ k4 =>
                  have H := HA.out
                  clear HA
                  simp only [heirloomlaw11_ReachWays.l3] at H
                  by_cases c27 : 0 ≤ x10_3
                  ·rw [if_pos c27] at H
                   have c27b0 : decide (0 ≤ x10_3) = true := decide_eq_true c27
                   clear c27
                   by_cases c28 : x10_3 < (x7_4.length : Int)
                   ·rw [if_pos c28] at H
                    have c28b0 : decide (x10_3 < (x7_4.length : Int)) = true := decide_eq_true c28
                    clear c28
                    by_cases c29 : (rd x7_4 x10_3) = x9_2
                    ·rw [if_pos c29] at H
                     have c29b0 : ((rd x7_4 x10_3) == x9_2) = true := beq_iff_eq.mpr c29
                     have c29b1 : ((rd x7_4 x10_3) != x9_2) = false := bne_eq_false_iff_eq.mpr c29
                     clear c29
                     by_cases c30 : x10_3 < (l1_0.length : Int)
                     ·rw [if_pos c30] at H
                      have c30b0 : decide (x10_3 < (l1_0.length : Int)) = true := decide_eq_true c30
                      clear c30
                      by_cases c31 : x11_4 < (((rd_T43 l1_0 x10_3).f3).length : Int)
                      ·rw [if_pos c31] at H
                       have c31b0 : decide (x11_4 < (((rd_T43 l1_0 x10_3).f3).length : Int)) = true := decide_eq_true c31
                       clear c31
                       by_cases c32 : 0 ≤ x11_4
                       ·rw [if_pos c32] at H
                        have c32b0 : decide (0 ≤ x11_4) = true := decide_eq_true c32
                        clear c32
                        replace H := Option.bind_eq_some_iff.mp H
                        obtain ⟨t364, A330, H⟩ := H
                        replace H : (heirloomlaw11_ReachWays.l3 k4 (l0_0.length : Int) t364 x9_2 x10_3 (wrap64 (x11_4 + 1)) l1_0 l0_1) = some r := H
                        have A33 := Aside0.mk A330
                        clear A330
                        have H' := Aside0.mk H
                        clear H
                        obtain ⟨Ao34, co34, eo34⟩ := Kd.R_slice HO_7.out
                        subst eo34
                        have p360 : 0 ≤ (x10_3 : Int) := of_decide_eq_true (by first | (with_reducible assumption) | assumption)
                        have q360 : x10_3 < (x7_4.length : Int) := of_decide_eq_true (by first | (with_reducible assumption) | assumption)
                        obtain ⟨ad360, e360, hx360_0⟩ := Kd.at_int (Kd.R_reads' HO_7.out).2.2 x10_3 p360 q360
                        cases e360
                        replace p360 := eq_true p360
                        replace q360 := eq_true q360
                        have hnb35 := NB354_351.out
                        have hnc35 := NB351_354.out
                        have hcz36_0 : wr.cell? ⟨gb354, 0, none⟩ = some (.slice A1_0 l1_0.length c1_0) := (blk_cell BK354.out 0).trans rfl
                        have hcz36_1 : wr.cell? ⟨gb354, 1, none⟩ = some (.slice A1_1 l0_1.length c0_1) := (blk_cell BK354.out 1).trans rfl
                        have hfz36_0 := blk_frozen BK354.out 0
                        have hfz36_1 := blk_frozen BK354.out 1
                        have p361 : 0 ≤ (x10_3 : Int) := of_decide_eq_true (by first | (with_reducible assumption) | assumption)
                        have q361 : x10_3 < (l1_0.length : Int) := of_decide_eq_true (by first | (with_reducible assumption) | assumption)
                        obtain ⟨ad361, A361_3, c361_3, e361, hx361_0, hx361_1, hx361_2, hx361_3, hx361_4, hl361_3, hi361_3⟩ := at_T43 HR1_0.out x10_3 p361 q361
                        cases e361
                        replace hx361_0 := (HB.out.cell (World.block_lt_of_cell? w _ hx361_0)).trans hx361_0
                        replace hx361_1 := (HB.out.cell (World.block_lt_of_cell? w _ hx361_1)).trans hx361_1
                        replace hx361_2 := (HB.out.cell (World.block_lt_of_cell? w _ hx361_2)).trans hx361_2
                        replace hx361_3 := (HB.out.cell (World.block_lt_of_cell? w _ hx361_3)).trans hx361_3
                        replace hx361_4 := (HB.out.cell (World.block_lt_of_cell? w _ hx361_4)).trans hx361_4
                        have HR361_3 := Aside0.mk hi361_3
                        have HC361_3 := Aside0.mk hl361_3
                        clear hi361_3 hl361_3
                        replace p361 := eq_true p361
                        replace q361 := eq_true q361
                        try go_wp2
                        have n0_ := Aside0.mk (Kd.R_drew HO_7.out)
                        have n1_ := Aside0.mk (blk_drew BK351.out)
                        have n2_ := Aside0.mk (blk_drew BK354.out)
                        have n3_ := Aside0.mk (below_drew1 HB.out)
                        clear HO_7
                        clear BK351
                        clear BK354
                        clear HB
                        have HO_7 := n0_
                        have BK351 := n1_
                        have BK354 := n2_
                        have HB := n3_
                        clear n0_ n1_ n2_ n3_
                        have p362 : 0 ≤ (x10_3 : Int) := of_decide_eq_true (by first | (with_reducible assumption) | assumption)
                        have q362 : x10_3 < (l1_0.length : Int) := of_decide_eq_true (by first | (with_reducible assumption) | assumption)
                        obtain ⟨ad362, A362_3, c362_3, e362, hx362_0, hx362_1, hx362_2, hx362_3, hx362_4, hl362_3, hi362_3⟩ := at_T43 HR1_0.out x10_3 p362 q362
                        have hw362_4 := hx362_4
                        have hw362_3 := hx362_3
                        have hw362_2 := hx362_2
                        have hw362_1 := hx362_1
                        have hw362_0 := hx362_0
                        obtain rfl : ad361 = ad362 := (by injection e362)
                        replace hx362_0 := (HB.out.cell (World.block_lt_of_cell? w _ hx362_0)).trans hx362_0
                        replace hx362_1 := (HB.out.cell (World.block_lt_of_cell? w _ hx362_1)).trans hx362_1
                        replace hx362_2 := (HB.out.cell (World.block_lt_of_cell? w _ hx362_2)).trans hx362_2
                        replace hx362_3 := (HB.out.cell (World.block_lt_of_cell? w _ hx362_3)).trans hx362_3
                        replace hx362_4 := (HB.out.cell (World.block_lt_of_cell? w _ hx362_4)).trans hx362_4
                        have HR362_3 := Aside0.mk hi362_3
                        have HC362_3 := Aside0.mk hl362_3
                        clear hi362_3 hl362_3
                        replace p362 := eq_true p362
                        replace q362 := eq_true q362
                        have p363 : 0 ≤ (x11_4 : Int) := of_decide_eq_true (by first | (with_reducible assumption) | assumption)
                        have q363 : x11_4 < (((rd_T43 l1_0 x10_3).f3).length : Int) := of_decide_eq_true (by first | (with_reducible assumption) | assumption)
                        obtain ⟨ad363, e363, hx363_0, hx363_1⟩ := at_T40 HR362_3.out x11_4 p363 q363
                        have hw363_1 := hx363_1
                        have hw363_0 := hx363_0
                        cases e363
                        replace hx363_0 := (HB.out.cell (World.block_lt_of_cell? w _ hx363_0)).trans hx363_0
                        replace hx363_1 := (HB.out.cell (World.block_lt_of_cell? w _ hx363_1)).trans hx363_1
                        replace p363 := eq_true p363
                        replace q363 := eq_true q363
                        refine start_ (n := 14) (S := fun w' => w'.cell? ⟨gb354, 0, none⟩ = some (.slice (some ad361) l1_0.length c1_0) ∧ w'.cell? ⟨gb354, 1, none⟩ = some (.slice A1_1 l0_1.length c0_1) ∧ w'.cell? (ad361.add ((x10_3).toNat * 5)) = some (.int .i64 ((rd_T43 l1_0 x10_3).f0)) ∧ w'.cell? ⟨(ad361.add ((x10_3).toNat * 5)).block, (ad361.add ((x10_3).toNat * 5)).off + 1, none⟩ = some (.int .i64 ((rd_T43 l1_0 x10_3).f1)) ∧ w'.cell? ⟨(ad361.add ((x10_3).toNat * 5)).block, (ad361.add ((x10_3).toNat * 5)).off + 2, none⟩ = some (.int .i64 ((rd_T43 l1_0 x10_3).f2)) ∧ w'.cell? ⟨(ad361.add ((x10_3).toNat * 5)).block, (ad361.add ((x10_3).toNat * 5)).off + 3, none⟩ = some (.slice (some ad363) ((rd_T43 l1_0 x10_3).f3).length c362_3) ∧ w'.cell? ⟨(ad361.add ((x10_3).toNat * 5)).block, (ad361.add ((x10_3).toNat * 5)).off + 4, none⟩ = some (.int .i64 ((rd_T43 l1_0 x10_3).f4)) ∧ w'.cell? (ad363.add ((x11_4).toNat * 2)) = some (.int .i64 ((rd_T40 ((rd_T43 l1_0 x10_3).f3) x11_4).f0)) ∧ w'.cell? ⟨(ad363.add ((x11_4).toNat * 2)).block, (ad363.add ((x11_4).toNat * 2)).off + 1, none⟩ = some (.int .i64 ((rd_T40 ((rd_T43 l1_0 x10_3).f3) x11_4).f1))) (ds := []) #[false, false, false, false, false, false, false, false, false, false, false, false, false, false] (by kernel_rfl) rfl rfl ⟨(blk_cell BK354.out 0).trans rfl, (blk_cell BK354.out 1).trans rfl, ((HB.out.cell (World.block_lt_of_cell? w _ hw362_0)).trans hw362_0), ((HB.out.cell (World.block_lt_of_cell? w _ hw362_1)).trans hw362_1), ((HB.out.cell (World.block_lt_of_cell? w _ hw362_2)).trans hw362_2), ((HB.out.cell (World.block_lt_of_cell? w _ hw362_3)).trans hw362_3), ((HB.out.cell (World.block_lt_of_cell? w _ hw362_4)).trans hw362_4), ((HB.out.cell (World.block_lt_of_cell? w _ hw363_0)).trans hw363_0), ((HB.out.cell (World.block_lt_of_cell? w _ hw363_1)).trans hw363_1)⟩ (fun hHeld => ?_); refine with_tabW heirloomlaw11_ReachWays.tab26 heirloomlaw11_ReachWays.bits26 (fun HT_ HW_ => ?_)
                        generalize wr.drew = w37 at HO_7 BK351 BK354 HB HR362_3 hx362_0 hx362_1 hx362_2 hx362_3 hx362_4 hx363_0 hx363_1 hHeld ⊢
                        refine pure_ (i := 1) (N := some 90) (v := ?_) (a' := ?_) #[false, true, false, false, false, false, false, false, false, false, false, false, false, false] rfl rfl (any_of HT_.out (by kernel_rfl)) (fun _ _ _ h => h) (Or.inl ⟨by rfl, ?_⟩) ?_ ?_
                        rotate_left
                        ·intro w'
                         go_simp
                         with_reducible rfl
                        rotate_left
                        ·simp only [Act.put, List.setIfInBounds_toArray, List.set_cons_zero, List.set_cons_succ, i64_w, i32_w]
                         rfl
                        refine pure_ (i := 3) (N := some 92) (v := ?_) (a' := ?_) #[false, true, false, true, false, false, false, false, false, false, false, false, false, false] rfl rfl (any_of HT_.out (by kernel_rfl)) (fun _ _ _ h => h) (Or.inl ⟨by rfl, ?_⟩) ?_ ?_
                        rotate_left
                        ·intro w'
                         go_simp
                         with_reducible rfl
                        rotate_left
                        ·simp only [Act.put, List.setIfInBounds_toArray, List.set_cons_zero, List.set_cons_succ, i64_w, i32_w]
                         rfl
                        refine pure_ (i := 7) (N := some 96) (v := ?_) (a' := ?_) #[false, true, false, true, false, false, false, true, false, false, false, false, false, false] rfl rfl (any_of HT_.out (by kernel_rfl)) (fun _ _ _ h => h) (Or.inl ⟨by rfl, ?_⟩) ?_ ?_
                        rotate_left
                        ·intro w'
                         go_simp
                         with_reducible rfl
                        rotate_left
                        ·simp only [Act.put, List.setIfInBounds_toArray, List.set_cons_zero, List.set_cons_succ, i64_w, i32_w]
                         rfl
                        refine pure_ (i := 10) (N := some 99) (v := ?_) (a' := ?_) #[false, true, false, true, false, false, false, true, false, false, true, false, false, false] rfl rfl (any_of HT_.out (by kernel_rfl)) (fun _ _ _ h => h) (Or.inl ⟨by rfl, ?_⟩) ?_ ?_
                        rotate_left
                        ·intro w'
                         go_simp
                         with_reducible rfl
                        rotate_left
                        ·simp only [Act.put, List.setIfInBounds_toArray, List.set_cons_zero, List.set_cons_succ, i64_w, i32_w]
                         rfl
                        refine pure_ (i := 11) (N := some 100) (v := ?_) (a' := ?_) #[false, true, false, true, false, false, false, true, false, false, true, true, false, false] rfl rfl (any_of HT_.out (by kernel_rfl)) (fun _ _ _ h => h) (Or.inl ⟨by rfl, ?_⟩) ?_ ?_
                        rotate_left
                        ·intro w'
                         go_simp
                         with_reducible rfl
                        rotate_left
                        ·simp only [Act.put, List.setIfInBounds_toArray, List.set_cons_zero, List.set_cons_succ, i64_w, i32_w]
                         rfl
                        refine pure_ (i := 12) (N := some 101) (v := ?_) (a' := ?_) #[false, true, false, true, false, false, false, true, false, false, true, true, true, false] rfl rfl (any_of HT_.out (by kernel_rfl)) (fun _ _ _ h => h) (Or.inl ⟨by rfl, ?_⟩) ?_ ?_
                        rotate_left
                        ·intro w'
                         go_simp
                         with_reducible rfl
                        rotate_left
                        ·simp only [Act.put, List.setIfInBounds_toArray, List.set_cons_zero, List.set_cons_succ, i64_w, i32_w]
                         rfl
                        refine take_ (i := 0) (N := some 89) (v := ?_) (a' := ?_) #[true, true, false, true, false, false, false, true, false, false, true, true, true, false] rfl rfl (take_ofW HT_.out HW_.out (by kernel_rfl)) (fun _ _ _ h => h) (Or.inl ⟨by rfl, ?_⟩) hHeld ?_ ?_
                        rotate_left
                        ·rintro w' ⟨s0, s1, s2, s3, s4, s5, s6, s7, s8⟩
                         go_simp
                         with_reducible rfl
                        rotate_left
                        ·simp only [Act.put, List.setIfInBounds_toArray, List.set_cons_zero, List.set_cons_succ, i64_w, i32_w]
                         rfl
                        refine take_ (i := 2) (N := some 91) (v := ?_) (a' := ?_) #[true, true, true, true, false, false, false, true, false, false, true, true, true, false] rfl rfl (take_ofW HT_.out HW_.out (by kernel_rfl)) (fun _ _ _ h => h) (Or.inl ⟨by rfl, ?_⟩) hHeld ?_ ?_
                        rotate_left
                        ·rintro w' ⟨s0, s1, s2, s3, s4, s5, s6, s7, s8⟩
                         go_simp
                         with_reducible rfl
                        rotate_left
                        ·simp only [Act.put, List.setIfInBounds_toArray, List.set_cons_zero, List.set_cons_succ, i64_w, i32_w]
                         rfl
                        refine pure_ (i := 4) (N := some 93) (v := ?_) (a' := ?_) #[true, true, true, true, true, false, false, true, false, false, true, true, true, false] rfl rfl (any_of HT_.out (by kernel_rfl)) (fun _ _ _ h => h) (Or.inl ⟨by rfl, ?_⟩) ?_ ?_
                        rotate_left
                        ·intro w'
                         go_simp
                         with_reducible rfl
                        rotate_left
                        ·simp only [Act.put, List.setIfInBounds_toArray, List.set_cons_zero, List.set_cons_succ, i64_w, i32_w]
                         rfl
                        refine pure_ (i := 5) (N := some 94) (v := ?_) (a' := ?_) #[true, true, true, true, true, true, false, true, false, false, true, true, true, false] rfl rfl (any_of HT_.out (by kernel_rfl)) (fun _ _ _ h => h) (Or.inl ⟨by rfl, ?_⟩) ?_ ?_
                        rotate_left
                        ·intro w'
                         go_simp
                         with_reducible rfl
                        rotate_left
                        ·simp only [Act.put, List.setIfInBounds_toArray, List.set_cons_zero, List.set_cons_succ, i64_w, i32_w]
                         rfl
                        refine take_ (i := 6) (N := some 95) (v := ?_) (a' := ?_) #[true, true, true, true, true, true, true, true, false, false, true, true, true, false] rfl rfl (take_ofW HT_.out HW_.out (by kernel_rfl)) (fun _ _ _ h => h) (Or.inl ⟨by rfl, ?_⟩) hHeld ?_ ?_
                        rotate_left
                        ·rintro w' ⟨s0, s1, s2, s3, s4, s5, s6, s7, s8⟩
                         go_simp
                         with_reducible rfl
                        rotate_left
                        ·simp only [Act.put, List.setIfInBounds_toArray, List.set_cons_zero, List.set_cons_succ, i64_w, i32_w]
                         rfl
                        refine pure_ (i := 8) (N := some 97) (v := ?_) (a' := ?_) #[true, true, true, true, true, true, true, true, true, false, true, true, true, false] rfl rfl (any_of HT_.out (by kernel_rfl)) (fun _ _ _ h => h) (Or.inl ⟨by rfl, ?_⟩) ?_ ?_
                        rotate_left
                        ·intro w'
                         go_simp
                         with_reducible rfl
                        rotate_left
                        ·simp only [Act.put, List.setIfInBounds_toArray, List.set_cons_zero, List.set_cons_succ, i64_w, i32_w]
                         rfl
                        refine take_ (i := 9) (N := some 98) (v := ?_) (a' := ?_) #[true, true, true, true, true, true, true, true, true, true, true, true, true, false] rfl rfl (take_ofW HT_.out HW_.out (by kernel_rfl)) (fun _ _ _ h => h) (Or.inl ⟨by rfl, ?_⟩) hHeld ?_ ?_
                        rotate_left
                        ·rintro w' ⟨s0, s1, s2, s3, s4, s5, s6, s7, s8⟩
                         go_simp
                         with_reducible rfl
                        rotate_left
                        ·simp only [Act.put, List.setIfInBounds_toArray, List.set_cons_zero, List.set_cons_succ, i64_w, i32_w]
                         rfl
                        refine one_ (i := 13) (N := some 102) #[true, true, true, true, true, true, true, true, true, true, true, true, true, true] rfl rfl (one_of HT_.out (by kernel_rfl)) (by decide) (fun K hK => ?_)
                        refine goes_ Try.func20 (by kernel_rfl) rfl #[.agg #[.slice (some ad361) l1_0.length c1_0, .slice A1_1 l0_1.length c0_1], .agg #[.int .i64 ((rd_T40 ((rd_T43 l1_0 x10_3).f3) x11_4).f0), .int .i64 ((rd_T40 ((rd_T43 l1_0 x10_3).f3) x11_4).f1)], .slice (some ad360) x7_4.length co34, .int .i64 (wrap64 (x9_2 + 1))] (by rfl) rfl rfl (by (try simp only [List.map_toArray, List.map_cons, List.map_nil]); first | done | rfl | (simp only [List.length_drop, List.length_take]; rfl)) ?_
                        with_reducible refine (heirloomlaw11_mark.calls _ _ l1_0 _ _ l0_1 ((rd_T40 ((rd_T43 l1_0 x10_3).f3) x11_4).f0) ((rd_T40 ((rd_T43 l1_0 x10_3).f3) x11_4).f1) (fun k_ => some k_ = (.slice (some ad360) x7_4.length co34 : Value).ownBlock) (.slice (some ad360) x7_4.length co34) x7_4 (wrap64 (x9_2 + 1)) t364 w _ ?side1 ?side2 ?side3 ?side4 ?side5 ?side6 A33.out).mono ?_
                        (case side1 => repeat (first | (with_reducible first | exact HB.out | apply zb | apply zn | apply zd | refine zs ?_ GE351.out | refine zs ?_ GE354.out) | exact HB.out))
                        (case side2 => exact Kd.C_kept_came k43_heap HR1_0.out (by repeat (first | (with_reducible first | exact HB.out | apply zb | apply zn | apply zd | refine zs ?_ GE351.out | refine zs ?_ GE354.out) | exact HB.out)) (fun k_ hs_ => (fun e_ => Kd.R_base HO_7.out k_ e_.symm) hs_))
                        (case side3 => exact HC1_0.out)
                        (case side4 => exact Kd.C_kept_came k40_heap HR1_1.out (by repeat (first | (with_reducible first | exact HB.out | apply zb | apply zn | apply zd | refine zs ?_ GE351.out | refine zs ?_ GE354.out) | exact HB.out)) (fun k_ hs_ => (fun e_ => Kd.R_base HO_7.out k_ e_.symm) hs_))
                        (case side5 => exact HC1_1.out)
                        (case side6 => exact Kd.R_tight rfl HO_7.out)
                        rintro e w38 ⟨rfl, hy0, hb, hkp⟩
                        refine ⟨_, rfl, ?_⟩
                        have n0_ := Aside0.mk (Kd.R_reok rfl hy0 (fun k_ e_ => HO_7.out.1 k_ e_))
                        have n1_ := Aside0.mk (blk_kept (by (with_reducible repeat first | refine kn ?_ _ | refine kd ?_ | refine ka ?_ _); exact BK351.out) hkp (fun hs_ => (fun e_ => (Kd.R_ne HO_7.out BK351.out (by decide)) e_) hs_))
                        have n2_ := Aside0.mk (blk_kept (by (with_reducible repeat first | refine kn ?_ _ | refine kd ?_ | refine ka ?_ _); exact BK354.out) hkp (fun hs_ => (fun e_ => (Kd.R_ne HO_7.out BK354.out (by decide)) e_) hs_))
                        have n3_ := Aside0.mk (hb)
                        clear HO_7
                        clear BK351
                        clear BK354
                        clear HB
                        have HO_7 := n0_
                        have BK351 := n1_
                        have BK354 := n2_
                        have HB := n3_
                        clear n0_ n1_ n2_ n3_
                        (try clear hb)
                        (try clear hkp)
                        (try clear hy0)
                        refine hK.out _ _ ⟨(blk_cell BK354.out 0).trans rfl, (blk_cell BK354.out 1).trans rfl, ((HB.out.cell (World.block_lt_of_cell? w _ hw362_0)).trans hw362_0), ((HB.out.cell (World.block_lt_of_cell? w _ hw362_1)).trans hw362_1), ((HB.out.cell (World.block_lt_of_cell? w _ hw362_2)).trans hw362_2), ((HB.out.cell (World.block_lt_of_cell? w _ hw362_3)).trans hw362_3), ((HB.out.cell (World.block_lt_of_cell? w _ hw362_4)).trans hw362_4), ((HB.out.cell (World.block_lt_of_cell? w _ hw363_0)).trans hw363_0), ((HB.out.cell (World.block_lt_of_cell? w _ hw363_1)).trans hw363_1)⟩ (fun hHeld => ?_)
                        clear hK K
                        refine norm_ (a' := ?_) ?_ ?_
                        rotate_left
                        ·show Act.put _ (some 102) _ = _
                         simp only [Act.put, List.setIfInBounds_toArray, List.set_cons_zero, List.set_cons_succ, i64_w, i32_w]
                         rfl
                        refine done_ (done_of HT_.out (by kernel_rfl)) ?_
                        try go_wp2
                        go_roundg k4
                        case measure => have := HK1.out; have := HK2.out; have := HK3.out; have := HK4.out; omega
                        case rel => exact ⟨(t364), (wrap64 (x11_4 + 1)), (by first | rfl | (simp; done) | (simp [*]; done)), H', ⟨by have := HK1.out; have := HK2.out; have := HK3.out; have := HK4.out; omega⟩, ⟨by (with_reducible repeat (first | apply Kd.R_alloc | apply Kd.R_drewN | apply Kd.R_drew)); exact HO_7.out⟩, ⟨by (with_reducible repeat first | refine kn ?_ _ | refine kd ?_ | refine ka ?_ _); exact BK351.out⟩, ⟨by (with_reducible repeat first | refine kn ?_ _ | refine kd ?_ | refine ka ?_ _); exact BK354.out⟩, ⟨by repeat (first | (with_reducible first | exact HB.out | apply zb | apply zn | apply zd | refine zs ?_ GE351.out | refine zs ?_ GE354.out) | exact HB.out)⟩⟩
                       ·rw [if_neg c32] at H
                        exact absurd H (by simp)
                      ·rw [if_neg c31] at H
                       have c31b0 : decide (x11_4 < (((rd_T43 l1_0 x10_3).f3).length : Int)) = false := decide_eq_false c31
                       clear c31
                       have H' := Aside0.mk H
                       clear H
                       obtain ⟨Ao39, co39, eo39⟩ := Kd.R_slice HO_7.out
                       subst eo39
                       have p360 : 0 ≤ (x10_3 : Int) := of_decide_eq_true (by first | (with_reducible assumption) | assumption)
                       have q360 : x10_3 < (x7_4.length : Int) := of_decide_eq_true (by first | (with_reducible assumption) | assumption)
                       obtain ⟨ad360, e360, hx360_0⟩ := Kd.at_int (Kd.R_reads' HO_7.out).2.2 x10_3 p360 q360
                       cases e360
                       replace p360 := eq_true p360
                       replace q360 := eq_true q360
                       have hnb40 := NB354_351.out
                       have hnc40 := NB351_354.out
                       have hcz41_0 : wr.cell? ⟨gb354, 0, none⟩ = some (.slice A1_0 l1_0.length c1_0) := (blk_cell BK354.out 0).trans rfl
                       have hcz41_1 : wr.cell? ⟨gb354, 1, none⟩ = some (.slice A1_1 l0_1.length c0_1) := (blk_cell BK354.out 1).trans rfl
                       have hfz41_0 := blk_frozen BK354.out 0
                       have hfz41_1 := blk_frozen BK354.out 1
                       have p361 : 0 ≤ (x10_3 : Int) := of_decide_eq_true (by first | (with_reducible assumption) | assumption)
                       have q361 : x10_3 < (l1_0.length : Int) := of_decide_eq_true (by first | (with_reducible assumption) | assumption)
                       obtain ⟨ad361, A361_3, c361_3, e361, hx361_0, hx361_1, hx361_2, hx361_3, hx361_4, hl361_3, hi361_3⟩ := at_T43 HR1_0.out x10_3 p361 q361
                       cases e361
                       replace hx361_0 := (HB.out.cell (World.block_lt_of_cell? w _ hx361_0)).trans hx361_0
                       replace hx361_1 := (HB.out.cell (World.block_lt_of_cell? w _ hx361_1)).trans hx361_1
                       replace hx361_2 := (HB.out.cell (World.block_lt_of_cell? w _ hx361_2)).trans hx361_2
                       replace hx361_3 := (HB.out.cell (World.block_lt_of_cell? w _ hx361_3)).trans hx361_3
                       replace hx361_4 := (HB.out.cell (World.block_lt_of_cell? w _ hx361_4)).trans hx361_4
                       have HR361_3 := Aside0.mk hi361_3
                       have HC361_3 := Aside0.mk hl361_3
                       clear hi361_3 hl361_3
                       replace p361 := eq_true p361
                       replace q361 := eq_true q361
                       go_wp2
                       go_roundg k4
                       case measure => have := HK1.out; have := HK2.out; have := HK3.out; have := HK4.out; omega
                       case rel => exact ⟨(x7_4), (wrap64 (x10_3 + 1)), (by first | rfl | (simp; done) | (simp [*]; done)), H', ⟨by have := HK1.out; have := HK2.out; have := HK3.out; have := HK4.out; omega⟩, ⟨by (with_reducible repeat (first | apply Kd.R_alloc | apply Kd.R_drewN | apply Kd.R_drew)); exact HO_7.out⟩, ⟨by (with_reducible repeat first | refine kn ?_ _ | refine kd ?_ | refine ka ?_ _); exact BK351.out⟩, ⟨by (with_reducible repeat first | refine kn ?_ _ | refine kd ?_ | refine ka ?_ _); exact BK354.out⟩, ⟨by repeat (first | (with_reducible first | exact HB.out | apply zb | apply zn | apply zd | refine zs ?_ GE351.out | refine zs ?_ GE354.out) | exact HB.out)⟩⟩
                     ·rw [if_neg c30] at H
                      exact absurd H (by simp)
                    ·rw [if_neg c29] at H
                     have c29b0 : ((rd x7_4 x10_3) == x9_2) = false := beq_eq_false_iff_ne.mpr c29
                     have c29b1 : ((rd x7_4 x10_3) != x9_2) = true := bne_iff_ne.mpr c29
                     have H' := Aside0.mk H
                     clear H
                     obtain ⟨Ao42, co42, eo42⟩ := Kd.R_slice HO_7.out
                     subst eo42
                     have p360 : 0 ≤ (x10_3 : Int) := of_decide_eq_true (by first | (with_reducible assumption) | assumption)
                     have q360 : x10_3 < (x7_4.length : Int) := of_decide_eq_true (by first | (with_reducible assumption) | assumption)
                     obtain ⟨ad360, e360, hx360_0⟩ := Kd.at_int (Kd.R_reads' HO_7.out).2.2 x10_3 p360 q360
                     cases e360
                     replace p360 := eq_true p360
                     replace q360 := eq_true q360
                     go_wp2
                     go_roundg k4
                     case measure => have := HK1.out; have := HK2.out; have := HK3.out; have := HK4.out; omega
                     case rel => exact ⟨(x7_4), (wrap64 (x10_3 + 1)), (by first | rfl | (simp; done) | (simp [*]; done)), H', ⟨by have := HK1.out; have := HK2.out; have := HK3.out; have := HK4.out; omega⟩, ⟨by (with_reducible repeat (first | apply Kd.R_alloc | apply Kd.R_drewN | apply Kd.R_drew)); exact HO_7.out⟩, ⟨by (with_reducible repeat first | refine kn ?_ _ | refine kd ?_ | refine ka ?_ _); exact BK351.out⟩, ⟨by (with_reducible repeat first | refine kn ?_ _ | refine kd ?_ | refine ka ?_ _); exact BK354.out⟩, ⟨by repeat (first | (with_reducible first | exact HB.out | apply zb | apply zn | apply zd | refine zs ?_ GE351.out | refine zs ?_ GE354.out) | exact HB.out)⟩⟩
                   ·rw [if_neg c28] at H
                    exact absurd H (by simp)
                  ·rw [if_neg c27] at H
                   exact absurd H (by simp)
               ·rw [if_neg c26] at H
                have c26b0 : decide (x10_3 < (l0_0.length : Int)) = false := decide_eq_false c26
                clear c26
                have H' := Aside0.mk H
                clear H
                go_wp2
                go_roundg k3
                case measure => have := HK1.out; have := HK2.out; have := HK3.out; omega
                case rel => exact ⟨(x7_3), (wrap64 (x9_2 + 1)), (by first | rfl | (simp; done) | (simp [*]; done)), H', ⟨by have := HK1.out; have := HK2.out; have := HK3.out; omega⟩, ⟨by (with_reducible repeat (first | apply Kd.R_alloc | apply Kd.R_drewN | apply Kd.R_drew)); exact HO_7.out⟩, ⟨by (with_reducible repeat first | refine kn ?_ _ | refine kd ?_ | refine ka ?_ _); exact BK351.out⟩, ⟨by (with_reducible repeat first | refine kn ?_ _ | refine kd ?_ | refine ka ?_ _); exact BK354.out⟩, ⟨by repeat (first | (with_reducible first | exact HB.out | apply zb | apply zn | apply zd | refine zs ?_ GE351.out | refine zs ?_ GE354.out) | exact HB.out)⟩⟩
            ·rw [if_neg c25] at H
             have c25b0 : decide (x9_2 ≤ (l0_0.length : Int)) = false := decide_eq_false c25
             clear c25
             replace H := Option.bind_eq_some_iff.mp H
             obtain ⟨t365, A430, H⟩ := H
             replace H : (if (t365.length : Int) = (l0_0.length : Int) then (heirloomlaw11_ReachWays.l4 k2 (l0_0.length : Int) x7_2 t365 0) else (some false)) = some r := H
             have A43 := Aside0.mk A430
             clear A430
             by_cases c44 : (t365.length : Int) = (l0_0.length : Int)
             ·rw [if_pos c44] at H
              have c44b0 : ((t365.length : Int) == (l0_0.length : Int)) = true := beq_iff_eq.mpr c44
              have c44b1 : ((t365.length : Int) != (l0_0.length : Int)) = false := bne_eq_false_iff_eq.mpr c44
              have c44b2 : (t365.length == l0_0.length) = true := by first | simpa using c44 | (simp at c44 ⊢; omega)
              clear c44
              have H' := Aside0.mk H
              clear H
              have hnb45 := NB354_351.out
              have hnc45 := NB351_354.out
              have hcz46_0 : wr.cell? ⟨gb354, 0, none⟩ = some (.slice A1_0 l1_0.length c1_0) := (blk_cell BK354.out 0).trans rfl
              have hcz46_1 : wr.cell? ⟨gb354, 1, none⟩ = some (.slice A1_1 l0_1.length c0_1) := (blk_cell BK354.out 1).trans rfl
              have hfz46_0 := blk_frozen BK354.out 0
              have hfz46_1 := blk_frozen BK354.out 1
              go_wp2_with (first | ((with_reducible refine gate_callee (f := 13) rfl ?_); refine goesL_ (some 104) rfl rfl Try.func13 (by kernel_rfl) rfl #[.agg #[.slice A1_0 l1_0.length c1_0, .slice A1_1 l0_1.length c0_1], .slice none 0 0] rfl (by (try simp only [List.map_toArray, List.map_cons, List.map_nil]); first | done | rfl | (simp only [List.length_drop, List.length_take]; rfl)) ?_; (refine (reach_Strong.calls _ _ l1_0 _ _ l0_1 _ _ ([] : List Int) t365 _ ?side1 ?side2 ?side3 ?side4 ?side5 ?side6 A43.out).mono ?_); (case side1 => repeat (first | exact (Kd.C_below HR1_0.out HB.out) | (with_reducible refine Kd.C_alloc ?_ _) | (with_reducible refine Kd.C_drewN ?_ _) | (with_reducible refine Kd.C_drew ?_))); (case side2 => exact HC1_0.out); (case side3 => repeat (first | exact (Kd.C_below HR1_1.out HB.out) | (with_reducible refine Kd.C_alloc ?_ _) | (with_reducible refine Kd.C_drewN ?_ _) | (with_reducible refine Kd.C_drew ?_))); (case side4 => exact HC1_1.out); (case side5 => exact Kd.C_nil _ _); (case side6 => exact Nat.le_refl _); rintro e w47 ⟨v366, rfl, ho0, hb⟩; refine ⟨_, rfl, ?_⟩; have n0_ := Aside0.mk (Kd.R_below (by (with_reducible repeat (first | apply Kd.R_alloc | apply Kd.R_drewN | apply Kd.R_drew)); exact HO_7.out) hb); have n1_ := Aside0.mk (Kd.R_lower ho0 (below_size (by repeat (first | (with_reducible first | exact HB.out | apply zb | apply zn | apply zd | refine zs ?_ GE351.out | refine zs ?_ GE354.out) | exact HB.out)))); have n2_ := Aside0.mk (blk_below (g := gb351) (o := .cells #[.slice A0_0 l0_0.length c0_0, .slice A0_1 l0_1.length c0_1] 25 (0, 0)) (by (with_reducible repeat first | refine kn ?_ _ | refine kd ?_ | refine ka ?_ _); exact BK351.out) hb); have n3_ := Aside0.mk (blk_below (g := gb354) (o := .cells #[.slice A1_0 l1_0.length c1_0, .slice A1_1 l0_1.length c0_1] 25 (0, 0)) (by (with_reducible repeat first | refine kn ?_ _ | refine kd ?_ | refine ka ?_ _); exact BK354.out) hb); have n4_ := Aside0.mk (below_step (by repeat (first | (with_reducible first | exact HB.out | apply zb | apply zn | apply zd | refine zs ?_ GE351.out | refine zs ?_ GE354.out) | exact HB.out)) hb); clear HO_7; clear BK351; clear BK354; clear HB; have HO_7 := n0_; have HO367 := n1_; have BK351 := n2_; have BK354 := n3_; have HB := n4_; clear n0_ n1_ n2_ n3_ n4_; (try clear hb); (try clear ho0); obtain ⟨Ao48, co48, eo48⟩ := Kd.R_slice HO367.out; subst eo48))
              go_loopg [13] k2 (fun kq v13 w' => ∃ (x13_3 : Int), v13 = .int .i64 x13_3 ∧ Aside0 (heirloomlaw11_ReachWays.l4 kq (l0_0.length : Int) x7_2 t365 x13_3 = some r) ∧ Aside0 (kq ≤ k2) ∧ Aside0 (Kd.R (Kd.int .i64) 3 w' w.heap.size (fun _ => True) v356 x7_2) ∧ Aside0 (Kd.R Kd.bool 4 w' w.heap.size (fun _ => True) (.slice Ao48 t365.length co48) t365) ∧ Aside0 (w'.heap[gb351]? = some (.cells #[(.slice A0_0 l0_0.length c0_0), (.slice A0_1 l0_1.length c0_1)] 25 (0, 0))) ∧ Aside0 (w'.heap[gb354]? = some (.cells #[(.slice A1_0 l1_0.length c1_0), (.slice A1_1 l0_1.length c0_1)] 25 (0, 0))) ∧ Aside0 (Below w.heap.size w w'))
              case atStart => exact ⟨(0), (by first | rfl | (simp; done) | (simp [*]; done)), H', ⟨Nat.le_refl _⟩, ⟨by (with_reducible repeat (first | apply Kd.R_alloc | apply Kd.R_drewN | apply Kd.R_drew)); exact HO_7.out⟩, ⟨by (with_reducible repeat (first | apply Kd.R_alloc | apply Kd.R_drewN | apply Kd.R_drew)); exact HO367.out⟩, ⟨by (with_reducible repeat first | refine kn ?_ _ | refine kd ?_ | refine ka ?_ _); exact BK351.out⟩, ⟨by (with_reducible repeat first | refine kn ?_ _ | refine kd ?_ | refine ka ?_ _); exact BK354.out⟩, ⟨by repeat (first | (with_reducible first | exact HB.out | apply zb | apply zn | apply zd | refine zs ?_ GE351.out | refine zs ?_ GE354.out) | exact HB.out)⟩⟩
              case round =>
               clear H'
               try clear c1
               try clear c2
               try clear p2
               try clear c3
               try clear p3
               try clear q3
               try clear hx3
               try clear c4
               try clear c5
               try clear c5b0
               try clear c5b1
               try clear c6
               try clear c6b0
               try clear c6b1
               try clear p6
               try clear c10
               try clear c11
               try clear c13
               try clear c15
               try clear c15b0
               try clear c16
               try clear c16b0
               try clear c18
               try clear c20
               try clear c23
               try clear c25
               try clear c25b0
               try clear c26
               try clear c26b0
               try clear c27
               try clear c27b0
               try clear c28
               try clear c28b0
               try clear c29
               try clear c29b0
               try clear c29b1
               try clear c30
               try clear c30b0
               try clear c31
               try clear c31b0
               try clear c32
               try clear c32b0
               try clear c35
               try clear p35
               try clear q35
               try clear hx35
               try clear c36
               try clear p36
               try clear q36
               try clear hx36
               try clear c40
               try clear c44
               try clear c44b0
               try clear c44b1
               try clear c44b2
               try clear c45
               try clear hcz12_0
               try clear hcz12_1
               try clear hcz19_0
               try clear hcz19_1
               try clear hcz24_0
               try clear hcz24_1
               try clear hcz36_0
               try clear hcz36_1
               try clear hcz41_0
               try clear hcz41_1
               try clear hcz46_0
               try clear hcz46_1
               try clear hcz8_0
               try clear hcz8_1
               try clear hfz12_0
               try clear hfz12_1
               try clear hfz19_0
               try clear hfz19_1
               try clear hfz24_0
               try clear hfz24_1
               try clear hfz36_0
               try clear hfz36_1
               try clear hfz41_0
               try clear hfz41_1
               try clear hfz46_0
               try clear hfz46_1
               try clear hfz8_0
               try clear hfz8_1
               try clear hx358_0
               try clear hx358_1
               try clear hx360_0
               try clear hx361_0
               try clear hx361_1
               try clear hx361_2
               try clear hx361_3
               try clear hx361_4
               try clear hx362_0
               try clear hx362_1
               try clear hx362_2
               try clear hx362_3
               try clear hx362_4
               try clear hx363_0
               try clear hx363_1
               try clear p2
               try clear p3
               try clear p358
               try clear p360
               try clear p361
               try clear p362
               try clear p363
               try clear p6
               try clear q3
               try clear q358
               try clear q360
               try clear q361
               try clear q362
               try clear q363
               obtain ⟨x13_3, rfl, HA, HK3, HO_7, HO_12, BK351, BK354, HB⟩ := hrel
               cases gk with
               | zero => exact absurd HA.out (by simp [heirloomlaw11_ReachWays.l4])
               | succ k3 =>
                have H := HA.out
                clear HA
                simp only [heirloomlaw11_ReachWays.l4] at H
                by_cases c49 : x13_3 < (l0_0.length : Int)
                ·rw [if_pos c49] at H
                 have c49b0 : decide (x13_3 < (l0_0.length : Int)) = true := decide_eq_true c49
                 clear c49
                 by_cases c50 : 0 ≤ x13_3
                 ·rw [if_pos c50] at H
                  have c50b0 : decide (0 ≤ x13_3) = true := decide_eq_true c50
                  clear c50
                  by_cases c51 : x13_3 < (t365.length : Int)
                  ·rw [if_pos c51] at H
                   have c51b0 : decide (x13_3 < (t365.length : Int)) = true := decide_eq_true c51
                   clear c51
                   by_cases c52 : x13_3 < (x7_2.length : Int)
                   ·rw [if_pos c52] at H
                    have c52b0 : decide (x13_3 < (x7_2.length : Int)) = true := decide_eq_true c52
                    clear c52
                    by_cases c53 : ((rdOf false t365 x13_3) != (decide ((rd x7_2 x13_3) > 0))) = true
                    ·rw [if_pos c53] at H
                     have c53b0 : ((rdOf false t365 x13_3) != (decide ((rd x7_2 x13_3) > 0))) = true := c53
                     (try (have c53b1 : decide ((rdOf false t365 x13_3) = (decide ((rd x7_2 x13_3) > 0))) = false := by simpa using c53))
                     (try (have c53b2 : ((rdOf false t365 x13_3) == (decide ((rd x7_2 x13_3) > 0))) = false := by simpa using c53))
                     (try (have c53b3 : ¬ ((rdOf false t365 x13_3) = (decide ((rd x7_2 x13_3) > 0))) := by simpa using c53))
                     clear c53
                     obtain rfl := Option.some.inj H
                     try go_wp2
                     have n0_ := Aside0.mk (Kd.R_drew HO_7.out)
                     have n1_ := Aside0.mk (Kd.R_drew HO_12.out)
                     have n2_ := Aside0.mk (blk_drew BK351.out)
                     have n3_ := Aside0.mk (blk_drew BK354.out)
                     have n4_ := Aside0.mk (below_drew1 HB.out)
                     clear HO_7
                     clear HO_12
                     clear BK351
                     clear BK354
                     clear HB
                     have HO_7 := n0_
                     have HO_12 := n1_
                     have BK351 := n2_
                     have BK354 := n3_
                     have HB := n4_
                     clear n0_ n1_ n2_ n3_ n4_
                     have p368 : 0 ≤ (x13_3 : Int) := of_decide_eq_true (by first | (with_reducible assumption) | assumption)
                     have q368 : x13_3 < (t365.length : Int) := of_decide_eq_true (by first | (with_reducible assumption) | assumption)
                     obtain ⟨ad368, e368, hx368_0⟩ := Kd.at_bool (Kd.R_reads' HO_12.out).2.2 x13_3 p368 q368
                     cases e368
                     replace p368 := eq_true p368
                     replace q368 := eq_true q368
                     obtain ⟨Ao55, co55, eo55⟩ := Kd.R_slice HO_7.out
                     (first | subst eo55 | (injection eo55 with f1_ f2_ f3_; have f4_ := f1_.symm; have f5_ := f3_.symm; clear f1_ f2_ f3_; subst f4_; subst f5_))
                     have p369 : 0 ≤ (x13_3 : Int) := of_decide_eq_true (by first | (with_reducible assumption) | assumption)
                     have q369 : x13_3 < (x7_2.length : Int) := of_decide_eq_true (by first | (with_reducible assumption) | assumption)
                     obtain ⟨ad369, e369, hx369_0⟩ := Kd.at_int (Kd.R_reads' HO_7.out).2.2 x13_3 p369 q369
                     cases e369
                     replace p369 := eq_true p369
                     replace q369 := eq_true q369
                     refine start_ (n := 10) (S := fun w' => w'.cell? (ad368.add (x13_3).toNat) = some (.bool (rdOf false t365 x13_3)) ∧ w'.cell? (ad369.add (x13_3).toNat) = some (.int .i64 (rd x7_2 x13_3))) (ds := []) #[false, false, false, false, false, false, false, false, false, false] (by kernel_rfl) rfl rfl ⟨hx368_0, hx369_0⟩ (fun hHeld => ?_); refine with_tabW heirloomlaw11_ReachWays.tab33 heirloomlaw11_ReachWays.bits33 (fun HT_ HW_ => ?_)
                     generalize wr.drew = w54 at HO_7 HO_12 BK351 BK354 HB hx368_0 hx369_0 hHeld ⊢
                     refine pure_ (i := 0) (N := some 114) (v := ?_) (a' := ?_) #[true, false, false, false, false, false, false, false, false, false] rfl rfl (any_of HT_.out (by kernel_rfl)) (fun _ _ _ h => h) (Or.inl ⟨by rfl, ?_⟩) ?_ ?_
                     rotate_left
                     ·intro w'
                      go_simp
                      with_reducible rfl
                     rotate_left
                     ·simp only [Act.put, List.setIfInBounds_toArray, List.set_cons_zero, List.set_cons_succ, i64_w, i32_w]
                      rfl
                     refine pure_ (i := 1) (N := some 115) (v := ?_) (a' := ?_) #[true, true, false, false, false, false, false, false, false, false] rfl rfl (any_of HT_.out (by kernel_rfl)) (fun _ _ _ h => h) (Or.inl ⟨by rfl, ?_⟩) ?_ ?_
                     rotate_left
                     ·intro w'
                      go_simp
                      with_reducible rfl
                     rotate_left
                     ·simp only [Act.put, List.setIfInBounds_toArray, List.set_cons_zero, List.set_cons_succ, i64_w, i32_w]
                      rfl
                     refine pure_ (i := 2) (N := some 116) (v := ?_) (a' := ?_) #[true, true, true, false, false, false, false, false, false, false] rfl rfl (any_of HT_.out (by kernel_rfl)) (fun _ _ _ h => h) (Or.inl ⟨by rfl, ?_⟩) ?_ ?_
                     rotate_left
                     ·intro w'
                      go_simp
                      with_reducible rfl
                     rotate_left
                     ·simp only [Act.put, List.setIfInBounds_toArray, List.set_cons_zero, List.set_cons_succ, i64_w, i32_w]
                      rfl
                     refine pure_ (i := 4) (N := some 118) (v := ?_) (a' := ?_) #[true, true, true, false, true, false, false, false, false, false] rfl rfl (any_of HT_.out (by kernel_rfl)) (fun _ _ _ h => h) (Or.inl ⟨by rfl, ?_⟩) ?_ ?_
                     rotate_left
                     ·intro w'
                      go_simp
                      with_reducible rfl
                     rotate_left
                     ·simp only [Act.put, List.setIfInBounds_toArray, List.set_cons_zero, List.set_cons_succ, i64_w, i32_w]
                      rfl
                     refine pure_ (i := 5) (N := some 119) (v := ?_) (a' := ?_) #[true, true, true, false, true, true, false, false, false, false] rfl rfl (any_of HT_.out (by kernel_rfl)) (fun _ _ _ h => h) (Or.inl ⟨by rfl, ?_⟩) ?_ ?_
                     rotate_left
                     ·intro w'
                      go_simp
                      with_reducible rfl
                     rotate_left
                     ·simp only [Act.put, List.setIfInBounds_toArray, List.set_cons_zero, List.set_cons_succ, i64_w, i32_w]
                      rfl
                     refine pure_ (i := 6) (N := some 120) (v := ?_) (a' := ?_) #[true, true, true, false, true, true, true, false, false, false] rfl rfl (any_of HT_.out (by kernel_rfl)) (fun _ _ _ h => h) (Or.inl ⟨by rfl, ?_⟩) ?_ ?_
                     rotate_left
                     ·intro w'
                      go_simp
                      with_reducible rfl
                     rotate_left
                     ·simp only [Act.put, List.setIfInBounds_toArray, List.set_cons_zero, List.set_cons_succ, i64_w, i32_w]
                      rfl
                     refine take_ (i := 3) (N := some 117) (v := ?_) (a' := ?_) #[true, true, true, true, true, true, true, false, false, false] rfl rfl (take_ofW HT_.out HW_.out (by kernel_rfl)) (fun _ _ _ h => h) (Or.inl ⟨by rfl, ?_⟩) hHeld ?_ ?_
                     rotate_left
                     ·rintro w' ⟨s0, s1⟩
                      go_simp
                      with_reducible rfl
                     rotate_left
                     ·simp only [Act.put, List.setIfInBounds_toArray, List.set_cons_zero, List.set_cons_succ, i64_w, i32_w]
                      rfl
                     refine take_ (i := 7) (N := some 121) (v := ?_) (a' := ?_) #[true, true, true, true, true, true, true, true, false, false] rfl rfl (take_ofW HT_.out HW_.out (by kernel_rfl)) (fun _ _ _ h => h) (Or.inl ⟨by rfl, ?_⟩) hHeld ?_ ?_
                     rotate_left
                     ·rintro w' ⟨s0, s1⟩
                      go_simp
                      with_reducible rfl
                     rotate_left
                     ·simp only [Act.put, List.setIfInBounds_toArray, List.set_cons_zero, List.set_cons_succ, i64_w, i32_w]
                      rfl
                     refine pure_ (i := 8) (N := some 122) (v := ?_) (a' := ?_) #[true, true, true, true, true, true, true, true, true, false] rfl rfl (any_of HT_.out (by kernel_rfl)) (fun _ _ _ h => h) (Or.inl ⟨by rfl, ?_⟩) ?_ ?_
                     rotate_left
                     ·intro w'
                      go_simp
                      with_reducible rfl
                     rotate_left
                     ·simp only [Act.put, List.setIfInBounds_toArray, List.set_cons_zero, List.set_cons_succ, i64_w, i32_w]
                      rfl
                     refine pure_ (i := 9) (N := some 123) (v := ?_) (a' := ?_) #[true, true, true, true, true, true, true, true, true, true] rfl rfl (any_of HT_.out (by kernel_rfl)) (fun _ _ _ h => h) (Or.inl ⟨by rfl, ?_⟩) ?_ ?_
                     rotate_left
                     ·intro w'
                      go_simp
                      with_reducible rfl
                     rotate_left
                     ·simp only [Act.put, List.setIfInBounds_toArray, List.set_cons_zero, List.set_cons_succ, i64_w, i32_w]
                      rfl
                     refine done_ (done_of HT_.out (by kernel_rfl)) ?_
                     try go_wp2
                     go_ret
                     exact ⟨by first | rfl | (simp [errW_none, errW_some] <;> rfl) | (simp [*, errW_none, errW_some] <;> rfl), HZ.out _ (by repeat (first | (with_reducible first | exact HB.out | apply zb | apply zn | apply zd | refine zs ?_ GE351.out | refine zs ?_ GE354.out) | exact HB.out))⟩
                    ·rw [if_neg c53] at H
                     have c53b0 : ((rdOf false t365 x13_3) != (decide ((rd x7_2 x13_3) > 0))) = false := by simpa using c53
                     (try (have c53b1 : decide ((rdOf false t365 x13_3) = (decide ((rd x7_2 x13_3) > 0))) = true := by simpa using c53))
                     (try (have c53b2 : ((rdOf false t365 x13_3) == (decide ((rd x7_2 x13_3) > 0))) = true := by simpa using c53))
                     clear c53
                     have H' := Aside0.mk H
                     clear H
                     try go_wp2
                     have n0_ := Aside0.mk (Kd.R_drew HO_7.out)
                     have n1_ := Aside0.mk (Kd.R_drew HO_12.out)
                     have n2_ := Aside0.mk (blk_drew BK351.out)
                     have n3_ := Aside0.mk (blk_drew BK354.out)
                     have n4_ := Aside0.mk (below_drew1 HB.out)
                     clear HO_7
                     clear HO_12
                     clear BK351
                     clear BK354
                     clear HB
                     have HO_7 := n0_
                     have HO_12 := n1_
                     have BK351 := n2_
                     have BK354 := n3_
                     have HB := n4_
                     clear n0_ n1_ n2_ n3_ n4_
                     have p368 : 0 ≤ (x13_3 : Int) := of_decide_eq_true (by first | (with_reducible assumption) | assumption)
                     have q368 : x13_3 < (t365.length : Int) := of_decide_eq_true (by first | (with_reducible assumption) | assumption)
                     obtain ⟨ad368, e368, hx368_0⟩ := Kd.at_bool (Kd.R_reads' HO_12.out).2.2 x13_3 p368 q368
                     cases e368
                     replace p368 := eq_true p368
                     replace q368 := eq_true q368
                     obtain ⟨Ao57, co57, eo57⟩ := Kd.R_slice HO_7.out
                     (first | subst eo57 | (injection eo57 with f1_ f2_ f3_; have f4_ := f1_.symm; have f5_ := f3_.symm; clear f1_ f2_ f3_; subst f4_; subst f5_))
                     have p369 : 0 ≤ (x13_3 : Int) := of_decide_eq_true (by first | (with_reducible assumption) | assumption)
                     have q369 : x13_3 < (x7_2.length : Int) := of_decide_eq_true (by first | (with_reducible assumption) | assumption)
                     obtain ⟨ad369, e369, hx369_0⟩ := Kd.at_int (Kd.R_reads' HO_7.out).2.2 x13_3 p369 q369
                     cases e369
                     replace p369 := eq_true p369
                     replace q369 := eq_true q369
                     refine start_ (n := 10) (S := fun w' => w'.cell? (ad368.add (x13_3).toNat) = some (.bool (rdOf false t365 x13_3)) ∧ w'.cell? (ad369.add (x13_3).toNat) = some (.int .i64 (rd x7_2 x13_3))) (ds := []) #[false, false, false, false, false, false, false, false, false, false] (by kernel_rfl) rfl rfl ⟨hx368_0, hx369_0⟩ (fun hHeld => ?_); refine with_tabW heirloomlaw11_ReachWays.tab33 heirloomlaw11_ReachWays.bits33 (fun HT_ HW_ => ?_)
                     generalize wr.drew = w56 at HO_7 HO_12 BK351 BK354 HB hx368_0 hx369_0 hHeld ⊢
                     refine pure_ (i := 0) (N := some 114) (v := ?_) (a' := ?_) #[true, false, false, false, false, false, false, false, false, false] rfl rfl (any_of HT_.out (by kernel_rfl)) (fun _ _ _ h => h) (Or.inl ⟨by rfl, ?_⟩) ?_ ?_
                     rotate_left
                     ·intro w'
                      go_simp
                      with_reducible rfl
                     rotate_left
                     ·simp only [Act.put, List.setIfInBounds_toArray, List.set_cons_zero, List.set_cons_succ, i64_w, i32_w]
                      rfl
                     refine pure_ (i := 1) (N := some 115) (v := ?_) (a' := ?_) #[true, true, false, false, false, false, false, false, false, false] rfl rfl (any_of HT_.out (by kernel_rfl)) (fun _ _ _ h => h) (Or.inl ⟨by rfl, ?_⟩) ?_ ?_
                     rotate_left
                     ·intro w'
                      go_simp
                      with_reducible rfl
                     rotate_left
                     ·simp only [Act.put, List.setIfInBounds_toArray, List.set_cons_zero, List.set_cons_succ, i64_w, i32_w]
                      rfl
                     refine pure_ (i := 2) (N := some 116) (v := ?_) (a' := ?_) #[true, true, true, false, false, false, false, false, false, false] rfl rfl (any_of HT_.out (by kernel_rfl)) (fun _ _ _ h => h) (Or.inl ⟨by rfl, ?_⟩) ?_ ?_
                     rotate_left
                     ·intro w'
                      go_simp
                      with_reducible rfl
                     rotate_left
                     ·simp only [Act.put, List.setIfInBounds_toArray, List.set_cons_zero, List.set_cons_succ, i64_w, i32_w]
                      rfl
                     refine pure_ (i := 4) (N := some 118) (v := ?_) (a' := ?_) #[true, true, true, false, true, false, false, false, false, false] rfl rfl (any_of HT_.out (by kernel_rfl)) (fun _ _ _ h => h) (Or.inl ⟨by rfl, ?_⟩) ?_ ?_
                     rotate_left
                     ·intro w'
                      go_simp
                      with_reducible rfl
                     rotate_left
                     ·simp only [Act.put, List.setIfInBounds_toArray, List.set_cons_zero, List.set_cons_succ, i64_w, i32_w]
                      rfl
                     refine pure_ (i := 5) (N := some 119) (v := ?_) (a' := ?_) #[true, true, true, false, true, true, false, false, false, false] rfl rfl (any_of HT_.out (by kernel_rfl)) (fun _ _ _ h => h) (Or.inl ⟨by rfl, ?_⟩) ?_ ?_
                     rotate_left
                     ·intro w'
                      go_simp
                      with_reducible rfl
                     rotate_left
                     ·simp only [Act.put, List.setIfInBounds_toArray, List.set_cons_zero, List.set_cons_succ, i64_w, i32_w]
                      rfl
                     refine pure_ (i := 6) (N := some 120) (v := ?_) (a' := ?_) #[true, true, true, false, true, true, true, false, false, false] rfl rfl (any_of HT_.out (by kernel_rfl)) (fun _ _ _ h => h) (Or.inl ⟨by rfl, ?_⟩) ?_ ?_
                     rotate_left
                     ·intro w'
                      go_simp
                      with_reducible rfl
                     rotate_left
                     ·simp only [Act.put, List.setIfInBounds_toArray, List.set_cons_zero, List.set_cons_succ, i64_w, i32_w]
                      rfl
                     refine take_ (i := 3) (N := some 117) (v := ?_) (a' := ?_) #[true, true, true, true, true, true, true, false, false, false] rfl rfl (take_ofW HT_.out HW_.out (by kernel_rfl)) (fun _ _ _ h => h) (Or.inl ⟨by rfl, ?_⟩) hHeld ?_ ?_
                     rotate_left
                     ·rintro w' ⟨s0, s1⟩
                      go_simp
                      with_reducible rfl
                     rotate_left
                     ·simp only [Act.put, List.setIfInBounds_toArray, List.set_cons_zero, List.set_cons_succ, i64_w, i32_w]
                      rfl
                     refine take_ (i := 7) (N := some 121) (v := ?_) (a' := ?_) #[true, true, true, true, true, true, true, true, false, false] rfl rfl (take_ofW HT_.out HW_.out (by kernel_rfl)) (fun _ _ _ h => h) (Or.inl ⟨by rfl, ?_⟩) hHeld ?_ ?_
                     rotate_left
                     ·rintro w' ⟨s0, s1⟩
                      go_simp
                      with_reducible rfl
                     rotate_left
                     ·simp only [Act.put, List.setIfInBounds_toArray, List.set_cons_zero, List.set_cons_succ, i64_w, i32_w]
                      rfl
                     refine pure_ (i := 8) (N := some 122) (v := ?_) (a' := ?_) #[true, true, true, true, true, true, true, true, true, false] rfl rfl (any_of HT_.out (by kernel_rfl)) (fun _ _ _ h => h) (Or.inl ⟨by rfl, ?_⟩) ?_ ?_
                     rotate_left
                     ·intro w'
                      go_simp
                      with_reducible rfl
                     rotate_left
                     ·simp only [Act.put, List.setIfInBounds_toArray, List.set_cons_zero, List.set_cons_succ, i64_w, i32_w]
                      rfl
                     refine pure_ (i := 9) (N := some 123) (v := ?_) (a' := ?_) #[true, true, true, true, true, true, true, true, true, true] rfl rfl (any_of HT_.out (by kernel_rfl)) (fun _ _ _ h => h) (Or.inl ⟨by rfl, ?_⟩) ?_ ?_
                     rotate_left
                     ·intro w'
                      go_simp
                      with_reducible rfl
                     rotate_left
                     ·simp only [Act.put, List.setIfInBounds_toArray, List.set_cons_zero, List.set_cons_succ, i64_w, i32_w]
                      rfl
                     refine done_ (done_of HT_.out (by kernel_rfl)) ?_
                     try go_wp2
                     go_roundg k3
                     case measure => have := HK1.out; have := HK2.out; have := HK3.out; omega
                     case rel => exact ⟨(wrap64 (x13_3 + 1)), (by first | rfl | (simp; done) | (simp [*]; done)), H', ⟨by have := HK1.out; have := HK2.out; have := HK3.out; omega⟩, ⟨by (with_reducible repeat (first | apply Kd.R_alloc | apply Kd.R_drewN | apply Kd.R_drew)); exact HO_7.out⟩, ⟨by (with_reducible repeat (first | apply Kd.R_alloc | apply Kd.R_drewN | apply Kd.R_drew)); exact HO_12.out⟩, ⟨by (with_reducible repeat first | refine kn ?_ _ | refine kd ?_ | refine ka ?_ _); exact BK351.out⟩, ⟨by (with_reducible repeat first | refine kn ?_ _ | refine kd ?_ | refine ka ?_ _); exact BK354.out⟩, ⟨by repeat (first | (with_reducible first | exact HB.out | apply zb | apply zn | apply zd | refine zs ?_ GE351.out | refine zs ?_ GE354.out) | exact HB.out)⟩⟩
                   ·rw [if_neg c52] at H
                    exact absurd H (by simp)
                  ·rw [if_neg c51] at H
                   exact absurd H (by simp)
                 ·rw [if_neg c50] at H
                  exact absurd H (by simp)
                ·rw [if_neg c49] at H
                 have c49b0 : decide (x13_3 < (l0_0.length : Int)) = false := decide_eq_false c49
                 clear c49
                 replace H := Option.bind_eq_some_iff.mp H
                 obtain ⟨t370, A580, H⟩ := H
                 replace H : (some t370) = some r := H
                 have A58 := Aside0.mk A580
                 clear A580
                 obtain rfl := Option.some.inj H
                 go_wp2_with (first | ((with_reducible refine gate_callee (f := 11) rfl ?_); refine goesL_ (some 124) rfl rfl Try.func11 (by kernel_rfl) rfl #[] rfl (by simp only [m1, m2, m3] <;> rfl) ?_; (with_reducible refine (heirloomlaw11_alive.calls  t370 _ A58.out).mono ?_); rintro e w59 ⟨rfl, hb⟩; refine ⟨_, rfl, ?_⟩; have n0_ := Aside0.mk (Kd.R_below (by (with_reducible repeat (first | apply Kd.R_alloc | apply Kd.R_drewN | apply Kd.R_drew)); exact HO_7.out) hb); have n1_ := Aside0.mk (Kd.R_below (by (with_reducible repeat (first | apply Kd.R_alloc | apply Kd.R_drewN | apply Kd.R_drew)); exact HO_12.out) hb); have n2_ := Aside0.mk (blk_below (g := gb351) (o := .cells #[.slice A0_0 l0_0.length c0_0, .slice A0_1 l0_1.length c0_1] 25 (0, 0)) (by (with_reducible repeat first | refine kn ?_ _ | refine kd ?_ | refine ka ?_ _); exact BK351.out) hb); have n3_ := Aside0.mk (blk_below (g := gb354) (o := .cells #[.slice A1_0 l1_0.length c1_0, .slice A1_1 l0_1.length c0_1] 25 (0, 0)) (by (with_reducible repeat first | refine kn ?_ _ | refine kd ?_ | refine ka ?_ _); exact BK354.out) hb); have n4_ := Aside0.mk (below_step (by repeat (first | (with_reducible first | exact HB.out | apply zb | apply zn | apply zd | refine zs ?_ GE351.out | refine zs ?_ GE354.out) | exact HB.out)) hb); clear HO_7; clear HO_12; clear BK351; clear BK354; clear HB; have HO_7 := n0_; have HO_12 := n1_; have BK351 := n2_; have BK354 := n3_; have HB := n4_; clear n0_ n1_ n2_ n3_ n4_; (try clear hb)))
                 go_ret
                 exact ⟨by first | rfl | (simp [errW_none, errW_some] <;> rfl) | (simp [*, errW_none, errW_some] <;> rfl), HZ.out _ (by repeat (first | (with_reducible first | exact HB.out | apply zb | apply zn | apply zd | refine zs ?_ GE351.out | refine zs ?_ GE354.out) | exact HB.out))⟩
             ·rw [if_neg c44] at H
              have c44b0 : ((t365.length : Int) == (l0_0.length : Int)) = false := beq_eq_false_iff_ne.mpr c44
              have c44b1 : ((t365.length : Int) != (l0_0.length : Int)) = true := bne_iff_ne.mpr c44
              have c44b2 : (t365.length == l0_0.length) = false := by first | simpa using c44 | (simp at c44 ⊢; omega)
              obtain rfl := Option.some.inj H
              have hnb60 := NB354_351.out
              have hnc60 := NB351_354.out
              have hcz61_0 : wr.cell? ⟨gb354, 0, none⟩ = some (.slice A1_0 l1_0.length c1_0) := (blk_cell BK354.out 0).trans rfl
              have hcz61_1 : wr.cell? ⟨gb354, 1, none⟩ = some (.slice A1_1 l0_1.length c0_1) := (blk_cell BK354.out 1).trans rfl
              have hfz61_0 := blk_frozen BK354.out 0
              have hfz61_1 := blk_frozen BK354.out 1
              go_wp2_with (first | ((with_reducible refine gate_callee (f := 13) rfl ?_); refine goesL_ (some 104) rfl rfl Try.func13 (by kernel_rfl) rfl #[.agg #[.slice A1_0 l1_0.length c1_0, .slice A1_1 l0_1.length c0_1], .slice none 0 0] rfl (by (try simp only [List.map_toArray, List.map_cons, List.map_nil]); first | done | rfl | (simp only [List.length_drop, List.length_take]; rfl)) ?_; (refine (reach_Strong.calls _ _ l1_0 _ _ l0_1 _ _ ([] : List Int) t365 _ ?side1 ?side2 ?side3 ?side4 ?side5 ?side6 A43.out).mono ?_); (case side1 => repeat (first | exact (Kd.C_below HR1_0.out HB.out) | (with_reducible refine Kd.C_alloc ?_ _) | (with_reducible refine Kd.C_drewN ?_ _) | (with_reducible refine Kd.C_drew ?_))); (case side2 => exact HC1_0.out); (case side3 => repeat (first | exact (Kd.C_below HR1_1.out HB.out) | (with_reducible refine Kd.C_alloc ?_ _) | (with_reducible refine Kd.C_drewN ?_ _) | (with_reducible refine Kd.C_drew ?_))); (case side4 => exact HC1_1.out); (case side5 => exact Kd.C_nil _ _); (case side6 => exact Nat.le_refl _); rintro e w62 ⟨v366, rfl, ho0, hb⟩; refine ⟨_, rfl, ?_⟩; have n0_ := Aside0.mk (Kd.R_below (by (with_reducible repeat (first | apply Kd.R_alloc | apply Kd.R_drewN | apply Kd.R_drew)); exact HO_7.out) hb); have n1_ := Aside0.mk (Kd.R_lower ho0 (below_size (by repeat (first | (with_reducible first | exact HB.out | apply zb | apply zn | apply zd | refine zs ?_ GE351.out | refine zs ?_ GE354.out) | exact HB.out)))); have n2_ := Aside0.mk (blk_below (g := gb351) (o := .cells #[.slice A0_0 l0_0.length c0_0, .slice A0_1 l0_1.length c0_1] 25 (0, 0)) (by (with_reducible repeat first | refine kn ?_ _ | refine kd ?_ | refine ka ?_ _); exact BK351.out) hb); have n3_ := Aside0.mk (blk_below (g := gb354) (o := .cells #[.slice A1_0 l1_0.length c1_0, .slice A1_1 l0_1.length c0_1] 25 (0, 0)) (by (with_reducible repeat first | refine kn ?_ _ | refine kd ?_ | refine ka ?_ _); exact BK354.out) hb); have n4_ := Aside0.mk (below_step (by repeat (first | (with_reducible first | exact HB.out | apply zb | apply zn | apply zd | refine zs ?_ GE351.out | refine zs ?_ GE354.out) | exact HB.out)) hb); clear HO_7; clear BK351; clear BK354; clear HB; have HO_7 := n0_; have HO367 := n1_; have BK351 := n2_; have BK354 := n3_; have HB := n4_; clear n0_ n1_ n2_ n3_ n4_; (try clear hb); (try clear ho0); obtain ⟨Ao63, co63, eo63⟩ := Kd.R_slice HO367.out; subst eo63))
              go_ret
              exact ⟨by first | rfl | (simp [errW_none, errW_some] <;> rfl) | (simp [*, errW_none, errW_some] <;> rfl), HZ.out _ (by repeat (first | (with_reducible first | exact HB.out | apply zb | apply zn | apply zd | refine zs ?_ GE351.out | refine zs ?_ GE354.out) | exact HB.out))⟩
   ·rw [if_neg c6] at H
    exact absurd H (by simp)
  ·rw [if_neg c5] at H
   exact absurd H (by simp)
 ·replace c4 := Bool.eq_false_iff.mpr c4
  subst c4
  have H1 : ((heirloomlaw11_alive.f).bind fun t353 => (some t353)) = some r := by rw [if_neg (show ¬ (false = true) by decide)] at H; exact H
  clear H
  have H := H1
  clear H1
  replace H := Option.bind_eq_some_iff.mp H
  obtain ⟨t353, A640, H⟩ := H
  replace H : (some t353) = some r := H
  have A64 := Aside0.mk A640
  clear A640
  obtain rfl := Option.some.inj H
  go_enter Try.func6, Try.ntmps6
  go_wp2_with (first | ((with_reducible refine gate_dst (N := 1) rfl ?_); (try (refine gate_guard (by rfl) ?_; dsimp only)); refine box_event ?hg (N := 1) ?hd (cs := #[.slice A0_0 l0_0.length c0_0, .slice A0_1 l0_1.length c0_1]) (t := 25) ?hr ?_; (case hd => rfl); (case hg => rfl); (case hr => go_simp <;> rfl); intro gb351 hg w65 hbox hb; have n0_ := Aside0.mk (below_step (by repeat (first | (with_reducible first | exact HB.out | apply zb | apply zn | apply zd) | exact HB.out)) hb); have n1_ := Aside0.mk (hbox); have n2_ := Aside0.mk ((by rw [hg]; exact (below_size (by repeat (first | (with_reducible first | exact HB.out | apply zb | apply zn | apply zd) | exact HB.out))) : w0_.heap.size ≤ gb351)); have n3_ := n2_; clear HB; have HB := n0_; have BK351 := n1_; have GW351 := n2_; have GE351 := n3_; clear n0_ n1_ n2_ n3_; clear hb hbox hg; have hcz66_0 : w65.cell? ⟨gb351, 0, none⟩ = some (.slice A0_0 l0_0.length c0_0) := (blk_cell BK351.out 0).trans rfl; have hcz66_1 : w65.cell? ⟨gb351, 1, none⟩ = some (.slice A0_1 l0_1.length c0_1) := (blk_cell BK351.out 1).trans rfl; have hfz66_0 := blk_frozen BK351.out 0; have hfz66_1 := blk_frozen BK351.out 1) | ((with_reducible refine gate_callee (f := 10) rfl ?_); refine goesL_ (some 15) rfl rfl Try.func10 (by kernel_rfl) rfl #[.agg #[.slice A0_0 l0_0.length c0_0, .slice A0_1 l0_1.length c0_1]] rfl (by (try simp only [List.map_toArray, List.map_cons, List.map_nil]); first | done | rfl | (simp only [List.length_drop, List.length_take]; rfl)) ?_; (with_reducible refine (heirloomlaw11_Small.calls k _ _ l0_0 _ _ l0_1 false _ ?side1 ?side2 ?side3 ?side4 A3.out).mono ?_); (case side1 => repeat (first | exact (Kd.C_below HR0_0.out HB.out) | (with_reducible refine Kd.C_alloc ?_ _) | (with_reducible refine Kd.C_drewN ?_ _) | (with_reducible refine Kd.C_drew ?_))); (case side2 => exact HC0_0.out); (case side3 => repeat (first | exact (Kd.C_below HR0_1.out HB.out) | (with_reducible refine Kd.C_alloc ?_ _) | (with_reducible refine Kd.C_drewN ?_ _) | (with_reducible refine Kd.C_drew ?_))); (case side4 => exact HC0_1.out); rintro e w67 ⟨rfl, hb⟩; refine ⟨_, rfl, ?_⟩; have n0_ := Aside0.mk (blk_below (g := gb351) (o := .cells #[.slice A0_0 l0_0.length c0_0, .slice A0_1 l0_1.length c0_1] 25 (0, 0)) (by (with_reducible repeat first | refine kn ?_ _ | refine kd ?_ | refine ka ?_ _); exact BK351.out) hb); have n1_ := Aside0.mk (below_step (by repeat (first | (with_reducible first | exact HB.out | apply zb | apply zn | apply zd | refine zs ?_ GE351.out) | exact HB.out)) hb); clear BK351; clear HB; have BK351 := n0_; have HB := n1_; clear n0_ n1_; (try clear hb)) | ((with_reducible refine gate_callee (f := 11) rfl ?_); refine goesL_ (some 17) rfl rfl Try.func11 (by kernel_rfl) rfl #[] rfl (by simp only [m1, m2, m3] <;> rfl) ?_; (with_reducible refine (heirloomlaw11_alive.calls  t353 _ A64.out).mono ?_); rintro e w68 ⟨rfl, hb⟩; refine ⟨_, rfl, ?_⟩; have n0_ := Aside0.mk (blk_below (g := gb351) (o := .cells #[.slice A0_0 l0_0.length c0_0, .slice A0_1 l0_1.length c0_1] 25 (0, 0)) (by (with_reducible repeat first | refine kn ?_ _ | refine kd ?_ | refine ka ?_ _); exact BK351.out) hb); have n1_ := Aside0.mk (below_step (by repeat (first | (with_reducible first | exact HB.out | apply zb | apply zn | apply zd | refine zs ?_ GE351.out) | exact HB.out)) hb); clear BK351; clear HB; have BK351 := n0_; have HB := n1_; clear n0_ n1_; (try clear hb)))
  go_ret
  exact ⟨by first | rfl | (simp [errW_none, errW_some] <;> rfl) | (simp [*, errW_none, errW_some] <;> rfl), by repeat (first | (with_reducible first | exact HB.out | apply zb | apply zn | apply zd | refine zs ?_ GE351.out) | exact HB.out)⟩

end Go.Proofs.Ytollnnbcfhnlfaa.QR
