-- WRITTEN BY wip/tools/myprint.py, a program of this session, over the kit's printer
import Derived.Test.YtollnnbcfhnlfaaQRx0
import Derived.Test.YtollnnbcfhnlfaaQRy
import Derived.Test.YtollnnbcfhnlfaaSh
import Derived.Test.YtollnnbcfhnlfaaQRx7
-- DENTED
namespace Go.Proofs.Ytollnnbcfhnlfaa.QR
open Go.RowKit Go.Proofs.YtollnnbcfhnlfaaW.PrintWords Go.Proofs.YtollnnbcfhnlfaaW.PrintLast Go.Proofs.YtollnnbcfhnlfaaW.PrintMore Go.Proofs.Ytollnnbcfhnlfaa.Sh
attribute [local go_sem] max2_int min2_int max_two min_two max_three min_three max_four min_four   -- for this text's walks alone
set_option linter.unusedVariables false
set_option linter.unusedSimpArgs false

/-! ### heirloomref11_Right: function 16 -/
mutual
def heirloomref11_Right.l0 : Nat → Int → List (S43) → List (S40) → Option (Bool)
 | 0, _, _, _ => none
 | k + 1, x3, x212000, x212001 => if x3 < (x212000.length : Int) then (if 0 ≤ x3 then (if ((rd_T43 x212000 x3).f0) < 4 then (heirloomref11_Right.j1 k x3 true x212000 x212001 ((rd_T43 x212000 x3).f0) ((rd_T43 x212000 x3).f1) ((rd_T43 x212000 x3).f2) ((rd_T43 x212000 x3).f3) ((rd_T43 x212000 x3).f4)) else (if ((rd_T43 x212000 x3).f0) > 9 then (heirloomref11_Right.j1 k x3 true x212000 x212001 ((rd_T43 x212000 x3).f0) ((rd_T43 x212000 x3).f1) ((rd_T43 x212000 x3).f2) ((rd_T43 x212000 x3).f3) ((rd_T43 x212000 x3).f4)) else (if ((rd_T43 x212000 x3).f1) < 0 then (heirloomref11_Right.j1 k x3 true x212000 x212001 ((rd_T43 x212000 x3).f0) ((rd_T43 x212000 x3).f1) ((rd_T43 x212000 x3).f2) ((rd_T43 x212000 x3).f3) ((rd_T43 x212000 x3).f4)) else (if ((rd_T43 x212000 x3).f1) > 3 then (heirloomref11_Right.j1 k x3 true x212000 x212001 ((rd_T43 x212000 x3).f0) ((rd_T43 x212000 x3).f1) ((rd_T43 x212000 x3).f2) ((rd_T43 x212000 x3).f3) ((rd_T43 x212000 x3).f4)) else (if ((rd_T43 x212000 x3).f4) < 0 then (heirloomref11_Right.j1 k x3 true x212000 x212001 ((rd_T43 x212000 x3).f0) ((rd_T43 x212000 x3).f1) ((rd_T43 x212000 x3).f2) ((rd_T43 x212000 x3).f3) ((rd_T43 x212000 x3).f4)) else (if ((rd_T43 x212000 x3).f2) < 0 then (heirloomref11_Right.j1 k x3 true x212000 x212001 ((rd_T43 x212000 x3).f0) ((rd_T43 x212000 x3).f1) ((rd_T43 x212000 x3).f2) ((rd_T43 x212000 x3).f3) ((rd_T43 x212000 x3).f4)) else (if ((rd_T43 x212000 x3).f0) = 5 then (heirloomref11_Right.j1 k x3 false x212000 x212001 ((rd_T43 x212000 x3).f0) ((rd_T43 x212000 x3).f1) ((rd_T43 x212000 x3).f2) ((rd_T43 x212000 x3).f3) ((rd_T43 x212000 x3).f4)) else (if ((rd_T43 x212000 x3).f1) > 0 then (heirloomref11_Right.j1 k x3 true x212000 x212001 ((rd_T43 x212000 x3).f0) ((rd_T43 x212000 x3).f1) ((rd_T43 x212000 x3).f2) ((rd_T43 x212000 x3).f3) ((rd_T43 x212000 x3).f4)) else (heirloomref11_Right.j1 k x3 (decide (((rd_T43 x212000 x3).f4) > 0)) x212000 x212001 ((rd_T43 x212000 x3).f0) ((rd_T43 x212000 x3).f1) ((rd_T43 x212000 x3).f2) ((rd_T43 x212000 x3).f3) ((rd_T43 x212000 x3).f4)))))))))) else (none)) else ((heirloomref11_all.f k x212000 x212001 x212001).bind fun t212 => (some t212))
def heirloomref11_Right.j1 : Nat → Int → Bool → List (S43) → List (S40) → Int → Int → Int → List (S40) → Int → Option (Bool)
 | 0, _, _, _, _, _, _, _, _, _ => none
 | k + 1, x3, x60, x212000, x212001, x215000, x215001, x215002, x215003, x215004 => if x60 = true then (some false) else (if x215002 > 0 then (if x215002 ≥ (x215003.length : Int) then (heirloomref11_Right.j2 k x3 true x212000 x212001 x215000 x215001 x215002 x215003 x215004) else ((heirloomref11_all.f k x212000 x212001 x215003).bind fun t215 => (heirloomref11_Right.j2 k x3 (!t215) x212000 x212001 x215000 x215001 x215002 x215003 x215004))) else ((heirloomref11_all.f k x212000 x212001 x215003).bind fun t216 => (heirloomref11_Right.j2 k x3 (!t216) x212000 x212001 x215000 x215001 x215002 x215003 x215004)))
def heirloomref11_Right.j2 : Nat → Int → Bool → List (S43) → List (S40) → Int → Int → Int → List (S40) → Int → Option (Bool)
 | 0, _, _, _, _, _, _, _, _, _ => none
 | k + 1, x3, x78, x212000, x212001, x215000, x215001, x215002, x215003, x215004 => if x78 = true then (some false) else (heirloomref11_Right.l1 k x3 0 x212000 x212001 x215000 x215001 x215002 x215003 x215004)
def heirloomref11_Right.l1 : Nat → Int → Int → List (S43) → List (S40) → Int → Int → Int → List (S40) → Int → Option (Bool)
 | 0, _, _, _, _, _, _, _, _, _ => none
 | k + 1, x3, x5, x212000, x212001, x215000, x215001, x215002, x215003, x215004 => if x5 < x3 then (if x215004 > 0 then (if 0 ≤ x5 then (if x5 < (x212000.length : Int) then (if ((rd_T43 x212000 x5).f4) = x215004 then (some false) else (heirloomref11_Right.l1 k x3 (wrap64 (x5 + 1)) x212000 x212001 x215000 x215001 x215002 x215003 x215004)) else (none)) else (none)) else (heirloomref11_Right.l1 k x3 (wrap64 (x5 + 1)) x212000 x212001 x215000 x215001 x215002 x215003 x215004)) else (heirloomref11_Right.l0 k (wrap64 (x3 + 1)) x212000 x212001)
end
def heirloomref11_Right.f (k : Nat) (l0_0 : List (S43)) (l0_1 : List (S40)) : Option (Bool) := heirloomref11_Right.l0 k 0 l0_0 l0_1
theorem heirloomref11_Right.mono_l : ∀ k, (∀ y0 y1 y2, LeO (heirloomref11_Right.l0 k y0 y1 y2) (heirloomref11_Right.l0 (k + 1) y0 y1 y2)) ∧ (∀ y0 y1 y2 y3 y4 y5 y6 y7 y8, LeO (heirloomref11_Right.j1 k y0 y1 y2 y3 y4 y5 y6 y7 y8) (heirloomref11_Right.j1 (k + 1) y0 y1 y2 y3 y4 y5 y6 y7 y8)) ∧ (∀ y0 y1 y2 y3 y4 y5 y6 y7 y8, LeO (heirloomref11_Right.j2 k y0 y1 y2 y3 y4 y5 y6 y7 y8) (heirloomref11_Right.j2 (k + 1) y0 y1 y2 y3 y4 y5 y6 y7 y8)) ∧ (∀ y0 y1 y2 y3 y4 y5 y6 y7 y8, LeO (heirloomref11_Right.l1 k y0 y1 y2 y3 y4 y5 y6 y7 y8) (heirloomref11_Right.l1 (k + 1) y0 y1 y2 y3 y4 y5 y6 y7 y8))
 | 0 => ⟨fun _ _ _ r h => by simp [heirloomref11_Right.l0] at h, fun _ _ _ _ _ _ _ _ _ r h => by simp [heirloomref11_Right.j1] at h, fun _ _ _ _ _ _ _ _ _ r h => by simp [heirloomref11_Right.j2] at h, fun _ _ _ _ _ _ _ _ _ r h => by simp [heirloomref11_Right.l1] at h⟩
 | k + 1 => by
  obtain ⟨ih0, ih1, ih2, ih3⟩ := heirloomref11_Right.mono_l k
  refine ⟨?_, ?_, ?_, ?_⟩
  ·intro y0 y1 y2
   unfold heirloomref11_Right.l0
   repeat' first
   | (with_reducible exact ih0 _ _ _)
   | (with_reducible exact ih1 _ _ _ _ _ _ _ _ _)
   | (with_reducible exact ih2 _ _ _ _ _ _ _ _ _)
   | (with_reducible exact ih3 _ _ _ _ _ _ _ _ _)
   | (with_reducible exact heirloomref11_all.mono _ _ _ _)
   | (with_reducible exact LeO.refl _)
   | (with_reducible exact LeO.none _)
   | (with_reducible refine LeO.ite ?_ ?_)
   | (with_reducible refine LeO.bind ?_ (fun _ => ?_))
   | exact ih0 _ _ _
   | exact ih1 _ _ _ _ _ _ _ _ _
   | exact ih2 _ _ _ _ _ _ _ _ _
   | exact ih3 _ _ _ _ _ _ _ _ _
   | exact heirloomref11_all.mono _ _ _ _
   | exact LeO.none _
   | refine LeO.ite ?_ ?_
   | refine LeO.bind ?_ (fun _ => ?_)
  ·intro y0 y1 y2 y3 y4 y5 y6 y7 y8
   unfold heirloomref11_Right.j1
   repeat' first
   | (with_reducible exact ih0 _ _ _)
   | (with_reducible exact ih1 _ _ _ _ _ _ _ _ _)
   | (with_reducible exact ih2 _ _ _ _ _ _ _ _ _)
   | (with_reducible exact ih3 _ _ _ _ _ _ _ _ _)
   | (with_reducible exact heirloomref11_all.mono _ _ _ _)
   | (with_reducible exact LeO.refl _)
   | (with_reducible exact LeO.none _)
   | (with_reducible refine LeO.ite ?_ ?_)
   | (with_reducible refine LeO.bind ?_ (fun _ => ?_))
   | exact ih0 _ _ _
   | exact ih1 _ _ _ _ _ _ _ _ _
   | exact ih2 _ _ _ _ _ _ _ _ _
   | exact ih3 _ _ _ _ _ _ _ _ _
   | exact heirloomref11_all.mono _ _ _ _
   | exact LeO.none _
   | refine LeO.ite ?_ ?_
   | refine LeO.bind ?_ (fun _ => ?_)
  ·intro y0 y1 y2 y3 y4 y5 y6 y7 y8
   unfold heirloomref11_Right.j2
   repeat' first
   | (with_reducible exact ih0 _ _ _)
   | (with_reducible exact ih1 _ _ _ _ _ _ _ _ _)
   | (with_reducible exact ih2 _ _ _ _ _ _ _ _ _)
   | (with_reducible exact ih3 _ _ _ _ _ _ _ _ _)
   | (with_reducible exact heirloomref11_all.mono _ _ _ _)
   | (with_reducible exact LeO.refl _)
   | (with_reducible exact LeO.none _)
   | (with_reducible refine LeO.ite ?_ ?_)
   | (with_reducible refine LeO.bind ?_ (fun _ => ?_))
   | exact ih0 _ _ _
   | exact ih1 _ _ _ _ _ _ _ _ _
   | exact ih2 _ _ _ _ _ _ _ _ _
   | exact ih3 _ _ _ _ _ _ _ _ _
   | exact heirloomref11_all.mono _ _ _ _
   | exact LeO.none _
   | refine LeO.ite ?_ ?_
   | refine LeO.bind ?_ (fun _ => ?_)
  ·intro y0 y1 y2 y3 y4 y5 y6 y7 y8
   unfold heirloomref11_Right.l1
   repeat' first
   | (with_reducible exact ih0 _ _ _)
   | (with_reducible exact ih1 _ _ _ _ _ _ _ _ _)
   | (with_reducible exact ih2 _ _ _ _ _ _ _ _ _)
   | (with_reducible exact ih3 _ _ _ _ _ _ _ _ _)
   | (with_reducible exact heirloomref11_all.mono _ _ _ _)
   | (with_reducible exact LeO.refl _)
   | (with_reducible exact LeO.none _)
   | (with_reducible refine LeO.ite ?_ ?_)
   | (with_reducible refine LeO.bind ?_ (fun _ => ?_))
   | exact ih0 _ _ _
   | exact ih1 _ _ _ _ _ _ _ _ _
   | exact ih2 _ _ _ _ _ _ _ _ _
   | exact ih3 _ _ _ _ _ _ _ _ _
   | exact heirloomref11_all.mono _ _ _ _
   | exact LeO.none _
   | refine LeO.ite ?_ ?_
   | refine LeO.bind ?_ (fun _ => ?_)
theorem heirloomref11_Right.mono : ∀ a0 a1 k, LeO (heirloomref11_Right.f k a0 a1) (heirloomref11_Right.f (k + 1) a0 a1) := by
 intro a0 a1 k
 obtain ⟨ih0, ih1, ih2, ih3⟩ := heirloomref11_Right.mono_l k
 unfold heirloomref11_Right.f
 repeat' first
   | (with_reducible exact ih0 _ _ _)
   | (with_reducible exact ih1 _ _ _ _ _ _ _ _ _)
   | (with_reducible exact ih2 _ _ _ _ _ _ _ _ _)
   | (with_reducible exact ih3 _ _ _ _ _ _ _ _ _)
   | (with_reducible exact heirloomref11_all.mono _ _ _ _)
   | (with_reducible exact LeO.refl _)
   | (with_reducible exact LeO.none _)
   | (with_reducible refine LeO.ite ?_ ?_)
   | (with_reducible refine LeO.bind ?_ (fun _ => ?_))
   | exact ih0 _ _ _
   | exact ih1 _ _ _ _ _ _ _ _ _
   | exact ih2 _ _ _ _ _ _ _ _ _
   | exact ih3 _ _ _ _ _ _ _ _ _
   | exact heirloomref11_all.mono _ _ _ _
   | exact LeO.none _
   | refine LeO.ite ?_ ?_
   | refine LeO.bind ?_ (fun _ => ?_)
set_option maxHeartbeats 8000000 in
set_option maxRecDepth 100000 in
theorem heirloomref11_Right.calls (k : Nat) (A0_0 : Option Addr) (c0_0 : Nat) (l0_0 : List (S43)) (A0_1 : Option Addr) (c0_1 : Nat) (l0_1 : List (S40)) (r : Bool) (w : World) (hr0_0 : Kd.C k43 w A0_0 l0_0.length l0_0) (hc0_0 : l0_0.length ≤ c0_0) (hr0_1 : Kd.C k40 w A0_1 l0_1.length l0_1) (hc0_1 : l0_1.length ≤ c0_1) (h : heirloomref11_Right.f k l0_0 l0_1 = some r) :
  Calls Try.prog 16 #[.agg #[.slice A0_0 l0_0.length c0_0, .slice A0_1 l0_1.length c0_1]] w fun e w' => e = .returned (.bool r) ∧ Below w.heap.size w w' := by
 have hu25 := Try.underlying25
 have hu43 := Try.underlying43
 have HR0_0 := Aside0.mk hr0_0
 have HC0_0 := Aside0.mk hc0_0
 clear hr0_0 hc0_0
 have HR0_1 := Aside0.mk hr0_1
 have HC0_1 := Aside0.mk hc0_1
 clear hr0_1 hc0_1
 have HB := Aside0.mk (Below.refl w.heap.size w)
 have H : (heirloomref11_Right.l0 k 0 l0_0 l0_1) = some r := h
 clear h
 have H' := Aside0.mk H
 clear H
 go_enter Try.func16, Try.ntmps16
 go_wp2_with (first | ((with_reducible refine gate_dst (N := 1) rfl ?_); (try (refine gate_guard (by rfl) ?_; dsimp only)); refine box_event ?hg (N := 1) ?hd (cs := #[.slice A0_0 l0_0.length c0_0, .slice A0_1 l0_1.length c0_1]) (t := 25) ?hr ?_; (case hd => rfl); (case hg => rfl); (case hr => go_simp <;> rfl); intro gb211 hg w2 hbox hb; have n0_ := Aside0.mk (below_step (by repeat (first | (with_reducible first | exact HB.out | apply zb | apply zn | apply zd) | exact HB.out)) hb); have n1_ := Aside0.mk (hbox); have n2_ := Aside0.mk ((by rw [hg]; exact (below_size (by repeat (first | (with_reducible first | exact HB.out | apply zb | apply zn | apply zd) | exact HB.out))) : w.heap.size ≤ gb211)); have n3_ := n2_; clear HB; have HB := n0_; have BK211 := n1_; have GW211 := n2_; have GE211 := n3_; clear n0_ n1_ n2_ n3_; clear hb hbox hg))
 repeat (go_quiet (first | ((with_reducible refine gate_dst (N := 1) rfl ?_); (try (refine gate_guard (by rfl) ?_; dsimp only)); refine box_event ?hg (N := 1) ?hd (cs := #[.slice A0_0 l0_0.length c0_0, .slice A0_1 l0_1.length c0_1]) (t := 25) ?hr ?_; (case hd => rfl); (case hg => rfl); (case hr => go_simp <;> rfl); intro gb211 hg w2 hbox hb; have n0_ := Aside0.mk (below_step (by repeat (first | (with_reducible first | exact HB.out | apply zb | apply zn | apply zd) | exact HB.out)) hb); have n1_ := Aside0.mk (hbox); have n2_ := Aside0.mk ((by rw [hg]; exact (below_size (by repeat (first | (with_reducible first | exact HB.out | apply zb | apply zn | apply zd) | exact HB.out))) : w.heap.size ≤ gb211)); have n3_ := n2_; clear HB; have HB := n0_; have BK211 := n1_; have GW211 := n2_; have GE211 := n3_; clear n0_ n1_ n2_ n3_; clear hb hbox hg)); try go_wp2_with (first | ((with_reducible refine gate_dst (N := 1) rfl ?_); (try (refine gate_guard (by rfl) ?_; dsimp only)); refine box_event ?hg (N := 1) ?hd (cs := #[.slice A0_0 l0_0.length c0_0, .slice A0_1 l0_1.length c0_1]) (t := 25) ?hr ?_; (case hd => rfl); (case hg => rfl); (case hr => go_simp <;> rfl); intro gb211 hg w2 hbox hb; have n0_ := Aside0.mk (below_step (by repeat (first | (with_reducible first | exact HB.out | apply zb | apply zn | apply zd) | exact HB.out)) hb); have n1_ := Aside0.mk (hbox); have n2_ := Aside0.mk ((by rw [hg]; exact (below_size (by repeat (first | (with_reducible first | exact HB.out | apply zb | apply zn | apply zd) | exact HB.out))) : w.heap.size ≤ gb211)); have n3_ := n2_; clear HB; have HB := n0_; have BK211 := n1_; have GW211 := n2_; have GE211 := n3_; clear n0_ n1_ n2_ n3_; clear hb hbox hg)))
 go_loopg [3] k (fun kq v3 w' => ∃ (x3_1 : Int), v3 = .int .i64 x3_1 ∧ Aside0 (heirloomref11_Right.l0 kq x3_1 l0_0 l0_1 = some r) ∧ Aside0 (kq ≤ k) ∧ Aside0 (w'.heap[gb211]? = some (.cells #[(.slice A0_0 l0_0.length c0_0), (.slice A0_1 l0_1.length c0_1)] 25 (0, 0))) ∧ Aside0 (Below w.heap.size w w'))
 case atStart => exact ⟨(0), (by first | rfl | (simp; done) | (simp [*]; done)), H', ⟨Nat.le_refl _⟩, ⟨by (with_reducible repeat first | refine kn ?_ _ | refine kd ?_ | refine ka ?_ _); exact BK211.out⟩, ⟨by repeat (first | (with_reducible first | exact HB.out | apply zb | apply zn | apply zd | refine zs ?_ GE211.out) | exact HB.out)⟩⟩
 case round =>
  clear H'
  try clear c1
  try clear p2
  obtain ⟨x3_1, rfl, HA, HK1, BK211, HB⟩ := hrel
  cases gk with
  | zero => exact absurd HA.out (by simp [heirloomref11_Right.l0])
  | succ k1 =>
   have H := HA.out
   clear HA
   simp only [heirloomref11_Right.l0] at H
   by_cases c3 : x3_1 < (l0_0.length : Int)
   ·rw [if_pos c3] at H
    have c3b0 : decide (x3_1 < (l0_0.length : Int)) = true := decide_eq_true c3
    clear c3
    by_cases c4 : 0 ≤ x3_1
    ·rw [if_pos c4] at H
     have c4b0 : decide (0 ≤ x3_1) = true := decide_eq_true c4
     clear c4
     have HC5 := Aside0.mk H
     clear H
     have hcz6_0 : wr.cell? ⟨gb211, 0, none⟩ = some (.slice A0_0 l0_0.length c0_0) := (blk_cell BK211.out 0).trans rfl
     have hcz6_1 : wr.cell? ⟨gb211, 1, none⟩ = some (.slice A0_1 l0_1.length c0_1) := (blk_cell BK211.out 1).trans rfl
     have hfz6_0 := blk_frozen BK211.out 0
     have hfz6_1 := blk_frozen BK211.out 1
     have p213 : 0 ≤ (x3_1 : Int) := of_decide_eq_true (by first | (with_reducible assumption) | assumption)
     have q213 : x3_1 < (l0_0.length : Int) := of_decide_eq_true (by first | (with_reducible assumption) | assumption)
     obtain ⟨ad213, A213_3, c213_3, e213, hx213_0, hx213_1, hx213_2, hx213_3, hx213_4, hl213_3, hi213_3⟩ := at_T43 HR0_0.out x3_1 p213 q213
     cases e213
     replace hx213_0 := (HB.out.cell (World.block_lt_of_cell? w _ hx213_0)).trans hx213_0
     replace hx213_1 := (HB.out.cell (World.block_lt_of_cell? w _ hx213_1)).trans hx213_1
     replace hx213_2 := (HB.out.cell (World.block_lt_of_cell? w _ hx213_2)).trans hx213_2
     replace hx213_3 := (HB.out.cell (World.block_lt_of_cell? w _ hx213_3)).trans hx213_3
     replace hx213_4 := (HB.out.cell (World.block_lt_of_cell? w _ hx213_4)).trans hx213_4
     have HR213_3 := Aside0.mk hi213_3
     have HC213_3 := Aside0.mk hl213_3
     clear hi213_3 hl213_3
     replace p213 := eq_true p213
     replace q213 := eq_true q213
     go_upto_region 5 with (first | ((with_reducible refine gate_dst (N := 4) rfl ?_); (try (refine gate_guard (by rfl) ?_; dsimp only)); refine box_event ?hg (N := 4) ?hd (cs := #[.int .i64 0, .int .i64 0, .int .i64 0, .slice none 0 0, .int .i64 0]) (t := 43) ?hr ?_; (case hd => rfl); (case hg => rfl); (case hr => go_simp <;> rfl); intro gb214 hg w7 hbox hb; have n0_ := Aside0.mk (blk_below (g := gb211) (o := .cells #[.slice (some ad213) l0_0.length c0_0, .slice A0_1 l0_1.length c0_1] 25 (0, 0)) (by (with_reducible repeat first | refine kn ?_ _ | refine kd ?_ | refine ka ?_ _); exact BK211.out) hb); have n1_ := Aside0.mk (below_step (by repeat (first | (with_reducible first | exact HB.out | apply zb | apply zn | apply zd | refine zs ?_ GE211.out) | exact HB.out)) hb); have n2_ := Aside0.mk (hbox); have n3_ := Aside0.mk ((by rw [hg]; exact (below_size (by repeat (first | (with_reducible first | exact HB.out | apply zb | apply zn | apply zd | refine zs ?_ GE211.out) | exact HB.out))) : w.heap.size ≤ gb214)); have n4_ := Aside0.mk ((by rw [hg]; exact (below_size (by repeat (first | (with_reducible first | exact HB.out | apply zb | apply zn | apply zd | refine zs ?_ GE211.out) | exact HB.out))) : w.heap.size ≤ gb214)); have n5_ := Aside0.mk ((by rw [hg]; exact Nat.ne_of_lt (blk_lt (g := gb211) (o := .cells #[.slice (some ad213) l0_0.length c0_0, .slice A0_1 l0_1.length c0_1] 25 (0, 0)) (by (with_reducible repeat first | refine kn ?_ _ | refine kd ?_ | refine ka ?_ _); exact BK211.out)) : gb211 ≠ gb214)); have n6_ := Aside0.mk ((by rw [hg]; exact Nat.ne_of_gt (blk_lt (g := gb211) (o := .cells #[.slice (some ad213) l0_0.length c0_0, .slice A0_1 l0_1.length c0_1] 25 (0, 0)) (by (with_reducible repeat first | refine kn ?_ _ | refine kd ?_ | refine ka ?_ _); exact BK211.out)) : gb214 ≠ gb211)); clear BK211; clear HB; have BK211 := n0_; have HB := n1_; have BK214 := n2_; have GW214 := n3_; have GE214 := n4_; have NB211_214 := n5_; have NB214_211 := n6_; clear n0_ n1_ n2_ n3_ n4_ n5_ n6_; clear hb hbox hg; have hnb8 := NB214_211.out; have hnc8 := NB211_214.out; have hcz9_0 : w7.cell? ⟨gb214, 0, none⟩ = some (.int .i64 0) := (blk_cell BK214.out 0).trans rfl; have hcz9_1 : w7.cell? ⟨gb214, 1, none⟩ = some (.int .i64 0) := (blk_cell BK214.out 1).trans rfl; have hcz9_2 : w7.cell? ⟨gb214, 2, none⟩ = some (.int .i64 0) := (blk_cell BK214.out 2).trans rfl; have hcz9_3 : w7.cell? ⟨gb214, 3, none⟩ = some (.slice none 0 0) := (blk_cell BK214.out 3).trans rfl; have hcz9_4 : w7.cell? ⟨gb214, 4, none⟩ = some (.int .i64 0) := (blk_cell BK214.out 4).trans rfl; have hfz9_0 := blk_frozen BK214.out 0; have hfz9_1 := blk_frozen BK214.out 1; have hfz9_2 := blk_frozen BK214.out 2; have hfz9_3 := blk_frozen BK214.out 3; have hfz9_4 := blk_frozen BK214.out 4))
     repeat (go_quiet (first | ((with_reducible refine gate_dst (N := 4) rfl ?_); (try (refine gate_guard (by rfl) ?_; dsimp only)); refine box_event ?hg (N := 4) ?hd (cs := #[.int .i64 0, .int .i64 0, .int .i64 0, .slice none 0 0, .int .i64 0]) (t := 43) ?hr ?_; (case hd => rfl); (case hg => rfl); (case hr => go_simp <;> rfl); intro gb214 hg w7 hbox hb; have n0_ := Aside0.mk (blk_below (g := gb211) (o := .cells #[.slice (some ad213) l0_0.length c0_0, .slice A0_1 l0_1.length c0_1] 25 (0, 0)) (by (with_reducible repeat first | refine kn ?_ _ | refine kd ?_ | refine ka ?_ _); exact BK211.out) hb); have n1_ := Aside0.mk (below_step (by repeat (first | (with_reducible first | exact HB.out | apply zb | apply zn | apply zd | refine zs ?_ GE211.out) | exact HB.out)) hb); have n2_ := Aside0.mk (hbox); have n3_ := Aside0.mk ((by rw [hg]; exact (below_size (by repeat (first | (with_reducible first | exact HB.out | apply zb | apply zn | apply zd | refine zs ?_ GE211.out) | exact HB.out))) : w.heap.size ≤ gb214)); have n4_ := Aside0.mk ((by rw [hg]; exact (below_size (by repeat (first | (with_reducible first | exact HB.out | apply zb | apply zn | apply zd | refine zs ?_ GE211.out) | exact HB.out))) : w.heap.size ≤ gb214)); have n5_ := Aside0.mk ((by rw [hg]; exact Nat.ne_of_lt (blk_lt (g := gb211) (o := .cells #[.slice (some ad213) l0_0.length c0_0, .slice A0_1 l0_1.length c0_1] 25 (0, 0)) (by (with_reducible repeat first | refine kn ?_ _ | refine kd ?_ | refine ka ?_ _); exact BK211.out)) : gb211 ≠ gb214)); have n6_ := Aside0.mk ((by rw [hg]; exact Nat.ne_of_gt (blk_lt (g := gb211) (o := .cells #[.slice (some ad213) l0_0.length c0_0, .slice A0_1 l0_1.length c0_1] 25 (0, 0)) (by (with_reducible repeat first | refine kn ?_ _ | refine kd ?_ | refine ka ?_ _); exact BK211.out)) : gb214 ≠ gb211)); clear BK211; clear HB; have BK211 := n0_; have HB := n1_; have BK214 := n2_; have GW214 := n3_; have GE214 := n4_; have NB211_214 := n5_; have NB214_211 := n6_; clear n0_ n1_ n2_ n3_ n4_ n5_ n6_; clear hb hbox hg; have hnb8 := NB214_211.out; have hnc8 := NB211_214.out; have hcz9_0 : w7.cell? ⟨gb214, 0, none⟩ = some (.int .i64 0) := (blk_cell BK214.out 0).trans rfl; have hcz9_1 : w7.cell? ⟨gb214, 1, none⟩ = some (.int .i64 0) := (blk_cell BK214.out 1).trans rfl; have hcz9_2 : w7.cell? ⟨gb214, 2, none⟩ = some (.int .i64 0) := (blk_cell BK214.out 2).trans rfl; have hcz9_3 : w7.cell? ⟨gb214, 3, none⟩ = some (.slice none 0 0) := (blk_cell BK214.out 3).trans rfl; have hcz9_4 : w7.cell? ⟨gb214, 4, none⟩ = some (.int .i64 0) := (blk_cell BK214.out 4).trans rfl; have hfz9_0 := blk_frozen BK214.out 0; have hfz9_1 := blk_frozen BK214.out 1; have hfz9_2 := blk_frozen BK214.out 2; have hfz9_3 := blk_frozen BK214.out 3; have hfz9_4 := blk_frozen BK214.out 4)); go_upto_region 5 with (first | ((with_reducible refine gate_dst (N := 4) rfl ?_); (try (refine gate_guard (by rfl) ?_; dsimp only)); refine box_event ?hg (N := 4) ?hd (cs := #[.int .i64 0, .int .i64 0, .int .i64 0, .slice none 0 0, .int .i64 0]) (t := 43) ?hr ?_; (case hd => rfl); (case hg => rfl); (case hr => go_simp <;> rfl); intro gb214 hg w7 hbox hb; have n0_ := Aside0.mk (blk_below (g := gb211) (o := .cells #[.slice (some ad213) l0_0.length c0_0, .slice A0_1 l0_1.length c0_1] 25 (0, 0)) (by (with_reducible repeat first | refine kn ?_ _ | refine kd ?_ | refine ka ?_ _); exact BK211.out) hb); have n1_ := Aside0.mk (below_step (by repeat (first | (with_reducible first | exact HB.out | apply zb | apply zn | apply zd | refine zs ?_ GE211.out) | exact HB.out)) hb); have n2_ := Aside0.mk (hbox); have n3_ := Aside0.mk ((by rw [hg]; exact (below_size (by repeat (first | (with_reducible first | exact HB.out | apply zb | apply zn | apply zd | refine zs ?_ GE211.out) | exact HB.out))) : w.heap.size ≤ gb214)); have n4_ := Aside0.mk ((by rw [hg]; exact (below_size (by repeat (first | (with_reducible first | exact HB.out | apply zb | apply zn | apply zd | refine zs ?_ GE211.out) | exact HB.out))) : w.heap.size ≤ gb214)); have n5_ := Aside0.mk ((by rw [hg]; exact Nat.ne_of_lt (blk_lt (g := gb211) (o := .cells #[.slice (some ad213) l0_0.length c0_0, .slice A0_1 l0_1.length c0_1] 25 (0, 0)) (by (with_reducible repeat first | refine kn ?_ _ | refine kd ?_ | refine ka ?_ _); exact BK211.out)) : gb211 ≠ gb214)); have n6_ := Aside0.mk ((by rw [hg]; exact Nat.ne_of_gt (blk_lt (g := gb211) (o := .cells #[.slice (some ad213) l0_0.length c0_0, .slice A0_1 l0_1.length c0_1] 25 (0, 0)) (by (with_reducible repeat first | refine kn ?_ _ | refine kd ?_ | refine ka ?_ _); exact BK211.out)) : gb214 ≠ gb211)); clear BK211; clear HB; have BK211 := n0_; have HB := n1_; have BK214 := n2_; have GW214 := n3_; have GE214 := n4_; have NB211_214 := n5_; have NB214_211 := n6_; clear n0_ n1_ n2_ n3_ n4_ n5_ n6_; clear hb hbox hg; have hnb8 := NB214_211.out; have hnc8 := NB211_214.out; have hcz9_0 : w7.cell? ⟨gb214, 0, none⟩ = some (.int .i64 0) := (blk_cell BK214.out 0).trans rfl; have hcz9_1 : w7.cell? ⟨gb214, 1, none⟩ = some (.int .i64 0) := (blk_cell BK214.out 1).trans rfl; have hcz9_2 : w7.cell? ⟨gb214, 2, none⟩ = some (.int .i64 0) := (blk_cell BK214.out 2).trans rfl; have hcz9_3 : w7.cell? ⟨gb214, 3, none⟩ = some (.slice none 0 0) := (blk_cell BK214.out 3).trans rfl; have hcz9_4 : w7.cell? ⟨gb214, 4, none⟩ = some (.int .i64 0) := (blk_cell BK214.out 4).trans rfl; have hfz9_0 := blk_frozen BK214.out 0; have hfz9_1 := blk_frozen BK214.out 1; have hfz9_2 := blk_frozen BK214.out 2; have hfz9_3 := blk_frozen BK214.out 3; have hfz9_4 := blk_frozen BK214.out 4)))
     (try simp only [Act.put, List.setIfInBounds_toArray, List.set_cons_zero, List.set_cons_succ])
     go_cut [60] (fun v60 wc => ∃ (kq : Nat) (x60_4 : Bool), v60 = .bool x60_4 ∧ Aside0 (heirloomref11_Right.j1 kq x3_1 x60_4 l0_0 l0_1 ((rd_T43 l0_0 x3_1).f0) ((rd_T43 l0_0 x3_1).f1) ((rd_T43 l0_0 x3_1).f2) ((rd_T43 l0_0 x3_1).f3) ((rd_T43 l0_0 x3_1).f4) = some r) ∧ Aside0 (kq ≤ k1) ∧ Aside0 (wc.heap[gb211]? = some (.cells #[(.slice (some ad213) l0_0.length c0_0), (.slice A0_1 l0_1.length c0_1)] 25 (0, 0))) ∧ Aside0 (wc.heap[gb214]? = some (.cells #[.int .i64 ((rd_T43 l0_0 x3_1).f0), .int .i64 ((rd_T43 l0_0 x3_1).f1), .int .i64 ((rd_T43 l0_0 x3_1).f2), (.slice A213_3 ((rd_T43 l0_0 x3_1).f3).length c213_3), .int .i64 ((rd_T43 l0_0 x3_1).f4)] 43 (0, 0))) ∧ Aside0 (Below w.heap.size w wc))
     case first =>
      have H := HC5.out
      clear HC5
      by_cases c10 : ((rd_T43 l0_0 x3_1).f0) < 4
      ·rw [if_pos c10] at H
       have c10b0 : decide (((rd_T43 l0_0 x3_1).f0) < 4) = true := decide_eq_true c10
       clear c10
       (first | rw [c10b0] | (simp only [i64_w, i32_w]; rw [c10b0]) | skip)
       have H' := Aside0.mk H
       clear H
       have hnb11 := NB214_211.out
       have hnc11 := NB211_214.out
       have hcz12_0 : w7.cell? ⟨gb214, 0, none⟩ = some (.int .i64 0) := (blk_cell BK214.out 0).trans rfl
       have hcz12_1 : w7.cell? ⟨gb214, 1, none⟩ = some (.int .i64 0) := (blk_cell BK214.out 1).trans rfl
       have hcz12_2 : w7.cell? ⟨gb214, 2, none⟩ = some (.int .i64 0) := (blk_cell BK214.out 2).trans rfl
       have hcz12_3 : w7.cell? ⟨gb214, 3, none⟩ = some (.slice none 0 0) := (blk_cell BK214.out 3).trans rfl
       have hcz12_4 : w7.cell? ⟨gb214, 4, none⟩ = some (.int .i64 0) := (blk_cell BK214.out 4).trans rfl
       have hfz12_0 := blk_frozen BK214.out 0
       have hfz12_1 := blk_frozen BK214.out 1
       have hfz12_2 := blk_frozen BK214.out 2
       have hfz12_3 := blk_frozen BK214.out 3
       have hfz12_4 := blk_frozen BK214.out 4
       go_wp2
       repeat (go_quiet (fail); try go_wp2)
       go_meet
       case rel => exact ⟨_, (true), (by first | rfl | (simp; done) | (simp [*]; done)), H', ⟨by have := HK1.out; first | omega | exact Nat.le_refl _⟩, ⟨by (repeat first | (with_reducible first | refine kn ?_ _ | refine kd ?_ | refine ka ?_ _ | apply bp) | apply blk_far (hp := NB211_214.out)); exact BK211.out; all_goals rfl⟩, ⟨by (with_reducible repeat first | refine kn ?_ _ | refine kd ?_ | refine ka ?_ _ | apply bp); exact BK214.out; all_goals rfl⟩, ⟨by repeat (first | (with_reducible first | exact HB.out | apply zb | apply zn | apply zd | refine zs ?_ GE211.out | refine zs ?_ GE214.out) | exact HB.out)⟩⟩
      ·rw [if_neg c10] at H
       have c10b0 : decide (((rd_T43 l0_0 x3_1).f0) < 4) = false := decide_eq_false c10
       clear c10
       (first | rw [c10b0] | (simp only [i64_w, i32_w]; rw [c10b0]) | skip)
       by_cases c13 : ((rd_T43 l0_0 x3_1).f0) > 9
       ·rw [if_pos c13] at H
        have c13b0 : decide (9 < ((rd_T43 l0_0 x3_1).f0)) = true := decide_eq_true c13
        clear c13
        have H' := Aside0.mk H
        clear H
        have hnb14 := NB214_211.out
        have hnc14 := NB211_214.out
        have hcz15_0 : w7.cell? ⟨gb214, 0, none⟩ = some (.int .i64 0) := (blk_cell BK214.out 0).trans rfl
        have hcz15_1 : w7.cell? ⟨gb214, 1, none⟩ = some (.int .i64 0) := (blk_cell BK214.out 1).trans rfl
        have hcz15_2 : w7.cell? ⟨gb214, 2, none⟩ = some (.int .i64 0) := (blk_cell BK214.out 2).trans rfl
        have hcz15_3 : w7.cell? ⟨gb214, 3, none⟩ = some (.slice none 0 0) := (blk_cell BK214.out 3).trans rfl
        have hcz15_4 : w7.cell? ⟨gb214, 4, none⟩ = some (.int .i64 0) := (blk_cell BK214.out 4).trans rfl
        have hfz15_0 := blk_frozen BK214.out 0
        have hfz15_1 := blk_frozen BK214.out 1
        have hfz15_2 := blk_frozen BK214.out 2
        have hfz15_3 := blk_frozen BK214.out 3
        have hfz15_4 := blk_frozen BK214.out 4
        go_wp2
        repeat (go_quiet (fail); try go_wp2)
        go_meet
        case rel => exact ⟨_, (true), (by first | rfl | (simp; done) | (simp [*]; done)), H', ⟨by have := HK1.out; first | omega | exact Nat.le_refl _⟩, ⟨by (repeat first | (with_reducible first | refine kn ?_ _ | refine kd ?_ | refine ka ?_ _ | apply bp) | apply blk_far (hp := NB211_214.out)); exact BK211.out; all_goals rfl⟩, ⟨by (with_reducible repeat first | refine kn ?_ _ | refine kd ?_ | refine ka ?_ _ | apply bp); exact BK214.out; all_goals rfl⟩, ⟨by repeat (first | (with_reducible first | exact HB.out | apply zb | apply zn | apply zd | refine zs ?_ GE211.out | refine zs ?_ GE214.out) | exact HB.out)⟩⟩
       ·rw [if_neg c13] at H
        have c13b0 : decide (9 < ((rd_T43 l0_0 x3_1).f0)) = false := decide_eq_false c13
        clear c13
        by_cases c16 : ((rd_T43 l0_0 x3_1).f1) < 0
        ·rw [if_pos c16] at H
         have c16b0 : decide (((rd_T43 l0_0 x3_1).f1) < 0) = true := decide_eq_true c16
         clear c16
         have H' := Aside0.mk H
         clear H
         have hnb17 := NB214_211.out
         have hnc17 := NB211_214.out
         have hcz18_0 : w7.cell? ⟨gb214, 0, none⟩ = some (.int .i64 0) := (blk_cell BK214.out 0).trans rfl
         have hcz18_1 : w7.cell? ⟨gb214, 1, none⟩ = some (.int .i64 0) := (blk_cell BK214.out 1).trans rfl
         have hcz18_2 : w7.cell? ⟨gb214, 2, none⟩ = some (.int .i64 0) := (blk_cell BK214.out 2).trans rfl
         have hcz18_3 : w7.cell? ⟨gb214, 3, none⟩ = some (.slice none 0 0) := (blk_cell BK214.out 3).trans rfl
         have hcz18_4 : w7.cell? ⟨gb214, 4, none⟩ = some (.int .i64 0) := (blk_cell BK214.out 4).trans rfl
         have hfz18_0 := blk_frozen BK214.out 0
         have hfz18_1 := blk_frozen BK214.out 1
         have hfz18_2 := blk_frozen BK214.out 2
         have hfz18_3 := blk_frozen BK214.out 3
         have hfz18_4 := blk_frozen BK214.out 4
         go_wp2
         repeat (go_quiet (fail); try go_wp2)
         go_meet
         case rel => exact ⟨_, (true), (by first | rfl | (simp; done) | (simp [*]; done)), H', ⟨by have := HK1.out; first | omega | exact Nat.le_refl _⟩, ⟨by (repeat first | (with_reducible first | refine kn ?_ _ | refine kd ?_ | refine ka ?_ _ | apply bp) | apply blk_far (hp := NB211_214.out)); exact BK211.out; all_goals rfl⟩, ⟨by (with_reducible repeat first | refine kn ?_ _ | refine kd ?_ | refine ka ?_ _ | apply bp); exact BK214.out; all_goals rfl⟩, ⟨by repeat (first | (with_reducible first | exact HB.out | apply zb | apply zn | apply zd | refine zs ?_ GE211.out | refine zs ?_ GE214.out) | exact HB.out)⟩⟩
        ·rw [if_neg c16] at H
         have c16b0 : decide (((rd_T43 l0_0 x3_1).f1) < 0) = false := decide_eq_false c16
         clear c16
         by_cases c19 : ((rd_T43 l0_0 x3_1).f1) > 3
         ·rw [if_pos c19] at H
          have c19b0 : decide (3 < ((rd_T43 l0_0 x3_1).f1)) = true := decide_eq_true c19
          clear c19
          have H' := Aside0.mk H
          clear H
          have hnb20 := NB214_211.out
          have hnc20 := NB211_214.out
          have hcz21_0 : w7.cell? ⟨gb214, 0, none⟩ = some (.int .i64 0) := (blk_cell BK214.out 0).trans rfl
          have hcz21_1 : w7.cell? ⟨gb214, 1, none⟩ = some (.int .i64 0) := (blk_cell BK214.out 1).trans rfl
          have hcz21_2 : w7.cell? ⟨gb214, 2, none⟩ = some (.int .i64 0) := (blk_cell BK214.out 2).trans rfl
          have hcz21_3 : w7.cell? ⟨gb214, 3, none⟩ = some (.slice none 0 0) := (blk_cell BK214.out 3).trans rfl
          have hcz21_4 : w7.cell? ⟨gb214, 4, none⟩ = some (.int .i64 0) := (blk_cell BK214.out 4).trans rfl
          have hfz21_0 := blk_frozen BK214.out 0
          have hfz21_1 := blk_frozen BK214.out 1
          have hfz21_2 := blk_frozen BK214.out 2
          have hfz21_3 := blk_frozen BK214.out 3
          have hfz21_4 := blk_frozen BK214.out 4
          go_wp2
          repeat (go_quiet (fail); try go_wp2)
          go_meet
          case rel => exact ⟨_, (true), (by first | rfl | (simp; done) | (simp [*]; done)), H', ⟨by have := HK1.out; first | omega | exact Nat.le_refl _⟩, ⟨by (repeat first | (with_reducible first | refine kn ?_ _ | refine kd ?_ | refine ka ?_ _ | apply bp) | apply blk_far (hp := NB211_214.out)); exact BK211.out; all_goals rfl⟩, ⟨by (with_reducible repeat first | refine kn ?_ _ | refine kd ?_ | refine ka ?_ _ | apply bp); exact BK214.out; all_goals rfl⟩, ⟨by repeat (first | (with_reducible first | exact HB.out | apply zb | apply zn | apply zd | refine zs ?_ GE211.out | refine zs ?_ GE214.out) | exact HB.out)⟩⟩
         ·rw [if_neg c19] at H
          have c19b0 : decide (3 < ((rd_T43 l0_0 x3_1).f1)) = false := decide_eq_false c19
          clear c19
          by_cases c22 : ((rd_T43 l0_0 x3_1).f4) < 0
          ·rw [if_pos c22] at H
           have c22b0 : decide (((rd_T43 l0_0 x3_1).f4) < 0) = true := decide_eq_true c22
           clear c22
           have H' := Aside0.mk H
           clear H
           have hnb23 := NB214_211.out
           have hnc23 := NB211_214.out
           have hcz24_0 : w7.cell? ⟨gb214, 0, none⟩ = some (.int .i64 0) := (blk_cell BK214.out 0).trans rfl
           have hcz24_1 : w7.cell? ⟨gb214, 1, none⟩ = some (.int .i64 0) := (blk_cell BK214.out 1).trans rfl
           have hcz24_2 : w7.cell? ⟨gb214, 2, none⟩ = some (.int .i64 0) := (blk_cell BK214.out 2).trans rfl
           have hcz24_3 : w7.cell? ⟨gb214, 3, none⟩ = some (.slice none 0 0) := (blk_cell BK214.out 3).trans rfl
           have hcz24_4 : w7.cell? ⟨gb214, 4, none⟩ = some (.int .i64 0) := (blk_cell BK214.out 4).trans rfl
           have hfz24_0 := blk_frozen BK214.out 0
           have hfz24_1 := blk_frozen BK214.out 1
           have hfz24_2 := blk_frozen BK214.out 2
           have hfz24_3 := blk_frozen BK214.out 3
           have hfz24_4 := blk_frozen BK214.out 4
           go_wp2
           repeat (go_quiet (fail); try go_wp2)
           go_meet
           case rel => exact ⟨_, (true), (by first | rfl | (simp; done) | (simp [*]; done)), H', ⟨by have := HK1.out; first | omega | exact Nat.le_refl _⟩, ⟨by (repeat first | (with_reducible first | refine kn ?_ _ | refine kd ?_ | refine ka ?_ _ | apply bp) | apply blk_far (hp := NB211_214.out)); exact BK211.out; all_goals rfl⟩, ⟨by (with_reducible repeat first | refine kn ?_ _ | refine kd ?_ | refine ka ?_ _ | apply bp); exact BK214.out; all_goals rfl⟩, ⟨by repeat (first | (with_reducible first | exact HB.out | apply zb | apply zn | apply zd | refine zs ?_ GE211.out | refine zs ?_ GE214.out) | exact HB.out)⟩⟩
          ·rw [if_neg c22] at H
           have c22b0 : decide (((rd_T43 l0_0 x3_1).f4) < 0) = false := decide_eq_false c22
           clear c22
           by_cases c25 : ((rd_T43 l0_0 x3_1).f2) < 0
           ·rw [if_pos c25] at H
            have c25b0 : decide (((rd_T43 l0_0 x3_1).f2) < 0) = true := decide_eq_true c25
            clear c25
            have H' := Aside0.mk H
            clear H
            have hnb26 := NB214_211.out
            have hnc26 := NB211_214.out
            have hcz27_0 : w7.cell? ⟨gb214, 0, none⟩ = some (.int .i64 0) := (blk_cell BK214.out 0).trans rfl
            have hcz27_1 : w7.cell? ⟨gb214, 1, none⟩ = some (.int .i64 0) := (blk_cell BK214.out 1).trans rfl
            have hcz27_2 : w7.cell? ⟨gb214, 2, none⟩ = some (.int .i64 0) := (blk_cell BK214.out 2).trans rfl
            have hcz27_3 : w7.cell? ⟨gb214, 3, none⟩ = some (.slice none 0 0) := (blk_cell BK214.out 3).trans rfl
            have hcz27_4 : w7.cell? ⟨gb214, 4, none⟩ = some (.int .i64 0) := (blk_cell BK214.out 4).trans rfl
            have hfz27_0 := blk_frozen BK214.out 0
            have hfz27_1 := blk_frozen BK214.out 1
            have hfz27_2 := blk_frozen BK214.out 2
            have hfz27_3 := blk_frozen BK214.out 3
            have hfz27_4 := blk_frozen BK214.out 4
            go_wp2
            repeat (go_quiet (fail); try go_wp2)
            go_meet
            case rel => exact ⟨_, (true), (by first | rfl | (simp; done) | (simp [*]; done)), H', ⟨by have := HK1.out; first | omega | exact Nat.le_refl _⟩, ⟨by (repeat first | (with_reducible first | refine kn ?_ _ | refine kd ?_ | refine ka ?_ _ | apply bp) | apply blk_far (hp := NB211_214.out)); exact BK211.out; all_goals rfl⟩, ⟨by (with_reducible repeat first | refine kn ?_ _ | refine kd ?_ | refine ka ?_ _ | apply bp); exact BK214.out; all_goals rfl⟩, ⟨by repeat (first | (with_reducible first | exact HB.out | apply zb | apply zn | apply zd | refine zs ?_ GE211.out | refine zs ?_ GE214.out) | exact HB.out)⟩⟩
           ·rw [if_neg c25] at H
            have c25b0 : decide (((rd_T43 l0_0 x3_1).f2) < 0) = false := decide_eq_false c25
            clear c25
            by_cases c28 : ((rd_T43 l0_0 x3_1).f0) = 5
            ·rw [if_pos c28] at H
             have c28b0 : (((rd_T43 l0_0 x3_1).f0) == 5) = true := beq_iff_eq.mpr c28
             have c28b1 : (((rd_T43 l0_0 x3_1).f0) != 5) = false := bne_eq_false_iff_eq.mpr c28
             clear c28
             have H' := Aside0.mk H
             clear H
             have hnb29 := NB214_211.out
             have hnc29 := NB211_214.out
             have hcz30_0 : w7.cell? ⟨gb214, 0, none⟩ = some (.int .i64 0) := (blk_cell BK214.out 0).trans rfl
             have hcz30_1 : w7.cell? ⟨gb214, 1, none⟩ = some (.int .i64 0) := (blk_cell BK214.out 1).trans rfl
             have hcz30_2 : w7.cell? ⟨gb214, 2, none⟩ = some (.int .i64 0) := (blk_cell BK214.out 2).trans rfl
             have hcz30_3 : w7.cell? ⟨gb214, 3, none⟩ = some (.slice none 0 0) := (blk_cell BK214.out 3).trans rfl
             have hcz30_4 : w7.cell? ⟨gb214, 4, none⟩ = some (.int .i64 0) := (blk_cell BK214.out 4).trans rfl
             have hfz30_0 := blk_frozen BK214.out 0
             have hfz30_1 := blk_frozen BK214.out 1
             have hfz30_2 := blk_frozen BK214.out 2
             have hfz30_3 := blk_frozen BK214.out 3
             have hfz30_4 := blk_frozen BK214.out 4
             go_wp2
             repeat (go_quiet (fail); try go_wp2)
             go_meet
             case rel => exact ⟨_, (false), (by first | rfl | (simp; done) | (simp [*]; done)), H', ⟨by have := HK1.out; first | omega | exact Nat.le_refl _⟩, ⟨by (repeat first | (with_reducible first | refine kn ?_ _ | refine kd ?_ | refine ka ?_ _ | apply bp) | apply blk_far (hp := NB211_214.out)); exact BK211.out; all_goals rfl⟩, ⟨by (with_reducible repeat first | refine kn ?_ _ | refine kd ?_ | refine ka ?_ _ | apply bp); exact BK214.out; all_goals rfl⟩, ⟨by repeat (first | (with_reducible first | exact HB.out | apply zb | apply zn | apply zd | refine zs ?_ GE211.out | refine zs ?_ GE214.out) | exact HB.out)⟩⟩
            ·rw [if_neg c28] at H
             have c28b0 : (((rd_T43 l0_0 x3_1).f0) == 5) = false := beq_eq_false_iff_ne.mpr c28
             have c28b1 : (((rd_T43 l0_0 x3_1).f0) != 5) = true := bne_iff_ne.mpr c28
             by_cases c31 : ((rd_T43 l0_0 x3_1).f1) > 0
             ·rw [if_pos c31] at H
              have c31b0 : decide (0 < ((rd_T43 l0_0 x3_1).f1)) = true := decide_eq_true c31
              clear c31
              have H' := Aside0.mk H
              clear H
              have hnb32 := NB214_211.out
              have hnc32 := NB211_214.out
              have hcz33_0 : w7.cell? ⟨gb214, 0, none⟩ = some (.int .i64 0) := (blk_cell BK214.out 0).trans rfl
              have hcz33_1 : w7.cell? ⟨gb214, 1, none⟩ = some (.int .i64 0) := (blk_cell BK214.out 1).trans rfl
              have hcz33_2 : w7.cell? ⟨gb214, 2, none⟩ = some (.int .i64 0) := (blk_cell BK214.out 2).trans rfl
              have hcz33_3 : w7.cell? ⟨gb214, 3, none⟩ = some (.slice none 0 0) := (blk_cell BK214.out 3).trans rfl
              have hcz33_4 : w7.cell? ⟨gb214, 4, none⟩ = some (.int .i64 0) := (blk_cell BK214.out 4).trans rfl
              have hfz33_0 := blk_frozen BK214.out 0
              have hfz33_1 := blk_frozen BK214.out 1
              have hfz33_2 := blk_frozen BK214.out 2
              have hfz33_3 := blk_frozen BK214.out 3
              have hfz33_4 := blk_frozen BK214.out 4
              go_wp2
              repeat (go_quiet (fail); try go_wp2)
              go_meet
              case rel => exact ⟨_, (true), (by first | rfl | (simp; done) | (simp [*]; done)), H', ⟨by have := HK1.out; first | omega | exact Nat.le_refl _⟩, ⟨by (repeat first | (with_reducible first | refine kn ?_ _ | refine kd ?_ | refine ka ?_ _ | apply bp) | apply blk_far (hp := NB211_214.out)); exact BK211.out; all_goals rfl⟩, ⟨by (with_reducible repeat first | refine kn ?_ _ | refine kd ?_ | refine ka ?_ _ | apply bp); exact BK214.out; all_goals rfl⟩, ⟨by repeat (first | (with_reducible first | exact HB.out | apply zb | apply zn | apply zd | refine zs ?_ GE211.out | refine zs ?_ GE214.out) | exact HB.out)⟩⟩
             ·rw [if_neg c31] at H
              have c31b0 : decide (0 < ((rd_T43 l0_0 x3_1).f1)) = false := decide_eq_false c31
              clear c31
              have H' := Aside0.mk H
              clear H
              have hnb34 := NB214_211.out
              have hnc34 := NB211_214.out
              have hcz35_0 : w7.cell? ⟨gb214, 0, none⟩ = some (.int .i64 0) := (blk_cell BK214.out 0).trans rfl
              have hcz35_1 : w7.cell? ⟨gb214, 1, none⟩ = some (.int .i64 0) := (blk_cell BK214.out 1).trans rfl
              have hcz35_2 : w7.cell? ⟨gb214, 2, none⟩ = some (.int .i64 0) := (blk_cell BK214.out 2).trans rfl
              have hcz35_3 : w7.cell? ⟨gb214, 3, none⟩ = some (.slice none 0 0) := (blk_cell BK214.out 3).trans rfl
              have hcz35_4 : w7.cell? ⟨gb214, 4, none⟩ = some (.int .i64 0) := (blk_cell BK214.out 4).trans rfl
              have hfz35_0 := blk_frozen BK214.out 0
              have hfz35_1 := blk_frozen BK214.out 1
              have hfz35_2 := blk_frozen BK214.out 2
              have hfz35_3 := blk_frozen BK214.out 3
              have hfz35_4 := blk_frozen BK214.out 4
              go_wp2
              repeat (go_quiet (fail); try go_wp2)
              go_meet
              case rel => exact ⟨_, (decide (((rd_T43 l0_0 x3_1).f4) > 0)), (by first | rfl | (simp; done) | (simp [*]; done)), H', ⟨by have := HK1.out; first | omega | exact Nat.le_refl _⟩, ⟨by (repeat first | (with_reducible first | refine kn ?_ _ | refine kd ?_ | refine ka ?_ _ | apply bp) | apply blk_far (hp := NB211_214.out)); exact BK211.out; all_goals rfl⟩, ⟨by (with_reducible repeat first | refine kn ?_ _ | refine kd ?_ | refine ka ?_ _ | apply bp); exact BK214.out; all_goals rfl⟩, ⟨by repeat (first | (with_reducible first | exact HB.out | apply zb | apply zn | apply zd | refine zs ?_ GE211.out | refine zs ?_ GE214.out) | exact HB.out)⟩⟩
     case rest =>
      clear HC5
      try clear c1
      try clear c2
      try clear p2
      try clear q2
      try clear hx2
      try clear c3
      try clear c3b0
      try clear c4
      try clear c4b0
      try clear c8
      try clear c10
      try clear c10b0
      try clear c11
      try clear c13
      try clear c13b0
      try clear c14
      try clear c16
      try clear c16b0
      try clear c17
      try clear c19
      try clear c19b0
      try clear c20
      try clear c21
      try clear p21
      try clear q21
      try clear hx21
      try clear c22
      try clear c22b0
      try clear c23
      try clear c25
      try clear c25b0
      try clear c26
      try clear c28
      try clear c28b0
      try clear c28b1
      try clear c29
      try clear c31
      try clear c31b0
      try clear c32
      try clear c34
      try clear hcz12_0
      try clear hcz12_1
      try clear hcz12_2
      try clear hcz12_3
      try clear hcz12_4
      try clear hcz15_0
      try clear hcz15_1
      try clear hcz15_2
      try clear hcz15_3
      try clear hcz15_4
      try clear hcz18_0
      try clear hcz18_1
      try clear hcz18_2
      try clear hcz18_3
      try clear hcz18_4
      try clear hcz21_0
      try clear hcz21_1
      try clear hcz21_2
      try clear hcz21_3
      try clear hcz21_4
      try clear hcz24_0
      try clear hcz24_1
      try clear hcz24_2
      try clear hcz24_3
      try clear hcz24_4
      try clear hcz27_0
      try clear hcz27_1
      try clear hcz27_2
      try clear hcz27_3
      try clear hcz27_4
      try clear hcz30_0
      try clear hcz30_1
      try clear hcz30_2
      try clear hcz30_3
      try clear hcz30_4
      try clear hcz33_0
      try clear hcz33_1
      try clear hcz33_2
      try clear hcz33_3
      try clear hcz33_4
      try clear hcz35_0
      try clear hcz35_1
      try clear hcz35_2
      try clear hcz35_3
      try clear hcz35_4
      try clear hcz6_0
      try clear hcz6_1
      try clear hcz9_0
      try clear hcz9_1
      try clear hcz9_2
      try clear hcz9_3
      try clear hcz9_4
      try clear hfz12_0
      try clear hfz12_1
      try clear hfz12_2
      try clear hfz12_3
      try clear hfz12_4
      try clear hfz15_0
      try clear hfz15_1
      try clear hfz15_2
      try clear hfz15_3
      try clear hfz15_4
      try clear hfz18_0
      try clear hfz18_1
      try clear hfz18_2
      try clear hfz18_3
      try clear hfz18_4
      try clear hfz21_0
      try clear hfz21_1
      try clear hfz21_2
      try clear hfz21_3
      try clear hfz21_4
      try clear hfz24_0
      try clear hfz24_1
      try clear hfz24_2
      try clear hfz24_3
      try clear hfz24_4
      try clear hfz27_0
      try clear hfz27_1
      try clear hfz27_2
      try clear hfz27_3
      try clear hfz27_4
      try clear hfz30_0
      try clear hfz30_1
      try clear hfz30_2
      try clear hfz30_3
      try clear hfz30_4
      try clear hfz33_0
      try clear hfz33_1
      try clear hfz33_2
      try clear hfz33_3
      try clear hfz33_4
      try clear hfz35_0
      try clear hfz35_1
      try clear hfz35_2
      try clear hfz35_3
      try clear hfz35_4
      try clear hfz6_0
      try clear hfz6_1
      try clear hfz9_0
      try clear hfz9_1
      try clear hfz9_2
      try clear hfz9_3
      try clear hfz9_4
      try clear hx213_0
      try clear hx213_1
      try clear hx213_2
      try clear hx213_3
      try clear hx213_4
      try clear p2
      try clear p213
      try clear q213
      obtain ⟨kq, x60_4, rfl, HA, HJ4, BK211, BK214, HB⟩ := hcut
      cases kq with
      | zero => exact absurd HA.out (by simp [heirloomref11_Right.j1])
      | succ kj4 =>
       have H := HA.out
       clear HA
       simp only [heirloomref11_Right.j1] at H
       by_cases c36 : x60_4 = true
       ·subst c36
        have H1 : (some false) = some r := by rw [if_pos rfl] at H; exact H
        clear H
        have H := H1
        clear H1
        obtain rfl := Option.some.inj H
        go_wp2
        repeat (go_quiet (fail); try go_wp2)
        go_ret
        exact ⟨by first | rfl | (simp [errW_none, errW_some] <;> rfl) | (simp [*, errW_none, errW_some] <;> rfl), by repeat (first | (with_reducible first | exact HB.out | apply zb | apply zn | apply zd | refine zs ?_ GE211.out | refine zs ?_ GE214.out) | exact HB.out)⟩
       ·replace c36 := Bool.eq_false_iff.mpr c36
        subst c36
        have H1 : (if ((rd_T43 l0_0 x3_1).f2) > 0 then (if ((rd_T43 l0_0 x3_1).f2) ≥ (((rd_T43 l0_0 x3_1).f3).length : Int) then (heirloomref11_Right.j2 kj4 x3_1 true l0_0 l0_1 ((rd_T43 l0_0 x3_1).f0) ((rd_T43 l0_0 x3_1).f1) ((rd_T43 l0_0 x3_1).f2) ((rd_T43 l0_0 x3_1).f3) ((rd_T43 l0_0 x3_1).f4)) else ((heirloomref11_all.f kj4 l0_0 l0_1 ((rd_T43 l0_0 x3_1).f3)).bind fun t215 => (heirloomref11_Right.j2 kj4 x3_1 (!t215) l0_0 l0_1 ((rd_T43 l0_0 x3_1).f0) ((rd_T43 l0_0 x3_1).f1) ((rd_T43 l0_0 x3_1).f2) ((rd_T43 l0_0 x3_1).f3) ((rd_T43 l0_0 x3_1).f4)))) else ((heirloomref11_all.f kj4 l0_0 l0_1 ((rd_T43 l0_0 x3_1).f3)).bind fun t216 => (heirloomref11_Right.j2 kj4 x3_1 (!t216) l0_0 l0_1 ((rd_T43 l0_0 x3_1).f0) ((rd_T43 l0_0 x3_1).f1) ((rd_T43 l0_0 x3_1).f2) ((rd_T43 l0_0 x3_1).f3) ((rd_T43 l0_0 x3_1).f4)))) = some r := by rw [if_neg (show ¬ (false = true) by decide)] at H; exact H
        clear H
        have H := H1
        clear H1
        have HC37 := Aside0.mk H
        clear H
        go_upto_region 7 with (fail)
        repeat (go_quiet (fail); go_upto_region 7 with (fail))
        go_cut [78] (fun v78 wc => ∃ (kq : Nat) (x78_36 : Bool), v78 = .bool x78_36 ∧ Aside0 (heirloomref11_Right.j2 kq x3_1 x78_36 l0_0 l0_1 ((rd_T43 l0_0 x3_1).f0) ((rd_T43 l0_0 x3_1).f1) ((rd_T43 l0_0 x3_1).f2) ((rd_T43 l0_0 x3_1).f3) ((rd_T43 l0_0 x3_1).f4) = some r) ∧ Aside0 (kq ≤ kj4) ∧ Aside0 (wc.heap[gb211]? = some (.cells #[(.slice (some ad213) l0_0.length c0_0), (.slice A0_1 l0_1.length c0_1)] 25 (0, 0))) ∧ Aside0 (wc.heap[gb214]? = some (.cells #[.int .i64 ((rd_T43 l0_0 x3_1).f0), .int .i64 ((rd_T43 l0_0 x3_1).f1), .int .i64 ((rd_T43 l0_0 x3_1).f2), (.slice A213_3 ((rd_T43 l0_0 x3_1).f3).length c213_3), .int .i64 ((rd_T43 l0_0 x3_1).f4)] 43 (0, 0))) ∧ Aside0 (Below w.heap.size w wc))
        case first =>
         have H := HC37.out
         clear HC37
         by_cases c38 : ((rd_T43 l0_0 x3_1).f2) > 0
         ·rw [if_pos c38] at H
          have c38b0 : decide (0 < ((rd_T43 l0_0 x3_1).f2)) = true := decide_eq_true c38
          clear c38
          (first | rw [c38b0] | (simp only [i64_w, i32_w]; rw [c38b0]) | skip)
          by_cases c39 : ((rd_T43 l0_0 x3_1).f2) ≥ (((rd_T43 l0_0 x3_1).f3).length : Int)
          ·rw [if_pos c39] at H
           have c39b0 : decide ((((rd_T43 l0_0 x3_1).f3).length : Int) ≤ ((rd_T43 l0_0 x3_1).f2)) = true := decide_eq_true c39
           clear c39
           have H' := Aside0.mk H
           clear H
           have hnb40 := NB214_211.out
           have hnc40 := NB211_214.out
           have hcz41_0 : wc.cell? ⟨gb214, 0, none⟩ = some (.int .i64 ((rd_T43 l0_0 x3_1).f0)) := (blk_cell BK214.out 0).trans rfl
           have hcz41_1 : wc.cell? ⟨gb214, 1, none⟩ = some (.int .i64 ((rd_T43 l0_0 x3_1).f1)) := (blk_cell BK214.out 1).trans rfl
           have hcz41_2 : wc.cell? ⟨gb214, 2, none⟩ = some (.int .i64 ((rd_T43 l0_0 x3_1).f2)) := (blk_cell BK214.out 2).trans rfl
           have hcz41_3 : wc.cell? ⟨gb214, 3, none⟩ = some (.slice A213_3 ((rd_T43 l0_0 x3_1).f3).length c213_3) := (blk_cell BK214.out 3).trans rfl
           have hcz41_4 : wc.cell? ⟨gb214, 4, none⟩ = some (.int .i64 ((rd_T43 l0_0 x3_1).f4)) := (blk_cell BK214.out 4).trans rfl
           have hfz41_0 := blk_frozen BK214.out 0
           have hfz41_1 := blk_frozen BK214.out 1
           have hfz41_2 := blk_frozen BK214.out 2
           have hfz41_3 := blk_frozen BK214.out 3
           have hfz41_4 := blk_frozen BK214.out 4
           go_wp2
           repeat (go_quiet (fail); try go_wp2)
           go_meet
           case rel => exact ⟨_, (true), (by first | rfl | (simp; done) | (simp [*]; done)), H', ⟨by have := HK1.out; have := HJ4.out; first | omega | exact Nat.le_refl _⟩, ⟨by (with_reducible repeat first | refine kn ?_ _ | refine kd ?_ | refine ka ?_ _); exact BK211.out⟩, ⟨by (with_reducible repeat first | refine kn ?_ _ | refine kd ?_ | refine ka ?_ _); exact BK214.out⟩, ⟨by repeat (first | (with_reducible first | exact HB.out | apply zb | apply zn | apply zd | refine zs ?_ GE211.out | refine zs ?_ GE214.out) | exact HB.out)⟩⟩
          ·rw [if_neg c39] at H
           have c39b0 : decide ((((rd_T43 l0_0 x3_1).f3).length : Int) ≤ ((rd_T43 l0_0 x3_1).f2)) = false := decide_eq_false c39
           clear c39
           replace H := Option.bind_eq_some_iff.mp H
           obtain ⟨t215, A420, H⟩ := H
           replace H : (heirloomref11_Right.j2 kj4 x3_1 (!t215) l0_0 l0_1 ((rd_T43 l0_0 x3_1).f0) ((rd_T43 l0_0 x3_1).f1) ((rd_T43 l0_0 x3_1).f2) ((rd_T43 l0_0 x3_1).f3) ((rd_T43 l0_0 x3_1).f4)) = some r := H
           have A42 := Aside0.mk A420
           clear A420
           have H' := Aside0.mk H
           clear H
           have hnb43 := NB214_211.out
           have hnc43 := NB211_214.out
           have hcz44_0 : wc.cell? ⟨gb214, 0, none⟩ = some (.int .i64 ((rd_T43 l0_0 x3_1).f0)) := (blk_cell BK214.out 0).trans rfl
           have hcz44_1 : wc.cell? ⟨gb214, 1, none⟩ = some (.int .i64 ((rd_T43 l0_0 x3_1).f1)) := (blk_cell BK214.out 1).trans rfl
           have hcz44_2 : wc.cell? ⟨gb214, 2, none⟩ = some (.int .i64 ((rd_T43 l0_0 x3_1).f2)) := (blk_cell BK214.out 2).trans rfl
           have hcz44_3 : wc.cell? ⟨gb214, 3, none⟩ = some (.slice A213_3 ((rd_T43 l0_0 x3_1).f3).length c213_3) := (blk_cell BK214.out 3).trans rfl
           have hcz44_4 : wc.cell? ⟨gb214, 4, none⟩ = some (.int .i64 ((rd_T43 l0_0 x3_1).f4)) := (blk_cell BK214.out 4).trans rfl
           have hfz44_0 := blk_frozen BK214.out 0
           have hfz44_1 := blk_frozen BK214.out 1
           have hfz44_2 := blk_frozen BK214.out 2
           have hfz44_3 := blk_frozen BK214.out 3
           have hfz44_4 := blk_frozen BK214.out 4
           have hcz45_0 : wc.cell? ⟨gb211, 0, none⟩ = some (.slice (some ad213) l0_0.length c0_0) := (blk_cell BK211.out 0).trans rfl
           have hcz45_1 : wc.cell? ⟨gb211, 1, none⟩ = some (.slice A0_1 l0_1.length c0_1) := (blk_cell BK211.out 1).trans rfl
           have hfz45_0 := blk_frozen BK211.out 0
           have hfz45_1 := blk_frozen BK211.out 1
           go_wp2_with (first | (go_at_call 34; (with_reducible refine (heirloomref11_all.calls kj4 _ _ l0_0 _ _ l0_1 _ _ ((rd_T43 l0_0 x3_1).f3) t215 _ ?side1 ?side2 ?side3 ?side4 ?side5 ?side6 A42.out).mono ?_); (case side1 => repeat (first | exact (Kd.C_below HR0_0.out HB.out) | (with_reducible refine Kd.C_alloc ?_ _) | (with_reducible refine Kd.C_drewN ?_ _) | (with_reducible refine Kd.C_drew ?_))); (case side2 => exact HC0_0.out); (case side3 => repeat (first | exact (Kd.C_below HR0_1.out HB.out) | (with_reducible refine Kd.C_alloc ?_ _) | (with_reducible refine Kd.C_drewN ?_ _) | (with_reducible refine Kd.C_drew ?_))); (case side4 => exact HC0_1.out); (case side5 => repeat (first | exact (Kd.C_below HR213_3.out HB.out) | (with_reducible refine Kd.C_alloc ?_ _) | (with_reducible refine Kd.C_drewN ?_ _) | (with_reducible refine Kd.C_drew ?_))); (case side6 => exact HC213_3.out); rintro e w46 ⟨rfl, hb⟩; have n0_ := Aside0.mk (blk_below (g := gb211) (o := .cells #[.slice (some ad213) l0_0.length c0_0, .slice A0_1 l0_1.length c0_1] 25 (0, 0)) (by (with_reducible repeat first | refine kn ?_ _ | refine kd ?_ | refine ka ?_ _); exact BK211.out) hb); have n1_ := Aside0.mk (blk_below (g := gb214) (o := .cells #[.int .i64 ((rd_T43 l0_0 x3_1).f0), .int .i64 ((rd_T43 l0_0 x3_1).f1), .int .i64 ((rd_T43 l0_0 x3_1).f2), .slice A213_3 ((rd_T43 l0_0 x3_1).f3).length c213_3, .int .i64 ((rd_T43 l0_0 x3_1).f4)] 43 (0, 0)) (by (with_reducible repeat first | refine kn ?_ _ | refine kd ?_ | refine ka ?_ _); exact BK214.out) hb); have n2_ := Aside0.mk (below_step (by repeat (first | (with_reducible first | exact HB.out | apply zb | apply zn | apply zd | refine zs ?_ GE211.out | refine zs ?_ GE214.out) | exact HB.out)) hb); clear BK211; clear BK214; clear HB; have BK211 := n0_; have BK214 := n1_; have HB := n2_; clear n0_ n1_ n2_; (try clear hb)))
           repeat (go_quiet (first | (go_at_call 34; (with_reducible refine (heirloomref11_all.calls kj4 _ _ l0_0 _ _ l0_1 _ _ ((rd_T43 l0_0 x3_1).f3) t215 _ ?side1 ?side2 ?side3 ?side4 ?side5 ?side6 A42.out).mono ?_); (case side1 => repeat (first | exact (Kd.C_below HR0_0.out HB.out) | (with_reducible refine Kd.C_alloc ?_ _) | (with_reducible refine Kd.C_drewN ?_ _) | (with_reducible refine Kd.C_drew ?_))); (case side2 => exact HC0_0.out); (case side3 => repeat (first | exact (Kd.C_below HR0_1.out HB.out) | (with_reducible refine Kd.C_alloc ?_ _) | (with_reducible refine Kd.C_drewN ?_ _) | (with_reducible refine Kd.C_drew ?_))); (case side4 => exact HC0_1.out); (case side5 => repeat (first | exact (Kd.C_below HR213_3.out HB.out) | (with_reducible refine Kd.C_alloc ?_ _) | (with_reducible refine Kd.C_drewN ?_ _) | (with_reducible refine Kd.C_drew ?_))); (case side6 => exact HC213_3.out); rintro e w46 ⟨rfl, hb⟩; have n0_ := Aside0.mk (blk_below (g := gb211) (o := .cells #[.slice (some ad213) l0_0.length c0_0, .slice A0_1 l0_1.length c0_1] 25 (0, 0)) (by (with_reducible repeat first | refine kn ?_ _ | refine kd ?_ | refine ka ?_ _); exact BK211.out) hb); have n1_ := Aside0.mk (blk_below (g := gb214) (o := .cells #[.int .i64 ((rd_T43 l0_0 x3_1).f0), .int .i64 ((rd_T43 l0_0 x3_1).f1), .int .i64 ((rd_T43 l0_0 x3_1).f2), .slice A213_3 ((rd_T43 l0_0 x3_1).f3).length c213_3, .int .i64 ((rd_T43 l0_0 x3_1).f4)] 43 (0, 0)) (by (with_reducible repeat first | refine kn ?_ _ | refine kd ?_ | refine ka ?_ _); exact BK214.out) hb); have n2_ := Aside0.mk (below_step (by repeat (first | (with_reducible first | exact HB.out | apply zb | apply zn | apply zd | refine zs ?_ GE211.out | refine zs ?_ GE214.out) | exact HB.out)) hb); clear BK211; clear BK214; clear HB; have BK211 := n0_; have BK214 := n1_; have HB := n2_; clear n0_ n1_ n2_; (try clear hb))); try go_wp2_with (first | (go_at_call 34; (with_reducible refine (heirloomref11_all.calls kj4 _ _ l0_0 _ _ l0_1 _ _ ((rd_T43 l0_0 x3_1).f3) t215 _ ?side1 ?side2 ?side3 ?side4 ?side5 ?side6 A42.out).mono ?_); (case side1 => repeat (first | exact (Kd.C_below HR0_0.out HB.out) | (with_reducible refine Kd.C_alloc ?_ _) | (with_reducible refine Kd.C_drewN ?_ _) | (with_reducible refine Kd.C_drew ?_))); (case side2 => exact HC0_0.out); (case side3 => repeat (first | exact (Kd.C_below HR0_1.out HB.out) | (with_reducible refine Kd.C_alloc ?_ _) | (with_reducible refine Kd.C_drewN ?_ _) | (with_reducible refine Kd.C_drew ?_))); (case side4 => exact HC0_1.out); (case side5 => repeat (first | exact (Kd.C_below HR213_3.out HB.out) | (with_reducible refine Kd.C_alloc ?_ _) | (with_reducible refine Kd.C_drewN ?_ _) | (with_reducible refine Kd.C_drew ?_))); (case side6 => exact HC213_3.out); rintro e w46 ⟨rfl, hb⟩; have n0_ := Aside0.mk (blk_below (g := gb211) (o := .cells #[.slice (some ad213) l0_0.length c0_0, .slice A0_1 l0_1.length c0_1] 25 (0, 0)) (by (with_reducible repeat first | refine kn ?_ _ | refine kd ?_ | refine ka ?_ _); exact BK211.out) hb); have n1_ := Aside0.mk (blk_below (g := gb214) (o := .cells #[.int .i64 ((rd_T43 l0_0 x3_1).f0), .int .i64 ((rd_T43 l0_0 x3_1).f1), .int .i64 ((rd_T43 l0_0 x3_1).f2), .slice A213_3 ((rd_T43 l0_0 x3_1).f3).length c213_3, .int .i64 ((rd_T43 l0_0 x3_1).f4)] 43 (0, 0)) (by (with_reducible repeat first | refine kn ?_ _ | refine kd ?_ | refine ka ?_ _); exact BK214.out) hb); have n2_ := Aside0.mk (below_step (by repeat (first | (with_reducible first | exact HB.out | apply zb | apply zn | apply zd | refine zs ?_ GE211.out | refine zs ?_ GE214.out) | exact HB.out)) hb); clear BK211; clear BK214; clear HB; have BK211 := n0_; have BK214 := n1_; have HB := n2_; clear n0_ n1_ n2_; (try clear hb))))
           go_meet
           case rel => exact ⟨_, (!t215), (by first | rfl | (simp; done) | (simp [*]; done)), H', ⟨by have := HK1.out; have := HJ4.out; first | omega | exact Nat.le_refl _⟩, ⟨by (with_reducible repeat first | refine kn ?_ _ | refine kd ?_ | refine ka ?_ _); exact BK211.out⟩, ⟨by (with_reducible repeat first | refine kn ?_ _ | refine kd ?_ | refine ka ?_ _); exact BK214.out⟩, ⟨by repeat (first | (with_reducible first | exact HB.out | apply zb | apply zn | apply zd | refine zs ?_ GE211.out | refine zs ?_ GE214.out) | exact HB.out)⟩⟩
         ·rw [if_neg c38] at H
          have c38b0 : decide (0 < ((rd_T43 l0_0 x3_1).f2)) = false := decide_eq_false c38
          clear c38
          (first | rw [c38b0] | (simp only [i64_w, i32_w]; rw [c38b0]) | skip)
          replace H := Option.bind_eq_some_iff.mp H
          obtain ⟨t216, A470, H⟩ := H
          replace H : (heirloomref11_Right.j2 kj4 x3_1 (!t216) l0_0 l0_1 ((rd_T43 l0_0 x3_1).f0) ((rd_T43 l0_0 x3_1).f1) ((rd_T43 l0_0 x3_1).f2) ((rd_T43 l0_0 x3_1).f3) ((rd_T43 l0_0 x3_1).f4)) = some r := H
          have A47 := Aside0.mk A470
          clear A470
          have H' := Aside0.mk H
          clear H
          have hnb48 := NB214_211.out
          have hnc48 := NB211_214.out
          have hcz49_0 : wc.cell? ⟨gb214, 0, none⟩ = some (.int .i64 ((rd_T43 l0_0 x3_1).f0)) := (blk_cell BK214.out 0).trans rfl
          have hcz49_1 : wc.cell? ⟨gb214, 1, none⟩ = some (.int .i64 ((rd_T43 l0_0 x3_1).f1)) := (blk_cell BK214.out 1).trans rfl
          have hcz49_2 : wc.cell? ⟨gb214, 2, none⟩ = some (.int .i64 ((rd_T43 l0_0 x3_1).f2)) := (blk_cell BK214.out 2).trans rfl
          have hcz49_3 : wc.cell? ⟨gb214, 3, none⟩ = some (.slice A213_3 ((rd_T43 l0_0 x3_1).f3).length c213_3) := (blk_cell BK214.out 3).trans rfl
          have hcz49_4 : wc.cell? ⟨gb214, 4, none⟩ = some (.int .i64 ((rd_T43 l0_0 x3_1).f4)) := (blk_cell BK214.out 4).trans rfl
          have hfz49_0 := blk_frozen BK214.out 0
          have hfz49_1 := blk_frozen BK214.out 1
          have hfz49_2 := blk_frozen BK214.out 2
          have hfz49_3 := blk_frozen BK214.out 3
          have hfz49_4 := blk_frozen BK214.out 4
          have hcz50_0 : wc.cell? ⟨gb211, 0, none⟩ = some (.slice (some ad213) l0_0.length c0_0) := (blk_cell BK211.out 0).trans rfl
          have hcz50_1 : wc.cell? ⟨gb211, 1, none⟩ = some (.slice A0_1 l0_1.length c0_1) := (blk_cell BK211.out 1).trans rfl
          have hfz50_0 := blk_frozen BK211.out 0
          have hfz50_1 := blk_frozen BK211.out 1
          go_wp2_with (first | (go_at_call 34; (with_reducible refine (heirloomref11_all.calls kj4 _ _ l0_0 _ _ l0_1 _ _ ((rd_T43 l0_0 x3_1).f3) t216 _ ?side1 ?side2 ?side3 ?side4 ?side5 ?side6 A47.out).mono ?_); (case side1 => repeat (first | exact (Kd.C_below HR0_0.out HB.out) | (with_reducible refine Kd.C_alloc ?_ _) | (with_reducible refine Kd.C_drewN ?_ _) | (with_reducible refine Kd.C_drew ?_))); (case side2 => exact HC0_0.out); (case side3 => repeat (first | exact (Kd.C_below HR0_1.out HB.out) | (with_reducible refine Kd.C_alloc ?_ _) | (with_reducible refine Kd.C_drewN ?_ _) | (with_reducible refine Kd.C_drew ?_))); (case side4 => exact HC0_1.out); (case side5 => repeat (first | exact (Kd.C_below HR213_3.out HB.out) | (with_reducible refine Kd.C_alloc ?_ _) | (with_reducible refine Kd.C_drewN ?_ _) | (with_reducible refine Kd.C_drew ?_))); (case side6 => exact HC213_3.out); rintro e w51 ⟨rfl, hb⟩; have n0_ := Aside0.mk (blk_below (g := gb211) (o := .cells #[.slice (some ad213) l0_0.length c0_0, .slice A0_1 l0_1.length c0_1] 25 (0, 0)) (by (with_reducible repeat first | refine kn ?_ _ | refine kd ?_ | refine ka ?_ _); exact BK211.out) hb); have n1_ := Aside0.mk (blk_below (g := gb214) (o := .cells #[.int .i64 ((rd_T43 l0_0 x3_1).f0), .int .i64 ((rd_T43 l0_0 x3_1).f1), .int .i64 ((rd_T43 l0_0 x3_1).f2), .slice A213_3 ((rd_T43 l0_0 x3_1).f3).length c213_3, .int .i64 ((rd_T43 l0_0 x3_1).f4)] 43 (0, 0)) (by (with_reducible repeat first | refine kn ?_ _ | refine kd ?_ | refine ka ?_ _); exact BK214.out) hb); have n2_ := Aside0.mk (below_step (by repeat (first | (with_reducible first | exact HB.out | apply zb | apply zn | apply zd | refine zs ?_ GE211.out | refine zs ?_ GE214.out) | exact HB.out)) hb); clear BK211; clear BK214; clear HB; have BK211 := n0_; have BK214 := n1_; have HB := n2_; clear n0_ n1_ n2_; (try clear hb)))
          repeat (go_quiet (first | (go_at_call 34; (with_reducible refine (heirloomref11_all.calls kj4 _ _ l0_0 _ _ l0_1 _ _ ((rd_T43 l0_0 x3_1).f3) t216 _ ?side1 ?side2 ?side3 ?side4 ?side5 ?side6 A47.out).mono ?_); (case side1 => repeat (first | exact (Kd.C_below HR0_0.out HB.out) | (with_reducible refine Kd.C_alloc ?_ _) | (with_reducible refine Kd.C_drewN ?_ _) | (with_reducible refine Kd.C_drew ?_))); (case side2 => exact HC0_0.out); (case side3 => repeat (first | exact (Kd.C_below HR0_1.out HB.out) | (with_reducible refine Kd.C_alloc ?_ _) | (with_reducible refine Kd.C_drewN ?_ _) | (with_reducible refine Kd.C_drew ?_))); (case side4 => exact HC0_1.out); (case side5 => repeat (first | exact (Kd.C_below HR213_3.out HB.out) | (with_reducible refine Kd.C_alloc ?_ _) | (with_reducible refine Kd.C_drewN ?_ _) | (with_reducible refine Kd.C_drew ?_))); (case side6 => exact HC213_3.out); rintro e w51 ⟨rfl, hb⟩; have n0_ := Aside0.mk (blk_below (g := gb211) (o := .cells #[.slice (some ad213) l0_0.length c0_0, .slice A0_1 l0_1.length c0_1] 25 (0, 0)) (by (with_reducible repeat first | refine kn ?_ _ | refine kd ?_ | refine ka ?_ _); exact BK211.out) hb); have n1_ := Aside0.mk (blk_below (g := gb214) (o := .cells #[.int .i64 ((rd_T43 l0_0 x3_1).f0), .int .i64 ((rd_T43 l0_0 x3_1).f1), .int .i64 ((rd_T43 l0_0 x3_1).f2), .slice A213_3 ((rd_T43 l0_0 x3_1).f3).length c213_3, .int .i64 ((rd_T43 l0_0 x3_1).f4)] 43 (0, 0)) (by (with_reducible repeat first | refine kn ?_ _ | refine kd ?_ | refine ka ?_ _); exact BK214.out) hb); have n2_ := Aside0.mk (below_step (by repeat (first | (with_reducible first | exact HB.out | apply zb | apply zn | apply zd | refine zs ?_ GE211.out | refine zs ?_ GE214.out) | exact HB.out)) hb); clear BK211; clear BK214; clear HB; have BK211 := n0_; have BK214 := n1_; have HB := n2_; clear n0_ n1_ n2_; (try clear hb))); try go_wp2_with (first | (go_at_call 34; (with_reducible refine (heirloomref11_all.calls kj4 _ _ l0_0 _ _ l0_1 _ _ ((rd_T43 l0_0 x3_1).f3) t216 _ ?side1 ?side2 ?side3 ?side4 ?side5 ?side6 A47.out).mono ?_); (case side1 => repeat (first | exact (Kd.C_below HR0_0.out HB.out) | (with_reducible refine Kd.C_alloc ?_ _) | (with_reducible refine Kd.C_drewN ?_ _) | (with_reducible refine Kd.C_drew ?_))); (case side2 => exact HC0_0.out); (case side3 => repeat (first | exact (Kd.C_below HR0_1.out HB.out) | (with_reducible refine Kd.C_alloc ?_ _) | (with_reducible refine Kd.C_drewN ?_ _) | (with_reducible refine Kd.C_drew ?_))); (case side4 => exact HC0_1.out); (case side5 => repeat (first | exact (Kd.C_below HR213_3.out HB.out) | (with_reducible refine Kd.C_alloc ?_ _) | (with_reducible refine Kd.C_drewN ?_ _) | (with_reducible refine Kd.C_drew ?_))); (case side6 => exact HC213_3.out); rintro e w51 ⟨rfl, hb⟩; have n0_ := Aside0.mk (blk_below (g := gb211) (o := .cells #[.slice (some ad213) l0_0.length c0_0, .slice A0_1 l0_1.length c0_1] 25 (0, 0)) (by (with_reducible repeat first | refine kn ?_ _ | refine kd ?_ | refine ka ?_ _); exact BK211.out) hb); have n1_ := Aside0.mk (blk_below (g := gb214) (o := .cells #[.int .i64 ((rd_T43 l0_0 x3_1).f0), .int .i64 ((rd_T43 l0_0 x3_1).f1), .int .i64 ((rd_T43 l0_0 x3_1).f2), .slice A213_3 ((rd_T43 l0_0 x3_1).f3).length c213_3, .int .i64 ((rd_T43 l0_0 x3_1).f4)] 43 (0, 0)) (by (with_reducible repeat first | refine kn ?_ _ | refine kd ?_ | refine ka ?_ _); exact BK214.out) hb); have n2_ := Aside0.mk (below_step (by repeat (first | (with_reducible first | exact HB.out | apply zb | apply zn | apply zd | refine zs ?_ GE211.out | refine zs ?_ GE214.out) | exact HB.out)) hb); clear BK211; clear BK214; clear HB; have BK211 := n0_; have BK214 := n1_; have HB := n2_; clear n0_ n1_ n2_; (try clear hb))))
          go_meet
          case rel => exact ⟨_, (!t216), (by first | rfl | (simp; done) | (simp [*]; done)), H', ⟨by have := HK1.out; have := HJ4.out; first | omega | exact Nat.le_refl _⟩, ⟨by (with_reducible repeat first | refine kn ?_ _ | refine kd ?_ | refine ka ?_ _); exact BK211.out⟩, ⟨by (with_reducible repeat first | refine kn ?_ _ | refine kd ?_ | refine ka ?_ _); exact BK214.out⟩, ⟨by repeat (first | (with_reducible first | exact HB.out | apply zb | apply zn | apply zd | refine zs ?_ GE211.out | refine zs ?_ GE214.out) | exact HB.out)⟩⟩
        case rest =>
         clear HC37
         try clear c1
         try clear c2
         try clear p2
         try clear q2
         try clear hx2
         try clear c3
         try clear c3b0
         try clear c4
         try clear c4b0
         try clear c8
         try clear c10
         try clear c10b0
         try clear c11
         try clear c13
         try clear c13b0
         try clear c14
         try clear c16
         try clear c16b0
         try clear c17
         try clear c19
         try clear c19b0
         try clear c20
         try clear c21
         try clear p21
         try clear q21
         try clear hx21
         try clear c22
         try clear c22b0
         try clear c23
         try clear c25
         try clear c25b0
         try clear c26
         try clear c28
         try clear c28b0
         try clear c28b1
         try clear c29
         try clear c31
         try clear c31b0
         try clear c32
         try clear c34
         try clear c36
         try clear c38
         try clear c38b0
         try clear c39
         try clear c39b0
         try clear c40
         try clear c43
         try clear c48
         try clear hcz12_0
         try clear hcz12_1
         try clear hcz12_2
         try clear hcz12_3
         try clear hcz12_4
         try clear hcz15_0
         try clear hcz15_1
         try clear hcz15_2
         try clear hcz15_3
         try clear hcz15_4
         try clear hcz18_0
         try clear hcz18_1
         try clear hcz18_2
         try clear hcz18_3
         try clear hcz18_4
         try clear hcz21_0
         try clear hcz21_1
         try clear hcz21_2
         try clear hcz21_3
         try clear hcz21_4
         try clear hcz24_0
         try clear hcz24_1
         try clear hcz24_2
         try clear hcz24_3
         try clear hcz24_4
         try clear hcz27_0
         try clear hcz27_1
         try clear hcz27_2
         try clear hcz27_3
         try clear hcz27_4
         try clear hcz30_0
         try clear hcz30_1
         try clear hcz30_2
         try clear hcz30_3
         try clear hcz30_4
         try clear hcz33_0
         try clear hcz33_1
         try clear hcz33_2
         try clear hcz33_3
         try clear hcz33_4
         try clear hcz35_0
         try clear hcz35_1
         try clear hcz35_2
         try clear hcz35_3
         try clear hcz35_4
         try clear hcz41_0
         try clear hcz41_1
         try clear hcz41_2
         try clear hcz41_3
         try clear hcz41_4
         try clear hcz44_0
         try clear hcz44_1
         try clear hcz44_2
         try clear hcz44_3
         try clear hcz44_4
         try clear hcz45_0
         try clear hcz45_1
         try clear hcz49_0
         try clear hcz49_1
         try clear hcz49_2
         try clear hcz49_3
         try clear hcz49_4
         try clear hcz50_0
         try clear hcz50_1
         try clear hcz6_0
         try clear hcz6_1
         try clear hcz9_0
         try clear hcz9_1
         try clear hcz9_2
         try clear hcz9_3
         try clear hcz9_4
         try clear hfz12_0
         try clear hfz12_1
         try clear hfz12_2
         try clear hfz12_3
         try clear hfz12_4
         try clear hfz15_0
         try clear hfz15_1
         try clear hfz15_2
         try clear hfz15_3
         try clear hfz15_4
         try clear hfz18_0
         try clear hfz18_1
         try clear hfz18_2
         try clear hfz18_3
         try clear hfz18_4
         try clear hfz21_0
         try clear hfz21_1
         try clear hfz21_2
         try clear hfz21_3
         try clear hfz21_4
         try clear hfz24_0
         try clear hfz24_1
         try clear hfz24_2
         try clear hfz24_3
         try clear hfz24_4
         try clear hfz27_0
         try clear hfz27_1
         try clear hfz27_2
         try clear hfz27_3
         try clear hfz27_4
         try clear hfz30_0
         try clear hfz30_1
         try clear hfz30_2
         try clear hfz30_3
         try clear hfz30_4
         try clear hfz33_0
         try clear hfz33_1
         try clear hfz33_2
         try clear hfz33_3
         try clear hfz33_4
         try clear hfz35_0
         try clear hfz35_1
         try clear hfz35_2
         try clear hfz35_3
         try clear hfz35_4
         try clear hfz41_0
         try clear hfz41_1
         try clear hfz41_2
         try clear hfz41_3
         try clear hfz41_4
         try clear hfz44_0
         try clear hfz44_1
         try clear hfz44_2
         try clear hfz44_3
         try clear hfz44_4
         try clear hfz45_0
         try clear hfz45_1
         try clear hfz49_0
         try clear hfz49_1
         try clear hfz49_2
         try clear hfz49_3
         try clear hfz49_4
         try clear hfz50_0
         try clear hfz50_1
         try clear hfz6_0
         try clear hfz6_1
         try clear hfz9_0
         try clear hfz9_1
         try clear hfz9_2
         try clear hfz9_3
         try clear hfz9_4
         try clear hx213_0
         try clear hx213_1
         try clear hx213_2
         try clear hx213_3
         try clear hx213_4
         try clear p2
         try clear p21
         try clear p213
         try clear q2
         try clear q21
         try clear q213
         obtain ⟨kq, x78_36, rfl, HA, HJ36, BK211, BK214, HB⟩ := hcut
         cases kq with
         | zero => exact absurd HA.out (by simp [heirloomref11_Right.j2])
         | succ kj36 =>
          have H := HA.out
          clear HA
          simp only [heirloomref11_Right.j2] at H
          by_cases c52 : x78_36 = true
          ·subst c52
           have H1 : (some false) = some r := by rw [if_pos rfl] at H; exact H
           clear H
           have H := H1
           clear H1
           obtain rfl := Option.some.inj H
           go_wp2
           repeat (go_quiet (fail); try go_wp2)
           go_ret
           exact ⟨by first | rfl | (simp [errW_none, errW_some] <;> rfl) | (simp [*, errW_none, errW_some] <;> rfl), by repeat (first | (with_reducible first | exact HB.out | apply zb | apply zn | apply zd | refine zs ?_ GE211.out | refine zs ?_ GE214.out) | exact HB.out)⟩
          ·replace c52 := Bool.eq_false_iff.mpr c52
           subst c52
           have H1 : (heirloomref11_Right.l1 kj36 x3_1 0 l0_0 l0_1 ((rd_T43 l0_0 x3_1).f0) ((rd_T43 l0_0 x3_1).f1) ((rd_T43 l0_0 x3_1).f2) ((rd_T43 l0_0 x3_1).f3) ((rd_T43 l0_0 x3_1).f4)) = some r := by rw [if_neg (show ¬ (false = true) by decide)] at H; exact H
           clear H
           have H := H1
           clear H1
           have H' := Aside0.mk H
           clear H
           go_wp2
           repeat (go_quiet (fail); try go_wp2)
           go_loopg [5] kj36 (fun kq v5 w' => ∃ (x5_4 : Int), v5 = .int .i64 x5_4 ∧ Aside0 (heirloomref11_Right.l1 kq x3_1 x5_4 l0_0 l0_1 ((rd_T43 l0_0 x3_1).f0) ((rd_T43 l0_0 x3_1).f1) ((rd_T43 l0_0 x3_1).f2) ((rd_T43 l0_0 x3_1).f3) ((rd_T43 l0_0 x3_1).f4) = some r) ∧ Aside0 (kq ≤ kj36) ∧ Aside0 (w'.heap[gb211]? = some (.cells #[(.slice (some ad213) l0_0.length c0_0), (.slice A0_1 l0_1.length c0_1)] 25 (0, 0))) ∧ Aside0 (w'.heap[gb214]? = some (.cells #[.int .i64 ((rd_T43 l0_0 x3_1).f0), .int .i64 ((rd_T43 l0_0 x3_1).f1), .int .i64 ((rd_T43 l0_0 x3_1).f2), (.slice A213_3 ((rd_T43 l0_0 x3_1).f3).length c213_3), .int .i64 ((rd_T43 l0_0 x3_1).f4)] 43 (0, 0))) ∧ Aside0 (Below w.heap.size w w'))
           case atStart => exact ⟨(0), (by first | rfl | (simp; done) | (simp [*]; done)), H', ⟨Nat.le_refl _⟩, ⟨by (with_reducible repeat first | refine kn ?_ _ | refine kd ?_ | refine ka ?_ _); exact BK211.out⟩, ⟨by (with_reducible repeat first | refine kn ?_ _ | refine kd ?_ | refine ka ?_ _); exact BK214.out⟩, ⟨by repeat (first | (with_reducible first | exact HB.out | apply zb | apply zn | apply zd | refine zs ?_ GE211.out | refine zs ?_ GE214.out) | exact HB.out)⟩⟩
           case round =>
            clear H'
            try clear c1
            try clear c2
            try clear p2
            try clear q2
            try clear hx2
            try clear c3
            try clear c3b0
            try clear c4
            try clear c4b0
            try clear c5
            try clear c8
            try clear c10
            try clear c10b0
            try clear c11
            try clear c13
            try clear c13b0
            try clear c14
            try clear c16
            try clear c16b0
            try clear c17
            try clear c19
            try clear c19b0
            try clear c20
            try clear c21
            try clear p21
            try clear q21
            try clear hx21
            try clear c22
            try clear c22b0
            try clear c23
            try clear c25
            try clear c25b0
            try clear c26
            try clear c28
            try clear c28b0
            try clear c28b1
            try clear c29
            try clear c31
            try clear c31b0
            try clear c32
            try clear c34
            try clear c36
            try clear c38
            try clear c38b0
            try clear c39
            try clear c39b0
            try clear c40
            try clear c43
            try clear c48
            try clear c52
            try clear hcz12_0
            try clear hcz12_1
            try clear hcz12_2
            try clear hcz12_3
            try clear hcz12_4
            try clear hcz15_0
            try clear hcz15_1
            try clear hcz15_2
            try clear hcz15_3
            try clear hcz15_4
            try clear hcz18_0
            try clear hcz18_1
            try clear hcz18_2
            try clear hcz18_3
            try clear hcz18_4
            try clear hcz21_0
            try clear hcz21_1
            try clear hcz21_2
            try clear hcz21_3
            try clear hcz21_4
            try clear hcz24_0
            try clear hcz24_1
            try clear hcz24_2
            try clear hcz24_3
            try clear hcz24_4
            try clear hcz27_0
            try clear hcz27_1
            try clear hcz27_2
            try clear hcz27_3
            try clear hcz27_4
            try clear hcz30_0
            try clear hcz30_1
            try clear hcz30_2
            try clear hcz30_3
            try clear hcz30_4
            try clear hcz33_0
            try clear hcz33_1
            try clear hcz33_2
            try clear hcz33_3
            try clear hcz33_4
            try clear hcz35_0
            try clear hcz35_1
            try clear hcz35_2
            try clear hcz35_3
            try clear hcz35_4
            try clear hcz41_0
            try clear hcz41_1
            try clear hcz41_2
            try clear hcz41_3
            try clear hcz41_4
            try clear hcz44_0
            try clear hcz44_1
            try clear hcz44_2
            try clear hcz44_3
            try clear hcz44_4
            try clear hcz45_0
            try clear hcz45_1
            try clear hcz49_0
            try clear hcz49_1
            try clear hcz49_2
            try clear hcz49_3
            try clear hcz49_4
            try clear hcz50_0
            try clear hcz50_1
            try clear hcz6_0
            try clear hcz6_1
            try clear hcz9_0
            try clear hcz9_1
            try clear hcz9_2
            try clear hcz9_3
            try clear hcz9_4
            try clear hfz12_0
            try clear hfz12_1
            try clear hfz12_2
            try clear hfz12_3
            try clear hfz12_4
            try clear hfz15_0
            try clear hfz15_1
            try clear hfz15_2
            try clear hfz15_3
            try clear hfz15_4
            try clear hfz18_0
            try clear hfz18_1
            try clear hfz18_2
            try clear hfz18_3
            try clear hfz18_4
            try clear hfz21_0
            try clear hfz21_1
            try clear hfz21_2
            try clear hfz21_3
            try clear hfz21_4
            try clear hfz24_0
            try clear hfz24_1
            try clear hfz24_2
            try clear hfz24_3
            try clear hfz24_4
            try clear hfz27_0
            try clear hfz27_1
            try clear hfz27_2
            try clear hfz27_3
            try clear hfz27_4
            try clear hfz30_0
            try clear hfz30_1
            try clear hfz30_2
            try clear hfz30_3
            try clear hfz30_4
            try clear hfz33_0
            try clear hfz33_1
            try clear hfz33_2
            try clear hfz33_3
            try clear hfz33_4
            try clear hfz35_0
            try clear hfz35_1
            try clear hfz35_2
            try clear hfz35_3
            try clear hfz35_4
            try clear hfz41_0
            try clear hfz41_1
            try clear hfz41_2
            try clear hfz41_3
            try clear hfz41_4
            try clear hfz44_0
            try clear hfz44_1
            try clear hfz44_2
            try clear hfz44_3
            try clear hfz44_4
            try clear hfz45_0
            try clear hfz45_1
            try clear hfz49_0
            try clear hfz49_1
            try clear hfz49_2
            try clear hfz49_3
            try clear hfz49_4
            try clear hfz50_0
            try clear hfz50_1
            try clear hfz6_0
            try clear hfz6_1
            try clear hfz9_0
            try clear hfz9_1
            try clear hfz9_2
            try clear hfz9_3
            try clear hfz9_4
            try clear hx213_0
            try clear hx213_1
            try clear hx213_2
            try clear hx213_3
            try clear hx213_4
            try clear p2
            try clear p21
            try clear p213
            try clear q2
            try clear q21
            try clear q213
            obtain ⟨x5_4, rfl, HA, HK4, BK211, BK214, HB⟩ := hrel
            cases gk with
            | zero => exact absurd HA.out (by simp [heirloomref11_Right.l1])
            | succ k4 =>
             have H := HA.out
             clear HA
             simp only [heirloomref11_Right.l1] at H
             by_cases c53 : x5_4 < x3_1
             ·rw [if_pos c53] at H
              have c53b0 : decide (x5_4 < x3_1) = true := decide_eq_true c53
              clear c53
              by_cases c54 : ((rd_T43 l0_0 x3_1).f4) > 0
              ·rw [if_pos c54] at H
               have c54b0 : decide (0 < ((rd_T43 l0_0 x3_1).f4)) = true := decide_eq_true c54
               clear c54
               by_cases c55 : 0 ≤ x5_4
               ·rw [if_pos c55] at H
                have c55b0 : decide (0 ≤ x5_4) = true := decide_eq_true c55
                clear c55
                by_cases c56 : x5_4 < (l0_0.length : Int)
                ·rw [if_pos c56] at H
                 have c56b0 : decide (x5_4 < (l0_0.length : Int)) = true := decide_eq_true c56
                 clear c56
                 by_cases c57 : ((rd_T43 l0_0 x5_4).f4) = ((rd_T43 l0_0 x3_1).f4)
                 ·rw [if_pos c57] at H
                  have c57b0 : (((rd_T43 l0_0 x5_4).f4) == ((rd_T43 l0_0 x3_1).f4)) = true := beq_iff_eq.mpr c57
                  have c57b1 : (((rd_T43 l0_0 x5_4).f4) != ((rd_T43 l0_0 x3_1).f4)) = false := bne_eq_false_iff_eq.mpr c57
                  clear c57
                  obtain rfl := Option.some.inj H
                  have hnb58 := NB214_211.out
                  have hnc58 := NB211_214.out
                  have hcz59_0 : wr.cell? ⟨gb214, 0, none⟩ = some (.int .i64 ((rd_T43 l0_0 x3_1).f0)) := (blk_cell BK214.out 0).trans rfl
                  have hcz59_1 : wr.cell? ⟨gb214, 1, none⟩ = some (.int .i64 ((rd_T43 l0_0 x3_1).f1)) := (blk_cell BK214.out 1).trans rfl
                  have hcz59_2 : wr.cell? ⟨gb214, 2, none⟩ = some (.int .i64 ((rd_T43 l0_0 x3_1).f2)) := (blk_cell BK214.out 2).trans rfl
                  have hcz59_3 : wr.cell? ⟨gb214, 3, none⟩ = some (.slice A213_3 ((rd_T43 l0_0 x3_1).f3).length c213_3) := (blk_cell BK214.out 3).trans rfl
                  have hcz59_4 : wr.cell? ⟨gb214, 4, none⟩ = some (.int .i64 ((rd_T43 l0_0 x3_1).f4)) := (blk_cell BK214.out 4).trans rfl
                  have hfz59_0 := blk_frozen BK214.out 0
                  have hfz59_1 := blk_frozen BK214.out 1
                  have hfz59_2 := blk_frozen BK214.out 2
                  have hfz59_3 := blk_frozen BK214.out 3
                  have hfz59_4 := blk_frozen BK214.out 4
                  have hcz60_0 : wr.cell? ⟨gb211, 0, none⟩ = some (.slice (some ad213) l0_0.length c0_0) := (blk_cell BK211.out 0).trans rfl
                  have hcz60_1 : wr.cell? ⟨gb211, 1, none⟩ = some (.slice A0_1 l0_1.length c0_1) := (blk_cell BK211.out 1).trans rfl
                  have hfz60_0 := blk_frozen BK211.out 0
                  have hfz60_1 := blk_frozen BK211.out 1
                  have p217 : 0 ≤ (x5_4 : Int) := of_decide_eq_true (by first | (with_reducible assumption) | assumption)
                  have q217 : x5_4 < (l0_0.length : Int) := of_decide_eq_true (by first | (with_reducible assumption) | assumption)
                  obtain ⟨ad217, A217_3, c217_3, e217, hx217_0, hx217_1, hx217_2, hx217_3, hx217_4, hl217_3, hi217_3⟩ := at_T43 HR0_0.out x5_4 p217 q217
                  obtain rfl : ad213 = ad217 := (by injection e217)
                  replace hx217_0 := (HB.out.cell (World.block_lt_of_cell? w _ hx217_0)).trans hx217_0
                  replace hx217_1 := (HB.out.cell (World.block_lt_of_cell? w _ hx217_1)).trans hx217_1
                  replace hx217_2 := (HB.out.cell (World.block_lt_of_cell? w _ hx217_2)).trans hx217_2
                  replace hx217_3 := (HB.out.cell (World.block_lt_of_cell? w _ hx217_3)).trans hx217_3
                  replace hx217_4 := (HB.out.cell (World.block_lt_of_cell? w _ hx217_4)).trans hx217_4
                  have HR217_3 := Aside0.mk hi217_3
                  have HC217_3 := Aside0.mk hl217_3
                  clear hi217_3 hl217_3
                  replace p217 := eq_true p217
                  replace q217 := eq_true q217
                  go_wp2
                  repeat (go_quiet (fail); try go_wp2)
                  go_ret
                  exact ⟨by first | rfl | (simp [errW_none, errW_some] <;> rfl) | (simp [*, errW_none, errW_some] <;> rfl), by repeat (first | (with_reducible first | exact HB.out | apply zb | apply zn | apply zd | refine zs ?_ GE211.out | refine zs ?_ GE214.out) | exact HB.out)⟩
                 ·rw [if_neg c57] at H
                  have c57b0 : (((rd_T43 l0_0 x5_4).f4) == ((rd_T43 l0_0 x3_1).f4)) = false := beq_eq_false_iff_ne.mpr c57
                  have c57b1 : (((rd_T43 l0_0 x5_4).f4) != ((rd_T43 l0_0 x3_1).f4)) = true := bne_iff_ne.mpr c57
                  have H' := Aside0.mk H
                  clear H
                  have hnb61 := NB214_211.out
                  have hnc61 := NB211_214.out
                  have hcz62_0 : wr.cell? ⟨gb214, 0, none⟩ = some (.int .i64 ((rd_T43 l0_0 x3_1).f0)) := (blk_cell BK214.out 0).trans rfl
                  have hcz62_1 : wr.cell? ⟨gb214, 1, none⟩ = some (.int .i64 ((rd_T43 l0_0 x3_1).f1)) := (blk_cell BK214.out 1).trans rfl
                  have hcz62_2 : wr.cell? ⟨gb214, 2, none⟩ = some (.int .i64 ((rd_T43 l0_0 x3_1).f2)) := (blk_cell BK214.out 2).trans rfl
                  have hcz62_3 : wr.cell? ⟨gb214, 3, none⟩ = some (.slice A213_3 ((rd_T43 l0_0 x3_1).f3).length c213_3) := (blk_cell BK214.out 3).trans rfl
                  have hcz62_4 : wr.cell? ⟨gb214, 4, none⟩ = some (.int .i64 ((rd_T43 l0_0 x3_1).f4)) := (blk_cell BK214.out 4).trans rfl
                  have hfz62_0 := blk_frozen BK214.out 0
                  have hfz62_1 := blk_frozen BK214.out 1
                  have hfz62_2 := blk_frozen BK214.out 2
                  have hfz62_3 := blk_frozen BK214.out 3
                  have hfz62_4 := blk_frozen BK214.out 4
                  have hcz63_0 : wr.cell? ⟨gb211, 0, none⟩ = some (.slice (some ad213) l0_0.length c0_0) := (blk_cell BK211.out 0).trans rfl
                  have hcz63_1 : wr.cell? ⟨gb211, 1, none⟩ = some (.slice A0_1 l0_1.length c0_1) := (blk_cell BK211.out 1).trans rfl
                  have hfz63_0 := blk_frozen BK211.out 0
                  have hfz63_1 := blk_frozen BK211.out 1
                  have p217 : 0 ≤ (x5_4 : Int) := of_decide_eq_true (by first | (with_reducible assumption) | assumption)
                  have q217 : x5_4 < (l0_0.length : Int) := of_decide_eq_true (by first | (with_reducible assumption) | assumption)
                  obtain ⟨ad217, A217_3, c217_3, e217, hx217_0, hx217_1, hx217_2, hx217_3, hx217_4, hl217_3, hi217_3⟩ := at_T43 HR0_0.out x5_4 p217 q217
                  obtain rfl : ad213 = ad217 := (by injection e217)
                  replace hx217_0 := (HB.out.cell (World.block_lt_of_cell? w _ hx217_0)).trans hx217_0
                  replace hx217_1 := (HB.out.cell (World.block_lt_of_cell? w _ hx217_1)).trans hx217_1
                  replace hx217_2 := (HB.out.cell (World.block_lt_of_cell? w _ hx217_2)).trans hx217_2
                  replace hx217_3 := (HB.out.cell (World.block_lt_of_cell? w _ hx217_3)).trans hx217_3
                  replace hx217_4 := (HB.out.cell (World.block_lt_of_cell? w _ hx217_4)).trans hx217_4
                  have HR217_3 := Aside0.mk hi217_3
                  have HC217_3 := Aside0.mk hl217_3
                  clear hi217_3 hl217_3
                  replace p217 := eq_true p217
                  replace q217 := eq_true q217
                  go_wp2
                  repeat (go_quiet (fail); try go_wp2)
                  go_roundg k4
                  case measure => have := HK1.out; have := HJ4.out; have := HJ36.out; have := HK4.out; omega
                  case rel => exact ⟨(wrap64 (x5_4 + 1)), (by first | rfl | (simp; done) | (simp [*]; done)), H', ⟨by have := HK1.out; have := HJ4.out; have := HJ36.out; have := HK4.out; omega⟩, ⟨by (with_reducible repeat first | refine kn ?_ _ | refine kd ?_ | refine ka ?_ _); exact BK211.out⟩, ⟨by (with_reducible repeat first | refine kn ?_ _ | refine kd ?_ | refine ka ?_ _); exact BK214.out⟩, ⟨by repeat (first | (with_reducible first | exact HB.out | apply zb | apply zn | apply zd | refine zs ?_ GE211.out | refine zs ?_ GE214.out) | exact HB.out)⟩⟩
                ·rw [if_neg c56] at H
                 exact absurd H (by simp)
               ·rw [if_neg c55] at H
                exact absurd H (by simp)
              ·rw [if_neg c54] at H
               have c54b0 : decide (0 < ((rd_T43 l0_0 x3_1).f4)) = false := decide_eq_false c54
               clear c54
               have H' := Aside0.mk H
               clear H
               have hnb64 := NB214_211.out
               have hnc64 := NB211_214.out
               have hcz65_0 : wr.cell? ⟨gb214, 0, none⟩ = some (.int .i64 ((rd_T43 l0_0 x3_1).f0)) := (blk_cell BK214.out 0).trans rfl
               have hcz65_1 : wr.cell? ⟨gb214, 1, none⟩ = some (.int .i64 ((rd_T43 l0_0 x3_1).f1)) := (blk_cell BK214.out 1).trans rfl
               have hcz65_2 : wr.cell? ⟨gb214, 2, none⟩ = some (.int .i64 ((rd_T43 l0_0 x3_1).f2)) := (blk_cell BK214.out 2).trans rfl
               have hcz65_3 : wr.cell? ⟨gb214, 3, none⟩ = some (.slice A213_3 ((rd_T43 l0_0 x3_1).f3).length c213_3) := (blk_cell BK214.out 3).trans rfl
               have hcz65_4 : wr.cell? ⟨gb214, 4, none⟩ = some (.int .i64 ((rd_T43 l0_0 x3_1).f4)) := (blk_cell BK214.out 4).trans rfl
               have hfz65_0 := blk_frozen BK214.out 0
               have hfz65_1 := blk_frozen BK214.out 1
               have hfz65_2 := blk_frozen BK214.out 2
               have hfz65_3 := blk_frozen BK214.out 3
               have hfz65_4 := blk_frozen BK214.out 4
               go_wp2
               repeat (go_quiet (fail); try go_wp2)
               go_roundg k4
               case measure => have := HK1.out; have := HJ4.out; have := HJ36.out; have := HK4.out; omega
               case rel => exact ⟨(wrap64 (x5_4 + 1)), (by first | rfl | (simp; done) | (simp [*]; done)), H', ⟨by have := HK1.out; have := HJ4.out; have := HJ36.out; have := HK4.out; omega⟩, ⟨by (with_reducible repeat first | refine kn ?_ _ | refine kd ?_ | refine ka ?_ _); exact BK211.out⟩, ⟨by (with_reducible repeat first | refine kn ?_ _ | refine kd ?_ | refine ka ?_ _); exact BK214.out⟩, ⟨by repeat (first | (with_reducible first | exact HB.out | apply zb | apply zn | apply zd | refine zs ?_ GE211.out | refine zs ?_ GE214.out) | exact HB.out)⟩⟩
             ·rw [if_neg c53] at H
              have c53b0 : decide (x5_4 < x3_1) = false := decide_eq_false c53
              clear c53
              have H' := Aside0.mk H
              clear H
              go_wp2
              repeat (go_quiet (fail); try go_wp2)
              go_roundg k4
              case measure => have := HK1.out; have := HJ4.out; have := HJ36.out; have := HK4.out; omega
              case rel => exact ⟨(wrap64 (x3_1 + 1)), (by first | rfl | (simp; done) | (simp [*]; done)), H', ⟨by have := HK1.out; have := HJ4.out; have := HJ36.out; have := HK4.out; omega⟩, ⟨by (with_reducible repeat first | refine kn ?_ _ | refine kd ?_ | refine ka ?_ _); exact BK211.out⟩, ⟨by repeat (first | (with_reducible first | exact HB.out | apply zb | apply zn | apply zd | refine zs ?_ GE211.out | refine zs ?_ GE214.out) | exact HB.out)⟩⟩
    ·rw [if_neg c4] at H
     exact absurd H (by simp)
   ·rw [if_neg c3] at H
    have c3b0 : decide (x3_1 < (l0_0.length : Int)) = false := decide_eq_false c3
    clear c3
    replace H := Option.bind_eq_some_iff.mp H
    obtain ⟨t212, A660, H⟩ := H
    replace H : (some t212) = some r := H
    have A66 := Aside0.mk A660
    clear A660
    obtain rfl := Option.some.inj H
    have hcz67_0 : wr.cell? ⟨gb211, 0, none⟩ = some (.slice A0_0 l0_0.length c0_0) := (blk_cell BK211.out 0).trans rfl
    have hcz67_1 : wr.cell? ⟨gb211, 1, none⟩ = some (.slice A0_1 l0_1.length c0_1) := (blk_cell BK211.out 1).trans rfl
    have hfz67_0 := blk_frozen BK211.out 0
    have hfz67_1 := blk_frozen BK211.out 1
    go_wp2_with (first | (go_at_call 34; (with_reducible refine (heirloomref11_all.calls k1 _ _ l0_0 _ _ l0_1 _ _ l0_1 t212 _ ?side1 ?side2 ?side3 ?side4 ?side5 ?side6 A66.out).mono ?_); (case side1 => repeat (first | exact (Kd.C_below HR0_0.out HB.out) | (with_reducible refine Kd.C_alloc ?_ _) | (with_reducible refine Kd.C_drewN ?_ _) | (with_reducible refine Kd.C_drew ?_))); (case side2 => exact HC0_0.out); (case side3 => repeat (first | exact (Kd.C_below HR0_1.out HB.out) | (with_reducible refine Kd.C_alloc ?_ _) | (with_reducible refine Kd.C_drewN ?_ _) | (with_reducible refine Kd.C_drew ?_))); (case side4 => exact HC0_1.out); (case side5 => repeat (first | exact (Kd.C_below HR0_1.out HB.out) | (with_reducible refine Kd.C_alloc ?_ _) | (with_reducible refine Kd.C_drewN ?_ _) | (with_reducible refine Kd.C_drew ?_))); (case side6 => exact HC0_1.out); rintro e w68 ⟨rfl, hb⟩; have n0_ := Aside0.mk (blk_below (g := gb211) (o := .cells #[.slice A0_0 l0_0.length c0_0, .slice A0_1 l0_1.length c0_1] 25 (0, 0)) (by (with_reducible repeat first | refine kn ?_ _ | refine kd ?_ | refine ka ?_ _); exact BK211.out) hb); have n1_ := Aside0.mk (below_step (by repeat (first | (with_reducible first | exact HB.out | apply zb | apply zn | apply zd | refine zs ?_ GE211.out) | exact HB.out)) hb); clear BK211; clear HB; have BK211 := n0_; have HB := n1_; clear n0_ n1_; (try clear hb)))
    repeat (go_quiet (first | (go_at_call 34; (with_reducible refine (heirloomref11_all.calls k1 _ _ l0_0 _ _ l0_1 _ _ l0_1 t212 _ ?side1 ?side2 ?side3 ?side4 ?side5 ?side6 A66.out).mono ?_); (case side1 => repeat (first | exact (Kd.C_below HR0_0.out HB.out) | (with_reducible refine Kd.C_alloc ?_ _) | (with_reducible refine Kd.C_drewN ?_ _) | (with_reducible refine Kd.C_drew ?_))); (case side2 => exact HC0_0.out); (case side3 => repeat (first | exact (Kd.C_below HR0_1.out HB.out) | (with_reducible refine Kd.C_alloc ?_ _) | (with_reducible refine Kd.C_drewN ?_ _) | (with_reducible refine Kd.C_drew ?_))); (case side4 => exact HC0_1.out); (case side5 => repeat (first | exact (Kd.C_below HR0_1.out HB.out) | (with_reducible refine Kd.C_alloc ?_ _) | (with_reducible refine Kd.C_drewN ?_ _) | (with_reducible refine Kd.C_drew ?_))); (case side6 => exact HC0_1.out); rintro e w68 ⟨rfl, hb⟩; have n0_ := Aside0.mk (blk_below (g := gb211) (o := .cells #[.slice A0_0 l0_0.length c0_0, .slice A0_1 l0_1.length c0_1] 25 (0, 0)) (by (with_reducible repeat first | refine kn ?_ _ | refine kd ?_ | refine ka ?_ _); exact BK211.out) hb); have n1_ := Aside0.mk (below_step (by repeat (first | (with_reducible first | exact HB.out | apply zb | apply zn | apply zd | refine zs ?_ GE211.out) | exact HB.out)) hb); clear BK211; clear HB; have BK211 := n0_; have HB := n1_; clear n0_ n1_; (try clear hb))); try go_wp2_with (first | (go_at_call 34; (with_reducible refine (heirloomref11_all.calls k1 _ _ l0_0 _ _ l0_1 _ _ l0_1 t212 _ ?side1 ?side2 ?side3 ?side4 ?side5 ?side6 A66.out).mono ?_); (case side1 => repeat (first | exact (Kd.C_below HR0_0.out HB.out) | (with_reducible refine Kd.C_alloc ?_ _) | (with_reducible refine Kd.C_drewN ?_ _) | (with_reducible refine Kd.C_drew ?_))); (case side2 => exact HC0_0.out); (case side3 => repeat (first | exact (Kd.C_below HR0_1.out HB.out) | (with_reducible refine Kd.C_alloc ?_ _) | (with_reducible refine Kd.C_drewN ?_ _) | (with_reducible refine Kd.C_drew ?_))); (case side4 => exact HC0_1.out); (case side5 => repeat (first | exact (Kd.C_below HR0_1.out HB.out) | (with_reducible refine Kd.C_alloc ?_ _) | (with_reducible refine Kd.C_drewN ?_ _) | (with_reducible refine Kd.C_drew ?_))); (case side6 => exact HC0_1.out); rintro e w68 ⟨rfl, hb⟩; have n0_ := Aside0.mk (blk_below (g := gb211) (o := .cells #[.slice A0_0 l0_0.length c0_0, .slice A0_1 l0_1.length c0_1] 25 (0, 0)) (by (with_reducible repeat first | refine kn ?_ _ | refine kd ?_ | refine ka ?_ _); exact BK211.out) hb); have n1_ := Aside0.mk (below_step (by repeat (first | (with_reducible first | exact HB.out | apply zb | apply zn | apply zd | refine zs ?_ GE211.out) | exact HB.out)) hb); clear BK211; clear HB; have BK211 := n0_; have HB := n1_; clear n0_ n1_; (try clear hb))))
    go_ret
    exact ⟨by first | rfl | (simp [errW_none, errW_some] <;> rfl) | (simp [*, errW_none, errW_some] <;> rfl), by repeat (first | (with_reducible first | exact HB.out | apply zb | apply zn | apply zd | refine zs ?_ GE211.out) | exact HB.out)⟩

end Go.Proofs.Ytollnnbcfhnlfaa.QR
