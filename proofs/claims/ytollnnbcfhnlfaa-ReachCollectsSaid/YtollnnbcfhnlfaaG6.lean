/- reach, part G6 of the hand texts (C2): what each part says stands at its head. -/
import Derived.Test.YtollnnbcfhnlfaaSh
import Derived.Test.YtollnnbcfhnlfaaG5
/- reach: Collect's second closure, walked: which entry is cleared. -/
set_option linter.unusedVariables false
set_option linter.unusedSimpArgs false
namespace Go.Proofs.Ytollnnbcfhnlfaa.Rg
open Go.Proofs.Ytollnnbcfhnlfaa.Sh
open Go.RowKit Go.Proofs.Ytollnnbcfhnlfaa.QR Go.Proofs.YtollnnbcfhnlfaaW.PrintWords Go.Proofs.YtollnnbcfhnlfaaW.PrintLast Go.Proofs.YtollnnbcfhnlfaaW.PrintMore
/-- what the closure captured, as it lies -/
structure Cap (kb : List KB) (p : CP) (tb wb xb fb ib : Nat) (kind wk arr fin : Int) (A : Option Addr) (n c : Nat) (i wv : Int) : Prop where
 t : (tb, #[.int .i64 kind, .int .i64 wk, .int .i64 arr, .slice A n c, .int .i64 fin], 43) ∈ kb
 w : (wb, #[.int .i64 wv], 3) ∈ kb
 x : (xb, #[.pointer (some ⟨p.g, 0, none⟩)], 53) ∈ kb
 f : (fb, #[p.nv], 30) ∈ kb
 i : (ib, #[.int .i64 i], 3) ∈ kb
theorem Cap.more {kb : List KB} {p : CP} {tb wb xb fb ib : Nat} {kind wk arr fin : Int} {A : Option Addr} {n c : Nat} {i wv : Int} (h : Cap kb p tb wb xb fb ib kind wk arr fin A n c i wv) (b : KB) : Cap (b :: kb) p tb wb xb fb ib kind wk arr fin A n c i wv :=
 ⟨List.mem_cons_of_mem _ h.t, List.mem_cons_of_mem _ h.w, List.mem_cons_of_mem _ h.x, List.mem_cons_of_mem _ h.f, List.mem_cons_of_mem _ h.i⟩
theorem CI.caps {p : CP} {w : World} {kb : List KB} {cl : List S49} (h : CI p w kb cl) {tb wb xb fb ib : Nat} {kind wk arr fin : Int} {A : Option Addr} {n c : Nat} {i wv : Int} (k : Cap kb p tb wb xb fb ib kind wk arr fin A n c i wv) :
  w.cell? ⟨tb, 3, none⟩ = some (.slice A n c) ∧ w.cell? ⟨wb, 0, none⟩ = some (.int .i64 wv) ∧ w.cell? ⟨xb, 0, none⟩ = some (.pointer (some ⟨p.g, 0, none⟩)) ∧ w.cell? ⟨ib, 0, none⟩ = some (.int .i64 i) :=
 ⟨blk_cell (h.blk k.t) 3, blk_cell (h.blk k.w) 0, blk_cell (h.blk k.x) 0, blk_cell (h.blk k.i) 0⟩
theorem CI.slot {p : CP} {w : World} {kb : List KB} {cl : List S49} (h : CI p w kb cl) {ad : Addr} {sl : List S40} (hC : Kd.C k40 p.W (some ad) sl.length sl) (i : Int) (h0 : 0 ≤ i) (h1 : i < sl.length) : w.cell? (ad.add (i.toNat * 2)) = some (.int .i64 (rd_T40 sl i).f0) ∧ w.cell? ⟨(ad.add (i.toNat * 2)).block, (ad.add (i.toNat * 2)).off + 1, none⟩ = some (.int .i64 (rd_T40 sl i).f1) := by
 obtain ⟨ad, e, p, q⟩ := at_T40 (Kd.C_below hC h.base) i h0 h1
 cases e
 exact ⟨p, q⟩
theorem CI.k43 {p : CP} {w w' : World} {kb kb' : List KB} {cl cl' : List S49} {k : Nat} {cs : Array Value} (h : CI p w ((k, cs, 43) :: kb) cl) : w.heap[k]? = some (.cells cs 43 (0, 0)) := h.blk (List.Mem.head _)
def K43 (w0 w : World) : Prop := ∀ (k : Nat) (cs : Array Value), w0.heap[k]? = some (.cells cs 43 (0, 0)) → w.heap[k]? = some (.cells cs 43 (0, 0))
theorem K43.refl (w : World) : K43 w w := fun _ _ h => h
theorem K43.below {w0 w wx : World} (h : K43 w0 w) (hb : Below w.heap.size w wx) : K43 w0 wx := fun k cs hk => blk_below (h k cs hk) hb
theorem K43.app {w0 w w' : World} {ob base : Nat} {cs : Array Value} {cv cv' : Value} {cl : List S49} (h : K43 w0 w) (hb : w.heap[ob]? = some (.cells cs 37 (0, 0))) (hR : Kd.R k49 49 w base (fun _ => True) cv cl) (hg : w.grownBy w' cv.ownBlock) (j : Nat) : K43 w0 (w'.setCell ⟨ob, j, none⟩ cv') := fun k c hk => by
 have h1 := h k c hk
 have h2 := blk_grown h1 hg (Kd.R_ne hR h1 (by decide))
 have b2 := blk_grown hb hg (Kd.R_ne hR hb (by decide))
 exact blk_far h2 (fun z => by
  have z' : k = ob := z
  rw [z', b2] at h2
  injection h2 with h2
  injection h2 with _ h2
  exact absurd h2 (by decide)) _
set_option maxHeartbeats 16000000 in
set_option maxRecDepth 100000 in
theorem clear_calls (p : CP) (w : World) (kb : List KB) (cl : List S49) (h : CI p w kb cl) (hC : Kd.C k43 p.W p.A0 p.th.length p.th) (hm : p.th.length ≤ 1000000) (hlv : p.live.length = p.th.length) (hfs : p.first.length = p.th.length) (tb wb xb fb ib : Nat) (kind wk arr fin : Int) (ad : Addr) (sl : List S40) (c : Nat) (i wv : Int)
  (ca : Cap kb p tb wb xb fb ib kind wk arr fin (some ad) sl.length c i wv) (hS : Kd.C k40 p.W (some ad) sl.length sl) (hi0 : 0 ≤ i) (hi1 : i < p.th.length) (hcl : cl.length ≤ 100000000) (key value : Int) (hv0 : 0 ≤ value) (hv1 : value < sl.length) (hk1 : key < sl.length) :
  Calls Try.prog 39 #[.int .i64 key, .int .i64 value, .pointer (some ⟨tb, 0, none⟩), .pointer (some ⟨wb, 0, none⟩), .pointer (some ⟨xb, 0, none⟩), .pointer (some ⟨p.ob, 0, none⟩), .pointer (some ⟨fb, 0, none⟩), .pointer (some ⟨ib, 0, none⟩)] w fun e W' => e = .returned (.tuple #[]) ∧ CI p W' kb (clearF p.th p.live p.first i wv sl cl (key, value)) ∧ K43 w W' := by
 have HC := Aside0.mk hC
 have HM := Aside0.mk hm
 have HLV := Aside0.mk hlv
 have HFS := Aside0.mk hfs
 have CA := Aside0.mk ca
 have HS := Aside0.mk hS
 have CLL := Aside0.mk hcl
 have I01 := Aside0.mk (show 0 ≤ i ∧ i < p.th.length from ⟨hi0, hi1⟩)
 obtain ⟨i2, hi2⟩ : ∃ x : Int, i + 1 = x := ⟨_, rfl⟩
 have ewi : IntKind.i64.wrap (i + 1) = i2 := (i64_w _).trans ((w64i_ (by omega) (by omega)).trans hi2)
 have I2 := Aside0.mk hi2
 obtain ⟨y3, yw, yx, yi⟩ := h.caps ca
 obtain ⟨x0, x1⟩ := h.slot hS value hv0 hv1
 obtain ⟨v, hv⟩ : ∃ v, rd_T40 sl value = v := ⟨_, rfl⟩
 obtain ⟨k, hk⟩ : ∃ k, rd_T40 sl key = k := ⟨_, rfl⟩
 rw [hv] at x0 x1
 obtain ⟨wkv, hwkv⟩ : ∃ b, weaklyF p.th v.f0 v.f1 = b := ⟨_, rfl⟩
 obtain ⟨kwv, hkwv⟩ : ∃ b, weaklyF p.th k.f0 k.f1 = b := ⟨_, rfl⟩
 obtain ⟨ov, hov⟩ : ∃ o, objF p.th v.f0 v.f1 = o := ⟨_, rfl⟩
 obtain ⟨kov, hkov⟩ : ∃ o, objF p.th k.f0 k.f1 = o := ⟨_, rfl⟩
 have WKV := Aside0.mk hwkv
 have KWV := Aside0.mk hkwv
 have OV := Aside0.mk hov
 have KOV := Aside0.mk hkov
 obtain ⟨ga, hga⟩ : ∃ b : Bool, (wv != 1 && wkv && (!rdOf false p.live (ov - 1) || (rdOf false p.first i && !rdOf false p.first (ov - 1)))) = b := ⟨_, rfl⟩
 obtain ⟨gb, hgb⟩ : ∃ b : Bool, (decide (0 ≤ key) && wv != 2 && kwv && !rdOf false p.live (kov - 1)) = b := ⟨_, rfl⟩
 have GN := Aside0.mk (show goneF p.th p.live p.first i wv sl key value = (ga || gb) by
  unfold goneF
  rw [hv, hk, hwkv, hkwv, hov, hkov, hga, hgb])
 have GA := Aside0.mk hga
 have GB := Aside0.mk hgb
 have HK := Aside0.mk hk
 have HI := Aside0.mk (h.box #[.int .i64 v.f0, .int .i64 v.f1] 40)
 have KK := Aside0.mk ((K43.refl w).below (below_alloc (Below.refl _ _) (.cells #[.int .i64 v.f0, .int .i64 v.f1] 40)))
 have HK1 := Aside0.mk hk1
 obtain ⟨clN, hclN⟩ : ∃ x, clearF p.th p.live p.first i wv sl cl (key, value) = x := ⟨_, rfl⟩
 rw [hclN]
 have CLN := Aside0.mk hclN
 clear hclN
 replace hv0 := eq_true hv0
 replace hv1 := eq_true hv1
 clear hC hm hlv hfs ca hS hi0 hi1 hi2 hcl h hv hk hwkv hkwv hov hkov hga hgb hk1
 go_enter Try.func39, Try.ntmps39
 go_upto_region 2 with (fail)
 clear y3 yw yx yi x0 x1
 obtain ⟨z3, wb0, xb0, ib0⟩ := HI.out.caps (CA.out.more _)
 have hv_ := HI.out.blk (b := w.heap.size) (cs := #[.int .i64 v.f0, .int .i64 v.f1]) (T := 40) (List.Mem.head _)
 have v0 : (w.alloc (.cells #[.int .i64 v.f0, .int .i64 v.f1] 40)).cell? ⟨w.heap.size, 0, none⟩ = some (.int .i64 v.f0) := blk_cell hv_ 0
 have v1 : (w.alloc (.cells #[.int .i64 v.f0, .int .i64 v.f1] 40)).cell? ⟨w.heap.size, 1, none⟩ = some (.int .i64 v.f1) := blk_cell hv_ 1
 clear hv_
 go_cut [24] (fun v24 wc => v24 = .bool ((wv != 1) && wkv) ∧ Aside0 (CI p wc ((w.heap.size, #[.int .i64 v.f0, .int .i64 v.f1], 40) :: kb) cl) ∧ Aside0 (K43 w wc))
 case first =>
  by_cases hw : wv = 1
  ·have c1 : (wv != 1) = false := bne_eq_false_iff_eq.mpr hw
   clear hw
   go_wp2
   go_meet
   case rel => exact ⟨by rw [c1]; rfl, HI, KK⟩
  ·have c1 : (wv != 1) = true := bne_iff_ne.mpr hw
   clear hw
   go_wp2_with (first | (go_at_call 40; (with_reducible refine (HI.out.weakly HC.out HM.out (by first | exact Below.refl _ _ | exact below_drew (Below.refl _ _) | exact pw_below_drewN (Below.refl _ _) _) v.f0 v.f1).mono ?_); rintro e w3 ⟨rfl, h3⟩; rw [WKV.out]; replace z3 := (h3.cell (cell_lt z3)).trans z3; replace wb0 := (h3.cell (cell_lt wb0)).trans wb0; replace xb0 := (h3.cell (cell_lt xb0)).trans xb0; replace ib0 := (h3.cell (cell_lt ib0)).trans ib0; replace v0 := (h3.cell (cell_lt v0)).trans v0; replace v1 := (h3.cell (cell_lt v1)).trans v1; have n1 := Aside0.mk (HI.out.below h3); have n2 := Aside0.mk (KK.out.below h3); clear h3 HI KK; have HI := n1; have KK := n2; clear n1 n2))
   go_meet
   case rel => exact ⟨by rw [c1]; rfl, HI, KK⟩
 case rest =>
  obtain ⟨hc_, HI', KK'⟩ := hcut
  subst hc_
  clear HI KK z3 wb0 xb0 ib0 v0 v1
  have HI := HI'
  have KK := KK'
  clear HI' KK'
  obtain ⟨z3, wb0, xb0, ib0⟩ := HI.out.caps (CA.out.more _)
  have hv_ := HI.out.blk (b := w.heap.size) (cs := #[.int .i64 v.f0, .int .i64 v.f1]) (T := 40) (List.Mem.head _)
  have v0 : wc.cell? ⟨w.heap.size, 0, none⟩ = some (.int .i64 v.f0) := blk_cell hv_ 0
  have v1 : wc.cell? ⟨w.heap.size, 1, none⟩ = some (.int .i64 v.f1) := blk_cell hv_ 1
  clear hv_
  go_upto_if 24 with (fail)
  go_cut [10] (fun v10 wc => v10 = .bool ga ∧ Aside0 (CI p wc ((w.heap.size, #[.int .i64 v.f0, .int .i64 v.f1], 40) :: kb) cl) ∧ Aside0 (K43 w wc))
  case first =>
   rcases hb : ((wv != 1) && wkv) with _ | _
   ·have G0 := Aside0.mk (show ga = false by rw [← GA.out, hb]; rfl)
    clear hb
    go_wp2
    go_meet
    case rel => exact ⟨by rw [G0.out], HI, KK⟩
   ·have hbw : wkv = true := by have h_ := hb; simp only [Bool.and_eq_true] at h_; exact h_.2
    have obd := obj_bd p.th v.f0 v.f1
    have obp : 0 < objF p.th v.f0 v.f1 := by
     have hq := WKV.out
     rw [hbw] at hq
     unfold weaklyF at hq
     simp only [Bool.and_eq_true, decide_eq_true_eq] at hq
     exact hq.2
    rw [OV.out] at obd obp
    have hm := HM.out
    have hlv := HLV.out
    have hfs := HFS.out
    obtain ⟨oi, hoi⟩ : ∃ x : Int, ov - 1 = x := ⟨_, rfl⟩
    have ewo : IntKind.i64.wrap (ov - 1) = oi := (i64_w _).trans ((w64i_ (by omega) (by omega)).trans hoi)
    have ga' : ga = (!rdOf false p.live oi || (rdOf false p.first i && !rdOf false p.first oi)) := by rw [← GA.out, hb, hoi]; rfl
    have o0 : 0 ≤ oi := by omega
    have o1 : oi < p.live.length := by omega
    have o2 : oi < p.first.length := by omega
    have q0 : 0 ≤ i := I01.out.1
    have q1 : i < p.first.length := by have := I01.out.2; omega
    obtain ⟨gl, lcap, l0, lc⟩ := HI.out.lived oi o0 o1
    obtain ⟨gf, fcap, f0, ff⟩ := HI.out.firsts fb (List.mem_cons_of_mem _ CA.out.f) i q0 q1
    have fi0 := ff i q0 q1
    have fo0 := ff oi o0 o2
    have GA' := Aside0.mk ga'
    replace o0 := eq_true o0
    replace o1 := eq_true o1
    replace o2 := eq_true o2
    replace q0 := eq_true q0
    replace q1 := eq_true q1
    clear hb hbw obd obp hm hlv hfs hoi ga' ff
    rcases h1 : rdOf false p.live oi with _ | _
    ·rw [h1] at lc
     have G0 := Aside0.mk (show ga = true by rw [GA'.out, h1]; rfl)
     clear h1
     go_wp2_with (first | (go_at_call 33; (with_reducible refine (HI.out.object HC.out HM.out (by first | exact Below.refl _ _ | exact below_drew (Below.refl _ _) | exact pw_below_drewN (Below.refl _ _) _) v.f0 v.f1).mono ?_); rintro e w3 ⟨rfl, h3⟩; rw [OV.out]; replace z3 := (h3.cell (cell_lt z3)).trans z3; replace wb0 := (h3.cell (cell_lt wb0)).trans wb0; replace xb0 := (h3.cell (cell_lt xb0)).trans xb0; replace ib0 := (h3.cell (cell_lt ib0)).trans ib0; replace v0 := (h3.cell (cell_lt v0)).trans v0; replace v1 := (h3.cell (cell_lt v1)).trans v1; replace l0 := (h3.cell (cell_lt l0)).trans l0; replace lc := (h3.cell (cell_lt lc)).trans lc; replace f0 := (h3.cell (cell_lt f0)).trans f0; replace fi0 := (h3.cell (cell_lt fi0)).trans fi0; replace fo0 := (h3.cell (cell_lt fo0)).trans fo0; have n1 := Aside0.mk (HI.out.below h3); have n2 := Aside0.mk (KK.out.below h3); clear h3 HI KK; have HI := n1; have KK := n2; clear n1 n2))
     go_meet
     case rel => exact ⟨by rw [G0.out], HI, KK⟩
    ·rw [h1] at lc
     rcases h2 : rdOf false p.first i with _ | _
     ·rw [h2] at fi0
      have G0 := Aside0.mk (show ga = false by rw [GA'.out, h1, h2]; rfl)
      clear h1 h2
      go_wp2_with (first | (go_at_call 33; (with_reducible refine (HI.out.object HC.out HM.out (by first | exact Below.refl _ _ | exact below_drew (Below.refl _ _) | exact pw_below_drewN (Below.refl _ _) _) v.f0 v.f1).mono ?_); rintro e w3 ⟨rfl, h3⟩; rw [OV.out]; replace z3 := (h3.cell (cell_lt z3)).trans z3; replace wb0 := (h3.cell (cell_lt wb0)).trans wb0; replace xb0 := (h3.cell (cell_lt xb0)).trans xb0; replace ib0 := (h3.cell (cell_lt ib0)).trans ib0; replace v0 := (h3.cell (cell_lt v0)).trans v0; replace v1 := (h3.cell (cell_lt v1)).trans v1; replace l0 := (h3.cell (cell_lt l0)).trans l0; replace lc := (h3.cell (cell_lt lc)).trans lc; replace f0 := (h3.cell (cell_lt f0)).trans f0; replace fi0 := (h3.cell (cell_lt fi0)).trans fi0; replace fo0 := (h3.cell (cell_lt fo0)).trans fo0; have n1 := Aside0.mk (HI.out.below h3); have n2 := Aside0.mk (KK.out.below h3); clear h3 HI KK; have HI := n1; have KK := n2; clear n1 n2))
      go_meet
      case rel => exact ⟨by rw [G0.out], HI, KK⟩
     ·rw [h2] at fi0
      rcases h3 : rdOf false p.first oi with _ | _
      ·rw [h3] at fo0
       have G0 := Aside0.mk (show ga = true by rw [GA'.out, h1, h2, h3]; rfl)
       clear h1 h2 h3
       go_wp2_with (first | (go_at_call 33; (with_reducible refine (HI.out.object HC.out HM.out (by first | exact Below.refl _ _ | exact below_drew (Below.refl _ _) | exact pw_below_drewN (Below.refl _ _) _) v.f0 v.f1).mono ?_); rintro e w3 ⟨rfl, h3⟩; rw [OV.out]; replace z3 := (h3.cell (cell_lt z3)).trans z3; replace wb0 := (h3.cell (cell_lt wb0)).trans wb0; replace xb0 := (h3.cell (cell_lt xb0)).trans xb0; replace ib0 := (h3.cell (cell_lt ib0)).trans ib0; replace v0 := (h3.cell (cell_lt v0)).trans v0; replace v1 := (h3.cell (cell_lt v1)).trans v1; replace l0 := (h3.cell (cell_lt l0)).trans l0; replace lc := (h3.cell (cell_lt lc)).trans lc; replace f0 := (h3.cell (cell_lt f0)).trans f0; replace fi0 := (h3.cell (cell_lt fi0)).trans fi0; replace fo0 := (h3.cell (cell_lt fo0)).trans fo0; have n1 := Aside0.mk (HI.out.below h3); have n2 := Aside0.mk (KK.out.below h3); clear h3 HI KK; have HI := n1; have KK := n2; clear n1 n2))
       go_meet
       case rel => exact ⟨by rw [G0.out], HI, KK⟩
      ·rw [h3] at fo0
       have G0 := Aside0.mk (show ga = false by rw [GA'.out, h1, h2, h3]; rfl)
       clear h1 h2 h3
       go_wp2_with (first | (go_at_call 33; (with_reducible refine (HI.out.object HC.out HM.out (by first | exact Below.refl _ _ | exact below_drew (Below.refl _ _) | exact pw_below_drewN (Below.refl _ _) _) v.f0 v.f1).mono ?_); rintro e w3 ⟨rfl, h3⟩; rw [OV.out]; replace z3 := (h3.cell (cell_lt z3)).trans z3; replace wb0 := (h3.cell (cell_lt wb0)).trans wb0; replace xb0 := (h3.cell (cell_lt xb0)).trans xb0; replace ib0 := (h3.cell (cell_lt ib0)).trans ib0; replace v0 := (h3.cell (cell_lt v0)).trans v0; replace v1 := (h3.cell (cell_lt v1)).trans v1; replace l0 := (h3.cell (cell_lt l0)).trans l0; replace lc := (h3.cell (cell_lt lc)).trans lc; replace f0 := (h3.cell (cell_lt f0)).trans f0; replace fi0 := (h3.cell (cell_lt fi0)).trans fi0; replace fo0 := (h3.cell (cell_lt fo0)).trans fo0; have n1 := Aside0.mk (HI.out.below h3); have n2 := Aside0.mk (KK.out.below h3); clear h3 HI KK; have HI := n1; have KK := n2; clear n1 n2))
       go_meet
       case rel => exact ⟨by rw [G0.out], HI, KK⟩
  case rest =>
   obtain ⟨hc_, HI', KK'⟩ := hcut
   subst hc_
   clear HI KK z3 wb0 xb0 ib0 v0 v1
   have HI := HI'
   have KK := KK'
   clear HI' KK'
   obtain ⟨z3, wb0, xb0, ib0⟩ := HI.out.caps (CA.out.more _)
   have hv_ := HI.out.blk (b := w.heap.size) (cs := #[.int .i64 v.f0, .int .i64 v.f1]) (T := 40) (List.Mem.head _)
   have v0 : wc.cell? ⟨w.heap.size, 0, none⟩ = some (.int .i64 v.f0) := blk_cell hv_ 0
   have v1 : wc.cell? ⟨w.heap.size, 1, none⟩ = some (.int .i64 v.f1) := blk_cell hv_ 1
   clear hv_
   go_upto_region 5 with (fail)
   go_cut [77] (fun v77 wc => v77 = .bool gb ∧ Aside0 (CI p wc ((w.heap.size, #[.int .i64 v.f0, .int .i64 v.f1], 40) :: kb) cl) ∧ Aside0 (K43 w wc))
   case first =>
    by_cases hk0 : 0 ≤ key
    ·have e0 : decide (key ≥ 0) = true := decide_eq_true hk0
     by_cases hw : wv = 2
     ·have e1 : (wv != 2) = false := bne_eq_false_iff_eq.mpr hw
      have G0 := Aside0.mk (show gb = false by rw [← GB.out, e1]; simp)
      clear hk0 hw
      refine start_ (n := 30) (S := fun w' : World => w'.cell? ⟨wb, 0, none⟩ = some (.int .i64 wv) ∧ True) (ds := []) (U 30 0) (by kernel_rfl) rfl rfl ⟨wb0, trivial⟩ (fun hHeld => ?_)
      refine pure_ (i := 0) (N := some 48) (v := ?_) (a' := ?_) (U 30 1) rfl rfl (by kernel_rfl) (fun _ _ _ h => h) (Or.inl ⟨by rfl, ?_⟩) ?_ ?_
      rotate_left
      ·intro w'
       go_simp
       with_reducible rfl
      rotate_left
      ·simp only [Act.put, Sh.s1, Sh.s2, Sh.s3, i64_w, i32_w]
       rfl
      refine pure_ (i := 1) (N := some 49) (v := ?_) (a' := ?_) (U 30 2) rfl rfl (by kernel_rfl) (fun _ _ _ h => h) (Or.inl ⟨by rfl, ?_⟩) ?_ ?_
      rotate_left
      ·intro w'
       go_simp
       with_reducible rfl
      rotate_left
      ·simp only [Act.put, Sh.s1, Sh.s2, Sh.s3, i64_w, i32_w]
       rfl
      refine pure_ (i := 2) (N := some 50) (v := ?_) (a' := ?_) (U 30 3) rfl rfl (by kernel_rfl) (fun _ _ _ h => h) (Or.inl ⟨by rfl, ?_⟩) ?_ ?_
      rotate_left
      ·intro w'
       go_simp
       with_reducible rfl
      rotate_left
      ·simp only [Act.put, Sh.s1, Sh.s2, Sh.s3, i64_w, i32_w]
       rfl
      refine take_ (i := 3) (N := some 51) (v := ?_) (a' := ?_) (U 30 4) rfl rfl (by kernel_rfl) (fun _ _ _ h => h) (Or.inl ⟨by rfl, ?_⟩) hHeld ?_ ?_
      rotate_left
      ·rintro w' ⟨t0_, t1_⟩
       go_simp
       with_reducible rfl
      rotate_left
      ·simp only [Act.put, Sh.s1, Sh.s2, Sh.s3, i64_w, i32_w]
       rfl
      refine pure_ (i := 4) (N := some 52) (v := ?_) (a' := ?_) (U 30 5) rfl rfl (by kernel_rfl) (fun _ _ _ h => h) (Or.inl ⟨by rfl, ?_⟩) ?_ ?_
      rotate_left
      ·intro w'
       go_simp
       with_reducible rfl
      rotate_left
      ·simp only [Act.put, Sh.s1, Sh.s2, Sh.s3, i64_w, i32_w]
       rfl
      refine pure_ (i := 5) (N := some 53) (v := ?_) (a' := ?_) (U 30 6) rfl rfl (by kernel_rfl) (fun _ _ _ h => h) (Or.inl ⟨by rfl, ?_⟩) ?_ ?_
      rotate_left
      ·intro w'
       go_simp
       with_reducible rfl
      rotate_left
      ·simp only [Act.put, Sh.s1, Sh.s2, Sh.s3, i64_w, i32_w]
       rfl
      refine pure_ (i := 6) (N := some 54) (v := ?_) (a' := ?_) (U 30 7) rfl rfl (by kernel_rfl) (fun _ _ _ h => h) (Or.inl ⟨by rfl, ?_⟩) ?_ ?_
      rotate_left
      ·intro w'
       go_simp
       with_reducible rfl
      rotate_left
      ·simp only [Act.put, Sh.s1, Sh.s2, Sh.s3, i64_w, i32_w]
       rfl
      refine pure_ (i := 7) (N := some 55) (v := undef) (a' := ?_) (U 30 8) rfl rfl (by kernel_rfl) (fun _ _ _ h => h) (Or.inr ⟨by rfl, rfl⟩) ?_ ?_
      rotate_left
      ·simp only [Act.put, Sh.s1, Sh.s2, Sh.s3, i64_w, i32_w]
       rfl
      refine pure_ (i := 8) (N := some 56) (v := undef) (a' := ?_) (U 30 9) rfl rfl (by kernel_rfl) (fun _ _ _ h => h) (Or.inr ⟨by rfl, rfl⟩) ?_ ?_
      rotate_left
      ·simp only [Act.put, Sh.s1, Sh.s2, Sh.s3, i64_w, i32_w]
       rfl
      refine pure_ (i := 9) (N := some 57) (v := undef) (a' := ?_) (U 30 10) rfl rfl (by kernel_rfl) (fun _ _ _ h => h) (Or.inr ⟨by rfl, rfl⟩) ?_ ?_
      rotate_left
      ·simp only [Act.put, Sh.s1, Sh.s2, Sh.s3, i64_w, i32_w]
       rfl
      refine pure_ (i := 10) (N := some 58) (v := undef) (a' := ?_) (U 30 11) rfl rfl (by kernel_rfl) (fun _ _ _ h => h) (Or.inr ⟨by rfl, rfl⟩) ?_ ?_
      rotate_left
      ·simp only [Act.put, Sh.s1, Sh.s2, Sh.s3, i64_w, i32_w]
       rfl
      refine pure_ (i := 11) (N := some 59) (v := undef) (a' := ?_) (U 30 12) rfl rfl (by kernel_rfl) (fun _ _ _ h => h) (Or.inr ⟨by rfl, rfl⟩) ?_ ?_
      rotate_left
      ·simp only [Act.put, Sh.s1, Sh.s2, Sh.s3, i64_w, i32_w]
       rfl
      refine pure_ (i := 12) (N := some 60) (v := undef) (a' := ?_) (U 30 13) rfl rfl (by kernel_rfl) (fun _ _ _ h => h) (Or.inr ⟨by rfl, rfl⟩) ?_ ?_
      rotate_left
      ·simp only [Act.put, Sh.s1, Sh.s2, Sh.s3, i64_w, i32_w]
       rfl
      refine pure_ (i := 13) (N := some 61) (v := undef) (a' := ?_) (U 30 14) rfl rfl (by kernel_rfl) (fun _ _ _ h => h) (Or.inr ⟨by rfl, rfl⟩) ?_ ?_
      rotate_left
      ·simp only [Act.put, Sh.s1, Sh.s2, Sh.s3, i64_w, i32_w]
       rfl
      refine pure_ (i := 14) (N := some 62) (v := ?_) (a' := ?_) (U 30 15) rfl rfl (by kernel_rfl) (fun _ _ _ h => h) (Or.inl ⟨by rfl, ?_⟩) ?_ ?_
      rotate_left
      ·intro w'
       go_simp
       with_reducible rfl
      rotate_left
      ·simp only [Act.put, Sh.s1, Sh.s2, Sh.s3, i64_w, i32_w]
       rfl
      refine pure_ (i := 15) (N := some 63) (v := ?_) (a' := ?_) (U 30 16) rfl rfl (by kernel_rfl) (fun _ _ _ h => h) (Or.inl ⟨by rfl, ?_⟩) ?_ ?_
      rotate_left
      ·intro w'
       go_simp
       with_reducible rfl
      rotate_left
      ·simp only [Act.put, Sh.s1, Sh.s2, Sh.s3, i64_w, i32_w]
       rfl
      refine pure_ (i := 16) (N := some 64) (v := undef) (a' := ?_) (U 30 17) rfl rfl (by kernel_rfl) (fun _ _ _ h => h) (Or.inr ⟨by rfl, rfl⟩) ?_ ?_
      rotate_left
      ·simp only [Act.put, Sh.s1, Sh.s2, Sh.s3, i64_w, i32_w]
       rfl
      refine pure_ (i := 17) (N := some 65) (v := undef) (a' := ?_) (U 30 18) rfl rfl (by kernel_rfl) (fun _ _ _ h => h) (Or.inr ⟨by rfl, rfl⟩) ?_ ?_
      rotate_left
      ·simp only [Act.put, Sh.s1, Sh.s2, Sh.s3, i64_w, i32_w]
       rfl
      refine pure_ (i := 18) (N := some 66) (v := undef) (a' := ?_) (U 30 19) rfl rfl (by kernel_rfl) (fun _ _ _ h => h) (Or.inr ⟨by rfl, rfl⟩) ?_ ?_
      rotate_left
      ·simp only [Act.put, Sh.s1, Sh.s2, Sh.s3, i64_w, i32_w]
       rfl
      refine pure_ (i := 19) (N := some 67) (v := undef) (a' := ?_) (U 30 20) rfl rfl (by kernel_rfl) (fun _ _ _ h => h) (Or.inr ⟨by rfl, rfl⟩) ?_ ?_
      rotate_left
      ·simp only [Act.put, Sh.s1, Sh.s2, Sh.s3, i64_w, i32_w]
       rfl
      refine pure_ (i := 20) (N := some 68) (v := undef) (a' := ?_) (U 30 21) rfl rfl (by kernel_rfl) (fun _ _ _ h => h) (Or.inr ⟨by rfl, rfl⟩) ?_ ?_
      rotate_left
      ·simp only [Act.put, Sh.s1, Sh.s2, Sh.s3, i64_w, i32_w]
       rfl
      refine pure_ (i := 21) (N := some 69) (v := undef) (a' := ?_) (U 30 22) rfl rfl (by kernel_rfl) (fun _ _ _ h => h) (Or.inr ⟨by rfl, rfl⟩) ?_ ?_
      rotate_left
      ·simp only [Act.put, Sh.s1, Sh.s2, Sh.s3, i64_w, i32_w]
       rfl
      refine pure_ (i := 22) (N := some 70) (v := undef) (a' := ?_) (U 30 23) rfl rfl (by kernel_rfl) (fun _ _ _ h => h) (Or.inr ⟨by rfl, rfl⟩) ?_ ?_
      rotate_left
      ·simp only [Act.put, Sh.s1, Sh.s2, Sh.s3, i64_w, i32_w]
       rfl
      refine pure_ (i := 23) (N := some 71) (v := undef) (a' := ?_) (U 30 24) rfl rfl (by kernel_rfl) (fun _ _ _ h => h) (Or.inr ⟨by rfl, rfl⟩) ?_ ?_
      rotate_left
      ·simp only [Act.put, Sh.s1, Sh.s2, Sh.s3, i64_w, i32_w]
       rfl
      refine pure_ (i := 24) (N := some 72) (v := undef) (a' := ?_) (U 30 25) rfl rfl (by kernel_rfl) (fun _ _ _ h => h) (Or.inr ⟨by rfl, rfl⟩) ?_ ?_
      rotate_left
      ·simp only [Act.put, Sh.s1, Sh.s2, Sh.s3, i64_w, i32_w]
       rfl
      refine pure_ (i := 25) (N := some 73) (v := undef) (a' := ?_) (U 30 26) rfl rfl (by kernel_rfl) (fun _ _ _ h => h) (Or.inr ⟨by rfl, rfl⟩) ?_ ?_
      rotate_left
      ·simp only [Act.put, Sh.s1, Sh.s2, Sh.s3, i64_w, i32_w]
       rfl
      refine pure_ (i := 26) (N := some 74) (v := undef) (a' := ?_) (U 30 27) rfl rfl (by kernel_rfl) (fun _ _ _ h => h) (Or.inr ⟨by rfl, rfl⟩) ?_ ?_
      rotate_left
      ·simp only [Act.put, Sh.s1, Sh.s2, Sh.s3, i64_w, i32_w]
       rfl
      refine pure_ (i := 27) (N := some 75) (v := undef) (a' := ?_) (U 30 28) rfl rfl (by kernel_rfl) (fun _ _ _ h => h) (Or.inr ⟨by rfl, rfl⟩) ?_ ?_
      rotate_left
      ·simp only [Act.put, Sh.s1, Sh.s2, Sh.s3, i64_w, i32_w]
       rfl
      refine pure_ (i := 28) (N := some 76) (v := undef) (a' := ?_) (U 30 29) rfl rfl (by kernel_rfl) (fun _ _ _ h => h) (Or.inr ⟨by rfl, rfl⟩) ?_ ?_
      rotate_left
      ·simp only [Act.put, Sh.s1, Sh.s2, Sh.s3, i64_w, i32_w]
       rfl
      refine pure_ (i := 29) (N := some 77) (v := ?_) (a' := ?_) (U 30 30) rfl rfl (by kernel_rfl) (fun _ _ _ h => h) (Or.inl ⟨by rfl, ?_⟩) ?_ ?_
      rotate_left
      ·intro w'
       go_simp
       with_reducible rfl
      rotate_left
      ·simp only [Act.put, Sh.s1, Sh.s2, Sh.s3, i64_w, i32_w]
       rfl
      refine done_ (by kernel_rfl) ?_
      clear hHeld
      go_wp2
      go_meet
      case rel => exact ⟨by rw [G0.out], ⟨HI.out.below (by first | exact Below.refl _ _ | exact below_drew (Below.refl _ _))⟩, ⟨KK.out.below (by first | exact Below.refl _ _ | exact below_drew (Below.refl _ _))⟩⟩
     ·have e1 : (wv != 2) = true := bne_iff_ne.mpr hw
      have hk1 : key < sl.length := HK1.out
      obtain ⟨k0, k1⟩ := HI.out.slot HS.out key hk0 hk1
      rw [HK.out] at k0 k1
      have e2 : decide (0 ≤ key) = true := decide_eq_true hk0
      have p0 : (0 ≤ key) = True := eq_true hk0
      have p1 : (key < (sl.length : Int)) = True := eq_true hk1
      rcases h1 : kwv with _ | _
      ·have KWV' := Aside0.mk (KWV.out.trans h1)
       clear KWV
       have KWV := KWV'
       clear KWV'
       have G0 := Aside0.mk (show gb = false by rw [← GB.out, e1, e2, h1]; rfl)
       clear hk0 hw hk1 h1 e2
       refine start_ (n := 30) (S := fun w' : World => w'.cell? ⟨wb, 0, none⟩ = some (.int .i64 wv) ∧ w'.cell? ⟨xb, 0, none⟩ = some (.pointer (some ⟨p.g, 0, none⟩)) ∧ w'.cell? ⟨tb, 3, none⟩ = some (.slice (some ad) sl.length c) ∧ w'.cell? (ad.add (key.toNat * 2)) = some (.int .i64 k.f0) ∧ w'.cell? ⟨(ad.add (key.toNat * 2)).block, (ad.add (key.toNat * 2)).off + 1, none⟩ = some (.int .i64 k.f1)) (ds := []) (U 30 0) (by kernel_rfl) rfl rfl ⟨wb0, xb0, z3, k0, k1⟩ (fun hHeld => ?_)
       refine pure_ (i := 0) (N := some 48) (v := ?_) (a' := ?_) (U 30 1) rfl rfl (by kernel_rfl) (fun _ _ _ h => h) (Or.inl ⟨by rfl, ?_⟩) ?_ ?_
       rotate_left
       ·intro w'
        go_simp
        with_reducible rfl
       rotate_left
       ·simp only [Act.put, Sh.s1, Sh.s2, Sh.s3, i64_w, i32_w]
        rfl
       refine pure_ (i := 1) (N := some 49) (v := ?_) (a' := ?_) (U 30 2) rfl rfl (by kernel_rfl) (fun _ _ _ h => h) (Or.inl ⟨by rfl, ?_⟩) ?_ ?_
       rotate_left
       ·intro w'
        go_simp
        with_reducible rfl
       rotate_left
       ·simp only [Act.put, Sh.s1, Sh.s2, Sh.s3, i64_w, i32_w]
        rfl
       refine pure_ (i := 2) (N := some 50) (v := ?_) (a' := ?_) (U 30 3) rfl rfl (by kernel_rfl) (fun _ _ _ h => h) (Or.inl ⟨by rfl, ?_⟩) ?_ ?_
       rotate_left
       ·intro w'
        go_simp
        with_reducible rfl
       rotate_left
       ·simp only [Act.put, Sh.s1, Sh.s2, Sh.s3, i64_w, i32_w]
        rfl
       refine take_ (i := 3) (N := some 51) (v := ?_) (a' := ?_) (U 30 4) rfl rfl (by kernel_rfl) (fun _ _ _ h => h) (Or.inl ⟨by rfl, ?_⟩) hHeld ?_ ?_
       rotate_left
       ·rintro w' ⟨t0_, t1_, t2_, t3_, t4_⟩
        go_simp
        with_reducible rfl
       rotate_left
       ·simp only [Act.put, Sh.s1, Sh.s2, Sh.s3, i64_w, i32_w]
        rfl
       refine pure_ (i := 4) (N := some 52) (v := ?_) (a' := ?_) (U 30 5) rfl rfl (by kernel_rfl) (fun _ _ _ h => h) (Or.inl ⟨by rfl, ?_⟩) ?_ ?_
       rotate_left
       ·intro w'
        go_simp
        with_reducible rfl
       rotate_left
       ·simp only [Act.put, Sh.s1, Sh.s2, Sh.s3, i64_w, i32_w]
        rfl
       refine pure_ (i := 5) (N := some 53) (v := ?_) (a' := ?_) (U 30 6) rfl rfl (by kernel_rfl) (fun _ _ _ h => h) (Or.inl ⟨by rfl, ?_⟩) ?_ ?_
       rotate_left
       ·intro w'
        go_simp
        with_reducible rfl
       rotate_left
       ·simp only [Act.put, Sh.s1, Sh.s2, Sh.s3, i64_w, i32_w]
        rfl
       refine pure_ (i := 6) (N := some 54) (v := ?_) (a' := ?_) (U 30 7) rfl rfl (by kernel_rfl) (fun _ _ _ h => h) (Or.inl ⟨by rfl, ?_⟩) ?_ ?_
       rotate_left
       ·intro w'
        go_simp
        with_reducible rfl
       rotate_left
       ·simp only [Act.put, Sh.s1, Sh.s2, Sh.s3, i64_w, i32_w]
        rfl
       refine take_ (i := 7) (N := some 55) (v := ?_) (a' := ?_) (U 30 8) rfl rfl (by kernel_rfl) (fun _ _ _ h => h) (Or.inl ⟨by rfl, ?_⟩) hHeld ?_ ?_
       rotate_left
       ·rintro w' ⟨t0_, t1_, t2_, t3_, t4_⟩
        go_simp
        with_reducible rfl
       rotate_left
       ·simp only [Act.put, Sh.s1, Sh.s2, Sh.s3, i64_w, i32_w]
        rfl
       refine pure_ (i := 8) (N := some 56) (v := ?_) (a' := ?_) (U 30 9) rfl rfl (by kernel_rfl) (fun _ _ _ h => h) (Or.inl ⟨by rfl, ?_⟩) ?_ ?_
       rotate_left
       ·intro w'
        go_simp
        with_reducible rfl
       rotate_left
       ·simp only [Act.put, Sh.s1, Sh.s2, Sh.s3, i64_w, i32_w]
        rfl
       refine take_ (i := 9) (N := some 57) (v := ?_) (a' := ?_) (U 30 10) rfl rfl (by kernel_rfl) (fun _ _ _ h => h) (Or.inl ⟨by rfl, ?_⟩) hHeld ?_ ?_
       rotate_left
       ·rintro w' ⟨t0_, t1_, t2_, t3_, t4_⟩
        go_simp
        with_reducible rfl
       rotate_left
       ·simp only [Act.put, Sh.s1, Sh.s2, Sh.s3, i64_w, i32_w]
        rfl
       refine pure_ (i := 10) (N := some 58) (v := ?_) (a' := ?_) (U 30 11) rfl rfl (by kernel_rfl) (fun _ _ _ h => h) (Or.inl ⟨by rfl, ?_⟩) ?_ ?_
       rotate_left
       ·intro w'
        go_simp
        with_reducible rfl
       rotate_left
       ·simp only [Act.put, Sh.s1, Sh.s2, Sh.s3, i64_w, i32_w]
        rfl
       refine pure_ (i := 11) (N := some 59) (v := ?_) (a' := ?_) (U 30 12) rfl rfl (by kernel_rfl) (fun _ _ _ h => h) (Or.inl ⟨by rfl, ?_⟩) ?_ ?_
       rotate_left
       ·intro w'
        go_simp
        with_reducible rfl
       rotate_left
       ·simp only [Act.put, Sh.s1, Sh.s2, Sh.s3, i64_w, i32_w]
        rfl
       refine take_ (i := 12) (N := some 60) (v := ?_) (a' := ?_) (U 30 13) rfl rfl (by kernel_rfl) (fun _ _ _ h => h) (Or.inl ⟨by rfl, ?_⟩) hHeld ?_ ?_
       rotate_left
       ·rintro w' ⟨t0_, t1_, t2_, t3_, t4_⟩
        go_simp
        with_reducible rfl
       rotate_left
       ·simp only [Act.put, Sh.s1, Sh.s2, Sh.s3, i64_w, i32_w]
        rfl
       refine one_ (i := 13) (N := some 61) (U 30 14) rfl rfl (by kernel_rfl) (by decide) (fun K hK => ?_)
       refine goes_ Try.func40 (by kernel_rfl) rfl #[.pointer (some ⟨p.g, 0, none⟩), .agg #[.int .i64 k.f0, .int .i64 k.f1]] (by rfl) rfl rfl (by (try simp only [List.map_toArray, List.map_cons, List.map_nil]); first | done | rfl) ?_
       refine (HI.out.weakly HC.out HM.out (below_drew (Below.refl _ _)) k.f0 k.f1).mono ?_
       rintro e w3 ⟨rfl, h3⟩
       rw [KWV.out]
       replace z3 := (h3.cell (cell_lt z3)).trans z3
       replace wb0 := (h3.cell (cell_lt wb0)).trans wb0
       replace xb0 := (h3.cell (cell_lt xb0)).trans xb0
       replace ib0 := (h3.cell (cell_lt ib0)).trans ib0
       replace v0 := (h3.cell (cell_lt v0)).trans v0
       replace v1 := (h3.cell (cell_lt v1)).trans v1
       replace k0 := (h3.cell (cell_lt k0)).trans k0
       replace k1 := (h3.cell (cell_lt k1)).trans k1
       have n1 := Aside0.mk (HI.out.below h3)
       have n2 := Aside0.mk (KK.out.below h3)
       clear h3 HI KK
       have HI := n1
       have KK := n2
       clear n1 n2
       refine ⟨_, rfl, ?_⟩
       refine hK.out _ _ ⟨wb0, xb0, z3, k0, k1⟩ (fun hHeld => ?_)
       clear hK K
       refine norm_ (a' := ?_) ?_ ?_
       rotate_left
       ·show Act.put _ (some 61) _ = _
        simp only [Act.put, Sh.s1, Sh.s2, Sh.s3, i64_w, i32_w]
        rfl
       refine pure_ (i := 14) (N := some 62) (v := ?_) (a' := ?_) (U 30 15) rfl rfl (by kernel_rfl) (fun _ _ _ h => h) (Or.inl ⟨by rfl, ?_⟩) ?_ ?_
       rotate_left
       ·intro w'
        go_simp
        with_reducible rfl
       rotate_left
       ·simp only [Act.put, Sh.s1, Sh.s2, Sh.s3, i64_w, i32_w]
        rfl
       refine pure_ (i := 15) (N := some 63) (v := ?_) (a' := ?_) (U 30 16) rfl rfl (by kernel_rfl) (fun _ _ _ h => h) (Or.inl ⟨by rfl, ?_⟩) ?_ ?_
       rotate_left
       ·intro w'
        go_simp
        with_reducible rfl
       rotate_left
       ·simp only [Act.put, Sh.s1, Sh.s2, Sh.s3, i64_w, i32_w]
        rfl
       refine pure_ (i := 16) (N := some 64) (v := undef) (a' := ?_) (U 30 17) rfl rfl (by kernel_rfl) (fun _ _ _ h => h) (Or.inr ⟨by rfl, rfl⟩) ?_ ?_
       rotate_left
       ·simp only [Act.put, Sh.s1, Sh.s2, Sh.s3, i64_w, i32_w]
        rfl
       refine pure_ (i := 17) (N := some 65) (v := undef) (a' := ?_) (U 30 18) rfl rfl (by kernel_rfl) (fun _ _ _ h => h) (Or.inr ⟨by rfl, rfl⟩) ?_ ?_
       rotate_left
       ·simp only [Act.put, Sh.s1, Sh.s2, Sh.s3, i64_w, i32_w]
        rfl
       refine pure_ (i := 18) (N := some 66) (v := undef) (a' := ?_) (U 30 19) rfl rfl (by kernel_rfl) (fun _ _ _ h => h) (Or.inr ⟨by rfl, rfl⟩) ?_ ?_
       rotate_left
       ·simp only [Act.put, Sh.s1, Sh.s2, Sh.s3, i64_w, i32_w]
        rfl
       refine pure_ (i := 19) (N := some 67) (v := undef) (a' := ?_) (U 30 20) rfl rfl (by kernel_rfl) (fun _ _ _ h => h) (Or.inr ⟨by rfl, rfl⟩) ?_ ?_
       rotate_left
       ·simp only [Act.put, Sh.s1, Sh.s2, Sh.s3, i64_w, i32_w]
        rfl
       refine pure_ (i := 20) (N := some 68) (v := undef) (a' := ?_) (U 30 21) rfl rfl (by kernel_rfl) (fun _ _ _ h => h) (Or.inr ⟨by rfl, rfl⟩) ?_ ?_
       rotate_left
       ·simp only [Act.put, Sh.s1, Sh.s2, Sh.s3, i64_w, i32_w]
        rfl
       refine pure_ (i := 21) (N := some 69) (v := undef) (a' := ?_) (U 30 22) rfl rfl (by kernel_rfl) (fun _ _ _ h => h) (Or.inr ⟨by rfl, rfl⟩) ?_ ?_
       rotate_left
       ·simp only [Act.put, Sh.s1, Sh.s2, Sh.s3, i64_w, i32_w]
        rfl
       refine pure_ (i := 22) (N := some 70) (v := undef) (a' := ?_) (U 30 23) rfl rfl (by kernel_rfl) (fun _ _ _ h => h) (Or.inr ⟨by rfl, rfl⟩) ?_ ?_
       rotate_left
       ·simp only [Act.put, Sh.s1, Sh.s2, Sh.s3, i64_w, i32_w]
        rfl
       refine pure_ (i := 23) (N := some 71) (v := undef) (a' := ?_) (U 30 24) rfl rfl (by kernel_rfl) (fun _ _ _ h => h) (Or.inr ⟨by rfl, rfl⟩) ?_ ?_
       rotate_left
       ·simp only [Act.put, Sh.s1, Sh.s2, Sh.s3, i64_w, i32_w]
        rfl
       refine pure_ (i := 24) (N := some 72) (v := undef) (a' := ?_) (U 30 25) rfl rfl (by kernel_rfl) (fun _ _ _ h => h) (Or.inr ⟨by rfl, rfl⟩) ?_ ?_
       rotate_left
       ·simp only [Act.put, Sh.s1, Sh.s2, Sh.s3, i64_w, i32_w]
        rfl
       refine pure_ (i := 25) (N := some 73) (v := undef) (a' := ?_) (U 30 26) rfl rfl (by kernel_rfl) (fun _ _ _ h => h) (Or.inr ⟨by rfl, rfl⟩) ?_ ?_
       rotate_left
       ·simp only [Act.put, Sh.s1, Sh.s2, Sh.s3, i64_w, i32_w]
        rfl
       refine pure_ (i := 26) (N := some 74) (v := undef) (a' := ?_) (U 30 27) rfl rfl (by kernel_rfl) (fun _ _ _ h => h) (Or.inr ⟨by rfl, rfl⟩) ?_ ?_
       rotate_left
       ·simp only [Act.put, Sh.s1, Sh.s2, Sh.s3, i64_w, i32_w]
        rfl
       refine pure_ (i := 27) (N := some 75) (v := undef) (a' := ?_) (U 30 28) rfl rfl (by kernel_rfl) (fun _ _ _ h => h) (Or.inr ⟨by rfl, rfl⟩) ?_ ?_
       rotate_left
       ·simp only [Act.put, Sh.s1, Sh.s2, Sh.s3, i64_w, i32_w]
        rfl
       refine pure_ (i := 28) (N := some 76) (v := undef) (a' := ?_) (U 30 29) rfl rfl (by kernel_rfl) (fun _ _ _ h => h) (Or.inr ⟨by rfl, rfl⟩) ?_ ?_
       rotate_left
       ·simp only [Act.put, Sh.s1, Sh.s2, Sh.s3, i64_w, i32_w]
        rfl
       refine pure_ (i := 29) (N := some 77) (v := ?_) (a' := ?_) (U 30 30) rfl rfl (by kernel_rfl) (fun _ _ _ h => h) (Or.inl ⟨by rfl, ?_⟩) ?_ ?_
       rotate_left
       ·intro w'
        go_simp
        with_reducible rfl
       rotate_left
       ·simp only [Act.put, Sh.s1, Sh.s2, Sh.s3, i64_w, i32_w]
        rfl
       refine done_ (by kernel_rfl) ?_
       clear hHeld
       go_wp2
       go_meet
       case rel => exact ⟨by rw [G0.out], ⟨HI.out.below (by first | exact Below.refl _ _ | exact below_drew (Below.refl _ _))⟩, ⟨KK.out.below (by first | exact Below.refl _ _ | exact below_drew (Below.refl _ _))⟩⟩
      ·have KWV' := Aside0.mk (KWV.out.trans h1)
       clear KWV
       have KWV := KWV'
       clear KWV'
       have obd := obj_bd p.th k.f0 k.f1
       have obp : 0 < objF p.th k.f0 k.f1 := by
        have hq := KWV.out
        unfold weaklyF at hq
        simp only [Bool.and_eq_true, decide_eq_true_eq] at hq
        exact hq.2
       rw [KOV.out] at obd obp
       have hm := HM.out
       have hlv := HLV.out
       obtain ⟨ki, hki⟩ : ∃ x : Int, kov - 1 = x := ⟨_, rfl⟩
       have ewo : IntKind.i64.wrap (kov - 1) = ki := (i64_w _).trans ((w64i_ (by omega) (by omega)).trans hki)
       have gb' : gb = !rdOf false p.live ki := by rw [← GB.out, e1, e2, h1, hki]; simp
       have o0 : 0 ≤ ki := by omega
       have o1 : ki < p.live.length := by omega
       obtain ⟨gl, lcap, l0, lc⟩ := HI.out.lived ki o0 o1
       have GB' := Aside0.mk gb'
       replace o0 := eq_true o0
       replace o1 := eq_true o1
       clear hk0 hw hk1 h1 e2 obd obp hm hlv hki gb'
       rcases h1 : rdOf false p.live ki with _ | _
       ·rw [h1] at lc
        have G0 := Aside0.mk (show gb = true by rw [GB'.out, h1]; rfl)
        clear h1
        refine start_ (n := 30) (S := fun w' : World => w'.cell? ⟨wb, 0, none⟩ = some (.int .i64 wv) ∧ w'.cell? ⟨xb, 0, none⟩ = some (.pointer (some ⟨p.g, 0, none⟩)) ∧ w'.cell? ⟨tb, 3, none⟩ = some (.slice (some ad) sl.length c) ∧ w'.cell? (ad.add (key.toNat * 2)) = some (.int .i64 k.f0) ∧ w'.cell? ⟨(ad.add (key.toNat * 2)).block, (ad.add (key.toNat * 2)).off + 1, none⟩ = some (.int .i64 k.f1) ∧ w'.cell? ⟨p.ob, 0, none⟩ = some (.slice (some ⟨gl, 0, none⟩) p.live.length lcap) ∧ w'.cell? ⟨gl, ki.toNat, none⟩ = some (.bool false)) (ds := []) (U 30 0) (by kernel_rfl) rfl rfl ⟨wb0, xb0, z3, k0, k1, l0, lc⟩ (fun hHeld => ?_)
        refine pure_ (i := 0) (N := some 48) (v := ?_) (a' := ?_) (U 30 1) rfl rfl (by kernel_rfl) (fun _ _ _ h => h) (Or.inl ⟨by rfl, ?_⟩) ?_ ?_
        rotate_left
        ·intro w'
         go_simp
         with_reducible rfl
        rotate_left
        ·simp only [Act.put, Sh.s1, Sh.s2, Sh.s3, i64_w, i32_w]
         rfl
        refine pure_ (i := 1) (N := some 49) (v := ?_) (a' := ?_) (U 30 2) rfl rfl (by kernel_rfl) (fun _ _ _ h => h) (Or.inl ⟨by rfl, ?_⟩) ?_ ?_
        rotate_left
        ·intro w'
         go_simp
         with_reducible rfl
        rotate_left
        ·simp only [Act.put, Sh.s1, Sh.s2, Sh.s3, i64_w, i32_w]
         rfl
        refine pure_ (i := 2) (N := some 50) (v := ?_) (a' := ?_) (U 30 3) rfl rfl (by kernel_rfl) (fun _ _ _ h => h) (Or.inl ⟨by rfl, ?_⟩) ?_ ?_
        rotate_left
        ·intro w'
         go_simp
         with_reducible rfl
        rotate_left
        ·simp only [Act.put, Sh.s1, Sh.s2, Sh.s3, i64_w, i32_w]
         rfl
        refine take_ (i := 3) (N := some 51) (v := ?_) (a' := ?_) (U 30 4) rfl rfl (by kernel_rfl) (fun _ _ _ h => h) (Or.inl ⟨by rfl, ?_⟩) hHeld ?_ ?_
        rotate_left
        ·rintro w' ⟨t0_, t1_, t2_, t3_, t4_, t5_, t6_⟩
         go_simp
         with_reducible rfl
        rotate_left
        ·simp only [Act.put, Sh.s1, Sh.s2, Sh.s3, i64_w, i32_w]
         rfl
        refine pure_ (i := 4) (N := some 52) (v := ?_) (a' := ?_) (U 30 5) rfl rfl (by kernel_rfl) (fun _ _ _ h => h) (Or.inl ⟨by rfl, ?_⟩) ?_ ?_
        rotate_left
        ·intro w'
         go_simp
         with_reducible rfl
        rotate_left
        ·simp only [Act.put, Sh.s1, Sh.s2, Sh.s3, i64_w, i32_w]
         rfl
        refine pure_ (i := 5) (N := some 53) (v := ?_) (a' := ?_) (U 30 6) rfl rfl (by kernel_rfl) (fun _ _ _ h => h) (Or.inl ⟨by rfl, ?_⟩) ?_ ?_
        rotate_left
        ·intro w'
         go_simp
         with_reducible rfl
        rotate_left
        ·simp only [Act.put, Sh.s1, Sh.s2, Sh.s3, i64_w, i32_w]
         rfl
        refine pure_ (i := 6) (N := some 54) (v := ?_) (a' := ?_) (U 30 7) rfl rfl (by kernel_rfl) (fun _ _ _ h => h) (Or.inl ⟨by rfl, ?_⟩) ?_ ?_
        rotate_left
        ·intro w'
         go_simp
         with_reducible rfl
        rotate_left
        ·simp only [Act.put, Sh.s1, Sh.s2, Sh.s3, i64_w, i32_w]
         rfl
        refine take_ (i := 7) (N := some 55) (v := ?_) (a' := ?_) (U 30 8) rfl rfl (by kernel_rfl) (fun _ _ _ h => h) (Or.inl ⟨by rfl, ?_⟩) hHeld ?_ ?_
        rotate_left
        ·rintro w' ⟨t0_, t1_, t2_, t3_, t4_, t5_, t6_⟩
         go_simp
         with_reducible rfl
        rotate_left
        ·simp only [Act.put, Sh.s1, Sh.s2, Sh.s3, i64_w, i32_w]
         rfl
        refine pure_ (i := 8) (N := some 56) (v := ?_) (a' := ?_) (U 30 9) rfl rfl (by kernel_rfl) (fun _ _ _ h => h) (Or.inl ⟨by rfl, ?_⟩) ?_ ?_
        rotate_left
        ·intro w'
         go_simp
         with_reducible rfl
        rotate_left
        ·simp only [Act.put, Sh.s1, Sh.s2, Sh.s3, i64_w, i32_w]
         rfl
        refine take_ (i := 9) (N := some 57) (v := ?_) (a' := ?_) (U 30 10) rfl rfl (by kernel_rfl) (fun _ _ _ h => h) (Or.inl ⟨by rfl, ?_⟩) hHeld ?_ ?_
        rotate_left
        ·rintro w' ⟨t0_, t1_, t2_, t3_, t4_, t5_, t6_⟩
         go_simp
         with_reducible rfl
        rotate_left
        ·simp only [Act.put, Sh.s1, Sh.s2, Sh.s3, i64_w, i32_w]
         rfl
        refine pure_ (i := 10) (N := some 58) (v := ?_) (a' := ?_) (U 30 11) rfl rfl (by kernel_rfl) (fun _ _ _ h => h) (Or.inl ⟨by rfl, ?_⟩) ?_ ?_
        rotate_left
        ·intro w'
         go_simp
         with_reducible rfl
        rotate_left
        ·simp only [Act.put, Sh.s1, Sh.s2, Sh.s3, i64_w, i32_w]
         rfl
        refine pure_ (i := 11) (N := some 59) (v := ?_) (a' := ?_) (U 30 12) rfl rfl (by kernel_rfl) (fun _ _ _ h => h) (Or.inl ⟨by rfl, ?_⟩) ?_ ?_
        rotate_left
        ·intro w'
         go_simp
         with_reducible rfl
        rotate_left
        ·simp only [Act.put, Sh.s1, Sh.s2, Sh.s3, i64_w, i32_w]
         rfl
        refine take_ (i := 12) (N := some 60) (v := ?_) (a' := ?_) (U 30 13) rfl rfl (by kernel_rfl) (fun _ _ _ h => h) (Or.inl ⟨by rfl, ?_⟩) hHeld ?_ ?_
        rotate_left
        ·rintro w' ⟨t0_, t1_, t2_, t3_, t4_, t5_, t6_⟩
         go_simp
         with_reducible rfl
        rotate_left
        ·simp only [Act.put, Sh.s1, Sh.s2, Sh.s3, i64_w, i32_w]
         rfl
        refine one_ (i := 13) (N := some 61) (U 30 14) rfl rfl (by kernel_rfl) (by decide) (fun K hK => ?_)
        refine goes_ Try.func40 (by kernel_rfl) rfl #[.pointer (some ⟨p.g, 0, none⟩), .agg #[.int .i64 k.f0, .int .i64 k.f1]] (by rfl) rfl rfl (by (try simp only [List.map_toArray, List.map_cons, List.map_nil]); first | done | rfl) ?_
        refine (HI.out.weakly HC.out HM.out (below_drew (Below.refl _ _)) k.f0 k.f1).mono ?_
        rintro e w3 ⟨rfl, h3⟩
        rw [KWV.out]
        replace z3 := (h3.cell (cell_lt z3)).trans z3
        replace wb0 := (h3.cell (cell_lt wb0)).trans wb0
        replace xb0 := (h3.cell (cell_lt xb0)).trans xb0
        replace ib0 := (h3.cell (cell_lt ib0)).trans ib0
        replace v0 := (h3.cell (cell_lt v0)).trans v0
        replace v1 := (h3.cell (cell_lt v1)).trans v1
        replace k0 := (h3.cell (cell_lt k0)).trans k0
        replace k1 := (h3.cell (cell_lt k1)).trans k1
        replace l0 := (h3.cell (cell_lt l0)).trans l0
        replace lc := (h3.cell (cell_lt lc)).trans lc
        have n1 := Aside0.mk (HI.out.below h3)
        have n2 := Aside0.mk (KK.out.below h3)
        clear h3 HI KK
        have HI := n1
        have KK := n2
        clear n1 n2
        refine ⟨_, rfl, ?_⟩
        refine hK.out _ _ ⟨wb0, xb0, z3, k0, k1, l0, lc⟩ (fun hHeld => ?_)
        clear hK K
        refine norm_ (a' := ?_) ?_ ?_
        rotate_left
        ·show Act.put _ (some 61) _ = _
         simp only [Act.put, Sh.s1, Sh.s2, Sh.s3, i64_w, i32_w]
         rfl
        refine pure_ (i := 14) (N := some 62) (v := ?_) (a' := ?_) (U 30 15) rfl rfl (by kernel_rfl) (fun _ _ _ h => h) (Or.inl ⟨by rfl, ?_⟩) ?_ ?_
        rotate_left
        ·intro w'
         go_simp
         with_reducible rfl
        rotate_left
        ·simp only [Act.put, Sh.s1, Sh.s2, Sh.s3, i64_w, i32_w]
         rfl
        refine pure_ (i := 15) (N := some 63) (v := ?_) (a' := ?_) (U 30 16) rfl rfl (by kernel_rfl) (fun _ _ _ h => h) (Or.inl ⟨by rfl, ?_⟩) ?_ ?_
        rotate_left
        ·intro w'
         go_simp
         with_reducible rfl
        rotate_left
        ·simp only [Act.put, Sh.s1, Sh.s2, Sh.s3, i64_w, i32_w]
         rfl
        refine pure_ (i := 16) (N := some 64) (v := ?_) (a' := ?_) (U 30 17) rfl rfl (by kernel_rfl) (fun _ _ _ h => h) (Or.inl ⟨by rfl, ?_⟩) ?_ ?_
        rotate_left
        ·intro w'
         go_simp
         with_reducible rfl
        rotate_left
        ·simp only [Act.put, Sh.s1, Sh.s2, Sh.s3, i64_w, i32_w]
         rfl
        refine take_ (i := 17) (N := some 65) (v := ?_) (a' := ?_) (U 30 18) rfl rfl (by kernel_rfl) (fun _ _ _ h => h) (Or.inl ⟨by rfl, ?_⟩) hHeld ?_ ?_
        rotate_left
        ·rintro w' ⟨t0_, t1_, t2_, t3_, t4_, t5_, t6_⟩
         go_simp
         with_reducible rfl
        rotate_left
        ·simp only [Act.put, Sh.s1, Sh.s2, Sh.s3, i64_w, i32_w]
         rfl
        refine take_ (i := 18) (N := some 66) (v := ?_) (a' := ?_) (U 30 19) rfl rfl (by kernel_rfl) (fun _ _ _ h => h) (Or.inl ⟨by rfl, ?_⟩) hHeld ?_ ?_
        rotate_left
        ·rintro w' ⟨t0_, t1_, t2_, t3_, t4_, t5_, t6_⟩
         go_simp
         with_reducible rfl
        rotate_left
        ·simp only [Act.put, Sh.s1, Sh.s2, Sh.s3, i64_w, i32_w]
         rfl
        refine pure_ (i := 19) (N := some 67) (v := ?_) (a' := ?_) (U 30 20) rfl rfl (by kernel_rfl) (fun _ _ _ h => h) (Or.inl ⟨by rfl, ?_⟩) ?_ ?_
        rotate_left
        ·intro w'
         go_simp
         with_reducible rfl
        rotate_left
        ·simp only [Act.put, Sh.s1, Sh.s2, Sh.s3, i64_w, i32_w]
         rfl
        refine take_ (i := 20) (N := some 68) (v := ?_) (a' := ?_) (U 30 21) rfl rfl (by kernel_rfl) (fun _ _ _ h => h) (Or.inl ⟨by rfl, ?_⟩) hHeld ?_ ?_
        rotate_left
        ·rintro w' ⟨t0_, t1_, t2_, t3_, t4_, t5_, t6_⟩
         go_simp
         with_reducible rfl
        rotate_left
        ·simp only [Act.put, Sh.s1, Sh.s2, Sh.s3, i64_w, i32_w]
         rfl
        refine pure_ (i := 21) (N := some 69) (v := ?_) (a' := ?_) (U 30 22) rfl rfl (by kernel_rfl) (fun _ _ _ h => h) (Or.inl ⟨by rfl, ?_⟩) ?_ ?_
        rotate_left
        ·intro w'
         go_simp
         with_reducible rfl
        rotate_left
        ·simp only [Act.put, Sh.s1, Sh.s2, Sh.s3, i64_w, i32_w]
         rfl
        refine pure_ (i := 22) (N := some 70) (v := ?_) (a' := ?_) (U 30 23) rfl rfl (by kernel_rfl) (fun _ _ _ h => h) (Or.inl ⟨by rfl, ?_⟩) ?_ ?_
        rotate_left
        ·intro w'
         go_simp
         with_reducible rfl
        rotate_left
        ·simp only [Act.put, Sh.s1, Sh.s2, Sh.s3, i64_w, i32_w]
         rfl
        refine take_ (i := 23) (N := some 71) (v := ?_) (a' := ?_) (U 30 24) rfl rfl (by kernel_rfl) (fun _ _ _ h => h) (Or.inl ⟨by rfl, ?_⟩) hHeld ?_ ?_
        rotate_left
        ·rintro w' ⟨t0_, t1_, t2_, t3_, t4_, t5_, t6_⟩
         go_simp
         with_reducible rfl
        rotate_left
        ·simp only [Act.put, Sh.s1, Sh.s2, Sh.s3, i64_w, i32_w]
         rfl
        refine one_ (i := 24) (N := some 72) (U 30 25) rfl rfl (by kernel_rfl) (by decide) (fun K hK => ?_)
        refine goes_ Try.func33 (by kernel_rfl) rfl #[.pointer (some ⟨p.g, 0, none⟩), .agg #[.int .i64 k.f0, .int .i64 k.f1]] (by rfl) rfl rfl (by (try simp only [List.map_toArray, List.map_cons, List.map_nil]); first | done | rfl) ?_
        refine (HI.out.object HC.out HM.out (Below.refl _ _) k.f0 k.f1).mono ?_
        rintro e w3 ⟨rfl, h3⟩
        rw [KOV.out]
        replace z3 := (h3.cell (cell_lt z3)).trans z3
        replace wb0 := (h3.cell (cell_lt wb0)).trans wb0
        replace xb0 := (h3.cell (cell_lt xb0)).trans xb0
        replace ib0 := (h3.cell (cell_lt ib0)).trans ib0
        replace v0 := (h3.cell (cell_lt v0)).trans v0
        replace v1 := (h3.cell (cell_lt v1)).trans v1
        replace k0 := (h3.cell (cell_lt k0)).trans k0
        replace k1 := (h3.cell (cell_lt k1)).trans k1
        replace l0 := (h3.cell (cell_lt l0)).trans l0
        replace lc := (h3.cell (cell_lt lc)).trans lc
        have n1 := Aside0.mk (HI.out.below h3)
        have n2 := Aside0.mk (KK.out.below h3)
        clear h3 HI KK
        have HI := n1
        have KK := n2
        clear n1 n2
        refine ⟨_, rfl, ?_⟩
        refine hK.out _ _ ⟨wb0, xb0, z3, k0, k1, l0, lc⟩ (fun hHeld => ?_)
        clear hK K
        refine norm_ (a' := ?_) ?_ ?_
        rotate_left
        ·show Act.put _ (some 72) _ = _
         simp only [Act.put, Sh.s1, Sh.s2, Sh.s3, i64_w, i32_w]
         rfl
        refine pure_ (i := 25) (N := some 73) (v := ?_) (a' := ?_) (U 30 26) rfl rfl (by kernel_rfl) (fun _ _ _ h => h) (Or.inl ⟨by rfl, ?_⟩) ?_ ?_
        rotate_left
        ·intro w'
         go_simp
         with_reducible rfl
        rotate_left
        ·simp only [Act.put, Sh.s1, Sh.s2, Sh.s3, i64_w, i32_w]
         rfl
        refine pure_ (i := 26) (N := some 74) (v := ?_) (a' := ?_) (U 30 27) rfl rfl (by kernel_rfl) (fun _ _ _ h => h) (Or.inl ⟨by rfl, ?_⟩) ?_ ?_
        rotate_left
        ·intro w'
         go_simp
         with_reducible rfl
        rotate_left
        ·simp only [Act.put, Sh.s1, Sh.s2, Sh.s3, i64_w, i32_w]
         rfl
        refine take_ (i := 27) (N := some 75) (v := ?_) (a' := ?_) (U 30 28) rfl rfl (by kernel_rfl) (fun _ _ _ h => h) (Or.inl ⟨by rfl, ?_⟩) hHeld ?_ ?_
        rotate_left
        ·rintro w' ⟨t0_, t1_, t2_, t3_, t4_, t5_, t6_⟩
         go_simp
         with_reducible rfl
        rotate_left
        ·simp only [Act.put, Sh.s1, Sh.s2, Sh.s3, i64_w, i32_w]
         rfl
        refine pure_ (i := 28) (N := some 76) (v := ?_) (a' := ?_) (U 30 29) rfl rfl (by kernel_rfl) (fun _ _ _ h => h) (Or.inl ⟨by rfl, ?_⟩) ?_ ?_
        rotate_left
        ·intro w'
         go_simp
         with_reducible rfl
        rotate_left
        ·simp only [Act.put, Sh.s1, Sh.s2, Sh.s3, i64_w, i32_w]
         rfl
        refine pure_ (i := 29) (N := some 77) (v := ?_) (a' := ?_) (U 30 30) rfl rfl (by kernel_rfl) (fun _ _ _ h => h) (Or.inl ⟨by rfl, ?_⟩) ?_ ?_
        rotate_left
        ·intro w'
         go_simp
         with_reducible rfl
        rotate_left
        ·simp only [Act.put, Sh.s1, Sh.s2, Sh.s3, i64_w, i32_w]
         rfl
        refine done_ (by kernel_rfl) ?_
        clear hHeld
        go_wp2
        go_meet
        case rel => exact ⟨by rw [G0.out], ⟨HI.out.below (by first | exact Below.refl _ _ | exact below_drew (Below.refl _ _))⟩, ⟨KK.out.below (by first | exact Below.refl _ _ | exact below_drew (Below.refl _ _))⟩⟩
       ·rw [h1] at lc
        have G0 := Aside0.mk (show gb = false by rw [GB'.out, h1]; rfl)
        clear h1
        refine start_ (n := 30) (S := fun w' : World => w'.cell? ⟨wb, 0, none⟩ = some (.int .i64 wv) ∧ w'.cell? ⟨xb, 0, none⟩ = some (.pointer (some ⟨p.g, 0, none⟩)) ∧ w'.cell? ⟨tb, 3, none⟩ = some (.slice (some ad) sl.length c) ∧ w'.cell? (ad.add (key.toNat * 2)) = some (.int .i64 k.f0) ∧ w'.cell? ⟨(ad.add (key.toNat * 2)).block, (ad.add (key.toNat * 2)).off + 1, none⟩ = some (.int .i64 k.f1) ∧ w'.cell? ⟨p.ob, 0, none⟩ = some (.slice (some ⟨gl, 0, none⟩) p.live.length lcap) ∧ w'.cell? ⟨gl, ki.toNat, none⟩ = some (.bool true)) (ds := []) (U 30 0) (by kernel_rfl) rfl rfl ⟨wb0, xb0, z3, k0, k1, l0, lc⟩ (fun hHeld => ?_)
        refine pure_ (i := 0) (N := some 48) (v := ?_) (a' := ?_) (U 30 1) rfl rfl (by kernel_rfl) (fun _ _ _ h => h) (Or.inl ⟨by rfl, ?_⟩) ?_ ?_
        rotate_left
        ·intro w'
         go_simp
         with_reducible rfl
        rotate_left
        ·simp only [Act.put, Sh.s1, Sh.s2, Sh.s3, i64_w, i32_w]
         rfl
        refine pure_ (i := 1) (N := some 49) (v := ?_) (a' := ?_) (U 30 2) rfl rfl (by kernel_rfl) (fun _ _ _ h => h) (Or.inl ⟨by rfl, ?_⟩) ?_ ?_
        rotate_left
        ·intro w'
         go_simp
         with_reducible rfl
        rotate_left
        ·simp only [Act.put, Sh.s1, Sh.s2, Sh.s3, i64_w, i32_w]
         rfl
        refine pure_ (i := 2) (N := some 50) (v := ?_) (a' := ?_) (U 30 3) rfl rfl (by kernel_rfl) (fun _ _ _ h => h) (Or.inl ⟨by rfl, ?_⟩) ?_ ?_
        rotate_left
        ·intro w'
         go_simp
         with_reducible rfl
        rotate_left
        ·simp only [Act.put, Sh.s1, Sh.s2, Sh.s3, i64_w, i32_w]
         rfl
        refine take_ (i := 3) (N := some 51) (v := ?_) (a' := ?_) (U 30 4) rfl rfl (by kernel_rfl) (fun _ _ _ h => h) (Or.inl ⟨by rfl, ?_⟩) hHeld ?_ ?_
        rotate_left
        ·rintro w' ⟨t0_, t1_, t2_, t3_, t4_, t5_, t6_⟩
         go_simp
         with_reducible rfl
        rotate_left
        ·simp only [Act.put, Sh.s1, Sh.s2, Sh.s3, i64_w, i32_w]
         rfl
        refine pure_ (i := 4) (N := some 52) (v := ?_) (a' := ?_) (U 30 5) rfl rfl (by kernel_rfl) (fun _ _ _ h => h) (Or.inl ⟨by rfl, ?_⟩) ?_ ?_
        rotate_left
        ·intro w'
         go_simp
         with_reducible rfl
        rotate_left
        ·simp only [Act.put, Sh.s1, Sh.s2, Sh.s3, i64_w, i32_w]
         rfl
        refine pure_ (i := 5) (N := some 53) (v := ?_) (a' := ?_) (U 30 6) rfl rfl (by kernel_rfl) (fun _ _ _ h => h) (Or.inl ⟨by rfl, ?_⟩) ?_ ?_
        rotate_left
        ·intro w'
         go_simp
         with_reducible rfl
        rotate_left
        ·simp only [Act.put, Sh.s1, Sh.s2, Sh.s3, i64_w, i32_w]
         rfl
        refine pure_ (i := 6) (N := some 54) (v := ?_) (a' := ?_) (U 30 7) rfl rfl (by kernel_rfl) (fun _ _ _ h => h) (Or.inl ⟨by rfl, ?_⟩) ?_ ?_
        rotate_left
        ·intro w'
         go_simp
         with_reducible rfl
        rotate_left
        ·simp only [Act.put, Sh.s1, Sh.s2, Sh.s3, i64_w, i32_w]
         rfl
        refine take_ (i := 7) (N := some 55) (v := ?_) (a' := ?_) (U 30 8) rfl rfl (by kernel_rfl) (fun _ _ _ h => h) (Or.inl ⟨by rfl, ?_⟩) hHeld ?_ ?_
        rotate_left
        ·rintro w' ⟨t0_, t1_, t2_, t3_, t4_, t5_, t6_⟩
         go_simp
         with_reducible rfl
        rotate_left
        ·simp only [Act.put, Sh.s1, Sh.s2, Sh.s3, i64_w, i32_w]
         rfl
        refine pure_ (i := 8) (N := some 56) (v := ?_) (a' := ?_) (U 30 9) rfl rfl (by kernel_rfl) (fun _ _ _ h => h) (Or.inl ⟨by rfl, ?_⟩) ?_ ?_
        rotate_left
        ·intro w'
         go_simp
         with_reducible rfl
        rotate_left
        ·simp only [Act.put, Sh.s1, Sh.s2, Sh.s3, i64_w, i32_w]
         rfl
        refine take_ (i := 9) (N := some 57) (v := ?_) (a' := ?_) (U 30 10) rfl rfl (by kernel_rfl) (fun _ _ _ h => h) (Or.inl ⟨by rfl, ?_⟩) hHeld ?_ ?_
        rotate_left
        ·rintro w' ⟨t0_, t1_, t2_, t3_, t4_, t5_, t6_⟩
         go_simp
         with_reducible rfl
        rotate_left
        ·simp only [Act.put, Sh.s1, Sh.s2, Sh.s3, i64_w, i32_w]
         rfl
        refine pure_ (i := 10) (N := some 58) (v := ?_) (a' := ?_) (U 30 11) rfl rfl (by kernel_rfl) (fun _ _ _ h => h) (Or.inl ⟨by rfl, ?_⟩) ?_ ?_
        rotate_left
        ·intro w'
         go_simp
         with_reducible rfl
        rotate_left
        ·simp only [Act.put, Sh.s1, Sh.s2, Sh.s3, i64_w, i32_w]
         rfl
        refine pure_ (i := 11) (N := some 59) (v := ?_) (a' := ?_) (U 30 12) rfl rfl (by kernel_rfl) (fun _ _ _ h => h) (Or.inl ⟨by rfl, ?_⟩) ?_ ?_
        rotate_left
        ·intro w'
         go_simp
         with_reducible rfl
        rotate_left
        ·simp only [Act.put, Sh.s1, Sh.s2, Sh.s3, i64_w, i32_w]
         rfl
        refine take_ (i := 12) (N := some 60) (v := ?_) (a' := ?_) (U 30 13) rfl rfl (by kernel_rfl) (fun _ _ _ h => h) (Or.inl ⟨by rfl, ?_⟩) hHeld ?_ ?_
        rotate_left
        ·rintro w' ⟨t0_, t1_, t2_, t3_, t4_, t5_, t6_⟩
         go_simp
         with_reducible rfl
        rotate_left
        ·simp only [Act.put, Sh.s1, Sh.s2, Sh.s3, i64_w, i32_w]
         rfl
        refine one_ (i := 13) (N := some 61) (U 30 14) rfl rfl (by kernel_rfl) (by decide) (fun K hK => ?_)
        refine goes_ Try.func40 (by kernel_rfl) rfl #[.pointer (some ⟨p.g, 0, none⟩), .agg #[.int .i64 k.f0, .int .i64 k.f1]] (by rfl) rfl rfl (by (try simp only [List.map_toArray, List.map_cons, List.map_nil]); first | done | rfl) ?_
        refine (HI.out.weakly HC.out HM.out (below_drew (Below.refl _ _)) k.f0 k.f1).mono ?_
        rintro e w3 ⟨rfl, h3⟩
        rw [KWV.out]
        replace z3 := (h3.cell (cell_lt z3)).trans z3
        replace wb0 := (h3.cell (cell_lt wb0)).trans wb0
        replace xb0 := (h3.cell (cell_lt xb0)).trans xb0
        replace ib0 := (h3.cell (cell_lt ib0)).trans ib0
        replace v0 := (h3.cell (cell_lt v0)).trans v0
        replace v1 := (h3.cell (cell_lt v1)).trans v1
        replace k0 := (h3.cell (cell_lt k0)).trans k0
        replace k1 := (h3.cell (cell_lt k1)).trans k1
        replace l0 := (h3.cell (cell_lt l0)).trans l0
        replace lc := (h3.cell (cell_lt lc)).trans lc
        have n1 := Aside0.mk (HI.out.below h3)
        have n2 := Aside0.mk (KK.out.below h3)
        clear h3 HI KK
        have HI := n1
        have KK := n2
        clear n1 n2
        refine ⟨_, rfl, ?_⟩
        refine hK.out _ _ ⟨wb0, xb0, z3, k0, k1, l0, lc⟩ (fun hHeld => ?_)
        clear hK K
        refine norm_ (a' := ?_) ?_ ?_
        rotate_left
        ·show Act.put _ (some 61) _ = _
         simp only [Act.put, Sh.s1, Sh.s2, Sh.s3, i64_w, i32_w]
         rfl
        refine pure_ (i := 14) (N := some 62) (v := ?_) (a' := ?_) (U 30 15) rfl rfl (by kernel_rfl) (fun _ _ _ h => h) (Or.inl ⟨by rfl, ?_⟩) ?_ ?_
        rotate_left
        ·intro w'
         go_simp
         with_reducible rfl
        rotate_left
        ·simp only [Act.put, Sh.s1, Sh.s2, Sh.s3, i64_w, i32_w]
         rfl
        refine pure_ (i := 15) (N := some 63) (v := ?_) (a' := ?_) (U 30 16) rfl rfl (by kernel_rfl) (fun _ _ _ h => h) (Or.inl ⟨by rfl, ?_⟩) ?_ ?_
        rotate_left
        ·intro w'
         go_simp
         with_reducible rfl
        rotate_left
        ·simp only [Act.put, Sh.s1, Sh.s2, Sh.s3, i64_w, i32_w]
         rfl
        refine pure_ (i := 16) (N := some 64) (v := ?_) (a' := ?_) (U 30 17) rfl rfl (by kernel_rfl) (fun _ _ _ h => h) (Or.inl ⟨by rfl, ?_⟩) ?_ ?_
        rotate_left
        ·intro w'
         go_simp
         with_reducible rfl
        rotate_left
        ·simp only [Act.put, Sh.s1, Sh.s2, Sh.s3, i64_w, i32_w]
         rfl
        refine take_ (i := 17) (N := some 65) (v := ?_) (a' := ?_) (U 30 18) rfl rfl (by kernel_rfl) (fun _ _ _ h => h) (Or.inl ⟨by rfl, ?_⟩) hHeld ?_ ?_
        rotate_left
        ·rintro w' ⟨t0_, t1_, t2_, t3_, t4_, t5_, t6_⟩
         go_simp
         with_reducible rfl
        rotate_left
        ·simp only [Act.put, Sh.s1, Sh.s2, Sh.s3, i64_w, i32_w]
         rfl
        refine take_ (i := 18) (N := some 66) (v := ?_) (a' := ?_) (U 30 19) rfl rfl (by kernel_rfl) (fun _ _ _ h => h) (Or.inl ⟨by rfl, ?_⟩) hHeld ?_ ?_
        rotate_left
        ·rintro w' ⟨t0_, t1_, t2_, t3_, t4_, t5_, t6_⟩
         go_simp
         with_reducible rfl
        rotate_left
        ·simp only [Act.put, Sh.s1, Sh.s2, Sh.s3, i64_w, i32_w]
         rfl
        refine pure_ (i := 19) (N := some 67) (v := ?_) (a' := ?_) (U 30 20) rfl rfl (by kernel_rfl) (fun _ _ _ h => h) (Or.inl ⟨by rfl, ?_⟩) ?_ ?_
        rotate_left
        ·intro w'
         go_simp
         with_reducible rfl
        rotate_left
        ·simp only [Act.put, Sh.s1, Sh.s2, Sh.s3, i64_w, i32_w]
         rfl
        refine take_ (i := 20) (N := some 68) (v := ?_) (a' := ?_) (U 30 21) rfl rfl (by kernel_rfl) (fun _ _ _ h => h) (Or.inl ⟨by rfl, ?_⟩) hHeld ?_ ?_
        rotate_left
        ·rintro w' ⟨t0_, t1_, t2_, t3_, t4_, t5_, t6_⟩
         go_simp
         with_reducible rfl
        rotate_left
        ·simp only [Act.put, Sh.s1, Sh.s2, Sh.s3, i64_w, i32_w]
         rfl
        refine pure_ (i := 21) (N := some 69) (v := ?_) (a' := ?_) (U 30 22) rfl rfl (by kernel_rfl) (fun _ _ _ h => h) (Or.inl ⟨by rfl, ?_⟩) ?_ ?_
        rotate_left
        ·intro w'
         go_simp
         with_reducible rfl
        rotate_left
        ·simp only [Act.put, Sh.s1, Sh.s2, Sh.s3, i64_w, i32_w]
         rfl
        refine pure_ (i := 22) (N := some 70) (v := ?_) (a' := ?_) (U 30 23) rfl rfl (by kernel_rfl) (fun _ _ _ h => h) (Or.inl ⟨by rfl, ?_⟩) ?_ ?_
        rotate_left
        ·intro w'
         go_simp
         with_reducible rfl
        rotate_left
        ·simp only [Act.put, Sh.s1, Sh.s2, Sh.s3, i64_w, i32_w]
         rfl
        refine take_ (i := 23) (N := some 71) (v := ?_) (a' := ?_) (U 30 24) rfl rfl (by kernel_rfl) (fun _ _ _ h => h) (Or.inl ⟨by rfl, ?_⟩) hHeld ?_ ?_
        rotate_left
        ·rintro w' ⟨t0_, t1_, t2_, t3_, t4_, t5_, t6_⟩
         go_simp
         with_reducible rfl
        rotate_left
        ·simp only [Act.put, Sh.s1, Sh.s2, Sh.s3, i64_w, i32_w]
         rfl
        refine one_ (i := 24) (N := some 72) (U 30 25) rfl rfl (by kernel_rfl) (by decide) (fun K hK => ?_)
        refine goes_ Try.func33 (by kernel_rfl) rfl #[.pointer (some ⟨p.g, 0, none⟩), .agg #[.int .i64 k.f0, .int .i64 k.f1]] (by rfl) rfl rfl (by (try simp only [List.map_toArray, List.map_cons, List.map_nil]); first | done | rfl) ?_
        refine (HI.out.object HC.out HM.out (Below.refl _ _) k.f0 k.f1).mono ?_
        rintro e w3 ⟨rfl, h3⟩
        rw [KOV.out]
        replace z3 := (h3.cell (cell_lt z3)).trans z3
        replace wb0 := (h3.cell (cell_lt wb0)).trans wb0
        replace xb0 := (h3.cell (cell_lt xb0)).trans xb0
        replace ib0 := (h3.cell (cell_lt ib0)).trans ib0
        replace v0 := (h3.cell (cell_lt v0)).trans v0
        replace v1 := (h3.cell (cell_lt v1)).trans v1
        replace k0 := (h3.cell (cell_lt k0)).trans k0
        replace k1 := (h3.cell (cell_lt k1)).trans k1
        replace l0 := (h3.cell (cell_lt l0)).trans l0
        replace lc := (h3.cell (cell_lt lc)).trans lc
        have n1 := Aside0.mk (HI.out.below h3)
        have n2 := Aside0.mk (KK.out.below h3)
        clear h3 HI KK
        have HI := n1
        have KK := n2
        clear n1 n2
        refine ⟨_, rfl, ?_⟩
        refine hK.out _ _ ⟨wb0, xb0, z3, k0, k1, l0, lc⟩ (fun hHeld => ?_)
        clear hK K
        refine norm_ (a' := ?_) ?_ ?_
        rotate_left
        ·show Act.put _ (some 72) _ = _
         simp only [Act.put, Sh.s1, Sh.s2, Sh.s3, i64_w, i32_w]
         rfl
        refine pure_ (i := 25) (N := some 73) (v := ?_) (a' := ?_) (U 30 26) rfl rfl (by kernel_rfl) (fun _ _ _ h => h) (Or.inl ⟨by rfl, ?_⟩) ?_ ?_
        rotate_left
        ·intro w'
         go_simp
         with_reducible rfl
        rotate_left
        ·simp only [Act.put, Sh.s1, Sh.s2, Sh.s3, i64_w, i32_w]
         rfl
        refine pure_ (i := 26) (N := some 74) (v := ?_) (a' := ?_) (U 30 27) rfl rfl (by kernel_rfl) (fun _ _ _ h => h) (Or.inl ⟨by rfl, ?_⟩) ?_ ?_
        rotate_left
        ·intro w'
         go_simp
         with_reducible rfl
        rotate_left
        ·simp only [Act.put, Sh.s1, Sh.s2, Sh.s3, i64_w, i32_w]
         rfl
        refine take_ (i := 27) (N := some 75) (v := ?_) (a' := ?_) (U 30 28) rfl rfl (by kernel_rfl) (fun _ _ _ h => h) (Or.inl ⟨by rfl, ?_⟩) hHeld ?_ ?_
        rotate_left
        ·rintro w' ⟨t0_, t1_, t2_, t3_, t4_, t5_, t6_⟩
         go_simp
         with_reducible rfl
        rotate_left
        ·simp only [Act.put, Sh.s1, Sh.s2, Sh.s3, i64_w, i32_w]
         rfl
        refine pure_ (i := 28) (N := some 76) (v := ?_) (a' := ?_) (U 30 29) rfl rfl (by kernel_rfl) (fun _ _ _ h => h) (Or.inl ⟨by rfl, ?_⟩) ?_ ?_
        rotate_left
        ·intro w'
         go_simp
         with_reducible rfl
        rotate_left
        ·simp only [Act.put, Sh.s1, Sh.s2, Sh.s3, i64_w, i32_w]
         rfl
        refine pure_ (i := 29) (N := some 77) (v := ?_) (a' := ?_) (U 30 30) rfl rfl (by kernel_rfl) (fun _ _ _ h => h) (Or.inl ⟨by rfl, ?_⟩) ?_ ?_
        rotate_left
        ·intro w'
         go_simp
         with_reducible rfl
        rotate_left
        ·simp only [Act.put, Sh.s1, Sh.s2, Sh.s3, i64_w, i32_w]
         rfl
        refine done_ (by kernel_rfl) ?_
        clear hHeld
        go_wp2
        go_meet
        case rel => exact ⟨by rw [G0.out], ⟨HI.out.below (by first | exact Below.refl _ _ | exact below_drew (Below.refl _ _))⟩, ⟨KK.out.below (by first | exact Below.refl _ _ | exact below_drew (Below.refl _ _))⟩⟩
    ·have e0 : decide (key ≥ 0) = false := decide_eq_false hk0
     have G0 := Aside0.mk (show gb = false by rw [← GB.out, decide_eq_false hk0]; simp)
     clear hk0
     refine start_ (n := 30) (S := fun w' : World => w'.cell? ⟨wb, 0, none⟩ = some (.int .i64 wv) ∧ True) (ds := []) (U 30 0) (by kernel_rfl) rfl rfl ⟨wb0, trivial⟩ (fun hHeld => ?_)
     refine pure_ (i := 0) (N := some 48) (v := ?_) (a' := ?_) (U 30 1) rfl rfl (by kernel_rfl) (fun _ _ _ h => h) (Or.inl ⟨by rfl, ?_⟩) ?_ ?_
     rotate_left
     ·intro w'
      go_simp
      with_reducible rfl
     rotate_left
     ·simp only [Act.put, Sh.s1, Sh.s2, Sh.s3, i64_w, i32_w]
      rfl
     refine pure_ (i := 1) (N := some 49) (v := ?_) (a' := ?_) (U 30 2) rfl rfl (by kernel_rfl) (fun _ _ _ h => h) (Or.inl ⟨by rfl, ?_⟩) ?_ ?_
     rotate_left
     ·intro w'
      go_simp
      with_reducible rfl
     rotate_left
     ·simp only [Act.put, Sh.s1, Sh.s2, Sh.s3, i64_w, i32_w]
      rfl
     refine pure_ (i := 2) (N := some 50) (v := ?_) (a' := ?_) (U 30 3) rfl rfl (by kernel_rfl) (fun _ _ _ h => h) (Or.inl ⟨by rfl, ?_⟩) ?_ ?_
     rotate_left
     ·intro w'
      go_simp
      with_reducible rfl
     rotate_left
     ·simp only [Act.put, Sh.s1, Sh.s2, Sh.s3, i64_w, i32_w]
      rfl
     refine pure_ (i := 3) (N := some 51) (v := undef) (a' := ?_) (U 30 4) rfl rfl (by kernel_rfl) (fun _ _ _ h => h) (Or.inr ⟨by rfl, rfl⟩) ?_ ?_
     rotate_left
     ·simp only [Act.put, Sh.s1, Sh.s2, Sh.s3, i64_w, i32_w]
      rfl
     refine pure_ (i := 4) (N := some 52) (v := undef) (a' := ?_) (U 30 5) rfl rfl (by kernel_rfl) (fun _ _ _ h => h) (Or.inr ⟨by rfl, rfl⟩) ?_ ?_
     rotate_left
     ·simp only [Act.put, Sh.s1, Sh.s2, Sh.s3, i64_w, i32_w]
      rfl
     refine pure_ (i := 5) (N := some 53) (v := ?_) (a' := ?_) (U 30 6) rfl rfl (by kernel_rfl) (fun _ _ _ h => h) (Or.inl ⟨by rfl, ?_⟩) ?_ ?_
     rotate_left
     ·intro w'
      go_simp
      with_reducible rfl
     rotate_left
     ·simp only [Act.put, Sh.s1, Sh.s2, Sh.s3, i64_w, i32_w]
      rfl
     refine pure_ (i := 6) (N := some 54) (v := ?_) (a' := ?_) (U 30 7) rfl rfl (by kernel_rfl) (fun _ _ _ h => h) (Or.inl ⟨by rfl, ?_⟩) ?_ ?_
     rotate_left
     ·intro w'
      go_simp
      with_reducible rfl
     rotate_left
     ·simp only [Act.put, Sh.s1, Sh.s2, Sh.s3, i64_w, i32_w]
      rfl
     refine pure_ (i := 7) (N := some 55) (v := undef) (a' := ?_) (U 30 8) rfl rfl (by kernel_rfl) (fun _ _ _ h => h) (Or.inr ⟨by rfl, rfl⟩) ?_ ?_
     rotate_left
     ·simp only [Act.put, Sh.s1, Sh.s2, Sh.s3, i64_w, i32_w]
      rfl
     refine pure_ (i := 8) (N := some 56) (v := undef) (a' := ?_) (U 30 9) rfl rfl (by kernel_rfl) (fun _ _ _ h => h) (Or.inr ⟨by rfl, rfl⟩) ?_ ?_
     rotate_left
     ·simp only [Act.put, Sh.s1, Sh.s2, Sh.s3, i64_w, i32_w]
      rfl
     refine pure_ (i := 9) (N := some 57) (v := undef) (a' := ?_) (U 30 10) rfl rfl (by kernel_rfl) (fun _ _ _ h => h) (Or.inr ⟨by rfl, rfl⟩) ?_ ?_
     rotate_left
     ·simp only [Act.put, Sh.s1, Sh.s2, Sh.s3, i64_w, i32_w]
      rfl
     refine pure_ (i := 10) (N := some 58) (v := undef) (a' := ?_) (U 30 11) rfl rfl (by kernel_rfl) (fun _ _ _ h => h) (Or.inr ⟨by rfl, rfl⟩) ?_ ?_
     rotate_left
     ·simp only [Act.put, Sh.s1, Sh.s2, Sh.s3, i64_w, i32_w]
      rfl
     refine pure_ (i := 11) (N := some 59) (v := undef) (a' := ?_) (U 30 12) rfl rfl (by kernel_rfl) (fun _ _ _ h => h) (Or.inr ⟨by rfl, rfl⟩) ?_ ?_
     rotate_left
     ·simp only [Act.put, Sh.s1, Sh.s2, Sh.s3, i64_w, i32_w]
      rfl
     refine pure_ (i := 12) (N := some 60) (v := undef) (a' := ?_) (U 30 13) rfl rfl (by kernel_rfl) (fun _ _ _ h => h) (Or.inr ⟨by rfl, rfl⟩) ?_ ?_
     rotate_left
     ·simp only [Act.put, Sh.s1, Sh.s2, Sh.s3, i64_w, i32_w]
      rfl
     refine pure_ (i := 13) (N := some 61) (v := undef) (a' := ?_) (U 30 14) rfl rfl (by kernel_rfl) (fun _ _ _ h => h) (Or.inr ⟨by rfl, rfl⟩) ?_ ?_
     rotate_left
     ·simp only [Act.put, Sh.s1, Sh.s2, Sh.s3, i64_w, i32_w]
      rfl
     refine pure_ (i := 14) (N := some 62) (v := ?_) (a' := ?_) (U 30 15) rfl rfl (by kernel_rfl) (fun _ _ _ h => h) (Or.inl ⟨by rfl, ?_⟩) ?_ ?_
     rotate_left
     ·intro w'
      go_simp
      with_reducible rfl
     rotate_left
     ·simp only [Act.put, Sh.s1, Sh.s2, Sh.s3, i64_w, i32_w]
      rfl
     refine pure_ (i := 15) (N := some 63) (v := ?_) (a' := ?_) (U 30 16) rfl rfl (by kernel_rfl) (fun _ _ _ h => h) (Or.inl ⟨by rfl, ?_⟩) ?_ ?_
     rotate_left
     ·intro w'
      go_simp
      with_reducible rfl
     rotate_left
     ·simp only [Act.put, Sh.s1, Sh.s2, Sh.s3, i64_w, i32_w]
      rfl
     refine pure_ (i := 16) (N := some 64) (v := undef) (a' := ?_) (U 30 17) rfl rfl (by kernel_rfl) (fun _ _ _ h => h) (Or.inr ⟨by rfl, rfl⟩) ?_ ?_
     rotate_left
     ·simp only [Act.put, Sh.s1, Sh.s2, Sh.s3, i64_w, i32_w]
      rfl
     refine pure_ (i := 17) (N := some 65) (v := undef) (a' := ?_) (U 30 18) rfl rfl (by kernel_rfl) (fun _ _ _ h => h) (Or.inr ⟨by rfl, rfl⟩) ?_ ?_
     rotate_left
     ·simp only [Act.put, Sh.s1, Sh.s2, Sh.s3, i64_w, i32_w]
      rfl
     refine pure_ (i := 18) (N := some 66) (v := undef) (a' := ?_) (U 30 19) rfl rfl (by kernel_rfl) (fun _ _ _ h => h) (Or.inr ⟨by rfl, rfl⟩) ?_ ?_
     rotate_left
     ·simp only [Act.put, Sh.s1, Sh.s2, Sh.s3, i64_w, i32_w]
      rfl
     refine pure_ (i := 19) (N := some 67) (v := undef) (a' := ?_) (U 30 20) rfl rfl (by kernel_rfl) (fun _ _ _ h => h) (Or.inr ⟨by rfl, rfl⟩) ?_ ?_
     rotate_left
     ·simp only [Act.put, Sh.s1, Sh.s2, Sh.s3, i64_w, i32_w]
      rfl
     refine pure_ (i := 20) (N := some 68) (v := undef) (a' := ?_) (U 30 21) rfl rfl (by kernel_rfl) (fun _ _ _ h => h) (Or.inr ⟨by rfl, rfl⟩) ?_ ?_
     rotate_left
     ·simp only [Act.put, Sh.s1, Sh.s2, Sh.s3, i64_w, i32_w]
      rfl
     refine pure_ (i := 21) (N := some 69) (v := undef) (a' := ?_) (U 30 22) rfl rfl (by kernel_rfl) (fun _ _ _ h => h) (Or.inr ⟨by rfl, rfl⟩) ?_ ?_
     rotate_left
     ·simp only [Act.put, Sh.s1, Sh.s2, Sh.s3, i64_w, i32_w]
      rfl
     refine pure_ (i := 22) (N := some 70) (v := undef) (a' := ?_) (U 30 23) rfl rfl (by kernel_rfl) (fun _ _ _ h => h) (Or.inr ⟨by rfl, rfl⟩) ?_ ?_
     rotate_left
     ·simp only [Act.put, Sh.s1, Sh.s2, Sh.s3, i64_w, i32_w]
      rfl
     refine pure_ (i := 23) (N := some 71) (v := undef) (a' := ?_) (U 30 24) rfl rfl (by kernel_rfl) (fun _ _ _ h => h) (Or.inr ⟨by rfl, rfl⟩) ?_ ?_
     rotate_left
     ·simp only [Act.put, Sh.s1, Sh.s2, Sh.s3, i64_w, i32_w]
      rfl
     refine pure_ (i := 24) (N := some 72) (v := undef) (a' := ?_) (U 30 25) rfl rfl (by kernel_rfl) (fun _ _ _ h => h) (Or.inr ⟨by rfl, rfl⟩) ?_ ?_
     rotate_left
     ·simp only [Act.put, Sh.s1, Sh.s2, Sh.s3, i64_w, i32_w]
      rfl
     refine pure_ (i := 25) (N := some 73) (v := undef) (a' := ?_) (U 30 26) rfl rfl (by kernel_rfl) (fun _ _ _ h => h) (Or.inr ⟨by rfl, rfl⟩) ?_ ?_
     rotate_left
     ·simp only [Act.put, Sh.s1, Sh.s2, Sh.s3, i64_w, i32_w]
      rfl
     refine pure_ (i := 26) (N := some 74) (v := undef) (a' := ?_) (U 30 27) rfl rfl (by kernel_rfl) (fun _ _ _ h => h) (Or.inr ⟨by rfl, rfl⟩) ?_ ?_
     rotate_left
     ·simp only [Act.put, Sh.s1, Sh.s2, Sh.s3, i64_w, i32_w]
      rfl
     refine pure_ (i := 27) (N := some 75) (v := undef) (a' := ?_) (U 30 28) rfl rfl (by kernel_rfl) (fun _ _ _ h => h) (Or.inr ⟨by rfl, rfl⟩) ?_ ?_
     rotate_left
     ·simp only [Act.put, Sh.s1, Sh.s2, Sh.s3, i64_w, i32_w]
      rfl
     refine pure_ (i := 28) (N := some 76) (v := undef) (a' := ?_) (U 30 29) rfl rfl (by kernel_rfl) (fun _ _ _ h => h) (Or.inr ⟨by rfl, rfl⟩) ?_ ?_
     rotate_left
     ·simp only [Act.put, Sh.s1, Sh.s2, Sh.s3, i64_w, i32_w]
      rfl
     refine pure_ (i := 29) (N := some 77) (v := ?_) (a' := ?_) (U 30 30) rfl rfl (by kernel_rfl) (fun _ _ _ h => h) (Or.inl ⟨by rfl, ?_⟩) ?_ ?_
     rotate_left
     ·intro w'
      go_simp
      with_reducible rfl
     rotate_left
     ·simp only [Act.put, Sh.s1, Sh.s2, Sh.s3, i64_w, i32_w]
      rfl
     refine done_ (by kernel_rfl) ?_
     clear hHeld
     go_wp2
     go_meet
     case rel => exact ⟨by rw [G0.out], ⟨HI.out.below (by first | exact Below.refl _ _ | exact below_drew (Below.refl _ _))⟩, ⟨KK.out.below (by first | exact Below.refl _ _ | exact below_drew (Below.refl _ _))⟩⟩
   case rest =>
    obtain ⟨hc_, HI', KK'⟩ := hcut
    subst hc_
    clear HI KK z3 wb0 xb0 ib0 v0 v1
    have HI := HI'
    have KK := KK'
    clear HI' KK'
    obtain ⟨z3, wb0, xb0, ib0⟩ := HI.out.caps (CA.out.more _)
    have hv_ := HI.out.blk (b := w.heap.size) (cs := #[.int .i64 v.f0, .int .i64 v.f1]) (T := 40) (List.Mem.head _)
    have v0 : wc.cell? ⟨w.heap.size, 0, none⟩ = some (.int .i64 v.f0) := blk_cell hv_ 0
    have v1 : wc.cell? ⟨w.heap.size, 1, none⟩ = some (.int .i64 v.f1) := blk_cell hv_ 1
    clear hv_
    obtain ⟨cv, bo, rc, cc⟩ := HI.out.cleared
    have BO := Aside0.mk bo
    have RC := Aside0.mk rc
    have CC := Aside0.mk cc
    have c0 : wc.cell? ⟨p.ob, 2, none⟩ = some cv := blk_cell bo 2
    clear bo rc cc
    rcases gb with _ | _
    ·rcases ga with _ | _
     ·have GT := Aside0.mk (show ¬ goneF p.th p.live p.first i wv sl key value = true by rw [GN.out]; decide)
      go_wp2
      go_end0
      refine ⟨rfl, ?_, KK.out⟩
      rw [← CLN.out]
      unfold clearF
      rw [if_neg GT.out]
      exact HI.out.drop
     ·have GT := Aside0.mk (show goneF p.th p.live p.first i wv sl key value = true by rw [GN.out]; rfl)
      go_wp2_with (first | ((with_reducible refine gate_builtin (b := .append) (xs := #[.tmp 80, .tmp 85]) rfl ?_); at_builtin; refine Kd.R_append k49 (w0 := p.W) p.W.heap.size rfl (.tmp 80) (.tmp 85) 35 49 (.agg #[.int .i64 0, .int .i64 0]) 16 rfl Try.underlying35 info49 rfl (by decide) (by omega) cv cl ⟨i2, value⟩ [.int .i64 i2, .int .i64 value] (fun _ => True) (fun _ => False) rfl rfl ?aP (fun _ hk => hk.elim) ?aF ?aO ?aB ?aS ?aL ?_; (case aP => exact k49_mkM _ _ _ _); (case aB => exact HI.out.base); (case aF => exact (fun _ _ => trivial)); (case aO => exact RC.out); (case aS => exact HI.out.base.size); (case aL => have := CLL.out; omega); intro v4 w4 ho hb4 hg4 hat4; obtain ⟨A4, c4, rfl⟩ := Kd.R_slice ho; have B4 := Aside0.mk (blk_grown BO.out hg4 (Kd.R_ne RC.out BO.out (by decide))); have z4 : w4.cell? ⟨p.ob, 2, none⟩ = some cv := blk_cell B4.out 2; have f4 := blk_frozen B4.out 2; have HO4 := Aside0.mk ho; have HB4 := Aside0.mk hb4; have HG4 := Aside0.mk hg4; clear ho hb4 hg4 hat4))
      go_end0
      have ho5 := HO4.out
      refine ⟨rfl, ?_, KK.out.app BO.out RC.out HG4.out 2⟩
      rw [← CLN.out]
      unfold clearF
      rw [if_pos GT.out, I2.out]
      exact (CC.out _ _ _ HG4.out HB4.out (by simpa using ho5)).drop
    ·have GT := Aside0.mk (show goneF p.th p.live p.first i wv sl key value = true by rw [GN.out]; simp)
     rcases ga with _ | _
     all_goals
      go_wp2_with (first | ((with_reducible refine gate_builtin (b := .append) (xs := #[.tmp 80, .tmp 85]) rfl ?_); at_builtin; refine Kd.R_append k49 (w0 := p.W) p.W.heap.size rfl (.tmp 80) (.tmp 85) 35 49 (.agg #[.int .i64 0, .int .i64 0]) 16 rfl Try.underlying35 info49 rfl (by decide) (by omega) cv cl ⟨i2, value⟩ [.int .i64 i2, .int .i64 value] (fun _ => True) (fun _ => False) rfl rfl ?aP (fun _ hk => hk.elim) ?aF ?aO ?aB ?aS ?aL ?_; (case aP => exact k49_mkM _ _ _ _); (case aB => exact HI.out.base); (case aF => exact (fun _ _ => trivial)); (case aO => exact RC.out); (case aS => exact HI.out.base.size); (case aL => have := CLL.out; omega); intro v4 w4 ho hb4 hg4 hat4; obtain ⟨A4, c4, rfl⟩ := Kd.R_slice ho; have B4 := Aside0.mk (blk_grown BO.out hg4 (Kd.R_ne RC.out BO.out (by decide))); have z4 : w4.cell? ⟨p.ob, 2, none⟩ = some cv := blk_cell B4.out 2; have f4 := blk_frozen B4.out 2; have HO4 := Aside0.mk ho; have HB4 := Aside0.mk hb4; have HG4 := Aside0.mk hg4; clear ho hb4 hg4 hat4))
      go_end0
      have ho5 := HO4.out
      refine ⟨rfl, ?_, KK.out.app BO.out RC.out HG4.out 2⟩
      rw [← CLN.out]
      unfold clearF
      rw [if_pos GT.out, I2.out]
      exact (CC.out _ _ _ HG4.out HB4.out (by simpa using ho5)).drop
end Go.Proofs.Ytollnnbcfhnlfaa.Rg
