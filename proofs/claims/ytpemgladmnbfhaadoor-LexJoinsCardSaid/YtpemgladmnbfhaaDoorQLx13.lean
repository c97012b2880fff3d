-- WRITTEN BY wip/tools/myprint.py, a program of this session, over the kit's printer
import Derived.Test.YtpemgladmnbfhaaDoorSh
import Derived.Test.YtpemgladmnbfhaaDoorQLx0
import Derived.Test.YtpemgladmnbfhaaDoorQLx1
import Derived.Test.YtpemgladmnbfhaaDoorQLx7
-- DENTED
namespace Go.Proofs.YtpemgladmnbfhaaDoor.QL
open Go.Proofs.YtpemgladmnbfhaaDoor.Sh
open Go.RowKit Go.Proofs.YtpemgladmnbfhaaDoorW.PrintWords Go.Proofs.YtpemgladmnbfhaaDoorW.PrintLast Go.Proofs.YtpemgladmnbfhaaDoorW.PrintMore
attribute [local go_sem] max2_int min2_int max_two min_two max_three min_three max_four min_four   -- for this text's walks alone
open Go.Proofs.YtpemgladmnbfhaaDoor.Fl Go.Proofs.YtpemgladmnbfhaaDoor.Wd
attribute [local go_sem high] bo_eq bo_ne bo_lt bo_le bo_gt bo_ge
attribute [local go_sem] run82 run76 neg_fl
set_option linter.unusedVariables false
set_option linter.unusedSimpArgs false

/-! ### heirloomref07_Same: function 11 -/
theorem eqA33 (d : Nat) (w : World) (x0 y0 : Int) (x1 y1 : Int) :
  (Op.equalIn (d + 2) 33 (.agg #[.int .i64 x0, .int .i64 x1]) (.agg #[.int .i64 y0, .int .i64 y1])).run Tryd.prog w = .ok (x0 == y0 && (x1 == y1)) w := by
 refine eqA_of Tryd.underlying33 (by kernel_rfl) ?_
 refine eqf_cons (by rfl) (by go_simp; rfl) (by go_simp; rfl) (by go_simp) ?_
 exact eqf_last (by rfl) (by go_simp; rfl) (by go_simp; rfl) (by go_simp)
theorem eqA35 (d : Nat) (w : World) (x0 y0 : Int) (x1 y1 : ByteArray) (x2 y2 : Int) (x3 y3 : Int) (x4 y4 : ByteArray) (x5 y5 : Int) (x6 y6 : Int) :
  (Op.equalIn (d + 3) 35 (.agg #[.int .i64 x0, .string x1, .int .i64 x2, .int .i64 x3, .string x4, .int .i64 x5, .int .i64 x6]) (.agg #[.int .i64 y0, .string y1, .int .i64 y2, .int .i64 y3, .string y4, .int .i64 y5, .int .i64 y6])).run Tryd.prog w = .ok (x0 == y0 && (x1.toList == y1.toList && ((x2 == y2 && (x3 == y3)) && (x4.toList == y4.toList && (x5 == y5 && (x6 == y6)))))) w := by
 refine eqA_of Tryd.underlying35 (by kernel_rfl) ?_
 refine eqf_cons (by rfl) (by go_simp; rfl) (by go_simp; rfl) (by go_simp) ?_
 refine eqf_cons (by rfl) (by go_simp; rfl) (by go_simp; rfl) (by go_simp) ?_
 refine eqf_cons (by rfl) (by go_simp) (by go_simp) (eqA33 (d + 0) w _ _ _ _) ?_
 refine eqf_cons (by rfl) (by go_simp; rfl) (by go_simp; rfl) (by go_simp) ?_
 refine eqf_cons (by rfl) (by go_simp; rfl) (by go_simp; rfl) (by go_simp) ?_
 exact eqf_last (by rfl) (by go_simp; rfl) (by go_simp; rfl) (by go_simp)
/-- are two tokens one (their places, too)? -/
def tokSame (p : Bool) (x y : S35) : Bool := if p = true then (x.f0 == y.f0 && (x.f1.toList == y.f1.toList && ((x.f2.f0 == y.f2.f0 && (x.f2.f1 == y.f2.f1)) && (x.f3.toList == y.f3.toList && (x.f4 == y.f4 && (x.f5 == y.f5)))))) else (x.f0 == y.f0 && (x.f1.toList == y.f1.toList && ((x.f2.f0 == y.f2.f0 && (x.f2.f1 == y.f2.f1)) && (x.f3.toList == y.f3.toList && (((0 : Int) == 0) && ((0 : Int) == 0))))))
theorem cell_alloc {w : World} {p : Addr} {v : Value} (h : w.cell? p = some v) (o : Obj) : (w.alloc o).cell? p = some v := by
 have hb : p.block < w.heap.size := by
  unfold World.cell? at h
  by_cases z : p.block < w.heap.size
  ·exact z
  ·rw [Array.getElem?_eq_none (by omega)] at h; cases h
 exact (((Below.refl w.heap.size w).alloc (Nat.le_refl _) o).cell (p := p) hb).trans h
def heirloomref07_Same.l0 : Nat → List S35 → List S35 → Bool → Int → Option Bool
 | 0, _, _, _, _ => none
 | k + 1, l0, l1, p, i => if i < (l0.length : Int) then (if 0 ≤ i then (if i < (l1.length : Int) then (if tokSame p (rd_T35 l0 i) (rd_T35 l1 i) = true then heirloomref07_Same.l0 k l0 l1 p (wrap64 (i + 1)) else some false) else none) else none) else some true
def heirloomref07_Same.f (k : Nat) (l0 l1 : List S35) (a2 : Bool) : Option Bool := if (l0.length : Int) = (l1.length : Int) then heirloomref07_Same.l0 k l0 l1 a2 0 else some false
theorem heirloomref07_Same.mono_l : ∀ (k : Nat) (l0 l1 : List S35) (p : Bool) (i : Int), LeO (heirloomref07_Same.l0 k l0 l1 p i) (heirloomref07_Same.l0 (k + 1) l0 l1 p i)
 | 0, _, _, _, _ => fun r h => by simp [heirloomref07_Same.l0] at h
 | k + 1, l0, l1, p, i => by
  have ih := heirloomref07_Same.mono_l k
  unfold heirloomref07_Same.l0
  exact LeO.ite (LeO.ite (LeO.ite (LeO.ite (ih _ _ _ _) (LeO.refl _)) (LeO.refl _)) (LeO.refl _)) (LeO.refl _)
theorem heirloomref07_Same.mono : ∀ a0 a1 a2 k, LeO (heirloomref07_Same.f k a0 a1 a2) (heirloomref07_Same.f (k + 1) a0 a1 a2) := by
 intro a0 a1 a2 k
 unfold heirloomref07_Same.f
 exact LeO.ite (heirloomref07_Same.mono_l _ _ _ _ _) (LeO.refl _)
set_option maxHeartbeats 8000000 in
set_option maxRecDepth 100000 in
theorem heirloomref07_Same.calls (k : Nat) (A0 : Option Addr) (c0 : Nat) (l0 : List (S35)) (A1 : Option Addr) (c1 : Nat) (l1 : List (S35)) (a2 : Bool) (r : Bool) (w : World) (hr0 : Kd.C k35 w A0 l0.length l0) (hc0 : l0.length ≤ c0) (hr1 : Kd.C k35 w A1 l1.length l1) (hc1 : l1.length ≤ c1) (h : heirloomref07_Same.f k l0 l1 a2 = some r) :
  Calls Tryd.prog 11 #[.slice A0 l0.length c0, .slice A1 l1.length c1, .bool a2] w fun e w' => e = .returned (.bool r) ∧ Below w.heap.size w w' := by
 have hu35 := Tryd.underlying35
 have HR0 := Aside0.mk hr0
 have HC0 := Aside0.mk hc0
 clear hr0 hc0
 have HR1 := Aside0.mk hr1
 have HC1 := Aside0.mk hc1
 clear hr1 hc1
 have HB := Aside0.mk (Below.refl w.heap.size w)
 unfold heirloomref07_Same.f at h
 by_cases c4 : (l0.length : Int) = (l1.length : Int)
 ·rw [if_pos c4] at h
  have c4b0 : ((l0.length : Int) == (l1.length : Int)) = true := beq_iff_eq.mpr c4
  have c4b1 : ((l0.length : Int) != (l1.length : Int)) = false := bne_eq_false_iff_eq.mpr c4
  have c4b2 : (l0.length == l1.length) = true := by first | simpa using c4 | (simp at c4 ⊢; omega)
  clear c4
  have H' := Aside0.mk h
  clear h
  go_enter Tryd.func11, Tryd.ntmps11
  go_wp2
  go_loopg [7] k (fun kq v7 w' => ∃ (x7_1 : Int), v7 = .int .i64 x7_1 ∧ Aside0 (heirloomref07_Same.l0 kq l0 l1 a2 x7_1 = some r) ∧ Aside0 (kq ≤ k) ∧ Aside0 (Below w.heap.size w w'))
  case atStart => exact ⟨0, rfl, H', ⟨Nat.le_refl _⟩, HB⟩
  case round =>
   clear H' c4b0 c4b1 c4b2 HB
   obtain ⟨x7_1, rfl, HA, HK1, HB⟩ := hrel
   cases gk with
   | zero => exact absurd HA.out (by simp [heirloomref07_Same.l0])
   | succ k1 =>
    have H := HA.out
    clear HA
    simp only [heirloomref07_Same.l0] at H
    by_cases c5 : x7_1 < (l0.length : Int)
    ·rw [if_pos c5] at H
     have c5b0 : decide (x7_1 < (l0.length : Int)) = true := decide_eq_true c5
     by_cases c6 : 0 ≤ x7_1
     ·rw [if_pos c6] at H
      have c6b0 : decide (0 ≤ x7_1) = true := decide_eq_true c6
      by_cases c7 : x7_1 < (l1.length : Int)
      ·rw [if_pos c7] at H
       have c7b0 : decide (x7_1 < (l1.length : Int)) = true := decide_eq_true c7
       have T0 := at_T35 (Kd.C_below HR0.out HB.out) x7_1 c6 c5
       have T1 := at_T35 (Kd.C_below HR1.out HB.out) x7_1 c6 c7
       obtain ⟨⟨p0, p1, ⟨p2, p3⟩, p4, p5, p6⟩, hx⟩ : ∃ x, rd_T35 l0 x7_1 = x := ⟨_, rfl⟩
       obtain ⟨⟨q0, q1, ⟨q2, q3⟩, q4, q5, q6⟩, hy⟩ : ∃ x, rd_T35 l1 x7_1 = x := ⟨_, rfl⟩
       rw [hx, hy] at H
       rw [hx] at T0
       rw [hy] at T1
       clear hx hy
       obtain ⟨ad0, hA0, x0, x1, x2, x3, x4, x5, x6⟩ := T0
       obtain ⟨ad1, hA1, y0, y1, y2, y3, y4, y5, y6⟩ := T1
       have z0 := fun o => cell_alloc y0 o
       have z1 := fun o => cell_alloc y1 o
       have z2 := fun o => cell_alloc y2 o
       have z3 := fun o => cell_alloc y3 o
       have z4 := fun o => cell_alloc y4 o
       have z5 := fun o => cell_alloc y5 o
       have z6 := fun o => cell_alloc y6 o
       clear y0 y1 y2 y3 y4 y5 y6
       have h06 := eq_true c6
       have h07 := eq_true c5
       have h08 := eq_true c7
       by_cases c8 : a2 = true
       ·subst c8
        by_cases c9 : tokSame true (⟨p0, p1, ⟨p2, p3⟩, p4, p5, p6⟩ : S35) (⟨q0, q1, ⟨q2, q3⟩, q4, q5, q6⟩ : S35) = true
        ·rw [if_pos c9] at H
         have H' := Aside0.mk H
         have hq : ∀ (d : Nat) (w_ : World), (Op.equalIn (d + 3) 35 (.agg #[.int .i64 p0, .string p1, .int .i64 p2, .int .i64 p3, .string p4, .int .i64 p5, .int .i64 p6]) (.agg #[.int .i64 q0, .string q1, .int .i64 q2, .int .i64 q3, .string q4, .int .i64 q5, .int .i64 q6])).run Tryd.prog w_ = .ok true w_ := fun d w_ => (eqA35 d w_ _ _ _ _ _ _ _ _ _ _ _ _ _ _).trans (by rw [← c9]; rfl)
         clear c9 H
         subst hA0 hA1
         go_wp2
         go_roundg k1
         case measure => have := HK1.out; omega
         case rel => exact ⟨(wrap64 (x7_1 + 1)), (by first | rfl | (simp; done) | (simp [*]; done)), H', ⟨by have := HK1.out; omega⟩, ⟨by repeat (first | (with_reducible first | exact HB.out | apply zb | apply zn | apply zd | refine zs ?_ (by first | exact below_size HB.out | (have := below_size HB.out; simp; omega))) | exact HB.out)⟩⟩
        ·rw [if_neg c9] at H
         obtain rfl := Option.some.inj H
         replace c9 := Bool.eq_false_iff.mpr c9
         have hq : ∀ (d : Nat) (w_ : World), (Op.equalIn (d + 3) 35 (.agg #[.int .i64 p0, .string p1, .int .i64 p2, .int .i64 p3, .string p4, .int .i64 p5, .int .i64 p6]) (.agg #[.int .i64 q0, .string q1, .int .i64 q2, .int .i64 q3, .string q4, .int .i64 q5, .int .i64 q6])).run Tryd.prog w_ = .ok false w_ := fun d w_ => (eqA35 d w_ _ _ _ _ _ _ _ _ _ _ _ _ _ _).trans (by rw [← c9]; rfl)
         clear c9
         subst hA0 hA1
         go_wp2
         go_ret
         exact ⟨rfl, by repeat (first | (with_reducible first | exact HB.out | apply zb | apply zn | apply zd | refine zs ?_ (by first | exact below_size HB.out | (have := below_size HB.out; simp; omega))) | exact HB.out)⟩
       ·replace c8 := Bool.eq_false_iff.mpr c8
        subst c8
        by_cases c9 : tokSame false (⟨p0, p1, ⟨p2, p3⟩, p4, p5, p6⟩ : S35) (⟨q0, q1, ⟨q2, q3⟩, q4, q5, q6⟩ : S35) = true
        ·rw [if_pos c9] at H
         have H' := Aside0.mk H
         have hq : ∀ (d : Nat) (w_ : World), (Op.equalIn (d + 3) 35 (.agg #[.int .i64 p0, .string p1, .int .i64 p2, .int .i64 p3, .string p4, .int .i64 0, .int .i64 0]) (.agg #[.int .i64 q0, .string q1, .int .i64 q2, .int .i64 q3, .string q4, .int .i64 0, .int .i64 0])).run Tryd.prog w_ = .ok true w_ := fun d w_ => (eqA35 d w_ _ _ _ _ _ _ _ _ _ _ _ _ _ _).trans (by rw [← c9]; rfl)
         clear c9 H
         subst hA0 hA1
         go_wp2
         go_roundg k1
         case measure => have := HK1.out; omega
         case rel => exact ⟨(wrap64 (x7_1 + 1)), (by first | rfl | (simp; done) | (simp [*]; done)), H', ⟨by have := HK1.out; omega⟩, ⟨by repeat (first | (with_reducible first | exact HB.out | apply zb | apply zn | apply zd | refine zs ?_ (by first | exact below_size HB.out | (have := below_size HB.out; simp; omega))) | exact HB.out)⟩⟩
        ·rw [if_neg c9] at H
         obtain rfl := Option.some.inj H
         replace c9 := Bool.eq_false_iff.mpr c9
         have hq : ∀ (d : Nat) (w_ : World), (Op.equalIn (d + 3) 35 (.agg #[.int .i64 p0, .string p1, .int .i64 p2, .int .i64 p3, .string p4, .int .i64 0, .int .i64 0]) (.agg #[.int .i64 q0, .string q1, .int .i64 q2, .int .i64 q3, .string q4, .int .i64 0, .int .i64 0])).run Tryd.prog w_ = .ok false w_ := fun d w_ => (eqA35 d w_ _ _ _ _ _ _ _ _ _ _ _ _ _ _).trans (by rw [← c9]; rfl)
         clear c9
         subst hA0 hA1
         go_wp2
         go_ret
         exact ⟨rfl, by repeat (first | (with_reducible first | exact HB.out | apply zb | apply zn | apply zd | refine zs ?_ (by first | exact below_size HB.out | (have := below_size HB.out; simp; omega))) | exact HB.out)⟩
      ·rw [if_neg c7] at H; cases H
     ·rw [if_neg c6] at H; cases H
    ·rw [if_neg c5] at H
     have c5b0 : decide (x7_1 < (l0.length : Int)) = false := decide_eq_false c5
     clear c5
     obtain rfl := Option.some.inj H
     go_wp2
     go_ret
     exact ⟨rfl, HB.out⟩
 ·rw [if_neg c4] at h
  obtain rfl := Option.some.inj h
  have c4b0 : ((l0.length : Int) == (l1.length : Int)) = false := beq_eq_false_iff_ne.mpr c4
  have c4b1 : ((l0.length : Int) != (l1.length : Int)) = true := bne_iff_ne.mpr c4
  have c4b2 : (l0.length == l1.length) = false := by first | simpa using c4 | (simp at c4 ⊢; omega)
  clear c4
  go_enter Tryd.func11, Tryd.ntmps11
  go_wp2
  go_ret
  exact ⟨rfl, HB.out⟩

/-! ### heirloomlaw07_no: function 12 -/
def heirloomlaw07_no.f (a0 : Int) : Option (Int) := some a0
set_option maxHeartbeats 8000000 in
set_option maxRecDepth 100000 in
theorem heirloomlaw07_no.calls (a0 : Int) (r : Int) (w : World) (h : heirloomlaw07_no.f a0 = some r) :
  Calls Tryd.prog 12 #[.int .i64 a0] w fun e w' => e = .returned (.int .i64 r) ∧ Drawn0 w w' := by
 have H : (some a0) = some r := h
 clear h
 obtain rfl := Option.some.inj H
 go_enter Tryd.func12, Tryd.ntmps12
 go_wp2
 go_ret
 exact ⟨by first | rfl | (simp; done) | (simp [*]; done), by repeat (first | exact Drawn0.refl _ | apply Drawn0.step)⟩

/-! ### heirloomlaw07_alive: function 13 -/
def heirloomlaw07_alive.f (k : Nat)  : Option (Bool) := (lex_Lex.f k (⟨#[97, 61, 49, 46, 46, 50]⟩ : ByteArray)).bind fun bt243 => ((lex_Lex.f k (⟨#[120, 45, 45, 121]⟩ : ByteArray)).bind fun bt248 => ((lex_Lex.f k (⟨#[97, 32, 36]⟩ : ByteArray)).bind fun bt253 => ((lex_Lex.f k (⟨#[34, 97]⟩ : ByteArray)).bind fun bt258 => ((heirloomlaw07_no.f bt243.2.2).bind fun t263 => (if t263 = 0 then (if (bt243.1.length : Int) = 5 then (if 3 < (bt243.1.length : Int) then (if ((rd_T35 bt243.1 3).f1).toList = ([46, 46] : List UInt8) then ((heirloomlaw07_no.f bt248.2.2).bind fun t265 => (if t265 = 0 then (if (bt248.1.length : Int) = 1 then (if bt253.2.1 = 2 then ((heirloomlaw07_no.f bt253.2.2).bind fun t266 => (if t266 = 15 then ((heirloomlaw07_no.f bt258.2.2).bind fun t267 => (if t267 = 16 then ((lex_Word.f (⟨#[119, 104, 105, 108, 101]⟩ : ByteArray)).bind fun t268 => (if t268 = true then ((lex_Word.f (⟨#[120]⟩ : ByteArray)).bind fun t269 => (some (!t269))) else (none))) else (none))) else (none))) else (none)) else (none)) else (none))) else (none)) else (none)) else (none)) else (none))))))
theorem heirloomlaw07_alive.mono : ∀ k, LeO (heirloomlaw07_alive.f k ) (heirloomlaw07_alive.f (k + 1) ) := by
 intro  k
 unfold heirloomlaw07_alive.f
 repeat' first
   | (with_reducible exact lex_Lex.mono _ _)
   | (with_reducible exact LeO.refl _)
   | (with_reducible exact LeO.none _)
   | (with_reducible refine LeO.ite ?_ ?_)
   | (with_reducible refine LeO.bind ?_ (fun _ => ?_))
   | exact lex_Lex.mono _ _
   | exact LeO.none _
   | refine LeO.ite ?_ ?_
   | refine LeO.bind ?_ (fun _ => ?_)
set_option maxHeartbeats 8000000 in
set_option maxRecDepth 100000 in
theorem heirloomlaw07_alive.calls (k : Nat)  (r : Bool) (w : World) (h : heirloomlaw07_alive.f k  = some r) (hG : Aside0 (Gw w) := by first | exact hG | exact ⟨hG.out.below (by repeat (first | (with_reducible first | exact HB.out | apply zb | apply zn | apply zd | refine zs ?_ (IsS35.ge HI0.out)) | exact HB.out))⟩ | exact ⟨Go.Proofs.YtpemgladmnbfhaaDoor.Wd.Gw.drewN hG.out _⟩) :
  Calls Tryd.prog 13 #[] w fun e w' => e = .returned (.bool r) ∧ Below w.heap.size w w' := by
 have HB := Aside0.mk (Below.refl w.heap.size w)
 have H : ((lex_Lex.f k (⟨#[97, 61, 49, 46, 46, 50]⟩ : ByteArray)).bind fun bt243 => ((lex_Lex.f k (⟨#[120, 45, 45, 121]⟩ : ByteArray)).bind fun bt248 => ((lex_Lex.f k (⟨#[97, 32, 36]⟩ : ByteArray)).bind fun bt253 => ((lex_Lex.f k (⟨#[34, 97]⟩ : ByteArray)).bind fun bt258 => ((heirloomlaw07_no.f bt243.2.2).bind fun t263 => (if t263 = 0 then (if (bt243.1.length : Int) = 5 then (if 3 < (bt243.1.length : Int) then (if ((rd_T35 bt243.1 3).f1).toList = ([46, 46] : List UInt8) then ((heirloomlaw07_no.f bt248.2.2).bind fun t265 => (if t265 = 0 then (if (bt248.1.length : Int) = 1 then (if bt253.2.1 = 2 then ((heirloomlaw07_no.f bt253.2.2).bind fun t266 => (if t266 = 15 then ((heirloomlaw07_no.f bt258.2.2).bind fun t267 => (if t267 = 16 then ((lex_Word.f (⟨#[119, 104, 105, 108, 101]⟩ : ByteArray)).bind fun t268 => (if t268 = true then ((lex_Word.f (⟨#[120]⟩ : ByteArray)).bind fun t269 => (some (!t269))) else (none))) else (none))) else (none))) else (none)) else (none)) else (none))) else (none)) else (none)) else (none)) else (none))))))) = some r := h
 clear h
 replace H := Option.bind_eq_some_iff.mp H
 obtain ⟨⟨t243, t244, t245⟩, A10, H⟩ := H
 replace H : ((lex_Lex.f k (⟨#[120, 45, 45, 121]⟩ : ByteArray)).bind fun bt248 => ((lex_Lex.f k (⟨#[97, 32, 36]⟩ : ByteArray)).bind fun bt253 => ((lex_Lex.f k (⟨#[34, 97]⟩ : ByteArray)).bind fun bt258 => ((heirloomlaw07_no.f t245).bind fun t263 => (if t263 = 0 then (if (t243.length : Int) = 5 then (if 3 < (t243.length : Int) then (if ((rd_T35 t243 3).f1).toList = ([46, 46] : List UInt8) then ((heirloomlaw07_no.f bt248.2.2).bind fun t265 => (if t265 = 0 then (if (bt248.1.length : Int) = 1 then (if bt253.2.1 = 2 then ((heirloomlaw07_no.f bt253.2.2).bind fun t266 => (if t266 = 15 then ((heirloomlaw07_no.f bt258.2.2).bind fun t267 => (if t267 = 16 then ((lex_Word.f (⟨#[119, 104, 105, 108, 101]⟩ : ByteArray)).bind fun t268 => (if t268 = true then ((lex_Word.f (⟨#[120]⟩ : ByteArray)).bind fun t269 => (some (!t269))) else (none))) else (none))) else (none))) else (none)) else (none)) else (none))) else (none)) else (none)) else (none)) else (none)))))) = some r := H
 have A1 := Aside0.mk A10
 clear A10
 replace H := Option.bind_eq_some_iff.mp H
 obtain ⟨⟨t248, t249, t250⟩, A20, H⟩ := H
 replace H : ((lex_Lex.f k (⟨#[97, 32, 36]⟩ : ByteArray)).bind fun bt253 => ((lex_Lex.f k (⟨#[34, 97]⟩ : ByteArray)).bind fun bt258 => ((heirloomlaw07_no.f t245).bind fun t263 => (if t263 = 0 then (if (t243.length : Int) = 5 then (if 3 < (t243.length : Int) then (if ((rd_T35 t243 3).f1).toList = ([46, 46] : List UInt8) then ((heirloomlaw07_no.f t250).bind fun t265 => (if t265 = 0 then (if (t248.length : Int) = 1 then (if bt253.2.1 = 2 then ((heirloomlaw07_no.f bt253.2.2).bind fun t266 => (if t266 = 15 then ((heirloomlaw07_no.f bt258.2.2).bind fun t267 => (if t267 = 16 then ((lex_Word.f (⟨#[119, 104, 105, 108, 101]⟩ : ByteArray)).bind fun t268 => (if t268 = true then ((lex_Word.f (⟨#[120]⟩ : ByteArray)).bind fun t269 => (some (!t269))) else (none))) else (none))) else (none))) else (none)) else (none)) else (none))) else (none)) else (none)) else (none)) else (none))))) = some r := H
 have A2 := Aside0.mk A20
 clear A20
 replace H := Option.bind_eq_some_iff.mp H
 obtain ⟨⟨t253, t254, t255⟩, A30, H⟩ := H
 replace H : ((lex_Lex.f k (⟨#[34, 97]⟩ : ByteArray)).bind fun bt258 => ((heirloomlaw07_no.f t245).bind fun t263 => (if t263 = 0 then (if (t243.length : Int) = 5 then (if 3 < (t243.length : Int) then (if ((rd_T35 t243 3).f1).toList = ([46, 46] : List UInt8) then ((heirloomlaw07_no.f t250).bind fun t265 => (if t265 = 0 then (if (t248.length : Int) = 1 then (if t254 = 2 then ((heirloomlaw07_no.f t255).bind fun t266 => (if t266 = 15 then ((heirloomlaw07_no.f bt258.2.2).bind fun t267 => (if t267 = 16 then ((lex_Word.f (⟨#[119, 104, 105, 108, 101]⟩ : ByteArray)).bind fun t268 => (if t268 = true then ((lex_Word.f (⟨#[120]⟩ : ByteArray)).bind fun t269 => (some (!t269))) else (none))) else (none))) else (none))) else (none)) else (none)) else (none))) else (none)) else (none)) else (none)) else (none)))) = some r := H
 have A3 := Aside0.mk A30
 clear A30
 replace H := Option.bind_eq_some_iff.mp H
 obtain ⟨⟨t258, t259, t260⟩, A40, H⟩ := H
 replace H : ((heirloomlaw07_no.f t245).bind fun t263 => (if t263 = 0 then (if (t243.length : Int) = 5 then (if 3 < (t243.length : Int) then (if ((rd_T35 t243 3).f1).toList = ([46, 46] : List UInt8) then ((heirloomlaw07_no.f t250).bind fun t265 => (if t265 = 0 then (if (t248.length : Int) = 1 then (if t254 = 2 then ((heirloomlaw07_no.f t255).bind fun t266 => (if t266 = 15 then ((heirloomlaw07_no.f t260).bind fun t267 => (if t267 = 16 then ((lex_Word.f (⟨#[119, 104, 105, 108, 101]⟩ : ByteArray)).bind fun t268 => (if t268 = true then ((lex_Word.f (⟨#[120]⟩ : ByteArray)).bind fun t269 => (some (!t269))) else (none))) else (none))) else (none))) else (none)) else (none)) else (none))) else (none)) else (none)) else (none)) else (none))) = some r := H
 have A4 := Aside0.mk A40
 clear A40
 replace H := Option.bind_eq_some_iff.mp H
 obtain ⟨t263, A50, H⟩ := H
 replace H : (if t263 = 0 then (if (t243.length : Int) = 5 then (if 3 < (t243.length : Int) then (if ((rd_T35 t243 3).f1).toList = ([46, 46] : List UInt8) then ((heirloomlaw07_no.f t250).bind fun t265 => (if t265 = 0 then (if (t248.length : Int) = 1 then (if t254 = 2 then ((heirloomlaw07_no.f t255).bind fun t266 => (if t266 = 15 then ((heirloomlaw07_no.f t260).bind fun t267 => (if t267 = 16 then ((lex_Word.f (⟨#[119, 104, 105, 108, 101]⟩ : ByteArray)).bind fun t268 => (if t268 = true then ((lex_Word.f (⟨#[120]⟩ : ByteArray)).bind fun t269 => (some (!t269))) else (none))) else (none))) else (none))) else (none)) else (none)) else (none))) else (none)) else (none)) else (none)) else (none)) = some r := H
 have A5 := Aside0.mk A50
 clear A50
 by_cases c6 : t263 = 0
 ·rw [if_pos c6] at H
  have c6b0 : (t263 == 0) = true := beq_iff_eq.mpr c6
  have c6b1 : (t263 != 0) = false := bne_eq_false_iff_eq.mpr c6
  clear c6
  by_cases c7 : (t243.length : Int) = 5
  ·rw [if_pos c7] at H
   have c7b0 : ((t243.length : Int) == 5) = true := beq_iff_eq.mpr c7
   have c7b1 : ((t243.length : Int) != 5) = false := bne_eq_false_iff_eq.mpr c7
   clear c7
   by_cases c8 : 3 < (t243.length : Int)
   ·rw [if_pos c8] at H
    have c8b0 : decide (3 < (t243.length : Int)) = true := decide_eq_true c8
    have c8b1 : decide (3 < t243.length) = true := decide_eq_true (by omega)
    clear c8
    by_cases c9 : ((rd_T35 t243 3).f1).toList = ([46, 46] : List UInt8)
    ·rw [if_pos c9] at H
     have c9b0 : (((rd_T35 t243 3).f1).toList == ([46, 46] : List UInt8)) = true := beq_iff_eq.mpr c9
     have c9b1 : (((rd_T35 t243 3).f1).toList != ([46, 46] : List UInt8)) = false := bne_eq_false_iff_eq.mpr c9
     clear c9
     replace H := Option.bind_eq_some_iff.mp H
     obtain ⟨t265, A100, H⟩ := H
     replace H : (if t265 = 0 then (if (t248.length : Int) = 1 then (if t254 = 2 then ((heirloomlaw07_no.f t255).bind fun t266 => (if t266 = 15 then ((heirloomlaw07_no.f t260).bind fun t267 => (if t267 = 16 then ((lex_Word.f (⟨#[119, 104, 105, 108, 101]⟩ : ByteArray)).bind fun t268 => (if t268 = true then ((lex_Word.f (⟨#[120]⟩ : ByteArray)).bind fun t269 => (some (!t269))) else (none))) else (none))) else (none))) else (none)) else (none)) else (none)) = some r := H
     have A10 := Aside0.mk A100
     clear A100
     by_cases c11 : t265 = 0
     ·rw [if_pos c11] at H
      have c11b0 : (t265 == 0) = true := beq_iff_eq.mpr c11
      have c11b1 : (t265 != 0) = false := bne_eq_false_iff_eq.mpr c11
      clear c11
      by_cases c12 : (t248.length : Int) = 1
      ·rw [if_pos c12] at H
       have c12b0 : ((t248.length : Int) == 1) = true := beq_iff_eq.mpr c12
       have c12b1 : ((t248.length : Int) != 1) = false := bne_eq_false_iff_eq.mpr c12
       clear c12
       by_cases c13 : t254 = 2
       ·rw [if_pos c13] at H
        have c13b0 : (t254 == 2) = true := beq_iff_eq.mpr c13
        have c13b1 : (t254 != 2) = false := bne_eq_false_iff_eq.mpr c13
        clear c13
        replace H := Option.bind_eq_some_iff.mp H
        obtain ⟨t266, A140, H⟩ := H
        replace H : (if t266 = 15 then ((heirloomlaw07_no.f t260).bind fun t267 => (if t267 = 16 then ((lex_Word.f (⟨#[119, 104, 105, 108, 101]⟩ : ByteArray)).bind fun t268 => (if t268 = true then ((lex_Word.f (⟨#[120]⟩ : ByteArray)).bind fun t269 => (some (!t269))) else (none))) else (none))) else (none)) = some r := H
        have A14 := Aside0.mk A140
        clear A140
        by_cases c15 : t266 = 15
        ·rw [if_pos c15] at H
         have c15b0 : (t266 == 15) = true := beq_iff_eq.mpr c15
         have c15b1 : (t266 != 15) = false := bne_eq_false_iff_eq.mpr c15
         clear c15
         replace H := Option.bind_eq_some_iff.mp H
         obtain ⟨t267, A160, H⟩ := H
         replace H : (if t267 = 16 then ((lex_Word.f (⟨#[119, 104, 105, 108, 101]⟩ : ByteArray)).bind fun t268 => (if t268 = true then ((lex_Word.f (⟨#[120]⟩ : ByteArray)).bind fun t269 => (some (!t269))) else (none))) else (none)) = some r := H
         have A16 := Aside0.mk A160
         clear A160
         by_cases c17 : t267 = 16
         ·rw [if_pos c17] at H
          have c17b0 : (t267 == 16) = true := beq_iff_eq.mpr c17
          have c17b1 : (t267 != 16) = false := bne_eq_false_iff_eq.mpr c17
          clear c17
          replace H := Option.bind_eq_some_iff.mp H
          obtain ⟨t268, A180, H⟩ := H
          replace H : (if t268 = true then ((lex_Word.f (⟨#[120]⟩ : ByteArray)).bind fun t269 => (some (!t269))) else (none)) = some r := H
          have A18 := Aside0.mk A180
          clear A180
          by_cases c19 : t268 = true
          ·subst c19
           have H1 : ((lex_Word.f (⟨#[120]⟩ : ByteArray)).bind fun t269 => (some (!t269))) = some r := by rw [if_pos rfl] at H; exact H
           clear H
           have H := H1
           clear H1
           replace H := Option.bind_eq_some_iff.mp H
           obtain ⟨t269, A200, H⟩ := H
           replace H : (some (!t269)) = some r := H
           have A20 := Aside0.mk A200
           clear A200
           obtain rfl := Option.some.inj H
           go_enter Tryd.func13, Tryd.ntmps13
           go_wp2_with (first | ((with_reducible refine gate_callee (f := 9) rfl ?_); refine goesL_ (some 14) rfl rfl Tryd.func9 (by kernel_rfl) rfl #[.string (⟨#[97, 61, 49, 46, 46, 50]⟩ : ByteArray)] rfl (by (try simp only [List.map_toArray, List.map_cons, List.map_nil]); first | done | rfl | (simp only [List.length_drop, List.length_take]; rfl)) ?_; (with_reducible refine (lex_Lex.calls k (⟨#[97, 61, 49, 46, 46, 50]⟩ : ByteArray) t243 t244 t245 _ A1.out).mono ?_); rintro e w21 ⟨v246, rfl, ho0, hb⟩; refine ⟨_, rfl, ?_⟩; have n0_ := Aside0.mk (Kd.R_lower ho0 (below_size (by repeat (first | (with_reducible first | exact HB.out | apply zb | apply zn | apply zd) | exact HB.out)))); have n1_ := Aside0.mk (below_step (by repeat (first | (with_reducible first | exact HB.out | apply zb | apply zn | apply zd) | exact HB.out)) hb); clear HB; have HO247 := n0_; have HB := n1_; clear n0_ n1_; (try clear hb); (try clear ho0)) | ((with_reducible refine gate_callee (f := 9) rfl ?_); refine goesL_ (some 19) rfl rfl Tryd.func9 (by kernel_rfl) rfl #[.string (⟨#[120, 45, 45, 121]⟩ : ByteArray)] rfl (by (try simp only [List.map_toArray, List.map_cons, List.map_nil]); first | done | rfl | (simp only [List.length_drop, List.length_take]; rfl)) ?_; (with_reducible refine (lex_Lex.calls k (⟨#[120, 45, 45, 121]⟩ : ByteArray) t248 t249 t250 _ A2.out).mono ?_); rintro e w22 ⟨v251, rfl, ho0, hb⟩; refine ⟨_, rfl, ?_⟩; have n0_ := Aside0.mk (Kd.R_elder' (by (with_reducible repeat (first | apply Kd.R_alloc | apply Kd.R_drewN | apply Kd.R_drew)); exact HO247.out) (Kd.R_base ho0) hb); have n1_ := Aside0.mk (Kd.R_lower (Kd.R_new' ho0 (Kd.R_lt (by (with_reducible repeat (first | apply Kd.R_alloc | apply Kd.R_drewN | apply Kd.R_drew)); exact HO247.out))) (below_size (by repeat (first | (with_reducible first | exact HB.out | apply zb | apply zn | apply zd) | exact HB.out)))); have n2_ := Aside0.mk (below_step (by repeat (first | (with_reducible first | exact HB.out | apply zb | apply zn | apply zd) | exact HB.out)) hb); clear HO247; clear HB; have HO247 := n0_; have HO252 := n1_; have HB := n2_; clear n0_ n1_ n2_; (try clear hb); (try clear ho0)) | ((with_reducible refine gate_callee (f := 9) rfl ?_); refine goesL_ (some 24) rfl rfl Tryd.func9 (by kernel_rfl) rfl #[.string (⟨#[97, 32, 36]⟩ : ByteArray)] rfl (by (try simp only [List.map_toArray, List.map_cons, List.map_nil]); first | done | rfl | (simp only [List.length_drop, List.length_take]; rfl)) ?_; (with_reducible refine (lex_Lex.calls k (⟨#[97, 32, 36]⟩ : ByteArray) t253 t254 t255 _ A3.out).mono ?_); rintro e w23 ⟨v256, rfl, ho0, hb⟩; refine ⟨_, rfl, ?_⟩; have n0_ := Aside0.mk (Kd.R_elder' (by (with_reducible repeat (first | apply Kd.R_alloc | apply Kd.R_drewN | apply Kd.R_drew)); exact HO247.out) (Kd.R_base ho0) hb); have n1_ := Aside0.mk (Kd.R_elder' (by (with_reducible repeat (first | apply Kd.R_alloc | apply Kd.R_drewN | apply Kd.R_drew)); exact HO252.out) (Kd.R_base ho0) hb); have n2_ := Aside0.mk (Kd.R_lower (Kd.R_new' (Kd.R_new' ho0 (Kd.R_lt (by (with_reducible repeat (first | apply Kd.R_alloc | apply Kd.R_drewN | apply Kd.R_drew)); exact HO247.out))) (Kd.R_lt (by (with_reducible repeat (first | apply Kd.R_alloc | apply Kd.R_drewN | apply Kd.R_drew)); exact HO252.out))) (below_size (by repeat (first | (with_reducible first | exact HB.out | apply zb | apply zn | apply zd) | exact HB.out)))); have n3_ := Aside0.mk (below_step (by repeat (first | (with_reducible first | exact HB.out | apply zb | apply zn | apply zd) | exact HB.out)) hb); clear HO247; clear HO252; clear HB; have HO247 := n0_; have HO252 := n1_; have HO257 := n2_; have HB := n3_; clear n0_ n1_ n2_ n3_; (try clear hb); (try clear ho0)) | ((with_reducible refine gate_callee (f := 9) rfl ?_); refine goesL_ (some 29) rfl rfl Tryd.func9 (by kernel_rfl) rfl #[.string (⟨#[34, 97]⟩ : ByteArray)] rfl (by (try simp only [List.map_toArray, List.map_cons, List.map_nil]); first | done | rfl | (simp only [List.length_drop, List.length_take]; rfl)) ?_; (with_reducible refine (lex_Lex.calls k (⟨#[34, 97]⟩ : ByteArray) t258 t259 t260 _ A4.out).mono ?_); rintro e w24 ⟨v261, rfl, ho0, hb⟩; refine ⟨_, rfl, ?_⟩; have n0_ := Aside0.mk (Kd.R_elder' (by (with_reducible repeat (first | apply Kd.R_alloc | apply Kd.R_drewN | apply Kd.R_drew)); exact HO247.out) (Kd.R_base ho0) hb); have n1_ := Aside0.mk (Kd.R_elder' (by (with_reducible repeat (first | apply Kd.R_alloc | apply Kd.R_drewN | apply Kd.R_drew)); exact HO252.out) (Kd.R_base ho0) hb); have n2_ := Aside0.mk (Kd.R_elder' (by (with_reducible repeat (first | apply Kd.R_alloc | apply Kd.R_drewN | apply Kd.R_drew)); exact HO257.out) (Kd.R_base ho0) hb); have n3_ := Aside0.mk (Kd.R_lower (Kd.R_new' (Kd.R_new' (Kd.R_new' ho0 (Kd.R_lt (by (with_reducible repeat (first | apply Kd.R_alloc | apply Kd.R_drewN | apply Kd.R_drew)); exact HO247.out))) (Kd.R_lt (by (with_reducible repeat (first | apply Kd.R_alloc | apply Kd.R_drewN | apply Kd.R_drew)); exact HO252.out))) (Kd.R_lt (by (with_reducible repeat (first | apply Kd.R_alloc | apply Kd.R_drewN | apply Kd.R_drew)); exact HO257.out))) (below_size (by repeat (first | (with_reducible first | exact HB.out | apply zb | apply zn | apply zd) | exact HB.out)))); have n4_ := Aside0.mk (below_step (by repeat (first | (with_reducible first | exact HB.out | apply zb | apply zn | apply zd) | exact HB.out)) hb); clear HO247; clear HO252; clear HO257; clear HB; have HO247 := n0_; have HO252 := n1_; have HO257 := n2_; have HO262 := n3_; have HB := n4_; clear n0_ n1_ n2_ n3_ n4_; (try clear hb); (try clear ho0)) | ((with_reducible refine gate_callee (f := 12) rfl ?_); refine goesL_ (some 34) rfl rfl Tryd.func12 (by kernel_rfl) rfl #[.int .i64 t245] rfl (by simp only [m1, m2, m3] <;> rfl) ?_; (with_reducible refine (heirloomlaw07_no.calls t245 t263 _ A5.out).mono ?_); rintro e w' ⟨rfl, ⟨nd, rfl⟩⟩; refine ⟨_, rfl, ?_⟩; obtain ⟨Ao25, co25, eo25⟩ := Kd.R_slice HO247.out; subst eo25; have p264 : 0 ≤ (3 : Int) := (by omega); have q264 : 3 < (t243.length : Int) := of_decide_eq_true (by first | (with_reducible assumption) | assumption); obtain ⟨ad264, e264, hx264_0, hx264_1, hx264_2, hx264_3, hx264_4, hx264_5, hx264_6⟩ := at_T35 (Kd.R_reads' HO247.out).2.2 3 p264 q264; cases e264; (try simp only [show (3 : Int).toNat = 3 from rfl, Nat.reduceMul, Nat.reduceEqDiff, Go.Addr.add, ↓reduceIte] at hx264_0); (try simp only [show (3 : Int).toNat = 3 from rfl, Nat.reduceMul, Nat.reduceEqDiff, Go.Addr.add, ↓reduceIte] at hx264_1); (try simp only [show (3 : Int).toNat = 3 from rfl, Nat.reduceMul, Nat.reduceEqDiff, Go.Addr.add, ↓reduceIte] at hx264_2); (try simp only [show (3 : Int).toNat = 3 from rfl, Nat.reduceMul, Nat.reduceEqDiff, Go.Addr.add, ↓reduceIte] at hx264_3); (try simp only [show (3 : Int).toNat = 3 from rfl, Nat.reduceMul, Nat.reduceEqDiff, Go.Addr.add, ↓reduceIte] at hx264_4); (try simp only [show (3 : Int).toNat = 3 from rfl, Nat.reduceMul, Nat.reduceEqDiff, Go.Addr.add, ↓reduceIte] at hx264_5); (try simp only [show (3 : Int).toNat = 3 from rfl, Nat.reduceMul, Nat.reduceEqDiff, Go.Addr.add, ↓reduceIte] at hx264_6); have qi264 : (3 < t243.length) = True := eq_true (by omega); (try rw [show ((3 : Int)).toNat = 3 from rfl] at hx264_0); (try rw [show 3 * 7 = 21 from rfl] at hx264_0); (try rw [show ((3 : Int)).toNat = 3 from rfl] at hx264_1); (try rw [show 3 * 7 = 21 from rfl] at hx264_1); (try rw [show ((3 : Int)).toNat = 3 from rfl] at hx264_2); (try rw [show 3 * 7 = 21 from rfl] at hx264_2); (try rw [show ((3 : Int)).toNat = 3 from rfl] at hx264_3); (try rw [show 3 * 7 = 21 from rfl] at hx264_3); (try rw [show ((3 : Int)).toNat = 3 from rfl] at hx264_4); (try rw [show 3 * 7 = 21 from rfl] at hx264_4); (try rw [show ((3 : Int)).toNat = 3 from rfl] at hx264_5); (try rw [show 3 * 7 = 21 from rfl] at hx264_5); (try rw [show ((3 : Int)).toNat = 3 from rfl] at hx264_6); (try rw [show 3 * 7 = 21 from rfl] at hx264_6); replace p264 := eq_true p264; replace q264 := eq_true q264) | (go_at_call 12; (with_reducible refine (heirloomlaw07_no.calls t250 t265 _ A10.out).mono ?_); rintro e w' ⟨rfl, ⟨nd, rfl⟩⟩; obtain ⟨Ao26, co26, eo26⟩ := Kd.R_slice HO252.out; subst eo26) | (go_at_call 12; (with_reducible refine (heirloomlaw07_no.calls t255 t266 _ A14.out).mono ?_); rintro e w' ⟨rfl, ⟨nd, rfl⟩⟩) | (go_at_call 12; (with_reducible refine (heirloomlaw07_no.calls t260 t267 _ A16.out).mono ?_); rintro e w' ⟨rfl, ⟨nd, rfl⟩⟩) | (go_at_call 17; (with_reducible refine (lex_Word.calls (⟨#[119, 104, 105, 108, 101]⟩ : ByteArray) true _ A18.out).mono ?_); rintro e w27 ⟨rfl, hb⟩; have n0_ := Aside0.mk (Kd.R_below (by (with_reducible repeat (first | apply Kd.R_alloc | apply Kd.R_drewN | apply Kd.R_drew)); exact HO247.out) hb); have n1_ := Aside0.mk (Kd.R_below (by (with_reducible repeat (first | apply Kd.R_alloc | apply Kd.R_drewN | apply Kd.R_drew)); exact HO252.out) hb); have n2_ := Aside0.mk (Kd.R_below (by (with_reducible repeat (first | apply Kd.R_alloc | apply Kd.R_drewN | apply Kd.R_drew)); exact HO257.out) hb); have n3_ := Aside0.mk (Kd.R_below (by (with_reducible repeat (first | apply Kd.R_alloc | apply Kd.R_drewN | apply Kd.R_drew)); exact HO262.out) hb); have n4_ := Aside0.mk (below_step (by repeat (first | (with_reducible first | exact HB.out | apply zb | apply zn | apply zd) | exact HB.out)) hb); clear HO247; clear HO252; clear HO257; clear HO262; clear HB; have HO247 := n0_; have HO252 := n1_; have HO257 := n2_; have HO262 := n3_; have HB := n4_; clear n0_ n1_ n2_ n3_ n4_; (try clear hb)) | (go_at_call 17; (with_reducible refine (lex_Word.calls (⟨#[120]⟩ : ByteArray) t269 _ A20.out).mono ?_); rintro e w28 ⟨rfl, hb⟩; have n0_ := Aside0.mk (Kd.R_below (by (with_reducible repeat (first | apply Kd.R_alloc | apply Kd.R_drewN | apply Kd.R_drew)); exact HO247.out) hb); have n1_ := Aside0.mk (Kd.R_below (by (with_reducible repeat (first | apply Kd.R_alloc | apply Kd.R_drewN | apply Kd.R_drew)); exact HO252.out) hb); have n2_ := Aside0.mk (Kd.R_below (by (with_reducible repeat (first | apply Kd.R_alloc | apply Kd.R_drewN | apply Kd.R_drew)); exact HO257.out) hb); have n3_ := Aside0.mk (Kd.R_below (by (with_reducible repeat (first | apply Kd.R_alloc | apply Kd.R_drewN | apply Kd.R_drew)); exact HO262.out) hb); have n4_ := Aside0.mk (below_step (by repeat (first | (with_reducible first | exact HB.out | apply zb | apply zn | apply zd) | exact HB.out)) hb); clear HO247; clear HO252; clear HO257; clear HO262; clear HB; have HO247 := n0_; have HO252 := n1_; have HO257 := n2_; have HO262 := n3_; have HB := n4_; clear n0_ n1_ n2_ n3_ n4_; (try clear hb)))
           go_ret
           exact ⟨by first | rfl | (simp [errW_none, errW_some] <;> rfl) | (simp [*, errW_none, errW_some] <;> rfl), by repeat (first | (with_reducible first | exact HB.out | apply zb | apply zn | apply zd) | exact HB.out)⟩
          ·replace c19 := Bool.eq_false_iff.mpr c19
           subst c19
           have H1 : (none) = some r := by rw [if_neg (show ¬ (false = true) by decide)] at H; exact H
           clear H
           have H := H1
           clear H1
           exact absurd H (by simp)
         ·rw [if_neg c17] at H
          exact absurd H (by simp)
        ·rw [if_neg c15] at H
         exact absurd H (by simp)
       ·rw [if_neg c13] at H
        exact absurd H (by simp)
      ·rw [if_neg c12] at H
       exact absurd H (by simp)
     ·rw [if_neg c11] at H
      exact absurd H (by simp)
    ·rw [if_neg c9] at H
     exact absurd H (by simp)
   ·rw [if_neg c8] at H
    exact absurd H (by simp)
  ·rw [if_neg c7] at H
   exact absurd H (by simp)
 ·rw [if_neg c6] at H
  exact absurd H (by simp)
end Go.Proofs.YtpemgladmnbfhaaDoor.QL
