-- WRITTEN BY wip/tools/myprint.py, a program of this session, over the kit's printer
import Derived.Test.YtpemgladmnbfhaaDoorSh
import Derived.Test.YtpemgladmnbfhaaDoorQLx0
-- DENTED
namespace Go.Proofs.YtpemgladmnbfhaaDoor.QL
open Go.Proofs.YtpemgladmnbfhaaDoor.Sh
open Go.RowKit Go.Proofs.YtpemgladmnbfhaaDoorW.PrintWords Go.Proofs.YtpemgladmnbfhaaDoorW.PrintLast Go.Proofs.YtpemgladmnbfhaaDoorW.PrintMore
attribute [local go_sem] max2_int min2_int max_two min_two max_three min_three max_four min_four   -- for this text's walks alone
open Go.Proofs.YtpemgladmnbfhaaDoor.Fl Go.Proofs.YtpemgladmnbfhaaDoor.Wd
attribute [local go_sem high] bo_eq bo_ne bo_lt bo_le bo_gt bo_ge
attribute [local go_sem] run82 run76 neg_fl
set_option linter.unusedVariables false
set_option linter.unusedSimpArgs false

/-! ### lex_letter: function 26 -/
def lex_letter.f (a0 : Int) : Option (Bool) := if a0 = 95 then (some true) else (if (Go.bits .or .u8 a0 32) ≥ 97 then (some (decide ((Go.bits .or .u8 a0 32) ≤ 122))) else (some false))
set_option maxHeartbeats 8000000 in
set_option maxRecDepth 100000 in
theorem lex_letter.calls (a0 : Int) (r : Bool) (w : World) (h : lex_letter.f a0 = some r) :
  Calls Tryd.prog 26 #[.int .u8 a0] w fun e w' => e = .returned (.bool r) ∧ Drawn0 w w' := by
 have H : (if a0 = 95 then (some true) else (if (Go.bits .or .u8 a0 32) ≥ 97 then (some (decide ((Go.bits .or .u8 a0 32) ≤ 122))) else (some false))) = some r := h
 clear h
 by_cases c2 : a0 = 95
 ·rw [if_pos c2] at H
  have c2b0 : (a0 == 95) = true := beq_iff_eq.mpr c2
  have c2b1 : (a0 != 95) = false := bne_eq_false_iff_eq.mpr c2
  clear c2
  obtain rfl := Option.some.inj H
  go_enter Tryd.func26, Tryd.ntmps26
  go_wp2
  go_ret
  exact ⟨by first | rfl | (simp; done) | (simp [*]; done), by repeat (first | exact Drawn0.refl _ | apply Drawn0.step)⟩
 ·rw [if_neg c2] at H
  have c2b0 : (a0 == 95) = false := beq_eq_false_iff_ne.mpr c2
  have c2b1 : (a0 != 95) = true := bne_iff_ne.mpr c2
  by_cases c3 : (Go.bits .or .u8 a0 32) ≥ 97
  ·rw [if_pos c3] at H
   have c3b0 : decide (97 ≤ (Go.bits .or .u8 a0 32)) = true := decide_eq_true c3
   clear c3
   obtain rfl := Option.some.inj H
   go_enter Tryd.func26, Tryd.ntmps26
   go_wp2
   go_ret
   exact ⟨by first | rfl | (simp; done) | (simp [*]; done), by repeat (first | exact Drawn0.refl _ | apply Drawn0.step)⟩
  ·rw [if_neg c3] at H
   have c3b0 : decide (97 ≤ (Go.bits .or .u8 a0 32)) = false := decide_eq_false c3
   clear c3
   obtain rfl := Option.some.inj H
   go_enter Tryd.func26, Tryd.ntmps26
   go_wp2
   go_ret
   exact ⟨by first | rfl | (simp; done) | (simp [*]; done), by repeat (first | exact Drawn0.refl _ | apply Drawn0.step)⟩

/-! ### lex_digit: function 29 -/
def lex_digit.f (a0 : Int) : Option (Bool) := if a0 ≥ 48 then (some (decide (a0 ≤ 57))) else (some false)
set_option maxHeartbeats 8000000 in
set_option maxRecDepth 100000 in
theorem lex_digit.calls (a0 : Int) (r : Bool) (w : World) (h : lex_digit.f a0 = some r) :
  Calls Tryd.prog 29 #[.int .u8 a0] w fun e w' => e = .returned (.bool r) ∧ Drawn0 w w' := by
 have H : (if a0 ≥ 48 then (some (decide (a0 ≤ 57))) else (some false)) = some r := h
 clear h
 by_cases c2 : a0 ≥ 48
 ·rw [if_pos c2] at H
  have c2b0 : decide (48 ≤ a0) = true := decide_eq_true c2
  clear c2
  obtain rfl := Option.some.inj H
  go_enter Tryd.func29, Tryd.ntmps29
  go_wp2
  go_ret
  exact ⟨by first | rfl | (simp; done) | (simp [*]; done), by repeat (first | exact Drawn0.refl _ | apply Drawn0.step)⟩
 ·rw [if_neg c2] at H
  have c2b0 : decide (48 ≤ a0) = false := decide_eq_false c2
  clear c2
  obtain rfl := Option.some.inj H
  go_enter Tryd.func29, Tryd.ntmps29
  go_wp2
  go_ret
  exact ⟨by first | rfl | (simp; done) | (simp [*]; done), by repeat (first | exact Drawn0.refl _ | apply Drawn0.step)⟩

/-! ### lex_run: function 27 -/
def lex_run.l0 : Nat → ByteArray → Int → Option (Int)
 | 0, _, _ => none
 | k + 1, x0, x3 => if x3 < (x0.size : Int) then (if 0 ≤ x3 then ((lex_letter.f (bt x0 x3)).bind fun t146 => (if t146 = true then (lex_run.l0 k x0 (wrap64 (x3 + 1))) else ((lex_digit.f (bt x0 x3)).bind fun t147 => (if t147 = true then (lex_run.l0 k x0 (wrap64 (x3 + 1))) else (some x3))))) else (none)) else (some x3)
def lex_run.f (k : Nat) (a0 : ByteArray) : Option (Int) := lex_run.l0 k a0 0
theorem lex_run.mono_l : ∀ k, (∀ y0 y1, LeO (lex_run.l0 k y0 y1) (lex_run.l0 (k + 1) y0 y1))
 | 0 => fun _ _ r h => by simp [lex_run.l0] at h
 | k + 1 => by
  have ih0 := lex_run.mono_l k
  ·intro y0 y1
   unfold lex_run.l0
   repeat' first
   | (with_reducible exact ih0 _ _)
   | (with_reducible exact LeO.refl _)
   | (with_reducible exact LeO.none _)
   | (with_reducible refine LeO.ite ?_ ?_)
   | (with_reducible refine LeO.bind ?_ (fun _ => ?_))
   | exact ih0 _ _
   | exact LeO.none _
   | refine LeO.ite ?_ ?_
   | refine LeO.bind ?_ (fun _ => ?_)
theorem lex_run.mono : ∀ a0 k, LeO (lex_run.f k a0) (lex_run.f (k + 1) a0) := by
 intro a0 k
 have ih0 := lex_run.mono_l k
 unfold lex_run.f
 repeat' first
   | (with_reducible exact ih0 _ _)
   | (with_reducible exact LeO.refl _)
   | (with_reducible exact LeO.none _)
   | (with_reducible refine LeO.ite ?_ ?_)
   | (with_reducible refine LeO.bind ?_ (fun _ => ?_))
   | exact ih0 _ _
   | exact LeO.none _
   | refine LeO.ite ?_ ?_
   | refine LeO.bind ?_ (fun _ => ?_)
set_option maxHeartbeats 8000000 in
set_option maxRecDepth 100000 in
theorem lex_run.calls (k : Nat) (a0 : ByteArray) (r : Int) (w : World) (h : lex_run.f k a0 = some r) :
  Calls Tryd.prog 27 #[.string a0] w fun e w' => e = .returned (.int .i64 r) ∧ Drawn0 w w' := by
 have H : (lex_run.l0 k a0 0) = some r := h
 clear h
 have H' := Aside0.mk H
 clear H
 go_enter Tryd.func27, Tryd.ntmps27
 go_wp2
 go_loopg [3] k (fun kq v3 w' => ∃ (x3_1 : Int), v3 = .int .i64 x3_1 ∧ Aside0 (lex_run.l0 kq a0 x3_1 = some r) ∧ Aside0 (kq ≤ k) ∧ Drawn0 w w')
 case atStart => exact ⟨(0), (by first | rfl | (simp; done) | (simp [*]; done)), H', ⟨Nat.le_refl _⟩, by repeat (first | exact Drawn0.refl _ | apply Drawn0.step)⟩
 case round =>
  clear H'
  obtain ⟨x3_1, rfl, HA, HK1, ⟨m1, rfl⟩⟩ := hrel
  cases gk with
  | zero => exact absurd HA.out (by simp [lex_run.l0])
  | succ k1 =>
   have H := HA.out
   clear HA
   simp only [lex_run.l0] at H
   by_cases c2 : x3_1 < (a0.size : Int)
   ·rw [if_pos c2] at H
    have c2b0 : decide (x3_1 < (a0.size : Int)) = true := decide_eq_true c2
    clear c2
    by_cases c3 : 0 ≤ x3_1
    ·rw [if_pos c3] at H
     have c3b0 : decide (0 ≤ x3_1) = true := decide_eq_true c3
     clear c3
     replace H := Option.bind_eq_some_iff.mp H
     obtain ⟨t146, A50, H⟩ := H
     replace H : (if t146 = true then (lex_run.l0 k1 a0 (wrap64 (x3_1 + 1))) else ((lex_digit.f (bt a0 x3_1)).bind fun t147 => (if t147 = true then (lex_run.l0 k1 a0 (wrap64 (x3_1 + 1))) else (some x3_1)))) = some r := H
     have A5 := Aside0.mk A50
     clear A50
     by_cases c6 : t146 = true
     ·subst c6
      have H1 : (lex_run.l0 k1 a0 (wrap64 (x3_1 + 1))) = some r := by rw [if_pos rfl] at H; exact H
      clear H
      have H := H1
      clear H1
      have H' := Aside0.mk H
      clear H
      have p4 : 0 ≤ (x3_1 : Int) := of_decide_eq_true (by first | (with_reducible assumption) | assumption)
      have q4 : x3_1 < (a0.size : Int) := of_decide_eq_true (by first | (with_reducible assumption) | assumption)
      have hx4 := bt_at a0 x3_1
      replace p4 := eq_true p4
      replace q4 := eq_true q4
      go_wp2_with (first | (go_at_call 26; (with_reducible refine (lex_letter.calls (bt a0 x3_1) true _ A5.out).mono ?_); rintro e w' ⟨rfl, ⟨nd, rfl⟩⟩))
      go_roundg k1
      case measure => have := HK1.out; omega
      case rel => exact ⟨(wrap64 (x3_1 + 1)), (by first | rfl | (simp; done) | (simp [*]; done)), H', ⟨by have := HK1.out; omega⟩, by repeat (first | exact Drawn0.refl _ | apply Drawn0.step)⟩
     ·replace c6 := Bool.eq_false_iff.mpr c6
      subst c6
      have H1 : ((lex_digit.f (bt a0 x3_1)).bind fun t147 => (if t147 = true then (lex_run.l0 k1 a0 (wrap64 (x3_1 + 1))) else (some x3_1))) = some r := by rw [if_neg (show ¬ (false = true) by decide)] at H; exact H
      clear H
      have H := H1
      clear H1
      replace H := Option.bind_eq_some_iff.mp H
      obtain ⟨t147, A80, H⟩ := H
      replace H : (if t147 = true then (lex_run.l0 k1 a0 (wrap64 (x3_1 + 1))) else (some x3_1)) = some r := H
      have A8 := Aside0.mk A80
      clear A80
      by_cases c9 : t147 = true
      ·subst c9
       have H1 : (lex_run.l0 k1 a0 (wrap64 (x3_1 + 1))) = some r := by rw [if_pos rfl] at H; exact H
       clear H
       have H := H1
       clear H1
       have H' := Aside0.mk H
       clear H
       have p4 : 0 ≤ (x3_1 : Int) := of_decide_eq_true (by first | (with_reducible assumption) | assumption)
       have q4 : x3_1 < (a0.size : Int) := of_decide_eq_true (by first | (with_reducible assumption) | assumption)
       have hx4 := bt_at a0 x3_1
       replace p4 := eq_true p4
       replace q4 := eq_true q4
       go_wp2_with (first | (go_at_call 26; (with_reducible refine (lex_letter.calls (bt a0 x3_1) false _ A5.out).mono ?_); rintro e w' ⟨rfl, ⟨nd, rfl⟩⟩; have p7 : 0 ≤ (x3_1 : Int) := of_decide_eq_true (by first | (with_reducible assumption) | assumption); have q7 : x3_1 < (a0.size : Int) := of_decide_eq_true (by first | (with_reducible assumption) | assumption); have hx7 := bt_at a0 x3_1; replace p7 := eq_true p7; replace q7 := eq_true q7) | (go_at_call 29; (with_reducible refine (lex_digit.calls (bt a0 x3_1) true _ A8.out).mono ?_); rintro e w' ⟨rfl, ⟨nd, rfl⟩⟩))
       go_roundg k1
       case measure => have := HK1.out; omega
       case rel => exact ⟨(wrap64 (x3_1 + 1)), (by first | rfl | (simp; done) | (simp [*]; done)), H', ⟨by have := HK1.out; omega⟩, by repeat (first | exact Drawn0.refl _ | apply Drawn0.step)⟩
      ·replace c9 := Bool.eq_false_iff.mpr c9
       subst c9
       have H1 : (some x3_1) = some r := by rw [if_neg (show ¬ (false = true) by decide)] at H; exact H
       clear H
       have H := H1
       clear H1
       obtain rfl := Option.some.inj H
       have p4 : 0 ≤ (x3_1 : Int) := of_decide_eq_true (by first | (with_reducible assumption) | assumption)
       have q4 : x3_1 < (a0.size : Int) := of_decide_eq_true (by first | (with_reducible assumption) | assumption)
       have hx4 := bt_at a0 x3_1
       replace p4 := eq_true p4
       replace q4 := eq_true q4
       go_wp2_with (first | (go_at_call 26; (with_reducible refine (lex_letter.calls (bt a0 x3_1) false _ A5.out).mono ?_); rintro e w' ⟨rfl, ⟨nd, rfl⟩⟩; have p7 : 0 ≤ (x3_1 : Int) := of_decide_eq_true (by first | (with_reducible assumption) | assumption); have q7 : x3_1 < (a0.size : Int) := of_decide_eq_true (by first | (with_reducible assumption) | assumption); have hx7 := bt_at a0 x3_1; replace p7 := eq_true p7; replace q7 := eq_true q7) | (go_at_call 29; (with_reducible refine (lex_digit.calls (bt a0 x3_1) false _ A8.out).mono ?_); rintro e w' ⟨rfl, ⟨nd, rfl⟩⟩))
       go_ret
       exact ⟨by first | rfl | (simp; done) | (simp [*]; done), by repeat (first | exact Drawn0.refl _ | apply Drawn0.step)⟩
    ·rw [if_neg c3] at H
     exact absurd H (by simp)
   ·rw [if_neg c2] at H
    have c2b0 : decide (x3_1 < (a0.size : Int)) = false := decide_eq_false c2
    clear c2
    obtain rfl := Option.some.inj H
    go_wp2
    go_ret
    exact ⟨by first | rfl | (simp; done) | (simp [*]; done), by repeat (first | exact Drawn0.refl _ | apply Drawn0.step)⟩

/-! ### lex_number: function 30 -/
def lex_number.l0 : Nat → ByteArray → Int → Option (Int)
 | 0, _, _ => none
 | k + 1, x0, x3 => if (wrap64 (x3 + 1)) < (x0.size : Int) then (if 0 ≤ x3 then (if x3 < (x0.size : Int) then (if (bt x0 x3) = 46 then (if 0 ≤ (wrap64 (x3 + 1)) then ((lex_digit.f (bt x0 (wrap64 (x3 + 1)))).bind fun t149 => (if t149 = true then (if (wrap64 (x3 + 1)) ≤ (x0.size : Int) then ((lex_run.f k (x0.extract ((wrap64 (x3 + 1)) : Int).toNat x0.size)).bind fun t150 => (lex_number.l0 k x0 (wrap64 (x3 + (wrap64 (1 + t150)))))) else (none)) else (some x3))) else (none)) else (some x3)) else (none)) else (none)) else (some x3)
def lex_number.f (k : Nat) (a0 : ByteArray) : Option (Int) := (lex_run.f k a0).bind fun t148 => (lex_number.l0 k a0 t148)
theorem lex_number.mono_l : ∀ k, (∀ y0 y1, LeO (lex_number.l0 k y0 y1) (lex_number.l0 (k + 1) y0 y1))
 | 0 => fun _ _ r h => by simp [lex_number.l0] at h
 | k + 1 => by
  have ih0 := lex_number.mono_l k
  ·intro y0 y1
   unfold lex_number.l0
   repeat' first
   | (with_reducible exact ih0 _ _)
   | (with_reducible exact lex_run.mono _ _)
   | (with_reducible exact LeO.refl _)
   | (with_reducible exact LeO.none _)
   | (with_reducible refine LeO.ite ?_ ?_)
   | (with_reducible refine LeO.bind ?_ (fun _ => ?_))
   | exact ih0 _ _
   | exact lex_run.mono _ _
   | exact LeO.none _
   | refine LeO.ite ?_ ?_
   | refine LeO.bind ?_ (fun _ => ?_)
theorem lex_number.mono : ∀ a0 k, LeO (lex_number.f k a0) (lex_number.f (k + 1) a0) := by
 intro a0 k
 have ih0 := lex_number.mono_l k
 unfold lex_number.f
 repeat' first
   | (with_reducible exact ih0 _ _)
   | (with_reducible exact lex_run.mono _ _)
   | (with_reducible exact LeO.refl _)
   | (with_reducible exact LeO.none _)
   | (with_reducible refine LeO.ite ?_ ?_)
   | (with_reducible refine LeO.bind ?_ (fun _ => ?_))
   | exact ih0 _ _
   | exact lex_run.mono _ _
   | exact LeO.none _
   | refine LeO.ite ?_ ?_
   | refine LeO.bind ?_ (fun _ => ?_)
set_option maxHeartbeats 8000000 in
set_option maxRecDepth 100000 in
theorem lex_number.calls (k : Nat) (a0 : ByteArray) (r : Int) (w : World) (h : lex_number.f k a0 = some r) :
  Calls Tryd.prog 30 #[.string a0] w fun e w' => e = .returned (.int .i64 r) ∧ Drawn0 w w' := by
 have H : ((lex_run.f k a0).bind fun t148 => (lex_number.l0 k a0 t148)) = some r := h
 clear h
 replace H := Option.bind_eq_some_iff.mp H
 obtain ⟨t148, A20, H⟩ := H
 replace H : (lex_number.l0 k a0 t148) = some r := H
 have A2 := Aside0.mk A20
 clear A20
 have H' := Aside0.mk H
 clear H
 go_enter Tryd.func30, Tryd.ntmps30
 go_wp2_with (first | ((with_reducible refine gate_callee (f := 27) rfl ?_); refine goesL_ (some 5) rfl rfl Tryd.func27 (by kernel_rfl) rfl #[.string a0] rfl (by (try simp only [List.map_toArray, List.map_cons, List.map_nil]); first | done | rfl | (simp only [List.length_drop, List.length_take]; rfl)) ?_; (with_reducible refine (lex_run.calls k a0 t148 _ A2.out).mono ?_); rintro e w' ⟨rfl, ⟨nd, rfl⟩⟩; refine ⟨_, rfl, ?_⟩))
 go_loopg [3] k (fun kq v3 w' => ∃ (x3_1 : Int), v3 = .int .i64 x3_1 ∧ Aside0 (lex_number.l0 kq a0 x3_1 = some r) ∧ Aside0 (kq ≤ k) ∧ Drawn0 w w')
 case atStart => exact ⟨(t148), (by first | rfl | (simp; done) | (simp [*]; done)), H', ⟨Nat.le_refl _⟩, by repeat (first | exact Drawn0.refl _ | apply Drawn0.step)⟩
 case round =>
  clear H'
  try clear c2
  try clear p2
  obtain ⟨x3_1, rfl, HA, HK1, ⟨m1, rfl⟩⟩ := hrel
  cases gk with
  | zero => exact absurd HA.out (by simp [lex_number.l0])
  | succ k1 =>
   have H := HA.out
   clear HA
   simp only [lex_number.l0] at H
   by_cases c3 : (wrap64 (x3_1 + 1)) < (a0.size : Int)
   ·rw [if_pos c3] at H
    have c3b0 : decide ((wrap64 (x3_1 + 1)) < (a0.size : Int)) = true := decide_eq_true c3
    clear c3
    by_cases c4 : 0 ≤ x3_1
    ·rw [if_pos c4] at H
     have c4b0 : decide (0 ≤ x3_1) = true := decide_eq_true c4
     clear c4
     by_cases c5 : x3_1 < (a0.size : Int)
     ·rw [if_pos c5] at H
      have c5b0 : decide (x3_1 < (a0.size : Int)) = true := decide_eq_true c5
      clear c5
      by_cases c7 : (bt a0 x3_1) = 46
      ·rw [if_pos c7] at H
       have c7b0 : ((bt a0 x3_1) == 46) = true := beq_iff_eq.mpr c7
       have c7b1 : ((bt a0 x3_1) != 46) = false := bne_eq_false_iff_eq.mpr c7
       clear c7
       obtain ⟨ji8, hji8⟩ : ∃ j_ : Int, (wrap64 (x3_1 + 1)) = j_ := ⟨_, rfl⟩
       replace H : (if 0 ≤ (ji8) then ((lex_digit.f (bt a0 (ji8))).bind fun t149 => (if t149 = true then (if (ji8) ≤ (a0.size : Int) then ((lex_run.f k1 (a0.extract ((ji8) : Int).toNat a0.size)).bind fun t150 => (lex_number.l0 k1 a0 (wrap64 (x3_1 + (wrap64 (1 + t150)))))) else (none)) else (some x3_1))) else (none)) = some r := by first | (rw [hji8] at H; exact H) | (simp only [hji8] at H ⊢; exact H)
       (try rw [hji8] at c3b0)
       have hji8w : (IntKind.i64.wrap (x3_1 + 1)) = ji8 := (i64_w _).trans hji8
       by_cases c9 : 0 ≤ (ji8)
       ·rw [if_pos c9] at H
        have c9b0 : decide (0 ≤ (ji8)) = true := decide_eq_true c9
        clear c9
        replace H := Option.bind_eq_some_iff.mp H
        obtain ⟨t149, A110, H⟩ := H
        replace H : (if t149 = true then (if (ji8) ≤ (a0.size : Int) then ((lex_run.f k1 (a0.extract ((ji8) : Int).toNat a0.size)).bind fun t150 => (lex_number.l0 k1 a0 (wrap64 (x3_1 + (wrap64 (1 + t150)))))) else (none)) else (some x3_1)) = some r := H
        have A11 := Aside0.mk A110
        clear A110
        by_cases c12 : t149 = true
        ·subst c12
         have H1 : (if (ji8) ≤ (a0.size : Int) then ((lex_run.f k1 (a0.extract ((ji8) : Int).toNat a0.size)).bind fun t150 => (lex_number.l0 k1 a0 (wrap64 (x3_1 + (wrap64 (1 + t150)))))) else (none)) = some r := by rw [if_pos rfl] at H; exact H
         clear H
         have H := H1
         clear H1
         have c13b0 := eq_true (of_decide_eq_true (by first | (with_reducible assumption) | assumption) : 0 ≤ (ji8))
         by_cases c14 : (ji8) ≤ (a0.size : Int)
         ·rw [if_pos c14] at H
          have c14b0 := eq_true c14
          have c14b1 : decide ((ji8) ≤ (a0.size : Int)) = true := decide_eq_true c14
          clear c14
          replace H := Option.bind_eq_some_iff.mp H
          obtain ⟨t150, A150, H⟩ := H
          replace H : (lex_number.l0 k1 a0 (wrap64 (x3_1 + (wrap64 (1 + t150))))) = some r := H
          have A15 := Aside0.mk A150
          clear A150
          have H' := Aside0.mk H
          clear H
          have p6 : 0 ≤ (x3_1 : Int) := of_decide_eq_true (by first | (with_reducible assumption) | assumption)
          have q6 : x3_1 < (a0.size : Int) := of_decide_eq_true (by first | (with_reducible assumption) | assumption)
          have hx6 := bt_at a0 x3_1
          replace p6 := eq_true p6
          replace q6 := eq_true q6
          have p10 : 0 ≤ ((ji8) : Int) := of_decide_eq_true (by first | (with_reducible assumption) | assumption)
          have q10 : (ji8) < (a0.size : Int) := of_decide_eq_true (by first | (with_reducible assumption) | assumption)
          have hx10 := bt_at a0 (ji8)
          replace p10 := eq_true p10
          replace q10 := eq_true q10
          go_wp2_with (first | (go_at_call 29; (with_reducible refine (lex_digit.calls (bt a0 (ji8)) true _ A11.out).mono ?_); rintro e w' ⟨rfl, ⟨nd, rfl⟩⟩) | ((with_reducible refine gate_callee (f := 27) rfl ?_); refine goesL_ (some 29) rfl rfl Tryd.func27 (by kernel_rfl) rfl #[.string (a0.extract ((ji8) : Int).toNat a0.size)] rfl (by (try simp only [List.map_toArray, List.map_cons, List.map_nil]); first | done | (simp only [hji8]; rfl) | rfl | (simp only [List.length_drop, List.length_take]; rfl)) ?_; (with_reducible refine (lex_run.calls k1 (a0.extract ((ji8) : Int).toNat a0.size) t150 _ A15.out).mono ?_); rintro e w' ⟨rfl, ⟨nd, rfl⟩⟩; refine ⟨_, rfl, ?_⟩))
          go_roundg k1
          case measure => have := HK1.out; omega
          case rel => exact ⟨(wrap64 (x3_1 + (wrap64 (1 + t150)))), (by first | rfl | (simp; done) | (simp [*]; done)), H', ⟨by have := HK1.out; omega⟩, by repeat (first | exact Drawn0.refl _ | apply Drawn0.step)⟩
         ·rw [if_neg c14] at H
          exact absurd H (by simp)
        ·replace c12 := Bool.eq_false_iff.mpr c12
         subst c12
         have H1 : (some x3_1) = some r := by rw [if_neg (show ¬ (false = true) by decide)] at H; exact H
         clear H
         have H := H1
         clear H1
         obtain rfl := Option.some.inj H
         have p6 : 0 ≤ (x3_1 : Int) := of_decide_eq_true (by first | (with_reducible assumption) | assumption)
         have q6 : x3_1 < (a0.size : Int) := of_decide_eq_true (by first | (with_reducible assumption) | assumption)
         have hx6 := bt_at a0 x3_1
         replace p6 := eq_true p6
         replace q6 := eq_true q6
         have p10 : 0 ≤ ((ji8) : Int) := of_decide_eq_true (by first | (with_reducible assumption) | assumption)
         have q10 : (ji8) < (a0.size : Int) := of_decide_eq_true (by first | (with_reducible assumption) | assumption)
         have hx10 := bt_at a0 (ji8)
         replace p10 := eq_true p10
         replace q10 := eq_true q10
         go_wp2_with (first | (go_at_call 29; (with_reducible refine (lex_digit.calls (bt a0 (ji8)) false _ A11.out).mono ?_); rintro e w' ⟨rfl, ⟨nd, rfl⟩⟩))
         go_ret
         exact ⟨by first | rfl | (simp; done) | (simp only [← hji8] <;> (first | rfl | simp)) | (simp [*]; done), by repeat (first | exact Drawn0.refl _ | apply Drawn0.step)⟩
       ·rw [if_neg c9] at H
        exact absurd H (by simp)
      ·rw [if_neg c7] at H
       have c7b0 : ((bt a0 x3_1) == 46) = false := beq_eq_false_iff_ne.mpr c7
       have c7b1 : ((bt a0 x3_1) != 46) = true := bne_iff_ne.mpr c7
       obtain rfl := Option.some.inj H
       have p6 : 0 ≤ (x3_1 : Int) := of_decide_eq_true (by first | (with_reducible assumption) | assumption)
       have q6 : x3_1 < (a0.size : Int) := of_decide_eq_true (by first | (with_reducible assumption) | assumption)
       have hx6 := bt_at a0 x3_1
       replace p6 := eq_true p6
       replace q6 := eq_true q6
       go_wp2
       go_ret
       exact ⟨by first | rfl | (simp; done) | (simp [*]; done), by repeat (first | exact Drawn0.refl _ | apply Drawn0.step)⟩
     ·rw [if_neg c5] at H
      exact absurd H (by simp)
    ·rw [if_neg c4] at H
     exact absurd H (by simp)
   ·rw [if_neg c3] at H
    have c3b0 : decide ((wrap64 (x3_1 + 1)) < (a0.size : Int)) = false := decide_eq_false c3
    clear c3
    obtain rfl := Option.some.inj H
    go_wp2
    go_ret
    exact ⟨by first | rfl | (simp; done) | (simp [*]; done), by repeat (first | exact Drawn0.refl _ | apply Drawn0.step)⟩

/-! ### lex_quoted: function 34 -/
def lex_quoted.f (a0 : ByteArray) : Option (Int) := if 1 ≤ a0.size ∧ a0.size ≤ 140737488351232 then some (if Lib.indexByte (a0.extract 1 a0.size).data.toList 34 < 0 then 1 else Lib.indexByte (a0.extract 1 a0.size).data.toList 34 + 2) else none
theorem lex_quoted.calls (a0 : ByteArray) (r : Int) (w : World) (h : lex_quoted.f a0 = some r) :
  Calls Tryd.prog 34 #[.string a0] w fun e w' => e = .returned (.int .i64 r) ∧ Drawn0 w w' := by
 unfold lex_quoted.f at h
 by_cases c : 1 ≤ a0.size ∧ a0.size ≤ 140737488351232
 ·rw [if_pos c] at h
  obtain rfl := Option.some.inj h
  by_cases d : Lib.indexByte (a0.extract 1 a0.size).data.toList 34 < 0
  ·rw [if_pos d]; exact quoted_none a0 c.1 w d
  ·rw [if_neg d]; exact quoted_some a0 c.1 c.2 w (by omega) (quoted_le a0)
 ·rw [if_neg c] at h; cases h

/-! ### lex_sign: function 39 -/
def lex_sign.f (a0 : ByteArray) : Option (Int) := if (a0.size : Int) > 1 then (if 0 ≤ 2 then (if 2 ≤ (a0.size : Int) then (if (a0.extract 0 2).toList = ([47, 47] : List UInt8) then (some 2) else (if (a0.extract 0 2).toList = ([46, 46] : List UInt8) then (some 2) else (if (a0.extract 0 2).toList = ([61, 61] : List UInt8) then (some 2) else (if (a0.extract 0 2).toList = ([126, 61] : List UInt8) then (some 2) else (if (a0.extract 0 2).toList = ([60, 61] : List UInt8) then (some 2) else (if (a0.extract 0 2).toList = ([62, 61] : List UInt8) then (some 2) else (some 1))))))) else (none)) else (none)) else (some 1)
set_option maxHeartbeats 8000000 in
set_option maxRecDepth 100000 in
theorem lex_sign.calls (a0 : ByteArray) (r : Int) (w : World) (h : lex_sign.f a0 = some r) :
  Calls Tryd.prog 39 #[.string a0] w fun e w' => e = .returned (.int .i64 r) ∧ Drawn0 w w' := by
 have H : (if (a0.size : Int) > 1 then (if 0 ≤ 2 then (if 2 ≤ (a0.size : Int) then (if (a0.extract 0 2).toList = ([47, 47] : List UInt8) then (some 2) else (if (a0.extract 0 2).toList = ([46, 46] : List UInt8) then (some 2) else (if (a0.extract 0 2).toList = ([61, 61] : List UInt8) then (some 2) else (if (a0.extract 0 2).toList = ([126, 61] : List UInt8) then (some 2) else (if (a0.extract 0 2).toList = ([60, 61] : List UInt8) then (some 2) else (if (a0.extract 0 2).toList = ([62, 61] : List UInt8) then (some 2) else (some 1))))))) else (none)) else (none)) else (some 1)) = some r := h
 clear h
 by_cases c2 : (a0.size : Int) > 1
 ·rw [if_pos c2] at H
  have c2b0 : decide (1 < (a0.size : Int)) = true := decide_eq_true c2
  have c2b1 : decide (1 < a0.size) = true := decide_eq_true (by omega)
  clear c2
  by_cases c3 : 0 ≤ 2
  ·rw [if_pos c3] at H
   have c3b0 := eq_true c3
   have c3b1 : decide (0 ≤ 2) = true := decide_eq_true c3
   clear c3
   by_cases c4 : 2 ≤ (a0.size : Int)
   ·rw [if_pos c4] at H
    have c4b0 := eq_true c4
    have c4b1 : decide (2 ≤ (a0.size : Int)) = true := decide_eq_true c4
    clear c4
    by_cases c5 : (a0.extract 0 2).toList = ([47, 47] : List UInt8)
    ·rw [if_pos c5] at H
     have c5b0 : ((a0.extract 0 2).toList == ([47, 47] : List UInt8)) = true := beq_iff_eq.mpr c5
     have c5b1 : ((a0.extract 0 2).toList != ([47, 47] : List UInt8)) = false := bne_eq_false_iff_eq.mpr c5
     clear c5
     obtain rfl := Option.some.inj H
     go_enter Tryd.func39, Tryd.ntmps39
     go_wp2
     go_ret
     exact ⟨by first | rfl | (simp; done) | (simp [*]; done), by repeat (first | exact Drawn0.refl _ | apply Drawn0.step)⟩
    ·rw [if_neg c5] at H
     have c5b0 : ((a0.extract 0 2).toList == ([47, 47] : List UInt8)) = false := beq_eq_false_iff_ne.mpr c5
     have c5b1 : ((a0.extract 0 2).toList != ([47, 47] : List UInt8)) = true := bne_iff_ne.mpr c5
     by_cases c6 : (a0.extract 0 2).toList = ([46, 46] : List UInt8)
     ·rw [if_pos c6] at H
      have c6b0 : ((a0.extract 0 2).toList == ([46, 46] : List UInt8)) = true := beq_iff_eq.mpr c6
      have c6b1 : ((a0.extract 0 2).toList != ([46, 46] : List UInt8)) = false := bne_eq_false_iff_eq.mpr c6
      clear c6
      obtain rfl := Option.some.inj H
      go_enter Tryd.func39, Tryd.ntmps39
      go_wp2
      go_ret
      exact ⟨by first | rfl | (simp; done) | (simp [*]; done), by repeat (first | exact Drawn0.refl _ | apply Drawn0.step)⟩
     ·rw [if_neg c6] at H
      have c6b0 : ((a0.extract 0 2).toList == ([46, 46] : List UInt8)) = false := beq_eq_false_iff_ne.mpr c6
      have c6b1 : ((a0.extract 0 2).toList != ([46, 46] : List UInt8)) = true := bne_iff_ne.mpr c6
      by_cases c7 : (a0.extract 0 2).toList = ([61, 61] : List UInt8)
      ·rw [if_pos c7] at H
       have c7b0 : ((a0.extract 0 2).toList == ([61, 61] : List UInt8)) = true := beq_iff_eq.mpr c7
       have c7b1 : ((a0.extract 0 2).toList != ([61, 61] : List UInt8)) = false := bne_eq_false_iff_eq.mpr c7
       clear c7
       obtain rfl := Option.some.inj H
       go_enter Tryd.func39, Tryd.ntmps39
       go_wp2
       go_ret
       exact ⟨by first | rfl | (simp; done) | (simp [*]; done), by repeat (first | exact Drawn0.refl _ | apply Drawn0.step)⟩
      ·rw [if_neg c7] at H
       have c7b0 : ((a0.extract 0 2).toList == ([61, 61] : List UInt8)) = false := beq_eq_false_iff_ne.mpr c7
       have c7b1 : ((a0.extract 0 2).toList != ([61, 61] : List UInt8)) = true := bne_iff_ne.mpr c7
       by_cases c8 : (a0.extract 0 2).toList = ([126, 61] : List UInt8)
       ·rw [if_pos c8] at H
        have c8b0 : ((a0.extract 0 2).toList == ([126, 61] : List UInt8)) = true := beq_iff_eq.mpr c8
        have c8b1 : ((a0.extract 0 2).toList != ([126, 61] : List UInt8)) = false := bne_eq_false_iff_eq.mpr c8
        clear c8
        obtain rfl := Option.some.inj H
        go_enter Tryd.func39, Tryd.ntmps39
        go_wp2
        go_ret
        exact ⟨by first | rfl | (simp; done) | (simp [*]; done), by repeat (first | exact Drawn0.refl _ | apply Drawn0.step)⟩
       ·rw [if_neg c8] at H
        have c8b0 : ((a0.extract 0 2).toList == ([126, 61] : List UInt8)) = false := beq_eq_false_iff_ne.mpr c8
        have c8b1 : ((a0.extract 0 2).toList != ([126, 61] : List UInt8)) = true := bne_iff_ne.mpr c8
        by_cases c9 : (a0.extract 0 2).toList = ([60, 61] : List UInt8)
        ·rw [if_pos c9] at H
         have c9b0 : ((a0.extract 0 2).toList == ([60, 61] : List UInt8)) = true := beq_iff_eq.mpr c9
         have c9b1 : ((a0.extract 0 2).toList != ([60, 61] : List UInt8)) = false := bne_eq_false_iff_eq.mpr c9
         clear c9
         obtain rfl := Option.some.inj H
         go_enter Tryd.func39, Tryd.ntmps39
         go_wp2
         go_ret
         exact ⟨by first | rfl | (simp; done) | (simp [*]; done), by repeat (first | exact Drawn0.refl _ | apply Drawn0.step)⟩
        ·rw [if_neg c9] at H
         have c9b0 : ((a0.extract 0 2).toList == ([60, 61] : List UInt8)) = false := beq_eq_false_iff_ne.mpr c9
         have c9b1 : ((a0.extract 0 2).toList != ([60, 61] : List UInt8)) = true := bne_iff_ne.mpr c9
         by_cases c10 : (a0.extract 0 2).toList = ([62, 61] : List UInt8)
         ·rw [if_pos c10] at H
          have c10b0 : ((a0.extract 0 2).toList == ([62, 61] : List UInt8)) = true := beq_iff_eq.mpr c10
          have c10b1 : ((a0.extract 0 2).toList != ([62, 61] : List UInt8)) = false := bne_eq_false_iff_eq.mpr c10
          clear c10
          obtain rfl := Option.some.inj H
          go_enter Tryd.func39, Tryd.ntmps39
          go_wp2
          go_ret
          exact ⟨by first | rfl | (simp; done) | (simp [*]; done), by repeat (first | exact Drawn0.refl _ | apply Drawn0.step)⟩
         ·rw [if_neg c10] at H
          have c10b0 : ((a0.extract 0 2).toList == ([62, 61] : List UInt8)) = false := beq_eq_false_iff_ne.mpr c10
          have c10b1 : ((a0.extract 0 2).toList != ([62, 61] : List UInt8)) = true := bne_iff_ne.mpr c10
          obtain rfl := Option.some.inj H
          go_enter Tryd.func39, Tryd.ntmps39
          go_wp2
          go_ret
          exact ⟨by first | rfl | (simp; done) | (simp [*]; done), by repeat (first | exact Drawn0.refl _ | apply Drawn0.step)⟩
   ·rw [if_neg c4] at H
    exact absurd H (by simp)
  ·rw [if_neg c3] at H
   exact absurd H (by simp)
 ·rw [if_neg c2] at H
  have c2b0 : decide (1 < (a0.size : Int)) = false := decide_eq_false c2
  have c2b1 : decide (1 < a0.size) = false := decide_eq_false (by omega)
  clear c2
  obtain rfl := Option.some.inj H
  go_enter Tryd.func39, Tryd.ntmps39
  go_wp2
  go_ret
  exact ⟨by first | rfl | (simp; done) | (simp [*]; done), by repeat (first | exact Drawn0.refl _ | apply Drawn0.step)⟩

-- NOT PRINTED: function 19 (lex_kinds)

/-! ### stringslite_HasPrefix: function 57 -/
def stringslite_HasPrefix.f (a0 : ByteArray) (a1 : ByteArray) : Option (Bool) := if (a0.size : Int) ≥ (a1.size : Int) then (if 0 ≤ (a1.size : Int) then (if (a1.size : Int) ≤ (a0.size : Int) then (some ((a0.extract 0 ((a1.size : Int) : Int).toNat).toList == a1.toList)) else (none)) else (none)) else (some false)
set_option maxHeartbeats 8000000 in
set_option maxRecDepth 100000 in
theorem stringslite_HasPrefix.calls (a0 : ByteArray) (a1 : ByteArray) (r : Bool) (w : World) (h : stringslite_HasPrefix.f a0 a1 = some r) :
  Calls Tryd.prog 57 #[.string a0, .string a1] w fun e w' => e = .returned (.bool r) ∧ Drawn0 w w' := by
 have H : (if (a0.size : Int) ≥ (a1.size : Int) then (if 0 ≤ (a1.size : Int) then (if (a1.size : Int) ≤ (a0.size : Int) then (some ((a0.extract 0 ((a1.size : Int) : Int).toNat).toList == a1.toList)) else (none)) else (none)) else (some false)) = some r := h
 clear h
 by_cases c3 : (a0.size : Int) ≥ (a1.size : Int)
 ·rw [if_pos c3] at H
  have c3b0 : decide ((a1.size : Int) ≤ (a0.size : Int)) = true := decide_eq_true c3
  have c3b1 : decide (a1.size ≤ a0.size) = true := decide_eq_true (Int.ofNat_le.mp c3)
  clear c3
  by_cases c4 : 0 ≤ (a1.size : Int)
  ·rw [if_pos c4] at H
   have c4b0 := eq_true c4
   have c4b1 : decide (0 ≤ (a1.size : Int)) = true := decide_eq_true c4
   clear c4
   by_cases c5 : (a1.size : Int) ≤ (a0.size : Int)
   ·rw [if_pos c5] at H
    have c5b0 := eq_true c5
    have c5b1 : decide ((a1.size : Int) ≤ (a0.size : Int)) = true := decide_eq_true c5
    clear c5
    obtain rfl := Option.some.inj H
    go_enter Tryd.func57, Tryd.ntmps57
    go_wp2
    go_ret
    exact ⟨by first | rfl | (simp; done) | (simp [*]; done), by repeat (first | exact Drawn0.refl _ | apply Drawn0.step)⟩
   ·rw [if_neg c5] at H
    exact absurd H (by simp)
  ·rw [if_neg c4] at H
   exact absurd H (by simp)
 ·rw [if_neg c3] at H
  have c3b0 : decide ((a1.size : Int) ≤ (a0.size : Int)) = false := decide_eq_false c3
  have c3b1 : decide (a1.size ≤ a0.size) = false := decide_eq_false (fun h => c3 (Int.ofNat_le.mpr h))
  clear c3
  obtain rfl := Option.some.inj H
  go_enter Tryd.func57, Tryd.ntmps57
  go_wp2
  go_ret
  exact ⟨by first | rfl | (simp; done) | (simp [*]; done), by repeat (first | exact Drawn0.refl _ | apply Drawn0.step)⟩

/-! ### strings_HasPrefix: function 41 -/
def strings_HasPrefix.f (a0 : ByteArray) (a1 : ByteArray) : Option (Bool) := (stringslite_HasPrefix.f a0 a1).bind fun t151 => (some t151)
set_option maxHeartbeats 8000000 in
set_option maxRecDepth 100000 in
theorem strings_HasPrefix.calls (a0 : ByteArray) (a1 : ByteArray) (r : Bool) (w : World) (h : strings_HasPrefix.f a0 a1 = some r) :
  Calls Tryd.prog 41 #[.string a0, .string a1] w fun e w' => e = .returned (.bool r) ∧ Drawn0 w w' := by
 have H : ((stringslite_HasPrefix.f a0 a1).bind fun t151 => (some t151)) = some r := h
 clear h
 replace H := Option.bind_eq_some_iff.mp H
 obtain ⟨t151, A30, H⟩ := H
 replace H : (some t151) = some r := H
 have A3 := Aside0.mk A30
 clear A30
 obtain rfl := Option.some.inj H
 go_enter Tryd.func41, Tryd.ntmps41
 go_wp2_with (first | ((with_reducible refine gate_callee (f := 57) rfl ?_); refine goesL_ (some 7) rfl rfl Tryd.func57 (by kernel_rfl) rfl #[.string a0, .string a1] rfl (by (try simp only [List.map_toArray, List.map_cons, List.map_nil]); first | done | rfl | (simp only [List.length_drop, List.length_take]; rfl)) ?_; (with_reducible refine (stringslite_HasPrefix.calls a0 a1 t151 _ A3.out).mono ?_); rintro e w' ⟨rfl, ⟨nd, rfl⟩⟩; refine ⟨_, rfl, ?_⟩))
 go_ret
 exact ⟨by first | rfl | (simp; done) | (simp [*]; done), by repeat (first | exact Drawn0.refl _ | apply Drawn0.step)⟩

/-! ### lex_skip: function 20 -/
def blankN : Bool → List UInt8 → Nat
 | _, [] => 0
 | true, b :: r => if b = 10 then 1 + blankN false r else 1 + blankN true r
 | false, b :: r => if b = 32 ∨ b = 9 ∨ b = 10 ∨ b = 13 then 1 + blankN false r else if b = 45 ∧ r.head? = some 45 then 1 + blankN true r else 0

theorem hasPrefix_two (s : ByteArray) : strings_HasPrefix.f s ⟨#[45, 45]⟩ = some (decide (s.data.toList.take 2 = [45, 45])) := by
 have h2 : ((⟨#[45, 45]⟩ : ByteArray).size : Int) = 2 := rfl
 have h3 : (⟨#[45, 45]⟩ : ByteArray).toList = [45, 45] := by rw [Lib.toList_data]
 unfold strings_HasPrefix.f stringslite_HasPrefix.f
 rw [h2, h3, if_pos (show (0 : Int) ≤ 2 by decide)]
 by_cases hs : (s.size : Int) ≥ 2
 ·rw [if_pos hs, if_pos (by omega)]
  rw [Lib.extract_toList]
  show some (List.take 2 (List.drop 0 s.data.toList) == [45, 45]) = _
  rw [List.drop_zero]
  congr 1
  rw [Bool.eq_iff_iff]; simp
 ·rw [if_neg hs]
  show some false = _
  congr 1
  symm
  refine decide_eq_false fun h => ?_
  have := congrArg List.length h
  simp at this
  omega
theorem two_head (s : ByteArray) (i : Nat) (b : UInt8) (r : List UInt8) (h : s.data.toList.drop i = b :: r) : (s.extract i s.size).data.toList.take 2 = [45, 45] ↔ b = 45 ∧ r.head? = some 45 := by
 have e : (s.extract i s.size).data.toList = b :: r := by rw [Lib.extract_data, List.take_of_length_le (by simp), h]
 rw [e]
 cases r with
 | nil => simp
 | cons c r => simp
theorem blank_remark (b : UInt8) (r : List UInt8) (hn : ¬ (b = 32 ∨ b = 9 ∨ b = 10 ∨ b = 13)) (h : b = 45 ∧ r.head? = some 45) : blankN false (b :: r) = blankN true (b :: r) := by
 simp only [blankN]; rw [if_neg hn, if_pos h, if_neg (fun e => hn (.inr (.inr (.inl e))))]
theorem blank_none (b : UInt8) (r : List UInt8) (hn : ¬ (b = 32 ∨ b = 9 ∨ b = 10 ∨ b = 13)) (h : ¬ (b = 45 ∧ r.head? = some 45)) : blankN false (b :: r) = 0 := by
 rw [blankN, if_neg hn, if_neg h]
theorem hasPrefix_yes (s : ByteArray) (h : s.data.toList.take 2 = [45, 45]) : strings_HasPrefix.f s ⟨#[45, 45]⟩ = some true := by rw [hasPrefix_two, decide_eq_true h]
theorem hasPrefix_no (s : ByteArray) (h : ¬ s.data.toList.take 2 = [45, 45]) : strings_HasPrefix.f s ⟨#[45, 45]⟩ = some false := by rw [hasPrefix_two, decide_eq_false h]
set_option maxHeartbeats 8000000 in
set_option maxRecDepth 100000 in
theorem skip_walk (s : ByteArray) (at0 : Nat) (hs : s.size ≤ 140737488351232) (h0 : at0 ≤ s.size) (w : World) :
  Calls Tryd.prog 20 #[.string s, .int .i64 at0] w fun e w' => e = .returned (.int .i64 ((at0 + blankN false (s.data.toList.drop at0) : Nat) : Int)) ∧ Drawn0 w w' := by
 have hsz : s.data.toList.length = s.size := by simp
 go_enter Tryd.func20, Tryd.ntmps20
 go_wp2
 go_step3
 go_wp2
 go_step3
 go_wp2
 clear hsz
 go_loopg [1] s.size (fun g v1 w' => ∃ i : Nat, v1 = .int .i64 (i : Int) ∧ Aside0 (i ≤ s.size ∧ s.size - i ≤ g ∧ i + blankN false (s.data.toList.drop i) = at0 + blankN false (s.data.toList.drop at0)) ∧ Drawn0 w w')
 case atStart => exact ⟨at0, rfl, ⟨h0, by omega, rfl⟩, Drawn0.refl _⟩
 case round =>
  obtain ⟨i, rfl, HI, ⟨m1, rfl⟩⟩ := hrel
  by_cases hlt : i < s.size
  ·have hd1 : decide ((i : Int) < (s.size : Int)) = true := decide_eq_true (by omega)
   have e : s.data.toList[i]'(by simpa using hlt) = s[i] := by simp [← ByteArray.getElem_eq_getElem_data]
   have hD := List.drop_eq_getElem_cons (l := s.data.toList) (i := i) (by simpa using hlt)
   rw [e] at hD
   by_cases hb : s[i] = 32 ∨ s[i] = 9 ∨ s[i] = 10 ∨ s[i] = 13
   ·have HJ : Aside0 (i + 1 ≤ s.size ∧ s.size - (i + 1) ≤ gk - 1 ∧ i + 1 + blankN false (s.data.toList.drop (i + 1)) = at0 + blankN false (s.data.toList.drop at0)) := by
     obtain ⟨a, b, c⟩ := HI.out
     refine ⟨by omega, by omega, ?_⟩
     rw [← c, hD, blankN, if_pos hb]; omega
    have HG : Aside0 (gk - 1 < gk) := by obtain ⟨a, b, c⟩ := HI.out; exact ⟨by omega⟩
    clear HI e hD
    rcases hb with hb | hb | hb | hb
    ·have hb' : (s[i].toNat : Int) = 32 := by rw [hb]; rfl
     clear hb
     go_wp2
     go_roundg (gk - 1)
     case measure => exact HG.out
     case rel => exact ⟨i + 1, by go_num, HJ, ⟨m1, rfl⟩⟩
    ·have hb' : (s[i].toNat : Int) = 9 := by rw [hb]; rfl
     clear hb
     go_wp2
     go_roundg (gk - 1)
     case measure => exact HG.out
     case rel => exact ⟨i + 1, by go_num, HJ, ⟨m1, rfl⟩⟩
    ·have hb' : (s[i].toNat : Int) = 10 := by rw [hb]; rfl
     clear hb
     go_wp2
     go_roundg (gk - 1)
     case measure => exact HG.out
     case rel => exact ⟨i + 1, by go_num, HJ, ⟨m1, rfl⟩⟩
    ·have hb' : (s[i].toNat : Int) = 13 := by rw [hb]; rfl
     clear hb
     go_wp2
     go_roundg (gk - 1)
     case measure => exact HG.out
     case rel => exact ⟨i + 1, by go_num, HJ, ⟨m1, rfl⟩⟩
   ·have HN : Aside0 (¬ (s[i] = 32 ∨ s[i] = 9 ∨ s[i] = 10 ∨ s[i] = 13)) := ⟨hb⟩
    have n1 : ((s[i].toNat : Int) == 32) = false := beq_eq_false_iff_ne.mpr fun h => hb (.inl (UInt8.toNat_inj.mp (by have : (32 : UInt8).toNat = 32 := rfl; omega)))
    have n2 : ((s[i].toNat : Int) == 9) = false := beq_eq_false_iff_ne.mpr fun h => hb (.inr (.inl (UInt8.toNat_inj.mp (by have : (9 : UInt8).toNat = 9 := rfl; omega))))
    have n3 : ((s[i].toNat : Int) == 10) = false := beq_eq_false_iff_ne.mpr fun h => hb (.inr (.inr (.inl (UInt8.toNat_inj.mp (by have : (10 : UInt8).toNat = 10 := rfl; omega)))))
    have n4 : ((s[i].toNat : Int) == 13) = false := beq_eq_false_iff_ne.mpr fun h => hb (.inr (.inr (.inr (UInt8.toNat_inj.mp (by have : (13 : UInt8).toNat = 13 := rfl; omega)))))
    have HD := Aside0.mk hD
    clear hb e hD
    by_cases hc : ((s.extract i s.size).data.toList).take 2 = [45, 45]
    ·have hp : strings_HasPrefix.f (s.extract i s.size) ⟨#[45, 45]⟩ = some true := hasPrefix_yes _ hc
     have HC := Aside0.mk hc
     clear hc
     go_wp2_with (first | (go_at_call 41; (with_reducible refine (strings_HasPrefix.calls _ _ true _ hp).mono ?_); rintro e w' ⟨rfl, ⟨nd, rfl⟩⟩))
     obtain ⟨gO, rfl⟩ : ∃ g, g = gk := ⟨_, rfl⟩
     go_loopg [1] (s.size - i) (fun g v1 w' => ∃ j : Nat, v1 = .int .i64 (j : Int) ∧ Aside0 (i ≤ j ∧ j ≤ s.size ∧ s.size - j ≤ g ∧ (j = i ∨ i < j) ∧ j + blankN true (s.data.toList.drop j) = at0 + blankN false (s.data.toList.drop at0)) ∧ Drawn0 w w')
     case atStart =>
      refine ⟨i, rfl, ⟨Nat.le_refl _, by omega, Nat.le_refl _, .inl rfl, ?_⟩, ⟨_, rfl⟩⟩
      obtain ⟨a, b, c⟩ := HI.out
      rw [← c, HD.out]
      exact congrArg (i + ·) (blank_remark _ _ HN.out ((two_head s i _ _ HD.out).1 HC.out)).symm
     case round =>
      obtain ⟨j, rfl, HJ, ⟨m2, rfl⟩⟩ := hrel
      have HI2 := HI
      have HN1 : Aside0 (¬ (s[i] = 32 ∨ s[i] = 9 ∨ s[i] = 10 ∨ s[i] = 13)) := HN
      clear HI HN HD HC hp n1 n2 n3 n4 hd1
      by_cases hlj : j < s.size
      ·have hd1 : decide ((j : Int) < (s.size : Int)) = true := decide_eq_true (by omega)
       have e : s.data.toList[j]'(by simpa using hlj) = s[j] := by simp [← ByteArray.getElem_eq_getElem_data]
       have hD := List.drop_eq_getElem_cons (l := s.data.toList) (i := j) (by simpa using hlj)
       rw [e] at hD
       by_cases hb : s[j] = 10
       ·have HN2 : Aside0 (j ≤ s.size ∧ s.size - j ≤ gO - 1 ∧ j + blankN false (s.data.toList.drop j) = at0 + blankN false (s.data.toList.drop at0) ∧ gO - 1 < gO) := by
         obtain ⟨a1, a2, a3, a4, a5⟩ := HJ.out
         obtain ⟨b1, b2, b3⟩ := HI2.out
         have hij : i < j := by
          rcases a4 with h | h
          ·exact absurd (by subst h; exact .inr (.inr (.inl hb))) HN1.out
          ·exact h
         refine ⟨a2, by omega, ?_, by omega⟩
         rw [← a5, hD, hb]
         rfl
        clear HI2 HJ hD e
        have hb' : (s[j].toNat : Int) = 10 := by rw [hb]; rfl
        clear hb
        go_wp2
        go_roundg (gO - 1)
        case measure => exact HN2.out.2.2.2
        case rel => exact ⟨j, rfl, ⟨HN2.out.1, HN2.out.2.1, HN2.out.2.2.1⟩, ⟨_, rfl⟩⟩
       ·have n1 : ((s[j].toNat : Int) == 10) = false := beq_eq_false_iff_ne.mpr fun h => hb (UInt8.toNat_inj.mp (by have : (10 : UInt8).toNat = 10 := rfl; omega))
        have n2 : ((s[j].toNat : Int) != 10) = true := by simpa [bne] using n1
        have HN2 : Aside0 (i ≤ j + 1 ∧ j + 1 ≤ s.size ∧ s.size - (j + 1) ≤ gk - 1 ∧ (j + 1 = i ∨ i < j + 1) ∧ j + 1 + blankN true (s.data.toList.drop (j + 1)) = at0 + blankN false (s.data.toList.drop at0) ∧ gk - 1 < gk) := by
         obtain ⟨a1, a2, a3, a4, a5⟩ := HJ.out
         refine ⟨by omega, by omega, by omega, .inr (by omega), ?_, by omega⟩
         rw [← a5, hD]
         show _ = j + blankN true (s[j] :: _)
         rw [blankN, if_neg hb]; omega
        clear HI2 HJ hD e hb
        go_wp2
        go_roundg (gk - 1)
        case measure => exact HN2.out.2.2.2.2.2
        case rel => exact ⟨j + 1, by go_num, ⟨HN2.out.1, HN2.out.2.1, HN2.out.2.2.1, HN2.out.2.2.2.1, HN2.out.2.2.2.2.1⟩, ⟨_, rfl⟩⟩
      ·have hd1 : decide ((j : Int) < (s.size : Int)) = false := decide_eq_false (by omega)
       have HN2 : Aside0 (j ≤ s.size ∧ s.size - j ≤ gO - 1 ∧ j + blankN false (s.data.toList.drop j) = at0 + blankN false (s.data.toList.drop at0) ∧ gO - 1 < gO) := by
         obtain ⟨a1, a2, a3, a4, a5⟩ := HJ.out
         obtain ⟨b1, b2, b3⟩ := HI2.out
         refine ⟨a2, by omega, ?_, by omega⟩
         rw [← a5, List.drop_of_length_le (by simp; omega)]
         rfl
       clear HI2 HJ
       go_wp2
       go_roundg (gO - 1)
       case measure => exact HN2.out.2.2.2
       case rel => exact ⟨j, rfl, ⟨HN2.out.1, HN2.out.2.1, HN2.out.2.2.1⟩, ⟨_, rfl⟩⟩
    ·have hp : strings_HasPrefix.f (s.extract i s.size) ⟨#[45, 45]⟩ = some false := hasPrefix_no _ hc
     have HC := Aside0.mk hc
     clear hc
     go_wp2_with (first | (go_at_call 41; (with_reducible refine (strings_HasPrefix.calls _ _ false _ hp).mono ?_); rintro e w' ⟨rfl, ⟨nd, rfl⟩⟩))
     rw [Exit.noGoto_ret]
     go_ret
     refine ⟨?_, ⟨_, rfl⟩⟩
     obtain ⟨a, b, c⟩ := HI.out
     rw [HD.out, blank_none _ _ HN.out (fun h => HC.out ((two_head s i _ _ HD.out).2 h))] at c
     rw [← c]
     rfl
  ·have hd1 : decide ((i : Int) < (s.size : Int)) = false := decide_eq_false (by omega)
   have HJ : Aside0 (i = at0 + blankN false (s.data.toList.drop at0)) := by
    obtain ⟨a, b, c⟩ := HI.out
    rw [List.drop_of_length_le (by simp; omega)] at c
    exact ⟨by simpa [blankN] using c⟩
   clear HI
   go_wp2
   rw [Exit.noGoto_ret]
   go_ret
   exact ⟨by rw [← HJ.out]; try rfl, ⟨m1, rfl⟩⟩
def lex_skip.f (a0 : ByteArray) (a1 : Int) : Option (Int) := if 0 ≤ a1 ∧ a1 ≤ (a0.size : Int) ∧ a0.size ≤ 140737488351232 then some (a1 + (blankN false (a0.data.toList.drop a1.toNat) : Int)) else none
theorem lex_skip.calls (a0 : ByteArray) (a1 : Int) (r : Int) (w : World) (h : lex_skip.f a0 a1 = some r) :
  Calls Tryd.prog 20 #[.string a0, .int .i64 a1] w fun e w' => e = .returned (.int .i64 r) ∧ Drawn0 w w' := by
 unfold lex_skip.f at h
 by_cases c : 0 ≤ a1 ∧ a1 ≤ (a0.size : Int) ∧ a0.size ≤ 140737488351232
 ·rw [if_pos c] at h
  obtain ⟨n, rfl⟩ := Int.eq_ofNat_of_zero_le c.1
  have := skip_walk a0 n c.2.2 (by omega) w
  obtain rfl := Option.some.inj h
  simpa using this
 ·rw [if_neg c] at h; cases h

end Go.Proofs.YtpemgladmnbfhaaDoor.QL
