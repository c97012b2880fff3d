-- WRITTEN BY wip/tools/myprint.py, a program of this session, over the kit's printer
import Derived.Test.YticnolkbmpmgcaaSh
import Derived.Test.YticnolkbmpmgcaaQNx0
import Derived.Test.YticnolkbmpmgcaaQNx2
namespace Go.Proofs.Yticnolkbmpmgcaa.QN
open Go.Proofs.Yticnolkbmpmgcaa.Sh
open Go.RowKit Go.Proofs.YticnolkbmpmgcaaW.PrintWords Go.Proofs.YticnolkbmpmgcaaW.PrintLast Go.Proofs.YticnolkbmpmgcaaW.PrintMore
attribute [local go_sem] max2_int min2_int max_two min_two max_three min_three max_four min_four   -- for this text's walks alone
open Go.Proofs.Yticnolkbmpmgcaa.Fl
attribute [local go_sem high] bo_eq bo_ne bo_lt bo_le bo_gt bo_ge
attribute [local go_sem] run39 run40 neg_fl
set_option linter.unusedVariables false
set_option linter.unusedSimpArgs false

/-! ### heirloomref01_hex: function 50 -/
mutual
def heirloomref01_hex.l0 : Nat → ByteArray → Int → Int → Option (Int × Bool)
  | 0, _, _, _ => none
  | k + 1, x0, x4, x5 => if x5 < (x0.size : Int) then (if 0 ≤ x5 then (if (bt x0 x5) ≥ 48 then (heirloomref01_hex.j1 k x0 x4 x5 (bt x0 x5) (decide ((bt x0 x5) ≤ 57))) else (heirloomref01_hex.j1 k x0 x4 x5 (bt x0 x5) false)) else (none)) else (some (x4, true))
def heirloomref01_hex.j1 : Nat → ByteArray → Int → Int → Int → Bool → Option (Int × Bool)
  | 0, _, _, _, _, _ => none
  | k + 1, x0, x4, x5, x6, x21 => if x21 = true then (heirloomref01_hex.l0 k x0 (IntKind.u64.wrap ((IntKind.u64.wrap (16 * x4)) + ((x6 - 48) % 256))) (wrap64 (x5 + 1))) else (if x6 ≥ 97 then (if x6 ≤ 102 then (heirloomref01_hex.l0 k x0 (IntKind.u64.wrap ((IntKind.u64.wrap ((IntKind.u64.wrap (16 * x4)) + ((x6 - 97) % 256))) + 10)) (wrap64 (x5 + 1))) else (some (0, false))) else (some (0, false)))
end
def heirloomref01_hex.f (k : Nat) (a0 : ByteArray) : Option (Int × Bool) := heirloomref01_hex.l0 k a0 0 0
theorem heirloomref01_hex.mono_l : ∀ k, (∀ y0 y1 y2, LeO (heirloomref01_hex.l0 k y0 y1 y2) (heirloomref01_hex.l0 (k + 1) y0 y1 y2)) ∧ (∀ y0 y1 y2 y3 y4, LeO (heirloomref01_hex.j1 k y0 y1 y2 y3 y4) (heirloomref01_hex.j1 (k + 1) y0 y1 y2 y3 y4))
  | 0 => ⟨fun _ _ _ r h => by simp [heirloomref01_hex.l0] at h, fun _ _ _ _ _ r h => by simp [heirloomref01_hex.j1] at h⟩
  | k + 1 => by
    obtain ⟨ih0, ih1⟩ := heirloomref01_hex.mono_l k
    refine ⟨?_, ?_⟩
    · intro y0 y1 y2
      unfold heirloomref01_hex.l0
      repeat' first
      | (with_reducible exact ih0 _ _ _)
      | (with_reducible exact ih1 _ _ _ _ _)
      | (with_reducible exact LeO.refl _)
      | (with_reducible exact LeO.none _)
      | (with_reducible refine LeO.ite ?_ ?_)
      | (with_reducible refine LeO.bind ?_ (fun _ => ?_))
      | exact ih0 _ _ _
      | exact ih1 _ _ _ _ _
      | exact LeO.none _
      | refine LeO.ite ?_ ?_
      | refine LeO.bind ?_ (fun _ => ?_)
    · intro y0 y1 y2 y3 y4
      unfold heirloomref01_hex.j1
      repeat' first
      | (with_reducible exact ih0 _ _ _)
      | (with_reducible exact ih1 _ _ _ _ _)
      | (with_reducible exact LeO.refl _)
      | (with_reducible exact LeO.none _)
      | (with_reducible refine LeO.ite ?_ ?_)
      | (with_reducible refine LeO.bind ?_ (fun _ => ?_))
      | exact ih0 _ _ _
      | exact ih1 _ _ _ _ _
      | exact LeO.none _
      | refine LeO.ite ?_ ?_
      | refine LeO.bind ?_ (fun _ => ?_)
theorem heirloomref01_hex.mono : ∀ a0 k, LeO (heirloomref01_hex.f k a0) (heirloomref01_hex.f (k + 1) a0) := by
  intro a0 k
  obtain ⟨ih0, ih1⟩ := heirloomref01_hex.mono_l k
  unfold heirloomref01_hex.f
  repeat' first
      | (with_reducible exact ih0 _ _ _)
      | (with_reducible exact ih1 _ _ _ _ _)
      | (with_reducible exact LeO.refl _)
      | (with_reducible exact LeO.none _)
      | (with_reducible refine LeO.ite ?_ ?_)
      | (with_reducible refine LeO.bind ?_ (fun _ => ?_))
      | exact ih0 _ _ _
      | exact ih1 _ _ _ _ _
      | exact LeO.none _
      | refine LeO.ite ?_ ?_
      | refine LeO.bind ?_ (fun _ => ?_)
set_option maxHeartbeats 8000000 in
set_option maxRecDepth 100000 in
theorem heirloomref01_hex.calls (k : Nat) (a0 : ByteArray) (r1 : Int) (r2 : Bool) (w : World) (h : heirloomref01_hex.f k a0 = some (r1, r2)) :
    Calls Try.prog 50 #[.string a0] w fun e w' => e = .returned (.tuple #[.int .u64 r1, .bool r2]) ∧ Drawn0 w w' := by
  have H : (heirloomref01_hex.l0 k a0 0 0) = some (r1, r2) := h
  clear h
  have H' := Aside0.mk H
  clear H
  go_enter Try.func50, Try.ntmps50
  go_wp2
  go_loopg [4, 5] k (fun kq v4 v5 w' => ∃ (x4_1 : Int) (x5_1 : Int), v4 = .int .u64 x4_1 ∧ v5 = .int .i64 x5_1 ∧ Aside0 (heirloomref01_hex.l0 kq a0 x4_1 x5_1 = some (r1, r2)) ∧ Aside0 (kq ≤ k) ∧ Drawn0 w w')
  case atStart => exact ⟨(0), (0), (by first | rfl | (simp; done) | (simp [*]; done)), (by first | rfl | (simp; done) | (simp [*]; done)), H', ⟨Nat.le_refl _⟩, by repeat (first | exact Drawn0.refl _ | apply Drawn0.step)⟩
  case round =>
    clear H'
    obtain ⟨x4_1, x5_1, rfl, rfl, HA, HK1, ⟨m1, rfl⟩⟩ := hrel
    cases gk with
    | zero => exact absurd HA.out (by simp [heirloomref01_hex.l0])
    | succ k1 =>
      have H := HA.out
      clear HA
      simp only [heirloomref01_hex.l0] at H
      by_cases c2 : x5_1 < (a0.size : Int)
      · rw [if_pos c2] at H
        have c2b0 : decide (x5_1 < (a0.size : Int)) = true := decide_eq_true c2
        clear c2
        by_cases c3 : 0 ≤ x5_1
        · rw [if_pos c3] at H
          have c3b0 : decide (0 ≤ x5_1) = true := decide_eq_true c3
          clear c3
          have HC5 := Aside0.mk H
          clear H
          have p4 : 0 ≤ (x5_1 : Int) := of_decide_eq_true (by first | (with_reducible assumption) | assumption)
          have q4 : x5_1 < (a0.size : Int) := of_decide_eq_true (by first | (with_reducible assumption) | assumption)
          have hx4 := bt_at a0 x5_1
          replace p4 := eq_true p4
          replace q4 := eq_true q4
          go_upto_region 6 with (fail)
          go_cut [21] (fun v21 wc => ∃ (kq : Nat) (x21_4 : Bool), v21 = .bool x21_4 ∧ Aside0 (heirloomref01_hex.j1 kq a0 x4_1 x5_1 (bt a0 x5_1) x21_4 = some (r1, r2)) ∧ Aside0 (kq ≤ k1) ∧ Drawn0 w wc)
          case first =>
            have H := HC5.out
            clear HC5
            by_cases c6 : (bt a0 x5_1) ≥ 48
            · rw [if_pos c6] at H
              have c6b0 : decide (48 ≤ (bt a0 x5_1)) = true := decide_eq_true c6
              clear c6
              (first | rw [c6b0] | (simp only [i64_w, i32_w]; rw [c6b0]) | skip)
              have H' := Aside0.mk H
              clear H
              go_wp2
              go_meet
              case rel => exact ⟨_, (decide ((bt a0 x5_1) ≤ 57)), (by first | rfl | (simp; done) | (simp [*]; done)), H', ⟨by have := HK1.out; first | omega | exact Nat.le_refl _⟩, by repeat (first | exact Drawn0.refl _ | apply Drawn0.step)⟩
            · rw [if_neg c6] at H
              have c6b0 : decide (48 ≤ (bt a0 x5_1)) = false := decide_eq_false c6
              clear c6
              (first | rw [c6b0] | (simp only [i64_w, i32_w]; rw [c6b0]) | skip)
              have H' := Aside0.mk H
              clear H
              go_wp2
              go_meet
              case rel => exact ⟨_, (false), (by first | rfl | (simp; done) | (simp [*]; done)), H', ⟨by have := HK1.out; first | omega | exact Nat.le_refl _⟩, by repeat (first | exact Drawn0.refl _ | apply Drawn0.step)⟩
          case rest =>
            clear HC5
            try clear c2
            try clear c2b0
            try clear p2
            try clear c3
            try clear c3b0
            try clear p4
            try clear q4
            try clear hx4
            try clear c5
            try clear c6
            try clear c6b0
            try clear p4
            try clear q4
            obtain ⟨kq, x21_4, rfl, HA, HJ4, ⟨mc4, rfl⟩⟩ := hcut
            cases kq with
            | zero => exact absurd HA.out (by simp [heirloomref01_hex.j1])
            | succ kj4 =>
              have H := HA.out
              clear HA
              simp only [heirloomref01_hex.j1] at H
              by_cases c7 : x21_4 = true
              · subst c7
                have H1 : (heirloomref01_hex.l0 kj4 a0 (IntKind.u64.wrap ((IntKind.u64.wrap (16 * x4_1)) + (((bt a0 x5_1) - 48) % 256))) (wrap64 (x5_1 + 1))) = some (r1, r2) := by rw [if_pos rfl] at H; exact H
                clear H
                have H := H1
                clear H1
                have H' := Aside0.mk H
                clear H
                go_wp2
                go_roundg kj4
                case measure => have := HK1.out; have := HJ4.out; omega
                case rel => exact ⟨(IntKind.u64.wrap ((IntKind.u64.wrap (16 * x4_1)) + (((bt a0 x5_1) - 48) % 256))), (wrap64 (x5_1 + 1)), (by first | rfl | (simp; done) | (simp [*]; done)), (by first | rfl | (simp; done) | (simp [*]; done)), H', ⟨by have := HK1.out; have := HJ4.out; omega⟩, by repeat (first | exact Drawn0.refl _ | apply Drawn0.step)⟩
              · replace c7 := Bool.eq_false_iff.mpr c7
                subst c7
                have H1 : (if (bt a0 x5_1) ≥ 97 then (if (bt a0 x5_1) ≤ 102 then (heirloomref01_hex.l0 kj4 a0 (IntKind.u64.wrap ((IntKind.u64.wrap ((IntKind.u64.wrap (16 * x4_1)) + (((bt a0 x5_1) - 97) % 256))) + 10)) (wrap64 (x5_1 + 1))) else (some (0, false))) else (some (0, false))) = some (r1, r2) := by rw [if_neg (show ¬ (false = true) by decide)] at H; exact H
                clear H
                have H := H1
                clear H1
                by_cases c8 : (bt a0 x5_1) ≥ 97
                · rw [if_pos c8] at H
                  have c8b0 : decide (97 ≤ (bt a0 x5_1)) = true := decide_eq_true c8
                  clear c8
                  by_cases c9 : (bt a0 x5_1) ≤ 102
                  · rw [if_pos c9] at H
                    have c9b0 : decide ((bt a0 x5_1) ≤ 102) = true := decide_eq_true c9
                    clear c9
                    have H' := Aside0.mk H
                    clear H
                    go_wp2
                    go_roundg kj4
                    case measure => have := HK1.out; have := HJ4.out; omega
                    case rel => exact ⟨(IntKind.u64.wrap ((IntKind.u64.wrap ((IntKind.u64.wrap (16 * x4_1)) + (((bt a0 x5_1) - 97) % 256))) + 10)), (wrap64 (x5_1 + 1)), (by first | rfl | (simp; done) | (simp [*]; done)), (by first | rfl | (simp; done) | (simp [*]; done)), H', ⟨by have := HK1.out; have := HJ4.out; omega⟩, by repeat (first | exact Drawn0.refl _ | apply Drawn0.step)⟩
                  · rw [if_neg c9] at H
                    have c9b0 : decide ((bt a0 x5_1) ≤ 102) = false := decide_eq_false c9
                    clear c9
                    simp only [Option.some.injEq, Prod.mk.injEq] at H
                    obtain ⟨rfl, rfl⟩ := H
                    go_wp2
                    go_ret2
                    exact ⟨by first | rfl | (simp; done) | (simp [*]; done), by repeat (first | exact Drawn0.refl _ | apply Drawn0.step)⟩
                · rw [if_neg c8] at H
                  have c8b0 : decide (97 ≤ (bt a0 x5_1)) = false := decide_eq_false c8
                  clear c8
                  simp only [Option.some.injEq, Prod.mk.injEq] at H
                  obtain ⟨rfl, rfl⟩ := H
                  go_wp2
                  go_ret2
                  exact ⟨by first | rfl | (simp; done) | (simp [*]; done), by repeat (first | exact Drawn0.refl _ | apply Drawn0.step)⟩
        · rw [if_neg c3] at H
          exact absurd H (by simp)
      · rw [if_neg c2] at H
        have c2b0 : decide (x5_1 < (a0.size : Int)) = false := decide_eq_false c2
        clear c2
        simp only [Option.some.injEq, Prod.mk.injEq] at H
        obtain ⟨rfl, rfl⟩ := H
        go_wp2
        go_ret2
        exact ⟨by first | rfl | (simp; done) | (simp [*]; done), by repeat (first | exact Drawn0.refl _ | apply Drawn0.step)⟩

/-! ### heirloomref01_all: function 51 -/
def heirloomref01_all.l0 : Nat → ByteArray → Int → Option (Bool)
  | 0, _, _ => none
  | k + 1, x0, x3 => if x3 < (x0.size : Int) then (if 0 ≤ x3 then (if (bt x0 x3) < 48 then (some false) else (if (bt x0 x3) > 57 then (some false) else (heirloomref01_all.l0 k x0 (wrap64 (x3 + 1))))) else (none)) else (some (decide ((x0.size : Int) > 0)))
def heirloomref01_all.f (k : Nat) (a0 : ByteArray) : Option (Bool) := heirloomref01_all.l0 k a0 0
theorem heirloomref01_all.mono_l : ∀ k, (∀ y0 y1, LeO (heirloomref01_all.l0 k y0 y1) (heirloomref01_all.l0 (k + 1) y0 y1))
  | 0 => fun _ _ r h => by simp [heirloomref01_all.l0] at h
  | k + 1 => by
    have ih0 := heirloomref01_all.mono_l k
    · intro y0 y1
      unfold heirloomref01_all.l0
      repeat' first
      | (with_reducible exact ih0 _ _)
      | (with_reducible exact LeO.refl _)
      | (with_reducible exact LeO.none _)
      | (with_reducible refine LeO.ite ?_ ?_)
      | (with_reducible refine LeO.bind ?_ (fun _ => ?_))
      | exact ih0 _ _
      | exact LeO.none _
      | refine LeO.ite ?_ ?_
      | refine LeO.bind ?_ (fun _ => ?_)
theorem heirloomref01_all.mono : ∀ a0 k, LeO (heirloomref01_all.f k a0) (heirloomref01_all.f (k + 1) a0) := by
  intro a0 k
  have ih0 := heirloomref01_all.mono_l k
  unfold heirloomref01_all.f
  repeat' first
      | (with_reducible exact ih0 _ _)
      | (with_reducible exact LeO.refl _)
      | (with_reducible exact LeO.none _)
      | (with_reducible refine LeO.ite ?_ ?_)
      | (with_reducible refine LeO.bind ?_ (fun _ => ?_))
      | exact ih0 _ _
      | exact LeO.none _
      | refine LeO.ite ?_ ?_
      | refine LeO.bind ?_ (fun _ => ?_)
set_option maxHeartbeats 8000000 in
set_option maxRecDepth 100000 in
theorem heirloomref01_all.calls (k : Nat) (a0 : ByteArray) (r : Bool) (w : World) (h : heirloomref01_all.f k a0 = some r) :
    Calls Try.prog 51 #[.string a0] w fun e w' => e = .returned (.bool r) ∧ Drawn0 w w' := by
  have H : (heirloomref01_all.l0 k a0 0) = some r := h
  clear h
  have H' := Aside0.mk H
  clear H
  go_enter Try.func51, Try.ntmps51
  go_wp2
  go_loopg [3] k (fun kq v3 w' => ∃ (x3_1 : Int), v3 = .int .i64 x3_1 ∧ Aside0 (heirloomref01_all.l0 kq a0 x3_1 = some r) ∧ Aside0 (kq ≤ k) ∧ Drawn0 w w')
  case atStart => exact ⟨(0), (by first | rfl | (simp; done) | (simp [*]; done)), H', ⟨Nat.le_refl _⟩, by repeat (first | exact Drawn0.refl _ | apply Drawn0.step)⟩
  case round =>
    clear H'
    obtain ⟨x3_1, rfl, HA, HK1, ⟨m1, rfl⟩⟩ := hrel
    cases gk with
    | zero => exact absurd HA.out (by simp [heirloomref01_all.l0])
    | succ k1 =>
      have H := HA.out
      clear HA
      simp only [heirloomref01_all.l0] at H
      by_cases c2 : x3_1 < (a0.size : Int)
      · rw [if_pos c2] at H
        have c2b0 : decide (x3_1 < (a0.size : Int)) = true := decide_eq_true c2
        clear c2
        by_cases c3 : 0 ≤ x3_1
        · rw [if_pos c3] at H
          have c3b0 : decide (0 ≤ x3_1) = true := decide_eq_true c3
          clear c3
          by_cases c5 : (bt a0 x3_1) < 48
          · rw [if_pos c5] at H
            have c5b0 : decide ((bt a0 x3_1) < 48) = true := decide_eq_true c5
            clear c5
            obtain rfl := Option.some.inj H
            have p4 : 0 ≤ (x3_1 : Int) := of_decide_eq_true (by first | (with_reducible assumption) | assumption)
            have q4 : x3_1 < (a0.size : Int) := of_decide_eq_true (by first | (with_reducible assumption) | assumption)
            have hx4 := bt_at a0 x3_1
            replace p4 := eq_true p4
            replace q4 := eq_true q4
            go_wp2
            go_ret
            exact ⟨by first | rfl | (simp; done) | (simp [*]; done), by repeat (first | exact Drawn0.refl _ | apply Drawn0.step)⟩
          · rw [if_neg c5] at H
            have c5b0 : decide ((bt a0 x3_1) < 48) = false := decide_eq_false c5
            clear c5
            by_cases c7 : (bt a0 x3_1) > 57
            · rw [if_pos c7] at H
              have c7b0 : decide (57 < (bt a0 x3_1)) = true := decide_eq_true c7
              clear c7
              obtain rfl := Option.some.inj H
              have p4 : 0 ≤ (x3_1 : Int) := of_decide_eq_true (by first | (with_reducible assumption) | assumption)
              have q4 : x3_1 < (a0.size : Int) := of_decide_eq_true (by first | (with_reducible assumption) | assumption)
              have hx4 := bt_at a0 x3_1
              replace p4 := eq_true p4
              replace q4 := eq_true q4
              have p6 : 0 ≤ (x3_1 : Int) := of_decide_eq_true (by first | (with_reducible assumption) | assumption)
              have q6 : x3_1 < (a0.size : Int) := of_decide_eq_true (by first | (with_reducible assumption) | assumption)
              have hx6 := bt_at a0 x3_1
              replace p6 := eq_true p6
              replace q6 := eq_true q6
              go_wp2
              go_ret
              exact ⟨by first | rfl | (simp; done) | (simp [*]; done), by repeat (first | exact Drawn0.refl _ | apply Drawn0.step)⟩
            · rw [if_neg c7] at H
              have c7b0 : decide (57 < (bt a0 x3_1)) = false := decide_eq_false c7
              clear c7
              have H' := Aside0.mk H
              clear H
              have p4 : 0 ≤ (x3_1 : Int) := of_decide_eq_true (by first | (with_reducible assumption) | assumption)
              have q4 : x3_1 < (a0.size : Int) := of_decide_eq_true (by first | (with_reducible assumption) | assumption)
              have hx4 := bt_at a0 x3_1
              replace p4 := eq_true p4
              replace q4 := eq_true q4
              have p6 : 0 ≤ (x3_1 : Int) := of_decide_eq_true (by first | (with_reducible assumption) | assumption)
              have q6 : x3_1 < (a0.size : Int) := of_decide_eq_true (by first | (with_reducible assumption) | assumption)
              have hx6 := bt_at a0 x3_1
              replace p6 := eq_true p6
              replace q6 := eq_true q6
              go_wp2
              go_roundg k1
              case measure => have := HK1.out; omega
              case rel => exact ⟨(wrap64 (x3_1 + 1)), (by first | rfl | (simp; done) | (simp [*]; done)), H', ⟨by have := HK1.out; omega⟩, by repeat (first | exact Drawn0.refl _ | apply Drawn0.step)⟩
        · rw [if_neg c3] at H
          exact absurd H (by simp)
      · rw [if_neg c2] at H
        have c2b0 : decide (x3_1 < (a0.size : Int)) = false := decide_eq_false c2
        clear c2
        obtain rfl := Option.some.inj H
        go_wp2
        go_ret
        exact ⟨by first | rfl | (simp; done) | (simp [*]; done), by repeat (first | exact Drawn0.refl _ | apply Drawn0.step)⟩

/-! ### heirloomref01_whole: function 52 -/
def heirloomref01_whole.l0 : Nat → ByteArray → Bool → Int → Int → Option (Int × Int × Int)
  | 0, _, _, _, _ => none
  | k + 1, x0, x1, x6, x7 => if x7 < (x0.size : Int) then (if 0 ≤ x7 then (if x6 > 922337203685477580 then (some (0, 0, 7)) else (if x6 = 922337203685477580 then (if (((bt x0 x7) - 48) % 256) > 8 then (some (0, 0, 7)) else (heirloomref01_whole.l0 k x0 x1 (IntKind.u64.wrap ((IntKind.u64.wrap (10 * x6)) + (((bt x0 x7) - 48) % 256))) (wrap64 (x7 + 1)))) else (heirloomref01_whole.l0 k x0 x1 (IntKind.u64.wrap ((IntKind.u64.wrap (10 * x6)) + (((bt x0 x7) - 48) % 256))) (wrap64 (x7 + 1))))) else (none)) else (if x6 = 9223372036854775808 then (if x1 = true then ((heirloomref01_Int.f (-9223372036854775808)).bind fun bt271 => (some (bt271.1, bt271.2, 0))) else (some (0, 0, 7))) else (if x1 = true then ((heirloomref01_Int.f (wrap64 (-(wrap64 (x6))))).bind fun bt273 => (some (bt273.1, bt273.2, 0))) else ((heirloomref01_Int.f (wrap64 (x6))).bind fun bt275 => (some (bt275.1, bt275.2, 0)))))
def heirloomref01_whole.f (k : Nat) (a0 : ByteArray) (a1 : Bool) : Option (Int × Int × Int) := heirloomref01_whole.l0 k a0 a1 0 0
theorem heirloomref01_whole.mono_l : ∀ k, (∀ y0 y1 y2 y3, LeO (heirloomref01_whole.l0 k y0 y1 y2 y3) (heirloomref01_whole.l0 (k + 1) y0 y1 y2 y3))
  | 0 => fun _ _ _ _ r h => by simp [heirloomref01_whole.l0] at h
  | k + 1 => by
    have ih0 := heirloomref01_whole.mono_l k
    · intro y0 y1 y2 y3
      unfold heirloomref01_whole.l0
      repeat' first
      | (with_reducible exact ih0 _ _ _ _)
      | (with_reducible exact LeO.refl _)
      | (with_reducible exact LeO.none _)
      | (with_reducible refine LeO.ite ?_ ?_)
      | (with_reducible refine LeO.bind ?_ (fun _ => ?_))
      | exact ih0 _ _ _ _
      | exact LeO.none _
      | refine LeO.ite ?_ ?_
      | refine LeO.bind ?_ (fun _ => ?_)
theorem heirloomref01_whole.mono : ∀ a0 a1 k, LeO (heirloomref01_whole.f k a0 a1) (heirloomref01_whole.f (k + 1) a0 a1) := by
  intro a0 a1 k
  have ih0 := heirloomref01_whole.mono_l k
  unfold heirloomref01_whole.f
  repeat' first
      | (with_reducible exact ih0 _ _ _ _)
      | (with_reducible exact LeO.refl _)
      | (with_reducible exact LeO.none _)
      | (with_reducible refine LeO.ite ?_ ?_)
      | (with_reducible refine LeO.bind ?_ (fun _ => ?_))
      | exact ih0 _ _ _ _
      | exact LeO.none _
      | refine LeO.ite ?_ ?_
      | refine LeO.bind ?_ (fun _ => ?_)
set_option maxHeartbeats 8000000 in
set_option maxRecDepth 100000 in
theorem heirloomref01_whole.calls (k : Nat) (a0 : ByteArray) (a1 : Bool) (r1 : Int) (r2 : Int) (r3 : Int) (w : World) (h : heirloomref01_whole.f k a0 a1 = some (r1, r2, r3)) :
    Calls Try.prog 52 #[.string a0, .bool a1] w fun e w' => e = .returned (.tuple #[.agg #[.int .i64 r1, .int .i64 r2], .int .i64 r3]) ∧ Below w.heap.size w w' := by
  have hu23 := Try.underlying23
  have HB := Aside0.mk (Below.refl w.heap.size w)
  have H : (heirloomref01_whole.l0 k a0 a1 0 0) = some (r1, r2, r3) := h
  clear h
  have H' := Aside0.mk H
  clear H
  go_enter Try.func52, Try.ntmps52
  go_wp2_with (first | ((with_reducible refine gate_dst (N := 4) rfl ?_); refine box_event ?hg (N := 4) ?hd (cs := #[.int .i64 0, .int .i64 0]) (t := 23) ?hr ?_; (case hd => rfl); (case hg => rfl); (case hr => go_simp <;> rfl); intro gb270 hg w3 hbox hb; have n0_ := Aside0.mk (below_step (by repeat first | exact HB.out | apply zb | apply zn | apply zd) hb); have n1_ := Aside0.mk (hbox); have n2_ := Aside0.mk ((by rw [hg]; exact (below_size (by repeat first | exact HB.out | apply zb | apply zn | apply zd)) : w.heap.size ≤ gb270)); have n3_ := n2_; clear HB; have HB := n0_; have BK270 := n1_; have GW270 := n2_; have GE270 := n3_; clear n0_ n1_ n2_ n3_; clear hb hbox hg))
  go_loopg [6, 7] k (fun kq v6 v7 w' => ∃ (x6_1 : Int) (x7_1 : Int) (x271000_1 : Int) (x271001_1 : Int), v6 = .int .u64 x6_1 ∧ v7 = .int .i64 x7_1 ∧ Aside0 (heirloomref01_whole.l0 kq a0 a1 x6_1 x7_1 = some (r1, r2, r3)) ∧ Aside0 (kq ≤ k) ∧ Aside0 (w'.heap[gb270]? = some (.cells #[.int .i64 x271000_1, .int .i64 x271001_1] 23 (0, 0))) ∧ Aside0 (Below w.heap.size w w'))
  case atStart => exact ⟨(0), (0), (0), (0), (by first | rfl | (simp; done) | (simp [*]; done)), (by first | rfl | (simp; done) | (simp [*]; done)), H', ⟨Nat.le_refl _⟩, ⟨by (with_reducible repeat first | refine kn ?_ _ | refine kd ?_ | refine ka ?_ _); exact BK270.out⟩, ⟨by repeat first | exact HB.out | apply zb | apply zn | apply zd | refine zs ?_ GE270.out⟩⟩
  case round =>
    clear H'
    try clear p2
    obtain ⟨x6_1, x7_1, x271000_1, x271001_1, rfl, rfl, HA, HK1, BK270, HB⟩ := hrel
    cases gk with
    | zero => exact absurd HA.out (by simp [heirloomref01_whole.l0])
    | succ k1 =>
      have H := HA.out
      clear HA
      simp only [heirloomref01_whole.l0] at H
      by_cases c4 : x7_1 < (a0.size : Int)
      · rw [if_pos c4] at H
        have c4b0 : decide (x7_1 < (a0.size : Int)) = true := decide_eq_true c4
        clear c4
        by_cases c5 : 0 ≤ x7_1
        · rw [if_pos c5] at H
          have c5b0 : decide (0 ≤ x7_1) = true := decide_eq_true c5
          clear c5
          by_cases c7 : x6_1 > 922337203685477580
          · rw [if_pos c7] at H
            have c7b0 : decide (922337203685477580 < x6_1) = true := decide_eq_true c7
            clear c7
            simp only [Option.some.injEq, Prod.mk.injEq] at H
            obtain ⟨rfl, rfl, rfl⟩ := H
            have p6 : 0 ≤ (x7_1 : Int) := of_decide_eq_true (by first | (with_reducible assumption) | assumption)
            have q6 : x7_1 < (a0.size : Int) := of_decide_eq_true (by first | (with_reducible assumption) | assumption)
            have hx6 := bt_at a0 x7_1
            replace p6 := eq_true p6
            replace q6 := eq_true q6
            have hcz8_0 : wr.cell? ⟨gb270, 0, none⟩ = some (.int .i64 x271000_1) := (blk_cell BK270.out 0).trans rfl
            have hcz8_1 : wr.cell? ⟨gb270, 1, none⟩ = some (.int .i64 x271001_1) := (blk_cell BK270.out 1).trans rfl
            have hfz8_0 := blk_frozen BK270.out 0
            have hfz8_1 := blk_frozen BK270.out 1
            go_wp2
            refine bodyPost_ret (results_ct rfl _ _ gb270 23 #[.int .i64 0, .int .i64 0] (0, 0) _ rfl (by (with_reducible repeat first | refine kn ?_ _ | refine kd ?_ | refine ka ?_ _); refine blk_put (cs := #[.int .i64 0, .int .i64 x271001_1]) ?_ 1 _ rfl; (with_reducible repeat first | refine kn ?_ _ | refine kd ?_ | refine ka ?_ _); refine blk_put (cs := #[.int .i64 x271000_1, .int .i64 x271001_1]) ?_ 0 _ rfl; (with_reducible repeat first | refine kn ?_ _ | refine kd ?_ | refine ka ?_ _); exact BK270.out) Try.underlying23 rfl (by kernel_rfl)) rfl ?_
            exact ⟨by first | rfl | (simp [errW_none, errW_some] <;> rfl) | (simp [*, errW_none, errW_some] <;> rfl), by repeat first | exact HB.out | apply zb | apply zn | apply zd | refine zs ?_ GE270.out⟩
          · rw [if_neg c7] at H
            have c7b0 : decide (922337203685477580 < x6_1) = false := decide_eq_false c7
            clear c7
            by_cases c9 : x6_1 = 922337203685477580
            · rw [if_pos c9] at H
              have c9b0 : (x6_1 == 922337203685477580) = true := beq_iff_eq.mpr c9
              have c9b1 : (x6_1 != 922337203685477580) = false := bne_eq_false_iff_eq.mpr c9
              clear c9
              by_cases c10 : (((bt a0 x7_1) - 48) % 256) > 8
              · rw [if_pos c10] at H
                have c10b0 : decide (8 < (((bt a0 x7_1) - 48) % 256)) = true := decide_eq_true c10
                clear c10
                simp only [Option.some.injEq, Prod.mk.injEq] at H
                obtain ⟨rfl, rfl, rfl⟩ := H
                have p6 : 0 ≤ (x7_1 : Int) := of_decide_eq_true (by first | (with_reducible assumption) | assumption)
                have q6 : x7_1 < (a0.size : Int) := of_decide_eq_true (by first | (with_reducible assumption) | assumption)
                have hx6 := bt_at a0 x7_1
                replace p6 := eq_true p6
                replace q6 := eq_true q6
                have hcz11_0 : wr.cell? ⟨gb270, 0, none⟩ = some (.int .i64 x271000_1) := (blk_cell BK270.out 0).trans rfl
                have hcz11_1 : wr.cell? ⟨gb270, 1, none⟩ = some (.int .i64 x271001_1) := (blk_cell BK270.out 1).trans rfl
                have hfz11_0 := blk_frozen BK270.out 0
                have hfz11_1 := blk_frozen BK270.out 1
                go_wp2
                refine bodyPost_ret (results_ct rfl _ _ gb270 23 #[.int .i64 0, .int .i64 0] (0, 0) _ rfl (by (with_reducible repeat first | refine kn ?_ _ | refine kd ?_ | refine ka ?_ _); refine blk_put (cs := #[.int .i64 0, .int .i64 x271001_1]) ?_ 1 _ rfl; (with_reducible repeat first | refine kn ?_ _ | refine kd ?_ | refine ka ?_ _); refine blk_put (cs := #[.int .i64 x271000_1, .int .i64 x271001_1]) ?_ 0 _ rfl; (with_reducible repeat first | refine kn ?_ _ | refine kd ?_ | refine ka ?_ _); exact BK270.out) Try.underlying23 rfl (by kernel_rfl)) rfl ?_
                exact ⟨by first | rfl | (simp [errW_none, errW_some] <;> rfl) | (simp [*, errW_none, errW_some] <;> rfl), by repeat first | exact HB.out | apply zb | apply zn | apply zd | refine zs ?_ GE270.out⟩
              · rw [if_neg c10] at H
                have c10b0 : decide (8 < (((bt a0 x7_1) - 48) % 256)) = false := decide_eq_false c10
                clear c10
                have H' := Aside0.mk H
                clear H
                have p6 : 0 ≤ (x7_1 : Int) := of_decide_eq_true (by first | (with_reducible assumption) | assumption)
                have q6 : x7_1 < (a0.size : Int) := of_decide_eq_true (by first | (with_reducible assumption) | assumption)
                have hx6 := bt_at a0 x7_1
                replace p6 := eq_true p6
                replace q6 := eq_true q6
                go_wp2
                go_roundg k1
                case measure => have := HK1.out; omega
                case rel => exact ⟨(IntKind.u64.wrap ((IntKind.u64.wrap (10 * x6_1)) + (((bt a0 x7_1) - 48) % 256))), (wrap64 (x7_1 + 1)), (x271000_1), (x271001_1), (by first | rfl | (simp; done) | (simp [*]; done)), (by first | rfl | (simp; done) | (simp [*]; done)), H', ⟨by have := HK1.out; omega⟩, ⟨by (with_reducible repeat first | refine kn ?_ _ | refine kd ?_ | refine ka ?_ _); exact BK270.out⟩, ⟨by repeat first | exact HB.out | apply zb | apply zn | apply zd | refine zs ?_ GE270.out⟩⟩
            · rw [if_neg c9] at H
              have c9b0 : (x6_1 == 922337203685477580) = false := beq_eq_false_iff_ne.mpr c9
              have c9b1 : (x6_1 != 922337203685477580) = true := bne_iff_ne.mpr c9
              have H' := Aside0.mk H
              clear H
              have p6 : 0 ≤ (x7_1 : Int) := of_decide_eq_true (by first | (with_reducible assumption) | assumption)
              have q6 : x7_1 < (a0.size : Int) := of_decide_eq_true (by first | (with_reducible assumption) | assumption)
              have hx6 := bt_at a0 x7_1
              replace p6 := eq_true p6
              replace q6 := eq_true q6
              go_wp2
              go_roundg k1
              case measure => have := HK1.out; omega
              case rel => exact ⟨(IntKind.u64.wrap ((IntKind.u64.wrap (10 * x6_1)) + (((bt a0 x7_1) - 48) % 256))), (wrap64 (x7_1 + 1)), (x271000_1), (x271001_1), (by first | rfl | (simp; done) | (simp [*]; done)), (by first | rfl | (simp; done) | (simp [*]; done)), H', ⟨by have := HK1.out; omega⟩, ⟨by (with_reducible repeat first | refine kn ?_ _ | refine kd ?_ | refine ka ?_ _); exact BK270.out⟩, ⟨by repeat first | exact HB.out | apply zb | apply zn | apply zd | refine zs ?_ GE270.out⟩⟩
        · rw [if_neg c5] at H
          exact absurd H (by simp)
      · rw [if_neg c4] at H
        have c4b0 : decide (x7_1 < (a0.size : Int)) = false := decide_eq_false c4
        clear c4
        by_cases c12 : x6_1 = 9223372036854775808
        · rw [if_pos c12] at H
          have c12b0 : (x6_1 == 9223372036854775808) = true := beq_iff_eq.mpr c12
          have c12b1 : (x6_1 != 9223372036854775808) = false := bne_eq_false_iff_eq.mpr c12
          clear c12
          by_cases c13 : a1 = true
          · subst c13
            have H1 : ((heirloomref01_Int.f (-9223372036854775808)).bind fun bt271 => (some (bt271.1, bt271.2, 0))) = some (r1, r2, r3) := by rw [if_pos rfl] at H; exact H
            clear H
            have H := H1
            clear H1
            replace H := Option.bind_eq_some_iff.mp H
            obtain ⟨⟨t271, t272⟩, A140, H⟩ := H
            replace H : (some (t271, t272, 0)) = some (r1, r2, r3) := H
            have A14 := Aside0.mk A140
            clear A140
            simp only [Option.some.injEq, Prod.mk.injEq] at H
            obtain ⟨rfl, rfl, rfl⟩ := H
            go_wp2_with (first | ((with_reducible refine gate_callee (f := 17) rfl ?_); refine goesL_ (some 38) rfl rfl Try.func17 (by kernel_rfl) rfl #[.int .i64 (-9223372036854775808)] rfl (by simp only [m1, m2, m3]; rfl) ?_; (with_reducible refine (heirloomref01_Int.calls (-9223372036854775808) t271 t272 _ A14.out).mono ?_); rintro e w15 ⟨rfl, hb⟩; refine ⟨_, rfl, ?_⟩; have n0_ := Aside0.mk (blk_below (g := gb270) (o := .cells #[.int .i64 x271000_1, .int .i64 x271001_1] 23 (0, 0)) (by (with_reducible repeat first | refine kn ?_ _ | refine kd ?_ | refine ka ?_ _); exact BK270.out) hb); have n1_ := Aside0.mk (below_step (by repeat first | exact HB.out | apply zb | apply zn | apply zd | refine zs ?_ GE270.out) hb); clear BK270; clear HB; have BK270 := n0_; have HB := n1_; clear n0_ n1_; (try clear hb); have hcz16_0 : w15.cell? ⟨gb270, 0, none⟩ = some (.int .i64 x271000_1) := (blk_cell BK270.out 0).trans rfl; have hcz16_1 : w15.cell? ⟨gb270, 1, none⟩ = some (.int .i64 x271001_1) := (blk_cell BK270.out 1).trans rfl; have hfz16_0 := blk_frozen BK270.out 0; have hfz16_1 := blk_frozen BK270.out 1))
            refine bodyPost_ret (results_ct rfl _ _ gb270 23 #[.int .i64 t271, .int .i64 t272] (0, 0) _ rfl (by (with_reducible repeat first | refine kn ?_ _ | refine kd ?_ | refine ka ?_ _); refine blk_put (cs := #[.int .i64 t271, .int .i64 x271001_1]) ?_ 1 _ rfl; (with_reducible repeat first | refine kn ?_ _ | refine kd ?_ | refine ka ?_ _); refine blk_put (cs := #[.int .i64 x271000_1, .int .i64 x271001_1]) ?_ 0 _ rfl; (with_reducible repeat first | refine kn ?_ _ | refine kd ?_ | refine ka ?_ _); exact BK270.out) Try.underlying23 rfl (by kernel_rfl)) rfl ?_
            exact ⟨by first | rfl | (simp [errW_none, errW_some] <;> rfl) | (simp [*, errW_none, errW_some] <;> rfl), by repeat first | exact HB.out | apply zb | apply zn | apply zd | refine zs ?_ GE270.out⟩
          · replace c13 := Bool.eq_false_iff.mpr c13
            subst c13
            have H1 : (some (0, 0, 7)) = some (r1, r2, r3) := by rw [if_neg (show ¬ (false = true) by decide)] at H; exact H
            clear H
            have H := H1
            clear H1
            simp only [Option.some.injEq, Prod.mk.injEq] at H
            obtain ⟨rfl, rfl, rfl⟩ := H
            have hcz17_0 : wr.cell? ⟨gb270, 0, none⟩ = some (.int .i64 x271000_1) := (blk_cell BK270.out 0).trans rfl
            have hcz17_1 : wr.cell? ⟨gb270, 1, none⟩ = some (.int .i64 x271001_1) := (blk_cell BK270.out 1).trans rfl
            have hfz17_0 := blk_frozen BK270.out 0
            have hfz17_1 := blk_frozen BK270.out 1
            go_wp2
            refine bodyPost_ret (results_ct rfl _ _ gb270 23 #[.int .i64 0, .int .i64 0] (0, 0) _ rfl (by (with_reducible repeat first | refine kn ?_ _ | refine kd ?_ | refine ka ?_ _); refine blk_put (cs := #[.int .i64 0, .int .i64 x271001_1]) ?_ 1 _ rfl; (with_reducible repeat first | refine kn ?_ _ | refine kd ?_ | refine ka ?_ _); refine blk_put (cs := #[.int .i64 x271000_1, .int .i64 x271001_1]) ?_ 0 _ rfl; (with_reducible repeat first | refine kn ?_ _ | refine kd ?_ | refine ka ?_ _); exact BK270.out) Try.underlying23 rfl (by kernel_rfl)) rfl ?_
            exact ⟨by first | rfl | (simp [errW_none, errW_some] <;> rfl) | (simp [*, errW_none, errW_some] <;> rfl), by repeat first | exact HB.out | apply zb | apply zn | apply zd | refine zs ?_ GE270.out⟩
        · rw [if_neg c12] at H
          have c12b0 : (x6_1 == 9223372036854775808) = false := beq_eq_false_iff_ne.mpr c12
          have c12b1 : (x6_1 != 9223372036854775808) = true := bne_iff_ne.mpr c12
          by_cases c18 : a1 = true
          · subst c18
            have H1 : ((heirloomref01_Int.f (wrap64 (-(wrap64 (x6_1))))).bind fun bt273 => (some (bt273.1, bt273.2, 0))) = some (r1, r2, r3) := by rw [if_pos rfl] at H; exact H
            clear H
            have H := H1
            clear H1
            replace H := Option.bind_eq_some_iff.mp H
            obtain ⟨⟨t273, t274⟩, A190, H⟩ := H
            replace H : (some (t273, t274, 0)) = some (r1, r2, r3) := H
            have A19 := Aside0.mk A190
            clear A190
            simp only [Option.some.injEq, Prod.mk.injEq] at H
            obtain ⟨rfl, rfl, rfl⟩ := H
            go_wp2_with (first | ((with_reducible refine gate_callee (f := 17) rfl ?_); refine goesL_ (some 44) rfl rfl Try.func17 (by kernel_rfl) rfl #[.int .i64 (wrap64 (-(wrap64 (x6_1))))] rfl (by simp only [m1, m2, m3]; rfl) ?_; (with_reducible refine (heirloomref01_Int.calls (wrap64 (-(wrap64 (x6_1)))) t273 t274 _ A19.out).mono ?_); rintro e w20 ⟨rfl, hb⟩; refine ⟨_, rfl, ?_⟩; have n0_ := Aside0.mk (blk_below (g := gb270) (o := .cells #[.int .i64 x271000_1, .int .i64 x271001_1] 23 (0, 0)) (by (with_reducible repeat first | refine kn ?_ _ | refine kd ?_ | refine ka ?_ _); exact BK270.out) hb); have n1_ := Aside0.mk (below_step (by repeat first | exact HB.out | apply zb | apply zn | apply zd | refine zs ?_ GE270.out) hb); clear BK270; clear HB; have BK270 := n0_; have HB := n1_; clear n0_ n1_; (try clear hb); have hcz21_0 : w20.cell? ⟨gb270, 0, none⟩ = some (.int .i64 x271000_1) := (blk_cell BK270.out 0).trans rfl; have hcz21_1 : w20.cell? ⟨gb270, 1, none⟩ = some (.int .i64 x271001_1) := (blk_cell BK270.out 1).trans rfl; have hfz21_0 := blk_frozen BK270.out 0; have hfz21_1 := blk_frozen BK270.out 1))
            refine bodyPost_ret (results_ct rfl _ _ gb270 23 #[.int .i64 t273, .int .i64 t274] (0, 0) _ rfl (by (with_reducible repeat first | refine kn ?_ _ | refine kd ?_ | refine ka ?_ _); refine blk_put (cs := #[.int .i64 t273, .int .i64 x271001_1]) ?_ 1 _ rfl; (with_reducible repeat first | refine kn ?_ _ | refine kd ?_ | refine ka ?_ _); refine blk_put (cs := #[.int .i64 x271000_1, .int .i64 x271001_1]) ?_ 0 _ rfl; (with_reducible repeat first | refine kn ?_ _ | refine kd ?_ | refine ka ?_ _); exact BK270.out) Try.underlying23 rfl (by kernel_rfl)) rfl ?_
            exact ⟨by first | rfl | (simp [errW_none, errW_some] <;> rfl) | (simp [*, errW_none, errW_some] <;> rfl), by repeat first | exact HB.out | apply zb | apply zn | apply zd | refine zs ?_ GE270.out⟩
          · replace c18 := Bool.eq_false_iff.mpr c18
            subst c18
            have H1 : ((heirloomref01_Int.f (wrap64 (x6_1))).bind fun bt275 => (some (bt275.1, bt275.2, 0))) = some (r1, r2, r3) := by rw [if_neg (show ¬ (false = true) by decide)] at H; exact H
            clear H
            have H := H1
            clear H1
            replace H := Option.bind_eq_some_iff.mp H
            obtain ⟨⟨t275, t276⟩, A220, H⟩ := H
            replace H : (some (t275, t276, 0)) = some (r1, r2, r3) := H
            have A22 := Aside0.mk A220
            clear A220
            simp only [Option.some.injEq, Prod.mk.injEq] at H
            obtain ⟨rfl, rfl, rfl⟩ := H
            go_wp2_with (first | ((with_reducible refine gate_callee (f := 17) rfl ?_); refine goesL_ (some 47) rfl rfl Try.func17 (by kernel_rfl) rfl #[.int .i64 (wrap64 (x6_1))] rfl (by simp only [m1, m2, m3]; rfl) ?_; (with_reducible refine (heirloomref01_Int.calls (wrap64 (x6_1)) t275 t276 _ A22.out).mono ?_); rintro e w23 ⟨rfl, hb⟩; refine ⟨_, rfl, ?_⟩; have n0_ := Aside0.mk (blk_below (g := gb270) (o := .cells #[.int .i64 x271000_1, .int .i64 x271001_1] 23 (0, 0)) (by (with_reducible repeat first | refine kn ?_ _ | refine kd ?_ | refine ka ?_ _); exact BK270.out) hb); have n1_ := Aside0.mk (below_step (by repeat first | exact HB.out | apply zb | apply zn | apply zd | refine zs ?_ GE270.out) hb); clear BK270; clear HB; have BK270 := n0_; have HB := n1_; clear n0_ n1_; (try clear hb); have hcz24_0 : w23.cell? ⟨gb270, 0, none⟩ = some (.int .i64 x271000_1) := (blk_cell BK270.out 0).trans rfl; have hcz24_1 : w23.cell? ⟨gb270, 1, none⟩ = some (.int .i64 x271001_1) := (blk_cell BK270.out 1).trans rfl; have hfz24_0 := blk_frozen BK270.out 0; have hfz24_1 := blk_frozen BK270.out 1))
            refine bodyPost_ret (results_ct rfl _ _ gb270 23 #[.int .i64 t275, .int .i64 t276] (0, 0) _ rfl (by (with_reducible repeat first | refine kn ?_ _ | refine kd ?_ | refine ka ?_ _); refine blk_put (cs := #[.int .i64 t275, .int .i64 x271001_1]) ?_ 1 _ rfl; (with_reducible repeat first | refine kn ?_ _ | refine kd ?_ | refine ka ?_ _); refine blk_put (cs := #[.int .i64 x271000_1, .int .i64 x271001_1]) ?_ 0 _ rfl; (with_reducible repeat first | refine kn ?_ _ | refine kd ?_ | refine ka ?_ _); exact BK270.out) Try.underlying23 rfl (by kernel_rfl)) rfl ?_
            exact ⟨by first | rfl | (simp [errW_none, errW_some] <;> rfl) | (simp [*, errW_none, errW_some] <;> rfl), by repeat first | exact HB.out | apply zb | apply zn | apply zd | refine zs ?_ GE270.out⟩

/-! ### heirloomref01_point: function 53 -/
def heirloomref01_point.l0 : Nat → ByteArray → Int → Option (Int)
  | 0, _, _ => none
  | k + 1, x0, x3 => if x3 < (x0.size : Int) then (if 0 ≤ x3 then (if (bt x0 x3) = 46 then (some x3) else (heirloomref01_point.l0 k x0 (wrap64 (x3 + 1)))) else (none)) else (some (-1))
def heirloomref01_point.f (k : Nat) (a0 : ByteArray) : Option (Int) := heirloomref01_point.l0 k a0 0
theorem heirloomref01_point.mono_l : ∀ k, (∀ y0 y1, LeO (heirloomref01_point.l0 k y0 y1) (heirloomref01_point.l0 (k + 1) y0 y1))
  | 0 => fun _ _ r h => by simp [heirloomref01_point.l0] at h
  | k + 1 => by
    have ih0 := heirloomref01_point.mono_l k
    · intro y0 y1
      unfold heirloomref01_point.l0
      repeat' first
      | (with_reducible exact ih0 _ _)
      | (with_reducible exact LeO.refl _)
      | (with_reducible exact LeO.none _)
      | (with_reducible refine LeO.ite ?_ ?_)
      | (with_reducible refine LeO.bind ?_ (fun _ => ?_))
      | exact ih0 _ _
      | exact LeO.none _
      | refine LeO.ite ?_ ?_
      | refine LeO.bind ?_ (fun _ => ?_)
theorem heirloomref01_point.mono : ∀ a0 k, LeO (heirloomref01_point.f k a0) (heirloomref01_point.f (k + 1) a0) := by
  intro a0 k
  have ih0 := heirloomref01_point.mono_l k
  unfold heirloomref01_point.f
  repeat' first
      | (with_reducible exact ih0 _ _)
      | (with_reducible exact LeO.refl _)
      | (with_reducible exact LeO.none _)
      | (with_reducible refine LeO.ite ?_ ?_)
      | (with_reducible refine LeO.bind ?_ (fun _ => ?_))
      | exact ih0 _ _
      | exact LeO.none _
      | refine LeO.ite ?_ ?_
      | refine LeO.bind ?_ (fun _ => ?_)
set_option maxHeartbeats 8000000 in
set_option maxRecDepth 100000 in
theorem heirloomref01_point.calls (k : Nat) (a0 : ByteArray) (r : Int) (w : World) (h : heirloomref01_point.f k a0 = some r) :
    Calls Try.prog 53 #[.string a0] w fun e w' => e = .returned (.int .i64 r) ∧ Drawn0 w w' := by
  have H : (heirloomref01_point.l0 k a0 0) = some r := h
  clear h
  have H' := Aside0.mk H
  clear H
  go_enter Try.func53, Try.ntmps53
  go_wp2
  go_loopg [3] k (fun kq v3 w' => ∃ (x3_1 : Int), v3 = .int .i64 x3_1 ∧ Aside0 (heirloomref01_point.l0 kq a0 x3_1 = some r) ∧ Aside0 (kq ≤ k) ∧ Drawn0 w w')
  case atStart => exact ⟨(0), (by first | rfl | (simp; done) | (simp [*]; done)), H', ⟨Nat.le_refl _⟩, by repeat (first | exact Drawn0.refl _ | apply Drawn0.step)⟩
  case round =>
    clear H'
    obtain ⟨x3_1, rfl, HA, HK1, ⟨m1, rfl⟩⟩ := hrel
    cases gk with
    | zero => exact absurd HA.out (by simp [heirloomref01_point.l0])
    | succ k1 =>
      have H := HA.out
      clear HA
      simp only [heirloomref01_point.l0] at H
      by_cases c2 : x3_1 < (a0.size : Int)
      · rw [if_pos c2] at H
        have c2b0 : decide (x3_1 < (a0.size : Int)) = true := decide_eq_true c2
        clear c2
        by_cases c3 : 0 ≤ x3_1
        · rw [if_pos c3] at H
          have c3b0 : decide (0 ≤ x3_1) = true := decide_eq_true c3
          clear c3
          by_cases c5 : (bt a0 x3_1) = 46
          · rw [if_pos c5] at H
            have c5b0 : ((bt a0 x3_1) == 46) = true := beq_iff_eq.mpr c5
            have c5b1 : ((bt a0 x3_1) != 46) = false := bne_eq_false_iff_eq.mpr c5
            clear c5
            obtain rfl := Option.some.inj H
            have p4 : 0 ≤ (x3_1 : Int) := of_decide_eq_true (by first | (with_reducible assumption) | assumption)
            have q4 : x3_1 < (a0.size : Int) := of_decide_eq_true (by first | (with_reducible assumption) | assumption)
            have hx4 := bt_at a0 x3_1
            replace p4 := eq_true p4
            replace q4 := eq_true q4
            go_wp2
            go_ret
            exact ⟨by first | rfl | (simp; done) | (simp [*]; done), by repeat (first | exact Drawn0.refl _ | apply Drawn0.step)⟩
          · rw [if_neg c5] at H
            have c5b0 : ((bt a0 x3_1) == 46) = false := beq_eq_false_iff_ne.mpr c5
            have c5b1 : ((bt a0 x3_1) != 46) = true := bne_iff_ne.mpr c5
            have H' := Aside0.mk H
            clear H
            have p4 : 0 ≤ (x3_1 : Int) := of_decide_eq_true (by first | (with_reducible assumption) | assumption)
            have q4 : x3_1 < (a0.size : Int) := of_decide_eq_true (by first | (with_reducible assumption) | assumption)
            have hx4 := bt_at a0 x3_1
            replace p4 := eq_true p4
            replace q4 := eq_true q4
            go_wp2
            go_roundg k1
            case measure => have := HK1.out; omega
            case rel => exact ⟨(wrap64 (x3_1 + 1)), (by first | rfl | (simp; done) | (simp [*]; done)), H', ⟨by have := HK1.out; omega⟩, by repeat (first | exact Drawn0.refl _ | apply Drawn0.step)⟩
        · rw [if_neg c3] at H
          exact absurd H (by simp)
      · rw [if_neg c2] at H
        have c2b0 : decide (x3_1 < (a0.size : Int)) = false := decide_eq_false c2
        clear c2
        obtain rfl := Option.some.inj H
        go_wp2
        go_ret
        exact ⟨by first | rfl | (simp; done) | (simp [*]; done), by repeat (first | exact Drawn0.refl _ | apply Drawn0.step)⟩
end Go.Proofs.Yticnolkbmpmgcaa.QN
