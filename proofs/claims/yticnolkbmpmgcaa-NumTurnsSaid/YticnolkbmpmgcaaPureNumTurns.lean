/- The plain law behind NumTurns: what the printed functions answer is true at every input. -/
import Derived.Test.YticnolkbmpmgcaaQNx20
import Derived.Test.YticnolkbmpmgcaaNP2
set_option linter.unusedVariables false
set_option linter.unusedSimpArgs false
namespace Go.Proofs.Yticnolkbmpmgcaa.Pure
open Go.RowKit Go.Proofs.Yticnolkbmpmgcaa.QN Go.Proofs.Yticnolkbmpmgcaa.FT Go.Proofs.Yticnolkbmpmgcaa.Fl
theorem sum_turn : ∀ x y : Ieee.Datum, x.sum y = y.sum x
  | .nan .., .nan .. => rfl
  | .nan .., .infinity _ => rfl
  | .nan .., .number .. => rfl
  | .infinity _, .nan .. => rfl
  | .number .., .nan .. => rfl
  | .infinity s, .infinity t => by cases s <;> cases t <;> rfl
  | .infinity _, .number .. => rfl
  | .number .., .infinity _ => rfl
  | .number s m i, .number t n j => by
    simp only [Ieee.Datum.sum]
    rw [Int.min_comm j i, Int.add_comm (Ieee.signed t n _), Bool.and_comm t s]
theorem product_turn : ∀ x y : Ieee.Datum, x.product y = y.product x
  | .nan .., .nan .. => rfl
  | .nan .., .infinity _ => rfl
  | .nan .., .number .. => rfl
  | .infinity _, .nan .. => rfl
  | .number .., .nan .. => rfl
  | .infinity s, .infinity t => by cases s <;> cases t <;> rfl
  | .infinity s, .number t n j => by cases s <;> cases t <;> rfl
  | .number s m i, .infinity t => by cases s <;> cases t <;> rfl
  | .number s m i, .number t n j => by
    simp only [Ieee.Datum.product]
    rw [Bool.xor_comm t s, Nat.mul_comm n m, Int.add_comm j i]
theorem add_turn (x y : Nat) : floatBits .add .f64 x y = floatBits .add .f64 y x := by
  show (Ieee.Datum.sum _ _).map _ = (Ieee.Datum.sum _ _).map _
  rw [sum_turn]
theorem mul_turn (x y : Nat) : floatBits .mul .f64 x y = floatBits .mul .f64 y x := by
  show (Ieee.Datum.product _ _).map _ = (Ieee.Datum.product _ _).map _
  rw [product_turn]
def fvS (o : BinOp) (x y : Nat) : Int × Int := if fok o x y = true then flV (fop o x y) else (3, 9221120237041090561)
theorem fV_f (o : BinOp) (x y : Nat) : num_Op.fV o x y = some ((fvS o x y).1, (fvS o x y).2, 0) := by
  unfold num_Op.fV fvS
  simp only [float_f]
  split <;> rfl
theorem fvS_of {o o' : BinOp} {x y x' y' : Nat} (h : floatBits o .f64 x y = floatBits o' .f64 x' y') : fvS o x y = fvS o' x' y' := by
  unfold fvS fok fop; rw [h]
def opS (op t n u m : Int) : Int × Int × Int :=
  if isB t n = true ∧ isB u m = true then (if t = 2 ∧ u = 2 then (2, num_Op.ints op n m, 0) else ((fvS (num_Op.bo op) (ofN t n) (ofN u m)).1, (fvS (num_Op.bo op) (ofN t n) (ofN u m)).2, 0)) else (0, 0, 10)
theorem opS_f {op t n u m : Int} (h : isB t n = true) (h' : isB u m = true) (h2 : ¬ (t = 2 ∧ u = 2)) : opS op t n u m = ((fvS (num_Op.bo op) (ofN t n) (ofN u m)).1, (fvS (num_Op.bo op) (ofN t n) (ofN u m)).2, 0) := by
  unfold opS; rw [if_pos ⟨h, h'⟩, if_neg h2]
theorem opS_no {op t n u m : Int} (h : ¬ (isB t n = true ∧ isB u m = true)) : opS op t n u m = (0, 0, 10) := by unfold opS; rw [if_neg h]
theorem op_low {op : Int} (h : 1 ≤ op ∧ op ≤ 3) (t n u m : Int) : num_Op.f op t n u m = some (opS op t n u m) := by
  unfold num_Op.f opS
  simp only [of_f, Option.bind_some]
  rw [if_neg (by omega)]
  by_cases hb : isB t n = true ∧ isB u m = true
  · rw [if_pos hb, if_pos hb, if_neg (by omega)]
    by_cases h2 : t = 2 ∧ u = 2
    · rw [if_pos ⟨h.2, h2⟩, if_pos h2]
    · rw [if_neg (fun z => h2 z.2), if_neg h2, fV_f]
  · rw [if_neg hb, if_neg hb]
theorem op_turn {op : Int} (h : op = 1 ∨ op = 3) (t n u m : Int) : opS op t n u m = opS op u m t n := by
  have hi : num_Op.ints op n m = num_Op.ints op m n := by
    unfold num_Op.ints
    rcases h with h | h <;> subst h
    · rw [if_pos rfl, if_pos rfl, Int.add_comm]
    · simp [Int.mul_comm]
  have hf : fvS (num_Op.bo op) (ofN t n) (ofN u m) = fvS (num_Op.bo op) (ofN u m) (ofN t n) := by
    refine fvS_of ?_
    rcases h with h | h <;> subst h
    · exact add_turn _ _
    · exact mul_turn _ _
  unfold opS
  rw [hi, hf]
  by_cases hb : isB t n = true ∧ isB u m = true
  · rw [if_pos hb, if_pos hb.symm]
    by_cases h2 : t = 2 ∧ u = 2
    · rw [if_pos h2, if_pos h2.symm]
    · rw [if_neg h2, if_neg fun z => h2 z.symm]
  · rw [if_neg hb, if_neg fun z => hb z.symm]
theorem fneg_rs (b : Nat) : rung (fneg b) = rung b ∧ sgn (fneg b) = !sgn b := by
  unfold rung sgn fneg
  constructor
  · apply Nat.eq_of_testBit_eq
    intro i
    rw [Nat.testBit_mod_two_pow, Nat.testBit_mod_two_pow, Nat.testBit_xor, Nat.testBit_two_pow]
    by_cases hi : i < 63
    · have : ¬ 63 = i := by omega
      simp [this]
    · simp [hi]
  · have e : ∀ n : Nat, (n / 2 ^ 63 % 2 == 1) = n.testBit 63 := by
      intro n; rw [Nat.testBit_eq_decide_div_mod_eq]; rfl
    rw [e, e, Nat.testBit_xor, Nat.testBit_two_pow]; simp
theorem opp_all (b : Nat) : (FloatKind.f64.format.read b).opposite = FloatKind.f64.format.read (fneg b) := by
  have h1 := fneg_rs b
  rcases Nat.lt_trichotomy (rung b) infR with h | h | h
  · exact (opp_fin h).1
  · rw [read_inf h, read_inf (h1.1.trans h), h1.2]; rfl
  · rw [read_nan h, read_nan (by rw [h1.1]; exact h), h1.1, h1.2]; rfl
theorem sub_neg (x y : Nat) : floatBits .sub .f64 x y = floatBits .add .f64 x (fneg y) := by
  show (Ieee.Datum.sum _ (Ieee.Datum.opposite _)).map _ = (Ieee.Datum.sum _ _).map _
  rw [opp_all]
theorem fneg_lt {y : Nat} (h : y < 2 ^ 64) : fneg y < 2 ^ 64 := Nat.xor_lt_two_pow h (by decide)
theorem ub_eq (x : Int) : ub x = (x % 18446744073709551616).toNat := rfl
theorem ub_wrap {b : Nat} (h : b < 2 ^ 64) : ub (wrap64 (b : Int)) = b := by
  rw [ub_eq]
  unfold wrap64
  omega
theorem sum_nan (d : Ieee.Datum) (s : Bool) (k : Nat) : d.sum (.nan s k) = none := by cases d <;> rfl
theorem add_nan (x y : Nat) (h : ¬ isNum y) : fok .add x y = false := by
  have h1 : infR < rung y := Nat.lt_of_not_le h
  have e : floatBits .add .f64 x y = ((FloatKind.f64.format.read x).sum (FloatKind.f64.format.read y)).map FloatKind.f64.format.write := rfl
  unfold fok
  rw [e, read_nan h1]
  generalize FloatKind.f64.format.read x = d
  generalize rung y - infR = k
  rw [sum_nan]; rfl
def negS (u m : Int) : Int × Int × Int := if isB u m = true then (if u = 2 then (2, wrap64 (-m), 0) else ((flV (fneg (ub m))).1, (flV (fneg (ub m))).2, 0)) else (0, 0, 10)
theorem neg_f (u m : Int) : num_Neg.f u m = some (negS u m) := by
  unfold num_Neg.f negS num_Int.f
  simp only [of_f, float_f, Option.bind_some]
  by_cases h : isB u m = true
  · rw [if_pos h, if_pos h]
    by_cases h2 : u = 2
    · rw [if_pos h2, if_pos h2]
    · rw [if_neg h2, if_neg h2, ofN_is h, if_neg h2]
  · rw [if_neg h, if_neg h]
theorem sub_turn (t n m : Int) (hb : isB t m = true) : opS 2 t n t m = opS 1 t n (negS t m).1 (negS t m).2.1 := by
  unfold negS
  rw [if_pos hb]
  by_cases h2 : t = 2
  · rw [if_pos h2]
    subst h2
    unfold opS
    have hi : num_Op.ints 2 n m = num_Op.ints 1 n (wrap64 (-m)) := by
      unfold num_Op.ints
      simp only [if_true]
      rw [if_neg (by decide)]
      unfold wrap64; omega
    have e : ∀ j, isB 2 j = true := fun j => by unfold isB; rw [if_pos rfl]
    simp only [e, and_self, if_true, hi]
  · rw [if_neg h2]
    have t3 : t = 3 := by
      unfold isB at hb; rw [if_neg h2] at hb
      by_cases h3 : t = 3
      · exact h3
      · rw [if_neg h3] at hb; exact absurd hb (by decide)
    subst t3
    by_cases hx : isB 3 n = true
    · have e1 : (flV (fneg (ub m))).1 = 3 := by unfold flV; split <;> rfl
      have e2 : isB (flV (fneg (ub m))).1 (flV (fneg (ub m))).2 = true := by
        unfold flV
        by_cases hn : fne (fneg (ub m)) (fneg (ub m)) = true
        · rw [if_pos hn]
          show (if (3 : Int) = 2 then true else if (3 : Int) = 3 then (if isNum (ub N0) then true else N0 == N0) else false) = true
          rw [if_neg (by decide), if_pos rfl, if_neg N0_nan, beq_self_eq_true]
        · rw [if_neg hn]
          have hq : isNum (fneg (ub m)) := by
            by_cases z : isNum (fneg (ub m))
            · exact z
            · exact absurd ((fne_self _).2 z) hn
          show (if (3 : Int) = 2 then true else if (3 : Int) = 3 then (if isNum (ub (wrap64 _)) then true else _) else false) = true
          rw [if_neg (by decide), if_pos rfl, ub_wrap (fneg_lt (ub_lt m)), if_pos hq]
      have hs : fvS (num_Op.bo 2) (ofN 3 n) (ofN 3 m) = fvS (num_Op.bo 1) (ofN 3 n) (ofN (flV (fneg (ub m))).1 (flV (fneg (ub m))).2) := by
        rw [ofN_is hb, if_neg h2, ofN_is e2, e1, if_neg (by decide)]
        show fvS .sub _ _ = fvS .add _ _
        rw [fvS_of (sub_neg _ _)]
        unfold flV
        by_cases hn : fne (fneg (ub m)) (fneg (ub m)) = true
        · rw [if_pos hn]
          have a1 := add_nan (ofN 3 n) _ ((fne_self _).1 hn)
          have a2 := add_nan (ofN 3 n) (ub 9221120237041090561) N0_nan
          unfold fvS
          rw [a1]
          simp only []
          rw [a2]
          rw [if_neg Bool.false_ne_true, if_neg Bool.false_ne_true]
        · rw [if_neg hn]
          simp only []
          rw [ub_wrap (fneg_lt (ub_lt m))]
      show opS 2 3 n 3 m = opS 1 3 n (flV (fneg (ub m))).1 (flV (fneg (ub m))).2
      rw [opS_f hx hb (fun z => absurd z.1 (by decide)), opS_f hx e2 (fun z => absurd z.1 (by decide)), hs]
    · rw [opS_no fun z => hx z.1, opS_no fun z => hx z.1]
theorem NumTurns (t n u m : Int) (_ : (Lit.int .i64 t).wf = true) (_ : (Lit.int .i64 n).wf = true) (_ : (Lit.int .i64 u).wf = true) (_ : (Lit.int .i64 m).wf = true) : ∃ k, heirloomlaw01_NumTurns.f k t n u m = some true := by
  refine ⟨46, ?_⟩
  unfold heirloomlaw01_NumTurns.f
  unfold heirloomlaw01_NumTurns.l0
  rw [if_pos (by decide), op_low (by decide), op_low (by decide), op_turn (op := 1) (.inl rfl) u m t n]
  simp only [Option.bind_some, beq_self_eq_true, Bool.not_true, Bool.or_self, Bool.false_eq_true, if_false, if_true]
  unfold heirloomlaw01_NumTurns.l0
  rw [show wrap64 (1 + 2) = 3 by unfold wrap64; omega]
  rw [if_pos (by decide), op_low (by decide), op_low (by decide), op_turn (op := 3) (.inr rfl) u m t n]
  simp only [Option.bind_some, beq_self_eq_true, Bool.not_true, Bool.or_self, Bool.false_eq_true, if_false, if_true]
  unfold heirloomlaw01_NumTurns.l0
  rw [show wrap64 (3 + 2) = 5 by unfold wrap64; omega]
  rw [if_neg (by decide), neg_f, op_low (op := 2) (by decide)]
  simp only [Option.bind_some, op_low (op := 1) (by decide), heirloomlaw01_no.f, alive_at 43 (by decide)]
  by_cases hb : isB u m = true
  · have e0 : (negS u m).2.2 = 0 := by
      unfold negS; rw [if_pos hb]; split <;> rfl
    rw [if_pos e0]
    by_cases htu : t = u
    · subst htu
      rw [if_pos rfl, sub_turn t n m hb]
      simp
    · rw [if_neg htu]
  · have e0 : negS u m = (0, 0, 10) := by unfold negS; rw [if_neg hb]
    have e1 : opS 2 t n u m = (0, 0, 10) := by unfold opS; rw [if_neg fun z => hb z.2]
    rw [e0, e1]
    simp
end Go.Proofs.Yticnolkbmpmgcaa.Pure
