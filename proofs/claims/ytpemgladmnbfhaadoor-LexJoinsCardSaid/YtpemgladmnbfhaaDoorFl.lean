import Derived.Test.YtpemgladmnbfhaaDoorProg
import Derived.WalkKit
import Derived.Laws.Externs
import Derived.Laws.FloatArith
import Derived.Laws.EntriesVeiled
set_option linter.unusedVariables false
set_option linter.unusedSimpArgs false
/- What float64 operations give, as plain functions of the bits; and the walk's laws for them. -/
namespace Go.Proofs.YtpemgladmnbfhaaDoor.Fl
open Go.RowKit

def feq (a b : Nat) : Bool := FloatKind.f64.format.order a b == some .eq
def fne (a b : Nat) : Bool := FloatKind.f64.format.order a b != some .eq
def flt (a b : Nat) : Bool := FloatKind.f64.format.order a b == some .lt
def fle (a b : Nat) : Bool := FloatKind.f64.format.order a b == some .lt || FloatKind.f64.format.order a b == some .eq
def fgt (a b : Nat) : Bool := FloatKind.f64.format.order a b == some .gt
def fge (a b : Nat) : Bool := FloatKind.f64.format.order a b == some .gt || FloatKind.f64.format.order a b == some .eq
def fok (op : BinOp) (a b : Nat) : Bool := (floatBits op .f64 a b).isSome
def fop (op : BinOp) (a b : Nat) : Nat := (floatBits op .f64 a b).getD 0
def fokI (a : Nat) : Bool := (floatToIntVal .f64 a .i64).isSome
def ftoi (a : Nat) : Int := (floatToIntVal .f64 a .i64).getD 0
def fneg (a : Nat) : Nat := a ^^^ 2 ^ 63

theorem bo_eq (t : TypeId) (a b : Nat) : binOp .eql t (.float .f64 a) (.float .f64 b) = pure (.bool (feq a b)) := by simp [binOp, Op.floatCmp, feq]
theorem bo_ne (t : TypeId) (a b : Nat) : binOp .neq t (.float .f64 a) (.float .f64 b) = pure (.bool (fne a b)) := by simp [binOp, Op.floatCmp, fne]
theorem bo_lt (t : TypeId) (a b : Nat) : binOp .lss t (.float .f64 a) (.float .f64 b) = pure (.bool (flt a b)) := by simp [binOp, Op.floatCmp, flt]
theorem bo_le (t : TypeId) (a b : Nat) : binOp .leq t (.float .f64 a) (.float .f64 b) = pure (.bool (fle a b)) := by simp [binOp, Op.floatCmp, fle]
theorem bo_gt (t : TypeId) (a b : Nat) : binOp .gtr t (.float .f64 a) (.float .f64 b) = pure (.bool (fgt a b)) := by simp [binOp, Op.floatCmp, fgt]
theorem bo_ge (t : TypeId) (a b : Nat) : binOp .geq t (.float .f64 a) (.float .f64 b) = pure (.bool (fge a b)) := by simp [binOp, Op.floatCmp, fge]

theorem run_fop {P : Program} (w : World) (op : BinOp) (t : TypeId) (a b : Nat) (h : fok op a b = true) : (binOp op t (.float .f64 a) (.float .f64 b)).run P w = .ok (.float .f64 (fop op a b)) w := by
  refine run_float_arith w op t .f64 a b _ ?_
  unfold fok at h
  unfold fop
  cases e : floatBits op .f64 a b with
  | none => rw [e] at h; cases h
  | some r => rfl
theorem run_ftoi {P : Program} (w : World) (src dst : TypeId) (hs : (P.underlying src).isSome = true) (hd : P.underlying dst = some (.int .i64)) (a : Nat) (h : fokI a = true) :
    (convert src dst (.float .f64 a)).run P w = .ok (.int .i64 (ftoi a)) w := by
  refine run_convert_float_int w src dst .f64 .i64 a _ hs hd ?_
  unfold fokI at h
  unfold ftoi
  cases e : floatToIntVal .f64 a .i64 with
  | none => rw [e] at h; cases h
  | some r => rfl
theorem run_itof {P : Program} (w : World) (src dst : TypeId) (q : IntKind) (n : Int) (hs : (P.underlying src).isSome = true) (hd : P.underlying dst = some (.float .f64)) :
    (convert src dst (.int q n)).run P w = .ok (.float .f64 (floatOfInt .f64 n)) w := run_convert_int_float w src dst q .f64 n hs hd

theorem neg_fl (a : Nat) : Op.unary .neg (.float .f64 a) = pure (.float .f64 (fneg a)) := rfl
/-- the bits of the NaN that the tape gives -/
def nanAt (w : World) (x y : Nat) : Nat := Question.cut (.nanBits .f64 x y) (w.tape w.drawn (.nanBits .f64 x y))
theorem run_nan {P : Program} (w : World) (op : BinOp) (t : TypeId) (x y : Nat) (ho : op = .add ∨ op = .sub ∨ op = .mul ∨ op = .quo) (h : fok op x y = false) :
    (binOp op t (.float .f64 x) (.float .f64 y)).run P w = .ok (.float .f64 (nanAt w x y)) w.drew := by
  unfold fok at h
  have e : floatBits op .f64 x y = none := by
    cases q : floatBits op .f64 x y with
    | none => rfl
    | some r => rw [q] at h; cases h
  rcases ho with rfl | rfl | rfl | rfl <;> simp only [floatBits] at e <;> (simp [binOp, Op.floatArith, e]; rfl)
theorem fne_nan (w : World) (x y : Nat) : fne (nanAt w x y) (nanAt w x y) = true := by
  unfold fne nanAt
  generalize w.tape w.drawn (.nanBits .f64 x y) = t
  have hr : ∃ s k, FloatKind.f64.format.read (Question.cut (.nanBits .f64 x y) t) = .nan s k := by
    have h1 : t % 2 < 2 := Nat.mod_lt _ (by decide)
    have h2 : t / 2 % (2 ^ 52 - 1) < 2 ^ 52 - 1 := Nat.mod_lt _ (by decide)
    generalize e1 : t % 2 = a at h1
    generalize e2 : t / 2 % (2 ^ 52 - 1) = b at h2
    have e : Question.cut (.nanBits .f64 x y) t = a * 9223372036854775808 + (9218868437227405313 + b) := by
      simp only [Question.cut, e1, e2]; omega
    rw [e]
    have e3 : (a * 9223372036854775808 + (9218868437227405313 + b)) % 9223372036854775808 = 9218868437227405313 + b := by omega
    have s1 : FloatKind.f64.format.signWeight = 9223372036854775808 := by decide
    have s2 : FloatKind.f64.format.binade = 4503599627370496 := by decide
    have s3 : FloatKind.f64.format.infRung = 9218868437227405312 := by decide
    unfold Ieee.Format.read
    rw [s1, s2, s3, e3]
    dsimp only
    rw [if_neg (by omega), if_neg (by omega), if_neg (by omega)]
    exact ⟨_, _, rfl⟩
  obtain ⟨s, k, hr⟩ := hr
  have : FloatKind.f64.format.order (Question.cut (.nanBits .f64 x y) t) (Question.cut (.nanBits .f64 x y) t) = none := by
    unfold Ieee.Format.order
    rw [hr]; rfl
  rw [this]; rfl
theorem run76 (b : Nat) (w : World) : (callFunc 76 #[.float .f64 b]).run Tryd.prog w = .ok (.value (.int .u64 b)) w := by
  rw [run_callFunc_extern (e := Extern.MathFloatBits.float64bits) Tryd.func76 (by kernel_rfl) (by kernel_rfl) (by kernel_rfl) (by kernel_rfl)]
  rfl
theorem run82 (b : Int) (w : World) : (callFunc 82 #[.int .u64 b]).run Tryd.prog w = .ok (.value (.float .f64 b.toNat)) w := by
  rw [run_callFunc_extern (e := Extern.MathFloatBits.float64frombits) Tryd.func82 (by kernel_rfl) (by kernel_rfl) (by kernel_rfl) (by kernel_rfl)]
  rfl
end Go.Proofs.YtpemgladmnbfhaaDoor.Fl
