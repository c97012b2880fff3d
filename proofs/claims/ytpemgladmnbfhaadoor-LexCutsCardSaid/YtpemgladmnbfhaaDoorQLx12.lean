-- WRITTEN BY wip/tools/myprint.py, a program of this session, over the kit's printer
import Derived.Test.YtpemgladmnbfhaaDoorSh
import Derived.Test.YtpemgladmnbfhaaDoorQLx0
import Derived.Test.YtpemgladmnbfhaaDoorQLx8
import Derived.Test.YtpemgladmnbfhaaDoorQLx10
import Derived.Test.YtpemgladmnbfhaaDoorQLx11
-- DENTED
namespace Go.Proofs.YtpemgladmnbfhaaDoor.QL
open Go.Proofs.YtpemgladmnbfhaaDoor.Sh
open Go.RowKit Go.Proofs.YtpemgladmnbfhaaDoorW.PrintWords Go.Proofs.YtpemgladmnbfhaaDoorW.PrintLast Go.Proofs.YtpemgladmnbfhaaDoorW.PrintMore
attribute [local go_sem] max2_int min2_int max_two min_two max_three min_three max_four min_four   -- for this text's walks alone
open Go.Proofs.YtpemgladmnbfhaaDoor.Fl Go.Proofs.YtpemgladmnbfhaaDoor.Wd
attribute [local go_sem high] bo_eq bo_ne bo_lt bo_le bo_gt bo_ge
attribute [local go_sem] run82 run76 neg_fl
set_option linter.unusedVariables false
set_option linter.unusedSimpArgs false

/-! ### heirloomref07_one: function 22 -/
mutual
def heirloomref07_one.l0 : Nat → ByteArray → Int → Int → Int → ByteArray → Int → Int → ByteArray → Int → Int → Option (Int × ByteArray × Int × Int × ByteArray × Int × Int × Int)
 | 0, _, _, _, _, _, _, _, _, _, _ => none
 | k + 1, x0, x1, x7, x201000, x201001, x201002, x201003, x201004, x201005, x201006 => if x7 < (x0.size : Int) then (if 0 ≤ x7 then ((heirloomref07_letter.f (bt x0 x7)).bind fun t202 => (if t202 = true then (heirloomref07_one.l0 k x0 x1 (wrap64 (x7 + 1)) x201000 x201001 x201002 x201003 x201004 x201005 x201006) else ((heirloomref07_digit.f (bt x0 x7)).bind fun t203 => (if t203 = true then (heirloomref07_one.l0 k x0 x1 (wrap64 (x7 + 1)) x201000 x201001 x201002 x201003 x201004 x201005 x201006) else (if 0 ≤ x1 then (if x1 ≤ x7 then (if x7 ≤ (x0.size : Int) then ((heirloomref07_Word.f k (x0.extract (x1 : Int).toNat (x7 : Int).toNat)).bind fun t204 => (if t204 = true then (some (2, x0.extract (x1 : Int).toNat (x7 : Int).toNat, x201002, x201003, x201004, x201005, x7, 0)) else (some (1, x0.extract (x1 : Int).toNat (x7 : Int).toNat, x201002, x201003, x201004, x201005, x7, 0)))) else (none)) else (none)) else (none)))))) else (none)) else (if 0 ≤ x1 then (if x1 ≤ x7 then (if x7 ≤ (x0.size : Int) then ((heirloomref07_Word.f k (x0.extract (x1 : Int).toNat (x7 : Int).toNat)).bind fun t205 => (if t205 = true then (some (2, x0.extract (x1 : Int).toNat (x7 : Int).toNat, x201002, x201003, x201004, x201005, x7, 0)) else (some (1, x0.extract (x1 : Int).toNat (x7 : Int).toNat, x201002, x201003, x201004, x201005, x7, 0)))) else (none)) else (none)) else (none))
def heirloomref07_one.l1 : Nat → ByteArray → Int → Int → Int → ByteArray → Int → Int → ByteArray → Int → Int → Option (Int × ByteArray × Int × Int × ByteArray × Int × Int × Int)
 | 0, _, _, _, _, _, _, _, _, _, _ => none
 | k + 1, x0, x1, x7, x201000, x201001, x201002, x201003, x201004, x201005, x201006 => if x7 < (x0.size : Int) then (if 0 ≤ x7 then ((heirloomref07_letter.f (bt x0 x7)).bind fun t207 => (if t207 = true then (heirloomref07_one.l1 k x0 x1 (wrap64 (x7 + 1)) x201000 x201001 x201002 x201003 x201004 x201005 x201006) else ((heirloomref07_digit.f (bt x0 x7)).bind fun t208 => (if t208 = true then (heirloomref07_one.l1 k x0 x1 (wrap64 (x7 + 1)) x201000 x201001 x201002 x201003 x201004 x201005 x201006) else (if (bt x0 x7) = 46 then (if (wrap64 (x7 + 1)) < (x0.size : Int) then (if 0 ≤ (wrap64 (x7 + 1)) then ((heirloomref07_digit.f (bt x0 (wrap64 (x7 + 1)))).bind fun t209 => (if t209 = true then (heirloomref07_one.l1 k x0 x1 (wrap64 (x7 + 1)) x201000 x201001 x201002 x201003 x201004 x201005 x201006) else (if 0 ≤ x1 then (if x1 ≤ x7 then (if x7 ≤ (x0.size : Int) then ((heirloomref01_Read.f k (x0.extract (x1 : Int).toNat (x7 : Int).toNat)).bind fun bt210 => (some (3, x0.extract (x1 : Int).toNat (x7 : Int).toNat, bt210.1, bt210.2.1, x201004, x201005, x7, bt210.2.2))) else (none)) else (none)) else (none)))) else (none)) else (if 0 ≤ x1 then (if x1 ≤ x7 then (if x7 ≤ (x0.size : Int) then ((heirloomref01_Read.f k (x0.extract (x1 : Int).toNat (x7 : Int).toNat)).bind fun bt214 => (some (3, x0.extract (x1 : Int).toNat (x7 : Int).toNat, bt214.1, bt214.2.1, x201004, x201005, x7, bt214.2.2))) else (none)) else (none)) else (none))) else (if 0 ≤ x1 then (if x1 ≤ x7 then (if x7 ≤ (x0.size : Int) then ((heirloomref01_Read.f k (x0.extract (x1 : Int).toNat (x7 : Int).toNat)).bind fun bt218 => (some (3, x0.extract (x1 : Int).toNat (x7 : Int).toNat, bt218.1, bt218.2.1, x201004, x201005, x7, bt218.2.2))) else (none)) else (none)) else (none))))))) else (none)) else (if 0 ≤ x1 then (if x1 ≤ x7 then (if x7 ≤ (x0.size : Int) then ((heirloomref01_Read.f k (x0.extract (x1 : Int).toNat (x7 : Int).toNat)).bind fun bt222 => (some (3, x0.extract (x1 : Int).toNat (x7 : Int).toNat, bt222.1, bt222.2.1, x201004, x201005, x7, bt222.2.2))) else (none)) else (none)) else (none))
def heirloomref07_one.j3 : Nat → ByteArray → Int → Int → Int → ByteArray → Int → Int → ByteArray → Int → Int → Option (Int × ByteArray × Int × Int × ByteArray × Int × Int × Int)
 | 0, _, _, _, _, _, _, _, _, _, _ => none
 | k + 1, x0, x1, x7, x201000, x201001, x201002, x201003, x201004, x201005, x201006 => if x7 = (x0.size : Int) then (some (x201000, x201001, x201002, x201003, x201004, x201005, x201006, 16)) else (if 0 ≤ x1 then (if x1 ≤ (wrap64 (x7 + 1)) then (if (wrap64 (x7 + 1)) ≤ (x0.size : Int) then ((heirloomref02_Unquote.f k (x0.extract (x1 : Int).toNat ((wrap64 (x7 + 1)) : Int).toNat)).bind fun bt226 => (if bt226.2 = 0 then (some (4, x0.extract (x1 : Int).toNat ((wrap64 (x7 + 1)) : Int).toNat, x201002, x201003, bt226.1, x201005, wrap64 (x7 + 1), 0)) else (some (x201000, x201001, x201002, x201003, x201004, x201005, x201006, 16)))) else (none)) else (none)) else (none))
def heirloomref07_one.l2 : Nat → ByteArray → Int → Int → Int → ByteArray → Int → Int → ByteArray → Int → Int → Option (Int × ByteArray × Int × Int × ByteArray × Int × Int × Int)
 | 0, _, _, _, _, _, _, _, _, _, _ => none
 | k + 1, x0, x1, x7, x201000, x201001, x201002, x201003, x201004, x201005, x201006 => if x7 < (x0.size : Int) then (if 0 ≤ x7 then (if (bt x0 x7) = 34 then (heirloomref07_one.j3 k x0 x1 x7 x201000 x201001 x201002 x201003 x201004 x201005 x201006) else (heirloomref07_one.l2 k x0 x1 (wrap64 (x7 + 1)) x201000 x201001 x201002 x201003 x201004 x201005 x201006)) else (none)) else (heirloomref07_one.j3 k x0 x1 x7 x201000 x201001 x201002 x201003 x201004 x201005 x201006)
end
def heirloomref07_one.f (k : Nat) (a0 : ByteArray) (a1 : Int) : Option (Int × ByteArray × Int × Int × ByteArray × Int × Int × Int) := if 0 ≤ a1 then (if a1 < (a0.size : Int) then ((heirloomref07_letter.f (bt a0 a1)).bind fun t201 => (if t201 = true then (heirloomref07_one.l0 k a0 a1 a1 0 (⟨#[]⟩ : ByteArray) 0 0 (⟨#[]⟩ : ByteArray) a1 0) else ((heirloomref07_digit.f (bt a0 a1)).bind fun t206 => (if t206 = true then (heirloomref07_one.l1 k a0 a1 a1 0 (⟨#[]⟩ : ByteArray) 0 0 (⟨#[]⟩ : ByteArray) a1 0) else (if (bt a0 a1) = 34 then (heirloomref07_one.l2 k a0 a1 (wrap64 (a1 + 1)) 0 (⟨#[]⟩ : ByteArray) 0 0 (⟨#[]⟩ : ByteArray) a1 0) else ((heirloomref07_signAt.f k a0 a1).bind fun t228 => (if t228 = 0 then (some (0, (⟨#[]⟩ : ByteArray), 0, 0, (⟨#[]⟩ : ByteArray), a1, 0, 15)) else (if a1 ≤ (wrap64 (a1 + t228)) then (if (wrap64 (a1 + t228)) ≤ (a0.size : Int) then (some (5, a0.extract (a1 : Int).toNat ((wrap64 (a1 + t228)) : Int).toNat, 0, 0, (⟨#[]⟩ : ByteArray), a1, wrap64 (a1 + t228), 0)) else (none)) else (none))))))))) else (none)) else (none)
theorem heirloomref07_one.mono_l : ∀ k, (∀ y0 y1 y2 y3 y4 y5 y6 y7 y8 y9, LeO (heirloomref07_one.l0 k y0 y1 y2 y3 y4 y5 y6 y7 y8 y9) (heirloomref07_one.l0 (k + 1) y0 y1 y2 y3 y4 y5 y6 y7 y8 y9)) ∧ (∀ y0 y1 y2 y3 y4 y5 y6 y7 y8 y9, LeO (heirloomref07_one.l1 k y0 y1 y2 y3 y4 y5 y6 y7 y8 y9) (heirloomref07_one.l1 (k + 1) y0 y1 y2 y3 y4 y5 y6 y7 y8 y9)) ∧ (∀ y0 y1 y2 y3 y4 y5 y6 y7 y8 y9, LeO (heirloomref07_one.j3 k y0 y1 y2 y3 y4 y5 y6 y7 y8 y9) (heirloomref07_one.j3 (k + 1) y0 y1 y2 y3 y4 y5 y6 y7 y8 y9)) ∧ (∀ y0 y1 y2 y3 y4 y5 y6 y7 y8 y9, LeO (heirloomref07_one.l2 k y0 y1 y2 y3 y4 y5 y6 y7 y8 y9) (heirloomref07_one.l2 (k + 1) y0 y1 y2 y3 y4 y5 y6 y7 y8 y9))
 | 0 => ⟨fun _ _ _ _ _ _ _ _ _ _ r h => by simp [heirloomref07_one.l0] at h, fun _ _ _ _ _ _ _ _ _ _ r h => by simp [heirloomref07_one.l1] at h, fun _ _ _ _ _ _ _ _ _ _ r h => by simp [heirloomref07_one.j3] at h, fun _ _ _ _ _ _ _ _ _ _ r h => by simp [heirloomref07_one.l2] at h⟩
 | k + 1 => by
  obtain ⟨ih0, ih1, ih2, ih3⟩ := heirloomref07_one.mono_l k
  refine ⟨?_, ?_, ?_, ?_⟩
  ·intro y0 y1 y2 y3 y4 y5 y6 y7 y8 y9
   unfold heirloomref07_one.l0
   repeat' first
   | (with_reducible exact ih0 _ _ _ _ _ _ _ _ _ _)
   | (with_reducible exact ih1 _ _ _ _ _ _ _ _ _ _)
   | (with_reducible exact ih2 _ _ _ _ _ _ _ _ _ _)
   | (with_reducible exact ih3 _ _ _ _ _ _ _ _ _ _)
   | (with_reducible exact heirloomref01_Read.mono _ _)
   | (with_reducible exact heirloomref02_Unquote.mono _ _)
   | (with_reducible exact heirloomref07_Word.mono _ _)
   | (with_reducible exact heirloomref07_signAt.mono _ _ _)
   | (with_reducible exact LeO.refl _)
   | (with_reducible exact LeO.none _)
   | (with_reducible refine LeO.ite ?_ ?_)
   | (with_reducible refine LeO.bind ?_ (fun _ => ?_))
   | exact ih0 _ _ _ _ _ _ _ _ _ _
   | exact ih1 _ _ _ _ _ _ _ _ _ _
   | exact ih2 _ _ _ _ _ _ _ _ _ _
   | exact ih3 _ _ _ _ _ _ _ _ _ _
   | exact heirloomref01_Read.mono _ _
   | exact heirloomref02_Unquote.mono _ _
   | exact heirloomref07_Word.mono _ _
   | exact heirloomref07_signAt.mono _ _ _
   | exact LeO.none _
   | refine LeO.ite ?_ ?_
   | refine LeO.bind ?_ (fun _ => ?_)
  ·intro y0 y1 y2 y3 y4 y5 y6 y7 y8 y9
   unfold heirloomref07_one.l1
   repeat' first
   | (with_reducible exact ih0 _ _ _ _ _ _ _ _ _ _)
   | (with_reducible exact ih1 _ _ _ _ _ _ _ _ _ _)
   | (with_reducible exact ih2 _ _ _ _ _ _ _ _ _ _)
   | (with_reducible exact ih3 _ _ _ _ _ _ _ _ _ _)
   | (with_reducible exact heirloomref01_Read.mono _ _)
   | (with_reducible exact heirloomref02_Unquote.mono _ _)
   | (with_reducible exact heirloomref07_Word.mono _ _)
   | (with_reducible exact heirloomref07_signAt.mono _ _ _)
   | (with_reducible exact LeO.refl _)
   | (with_reducible exact LeO.none _)
   | (with_reducible refine LeO.ite ?_ ?_)
   | (with_reducible refine LeO.bind ?_ (fun _ => ?_))
   | exact ih0 _ _ _ _ _ _ _ _ _ _
   | exact ih1 _ _ _ _ _ _ _ _ _ _
   | exact ih2 _ _ _ _ _ _ _ _ _ _
   | exact ih3 _ _ _ _ _ _ _ _ _ _
   | exact heirloomref01_Read.mono _ _
   | exact heirloomref02_Unquote.mono _ _
   | exact heirloomref07_Word.mono _ _
   | exact heirloomref07_signAt.mono _ _ _
   | exact LeO.none _
   | refine LeO.ite ?_ ?_
   | refine LeO.bind ?_ (fun _ => ?_)
  ·intro y0 y1 y2 y3 y4 y5 y6 y7 y8 y9
   unfold heirloomref07_one.j3
   repeat' first
   | (with_reducible exact ih0 _ _ _ _ _ _ _ _ _ _)
   | (with_reducible exact ih1 _ _ _ _ _ _ _ _ _ _)
   | (with_reducible exact ih2 _ _ _ _ _ _ _ _ _ _)
   | (with_reducible exact ih3 _ _ _ _ _ _ _ _ _ _)
   | (with_reducible exact heirloomref01_Read.mono _ _)
   | (with_reducible exact heirloomref02_Unquote.mono _ _)
   | (with_reducible exact heirloomref07_Word.mono _ _)
   | (with_reducible exact heirloomref07_signAt.mono _ _ _)
   | (with_reducible exact LeO.refl _)
   | (with_reducible exact LeO.none _)
   | (with_reducible refine LeO.ite ?_ ?_)
   | (with_reducible refine LeO.bind ?_ (fun _ => ?_))
   | exact ih0 _ _ _ _ _ _ _ _ _ _
   | exact ih1 _ _ _ _ _ _ _ _ _ _
   | exact ih2 _ _ _ _ _ _ _ _ _ _
   | exact ih3 _ _ _ _ _ _ _ _ _ _
   | exact heirloomref01_Read.mono _ _
   | exact heirloomref02_Unquote.mono _ _
   | exact heirloomref07_Word.mono _ _
   | exact heirloomref07_signAt.mono _ _ _
   | exact LeO.none _
   | refine LeO.ite ?_ ?_
   | refine LeO.bind ?_ (fun _ => ?_)
  ·intro y0 y1 y2 y3 y4 y5 y6 y7 y8 y9
   unfold heirloomref07_one.l2
   repeat' first
   | (with_reducible exact ih0 _ _ _ _ _ _ _ _ _ _)
   | (with_reducible exact ih1 _ _ _ _ _ _ _ _ _ _)
   | (with_reducible exact ih2 _ _ _ _ _ _ _ _ _ _)
   | (with_reducible exact ih3 _ _ _ _ _ _ _ _ _ _)
   | (with_reducible exact heirloomref01_Read.mono _ _)
   | (with_reducible exact heirloomref02_Unquote.mono _ _)
   | (with_reducible exact heirloomref07_Word.mono _ _)
   | (with_reducible exact heirloomref07_signAt.mono _ _ _)
   | (with_reducible exact LeO.refl _)
   | (with_reducible exact LeO.none _)
   | (with_reducible refine LeO.ite ?_ ?_)
   | (with_reducible refine LeO.bind ?_ (fun _ => ?_))
   | exact ih0 _ _ _ _ _ _ _ _ _ _
   | exact ih1 _ _ _ _ _ _ _ _ _ _
   | exact ih2 _ _ _ _ _ _ _ _ _ _
   | exact ih3 _ _ _ _ _ _ _ _ _ _
   | exact heirloomref01_Read.mono _ _
   | exact heirloomref02_Unquote.mono _ _
   | exact heirloomref07_Word.mono _ _
   | exact heirloomref07_signAt.mono _ _ _
   | exact LeO.none _
   | refine LeO.ite ?_ ?_
   | refine LeO.bind ?_ (fun _ => ?_)
theorem heirloomref07_one.mono : ∀ a0 a1 k, LeO (heirloomref07_one.f k a0 a1) (heirloomref07_one.f (k + 1) a0 a1) := by
 intro a0 a1 k
 obtain ⟨ih0, ih1, ih2, ih3⟩ := heirloomref07_one.mono_l k
 unfold heirloomref07_one.f
 repeat' first
   | (with_reducible exact ih0 _ _ _ _ _ _ _ _ _ _)
   | (with_reducible exact ih1 _ _ _ _ _ _ _ _ _ _)
   | (with_reducible exact ih2 _ _ _ _ _ _ _ _ _ _)
   | (with_reducible exact ih3 _ _ _ _ _ _ _ _ _ _)
   | (with_reducible exact heirloomref01_Read.mono _ _)
   | (with_reducible exact heirloomref02_Unquote.mono _ _)
   | (with_reducible exact heirloomref07_Word.mono _ _)
   | (with_reducible exact heirloomref07_signAt.mono _ _ _)
   | (with_reducible exact LeO.refl _)
   | (with_reducible exact LeO.none _)
   | (with_reducible refine LeO.ite ?_ ?_)
   | (with_reducible refine LeO.bind ?_ (fun _ => ?_))
   | exact ih0 _ _ _ _ _ _ _ _ _ _
   | exact ih1 _ _ _ _ _ _ _ _ _ _
   | exact ih2 _ _ _ _ _ _ _ _ _ _
   | exact ih3 _ _ _ _ _ _ _ _ _ _
   | exact heirloomref01_Read.mono _ _
   | exact heirloomref02_Unquote.mono _ _
   | exact heirloomref07_Word.mono _ _
   | exact heirloomref07_signAt.mono _ _ _
   | exact LeO.none _
   | refine LeO.ite ?_ ?_
   | refine LeO.bind ?_ (fun _ => ?_)
def heirloomref07_one.T16 : Bool × List (List Nat × List Nat) := (true, [([], []), ([], []), ([], []), ([0, 1, 2], [0, 1, 2]), ([], []), ([], []), ([], []), ([6], [6]), ([0, 1, 2, 3, 6, 7], []), ([8, 3, 7, 0, 1, 2, 3, 6, 7], [3, 8]), ([0, 1, 2, 3, 4, 6, 7, 8, 9], []), ([10, 4, 9, 0, 1, 2, 3, 4, 6, 7, 8, 9], [4, 10]), ([0, 1, 2, 3, 4, 5, 6, 7, 8, 9, 10, 11], []), ([12, 5, 11, 0, 1, 2, 3, 4, 5, 6, 7, 8, 9, 10, 11], [5, 12])])
def heirloomref07_one.B16 : List Nat := [0, 0, 0, 7, 0, 0, 0, 64, 207, 463, 991, 2015, 4095, 8191]
theorem heirloomref07_one.tab16 : rtab .any (opsOf Tryd.f22 16) = heirloomref07_one.T16 := by kernel_rfl
theorem heirloomref07_one.bits16 : waitsOk heirloomref07_one.T16.2 heirloomref07_one.B16 = true := by kernel_rfl
def heirloomref07_one.T27 : Bool × List (List Nat × List Nat) := (true, [([], []), ([], []), ([], []), ([2], [2]), ([0, 1, 3], [0, 1, 3]), ([], []), ([5], [5]), ([], []), ([], []), ([8], [8]), ([0, 1, 2, 3, 4, 8, 9], []), ([10, 4, 9, 0, 1, 2, 3, 4, 8, 9], [4, 10]), ([0, 1, 2, 3, 4, 5, 6, 8, 9, 10, 11], []), ([12, 6, 11, 0, 1, 2, 3, 4, 5, 6, 8, 9, 10, 11], [6, 12]), ([0, 1, 2, 3, 4, 5, 6, 7, 8, 9, 10, 11, 12, 13], []), ([14, 7, 13, 0, 1, 2, 3, 4, 5, 6, 7, 8, 9, 10, 11, 12, 13], [7, 14])])
def heirloomref07_one.B27 : List Nat := [0, 0, 0, 4, 15, 0, 32, 0, 0, 256, 799, 1823, 3967, 8063, 16383, 32767]
theorem heirloomref07_one.tab27 : rtab .any (opsOf Tryd.f22 27) = heirloomref07_one.T27 := by kernel_rfl
theorem heirloomref07_one.bits27 : waitsOk heirloomref07_one.T27.2 heirloomref07_one.B27 = true := by kernel_rfl
def heirloomref07_one.T32 : Bool × List (List Nat × List Nat) := (true, [([], []), ([], []), ([], []), ([], []), ([2, 3], [2, 3]), ([0, 1, 4], [0, 1, 4]), ([], []), ([], []), ([6, 7], [6, 7]), ([], []), ([9], [9]), ([0, 1, 2, 3, 4, 5, 9, 10], []), ([11, 5, 10, 0, 1, 2, 3, 4, 5, 9, 10], [5, 11]), ([0, 1, 2, 3, 4, 5, 6, 7, 8, 9, 10, 11, 12], []), ([13, 8, 12, 0, 1, 2, 3, 4, 5, 6, 7, 8, 9, 10, 11, 12], [8, 13])])
def heirloomref07_one.B32 : List Nat := [0, 0, 0, 0, 12, 31, 0, 0, 192, 0, 512, 1599, 3647, 8191, 16383]
theorem heirloomref07_one.tab32 : rtab .any (opsOf Tryd.f22 32) = heirloomref07_one.T32 := by kernel_rfl
theorem heirloomref07_one.bits32 : waitsOk heirloomref07_one.T32.2 heirloomref07_one.B32 = true := by kernel_rfl
set_option maxHeartbeats 8000000 in
set_option maxRecDepth 100000 in
theorem heirloomref07_one.calls (k : Nat) (a0 : ByteArray) (a1 : Int) (r1 : Int) (r2 : ByteArray) (r3 : Int) (r4 : Int) (r5 : ByteArray) (r6 : Int) (r7 : Int) (r8 : Int) (w : World) (h : heirloomref07_one.f k a0 a1 = some (r1, r2, r3, r4, r5, r6, r7, r8)) :
  Calls Tryd.prog 22 #[.string a0, .int .i64 a1] w fun e w' => e = .returned (.tuple #[.agg #[.int .i64 r1, .string r2, .int .i64 r3, .int .i64 r4, .string r5, .int .i64 r6, .int .i64 r7], .int .i64 r8]) ∧ Below w.heap.size w w' := by
 have hu35 := Tryd.underlying35
 have hu33 := Tryd.underlying33
 have HB := Aside0.mk (Below.refl w.heap.size w)
 have H : (if 0 ≤ a1 then (if a1 < (a0.size : Int) then ((heirloomref07_letter.f (bt a0 a1)).bind fun t201 => (if t201 = true then (heirloomref07_one.l0 k a0 a1 a1 0 (⟨#[]⟩ : ByteArray) 0 0 (⟨#[]⟩ : ByteArray) a1 0) else ((heirloomref07_digit.f (bt a0 a1)).bind fun t206 => (if t206 = true then (heirloomref07_one.l1 k a0 a1 a1 0 (⟨#[]⟩ : ByteArray) 0 0 (⟨#[]⟩ : ByteArray) a1 0) else (if (bt a0 a1) = 34 then (heirloomref07_one.l2 k a0 a1 (wrap64 (a1 + 1)) 0 (⟨#[]⟩ : ByteArray) 0 0 (⟨#[]⟩ : ByteArray) a1 0) else ((heirloomref07_signAt.f k a0 a1).bind fun t228 => (if t228 = 0 then (some (0, (⟨#[]⟩ : ByteArray), 0, 0, (⟨#[]⟩ : ByteArray), a1, 0, 15)) else (if a1 ≤ (wrap64 (a1 + t228)) then (if (wrap64 (a1 + t228)) ≤ (a0.size : Int) then (some (5, a0.extract (a1 : Int).toNat ((wrap64 (a1 + t228)) : Int).toNat, 0, 0, (⟨#[]⟩ : ByteArray), a1, wrap64 (a1 + t228), 0)) else (none)) else (none))))))))) else (none)) else (none)) = some (r1, r2, r3, r4, r5, r6, r7, r8) := h
 clear h
 by_cases c3 : 0 ≤ a1
 ·rw [if_pos c3] at H
  have c3b0 : decide (0 ≤ a1) = true := decide_eq_true c3
  clear c3
  by_cases c4 : a1 < (a0.size : Int)
  ·rw [if_pos c4] at H
   have c4b0 : decide (a1 < (a0.size : Int)) = true := decide_eq_true c4
   clear c4
   replace H := Option.bind_eq_some_iff.mp H
   obtain ⟨t201, A60, H⟩ := H
   replace H : (if t201 = true then (heirloomref07_one.l0 k a0 a1 a1 0 (⟨#[]⟩ : ByteArray) 0 0 (⟨#[]⟩ : ByteArray) a1 0) else ((heirloomref07_digit.f (bt a0 a1)).bind fun t206 => (if t206 = true then (heirloomref07_one.l1 k a0 a1 a1 0 (⟨#[]⟩ : ByteArray) 0 0 (⟨#[]⟩ : ByteArray) a1 0) else (if (bt a0 a1) = 34 then (heirloomref07_one.l2 k a0 a1 (wrap64 (a1 + 1)) 0 (⟨#[]⟩ : ByteArray) 0 0 (⟨#[]⟩ : ByteArray) a1 0) else ((heirloomref07_signAt.f k a0 a1).bind fun t228 => (if t228 = 0 then (some (0, (⟨#[]⟩ : ByteArray), 0, 0, (⟨#[]⟩ : ByteArray), a1, 0, 15)) else (if a1 ≤ (wrap64 (a1 + t228)) then (if (wrap64 (a1 + t228)) ≤ (a0.size : Int) then (some (5, a0.extract (a1 : Int).toNat ((wrap64 (a1 + t228)) : Int).toNat, 0, 0, (⟨#[]⟩ : ByteArray), a1, wrap64 (a1 + t228), 0)) else (none)) else (none)))))))) = some (r1, r2, r3, r4, r5, r6, r7, r8) := H
   have A6 := Aside0.mk A60
   clear A60
   by_cases c7 : t201 = true
   ·subst c7
    have H1 : (heirloomref07_one.l0 k a0 a1 a1 0 (⟨#[]⟩ : ByteArray) 0 0 (⟨#[]⟩ : ByteArray) a1 0) = some (r1, r2, r3, r4, r5, r6, r7, r8) := by rw [if_pos rfl] at H; exact H
    clear H
    have H := H1
    clear H1
    have H' := Aside0.mk H
    clear H
    go_enter Tryd.func22, Tryd.ntmps22
    go_wp2_with (first | ((with_reducible refine gate_dst (N := 4) rfl ?_); (try (refine gate_guard (by rfl) ?_; dsimp only)); refine box_event ?hg (N := 4) ?hd (cs := #[.int .i64 0, .string (⟨#[]⟩ : ByteArray), .int .i64 0, .int .i64 0, .string (⟨#[]⟩ : ByteArray), .int .i64 0, .int .i64 0]) (t := 35) ?hr ?_; (case hd => rfl); (case hg => rfl); (case hr => go_simp <;> rfl); intro gb199 hg w8 hbox hb; have n0_ := Aside0.mk (below_step (by repeat (first | (with_reducible first | exact HB.out | apply zb | apply zn | apply zd) | exact HB.out)) hb); have n1_ := Aside0.mk (hbox); have n2_ := Aside0.mk ((by rw [hg]; exact (below_size (by repeat (first | (with_reducible first | exact HB.out | apply zb | apply zn | apply zd) | exact HB.out))) : w.heap.size ≤ gb199)); have n3_ := n2_; clear HB; have HB := n0_; have BK199 := n1_; have GW199 := n2_; have GE199 := n3_; clear n0_ n1_ n2_ n3_; clear hb hbox hg) | ((with_reducible refine gate_dst (N := 6) rfl ?_); (try (refine gate_guard (by rfl) ?_; dsimp only)); refine box_event ?hg (N := 6) ?hd (cs := #[.int .i64 0, .string (⟨#[]⟩ : ByteArray), .int .i64 0, .int .i64 0, .string (⟨#[]⟩ : ByteArray), .int .i64 0, .int .i64 0]) (t := 35) ?hr ?_; (case hd => rfl); (case hg => rfl); (case hr => go_simp <;> rfl); intro gb200 hg w9 hbox hb; have n0_ := Aside0.mk (blk_below (g := gb199) (o := .cells #[.int .i64 0, .string (⟨#[]⟩ : ByteArray), .int .i64 0, .int .i64 0, .string (⟨#[]⟩ : ByteArray), .int .i64 0, .int .i64 0] 35 (0, 0)) (by (with_reducible repeat first | refine kn ?_ _ | refine kd ?_ | refine ka ?_ _); exact BK199.out) hb); have n1_ := Aside0.mk (below_step (by repeat (first | (with_reducible first | exact HB.out | apply zb | apply zn | apply zd | refine zs ?_ GE199.out) | exact HB.out)) hb); have n2_ := Aside0.mk (hbox); have n3_ := Aside0.mk ((by rw [hg]; exact (below_size (by repeat (first | (with_reducible first | exact HB.out | apply zb | apply zn | apply zd | refine zs ?_ GE199.out) | exact HB.out))) : w.heap.size ≤ gb200)); have n4_ := Aside0.mk ((by rw [hg]; exact (below_size (by repeat (first | (with_reducible first | exact HB.out | apply zb | apply zn | apply zd | refine zs ?_ GE199.out) | exact HB.out))) : w.heap.size ≤ gb200)); have n5_ := Aside0.mk ((by rw [hg]; exact Nat.ne_of_lt (blk_lt (g := gb199) (o := .cells #[.int .i64 0, .string (⟨#[]⟩ : ByteArray), .int .i64 0, .int .i64 0, .string (⟨#[]⟩ : ByteArray), .int .i64 0, .int .i64 0] 35 (0, 0)) (by (with_reducible repeat first | refine kn ?_ _ | refine kd ?_ | refine ka ?_ _); exact BK199.out)) : gb199 ≠ gb200)); have n6_ := Aside0.mk ((by rw [hg]; exact Nat.ne_of_gt (blk_lt (g := gb199) (o := .cells #[.int .i64 0, .string (⟨#[]⟩ : ByteArray), .int .i64 0, .int .i64 0, .string (⟨#[]⟩ : ByteArray), .int .i64 0, .int .i64 0] 35 (0, 0)) (by (with_reducible repeat first | refine kn ?_ _ | refine kd ?_ | refine ka ?_ _); exact BK199.out)) : gb200 ≠ gb199)); clear BK199; clear HB; have BK199 := n0_; have HB := n1_; have BK200 := n2_; have GW200 := n3_; have GE200 := n4_; have NB199_200 := n5_; have NB200_199 := n6_; clear n0_ n1_ n2_ n3_ n4_ n5_ n6_; clear hb hbox hg; have hnb10 := NB200_199.out; have hnc10 := NB199_200.out; have hcz11_0 : w9.cell? ⟨gb200, 0, none⟩ = some (.int .i64 0) := (blk_cell BK200.out 0).trans rfl; have hcz11_1 : w9.cell? ⟨gb200, 1, none⟩ = some (.string (⟨#[]⟩ : ByteArray)) := (blk_cell BK200.out 1).trans rfl; have hcz11_2 : w9.cell? ⟨gb200, 2, none⟩ = some (.int .i64 0) := (blk_cell BK200.out 2).trans rfl; have hcz11_3 : w9.cell? ⟨gb200, 3, none⟩ = some (.int .i64 0) := (blk_cell BK200.out 3).trans rfl; have hcz11_4 : w9.cell? ⟨gb200, 4, none⟩ = some (.string (⟨#[]⟩ : ByteArray)) := (blk_cell BK200.out 4).trans rfl; have hcz11_5 : w9.cell? ⟨gb200, 5, none⟩ = some (.int .i64 0) := (blk_cell BK200.out 5).trans rfl; have hcz11_6 : w9.cell? ⟨gb200, 6, none⟩ = some (.int .i64 0) := (blk_cell BK200.out 6).trans rfl; have hfz11_0 := blk_frozen BK200.out 0; have hfz11_1 := blk_frozen BK200.out 1; have hfz11_2 := blk_frozen BK200.out 2; have hfz11_3 := blk_frozen BK200.out 3; have hfz11_4 := blk_frozen BK200.out 4; have hfz11_5 := blk_frozen BK200.out 5; have hfz11_6 := blk_frozen BK200.out 6; have p5 : 0 ≤ (a1 : Int) := of_decide_eq_true (by first | (with_reducible assumption) | assumption); have q5 : a1 < (a0.size : Int) := of_decide_eq_true (by first | (with_reducible assumption) | assumption); have hx5 := bt_at a0 a1; replace p5 := eq_true p5; replace q5 := eq_true q5) | ((with_reducible refine gate_callee (f := 42) rfl ?_); refine goesL_ (some 21) rfl rfl Tryd.func42 (by kernel_rfl) rfl #[.int .u8 (bt a0 a1)] rfl (by simp only [m1, m2, m3] <;> rfl) ?_; (with_reducible refine (heirloomref07_letter.calls (bt a0 a1) true _ A6.out).mono ?_); rintro e w' ⟨rfl, ⟨nd, rfl⟩⟩; refine ⟨_, rfl, ?_⟩))
    try go_frame
    go_loopg [7] k (fun kq v7 w' => ∃ (x7_1 : Int), v7 = .int .i64 x7_1 ∧ Aside0 (heirloomref07_one.l0 kq a0 a1 x7_1 0 (⟨#[]⟩ : ByteArray) 0 0 (⟨#[]⟩ : ByteArray) a1 0 = some (r1, r2, r3, r4, r5, r6, r7, r8)) ∧ Aside0 (kq ≤ k) ∧ Aside0 (w'.heap[gb199]? = some (.cells #[.int .i64 0, .string (⟨#[]⟩ : ByteArray), .int .i64 0, .int .i64 0, .string (⟨#[]⟩ : ByteArray), .int .i64 0, .int .i64 0] 35 (0, 0))) ∧ Aside0 (w'.heap[gb200]? = some (.cells #[.int .i64 0, .string (⟨#[]⟩ : ByteArray), .int .i64 0, .int .i64 0, .string (⟨#[]⟩ : ByteArray), .int .i64 a1, .int .i64 0] 35 (0, 0))) ∧ Aside0 (Below w.heap.size w w'))
    case atStart => exact ⟨(a1), (by first | rfl | (simp; done) | (simp [*]; done)), H', ⟨Nat.le_refl _⟩, ⟨by (repeat first | (with_reducible first | refine kn ?_ _ | refine kd ?_ | refine ka ?_ _ | apply bp) | apply blk_far (hp := NB199_200.out)); exact BK199.out; all_goals rfl⟩, ⟨by (with_reducible repeat first | refine kn ?_ _ | refine kd ?_ | refine ka ?_ _ | apply bp); exact BK200.out; all_goals rfl⟩, ⟨by repeat (first | (with_reducible first | exact HB.out | apply zb | apply zn | apply zd | refine zs ?_ GE199.out | refine zs ?_ GE200.out) | exact HB.out)⟩⟩
    case round =>
     clear H'
     try clear c1
     try clear c2
     try clear p2
     try clear c3
     try clear c3b0
     try clear c4
     try clear c4b0
     try clear p5
     try clear q5
     try clear hx5
     try clear p6
     try clear c7
     try clear c10
     try clear hcz11_0
     try clear hcz11_1
     try clear hcz11_2
     try clear hcz11_3
     try clear hcz11_4
     try clear hcz11_5
     try clear hcz11_6
     try clear hfz11_0
     try clear hfz11_1
     try clear hfz11_2
     try clear hfz11_3
     try clear hfz11_4
     try clear hfz11_5
     try clear hfz11_6
     try clear p5
     try clear q5
     obtain ⟨x7_1, rfl, HA, HK1, BK199, BK200, HB⟩ := hrel
     cases gk with
     | zero => exact absurd HA.out (by simp [heirloomref07_one.l0])
     | succ k1 =>
      have H := HA.out
      clear HA
      simp only [heirloomref07_one.l0] at H
      by_cases c12 : x7_1 < (a0.size : Int)
      ·rw [if_pos c12] at H
       have c12b0 : decide (x7_1 < (a0.size : Int)) = true := decide_eq_true c12
       clear c12
       by_cases c13 : 0 ≤ x7_1
       ·rw [if_pos c13] at H
        have c13b0 : decide (0 ≤ x7_1) = true := decide_eq_true c13
        clear c13
        replace H := Option.bind_eq_some_iff.mp H
        obtain ⟨t202, A150, H⟩ := H
        replace H : (if t202 = true then (heirloomref07_one.l0 k1 a0 a1 (wrap64 (x7_1 + 1)) 0 (⟨#[]⟩ : ByteArray) 0 0 (⟨#[]⟩ : ByteArray) a1 0) else ((heirloomref07_digit.f (bt a0 x7_1)).bind fun t203 => (if t203 = true then (heirloomref07_one.l0 k1 a0 a1 (wrap64 (x7_1 + 1)) 0 (⟨#[]⟩ : ByteArray) 0 0 (⟨#[]⟩ : ByteArray) a1 0) else (if 0 ≤ a1 then (if a1 ≤ x7_1 then (if x7_1 ≤ (a0.size : Int) then ((heirloomref07_Word.f k1 (a0.extract (a1 : Int).toNat (x7_1 : Int).toNat)).bind fun t204 => (if t204 = true then (some (2, a0.extract (a1 : Int).toNat (x7_1 : Int).toNat, 0, 0, (⟨#[]⟩ : ByteArray), a1, x7_1, 0)) else (some (1, a0.extract (a1 : Int).toNat (x7_1 : Int).toNat, 0, 0, (⟨#[]⟩ : ByteArray), a1, x7_1, 0)))) else (none)) else (none)) else (none))))) = some (r1, r2, r3, r4, r5, r6, r7, r8) := H
        have A15 := Aside0.mk A150
        clear A150
        by_cases c16 : t202 = true
        ·subst c16
         have H1 : (heirloomref07_one.l0 k1 a0 a1 (wrap64 (x7_1 + 1)) 0 (⟨#[]⟩ : ByteArray) 0 0 (⟨#[]⟩ : ByteArray) a1 0) = some (r1, r2, r3, r4, r5, r6, r7, r8) := by rw [if_pos rfl] at H; exact H
         clear H
         have H := H1
         clear H1
         have H' := Aside0.mk H
         clear H
         have p14 : 0 ≤ (x7_1 : Int) := of_decide_eq_true (by first | (with_reducible assumption) | assumption)
         have q14 : x7_1 < (a0.size : Int) := of_decide_eq_true (by first | (with_reducible assumption) | assumption)
         have hx14 := bt_at a0 x7_1
         replace p14 := eq_true p14
         replace q14 := eq_true q14
         go_wp2_with (first | (go_at_call 42; (with_reducible refine (heirloomref07_letter.calls (bt a0 x7_1) true _ A15.out).mono ?_); rintro e w' ⟨rfl, ⟨nd, rfl⟩⟩))
         go_roundg k1
         case measure => have := HK1.out; omega
         case rel => exact ⟨(wrap64 (x7_1 + 1)), (by first | rfl | (simp; done) | (simp [*]; done)), H', ⟨by have := HK1.out; omega⟩, ⟨by (with_reducible repeat first | refine kn ?_ _ | refine kd ?_ | refine ka ?_ _); exact BK199.out⟩, ⟨by (with_reducible repeat first | refine kn ?_ _ | refine kd ?_ | refine ka ?_ _); exact BK200.out⟩, ⟨by repeat (first | (with_reducible first | exact HB.out | apply zb | apply zn | apply zd | refine zs ?_ GE199.out | refine zs ?_ GE200.out) | exact HB.out)⟩⟩
        ·replace c16 := Bool.eq_false_iff.mpr c16
         subst c16
         have H1 : ((heirloomref07_digit.f (bt a0 x7_1)).bind fun t203 => (if t203 = true then (heirloomref07_one.l0 k1 a0 a1 (wrap64 (x7_1 + 1)) 0 (⟨#[]⟩ : ByteArray) 0 0 (⟨#[]⟩ : ByteArray) a1 0) else (if 0 ≤ a1 then (if a1 ≤ x7_1 then (if x7_1 ≤ (a0.size : Int) then ((heirloomref07_Word.f k1 (a0.extract (a1 : Int).toNat (x7_1 : Int).toNat)).bind fun t204 => (if t204 = true then (some (2, a0.extract (a1 : Int).toNat (x7_1 : Int).toNat, 0, 0, (⟨#[]⟩ : ByteArray), a1, x7_1, 0)) else (some (1, a0.extract (a1 : Int).toNat (x7_1 : Int).toNat, 0, 0, (⟨#[]⟩ : ByteArray), a1, x7_1, 0)))) else (none)) else (none)) else (none)))) = some (r1, r2, r3, r4, r5, r6, r7, r8) := by rw [if_neg (show ¬ (false = true) by decide)] at H; exact H
         clear H
         have H := H1
         clear H1
         replace H := Option.bind_eq_some_iff.mp H
         obtain ⟨t203, A180, H⟩ := H
         replace H : (if t203 = true then (heirloomref07_one.l0 k1 a0 a1 (wrap64 (x7_1 + 1)) 0 (⟨#[]⟩ : ByteArray) 0 0 (⟨#[]⟩ : ByteArray) a1 0) else (if 0 ≤ a1 then (if a1 ≤ x7_1 then (if x7_1 ≤ (a0.size : Int) then ((heirloomref07_Word.f k1 (a0.extract (a1 : Int).toNat (x7_1 : Int).toNat)).bind fun t204 => (if t204 = true then (some (2, a0.extract (a1 : Int).toNat (x7_1 : Int).toNat, 0, 0, (⟨#[]⟩ : ByteArray), a1, x7_1, 0)) else (some (1, a0.extract (a1 : Int).toNat (x7_1 : Int).toNat, 0, 0, (⟨#[]⟩ : ByteArray), a1, x7_1, 0)))) else (none)) else (none)) else (none))) = some (r1, r2, r3, r4, r5, r6, r7, r8) := H
         have A18 := Aside0.mk A180
         clear A180
         by_cases c19 : t203 = true
         ·subst c19
          have H1 : (heirloomref07_one.l0 k1 a0 a1 (wrap64 (x7_1 + 1)) 0 (⟨#[]⟩ : ByteArray) 0 0 (⟨#[]⟩ : ByteArray) a1 0) = some (r1, r2, r3, r4, r5, r6, r7, r8) := by rw [if_pos rfl] at H; exact H
          clear H
          have H := H1
          clear H1
          have H' := Aside0.mk H
          clear H
          have p14 : 0 ≤ (x7_1 : Int) := of_decide_eq_true (by first | (with_reducible assumption) | assumption)
          have q14 : x7_1 < (a0.size : Int) := of_decide_eq_true (by first | (with_reducible assumption) | assumption)
          have hx14 := bt_at a0 x7_1
          replace p14 := eq_true p14
          replace q14 := eq_true q14
          go_wp2_with (first | (go_at_call 42; (with_reducible refine (heirloomref07_letter.calls (bt a0 x7_1) false _ A15.out).mono ?_); rintro e w' ⟨rfl, ⟨nd, rfl⟩⟩; have p17 : 0 ≤ (x7_1 : Int) := of_decide_eq_true (by first | (with_reducible assumption) | assumption); have q17 : x7_1 < (a0.size : Int) := of_decide_eq_true (by first | (with_reducible assumption) | assumption); have hx17 := bt_at a0 x7_1; replace p17 := eq_true p17; replace q17 := eq_true q17) | (go_at_call 43; (with_reducible refine (heirloomref07_digit.calls (bt a0 x7_1) true _ A18.out).mono ?_); rintro e w' ⟨rfl, ⟨nd, rfl⟩⟩))
          go_roundg k1
          case measure => have := HK1.out; omega
          case rel => exact ⟨(wrap64 (x7_1 + 1)), (by first | rfl | (simp; done) | (simp [*]; done)), H', ⟨by have := HK1.out; omega⟩, ⟨by (with_reducible repeat first | refine kn ?_ _ | refine kd ?_ | refine ka ?_ _); exact BK199.out⟩, ⟨by (with_reducible repeat first | refine kn ?_ _ | refine kd ?_ | refine ka ?_ _); exact BK200.out⟩, ⟨by repeat (first | (with_reducible first | exact HB.out | apply zb | apply zn | apply zd | refine zs ?_ GE199.out | refine zs ?_ GE200.out) | exact HB.out)⟩⟩
         ·replace c19 := Bool.eq_false_iff.mpr c19
          subst c19
          have H1 : (if 0 ≤ a1 then (if a1 ≤ x7_1 then (if x7_1 ≤ (a0.size : Int) then ((heirloomref07_Word.f k1 (a0.extract (a1 : Int).toNat (x7_1 : Int).toNat)).bind fun t204 => (if t204 = true then (some (2, a0.extract (a1 : Int).toNat (x7_1 : Int).toNat, 0, 0, (⟨#[]⟩ : ByteArray), a1, x7_1, 0)) else (some (1, a0.extract (a1 : Int).toNat (x7_1 : Int).toNat, 0, 0, (⟨#[]⟩ : ByteArray), a1, x7_1, 0)))) else (none)) else (none)) else (none)) = some (r1, r2, r3, r4, r5, r6, r7, r8) := by rw [if_neg (show ¬ (false = true) by decide)] at H; exact H
          clear H
          have H := H1
          clear H1
          by_cases c20 : 0 ≤ a1
          ·rw [if_pos c20] at H
           have c20b0 := eq_true c20
           have c20b1 : decide (0 ≤ a1) = true := decide_eq_true c20
           clear c20
           by_cases c21 : a1 ≤ x7_1
           ·rw [if_pos c21] at H
            have c21b0 := eq_true c21
            have c21b1 : decide (a1 ≤ x7_1) = true := decide_eq_true c21
            clear c21
            by_cases c22 : x7_1 ≤ (a0.size : Int)
            ·rw [if_pos c22] at H
             have c22b0 := eq_true c22
             have c22b1 : decide (x7_1 ≤ (a0.size : Int)) = true := decide_eq_true c22
             clear c22
             replace H := Option.bind_eq_some_iff.mp H
             obtain ⟨t204, A230, H⟩ := H
             replace H : (if t204 = true then (some (2, a0.extract (a1 : Int).toNat (x7_1 : Int).toNat, 0, 0, (⟨#[]⟩ : ByteArray), a1, x7_1, 0)) else (some (1, a0.extract (a1 : Int).toNat (x7_1 : Int).toNat, 0, 0, (⟨#[]⟩ : ByteArray), a1, x7_1, 0))) = some (r1, r2, r3, r4, r5, r6, r7, r8) := H
             have A23 := Aside0.mk A230
             clear A230
             by_cases c24 : t204 = true
             ·subst c24
              have H1 : (some (2, a0.extract (a1 : Int).toNat (x7_1 : Int).toNat, 0, 0, (⟨#[]⟩ : ByteArray), a1, x7_1, 0)) = some (r1, r2, r3, r4, r5, r6, r7, r8) := by rw [if_pos rfl] at H; exact H
              clear H
              have H := H1
              clear H1
              have c25b0 := eq_true (of_decide_eq_true (by first | (with_reducible assumption) | assumption) : 0 ≤ a1)
              have c26b0 := eq_true (of_decide_eq_true (by first | (with_reducible assumption) | assumption) : a1 ≤ x7_1)
              have c27b0 := eq_true (of_decide_eq_true (by first | (with_reducible assumption) | assumption) : x7_1 ≤ (a0.size : Int))
              simp only [Option.some.injEq, Prod.mk.injEq] at H
              obtain ⟨rfl, rfl, rfl, rfl, rfl, rfl, rfl, rfl⟩ := H
              have p14 : 0 ≤ (x7_1 : Int) := of_decide_eq_true (by first | (with_reducible assumption) | assumption)
              have q14 : x7_1 < (a0.size : Int) := of_decide_eq_true (by first | (with_reducible assumption) | assumption)
              have hx14 := bt_at a0 x7_1
              replace p14 := eq_true p14
              replace q14 := eq_true q14
              go_wp2_with (first | (go_at_call 42; (with_reducible refine (heirloomref07_letter.calls (bt a0 x7_1) false _ A15.out).mono ?_); rintro e w' ⟨rfl, ⟨nd, rfl⟩⟩; (try (rw [drewN_self wr]; generalize hq_ : World.drewN wr _ = wr; have n0_ : Aside0 (wr.heap[gb199]? = some (.cells #[.int .i64 0, .string (⟨#[]⟩ : ByteArray), .int .i64 0, .int .i64 0, .string (⟨#[]⟩ : ByteArray), .int .i64 0, .int .i64 0] 35 (0, 0))) := ⟨by rw [← hq_]; exact (by (with_reducible repeat first | refine kn ?_ _ | refine kd ?_ | refine ka ?_ _); exact BK199.out)⟩; have n1_ : Aside0 (wr.heap[gb200]? = some (.cells #[.int .i64 0, .string (⟨#[]⟩ : ByteArray), .int .i64 0, .int .i64 0, .string (⟨#[]⟩ : ByteArray), .int .i64 a1, .int .i64 0] 35 (0, 0))) := ⟨by rw [← hq_]; exact (by (with_reducible repeat first | refine kn ?_ _ | refine kd ?_ | refine ka ?_ _); exact BK200.out)⟩; have n2_ : Aside0 (Below w.heap.size w wr) := ⟨by rw [← hq_]; exact (by repeat (first | (with_reducible first | exact HB.out | apply zb | apply zn | apply zd | refine zs ?_ GE199.out | refine zs ?_ GE200.out) | exact HB.out))⟩; clear BK199 BK200 HB hq_; have BK199 := n0_; have BK200 := n1_; have HB := n2_; clear n0_ n1_ n2_)); have p17 : 0 ≤ (x7_1 : Int) := of_decide_eq_true (by first | (with_reducible assumption) | assumption); have q17 : x7_1 < (a0.size : Int) := of_decide_eq_true (by first | (with_reducible assumption) | assumption); have hx17 := bt_at a0 x7_1; replace p17 := eq_true p17; replace q17 := eq_true q17) | (go_at_call 43; (with_reducible refine (heirloomref07_digit.calls (bt a0 x7_1) false _ A18.out).mono ?_); rintro e w' ⟨rfl, ⟨nd, rfl⟩⟩; (try (rw [drewN_self wr]; generalize hq_ : World.drewN wr _ = wr; have n0_ : Aside0 (wr.heap[gb199]? = some (.cells #[.int .i64 0, .string (⟨#[]⟩ : ByteArray), .int .i64 0, .int .i64 0, .string (⟨#[]⟩ : ByteArray), .int .i64 0, .int .i64 0] 35 (0, 0))) := ⟨by rw [← hq_]; exact (by (with_reducible repeat first | refine kn ?_ _ | refine kd ?_ | refine ka ?_ _); exact BK199.out)⟩; have n1_ : Aside0 (wr.heap[gb200]? = some (.cells #[.int .i64 0, .string (⟨#[]⟩ : ByteArray), .int .i64 0, .int .i64 0, .string (⟨#[]⟩ : ByteArray), .int .i64 a1, .int .i64 0] 35 (0, 0))) := ⟨by rw [← hq_]; exact (by (with_reducible repeat first | refine kn ?_ _ | refine kd ?_ | refine ka ?_ _); exact BK200.out)⟩; have n2_ : Aside0 (Below w.heap.size w wr) := ⟨by rw [← hq_]; exact (by repeat (first | (with_reducible first | exact HB.out | apply zb | apply zn | apply zd | refine zs ?_ GE199.out | refine zs ?_ GE200.out) | exact HB.out))⟩; clear BK199 BK200 HB hq_; have BK199 := n0_; have BK200 := n1_; have HB := n2_; clear n0_ n1_ n2_)); have hnb28 := NB200_199.out; have hnc28 := NB199_200.out; have hcz29_0 : wr.cell? ⟨gb200, 0, none⟩ = some (.int .i64 0) := (blk_cell BK200.out 0).trans rfl; have hcz29_1 : wr.cell? ⟨gb200, 1, none⟩ = some (.string (⟨#[]⟩ : ByteArray)) := (blk_cell BK200.out 1).trans rfl; have hcz29_2 : wr.cell? ⟨gb200, 2, none⟩ = some (.int .i64 0) := (blk_cell BK200.out 2).trans rfl; have hcz29_3 : wr.cell? ⟨gb200, 3, none⟩ = some (.int .i64 0) := (blk_cell BK200.out 3).trans rfl; have hcz29_4 : wr.cell? ⟨gb200, 4, none⟩ = some (.string (⟨#[]⟩ : ByteArray)) := (blk_cell BK200.out 4).trans rfl; have hcz29_5 : wr.cell? ⟨gb200, 5, none⟩ = some (.int .i64 a1) := (blk_cell BK200.out 5).trans rfl; have hcz29_6 : wr.cell? ⟨gb200, 6, none⟩ = some (.int .i64 0) := (blk_cell BK200.out 6).trans rfl; have hfz29_0 := blk_frozen BK200.out 0; have hfz29_1 := blk_frozen BK200.out 1; have hfz29_2 := blk_frozen BK200.out 2; have hfz29_3 := blk_frozen BK200.out 3; have hfz29_4 := blk_frozen BK200.out 4; have hfz29_5 := blk_frozen BK200.out 5; have hfz29_6 := blk_frozen BK200.out 6) | ((with_reducible refine gate_callee (f := 18) rfl ?_); refine goesL_ (some 45) rfl rfl Tryd.func18 (by kernel_rfl) rfl #[.string (a0.extract (a1 : Int).toNat (x7_1 : Int).toNat)] rfl (by (try simp only [List.map_toArray, List.map_cons, List.map_nil]); first | done | rfl | (simp only [List.length_drop, List.length_take]; rfl)) ?_; (with_reducible refine (heirloomref07_Word.calls k1 (a0.extract (a1 : Int).toNat (x7_1 : Int).toNat) true _ A23.out).mono ?_); rintro e w30 ⟨rfl, hb⟩; refine ⟨_, rfl, ?_⟩; have n0_ := Aside0.mk (blk_below (g := gb199) (o := .cells #[.int .i64 0, .string (⟨#[]⟩ : ByteArray), .int .i64 0, .int .i64 0, .string (⟨#[]⟩ : ByteArray), .int .i64 0, .int .i64 0] 35 (0, 0)) (by (repeat first | (with_reducible first | refine kn ?_ _ | refine kd ?_ | refine ka ?_ _ | apply bp) | apply blk_far (hp := NB199_200.out)); exact BK199.out; all_goals rfl) hb); have n1_ := Aside0.mk (blk_below (g := gb200) (o := .cells #[.int .i64 1, .string (⟨#[]⟩ : ByteArray), .int .i64 0, .int .i64 0, .string (⟨#[]⟩ : ByteArray), .int .i64 a1, .int .i64 0] 35 (0, 0)) (by (with_reducible repeat first | refine kn ?_ _ | refine kd ?_ | refine ka ?_ _ | apply bp); exact BK200.out; all_goals rfl) hb); have n2_ := Aside0.mk (below_step (by repeat (first | (with_reducible first | exact HB.out | apply zb | apply zn | apply zd | refine zs ?_ GE199.out | refine zs ?_ GE200.out) | exact HB.out)) hb); clear BK199; clear BK200; clear HB; have BK199 := n0_; have BK200 := n1_; have HB := n2_; clear n0_ n1_ n2_; (try clear hb); have hcz31_0 : w30.cell? ⟨gb200, 0, none⟩ = some (.int .i64 1) := (blk_cell BK200.out 0).trans rfl; have hcz31_1 : w30.cell? ⟨gb200, 1, none⟩ = some (.string (⟨#[]⟩ : ByteArray)) := (blk_cell BK200.out 1).trans rfl; have hcz31_2 : w30.cell? ⟨gb200, 2, none⟩ = some (.int .i64 0) := (blk_cell BK200.out 2).trans rfl; have hcz31_3 : w30.cell? ⟨gb200, 3, none⟩ = some (.int .i64 0) := (blk_cell BK200.out 3).trans rfl; have hcz31_4 : w30.cell? ⟨gb200, 4, none⟩ = some (.string (⟨#[]⟩ : ByteArray)) := (blk_cell BK200.out 4).trans rfl; have hcz31_5 : w30.cell? ⟨gb200, 5, none⟩ = some (.int .i64 a1) := (blk_cell BK200.out 5).trans rfl; have hcz31_6 : w30.cell? ⟨gb200, 6, none⟩ = some (.int .i64 0) := (blk_cell BK200.out 6).trans rfl; have hfz31_0 := blk_frozen BK200.out 0; have hfz31_1 := blk_frozen BK200.out 1; have hfz31_2 := blk_frozen BK200.out 2; have hfz31_3 := blk_frozen BK200.out 3; have hfz31_4 := blk_frozen BK200.out 4; have hfz31_5 := blk_frozen BK200.out 5; have hfz31_6 := blk_frozen BK200.out 6; have hcz32_0 : w30.cell? ⟨gb199, 0, none⟩ = some (.int .i64 0) := (blk_cell BK199.out 0).trans rfl; have hcz32_1 : w30.cell? ⟨gb199, 1, none⟩ = some (.string (⟨#[]⟩ : ByteArray)) := (blk_cell BK199.out 1).trans rfl; have hcz32_2 : w30.cell? ⟨gb199, 2, none⟩ = some (.int .i64 0) := (blk_cell BK199.out 2).trans rfl; have hcz32_3 : w30.cell? ⟨gb199, 3, none⟩ = some (.int .i64 0) := (blk_cell BK199.out 3).trans rfl; have hcz32_4 : w30.cell? ⟨gb199, 4, none⟩ = some (.string (⟨#[]⟩ : ByteArray)) := (blk_cell BK199.out 4).trans rfl; have hcz32_5 : w30.cell? ⟨gb199, 5, none⟩ = some (.int .i64 0) := (blk_cell BK199.out 5).trans rfl; have hcz32_6 : w30.cell? ⟨gb199, 6, none⟩ = some (.int .i64 0) := (blk_cell BK199.out 6).trans rfl; have hfz32_0 := blk_frozen BK199.out 0; have hfz32_1 := blk_frozen BK199.out 1; have hfz32_2 := blk_frozen BK199.out 2; have hfz32_3 := blk_frozen BK199.out 3; have hfz32_4 := blk_frozen BK199.out 4; have hfz32_5 := blk_frozen BK199.out 5; have hfz32_6 := blk_frozen BK199.out 6))
              refine bodyPost_ret (results_ct rfl _ _ gb199 35 #[.int .i64 2, .string (a0.extract (a1 : Int).toNat (x7_1 : Int).toNat), .int .i64 0, .int .i64 0, .string (⟨#[]⟩ : ByteArray), .int .i64 a1, .int .i64 x7_1] (0, 0) _ rfl (by (repeat first | (with_reducible first | refine kn ?_ _ | refine kd ?_ | refine ka ?_ _ | apply bp) | apply blk_far (hp := NB199_200.out)); exact BK199.out; all_goals rfl) Tryd.underlying35 rfl (by kernel_rfl)) rfl ?_
              exact ⟨by first | rfl | (simp [errW_none, errW_some] <;> rfl) | (simp [*, errW_none, errW_some] <;> rfl), by repeat (first | (with_reducible first | exact HB.out | apply zb | apply zn | apply zd | refine zs ?_ GE199.out | refine zs ?_ GE200.out) | exact HB.out)⟩
             ·replace c24 := Bool.eq_false_iff.mpr c24
              subst c24
              have H1 : (some (1, a0.extract (a1 : Int).toNat (x7_1 : Int).toNat, 0, 0, (⟨#[]⟩ : ByteArray), a1, x7_1, 0)) = some (r1, r2, r3, r4, r5, r6, r7, r8) := by rw [if_neg (show ¬ (false = true) by decide)] at H; exact H
              clear H
              have H := H1
              clear H1
              have c33b0 := eq_true (of_decide_eq_true (by first | (with_reducible assumption) | assumption) : 0 ≤ a1)
              have c34b0 := eq_true (of_decide_eq_true (by first | (with_reducible assumption) | assumption) : a1 ≤ x7_1)
              have c35b0 := eq_true (of_decide_eq_true (by first | (with_reducible assumption) | assumption) : x7_1 ≤ (a0.size : Int))
              simp only [Option.some.injEq, Prod.mk.injEq] at H
              obtain ⟨rfl, rfl, rfl, rfl, rfl, rfl, rfl, rfl⟩ := H
              have p14 : 0 ≤ (x7_1 : Int) := of_decide_eq_true (by first | (with_reducible assumption) | assumption)
              have q14 : x7_1 < (a0.size : Int) := of_decide_eq_true (by first | (with_reducible assumption) | assumption)
              have hx14 := bt_at a0 x7_1
              replace p14 := eq_true p14
              replace q14 := eq_true q14
              go_wp2_with (first | (go_at_call 42; (with_reducible refine (heirloomref07_letter.calls (bt a0 x7_1) false _ A15.out).mono ?_); rintro e w' ⟨rfl, ⟨nd, rfl⟩⟩; (try (rw [drewN_self wr]; generalize hq_ : World.drewN wr _ = wr; have n0_ : Aside0 (wr.heap[gb199]? = some (.cells #[.int .i64 0, .string (⟨#[]⟩ : ByteArray), .int .i64 0, .int .i64 0, .string (⟨#[]⟩ : ByteArray), .int .i64 0, .int .i64 0] 35 (0, 0))) := ⟨by rw [← hq_]; exact (by (with_reducible repeat first | refine kn ?_ _ | refine kd ?_ | refine ka ?_ _); exact BK199.out)⟩; have n1_ : Aside0 (wr.heap[gb200]? = some (.cells #[.int .i64 0, .string (⟨#[]⟩ : ByteArray), .int .i64 0, .int .i64 0, .string (⟨#[]⟩ : ByteArray), .int .i64 a1, .int .i64 0] 35 (0, 0))) := ⟨by rw [← hq_]; exact (by (with_reducible repeat first | refine kn ?_ _ | refine kd ?_ | refine ka ?_ _); exact BK200.out)⟩; have n2_ : Aside0 (Below w.heap.size w wr) := ⟨by rw [← hq_]; exact (by repeat (first | (with_reducible first | exact HB.out | apply zb | apply zn | apply zd | refine zs ?_ GE199.out | refine zs ?_ GE200.out) | exact HB.out))⟩; clear BK199 BK200 HB hq_; have BK199 := n0_; have BK200 := n1_; have HB := n2_; clear n0_ n1_ n2_)); have p17 : 0 ≤ (x7_1 : Int) := of_decide_eq_true (by first | (with_reducible assumption) | assumption); have q17 : x7_1 < (a0.size : Int) := of_decide_eq_true (by first | (with_reducible assumption) | assumption); have hx17 := bt_at a0 x7_1; replace p17 := eq_true p17; replace q17 := eq_true q17) | (go_at_call 43; (with_reducible refine (heirloomref07_digit.calls (bt a0 x7_1) false _ A18.out).mono ?_); rintro e w' ⟨rfl, ⟨nd, rfl⟩⟩; (try (rw [drewN_self wr]; generalize hq_ : World.drewN wr _ = wr; have n0_ : Aside0 (wr.heap[gb199]? = some (.cells #[.int .i64 0, .string (⟨#[]⟩ : ByteArray), .int .i64 0, .int .i64 0, .string (⟨#[]⟩ : ByteArray), .int .i64 0, .int .i64 0] 35 (0, 0))) := ⟨by rw [← hq_]; exact (by (with_reducible repeat first | refine kn ?_ _ | refine kd ?_ | refine ka ?_ _); exact BK199.out)⟩; have n1_ : Aside0 (wr.heap[gb200]? = some (.cells #[.int .i64 0, .string (⟨#[]⟩ : ByteArray), .int .i64 0, .int .i64 0, .string (⟨#[]⟩ : ByteArray), .int .i64 a1, .int .i64 0] 35 (0, 0))) := ⟨by rw [← hq_]; exact (by (with_reducible repeat first | refine kn ?_ _ | refine kd ?_ | refine ka ?_ _); exact BK200.out)⟩; have n2_ : Aside0 (Below w.heap.size w wr) := ⟨by rw [← hq_]; exact (by repeat (first | (with_reducible first | exact HB.out | apply zb | apply zn | apply zd | refine zs ?_ GE199.out | refine zs ?_ GE200.out) | exact HB.out))⟩; clear BK199 BK200 HB hq_; have BK199 := n0_; have BK200 := n1_; have HB := n2_; clear n0_ n1_ n2_)); have hnb36 := NB200_199.out; have hnc36 := NB199_200.out; have hcz37_0 : wr.cell? ⟨gb200, 0, none⟩ = some (.int .i64 0) := (blk_cell BK200.out 0).trans rfl; have hcz37_1 : wr.cell? ⟨gb200, 1, none⟩ = some (.string (⟨#[]⟩ : ByteArray)) := (blk_cell BK200.out 1).trans rfl; have hcz37_2 : wr.cell? ⟨gb200, 2, none⟩ = some (.int .i64 0) := (blk_cell BK200.out 2).trans rfl; have hcz37_3 : wr.cell? ⟨gb200, 3, none⟩ = some (.int .i64 0) := (blk_cell BK200.out 3).trans rfl; have hcz37_4 : wr.cell? ⟨gb200, 4, none⟩ = some (.string (⟨#[]⟩ : ByteArray)) := (blk_cell BK200.out 4).trans rfl; have hcz37_5 : wr.cell? ⟨gb200, 5, none⟩ = some (.int .i64 a1) := (blk_cell BK200.out 5).trans rfl; have hcz37_6 : wr.cell? ⟨gb200, 6, none⟩ = some (.int .i64 0) := (blk_cell BK200.out 6).trans rfl; have hfz37_0 := blk_frozen BK200.out 0; have hfz37_1 := blk_frozen BK200.out 1; have hfz37_2 := blk_frozen BK200.out 2; have hfz37_3 := blk_frozen BK200.out 3; have hfz37_4 := blk_frozen BK200.out 4; have hfz37_5 := blk_frozen BK200.out 5; have hfz37_6 := blk_frozen BK200.out 6) | ((with_reducible refine gate_callee (f := 18) rfl ?_); refine goesL_ (some 45) rfl rfl Tryd.func18 (by kernel_rfl) rfl #[.string (a0.extract (a1 : Int).toNat (x7_1 : Int).toNat)] rfl (by (try simp only [List.map_toArray, List.map_cons, List.map_nil]); first | done | rfl | (simp only [List.length_drop, List.length_take]; rfl)) ?_; (with_reducible refine (heirloomref07_Word.calls k1 (a0.extract (a1 : Int).toNat (x7_1 : Int).toNat) false _ A23.out).mono ?_); rintro e w38 ⟨rfl, hb⟩; refine ⟨_, rfl, ?_⟩; have n0_ := Aside0.mk (blk_below (g := gb199) (o := .cells #[.int .i64 0, .string (⟨#[]⟩ : ByteArray), .int .i64 0, .int .i64 0, .string (⟨#[]⟩ : ByteArray), .int .i64 0, .int .i64 0] 35 (0, 0)) (by (repeat first | (with_reducible first | refine kn ?_ _ | refine kd ?_ | refine ka ?_ _ | apply bp) | apply blk_far (hp := NB199_200.out)); exact BK199.out; all_goals rfl) hb); have n1_ := Aside0.mk (blk_below (g := gb200) (o := .cells #[.int .i64 1, .string (⟨#[]⟩ : ByteArray), .int .i64 0, .int .i64 0, .string (⟨#[]⟩ : ByteArray), .int .i64 a1, .int .i64 0] 35 (0, 0)) (by (with_reducible repeat first | refine kn ?_ _ | refine kd ?_ | refine ka ?_ _ | apply bp); exact BK200.out; all_goals rfl) hb); have n2_ := Aside0.mk (below_step (by repeat (first | (with_reducible first | exact HB.out | apply zb | apply zn | apply zd | refine zs ?_ GE199.out | refine zs ?_ GE200.out) | exact HB.out)) hb); clear BK199; clear BK200; clear HB; have BK199 := n0_; have BK200 := n1_; have HB := n2_; clear n0_ n1_ n2_; (try clear hb); have hcz39_0 : w38.cell? ⟨gb200, 0, none⟩ = some (.int .i64 1) := (blk_cell BK200.out 0).trans rfl; have hcz39_1 : w38.cell? ⟨gb200, 1, none⟩ = some (.string (⟨#[]⟩ : ByteArray)) := (blk_cell BK200.out 1).trans rfl; have hcz39_2 : w38.cell? ⟨gb200, 2, none⟩ = some (.int .i64 0) := (blk_cell BK200.out 2).trans rfl; have hcz39_3 : w38.cell? ⟨gb200, 3, none⟩ = some (.int .i64 0) := (blk_cell BK200.out 3).trans rfl; have hcz39_4 : w38.cell? ⟨gb200, 4, none⟩ = some (.string (⟨#[]⟩ : ByteArray)) := (blk_cell BK200.out 4).trans rfl; have hcz39_5 : w38.cell? ⟨gb200, 5, none⟩ = some (.int .i64 a1) := (blk_cell BK200.out 5).trans rfl; have hcz39_6 : w38.cell? ⟨gb200, 6, none⟩ = some (.int .i64 0) := (blk_cell BK200.out 6).trans rfl; have hfz39_0 := blk_frozen BK200.out 0; have hfz39_1 := blk_frozen BK200.out 1; have hfz39_2 := blk_frozen BK200.out 2; have hfz39_3 := blk_frozen BK200.out 3; have hfz39_4 := blk_frozen BK200.out 4; have hfz39_5 := blk_frozen BK200.out 5; have hfz39_6 := blk_frozen BK200.out 6; have hcz40_0 : w38.cell? ⟨gb199, 0, none⟩ = some (.int .i64 0) := (blk_cell BK199.out 0).trans rfl; have hcz40_1 : w38.cell? ⟨gb199, 1, none⟩ = some (.string (⟨#[]⟩ : ByteArray)) := (blk_cell BK199.out 1).trans rfl; have hcz40_2 : w38.cell? ⟨gb199, 2, none⟩ = some (.int .i64 0) := (blk_cell BK199.out 2).trans rfl; have hcz40_3 : w38.cell? ⟨gb199, 3, none⟩ = some (.int .i64 0) := (blk_cell BK199.out 3).trans rfl; have hcz40_4 : w38.cell? ⟨gb199, 4, none⟩ = some (.string (⟨#[]⟩ : ByteArray)) := (blk_cell BK199.out 4).trans rfl; have hcz40_5 : w38.cell? ⟨gb199, 5, none⟩ = some (.int .i64 0) := (blk_cell BK199.out 5).trans rfl; have hcz40_6 : w38.cell? ⟨gb199, 6, none⟩ = some (.int .i64 0) := (blk_cell BK199.out 6).trans rfl; have hfz40_0 := blk_frozen BK199.out 0; have hfz40_1 := blk_frozen BK199.out 1; have hfz40_2 := blk_frozen BK199.out 2; have hfz40_3 := blk_frozen BK199.out 3; have hfz40_4 := blk_frozen BK199.out 4; have hfz40_5 := blk_frozen BK199.out 5; have hfz40_6 := blk_frozen BK199.out 6))
              refine bodyPost_ret (results_ct rfl _ _ gb199 35 #[.int .i64 1, .string (a0.extract (a1 : Int).toNat (x7_1 : Int).toNat), .int .i64 0, .int .i64 0, .string (⟨#[]⟩ : ByteArray), .int .i64 a1, .int .i64 x7_1] (0, 0) _ rfl (by (repeat first | (with_reducible first | refine kn ?_ _ | refine kd ?_ | refine ka ?_ _ | apply bp) | apply blk_far (hp := NB199_200.out)); exact BK199.out; all_goals rfl) Tryd.underlying35 rfl (by kernel_rfl)) rfl ?_
              exact ⟨by first | rfl | (simp [errW_none, errW_some] <;> rfl) | (simp [*, errW_none, errW_some] <;> rfl), by repeat (first | (with_reducible first | exact HB.out | apply zb | apply zn | apply zd | refine zs ?_ GE199.out | refine zs ?_ GE200.out) | exact HB.out)⟩
            ·rw [if_neg c22] at H
             exact absurd H (by simp)
           ·rw [if_neg c21] at H
            exact absurd H (by simp)
          ·rw [if_neg c20] at H
           exact absurd H (by simp)
       ·rw [if_neg c13] at H
        exact absurd H (by simp)
      ·rw [if_neg c12] at H
       have c12b0 : decide (x7_1 < (a0.size : Int)) = false := decide_eq_false c12
       clear c12
       by_cases c41 : 0 ≤ a1
       ·rw [if_pos c41] at H
        have c41b0 := eq_true c41
        have c41b1 : decide (0 ≤ a1) = true := decide_eq_true c41
        clear c41
        by_cases c42 : a1 ≤ x7_1
        ·rw [if_pos c42] at H
         have c42b0 := eq_true c42
         have c42b1 : decide (a1 ≤ x7_1) = true := decide_eq_true c42
         clear c42
         by_cases c43 : x7_1 ≤ (a0.size : Int)
         ·rw [if_pos c43] at H
          have c43b0 := eq_true c43
          have c43b1 : decide (x7_1 ≤ (a0.size : Int)) = true := decide_eq_true c43
          clear c43
          replace H := Option.bind_eq_some_iff.mp H
          obtain ⟨t205, A440, H⟩ := H
          replace H : (if t205 = true then (some (2, a0.extract (a1 : Int).toNat (x7_1 : Int).toNat, 0, 0, (⟨#[]⟩ : ByteArray), a1, x7_1, 0)) else (some (1, a0.extract (a1 : Int).toNat (x7_1 : Int).toNat, 0, 0, (⟨#[]⟩ : ByteArray), a1, x7_1, 0))) = some (r1, r2, r3, r4, r5, r6, r7, r8) := H
          have A44 := Aside0.mk A440
          clear A440
          by_cases c45 : t205 = true
          ·subst c45
           have H1 : (some (2, a0.extract (a1 : Int).toNat (x7_1 : Int).toNat, 0, 0, (⟨#[]⟩ : ByteArray), a1, x7_1, 0)) = some (r1, r2, r3, r4, r5, r6, r7, r8) := by rw [if_pos rfl] at H; exact H
           clear H
           have H := H1
           clear H1
           have c46b0 := eq_true (of_decide_eq_true (by first | (with_reducible assumption) | assumption) : 0 ≤ a1)
           have c47b0 := eq_true (of_decide_eq_true (by first | (with_reducible assumption) | assumption) : a1 ≤ x7_1)
           have c48b0 := eq_true (of_decide_eq_true (by first | (with_reducible assumption) | assumption) : x7_1 ≤ (a0.size : Int))
           simp only [Option.some.injEq, Prod.mk.injEq] at H
           obtain ⟨rfl, rfl, rfl, rfl, rfl, rfl, rfl, rfl⟩ := H
           have hnb49 := NB200_199.out
           have hnc49 := NB199_200.out
           have hcz50_0 : wr.cell? ⟨gb200, 0, none⟩ = some (.int .i64 0) := (blk_cell BK200.out 0).trans rfl
           have hcz50_1 : wr.cell? ⟨gb200, 1, none⟩ = some (.string (⟨#[]⟩ : ByteArray)) := (blk_cell BK200.out 1).trans rfl
           have hcz50_2 : wr.cell? ⟨gb200, 2, none⟩ = some (.int .i64 0) := (blk_cell BK200.out 2).trans rfl
           have hcz50_3 : wr.cell? ⟨gb200, 3, none⟩ = some (.int .i64 0) := (blk_cell BK200.out 3).trans rfl
           have hcz50_4 : wr.cell? ⟨gb200, 4, none⟩ = some (.string (⟨#[]⟩ : ByteArray)) := (blk_cell BK200.out 4).trans rfl
           have hcz50_5 : wr.cell? ⟨gb200, 5, none⟩ = some (.int .i64 a1) := (blk_cell BK200.out 5).trans rfl
           have hcz50_6 : wr.cell? ⟨gb200, 6, none⟩ = some (.int .i64 0) := (blk_cell BK200.out 6).trans rfl
           have hfz50_0 := blk_frozen BK200.out 0
           have hfz50_1 := blk_frozen BK200.out 1
           have hfz50_2 := blk_frozen BK200.out 2
           have hfz50_3 := blk_frozen BK200.out 3
           have hfz50_4 := blk_frozen BK200.out 4
           have hfz50_5 := blk_frozen BK200.out 5
           have hfz50_6 := blk_frozen BK200.out 6
           go_wp2_with (first | ((with_reducible refine gate_callee (f := 18) rfl ?_); refine goesL_ (some 45) rfl rfl Tryd.func18 (by kernel_rfl) rfl #[.string (a0.extract (a1 : Int).toNat (x7_1 : Int).toNat)] rfl (by (try simp only [List.map_toArray, List.map_cons, List.map_nil]); first | done | rfl | (simp only [List.length_drop, List.length_take]; rfl)) ?_; (with_reducible refine (heirloomref07_Word.calls k1 (a0.extract (a1 : Int).toNat (x7_1 : Int).toNat) true _ A44.out).mono ?_); rintro e w51 ⟨rfl, hb⟩; refine ⟨_, rfl, ?_⟩; have n0_ := Aside0.mk (blk_below (g := gb199) (o := .cells #[.int .i64 0, .string (⟨#[]⟩ : ByteArray), .int .i64 0, .int .i64 0, .string (⟨#[]⟩ : ByteArray), .int .i64 0, .int .i64 0] 35 (0, 0)) (by (repeat first | (with_reducible first | refine kn ?_ _ | refine kd ?_ | refine ka ?_ _ | apply bp) | apply blk_far (hp := NB199_200.out)); exact BK199.out; all_goals rfl) hb); have n1_ := Aside0.mk (blk_below (g := gb200) (o := .cells #[.int .i64 1, .string (⟨#[]⟩ : ByteArray), .int .i64 0, .int .i64 0, .string (⟨#[]⟩ : ByteArray), .int .i64 a1, .int .i64 0] 35 (0, 0)) (by (with_reducible repeat first | refine kn ?_ _ | refine kd ?_ | refine ka ?_ _ | apply bp); exact BK200.out; all_goals rfl) hb); have n2_ := Aside0.mk (below_step (by repeat (first | (with_reducible first | exact HB.out | apply zb | apply zn | apply zd | refine zs ?_ GE199.out | refine zs ?_ GE200.out) | exact HB.out)) hb); clear BK199; clear BK200; clear HB; have BK199 := n0_; have BK200 := n1_; have HB := n2_; clear n0_ n1_ n2_; (try clear hb); have hcz52_0 : w51.cell? ⟨gb200, 0, none⟩ = some (.int .i64 1) := (blk_cell BK200.out 0).trans rfl; have hcz52_1 : w51.cell? ⟨gb200, 1, none⟩ = some (.string (⟨#[]⟩ : ByteArray)) := (blk_cell BK200.out 1).trans rfl; have hcz52_2 : w51.cell? ⟨gb200, 2, none⟩ = some (.int .i64 0) := (blk_cell BK200.out 2).trans rfl; have hcz52_3 : w51.cell? ⟨gb200, 3, none⟩ = some (.int .i64 0) := (blk_cell BK200.out 3).trans rfl; have hcz52_4 : w51.cell? ⟨gb200, 4, none⟩ = some (.string (⟨#[]⟩ : ByteArray)) := (blk_cell BK200.out 4).trans rfl; have hcz52_5 : w51.cell? ⟨gb200, 5, none⟩ = some (.int .i64 a1) := (blk_cell BK200.out 5).trans rfl; have hcz52_6 : w51.cell? ⟨gb200, 6, none⟩ = some (.int .i64 0) := (blk_cell BK200.out 6).trans rfl; have hfz52_0 := blk_frozen BK200.out 0; have hfz52_1 := blk_frozen BK200.out 1; have hfz52_2 := blk_frozen BK200.out 2; have hfz52_3 := blk_frozen BK200.out 3; have hfz52_4 := blk_frozen BK200.out 4; have hfz52_5 := blk_frozen BK200.out 5; have hfz52_6 := blk_frozen BK200.out 6; have hcz53_0 : w51.cell? ⟨gb199, 0, none⟩ = some (.int .i64 0) := (blk_cell BK199.out 0).trans rfl; have hcz53_1 : w51.cell? ⟨gb199, 1, none⟩ = some (.string (⟨#[]⟩ : ByteArray)) := (blk_cell BK199.out 1).trans rfl; have hcz53_2 : w51.cell? ⟨gb199, 2, none⟩ = some (.int .i64 0) := (blk_cell BK199.out 2).trans rfl; have hcz53_3 : w51.cell? ⟨gb199, 3, none⟩ = some (.int .i64 0) := (blk_cell BK199.out 3).trans rfl; have hcz53_4 : w51.cell? ⟨gb199, 4, none⟩ = some (.string (⟨#[]⟩ : ByteArray)) := (blk_cell BK199.out 4).trans rfl; have hcz53_5 : w51.cell? ⟨gb199, 5, none⟩ = some (.int .i64 0) := (blk_cell BK199.out 5).trans rfl; have hcz53_6 : w51.cell? ⟨gb199, 6, none⟩ = some (.int .i64 0) := (blk_cell BK199.out 6).trans rfl; have hfz53_0 := blk_frozen BK199.out 0; have hfz53_1 := blk_frozen BK199.out 1; have hfz53_2 := blk_frozen BK199.out 2; have hfz53_3 := blk_frozen BK199.out 3; have hfz53_4 := blk_frozen BK199.out 4; have hfz53_5 := blk_frozen BK199.out 5; have hfz53_6 := blk_frozen BK199.out 6))
           refine bodyPost_ret (results_ct rfl _ _ gb199 35 #[.int .i64 2, .string (a0.extract (a1 : Int).toNat (x7_1 : Int).toNat), .int .i64 0, .int .i64 0, .string (⟨#[]⟩ : ByteArray), .int .i64 a1, .int .i64 x7_1] (0, 0) _ rfl (by (repeat first | (with_reducible first | refine kn ?_ _ | refine kd ?_ | refine ka ?_ _ | apply bp) | apply blk_far (hp := NB199_200.out)); exact BK199.out; all_goals rfl) Tryd.underlying35 rfl (by kernel_rfl)) rfl ?_
           exact ⟨by first | rfl | (simp [errW_none, errW_some] <;> rfl) | (simp [*, errW_none, errW_some] <;> rfl), by repeat (first | (with_reducible first | exact HB.out | apply zb | apply zn | apply zd | refine zs ?_ GE199.out | refine zs ?_ GE200.out) | exact HB.out)⟩
          ·replace c45 := Bool.eq_false_iff.mpr c45
           subst c45
           have H1 : (some (1, a0.extract (a1 : Int).toNat (x7_1 : Int).toNat, 0, 0, (⟨#[]⟩ : ByteArray), a1, x7_1, 0)) = some (r1, r2, r3, r4, r5, r6, r7, r8) := by rw [if_neg (show ¬ (false = true) by decide)] at H; exact H
           clear H
           have H := H1
           clear H1
           have c54b0 := eq_true (of_decide_eq_true (by first | (with_reducible assumption) | assumption) : 0 ≤ a1)
           have c55b0 := eq_true (of_decide_eq_true (by first | (with_reducible assumption) | assumption) : a1 ≤ x7_1)
           have c56b0 := eq_true (of_decide_eq_true (by first | (with_reducible assumption) | assumption) : x7_1 ≤ (a0.size : Int))
           simp only [Option.some.injEq, Prod.mk.injEq] at H
           obtain ⟨rfl, rfl, rfl, rfl, rfl, rfl, rfl, rfl⟩ := H
           have hnb57 := NB200_199.out
           have hnc57 := NB199_200.out
           have hcz58_0 : wr.cell? ⟨gb200, 0, none⟩ = some (.int .i64 0) := (blk_cell BK200.out 0).trans rfl
           have hcz58_1 : wr.cell? ⟨gb200, 1, none⟩ = some (.string (⟨#[]⟩ : ByteArray)) := (blk_cell BK200.out 1).trans rfl
           have hcz58_2 : wr.cell? ⟨gb200, 2, none⟩ = some (.int .i64 0) := (blk_cell BK200.out 2).trans rfl
           have hcz58_3 : wr.cell? ⟨gb200, 3, none⟩ = some (.int .i64 0) := (blk_cell BK200.out 3).trans rfl
           have hcz58_4 : wr.cell? ⟨gb200, 4, none⟩ = some (.string (⟨#[]⟩ : ByteArray)) := (blk_cell BK200.out 4).trans rfl
           have hcz58_5 : wr.cell? ⟨gb200, 5, none⟩ = some (.int .i64 a1) := (blk_cell BK200.out 5).trans rfl
           have hcz58_6 : wr.cell? ⟨gb200, 6, none⟩ = some (.int .i64 0) := (blk_cell BK200.out 6).trans rfl
           have hfz58_0 := blk_frozen BK200.out 0
           have hfz58_1 := blk_frozen BK200.out 1
           have hfz58_2 := blk_frozen BK200.out 2
           have hfz58_3 := blk_frozen BK200.out 3
           have hfz58_4 := blk_frozen BK200.out 4
           have hfz58_5 := blk_frozen BK200.out 5
           have hfz58_6 := blk_frozen BK200.out 6
           go_wp2_with (first | ((with_reducible refine gate_callee (f := 18) rfl ?_); refine goesL_ (some 45) rfl rfl Tryd.func18 (by kernel_rfl) rfl #[.string (a0.extract (a1 : Int).toNat (x7_1 : Int).toNat)] rfl (by (try simp only [List.map_toArray, List.map_cons, List.map_nil]); first | done | rfl | (simp only [List.length_drop, List.length_take]; rfl)) ?_; (with_reducible refine (heirloomref07_Word.calls k1 (a0.extract (a1 : Int).toNat (x7_1 : Int).toNat) false _ A44.out).mono ?_); rintro e w59 ⟨rfl, hb⟩; refine ⟨_, rfl, ?_⟩; have n0_ := Aside0.mk (blk_below (g := gb199) (o := .cells #[.int .i64 0, .string (⟨#[]⟩ : ByteArray), .int .i64 0, .int .i64 0, .string (⟨#[]⟩ : ByteArray), .int .i64 0, .int .i64 0] 35 (0, 0)) (by (repeat first | (with_reducible first | refine kn ?_ _ | refine kd ?_ | refine ka ?_ _ | apply bp) | apply blk_far (hp := NB199_200.out)); exact BK199.out; all_goals rfl) hb); have n1_ := Aside0.mk (blk_below (g := gb200) (o := .cells #[.int .i64 1, .string (⟨#[]⟩ : ByteArray), .int .i64 0, .int .i64 0, .string (⟨#[]⟩ : ByteArray), .int .i64 a1, .int .i64 0] 35 (0, 0)) (by (with_reducible repeat first | refine kn ?_ _ | refine kd ?_ | refine ka ?_ _ | apply bp); exact BK200.out; all_goals rfl) hb); have n2_ := Aside0.mk (below_step (by repeat (first | (with_reducible first | exact HB.out | apply zb | apply zn | apply zd | refine zs ?_ GE199.out | refine zs ?_ GE200.out) | exact HB.out)) hb); clear BK199; clear BK200; clear HB; have BK199 := n0_; have BK200 := n1_; have HB := n2_; clear n0_ n1_ n2_; (try clear hb); have hcz60_0 : w59.cell? ⟨gb200, 0, none⟩ = some (.int .i64 1) := (blk_cell BK200.out 0).trans rfl; have hcz60_1 : w59.cell? ⟨gb200, 1, none⟩ = some (.string (⟨#[]⟩ : ByteArray)) := (blk_cell BK200.out 1).trans rfl; have hcz60_2 : w59.cell? ⟨gb200, 2, none⟩ = some (.int .i64 0) := (blk_cell BK200.out 2).trans rfl; have hcz60_3 : w59.cell? ⟨gb200, 3, none⟩ = some (.int .i64 0) := (blk_cell BK200.out 3).trans rfl; have hcz60_4 : w59.cell? ⟨gb200, 4, none⟩ = some (.string (⟨#[]⟩ : ByteArray)) := (blk_cell BK200.out 4).trans rfl; have hcz60_5 : w59.cell? ⟨gb200, 5, none⟩ = some (.int .i64 a1) := (blk_cell BK200.out 5).trans rfl; have hcz60_6 : w59.cell? ⟨gb200, 6, none⟩ = some (.int .i64 0) := (blk_cell BK200.out 6).trans rfl; have hfz60_0 := blk_frozen BK200.out 0; have hfz60_1 := blk_frozen BK200.out 1; have hfz60_2 := blk_frozen BK200.out 2; have hfz60_3 := blk_frozen BK200.out 3; have hfz60_4 := blk_frozen BK200.out 4; have hfz60_5 := blk_frozen BK200.out 5; have hfz60_6 := blk_frozen BK200.out 6; have hcz61_0 : w59.cell? ⟨gb199, 0, none⟩ = some (.int .i64 0) := (blk_cell BK199.out 0).trans rfl; have hcz61_1 : w59.cell? ⟨gb199, 1, none⟩ = some (.string (⟨#[]⟩ : ByteArray)) := (blk_cell BK199.out 1).trans rfl; have hcz61_2 : w59.cell? ⟨gb199, 2, none⟩ = some (.int .i64 0) := (blk_cell BK199.out 2).trans rfl; have hcz61_3 : w59.cell? ⟨gb199, 3, none⟩ = some (.int .i64 0) := (blk_cell BK199.out 3).trans rfl; have hcz61_4 : w59.cell? ⟨gb199, 4, none⟩ = some (.string (⟨#[]⟩ : ByteArray)) := (blk_cell BK199.out 4).trans rfl; have hcz61_5 : w59.cell? ⟨gb199, 5, none⟩ = some (.int .i64 0) := (blk_cell BK199.out 5).trans rfl; have hcz61_6 : w59.cell? ⟨gb199, 6, none⟩ = some (.int .i64 0) := (blk_cell BK199.out 6).trans rfl; have hfz61_0 := blk_frozen BK199.out 0; have hfz61_1 := blk_frozen BK199.out 1; have hfz61_2 := blk_frozen BK199.out 2; have hfz61_3 := blk_frozen BK199.out 3; have hfz61_4 := blk_frozen BK199.out 4; have hfz61_5 := blk_frozen BK199.out 5; have hfz61_6 := blk_frozen BK199.out 6))
           refine bodyPost_ret (results_ct rfl _ _ gb199 35 #[.int .i64 1, .string (a0.extract (a1 : Int).toNat (x7_1 : Int).toNat), .int .i64 0, .int .i64 0, .string (⟨#[]⟩ : ByteArray), .int .i64 a1, .int .i64 x7_1] (0, 0) _ rfl (by (repeat first | (with_reducible first | refine kn ?_ _ | refine kd ?_ | refine ka ?_ _ | apply bp) | apply blk_far (hp := NB199_200.out)); exact BK199.out; all_goals rfl) Tryd.underlying35 rfl (by kernel_rfl)) rfl ?_
           exact ⟨by first | rfl | (simp [errW_none, errW_some] <;> rfl) | (simp [*, errW_none, errW_some] <;> rfl), by repeat (first | (with_reducible first | exact HB.out | apply zb | apply zn | apply zd | refine zs ?_ GE199.out | refine zs ?_ GE200.out) | exact HB.out)⟩
         ·rw [if_neg c43] at H
          exact absurd H (by simp)
        ·rw [if_neg c42] at H
         exact absurd H (by simp)
       ·rw [if_neg c41] at H
        exact absurd H (by simp)
   ·replace c7 := Bool.eq_false_iff.mpr c7
    subst c7
    have H1 : ((heirloomref07_digit.f (bt a0 a1)).bind fun t206 => (if t206 = true then (heirloomref07_one.l1 k a0 a1 a1 0 (⟨#[]⟩ : ByteArray) 0 0 (⟨#[]⟩ : ByteArray) a1 0) else (if (bt a0 a1) = 34 then (heirloomref07_one.l2 k a0 a1 (wrap64 (a1 + 1)) 0 (⟨#[]⟩ : ByteArray) 0 0 (⟨#[]⟩ : ByteArray) a1 0) else ((heirloomref07_signAt.f k a0 a1).bind fun t228 => (if t228 = 0 then (some (0, (⟨#[]⟩ : ByteArray), 0, 0, (⟨#[]⟩ : ByteArray), a1, 0, 15)) else (if a1 ≤ (wrap64 (a1 + t228)) then (if (wrap64 (a1 + t228)) ≤ (a0.size : Int) then (some (5, a0.extract (a1 : Int).toNat ((wrap64 (a1 + t228)) : Int).toNat, 0, 0, (⟨#[]⟩ : ByteArray), a1, wrap64 (a1 + t228), 0)) else (none)) else (none))))))) = some (r1, r2, r3, r4, r5, r6, r7, r8) := by rw [if_neg (show ¬ (false = true) by decide)] at H; exact H
    clear H
    have H := H1
    clear H1
    replace H := Option.bind_eq_some_iff.mp H
    obtain ⟨t206, A620, H⟩ := H
    replace H : (if t206 = true then (heirloomref07_one.l1 k a0 a1 a1 0 (⟨#[]⟩ : ByteArray) 0 0 (⟨#[]⟩ : ByteArray) a1 0) else (if (bt a0 a1) = 34 then (heirloomref07_one.l2 k a0 a1 (wrap64 (a1 + 1)) 0 (⟨#[]⟩ : ByteArray) 0 0 (⟨#[]⟩ : ByteArray) a1 0) else ((heirloomref07_signAt.f k a0 a1).bind fun t228 => (if t228 = 0 then (some (0, (⟨#[]⟩ : ByteArray), 0, 0, (⟨#[]⟩ : ByteArray), a1, 0, 15)) else (if a1 ≤ (wrap64 (a1 + t228)) then (if (wrap64 (a1 + t228)) ≤ (a0.size : Int) then (some (5, a0.extract (a1 : Int).toNat ((wrap64 (a1 + t228)) : Int).toNat, 0, 0, (⟨#[]⟩ : ByteArray), a1, wrap64 (a1 + t228), 0)) else (none)) else (none)))))) = some (r1, r2, r3, r4, r5, r6, r7, r8) := H
    have A62 := Aside0.mk A620
    clear A620
    by_cases c63 : t206 = true
    ·subst c63
     have H1 : (heirloomref07_one.l1 k a0 a1 a1 0 (⟨#[]⟩ : ByteArray) 0 0 (⟨#[]⟩ : ByteArray) a1 0) = some (r1, r2, r3, r4, r5, r6, r7, r8) := by rw [if_pos rfl] at H; exact H
     clear H
     have H := H1
     clear H1
     have H' := Aside0.mk H
     clear H
     go_enter Tryd.func22, Tryd.ntmps22
     go_wp2_with (first | ((with_reducible refine gate_dst (N := 4) rfl ?_); (try (refine gate_guard (by rfl) ?_; dsimp only)); refine box_event ?hg (N := 4) ?hd (cs := #[.int .i64 0, .string (⟨#[]⟩ : ByteArray), .int .i64 0, .int .i64 0, .string (⟨#[]⟩ : ByteArray), .int .i64 0, .int .i64 0]) (t := 35) ?hr ?_; (case hd => rfl); (case hg => rfl); (case hr => go_simp <;> rfl); intro gb199 hg w64 hbox hb; have n0_ := Aside0.mk (below_step (by repeat (first | (with_reducible first | exact HB.out | apply zb | apply zn | apply zd) | exact HB.out)) hb); have n1_ := Aside0.mk (hbox); have n2_ := Aside0.mk ((by rw [hg]; exact (below_size (by repeat (first | (with_reducible first | exact HB.out | apply zb | apply zn | apply zd) | exact HB.out))) : w.heap.size ≤ gb199)); have n3_ := n2_; clear HB; have HB := n0_; have BK199 := n1_; have GW199 := n2_; have GE199 := n3_; clear n0_ n1_ n2_ n3_; clear hb hbox hg) | ((with_reducible refine gate_dst (N := 6) rfl ?_); (try (refine gate_guard (by rfl) ?_; dsimp only)); refine box_event ?hg (N := 6) ?hd (cs := #[.int .i64 0, .string (⟨#[]⟩ : ByteArray), .int .i64 0, .int .i64 0, .string (⟨#[]⟩ : ByteArray), .int .i64 0, .int .i64 0]) (t := 35) ?hr ?_; (case hd => rfl); (case hg => rfl); (case hr => go_simp <;> rfl); intro gb200 hg w65 hbox hb; have n0_ := Aside0.mk (blk_below (g := gb199) (o := .cells #[.int .i64 0, .string (⟨#[]⟩ : ByteArray), .int .i64 0, .int .i64 0, .string (⟨#[]⟩ : ByteArray), .int .i64 0, .int .i64 0] 35 (0, 0)) (by (with_reducible repeat first | refine kn ?_ _ | refine kd ?_ | refine ka ?_ _); exact BK199.out) hb); have n1_ := Aside0.mk (below_step (by repeat (first | (with_reducible first | exact HB.out | apply zb | apply zn | apply zd | refine zs ?_ GE199.out) | exact HB.out)) hb); have n2_ := Aside0.mk (hbox); have n3_ := Aside0.mk ((by rw [hg]; exact (below_size (by repeat (first | (with_reducible first | exact HB.out | apply zb | apply zn | apply zd | refine zs ?_ GE199.out) | exact HB.out))) : w.heap.size ≤ gb200)); have n4_ := Aside0.mk ((by rw [hg]; exact (below_size (by repeat (first | (with_reducible first | exact HB.out | apply zb | apply zn | apply zd | refine zs ?_ GE199.out) | exact HB.out))) : w.heap.size ≤ gb200)); have n5_ := Aside0.mk ((by rw [hg]; exact Nat.ne_of_lt (blk_lt (g := gb199) (o := .cells #[.int .i64 0, .string (⟨#[]⟩ : ByteArray), .int .i64 0, .int .i64 0, .string (⟨#[]⟩ : ByteArray), .int .i64 0, .int .i64 0] 35 (0, 0)) (by (with_reducible repeat first | refine kn ?_ _ | refine kd ?_ | refine ka ?_ _); exact BK199.out)) : gb199 ≠ gb200)); have n6_ := Aside0.mk ((by rw [hg]; exact Nat.ne_of_gt (blk_lt (g := gb199) (o := .cells #[.int .i64 0, .string (⟨#[]⟩ : ByteArray), .int .i64 0, .int .i64 0, .string (⟨#[]⟩ : ByteArray), .int .i64 0, .int .i64 0] 35 (0, 0)) (by (with_reducible repeat first | refine kn ?_ _ | refine kd ?_ | refine ka ?_ _); exact BK199.out)) : gb200 ≠ gb199)); clear BK199; clear HB; have BK199 := n0_; have HB := n1_; have BK200 := n2_; have GW200 := n3_; have GE200 := n4_; have NB199_200 := n5_; have NB200_199 := n6_; clear n0_ n1_ n2_ n3_ n4_ n5_ n6_; clear hb hbox hg; have hnb66 := NB200_199.out; have hnc66 := NB199_200.out; have hcz67_0 : w65.cell? ⟨gb200, 0, none⟩ = some (.int .i64 0) := (blk_cell BK200.out 0).trans rfl; have hcz67_1 : w65.cell? ⟨gb200, 1, none⟩ = some (.string (⟨#[]⟩ : ByteArray)) := (blk_cell BK200.out 1).trans rfl; have hcz67_2 : w65.cell? ⟨gb200, 2, none⟩ = some (.int .i64 0) := (blk_cell BK200.out 2).trans rfl; have hcz67_3 : w65.cell? ⟨gb200, 3, none⟩ = some (.int .i64 0) := (blk_cell BK200.out 3).trans rfl; have hcz67_4 : w65.cell? ⟨gb200, 4, none⟩ = some (.string (⟨#[]⟩ : ByteArray)) := (blk_cell BK200.out 4).trans rfl; have hcz67_5 : w65.cell? ⟨gb200, 5, none⟩ = some (.int .i64 0) := (blk_cell BK200.out 5).trans rfl; have hcz67_6 : w65.cell? ⟨gb200, 6, none⟩ = some (.int .i64 0) := (blk_cell BK200.out 6).trans rfl; have hfz67_0 := blk_frozen BK200.out 0; have hfz67_1 := blk_frozen BK200.out 1; have hfz67_2 := blk_frozen BK200.out 2; have hfz67_3 := blk_frozen BK200.out 3; have hfz67_4 := blk_frozen BK200.out 4; have hfz67_5 := blk_frozen BK200.out 5; have hfz67_6 := blk_frozen BK200.out 6; have p5 : 0 ≤ (a1 : Int) := of_decide_eq_true (by first | (with_reducible assumption) | assumption); have q5 : a1 < (a0.size : Int) := of_decide_eq_true (by first | (with_reducible assumption) | assumption); have hx5 := bt_at a0 a1; replace p5 := eq_true p5; replace q5 := eq_true q5) | ((with_reducible refine gate_callee (f := 42) rfl ?_); refine goesL_ (some 21) rfl rfl Tryd.func42 (by kernel_rfl) rfl #[.int .u8 (bt a0 a1)] rfl (by simp only [m1, m2, m3] <;> rfl) ?_; (with_reducible refine (heirloomref07_letter.calls (bt a0 a1) false _ A6.out).mono ?_); rintro e w' ⟨rfl, ⟨nd, rfl⟩⟩; refine ⟨_, rfl, ?_⟩) | ((with_reducible refine gate_callee (f := 43) rfl ?_); refine goesL_ (some 56) rfl rfl Tryd.func43 (by kernel_rfl) rfl #[.int .u8 (bt a0 a1)] rfl (by simp only [m1, m2, m3] <;> rfl) ?_; (with_reducible refine (heirloomref07_digit.calls (bt a0 a1) true _ A62.out).mono ?_); rintro e w' ⟨rfl, ⟨nd, rfl⟩⟩; refine ⟨_, rfl, ?_⟩))
     try go_frame
     go_loopg [7] k (fun kq v7 w' => ∃ (x7_1 : Int), v7 = .int .i64 x7_1 ∧ Aside0 (heirloomref07_one.l1 kq a0 a1 x7_1 0 (⟨#[]⟩ : ByteArray) 0 0 (⟨#[]⟩ : ByteArray) a1 0 = some (r1, r2, r3, r4, r5, r6, r7, r8)) ∧ Aside0 (kq ≤ k) ∧ Aside0 (w'.heap[gb199]? = some (.cells #[.int .i64 0, .string (⟨#[]⟩ : ByteArray), .int .i64 0, .int .i64 0, .string (⟨#[]⟩ : ByteArray), .int .i64 0, .int .i64 0] 35 (0, 0))) ∧ Aside0 (w'.heap[gb200]? = some (.cells #[.int .i64 0, .string (⟨#[]⟩ : ByteArray), .int .i64 0, .int .i64 0, .string (⟨#[]⟩ : ByteArray), .int .i64 a1, .int .i64 0] 35 (0, 0))) ∧ Aside0 (Below w.heap.size w w'))
     case atStart => exact ⟨(a1), (by first | rfl | (simp; done) | (simp [*]; done)), H', ⟨Nat.le_refl _⟩, ⟨by (repeat first | (with_reducible first | refine kn ?_ _ | refine kd ?_ | refine ka ?_ _ | apply bp) | apply blk_far (hp := NB199_200.out)); exact BK199.out; all_goals rfl⟩, ⟨by (with_reducible repeat first | refine kn ?_ _ | refine kd ?_ | refine ka ?_ _ | apply bp); exact BK200.out; all_goals rfl⟩, ⟨by repeat (first | (with_reducible first | exact HB.out | apply zb | apply zn | apply zd | refine zs ?_ GE199.out | refine zs ?_ GE200.out) | exact HB.out)⟩⟩
     case round =>
      clear H'
      try clear c1
      try clear p1
      try clear q1
      try clear hx1
      try clear c2
      try clear p2
      try clear c3
      try clear c3b0
      try clear c4
      try clear c4b0
      try clear c5
      try clear p5
      try clear q5
      try clear hx5
      try clear c6
      try clear p6
      try clear c7
      try clear c10
      try clear c12
      try clear c12b0
      try clear c13
      try clear c13b0
      try clear p14
      try clear q14
      try clear hx14
      try clear c16
      try clear p17
      try clear q17
      try clear hx17
      try clear c18
      try clear c19
      try clear c20
      try clear c20b0
      try clear c20b1
      try clear c21
      try clear c21b0
      try clear c21b1
      try clear c22
      try clear c22b0
      try clear c22b1
      try clear c24
      try clear c25
      try clear c25b0
      try clear c26
      try clear c26b0
      try clear c27
      try clear c27b0
      try clear c28
      try clear c33
      try clear c33b0
      try clear c34
      try clear c34b0
      try clear c35
      try clear c35b0
      try clear c36
      try clear c41
      try clear c41b0
      try clear c41b1
      try clear c42
      try clear c42b0
      try clear c42b1
      try clear c43
      try clear c43b0
      try clear c43b1
      try clear c45
      try clear c46
      try clear c46b0
      try clear c47
      try clear c47b0
      try clear c48
      try clear c48b0
      try clear c49
      try clear c54
      try clear c54b0
      try clear c55
      try clear c55b0
      try clear c56
      try clear c56b0
      try clear c57
      try clear c63
      try clear p64
      try clear c66
      try clear hcz11_0
      try clear hcz11_1
      try clear hcz11_2
      try clear hcz11_3
      try clear hcz11_4
      try clear hcz11_5
      try clear hcz11_6
      try clear hcz29_0
      try clear hcz29_1
      try clear hcz29_2
      try clear hcz29_3
      try clear hcz29_4
      try clear hcz29_5
      try clear hcz29_6
      try clear hcz31_0
      try clear hcz31_1
      try clear hcz31_2
      try clear hcz31_3
      try clear hcz31_4
      try clear hcz31_5
      try clear hcz31_6
      try clear hcz32_0
      try clear hcz32_1
      try clear hcz32_2
      try clear hcz32_3
      try clear hcz32_4
      try clear hcz32_5
      try clear hcz32_6
      try clear hcz37_0
      try clear hcz37_1
      try clear hcz37_2
      try clear hcz37_3
      try clear hcz37_4
      try clear hcz37_5
      try clear hcz37_6
      try clear hcz39_0
      try clear hcz39_1
      try clear hcz39_2
      try clear hcz39_3
      try clear hcz39_4
      try clear hcz39_5
      try clear hcz39_6
      try clear hcz40_0
      try clear hcz40_1
      try clear hcz40_2
      try clear hcz40_3
      try clear hcz40_4
      try clear hcz40_5
      try clear hcz40_6
      try clear hcz50_0
      try clear hcz50_1
      try clear hcz50_2
      try clear hcz50_3
      try clear hcz50_4
      try clear hcz50_5
      try clear hcz50_6
      try clear hcz52_0
      try clear hcz52_1
      try clear hcz52_2
      try clear hcz52_3
      try clear hcz52_4
      try clear hcz52_5
      try clear hcz52_6
      try clear hcz53_0
      try clear hcz53_1
      try clear hcz53_2
      try clear hcz53_3
      try clear hcz53_4
      try clear hcz53_5
      try clear hcz53_6
      try clear hcz58_0
      try clear hcz58_1
      try clear hcz58_2
      try clear hcz58_3
      try clear hcz58_4
      try clear hcz58_5
      try clear hcz58_6
      try clear hcz60_0
      try clear hcz60_1
      try clear hcz60_2
      try clear hcz60_3
      try clear hcz60_4
      try clear hcz60_5
      try clear hcz60_6
      try clear hcz61_0
      try clear hcz61_1
      try clear hcz61_2
      try clear hcz61_3
      try clear hcz61_4
      try clear hcz61_5
      try clear hcz61_6
      try clear hcz67_0
      try clear hcz67_1
      try clear hcz67_2
      try clear hcz67_3
      try clear hcz67_4
      try clear hcz67_5
      try clear hcz67_6
      try clear hfz11_0
      try clear hfz11_1
      try clear hfz11_2
      try clear hfz11_3
      try clear hfz11_4
      try clear hfz11_5
      try clear hfz11_6
      try clear hfz29_0
      try clear hfz29_1
      try clear hfz29_2
      try clear hfz29_3
      try clear hfz29_4
      try clear hfz29_5
      try clear hfz29_6
      try clear hfz31_0
      try clear hfz31_1
      try clear hfz31_2
      try clear hfz31_3
      try clear hfz31_4
      try clear hfz31_5
      try clear hfz31_6
      try clear hfz32_0
      try clear hfz32_1
      try clear hfz32_2
      try clear hfz32_3
      try clear hfz32_4
      try clear hfz32_5
      try clear hfz32_6
      try clear hfz37_0
      try clear hfz37_1
      try clear hfz37_2
      try clear hfz37_3
      try clear hfz37_4
      try clear hfz37_5
      try clear hfz37_6
      try clear hfz39_0
      try clear hfz39_1
      try clear hfz39_2
      try clear hfz39_3
      try clear hfz39_4
      try clear hfz39_5
      try clear hfz39_6
      try clear hfz40_0
      try clear hfz40_1
      try clear hfz40_2
      try clear hfz40_3
      try clear hfz40_4
      try clear hfz40_5
      try clear hfz40_6
      try clear hfz50_0
      try clear hfz50_1
      try clear hfz50_2
      try clear hfz50_3
      try clear hfz50_4
      try clear hfz50_5
      try clear hfz50_6
      try clear hfz52_0
      try clear hfz52_1
      try clear hfz52_2
      try clear hfz52_3
      try clear hfz52_4
      try clear hfz52_5
      try clear hfz52_6
      try clear hfz53_0
      try clear hfz53_1
      try clear hfz53_2
      try clear hfz53_3
      try clear hfz53_4
      try clear hfz53_5
      try clear hfz53_6
      try clear hfz58_0
      try clear hfz58_1
      try clear hfz58_2
      try clear hfz58_3
      try clear hfz58_4
      try clear hfz58_5
      try clear hfz58_6
      try clear hfz60_0
      try clear hfz60_1
      try clear hfz60_2
      try clear hfz60_3
      try clear hfz60_4
      try clear hfz60_5
      try clear hfz60_6
      try clear hfz61_0
      try clear hfz61_1
      try clear hfz61_2
      try clear hfz61_3
      try clear hfz61_4
      try clear hfz61_5
      try clear hfz61_6
      try clear hfz67_0
      try clear hfz67_1
      try clear hfz67_2
      try clear hfz67_3
      try clear hfz67_4
      try clear hfz67_5
      try clear hfz67_6
      try clear p14
      try clear p17
      try clear p2
      try clear p5
      try clear p6
      try clear q14
      try clear q17
      try clear q5
      obtain ⟨x7_1, rfl, HA, HK1, BK199, BK200, HB⟩ := hrel
      cases gk with
      | zero => exact absurd HA.out (by simp [heirloomref07_one.l1])
      | succ k1 =>
       have H := HA.out
       clear HA
       simp only [heirloomref07_one.l1] at H
       by_cases c68 : x7_1 < (a0.size : Int)
       ·rw [if_pos c68] at H
        have c68b0 : decide (x7_1 < (a0.size : Int)) = true := decide_eq_true c68
        clear c68
        by_cases c69 : 0 ≤ x7_1
        ·rw [if_pos c69] at H
         have c69b0 : decide (0 ≤ x7_1) = true := decide_eq_true c69
         clear c69
         replace H := Option.bind_eq_some_iff.mp H
         obtain ⟨t207, A710, H⟩ := H
         replace H : (if t207 = true then (heirloomref07_one.l1 k1 a0 a1 (wrap64 (x7_1 + 1)) 0 (⟨#[]⟩ : ByteArray) 0 0 (⟨#[]⟩ : ByteArray) a1 0) else ((heirloomref07_digit.f (bt a0 x7_1)).bind fun t208 => (if t208 = true then (heirloomref07_one.l1 k1 a0 a1 (wrap64 (x7_1 + 1)) 0 (⟨#[]⟩ : ByteArray) 0 0 (⟨#[]⟩ : ByteArray) a1 0) else (if (bt a0 x7_1) = 46 then (if (wrap64 (x7_1 + 1)) < (a0.size : Int) then (if 0 ≤ (wrap64 (x7_1 + 1)) then ((heirloomref07_digit.f (bt a0 (wrap64 (x7_1 + 1)))).bind fun t209 => (if t209 = true then (heirloomref07_one.l1 k1 a0 a1 (wrap64 (x7_1 + 1)) 0 (⟨#[]⟩ : ByteArray) 0 0 (⟨#[]⟩ : ByteArray) a1 0) else (if 0 ≤ a1 then (if a1 ≤ x7_1 then (if x7_1 ≤ (a0.size : Int) then ((heirloomref01_Read.f k1 (a0.extract (a1 : Int).toNat (x7_1 : Int).toNat)).bind fun bt210 => (some (3, a0.extract (a1 : Int).toNat (x7_1 : Int).toNat, bt210.1, bt210.2.1, (⟨#[]⟩ : ByteArray), a1, x7_1, bt210.2.2))) else (none)) else (none)) else (none)))) else (none)) else (if 0 ≤ a1 then (if a1 ≤ x7_1 then (if x7_1 ≤ (a0.size : Int) then ((heirloomref01_Read.f k1 (a0.extract (a1 : Int).toNat (x7_1 : Int).toNat)).bind fun bt214 => (some (3, a0.extract (a1 : Int).toNat (x7_1 : Int).toNat, bt214.1, bt214.2.1, (⟨#[]⟩ : ByteArray), a1, x7_1, bt214.2.2))) else (none)) else (none)) else (none))) else (if 0 ≤ a1 then (if a1 ≤ x7_1 then (if x7_1 ≤ (a0.size : Int) then ((heirloomref01_Read.f k1 (a0.extract (a1 : Int).toNat (x7_1 : Int).toNat)).bind fun bt218 => (some (3, a0.extract (a1 : Int).toNat (x7_1 : Int).toNat, bt218.1, bt218.2.1, (⟨#[]⟩ : ByteArray), a1, x7_1, bt218.2.2))) else (none)) else (none)) else (none)))))) = some (r1, r2, r3, r4, r5, r6, r7, r8) := H
         have A71 := Aside0.mk A710
         clear A710
         by_cases c72 : t207 = true
         ·subst c72
          have H1 : (heirloomref07_one.l1 k1 a0 a1 (wrap64 (x7_1 + 1)) 0 (⟨#[]⟩ : ByteArray) 0 0 (⟨#[]⟩ : ByteArray) a1 0) = some (r1, r2, r3, r4, r5, r6, r7, r8) := by rw [if_pos rfl] at H; exact H
          clear H
          have H := H1
          clear H1
          have H' := Aside0.mk H
          clear H
          have p70 : 0 ≤ (x7_1 : Int) := of_decide_eq_true (by first | (with_reducible assumption) | assumption)
          have q70 : x7_1 < (a0.size : Int) := of_decide_eq_true (by first | (with_reducible assumption) | assumption)
          have hx70 := bt_at a0 x7_1
          replace p70 := eq_true p70
          replace q70 := eq_true q70
          go_wp2_with (first | (go_at_call 42; (with_reducible refine (heirloomref07_letter.calls (bt a0 x7_1) true _ A71.out).mono ?_); rintro e w' ⟨rfl, ⟨nd, rfl⟩⟩))
          go_roundg k1
          case measure => have := HK1.out; omega
          case rel => exact ⟨(wrap64 (x7_1 + 1)), (by first | rfl | (simp; done) | (simp [*]; done)), H', ⟨by have := HK1.out; omega⟩, ⟨by (with_reducible repeat first | refine kn ?_ _ | refine kd ?_ | refine ka ?_ _); exact BK199.out⟩, ⟨by (with_reducible repeat first | refine kn ?_ _ | refine kd ?_ | refine ka ?_ _); exact BK200.out⟩, ⟨by repeat (first | (with_reducible first | exact HB.out | apply zb | apply zn | apply zd | refine zs ?_ GE199.out | refine zs ?_ GE200.out) | exact HB.out)⟩⟩
         ·replace c72 := Bool.eq_false_iff.mpr c72
          subst c72
          have H1 : ((heirloomref07_digit.f (bt a0 x7_1)).bind fun t208 => (if t208 = true then (heirloomref07_one.l1 k1 a0 a1 (wrap64 (x7_1 + 1)) 0 (⟨#[]⟩ : ByteArray) 0 0 (⟨#[]⟩ : ByteArray) a1 0) else (if (bt a0 x7_1) = 46 then (if (wrap64 (x7_1 + 1)) < (a0.size : Int) then (if 0 ≤ (wrap64 (x7_1 + 1)) then ((heirloomref07_digit.f (bt a0 (wrap64 (x7_1 + 1)))).bind fun t209 => (if t209 = true then (heirloomref07_one.l1 k1 a0 a1 (wrap64 (x7_1 + 1)) 0 (⟨#[]⟩ : ByteArray) 0 0 (⟨#[]⟩ : ByteArray) a1 0) else (if 0 ≤ a1 then (if a1 ≤ x7_1 then (if x7_1 ≤ (a0.size : Int) then ((heirloomref01_Read.f k1 (a0.extract (a1 : Int).toNat (x7_1 : Int).toNat)).bind fun bt210 => (some (3, a0.extract (a1 : Int).toNat (x7_1 : Int).toNat, bt210.1, bt210.2.1, (⟨#[]⟩ : ByteArray), a1, x7_1, bt210.2.2))) else (none)) else (none)) else (none)))) else (none)) else (if 0 ≤ a1 then (if a1 ≤ x7_1 then (if x7_1 ≤ (a0.size : Int) then ((heirloomref01_Read.f k1 (a0.extract (a1 : Int).toNat (x7_1 : Int).toNat)).bind fun bt214 => (some (3, a0.extract (a1 : Int).toNat (x7_1 : Int).toNat, bt214.1, bt214.2.1, (⟨#[]⟩ : ByteArray), a1, x7_1, bt214.2.2))) else (none)) else (none)) else (none))) else (if 0 ≤ a1 then (if a1 ≤ x7_1 then (if x7_1 ≤ (a0.size : Int) then ((heirloomref01_Read.f k1 (a0.extract (a1 : Int).toNat (x7_1 : Int).toNat)).bind fun bt218 => (some (3, a0.extract (a1 : Int).toNat (x7_1 : Int).toNat, bt218.1, bt218.2.1, (⟨#[]⟩ : ByteArray), a1, x7_1, bt218.2.2))) else (none)) else (none)) else (none))))) = some (r1, r2, r3, r4, r5, r6, r7, r8) := by rw [if_neg (show ¬ (false = true) by decide)] at H; exact H
          clear H
          have H := H1
          clear H1
          replace H := Option.bind_eq_some_iff.mp H
          obtain ⟨t208, A740, H⟩ := H
          replace H : (if t208 = true then (heirloomref07_one.l1 k1 a0 a1 (wrap64 (x7_1 + 1)) 0 (⟨#[]⟩ : ByteArray) 0 0 (⟨#[]⟩ : ByteArray) a1 0) else (if (bt a0 x7_1) = 46 then (if (wrap64 (x7_1 + 1)) < (a0.size : Int) then (if 0 ≤ (wrap64 (x7_1 + 1)) then ((heirloomref07_digit.f (bt a0 (wrap64 (x7_1 + 1)))).bind fun t209 => (if t209 = true then (heirloomref07_one.l1 k1 a0 a1 (wrap64 (x7_1 + 1)) 0 (⟨#[]⟩ : ByteArray) 0 0 (⟨#[]⟩ : ByteArray) a1 0) else (if 0 ≤ a1 then (if a1 ≤ x7_1 then (if x7_1 ≤ (a0.size : Int) then ((heirloomref01_Read.f k1 (a0.extract (a1 : Int).toNat (x7_1 : Int).toNat)).bind fun bt210 => (some (3, a0.extract (a1 : Int).toNat (x7_1 : Int).toNat, bt210.1, bt210.2.1, (⟨#[]⟩ : ByteArray), a1, x7_1, bt210.2.2))) else (none)) else (none)) else (none)))) else (none)) else (if 0 ≤ a1 then (if a1 ≤ x7_1 then (if x7_1 ≤ (a0.size : Int) then ((heirloomref01_Read.f k1 (a0.extract (a1 : Int).toNat (x7_1 : Int).toNat)).bind fun bt214 => (some (3, a0.extract (a1 : Int).toNat (x7_1 : Int).toNat, bt214.1, bt214.2.1, (⟨#[]⟩ : ByteArray), a1, x7_1, bt214.2.2))) else (none)) else (none)) else (none))) else (if 0 ≤ a1 then (if a1 ≤ x7_1 then (if x7_1 ≤ (a0.size : Int) then ((heirloomref01_Read.f k1 (a0.extract (a1 : Int).toNat (x7_1 : Int).toNat)).bind fun bt218 => (some (3, a0.extract (a1 : Int).toNat (x7_1 : Int).toNat, bt218.1, bt218.2.1, (⟨#[]⟩ : ByteArray), a1, x7_1, bt218.2.2))) else (none)) else (none)) else (none)))) = some (r1, r2, r3, r4, r5, r6, r7, r8) := H
          have A74 := Aside0.mk A740
          clear A740
          by_cases c75 : t208 = true
          ·subst c75
           have H1 : (heirloomref07_one.l1 k1 a0 a1 (wrap64 (x7_1 + 1)) 0 (⟨#[]⟩ : ByteArray) 0 0 (⟨#[]⟩ : ByteArray) a1 0) = some (r1, r2, r3, r4, r5, r6, r7, r8) := by rw [if_pos rfl] at H; exact H
           clear H
           have H := H1
           clear H1
           have H' := Aside0.mk H
           clear H
           have p70 : 0 ≤ (x7_1 : Int) := of_decide_eq_true (by first | (with_reducible assumption) | assumption)
           have q70 : x7_1 < (a0.size : Int) := of_decide_eq_true (by first | (with_reducible assumption) | assumption)
           have hx70 := bt_at a0 x7_1
           replace p70 := eq_true p70
           replace q70 := eq_true q70
           go_wp2_with (first | (go_at_call 42; (with_reducible refine (heirloomref07_letter.calls (bt a0 x7_1) false _ A71.out).mono ?_); rintro e w' ⟨rfl, ⟨nd, rfl⟩⟩; have p73 : 0 ≤ (x7_1 : Int) := of_decide_eq_true (by first | (with_reducible assumption) | assumption); have q73 : x7_1 < (a0.size : Int) := of_decide_eq_true (by first | (with_reducible assumption) | assumption); have hx73 := bt_at a0 x7_1; replace p73 := eq_true p73; replace q73 := eq_true q73) | (go_at_call 43; (with_reducible refine (heirloomref07_digit.calls (bt a0 x7_1) true _ A74.out).mono ?_); rintro e w' ⟨rfl, ⟨nd, rfl⟩⟩))
           go_roundg k1
           case measure => have := HK1.out; omega
           case rel => exact ⟨(wrap64 (x7_1 + 1)), (by first | rfl | (simp; done) | (simp [*]; done)), H', ⟨by have := HK1.out; omega⟩, ⟨by (with_reducible repeat first | refine kn ?_ _ | refine kd ?_ | refine ka ?_ _); exact BK199.out⟩, ⟨by (with_reducible repeat first | refine kn ?_ _ | refine kd ?_ | refine ka ?_ _); exact BK200.out⟩, ⟨by repeat (first | (with_reducible first | exact HB.out | apply zb | apply zn | apply zd | refine zs ?_ GE199.out | refine zs ?_ GE200.out) | exact HB.out)⟩⟩
          ·replace c75 := Bool.eq_false_iff.mpr c75
           subst c75
           have H1 : (if (bt a0 x7_1) = 46 then (if (wrap64 (x7_1 + 1)) < (a0.size : Int) then (if 0 ≤ (wrap64 (x7_1 + 1)) then ((heirloomref07_digit.f (bt a0 (wrap64 (x7_1 + 1)))).bind fun t209 => (if t209 = true then (heirloomref07_one.l1 k1 a0 a1 (wrap64 (x7_1 + 1)) 0 (⟨#[]⟩ : ByteArray) 0 0 (⟨#[]⟩ : ByteArray) a1 0) else (if 0 ≤ a1 then (if a1 ≤ x7_1 then (if x7_1 ≤ (a0.size : Int) then ((heirloomref01_Read.f k1 (a0.extract (a1 : Int).toNat (x7_1 : Int).toNat)).bind fun bt210 => (some (3, a0.extract (a1 : Int).toNat (x7_1 : Int).toNat, bt210.1, bt210.2.1, (⟨#[]⟩ : ByteArray), a1, x7_1, bt210.2.2))) else (none)) else (none)) else (none)))) else (none)) else (if 0 ≤ a1 then (if a1 ≤ x7_1 then (if x7_1 ≤ (a0.size : Int) then ((heirloomref01_Read.f k1 (a0.extract (a1 : Int).toNat (x7_1 : Int).toNat)).bind fun bt214 => (some (3, a0.extract (a1 : Int).toNat (x7_1 : Int).toNat, bt214.1, bt214.2.1, (⟨#[]⟩ : ByteArray), a1, x7_1, bt214.2.2))) else (none)) else (none)) else (none))) else (if 0 ≤ a1 then (if a1 ≤ x7_1 then (if x7_1 ≤ (a0.size : Int) then ((heirloomref01_Read.f k1 (a0.extract (a1 : Int).toNat (x7_1 : Int).toNat)).bind fun bt218 => (some (3, a0.extract (a1 : Int).toNat (x7_1 : Int).toNat, bt218.1, bt218.2.1, (⟨#[]⟩ : ByteArray), a1, x7_1, bt218.2.2))) else (none)) else (none)) else (none))) = some (r1, r2, r3, r4, r5, r6, r7, r8) := by rw [if_neg (show ¬ (false = true) by decide)] at H; exact H
           clear H
           have H := H1
           clear H1
           by_cases c77 : (bt a0 x7_1) = 46
           ·rw [if_pos c77] at H
            have c77b0 : ((bt a0 x7_1) == 46) = true := beq_iff_eq.mpr c77
            have c77b1 : ((bt a0 x7_1) != 46) = false := bne_eq_false_iff_eq.mpr c77
            clear c77
            by_cases c78 : (wrap64 (x7_1 + 1)) < (a0.size : Int)
            ·rw [if_pos c78] at H
             have c78b0 : decide ((wrap64 (x7_1 + 1)) < (a0.size : Int)) = true := decide_eq_true c78
             clear c78
             obtain ⟨ji79, hji79⟩ : ∃ j_ : Int, (wrap64 (x7_1 + 1)) = j_ := ⟨_, rfl⟩
             replace H : (if 0 ≤ (ji79) then ((heirloomref07_digit.f (bt a0 (ji79))).bind fun t209 => (if t209 = true then (heirloomref07_one.l1 k1 a0 a1 ji79 0 (⟨#[]⟩ : ByteArray) 0 0 (⟨#[]⟩ : ByteArray) a1 0) else (if 0 ≤ a1 then (if a1 ≤ x7_1 then (if x7_1 ≤ (a0.size : Int) then ((heirloomref01_Read.f k1 (a0.extract (a1 : Int).toNat (x7_1 : Int).toNat)).bind fun bt210 => (some (3, a0.extract (a1 : Int).toNat (x7_1 : Int).toNat, bt210.1, bt210.2.1, (⟨#[]⟩ : ByteArray), a1, x7_1, bt210.2.2))) else (none)) else (none)) else (none)))) else (none)) = some (r1, r2, r3, r4, r5, r6, r7, r8) := by first | (rw [hji79] at H; exact H) | (simp only [hji79] at H ⊢; exact H)
             (try rw [hji79] at c78b0)
             (try rw [hji79] at A71)
             (try rw [hji79] at A74)
             have hji79w : (IntKind.i64.wrap (x7_1 + 1)) = ji79 := (i64_w _).trans hji79
             by_cases c80 : 0 ≤ (ji79)
             ·rw [if_pos c80] at H
              have c80b0 : decide (0 ≤ (ji79)) = true := decide_eq_true c80
              clear c80
              replace H := Option.bind_eq_some_iff.mp H
              obtain ⟨t209, A820, H⟩ := H
              replace H : (if t209 = true then (heirloomref07_one.l1 k1 a0 a1 ji79 0 (⟨#[]⟩ : ByteArray) 0 0 (⟨#[]⟩ : ByteArray) a1 0) else (if 0 ≤ a1 then (if a1 ≤ x7_1 then (if x7_1 ≤ (a0.size : Int) then ((heirloomref01_Read.f k1 (a0.extract (a1 : Int).toNat (x7_1 : Int).toNat)).bind fun bt210 => (some (3, a0.extract (a1 : Int).toNat (x7_1 : Int).toNat, bt210.1, bt210.2.1, (⟨#[]⟩ : ByteArray), a1, x7_1, bt210.2.2))) else (none)) else (none)) else (none))) = some (r1, r2, r3, r4, r5, r6, r7, r8) := H
              have A82 := Aside0.mk A820
              clear A820
              by_cases c83 : t209 = true
              ·subst c83
               have H1 : (heirloomref07_one.l1 k1 a0 a1 ji79 0 (⟨#[]⟩ : ByteArray) 0 0 (⟨#[]⟩ : ByteArray) a1 0) = some (r1, r2, r3, r4, r5, r6, r7, r8) := by rw [if_pos rfl] at H; exact H
               clear H
               have H := H1
               clear H1
               have H' := Aside0.mk H
               clear H
               have p70 : 0 ≤ (x7_1 : Int) := of_decide_eq_true (by first | (with_reducible assumption) | assumption)
               have q70 : x7_1 < (a0.size : Int) := of_decide_eq_true (by first | (with_reducible assumption) | assumption)
               have hx70 := bt_at a0 x7_1
               replace p70 := eq_true p70
               replace q70 := eq_true q70
               go_wp2_with (first | (go_at_call 42; (with_reducible refine (heirloomref07_letter.calls (bt a0 x7_1) false _ A71.out).mono ?_); rintro e w' ⟨rfl, ⟨nd, rfl⟩⟩; have p73 : 0 ≤ (x7_1 : Int) := of_decide_eq_true (by first | (with_reducible assumption) | assumption); have q73 : x7_1 < (a0.size : Int) := of_decide_eq_true (by first | (with_reducible assumption) | assumption); have hx73 := bt_at a0 x7_1; replace p73 := eq_true p73; replace q73 := eq_true q73) | (go_at_call 43; (with_reducible refine (heirloomref07_digit.calls (bt a0 x7_1) false _ A74.out).mono ?_); rintro e w' ⟨rfl, ⟨nd, rfl⟩⟩; have p76 : 0 ≤ (x7_1 : Int) := of_decide_eq_true (by first | (with_reducible assumption) | assumption); have q76 : x7_1 < (a0.size : Int) := of_decide_eq_true (by first | (with_reducible assumption) | assumption); have hx76 := bt_at a0 x7_1; replace p76 := eq_true p76; replace q76 := eq_true q76; have p81 : 0 ≤ ((ji79) : Int) := of_decide_eq_true (by first | (with_reducible assumption) | assumption); have q81 : (ji79) < (a0.size : Int) := of_decide_eq_true (by first | (with_reducible assumption) | assumption); have hx81 := bt_at a0 (ji79); replace p81 := eq_true p81; replace q81 := eq_true q81) | (go_at_call 43; (with_reducible refine (heirloomref07_digit.calls (bt a0 (ji79)) true _ A82.out).mono ?_); rintro e w' ⟨rfl, ⟨nd, rfl⟩⟩))
               go_roundg k1
               case measure => have := HK1.out; omega
               case rel => exact ⟨(ji79), (by first | rfl | (simp; done) | (simp only [← hji79] <;> (first | rfl | simp)) | (simp [*]; done)), H', ⟨by have := HK1.out; omega⟩, ⟨by (with_reducible repeat first | refine kn ?_ _ | refine kd ?_ | refine ka ?_ _); exact BK199.out⟩, ⟨by (with_reducible repeat first | refine kn ?_ _ | refine kd ?_ | refine ka ?_ _); exact BK200.out⟩, ⟨by repeat (first | (with_reducible first | exact HB.out | apply zb | apply zn | apply zd | refine zs ?_ GE199.out | refine zs ?_ GE200.out) | exact HB.out)⟩⟩
              ·replace c83 := Bool.eq_false_iff.mpr c83
               subst c83
               have H1 : (if 0 ≤ a1 then (if a1 ≤ x7_1 then (if x7_1 ≤ (a0.size : Int) then ((heirloomref01_Read.f k1 (a0.extract (a1 : Int).toNat (x7_1 : Int).toNat)).bind fun bt210 => (some (3, a0.extract (a1 : Int).toNat (x7_1 : Int).toNat, bt210.1, bt210.2.1, (⟨#[]⟩ : ByteArray), a1, x7_1, bt210.2.2))) else (none)) else (none)) else (none)) = some (r1, r2, r3, r4, r5, r6, r7, r8) := by rw [if_neg (show ¬ (false = true) by decide)] at H; exact H
               clear H
               have H := H1
               clear H1
               by_cases c84 : 0 ≤ a1
               ·rw [if_pos c84] at H
                have c84b0 := eq_true c84
                have c84b1 : decide (0 ≤ a1) = true := decide_eq_true c84
                clear c84
                by_cases c85 : a1 ≤ x7_1
                ·rw [if_pos c85] at H
                 have c85b0 := eq_true c85
                 have c85b1 : decide (a1 ≤ x7_1) = true := decide_eq_true c85
                 clear c85
                 by_cases c86 : x7_1 ≤ (a0.size : Int)
                 ·rw [if_pos c86] at H
                  have c86b0 := eq_true c86
                  have c86b1 : decide (x7_1 ≤ (a0.size : Int)) = true := decide_eq_true c86
                  clear c86
                  replace H := Option.bind_eq_some_iff.mp H
                  obtain ⟨⟨t210, t211, t212⟩, A870, H⟩ := H
                  replace H : (some (3, a0.extract (a1 : Int).toNat (x7_1 : Int).toNat, t210, t211, (⟨#[]⟩ : ByteArray), a1, x7_1, t212)) = some (r1, r2, r3, r4, r5, r6, r7, r8) := H
                  have A87 := Aside0.mk A870
                  clear A870
                  have c88b0 := eq_true (of_decide_eq_true (by first | (with_reducible assumption) | assumption) : 0 ≤ a1)
                  have c89b0 := eq_true (of_decide_eq_true (by first | (with_reducible assumption) | assumption) : a1 ≤ x7_1)
                  have c90b0 := eq_true (of_decide_eq_true (by first | (with_reducible assumption) | assumption) : x7_1 ≤ (a0.size : Int))
                  simp only [Option.some.injEq, Prod.mk.injEq] at H
                  obtain ⟨rfl, rfl, rfl, rfl, rfl, rfl, rfl, rfl⟩ := H
                  have p70 : 0 ≤ (x7_1 : Int) := of_decide_eq_true (by first | (with_reducible assumption) | assumption)
                  have q70 : x7_1 < (a0.size : Int) := of_decide_eq_true (by first | (with_reducible assumption) | assumption)
                  have hx70 := bt_at a0 x7_1
                  replace p70 := eq_true p70
                  replace q70 := eq_true q70
                  try go_wp2_with (first | (go_at_call 42; (with_reducible refine (heirloomref07_letter.calls (bt a0 x7_1) false _ A71.out).mono ?_); rintro e w' ⟨rfl, ⟨nd, rfl⟩⟩; (try (rw [drewN_self wr]; generalize hq_ : World.drewN wr _ = wr; have n0_ : Aside0 (wr.heap[gb199]? = some (.cells #[.int .i64 0, .string (⟨#[]⟩ : ByteArray), .int .i64 0, .int .i64 0, .string (⟨#[]⟩ : ByteArray), .int .i64 0, .int .i64 0] 35 (0, 0))) := ⟨by rw [← hq_]; exact (by (with_reducible repeat first | refine kn ?_ _ | refine kd ?_ | refine ka ?_ _); exact BK199.out)⟩; have n1_ : Aside0 (wr.heap[gb200]? = some (.cells #[.int .i64 0, .string (⟨#[]⟩ : ByteArray), .int .i64 0, .int .i64 0, .string (⟨#[]⟩ : ByteArray), .int .i64 a1, .int .i64 0] 35 (0, 0))) := ⟨by rw [← hq_]; exact (by (with_reducible repeat first | refine kn ?_ _ | refine kd ?_ | refine ka ?_ _); exact BK200.out)⟩; have n2_ : Aside0 (Below w.heap.size w wr) := ⟨by rw [← hq_]; exact (by repeat (first | (with_reducible first | exact HB.out | apply zb | apply zn | apply zd | refine zs ?_ GE199.out | refine zs ?_ GE200.out) | exact HB.out))⟩; clear BK199 BK200 HB hq_; have BK199 := n0_; have BK200 := n1_; have HB := n2_; clear n0_ n1_ n2_)); have p73 : 0 ≤ (x7_1 : Int) := of_decide_eq_true (by first | (with_reducible assumption) | assumption); have q73 : x7_1 < (a0.size : Int) := of_decide_eq_true (by first | (with_reducible assumption) | assumption); have hx73 := bt_at a0 x7_1; replace p73 := eq_true p73; replace q73 := eq_true q73) | (go_at_call 43; (with_reducible refine (heirloomref07_digit.calls (bt a0 x7_1) false _ A74.out).mono ?_); rintro e w' ⟨rfl, ⟨nd, rfl⟩⟩; (try (rw [drewN_self wr]; generalize hq_ : World.drewN wr _ = wr; have n0_ : Aside0 (wr.heap[gb199]? = some (.cells #[.int .i64 0, .string (⟨#[]⟩ : ByteArray), .int .i64 0, .int .i64 0, .string (⟨#[]⟩ : ByteArray), .int .i64 0, .int .i64 0] 35 (0, 0))) := ⟨by rw [← hq_]; exact (by (with_reducible repeat first | refine kn ?_ _ | refine kd ?_ | refine ka ?_ _); exact BK199.out)⟩; have n1_ : Aside0 (wr.heap[gb200]? = some (.cells #[.int .i64 0, .string (⟨#[]⟩ : ByteArray), .int .i64 0, .int .i64 0, .string (⟨#[]⟩ : ByteArray), .int .i64 a1, .int .i64 0] 35 (0, 0))) := ⟨by rw [← hq_]; exact (by (with_reducible repeat first | refine kn ?_ _ | refine kd ?_ | refine ka ?_ _); exact BK200.out)⟩; have n2_ : Aside0 (Below w.heap.size w wr) := ⟨by rw [← hq_]; exact (by repeat (first | (with_reducible first | exact HB.out | apply zb | apply zn | apply zd | refine zs ?_ GE199.out | refine zs ?_ GE200.out) | exact HB.out))⟩; clear BK199 BK200 HB hq_; have BK199 := n0_; have BK200 := n1_; have HB := n2_; clear n0_ n1_ n2_)); have p76 : 0 ≤ (x7_1 : Int) := of_decide_eq_true (by first | (with_reducible assumption) | assumption); have q76 : x7_1 < (a0.size : Int) := of_decide_eq_true (by first | (with_reducible assumption) | assumption); have hx76 := bt_at a0 x7_1; replace p76 := eq_true p76; replace q76 := eq_true q76; have p81 : 0 ≤ ((ji79) : Int) := of_decide_eq_true (by first | (with_reducible assumption) | assumption); have q81 : (ji79) < (a0.size : Int) := of_decide_eq_true (by first | (with_reducible assumption) | assumption); have hx81 := bt_at a0 (ji79); replace p81 := eq_true p81; replace q81 := eq_true q81) | (go_at_call 43; (with_reducible refine (heirloomref07_digit.calls (bt a0 (ji79)) false _ A82.out).mono ?_); rintro e w' ⟨rfl, ⟨nd, rfl⟩⟩; (try (rw [drewN_self wr]; generalize hq_ : World.drewN wr _ = wr; have n0_ : Aside0 (wr.heap[gb199]? = some (.cells #[.int .i64 0, .string (⟨#[]⟩ : ByteArray), .int .i64 0, .int .i64 0, .string (⟨#[]⟩ : ByteArray), .int .i64 0, .int .i64 0] 35 (0, 0))) := ⟨by rw [← hq_]; exact (by (with_reducible repeat first | refine kn ?_ _ | refine kd ?_ | refine ka ?_ _); exact BK199.out)⟩; have n1_ : Aside0 (wr.heap[gb200]? = some (.cells #[.int .i64 0, .string (⟨#[]⟩ : ByteArray), .int .i64 0, .int .i64 0, .string (⟨#[]⟩ : ByteArray), .int .i64 a1, .int .i64 0] 35 (0, 0))) := ⟨by rw [← hq_]; exact (by (with_reducible repeat first | refine kn ?_ _ | refine kd ?_ | refine ka ?_ _); exact BK200.out)⟩; have n2_ : Aside0 (Below w.heap.size w wr) := ⟨by rw [← hq_]; exact (by repeat (first | (with_reducible first | exact HB.out | apply zb | apply zn | apply zd | refine zs ?_ GE199.out | refine zs ?_ GE200.out) | exact HB.out))⟩; clear BK199 BK200 HB hq_; have BK199 := n0_; have BK200 := n1_; have HB := n2_; clear n0_ n1_ n2_))) | ((with_reducible refine gate_callee (f := 44) rfl ?_); refine goesL_ (some 100) rfl rfl Tryd.func44 (by kernel_rfl) rfl #[.string (a0.extract (a1 : Int).toNat (x7_1 : Int).toNat)] rfl (by (try simp only [List.map_toArray, List.map_cons, List.map_nil]); first | done | rfl | (simp only [List.length_drop, List.length_take]; rfl)) ?_; (with_reducible refine (heirloomref01_Read.calls k1 (a0.extract (a1 : Int).toNat (x7_1 : Int).toNat) t210 t211 t212 _ A87.out).mono ?_); rintro e w91 ⟨rfl, hb⟩; refine ⟨_, rfl, ?_⟩; have n0_ := Aside0.mk (blk_below (g := gb199) (o := .cells #[.int .i64 0, .string (⟨#[]⟩ : ByteArray), .int .i64 0, .int .i64 0, .string (⟨#[]⟩ : ByteArray), .int .i64 0, .int .i64 0] 35 (0, 0)) (by (with_reducible repeat first | refine kn ?_ _ | refine kd ?_ | refine ka ?_ _); exact BK199.out) hb); have n1_ := Aside0.mk (blk_below (g := gb200) (o := .cells #[.int .i64 0, .string (⟨#[]⟩ : ByteArray), .int .i64 0, .int .i64 0, .string (⟨#[]⟩ : ByteArray), .int .i64 a1, .int .i64 0] 35 (0, 0)) (by (with_reducible repeat first | refine kn ?_ _ | refine kd ?_ | refine ka ?_ _); exact BK200.out) hb); have n2_ := Aside0.mk (below_step (by repeat (first | (with_reducible first | exact HB.out | apply zb | apply zn | apply zd | refine zs ?_ GE199.out | refine zs ?_ GE200.out) | exact HB.out)) hb); clear BK199; clear BK200; clear HB; have BK199 := n0_; have BK200 := n1_; have HB := n2_; clear n0_ n1_ n2_; (try clear hb)) | ((with_reducible refine gate_dst (N := 9) rfl ?_); (try (refine gate_guard (by rfl) ?_; dsimp only)); refine box_event ?hg (N := 9) ?hd (cs := #[.int .i64 0, .int .i64 0]) (t := 33) ?hr ?_; (case hd => rfl); (case hg => rfl); (case hr => go_simp <;> rfl); intro gb213 hg w92 hbox hb; have n0_ := Aside0.mk (blk_below (g := gb199) (o := .cells #[.int .i64 0, .string (⟨#[]⟩ : ByteArray), .int .i64 0, .int .i64 0, .string (⟨#[]⟩ : ByteArray), .int .i64 0, .int .i64 0] 35 (0, 0)) (by (with_reducible repeat first | refine kn ?_ _ | refine kd ?_ | refine ka ?_ _); exact BK199.out) hb); have n1_ := Aside0.mk (blk_below (g := gb200) (o := .cells #[.int .i64 0, .string (⟨#[]⟩ : ByteArray), .int .i64 0, .int .i64 0, .string (⟨#[]⟩ : ByteArray), .int .i64 a1, .int .i64 0] 35 (0, 0)) (by (with_reducible repeat first | refine kn ?_ _ | refine kd ?_ | refine ka ?_ _); exact BK200.out) hb); have n2_ := Aside0.mk (below_step (by repeat (first | (with_reducible first | exact HB.out | apply zb | apply zn | apply zd | refine zs ?_ GE199.out | refine zs ?_ GE200.out) | exact HB.out)) hb); have n3_ := Aside0.mk (hbox); have n4_ := Aside0.mk ((by rw [hg]; exact (below_size (by repeat (first | (with_reducible first | exact HB.out | apply zb | apply zn | apply zd | refine zs ?_ GE199.out | refine zs ?_ GE200.out) | exact HB.out))) : w.heap.size ≤ gb213)); have n5_ := Aside0.mk ((by rw [hg]; exact (below_size (by repeat (first | (with_reducible first | exact HB.out | apply zb | apply zn | apply zd | refine zs ?_ GE199.out | refine zs ?_ GE200.out) | exact HB.out))) : w.heap.size ≤ gb213)); have n6_ := Aside0.mk ((by rw [hg]; exact Nat.ne_of_lt (blk_lt (g := gb199) (o := .cells #[.int .i64 0, .string (⟨#[]⟩ : ByteArray), .int .i64 0, .int .i64 0, .string (⟨#[]⟩ : ByteArray), .int .i64 0, .int .i64 0] 35 (0, 0)) (by (with_reducible repeat first | refine kn ?_ _ | refine kd ?_ | refine ka ?_ _); exact BK199.out)) : gb199 ≠ gb213)); have n7_ := Aside0.mk ((by rw [hg]; exact Nat.ne_of_gt (blk_lt (g := gb199) (o := .cells #[.int .i64 0, .string (⟨#[]⟩ : ByteArray), .int .i64 0, .int .i64 0, .string (⟨#[]⟩ : ByteArray), .int .i64 0, .int .i64 0] 35 (0, 0)) (by (with_reducible repeat first | refine kn ?_ _ | refine kd ?_ | refine ka ?_ _); exact BK199.out)) : gb213 ≠ gb199)); have n8_ := Aside0.mk ((by rw [hg]; exact Nat.ne_of_lt (blk_lt (g := gb200) (o := .cells #[.int .i64 0, .string (⟨#[]⟩ : ByteArray), .int .i64 0, .int .i64 0, .string (⟨#[]⟩ : ByteArray), .int .i64 a1, .int .i64 0] 35 (0, 0)) (by (with_reducible repeat first | refine kn ?_ _ | refine kd ?_ | refine ka ?_ _); exact BK200.out)) : gb200 ≠ gb213)); have n9_ := Aside0.mk ((by rw [hg]; exact Nat.ne_of_gt (blk_lt (g := gb200) (o := .cells #[.int .i64 0, .string (⟨#[]⟩ : ByteArray), .int .i64 0, .int .i64 0, .string (⟨#[]⟩ : ByteArray), .int .i64 a1, .int .i64 0] 35 (0, 0)) (by (with_reducible repeat first | refine kn ?_ _ | refine kd ?_ | refine ka ?_ _); exact BK200.out)) : gb213 ≠ gb200)); clear BK199; clear BK200; clear HB; have BK199 := n0_; have BK200 := n1_; have HB := n2_; have BK213 := n3_; have GW213 := n4_; have GE213 := n5_; have NB199_213 := n6_; have NB213_199 := n7_; have NB200_213 := n8_; have NB213_200 := n9_; clear n0_ n1_ n2_ n3_ n4_ n5_ n6_ n7_ n8_ n9_; clear hb hbox hg; have hnb93 := NB213_199.out; have hnc93 := NB199_213.out; have hnb94 := NB213_200.out; have hnc94 := NB200_213.out; have hcz95_0 : w92.cell? ⟨gb213, 0, none⟩ = some (.int .i64 0) := (blk_cell BK213.out 0).trans rfl; have hcz95_1 : w92.cell? ⟨gb213, 1, none⟩ = some (.int .i64 0) := (blk_cell BK213.out 1).trans rfl; have hfz95_0 := blk_frozen BK213.out 0; have hfz95_1 := blk_frozen BK213.out 1))
                  have n0_ : Aside0 (((w92.setCell ⟨gb213, 0, none⟩ (.int .i64 t210)).setCell ⟨gb213, 1, none⟩ (.int .i64 t211)).heap[gb199]? = some (.cells #[.int .i64 0, .string (⟨#[]⟩ : ByteArray), .int .i64 0, .int .i64 0, .string (⟨#[]⟩ : ByteArray), .int .i64 0, .int .i64 0] 35 (0, 0))) := ⟨by (repeat first | (with_reducible first | refine kn ?_ _ | refine kd ?_ | refine ka ?_ _ | apply bp) | apply blk_far (hp := NB199_213.out)); exact BK199.out; all_goals rfl⟩
                  have n1_ : Aside0 (((w92.setCell ⟨gb213, 0, none⟩ (.int .i64 t210)).setCell ⟨gb213, 1, none⟩ (.int .i64 t211)).heap[gb200]? = some (.cells #[.int .i64 0, .string (⟨#[]⟩ : ByteArray), .int .i64 0, .int .i64 0, .string (⟨#[]⟩ : ByteArray), .int .i64 a1, .int .i64 0] 35 (0, 0))) := ⟨by (repeat first | (with_reducible first | refine kn ?_ _ | refine kd ?_ | refine ka ?_ _ | apply bp) | apply blk_far (hp := NB200_213.out)); exact BK200.out; all_goals rfl⟩
                  have n2_ : Aside0 (((w92.setCell ⟨gb213, 0, none⟩ (.int .i64 t210)).setCell ⟨gb213, 1, none⟩ (.int .i64 t211)).heap[gb213]? = some (.cells #[.int .i64 t210, .int .i64 t211] 33 (0, 0))) := ⟨by (with_reducible repeat first | refine kn ?_ _ | refine kd ?_ | refine ka ?_ _ | apply bp); exact BK213.out; all_goals rfl⟩
                  have n3_ : Aside0 (Below w.heap.size w ((w92.setCell ⟨gb213, 0, none⟩ (.int .i64 t210)).setCell ⟨gb213, 1, none⟩ (.int .i64 t211))) := ⟨by repeat (first | (with_reducible first | exact HB.out | apply zb | apply zn | apply zd | refine zs ?_ GE199.out | refine zs ?_ GE200.out | refine zs ?_ GE213.out) | exact HB.out)⟩
                  (try clear BK199)
                  (try clear BK200)
                  (try clear BK213)
                  (try clear HB)
                  generalize ((w92.setCell ⟨gb213, 0, none⟩ (.int .i64 t210)).setCell ⟨gb213, 1, none⟩ (.int .i64 t211)) = w96 at n0_ n1_ n2_ n3_ ⊢
                  have BK199 := n0_
                  have BK200 := n1_
                  have BK213 := n2_
                  have HB := n3_
                  clear n0_ n1_ n2_ n3_
                  have n0_ := Aside0.mk (blk_drew BK199.out)
                  have n1_ := Aside0.mk (blk_drew BK200.out)
                  have n2_ := Aside0.mk (blk_drew BK213.out)
                  have n3_ := Aside0.mk (below_drew1 HB.out)
                  clear BK199
                  clear BK200
                  clear BK213
                  clear HB
                  have BK199 := n0_
                  have BK200 := n1_
                  have BK213 := n2_
                  have HB := n3_
                  clear n0_ n1_ n2_ n3_
                  refine start_ (n := 14) (S := fun w' => w'.cell? ⟨gb213, 0, none⟩ = some (.int .i64 t210) ∧ w'.cell? ⟨gb213, 1, none⟩ = some (.int .i64 t211)) (ds := []) #[false, false, false, false, false, false, false, false, false, false, false, false, false, false] (by kernel_rfl) rfl rfl ⟨(blk_cell BK213.out 0).trans rfl, (blk_cell BK213.out 1).trans rfl⟩ (fun hHeld => ?_); refine with_tabW heirloomref07_one.tab16 heirloomref07_one.bits16 (fun HT_ HW_ => ?_)
                  generalize w96.drew = w97 at BK199 BK200 BK213 HB hHeld ⊢
                  refine pure_ (i := 0) (N := some 103) (v := ?_) (a' := ?_) #[true, false, false, false, false, false, false, false, false, false, false, false, false, false] rfl rfl (any_of HT_.out (by kernel_rfl)) (fun _ _ _ h => h) (Or.inl ⟨by rfl, ?_⟩) ?_ ?_
                  rotate_left
                  ·intro w'
                   go_simp
                   with_reducible rfl
                  rotate_left
                  ·simp only [Act.put, List.setIfInBounds_toArray, List.set_cons_zero, List.set_cons_succ, i64_w, i32_w]
                   rfl
                  refine pure_ (i := 1) (N := some 104) (v := ?_) (a' := ?_) #[true, true, false, false, false, false, false, false, false, false, false, false, false, false] rfl rfl (any_of HT_.out (by kernel_rfl)) (fun _ _ _ h => h) (Or.inl ⟨by rfl, ?_⟩) ?_ ?_
                  rotate_left
                  ·intro w'
                   go_simp
                   with_reducible rfl
                  rotate_left
                  ·simp only [Act.put, List.setIfInBounds_toArray, List.set_cons_zero, List.set_cons_succ, i64_w, i32_w]
                   rfl
                  refine pure_ (i := 2) (N := some 105) (v := ?_) (a' := ?_) #[true, true, true, false, false, false, false, false, false, false, false, false, false, false] rfl rfl (any_of HT_.out (by kernel_rfl)) (fun _ _ _ h => h) (Or.inl ⟨by rfl, ?_⟩) ?_ ?_
                  rotate_left
                  ·intro w'
                   go_simp
                   with_reducible rfl
                  rotate_left
                  ·simp only [Act.put, List.setIfInBounds_toArray, List.set_cons_zero, List.set_cons_succ, i64_w, i32_w]
                   rfl
                  refine pure_ (i := 3) (N := some 106) (v := ?_) (a' := ?_) #[true, true, true, true, false, false, false, false, false, false, false, false, false, false] rfl rfl (any_of HT_.out (by kernel_rfl)) (fun _ _ _ h => h) (Or.inl ⟨by rfl, ?_⟩) ?_ ?_
                  rotate_left
                  ·intro w'
                   go_simp
                   with_reducible rfl
                  rotate_left
                  ·simp only [Act.put, List.setIfInBounds_toArray, List.set_cons_zero, List.set_cons_succ, i64_w, i32_w]
                   rfl
                  refine pure_ (i := 4) (N := some 107) (v := ?_) (a' := ?_) #[true, true, true, true, true, false, false, false, false, false, false, false, false, false] rfl rfl (any_of HT_.out (by kernel_rfl)) (fun _ _ _ h => h) (Or.inl ⟨by rfl, ?_⟩) ?_ ?_
                  rotate_left
                  ·intro w'
                   go_simp
                   with_reducible rfl
                  rotate_left
                  ·simp only [Act.put, List.setIfInBounds_toArray, List.set_cons_zero, List.set_cons_succ, i64_w, i32_w]
                   rfl
                  refine pure_ (i := 6) (N := some 109) (v := ?_) (a' := ?_) #[true, true, true, true, true, false, true, false, false, false, false, false, false, false] rfl rfl (any_of HT_.out (by kernel_rfl)) (fun _ _ _ h => h) (Or.inl ⟨by rfl, ?_⟩) ?_ ?_
                  rotate_left
                  ·intro w'
                   go_simp
                   with_reducible rfl
                  rotate_left
                  ·simp only [Act.put, List.setIfInBounds_toArray, List.set_cons_zero, List.set_cons_succ, i64_w, i32_w]
                   rfl
                  refine take_ (i := 5) (N := some 108) (v := ?_) (a' := ?_) #[true, true, true, true, true, true, true, false, false, false, false, false, false, false] rfl rfl (take_ofW HT_.out HW_.out (by kernel_rfl)) (fun _ _ _ h => h) (Or.inl ⟨by rfl, ?_⟩) hHeld ?_ ?_
                  rotate_left
                  ·rintro w' ⟨s0, s1⟩
                   go_simp
                   with_reducible rfl
                  rotate_left
                  ·simp only [Act.put, List.setIfInBounds_toArray, List.set_cons_zero, List.set_cons_succ, i64_w, i32_w]
                   rfl
                  refine one_ (i := 7) (N := none) #[true, true, true, true, true, true, true, true, false, false, false, false, false, false] rfl rfl (one_of HT_.out (by kernel_rfl)) (by decide) (fun K hK => ?_)
                  have hs98 : w97.cell? ⟨gb200, 0, none⟩ = some (.int .i64 0) := (blk_cell BK200.out 0).trans rfl
                  have hfs98 := blk_frozen BK200.out 0
                  have hns98_0 := NB199_200.out
                  have hns98_2 := NB213_200.out
                  have hms98_0 := NB200_199.out
                  have hms98_2 := NB200_213.out
                  refine skip_ (w1 := ?_) (by rfl) rfl ?_ ?_
                  rotate_left
                  ·go_simp
                   rfl
                  refine hK.out _ _ ⟨((cell_far (p := ⟨gb200, _, none⟩) NB213_200.out _).trans (hHeld.1)), ((cell_far (p := ⟨gb200, _, none⟩) NB213_200.out _).trans (hHeld.2))⟩ (fun hHeld => ?_)
                  clear hK K
                  refine pure_ (i := 8) (N := some 110) (v := ?_) (a' := ?_) #[true, true, true, true, true, true, true, true, true, false, false, false, false, false] rfl rfl (any_of HT_.out (by kernel_rfl)) (fun _ _ _ h => h) (Or.inl ⟨by rfl, ?_⟩) ?_ ?_
                  rotate_left
                  ·intro w'
                   go_simp
                   with_reducible rfl
                  rotate_left
                  ·simp only [Act.put, List.setIfInBounds_toArray, List.set_cons_zero, List.set_cons_succ, i64_w, i32_w]
                   rfl
                  refine one_ (i := 9) (N := none) #[true, true, true, true, true, true, true, true, true, true, false, false, false, false] rfl rfl (one_of HT_.out (by kernel_rfl)) (by decide) (fun K hK => ?_)
                  have hs99 : w97.cell? ⟨gb200, 1, none⟩ = some (.string (⟨#[]⟩ : ByteArray)) := (blk_cell BK200.out 1).trans rfl
                  have hfs99 := blk_frozen BK200.out 1
                  have hns99_0 := NB199_200.out
                  have hns99_2 := NB213_200.out
                  have hms99_0 := NB200_199.out
                  have hms99_2 := NB200_213.out
                  refine skip_ (w1 := ?_) (by rfl) rfl ?_ ?_
                  rotate_left
                  ·go_simp
                   rfl
                  refine hK.out _ _ ⟨((cell_far (p := ⟨gb200, _, none⟩) NB213_200.out _).trans (hHeld.1)), ((cell_far (p := ⟨gb200, _, none⟩) NB213_200.out _).trans (hHeld.2))⟩ (fun hHeld => ?_)
                  clear hK K
                  refine pure_ (i := 10) (N := some 111) (v := ?_) (a' := ?_) #[true, true, true, true, true, true, true, true, true, true, true, false, false, false] rfl rfl (any_of HT_.out (by kernel_rfl)) (fun _ _ _ h => h) (Or.inl ⟨by rfl, ?_⟩) ?_ ?_
                  rotate_left
                  ·intro w'
                   go_simp
                   with_reducible rfl
                  rotate_left
                  ·simp only [Act.put, List.setIfInBounds_toArray, List.set_cons_zero, List.set_cons_succ, i64_w, i32_w]
                   rfl
                  refine one_ (i := 11) (N := none) #[true, true, true, true, true, true, true, true, true, true, true, true, false, false] rfl rfl (one_of HT_.out (by kernel_rfl)) (by decide) (fun K hK => ?_)
                  have hs100 : w97.cell? ⟨gb200, 6, none⟩ = some (.int .i64 0) := (blk_cell BK200.out 6).trans rfl
                  have hfs100 := blk_frozen BK200.out 6
                  have hns100_0 := NB199_200.out
                  have hns100_2 := NB213_200.out
                  have hms100_0 := NB200_199.out
                  have hms100_2 := NB200_213.out
                  refine skip_ (w1 := ?_) (by rfl) rfl ?_ ?_
                  rotate_left
                  ·go_simp
                   rfl
                  refine hK.out _ _ ⟨((cell_far (p := ⟨gb200, _, none⟩) NB213_200.out _).trans (hHeld.1)), ((cell_far (p := ⟨gb200, _, none⟩) NB213_200.out _).trans (hHeld.2))⟩ (fun hHeld => ?_)
                  clear hK K
                  refine pure_ (i := 12) (N := some 112) (v := ?_) (a' := ?_) #[true, true, true, true, true, true, true, true, true, true, true, true, true, false] rfl rfl (any_of HT_.out (by kernel_rfl)) (fun _ _ _ h => h) (Or.inl ⟨by rfl, ?_⟩) ?_ ?_
                  rotate_left
                  ·intro w'
                   go_simp
                   with_reducible rfl
                  rotate_left
                  ·simp only [Act.put, List.setIfInBounds_toArray, List.set_cons_zero, List.set_cons_succ, i64_w, i32_w]
                   rfl
                  refine one_ (i := 13) (N := none) #[true, true, true, true, true, true, true, true, true, true, true, true, true, true] rfl rfl (one_of HT_.out (by kernel_rfl)) (by decide) (fun K hK => ?_)
                  have hs101 : w97.cell? ⟨gb200, 2, none⟩ = some (.int .i64 0) := (blk_cell BK200.out 2).trans rfl
                  have hfs101 := blk_frozen BK200.out 2
                  have hns101_0 := NB199_200.out
                  have hns101_2 := NB213_200.out
                  have hms101_0 := NB200_199.out
                  have hms101_2 := NB200_213.out
                  have hs102 : w97.cell? ⟨gb200, 3, none⟩ = some (.int .i64 0) := (blk_cell BK200.out 3).trans rfl
                  have hfs102 := blk_frozen BK200.out 3
                  have hns102_0 := NB199_200.out
                  have hns102_2 := NB213_200.out
                  have hms102_0 := NB200_199.out
                  have hms102_2 := NB200_213.out
                  refine skip_ (w1 := ?_) (by rfl) rfl ?_ ?_
                  rotate_left
                  ·go_simp
                   rfl
                  refine hK.out _ _ ⟨((cell_far (p := ⟨gb200, _, none⟩) NB213_200.out _).trans (((cell_far (p := ⟨gb200, _, none⟩) NB213_200.out _).trans (hHeld.1)))), ((cell_far (p := ⟨gb200, _, none⟩) NB213_200.out _).trans (((cell_far (p := ⟨gb200, _, none⟩) NB213_200.out _).trans (hHeld.2))))⟩ (fun hHeld => ?_)
                  clear hK K
                  refine done_ (done_of HT_.out (by kernel_rfl)) ?_
                  have hnb103 := NB200_199.out
                  have hnc103 := NB199_200.out
                  have hcz104_0 : w97.cell? ⟨gb200, 0, none⟩ = some (.int .i64 0) := (blk_cell BK200.out 0).trans rfl
                  have hcz104_1 : w97.cell? ⟨gb200, 1, none⟩ = some (.string (⟨#[]⟩ : ByteArray)) := (blk_cell BK200.out 1).trans rfl
                  have hcz104_2 : w97.cell? ⟨gb200, 2, none⟩ = some (.int .i64 0) := (blk_cell BK200.out 2).trans rfl
                  have hcz104_3 : w97.cell? ⟨gb200, 3, none⟩ = some (.int .i64 0) := (blk_cell BK200.out 3).trans rfl
                  have hcz104_4 : w97.cell? ⟨gb200, 4, none⟩ = some (.string (⟨#[]⟩ : ByteArray)) := (blk_cell BK200.out 4).trans rfl
                  have hcz104_5 : w97.cell? ⟨gb200, 5, none⟩ = some (.int .i64 a1) := (blk_cell BK200.out 5).trans rfl
                  have hcz104_6 : w97.cell? ⟨gb200, 6, none⟩ = some (.int .i64 0) := (blk_cell BK200.out 6).trans rfl
                  have hfz104_0 := blk_frozen BK200.out 0
                  have hfz104_1 := blk_frozen BK200.out 1
                  have hfz104_2 := blk_frozen BK200.out 2
                  have hfz104_3 := blk_frozen BK200.out 3
                  have hfz104_4 := blk_frozen BK200.out 4
                  have hfz104_5 := blk_frozen BK200.out 5
                  have hfz104_6 := blk_frozen BK200.out 6
                  have hcz105_0 : w97.cell? ⟨gb199, 0, none⟩ = some (.int .i64 0) := (blk_cell BK199.out 0).trans rfl
                  have hcz105_1 : w97.cell? ⟨gb199, 1, none⟩ = some (.string (⟨#[]⟩ : ByteArray)) := (blk_cell BK199.out 1).trans rfl
                  have hcz105_2 : w97.cell? ⟨gb199, 2, none⟩ = some (.int .i64 0) := (blk_cell BK199.out 2).trans rfl
                  have hcz105_3 : w97.cell? ⟨gb199, 3, none⟩ = some (.int .i64 0) := (blk_cell BK199.out 3).trans rfl
                  have hcz105_4 : w97.cell? ⟨gb199, 4, none⟩ = some (.string (⟨#[]⟩ : ByteArray)) := (blk_cell BK199.out 4).trans rfl
                  have hcz105_5 : w97.cell? ⟨gb199, 5, none⟩ = some (.int .i64 0) := (blk_cell BK199.out 5).trans rfl
                  have hcz105_6 : w97.cell? ⟨gb199, 6, none⟩ = some (.int .i64 0) := (blk_cell BK199.out 6).trans rfl
                  have hfz105_0 := blk_frozen BK199.out 0
                  have hfz105_1 := blk_frozen BK199.out 1
                  have hfz105_2 := blk_frozen BK199.out 2
                  have hfz105_3 := blk_frozen BK199.out 3
                  have hfz105_4 := blk_frozen BK199.out 4
                  have hfz105_5 := blk_frozen BK199.out 5
                  have hfz105_6 := blk_frozen BK199.out 6
                  try go_wp2
                  refine bodyPost_ret (results_ct rfl _ _ gb199 35 #[.int .i64 3, .string (a0.extract (a1 : Int).toNat (x7_1 : Int).toNat), .int .i64 t210, .int .i64 t211, .string (⟨#[]⟩ : ByteArray), .int .i64 a1, .int .i64 x7_1] (0, 0) _ rfl (by (repeat first | (with_reducible first | refine kn ?_ _ | refine kd ?_ | refine ka ?_ _ | apply bp) | apply blk_far (hp := NB199_200.out)); exact BK199.out; all_goals rfl) Tryd.underlying35 rfl (by kernel_rfl)) rfl ?_
                  exact ⟨by first | rfl | (simp [errW_none, errW_some] <;> rfl) | (simp only [← hji79]; first | rfl | (simp [errW_none, errW_some] <;> rfl)) | (simp [*, errW_none, errW_some] <;> rfl), by repeat (first | (with_reducible first | exact HB.out | apply zb | apply zn | apply zd | refine zs ?_ GE199.out | refine zs ?_ GE200.out | refine zs ?_ GE213.out) | exact HB.out)⟩
                 ·rw [if_neg c86] at H
                  exact absurd H (by simp)
                ·rw [if_neg c85] at H
                 exact absurd H (by simp)
               ·rw [if_neg c84] at H
                exact absurd H (by simp)
             ·rw [if_neg c80] at H
              exact absurd H (by simp)
            ·rw [if_neg c78] at H
             have c78b0 : decide ((wrap64 (x7_1 + 1)) < (a0.size : Int)) = false := decide_eq_false c78
             clear c78
             by_cases c106 : 0 ≤ a1
             ·rw [if_pos c106] at H
              have c106b0 := eq_true c106
              have c106b1 : decide (0 ≤ a1) = true := decide_eq_true c106
              clear c106
              by_cases c107 : a1 ≤ x7_1
              ·rw [if_pos c107] at H
               have c107b0 := eq_true c107
               have c107b1 : decide (a1 ≤ x7_1) = true := decide_eq_true c107
               clear c107
               by_cases c108 : x7_1 ≤ (a0.size : Int)
               ·rw [if_pos c108] at H
                have c108b0 := eq_true c108
                have c108b1 : decide (x7_1 ≤ (a0.size : Int)) = true := decide_eq_true c108
                clear c108
                replace H := Option.bind_eq_some_iff.mp H
                obtain ⟨⟨t214, t215, t216⟩, A1090, H⟩ := H
                replace H : (some (3, a0.extract (a1 : Int).toNat (x7_1 : Int).toNat, t214, t215, (⟨#[]⟩ : ByteArray), a1, x7_1, t216)) = some (r1, r2, r3, r4, r5, r6, r7, r8) := H
                have A109 := Aside0.mk A1090
                clear A1090
                have c110b0 := eq_true (of_decide_eq_true (by first | (with_reducible assumption) | assumption) : 0 ≤ a1)
                have c111b0 := eq_true (of_decide_eq_true (by first | (with_reducible assumption) | assumption) : a1 ≤ x7_1)
                have c112b0 := eq_true (of_decide_eq_true (by first | (with_reducible assumption) | assumption) : x7_1 ≤ (a0.size : Int))
                simp only [Option.some.injEq, Prod.mk.injEq] at H
                obtain ⟨rfl, rfl, rfl, rfl, rfl, rfl, rfl, rfl⟩ := H
                have p70 : 0 ≤ (x7_1 : Int) := of_decide_eq_true (by first | (with_reducible assumption) | assumption)
                have q70 : x7_1 < (a0.size : Int) := of_decide_eq_true (by first | (with_reducible assumption) | assumption)
                have hx70 := bt_at a0 x7_1
                replace p70 := eq_true p70
                replace q70 := eq_true q70
                try go_wp2_with (first | (go_at_call 42; (with_reducible refine (heirloomref07_letter.calls (bt a0 x7_1) false _ A71.out).mono ?_); rintro e w' ⟨rfl, ⟨nd, rfl⟩⟩; (try (rw [drewN_self wr]; generalize hq_ : World.drewN wr _ = wr; have n0_ : Aside0 (wr.heap[gb199]? = some (.cells #[.int .i64 0, .string (⟨#[]⟩ : ByteArray), .int .i64 0, .int .i64 0, .string (⟨#[]⟩ : ByteArray), .int .i64 0, .int .i64 0] 35 (0, 0))) := ⟨by rw [← hq_]; exact (by (with_reducible repeat first | refine kn ?_ _ | refine kd ?_ | refine ka ?_ _); exact BK199.out)⟩; have n1_ : Aside0 (wr.heap[gb200]? = some (.cells #[.int .i64 0, .string (⟨#[]⟩ : ByteArray), .int .i64 0, .int .i64 0, .string (⟨#[]⟩ : ByteArray), .int .i64 a1, .int .i64 0] 35 (0, 0))) := ⟨by rw [← hq_]; exact (by (with_reducible repeat first | refine kn ?_ _ | refine kd ?_ | refine ka ?_ _); exact BK200.out)⟩; have n2_ : Aside0 (Below w.heap.size w wr) := ⟨by rw [← hq_]; exact (by repeat (first | (with_reducible first | exact HB.out | apply zb | apply zn | apply zd | refine zs ?_ GE199.out | refine zs ?_ GE200.out) | exact HB.out))⟩; clear BK199 BK200 HB hq_; have BK199 := n0_; have BK200 := n1_; have HB := n2_; clear n0_ n1_ n2_)); have p73 : 0 ≤ (x7_1 : Int) := of_decide_eq_true (by first | (with_reducible assumption) | assumption); have q73 : x7_1 < (a0.size : Int) := of_decide_eq_true (by first | (with_reducible assumption) | assumption); have hx73 := bt_at a0 x7_1; replace p73 := eq_true p73; replace q73 := eq_true q73) | (go_at_call 43; (with_reducible refine (heirloomref07_digit.calls (bt a0 x7_1) false _ A74.out).mono ?_); rintro e w' ⟨rfl, ⟨nd, rfl⟩⟩; (try (rw [drewN_self wr]; generalize hq_ : World.drewN wr _ = wr; have n0_ : Aside0 (wr.heap[gb199]? = some (.cells #[.int .i64 0, .string (⟨#[]⟩ : ByteArray), .int .i64 0, .int .i64 0, .string (⟨#[]⟩ : ByteArray), .int .i64 0, .int .i64 0] 35 (0, 0))) := ⟨by rw [← hq_]; exact (by (with_reducible repeat first | refine kn ?_ _ | refine kd ?_ | refine ka ?_ _); exact BK199.out)⟩; have n1_ : Aside0 (wr.heap[gb200]? = some (.cells #[.int .i64 0, .string (⟨#[]⟩ : ByteArray), .int .i64 0, .int .i64 0, .string (⟨#[]⟩ : ByteArray), .int .i64 a1, .int .i64 0] 35 (0, 0))) := ⟨by rw [← hq_]; exact (by (with_reducible repeat first | refine kn ?_ _ | refine kd ?_ | refine ka ?_ _); exact BK200.out)⟩; have n2_ : Aside0 (Below w.heap.size w wr) := ⟨by rw [← hq_]; exact (by repeat (first | (with_reducible first | exact HB.out | apply zb | apply zn | apply zd | refine zs ?_ GE199.out | refine zs ?_ GE200.out) | exact HB.out))⟩; clear BK199 BK200 HB hq_; have BK199 := n0_; have BK200 := n1_; have HB := n2_; clear n0_ n1_ n2_)); have p76 : 0 ≤ (x7_1 : Int) := of_decide_eq_true (by first | (with_reducible assumption) | assumption); have q76 : x7_1 < (a0.size : Int) := of_decide_eq_true (by first | (with_reducible assumption) | assumption); have hx76 := bt_at a0 x7_1; replace p76 := eq_true p76; replace q76 := eq_true q76) | ((with_reducible refine gate_callee (f := 44) rfl ?_); refine goesL_ (some 100) rfl rfl Tryd.func44 (by kernel_rfl) rfl #[.string (a0.extract (a1 : Int).toNat (x7_1 : Int).toNat)] rfl (by (try simp only [List.map_toArray, List.map_cons, List.map_nil]); first | done | rfl | (simp only [List.length_drop, List.length_take]; rfl)) ?_; (with_reducible refine (heirloomref01_Read.calls k1 (a0.extract (a1 : Int).toNat (x7_1 : Int).toNat) t214 t215 t216 _ A109.out).mono ?_); rintro e w113 ⟨rfl, hb⟩; refine ⟨_, rfl, ?_⟩; have n0_ := Aside0.mk (blk_below (g := gb199) (o := .cells #[.int .i64 0, .string (⟨#[]⟩ : ByteArray), .int .i64 0, .int .i64 0, .string (⟨#[]⟩ : ByteArray), .int .i64 0, .int .i64 0] 35 (0, 0)) (by (with_reducible repeat first | refine kn ?_ _ | refine kd ?_ | refine ka ?_ _); exact BK199.out) hb); have n1_ := Aside0.mk (blk_below (g := gb200) (o := .cells #[.int .i64 0, .string (⟨#[]⟩ : ByteArray), .int .i64 0, .int .i64 0, .string (⟨#[]⟩ : ByteArray), .int .i64 a1, .int .i64 0] 35 (0, 0)) (by (with_reducible repeat first | refine kn ?_ _ | refine kd ?_ | refine ka ?_ _); exact BK200.out) hb); have n2_ := Aside0.mk (below_step (by repeat (first | (with_reducible first | exact HB.out | apply zb | apply zn | apply zd | refine zs ?_ GE199.out | refine zs ?_ GE200.out) | exact HB.out)) hb); clear BK199; clear BK200; clear HB; have BK199 := n0_; have BK200 := n1_; have HB := n2_; clear n0_ n1_ n2_; (try clear hb)) | ((with_reducible refine gate_dst (N := 9) rfl ?_); (try (refine gate_guard (by rfl) ?_; dsimp only)); refine box_event ?hg (N := 9) ?hd (cs := #[.int .i64 0, .int .i64 0]) (t := 33) ?hr ?_; (case hd => rfl); (case hg => rfl); (case hr => go_simp <;> rfl); intro gb217 hg w114 hbox hb; have n0_ := Aside0.mk (blk_below (g := gb199) (o := .cells #[.int .i64 0, .string (⟨#[]⟩ : ByteArray), .int .i64 0, .int .i64 0, .string (⟨#[]⟩ : ByteArray), .int .i64 0, .int .i64 0] 35 (0, 0)) (by (with_reducible repeat first | refine kn ?_ _ | refine kd ?_ | refine ka ?_ _); exact BK199.out) hb); have n1_ := Aside0.mk (blk_below (g := gb200) (o := .cells #[.int .i64 0, .string (⟨#[]⟩ : ByteArray), .int .i64 0, .int .i64 0, .string (⟨#[]⟩ : ByteArray), .int .i64 a1, .int .i64 0] 35 (0, 0)) (by (with_reducible repeat first | refine kn ?_ _ | refine kd ?_ | refine ka ?_ _); exact BK200.out) hb); have n2_ := Aside0.mk (below_step (by repeat (first | (with_reducible first | exact HB.out | apply zb | apply zn | apply zd | refine zs ?_ GE199.out | refine zs ?_ GE200.out) | exact HB.out)) hb); have n3_ := Aside0.mk (hbox); have n4_ := Aside0.mk ((by rw [hg]; exact (below_size (by repeat (first | (with_reducible first | exact HB.out | apply zb | apply zn | apply zd | refine zs ?_ GE199.out | refine zs ?_ GE200.out) | exact HB.out))) : w.heap.size ≤ gb217)); have n5_ := Aside0.mk ((by rw [hg]; exact (below_size (by repeat (first | (with_reducible first | exact HB.out | apply zb | apply zn | apply zd | refine zs ?_ GE199.out | refine zs ?_ GE200.out) | exact HB.out))) : w.heap.size ≤ gb217)); have n6_ := Aside0.mk ((by rw [hg]; exact Nat.ne_of_lt (blk_lt (g := gb199) (o := .cells #[.int .i64 0, .string (⟨#[]⟩ : ByteArray), .int .i64 0, .int .i64 0, .string (⟨#[]⟩ : ByteArray), .int .i64 0, .int .i64 0] 35 (0, 0)) (by (with_reducible repeat first | refine kn ?_ _ | refine kd ?_ | refine ka ?_ _); exact BK199.out)) : gb199 ≠ gb217)); have n7_ := Aside0.mk ((by rw [hg]; exact Nat.ne_of_gt (blk_lt (g := gb199) (o := .cells #[.int .i64 0, .string (⟨#[]⟩ : ByteArray), .int .i64 0, .int .i64 0, .string (⟨#[]⟩ : ByteArray), .int .i64 0, .int .i64 0] 35 (0, 0)) (by (with_reducible repeat first | refine kn ?_ _ | refine kd ?_ | refine ka ?_ _); exact BK199.out)) : gb217 ≠ gb199)); have n8_ := Aside0.mk ((by rw [hg]; exact Nat.ne_of_lt (blk_lt (g := gb200) (o := .cells #[.int .i64 0, .string (⟨#[]⟩ : ByteArray), .int .i64 0, .int .i64 0, .string (⟨#[]⟩ : ByteArray), .int .i64 a1, .int .i64 0] 35 (0, 0)) (by (with_reducible repeat first | refine kn ?_ _ | refine kd ?_ | refine ka ?_ _); exact BK200.out)) : gb200 ≠ gb217)); have n9_ := Aside0.mk ((by rw [hg]; exact Nat.ne_of_gt (blk_lt (g := gb200) (o := .cells #[.int .i64 0, .string (⟨#[]⟩ : ByteArray), .int .i64 0, .int .i64 0, .string (⟨#[]⟩ : ByteArray), .int .i64 a1, .int .i64 0] 35 (0, 0)) (by (with_reducible repeat first | refine kn ?_ _ | refine kd ?_ | refine ka ?_ _); exact BK200.out)) : gb217 ≠ gb200)); clear BK199; clear BK200; clear HB; have BK199 := n0_; have BK200 := n1_; have HB := n2_; have BK217 := n3_; have GW217 := n4_; have GE217 := n5_; have NB199_217 := n6_; have NB217_199 := n7_; have NB200_217 := n8_; have NB217_200 := n9_; clear n0_ n1_ n2_ n3_ n4_ n5_ n6_ n7_ n8_ n9_; clear hb hbox hg; have hnb115 := NB217_199.out; have hnc115 := NB199_217.out; have hnb116 := NB217_200.out; have hnc116 := NB200_217.out; have hcz117_0 : w114.cell? ⟨gb217, 0, none⟩ = some (.int .i64 0) := (blk_cell BK217.out 0).trans rfl; have hcz117_1 : w114.cell? ⟨gb217, 1, none⟩ = some (.int .i64 0) := (blk_cell BK217.out 1).trans rfl; have hfz117_0 := blk_frozen BK217.out 0; have hfz117_1 := blk_frozen BK217.out 1))
                have n0_ : Aside0 (((w114.setCell ⟨gb217, 0, none⟩ (.int .i64 t214)).setCell ⟨gb217, 1, none⟩ (.int .i64 t215)).heap[gb199]? = some (.cells #[.int .i64 0, .string (⟨#[]⟩ : ByteArray), .int .i64 0, .int .i64 0, .string (⟨#[]⟩ : ByteArray), .int .i64 0, .int .i64 0] 35 (0, 0))) := ⟨by (repeat first | (with_reducible first | refine kn ?_ _ | refine kd ?_ | refine ka ?_ _ | apply bp) | apply blk_far (hp := NB199_217.out)); exact BK199.out; all_goals rfl⟩
                have n1_ : Aside0 (((w114.setCell ⟨gb217, 0, none⟩ (.int .i64 t214)).setCell ⟨gb217, 1, none⟩ (.int .i64 t215)).heap[gb200]? = some (.cells #[.int .i64 0, .string (⟨#[]⟩ : ByteArray), .int .i64 0, .int .i64 0, .string (⟨#[]⟩ : ByteArray), .int .i64 a1, .int .i64 0] 35 (0, 0))) := ⟨by (repeat first | (with_reducible first | refine kn ?_ _ | refine kd ?_ | refine ka ?_ _ | apply bp) | apply blk_far (hp := NB200_217.out)); exact BK200.out; all_goals rfl⟩
                have n2_ : Aside0 (((w114.setCell ⟨gb217, 0, none⟩ (.int .i64 t214)).setCell ⟨gb217, 1, none⟩ (.int .i64 t215)).heap[gb217]? = some (.cells #[.int .i64 t214, .int .i64 t215] 33 (0, 0))) := ⟨by (with_reducible repeat first | refine kn ?_ _ | refine kd ?_ | refine ka ?_ _ | apply bp); exact BK217.out; all_goals rfl⟩
                have n3_ : Aside0 (Below w.heap.size w ((w114.setCell ⟨gb217, 0, none⟩ (.int .i64 t214)).setCell ⟨gb217, 1, none⟩ (.int .i64 t215))) := ⟨by repeat (first | (with_reducible first | exact HB.out | apply zb | apply zn | apply zd | refine zs ?_ GE199.out | refine zs ?_ GE200.out | refine zs ?_ GE217.out) | exact HB.out)⟩
                (try clear BK199)
                (try clear BK200)
                (try clear BK217)
                (try clear HB)
                generalize ((w114.setCell ⟨gb217, 0, none⟩ (.int .i64 t214)).setCell ⟨gb217, 1, none⟩ (.int .i64 t215)) = w118 at n0_ n1_ n2_ n3_ ⊢
                have BK199 := n0_
                have BK200 := n1_
                have BK217 := n2_
                have HB := n3_
                clear n0_ n1_ n2_ n3_
                have n0_ := Aside0.mk (blk_drew BK199.out)
                have n1_ := Aside0.mk (blk_drew BK200.out)
                have n2_ := Aside0.mk (blk_drew BK217.out)
                have n3_ := Aside0.mk (below_drew1 HB.out)
                clear BK199
                clear BK200
                clear BK217
                clear HB
                have BK199 := n0_
                have BK200 := n1_
                have BK217 := n2_
                have HB := n3_
                clear n0_ n1_ n2_ n3_
                refine start_ (n := 14) (S := fun w' => w'.cell? ⟨gb217, 0, none⟩ = some (.int .i64 t214) ∧ w'.cell? ⟨gb217, 1, none⟩ = some (.int .i64 t215)) (ds := []) #[false, false, false, false, false, false, false, false, false, false, false, false, false, false] (by kernel_rfl) rfl rfl ⟨(blk_cell BK217.out 0).trans rfl, (blk_cell BK217.out 1).trans rfl⟩ (fun hHeld => ?_); refine with_tabW heirloomref07_one.tab16 heirloomref07_one.bits16 (fun HT_ HW_ => ?_)
                generalize w118.drew = w119 at BK199 BK200 BK217 HB hHeld ⊢
                refine pure_ (i := 0) (N := some 103) (v := ?_) (a' := ?_) #[true, false, false, false, false, false, false, false, false, false, false, false, false, false] rfl rfl (any_of HT_.out (by kernel_rfl)) (fun _ _ _ h => h) (Or.inl ⟨by rfl, ?_⟩) ?_ ?_
                rotate_left
                ·intro w'
                 go_simp
                 with_reducible rfl
                rotate_left
                ·simp only [Act.put, List.setIfInBounds_toArray, List.set_cons_zero, List.set_cons_succ, i64_w, i32_w]
                 rfl
                refine pure_ (i := 1) (N := some 104) (v := ?_) (a' := ?_) #[true, true, false, false, false, false, false, false, false, false, false, false, false, false] rfl rfl (any_of HT_.out (by kernel_rfl)) (fun _ _ _ h => h) (Or.inl ⟨by rfl, ?_⟩) ?_ ?_
                rotate_left
                ·intro w'
                 go_simp
                 with_reducible rfl
                rotate_left
                ·simp only [Act.put, List.setIfInBounds_toArray, List.set_cons_zero, List.set_cons_succ, i64_w, i32_w]
                 rfl
                refine pure_ (i := 2) (N := some 105) (v := ?_) (a' := ?_) #[true, true, true, false, false, false, false, false, false, false, false, false, false, false] rfl rfl (any_of HT_.out (by kernel_rfl)) (fun _ _ _ h => h) (Or.inl ⟨by rfl, ?_⟩) ?_ ?_
                rotate_left
                ·intro w'
                 go_simp
                 with_reducible rfl
                rotate_left
                ·simp only [Act.put, List.setIfInBounds_toArray, List.set_cons_zero, List.set_cons_succ, i64_w, i32_w]
                 rfl
                refine pure_ (i := 3) (N := some 106) (v := ?_) (a' := ?_) #[true, true, true, true, false, false, false, false, false, false, false, false, false, false] rfl rfl (any_of HT_.out (by kernel_rfl)) (fun _ _ _ h => h) (Or.inl ⟨by rfl, ?_⟩) ?_ ?_
                rotate_left
                ·intro w'
                 go_simp
                 with_reducible rfl
                rotate_left
                ·simp only [Act.put, List.setIfInBounds_toArray, List.set_cons_zero, List.set_cons_succ, i64_w, i32_w]
                 rfl
                refine pure_ (i := 4) (N := some 107) (v := ?_) (a' := ?_) #[true, true, true, true, true, false, false, false, false, false, false, false, false, false] rfl rfl (any_of HT_.out (by kernel_rfl)) (fun _ _ _ h => h) (Or.inl ⟨by rfl, ?_⟩) ?_ ?_
                rotate_left
                ·intro w'
                 go_simp
                 with_reducible rfl
                rotate_left
                ·simp only [Act.put, List.setIfInBounds_toArray, List.set_cons_zero, List.set_cons_succ, i64_w, i32_w]
                 rfl
                refine pure_ (i := 6) (N := some 109) (v := ?_) (a' := ?_) #[true, true, true, true, true, false, true, false, false, false, false, false, false, false] rfl rfl (any_of HT_.out (by kernel_rfl)) (fun _ _ _ h => h) (Or.inl ⟨by rfl, ?_⟩) ?_ ?_
                rotate_left
                ·intro w'
                 go_simp
                 with_reducible rfl
                rotate_left
                ·simp only [Act.put, List.setIfInBounds_toArray, List.set_cons_zero, List.set_cons_succ, i64_w, i32_w]
                 rfl
                refine take_ (i := 5) (N := some 108) (v := ?_) (a' := ?_) #[true, true, true, true, true, true, true, false, false, false, false, false, false, false] rfl rfl (take_ofW HT_.out HW_.out (by kernel_rfl)) (fun _ _ _ h => h) (Or.inl ⟨by rfl, ?_⟩) hHeld ?_ ?_
                rotate_left
                ·rintro w' ⟨s0, s1⟩
                 go_simp
                 with_reducible rfl
                rotate_left
                ·simp only [Act.put, List.setIfInBounds_toArray, List.set_cons_zero, List.set_cons_succ, i64_w, i32_w]
                 rfl
                refine one_ (i := 7) (N := none) #[true, true, true, true, true, true, true, true, false, false, false, false, false, false] rfl rfl (one_of HT_.out (by kernel_rfl)) (by decide) (fun K hK => ?_)
                have hs120 : w119.cell? ⟨gb200, 0, none⟩ = some (.int .i64 0) := (blk_cell BK200.out 0).trans rfl
                have hfs120 := blk_frozen BK200.out 0
                have hns120_0 := NB199_200.out
                have hns120_2 := NB217_200.out
                have hms120_0 := NB200_199.out
                have hms120_2 := NB200_217.out
                refine skip_ (w1 := ?_) (by rfl) rfl ?_ ?_
                rotate_left
                ·go_simp
                 rfl
                refine hK.out _ _ ⟨((cell_far (p := ⟨gb200, _, none⟩) NB217_200.out _).trans (hHeld.1)), ((cell_far (p := ⟨gb200, _, none⟩) NB217_200.out _).trans (hHeld.2))⟩ (fun hHeld => ?_)
                clear hK K
                refine pure_ (i := 8) (N := some 110) (v := ?_) (a' := ?_) #[true, true, true, true, true, true, true, true, true, false, false, false, false, false] rfl rfl (any_of HT_.out (by kernel_rfl)) (fun _ _ _ h => h) (Or.inl ⟨by rfl, ?_⟩) ?_ ?_
                rotate_left
                ·intro w'
                 go_simp
                 with_reducible rfl
                rotate_left
                ·simp only [Act.put, List.setIfInBounds_toArray, List.set_cons_zero, List.set_cons_succ, i64_w, i32_w]
                 rfl
                refine one_ (i := 9) (N := none) #[true, true, true, true, true, true, true, true, true, true, false, false, false, false] rfl rfl (one_of HT_.out (by kernel_rfl)) (by decide) (fun K hK => ?_)
                have hs121 : w119.cell? ⟨gb200, 1, none⟩ = some (.string (⟨#[]⟩ : ByteArray)) := (blk_cell BK200.out 1).trans rfl
                have hfs121 := blk_frozen BK200.out 1
                have hns121_0 := NB199_200.out
                have hns121_2 := NB217_200.out
                have hms121_0 := NB200_199.out
                have hms121_2 := NB200_217.out
                refine skip_ (w1 := ?_) (by rfl) rfl ?_ ?_
                rotate_left
                ·go_simp
                 rfl
                refine hK.out _ _ ⟨((cell_far (p := ⟨gb200, _, none⟩) NB217_200.out _).trans (hHeld.1)), ((cell_far (p := ⟨gb200, _, none⟩) NB217_200.out _).trans (hHeld.2))⟩ (fun hHeld => ?_)
                clear hK K
                refine pure_ (i := 10) (N := some 111) (v := ?_) (a' := ?_) #[true, true, true, true, true, true, true, true, true, true, true, false, false, false] rfl rfl (any_of HT_.out (by kernel_rfl)) (fun _ _ _ h => h) (Or.inl ⟨by rfl, ?_⟩) ?_ ?_
                rotate_left
                ·intro w'
                 go_simp
                 with_reducible rfl
                rotate_left
                ·simp only [Act.put, List.setIfInBounds_toArray, List.set_cons_zero, List.set_cons_succ, i64_w, i32_w]
                 rfl
                refine one_ (i := 11) (N := none) #[true, true, true, true, true, true, true, true, true, true, true, true, false, false] rfl rfl (one_of HT_.out (by kernel_rfl)) (by decide) (fun K hK => ?_)
                have hs122 : w119.cell? ⟨gb200, 6, none⟩ = some (.int .i64 0) := (blk_cell BK200.out 6).trans rfl
                have hfs122 := blk_frozen BK200.out 6
                have hns122_0 := NB199_200.out
                have hns122_2 := NB217_200.out
                have hms122_0 := NB200_199.out
                have hms122_2 := NB200_217.out
                refine skip_ (w1 := ?_) (by rfl) rfl ?_ ?_
                rotate_left
                ·go_simp
                 rfl
                refine hK.out _ _ ⟨((cell_far (p := ⟨gb200, _, none⟩) NB217_200.out _).trans (hHeld.1)), ((cell_far (p := ⟨gb200, _, none⟩) NB217_200.out _).trans (hHeld.2))⟩ (fun hHeld => ?_)
                clear hK K
                refine pure_ (i := 12) (N := some 112) (v := ?_) (a' := ?_) #[true, true, true, true, true, true, true, true, true, true, true, true, true, false] rfl rfl (any_of HT_.out (by kernel_rfl)) (fun _ _ _ h => h) (Or.inl ⟨by rfl, ?_⟩) ?_ ?_
                rotate_left
                ·intro w'
                 go_simp
                 with_reducible rfl
                rotate_left
                ·simp only [Act.put, List.setIfInBounds_toArray, List.set_cons_zero, List.set_cons_succ, i64_w, i32_w]
                 rfl
                refine one_ (i := 13) (N := none) #[true, true, true, true, true, true, true, true, true, true, true, true, true, true] rfl rfl (one_of HT_.out (by kernel_rfl)) (by decide) (fun K hK => ?_)
                have hs123 : w119.cell? ⟨gb200, 2, none⟩ = some (.int .i64 0) := (blk_cell BK200.out 2).trans rfl
                have hfs123 := blk_frozen BK200.out 2
                have hns123_0 := NB199_200.out
                have hns123_2 := NB217_200.out
                have hms123_0 := NB200_199.out
                have hms123_2 := NB200_217.out
                have hs124 : w119.cell? ⟨gb200, 3, none⟩ = some (.int .i64 0) := (blk_cell BK200.out 3).trans rfl
                have hfs124 := blk_frozen BK200.out 3
                have hns124_0 := NB199_200.out
                have hns124_2 := NB217_200.out
                have hms124_0 := NB200_199.out
                have hms124_2 := NB200_217.out
                refine skip_ (w1 := ?_) (by rfl) rfl ?_ ?_
                rotate_left
                ·go_simp
                 rfl
                refine hK.out _ _ ⟨((cell_far (p := ⟨gb200, _, none⟩) NB217_200.out _).trans (((cell_far (p := ⟨gb200, _, none⟩) NB217_200.out _).trans (hHeld.1)))), ((cell_far (p := ⟨gb200, _, none⟩) NB217_200.out _).trans (((cell_far (p := ⟨gb200, _, none⟩) NB217_200.out _).trans (hHeld.2))))⟩ (fun hHeld => ?_)
                clear hK K
                refine done_ (done_of HT_.out (by kernel_rfl)) ?_
                have hnb125 := NB200_199.out
                have hnc125 := NB199_200.out
                have hcz126_0 : w119.cell? ⟨gb200, 0, none⟩ = some (.int .i64 0) := (blk_cell BK200.out 0).trans rfl
                have hcz126_1 : w119.cell? ⟨gb200, 1, none⟩ = some (.string (⟨#[]⟩ : ByteArray)) := (blk_cell BK200.out 1).trans rfl
                have hcz126_2 : w119.cell? ⟨gb200, 2, none⟩ = some (.int .i64 0) := (blk_cell BK200.out 2).trans rfl
                have hcz126_3 : w119.cell? ⟨gb200, 3, none⟩ = some (.int .i64 0) := (blk_cell BK200.out 3).trans rfl
                have hcz126_4 : w119.cell? ⟨gb200, 4, none⟩ = some (.string (⟨#[]⟩ : ByteArray)) := (blk_cell BK200.out 4).trans rfl
                have hcz126_5 : w119.cell? ⟨gb200, 5, none⟩ = some (.int .i64 a1) := (blk_cell BK200.out 5).trans rfl
                have hcz126_6 : w119.cell? ⟨gb200, 6, none⟩ = some (.int .i64 0) := (blk_cell BK200.out 6).trans rfl
                have hfz126_0 := blk_frozen BK200.out 0
                have hfz126_1 := blk_frozen BK200.out 1
                have hfz126_2 := blk_frozen BK200.out 2
                have hfz126_3 := blk_frozen BK200.out 3
                have hfz126_4 := blk_frozen BK200.out 4
                have hfz126_5 := blk_frozen BK200.out 5
                have hfz126_6 := blk_frozen BK200.out 6
                have hcz127_0 : w119.cell? ⟨gb199, 0, none⟩ = some (.int .i64 0) := (blk_cell BK199.out 0).trans rfl
                have hcz127_1 : w119.cell? ⟨gb199, 1, none⟩ = some (.string (⟨#[]⟩ : ByteArray)) := (blk_cell BK199.out 1).trans rfl
                have hcz127_2 : w119.cell? ⟨gb199, 2, none⟩ = some (.int .i64 0) := (blk_cell BK199.out 2).trans rfl
                have hcz127_3 : w119.cell? ⟨gb199, 3, none⟩ = some (.int .i64 0) := (blk_cell BK199.out 3).trans rfl
                have hcz127_4 : w119.cell? ⟨gb199, 4, none⟩ = some (.string (⟨#[]⟩ : ByteArray)) := (blk_cell BK199.out 4).trans rfl
                have hcz127_5 : w119.cell? ⟨gb199, 5, none⟩ = some (.int .i64 0) := (blk_cell BK199.out 5).trans rfl
                have hcz127_6 : w119.cell? ⟨gb199, 6, none⟩ = some (.int .i64 0) := (blk_cell BK199.out 6).trans rfl
                have hfz127_0 := blk_frozen BK199.out 0
                have hfz127_1 := blk_frozen BK199.out 1
                have hfz127_2 := blk_frozen BK199.out 2
                have hfz127_3 := blk_frozen BK199.out 3
                have hfz127_4 := blk_frozen BK199.out 4
                have hfz127_5 := blk_frozen BK199.out 5
                have hfz127_6 := blk_frozen BK199.out 6
                try go_wp2
                refine bodyPost_ret (results_ct rfl _ _ gb199 35 #[.int .i64 3, .string (a0.extract (a1 : Int).toNat (x7_1 : Int).toNat), .int .i64 t214, .int .i64 t215, .string (⟨#[]⟩ : ByteArray), .int .i64 a1, .int .i64 x7_1] (0, 0) _ rfl (by (repeat first | (with_reducible first | refine kn ?_ _ | refine kd ?_ | refine ka ?_ _ | apply bp) | apply blk_far (hp := NB199_200.out)); exact BK199.out; all_goals rfl) Tryd.underlying35 rfl (by kernel_rfl)) rfl ?_
                exact ⟨by first | rfl | (simp [errW_none, errW_some] <;> rfl) | (simp [*, errW_none, errW_some] <;> rfl), by repeat (first | (with_reducible first | exact HB.out | apply zb | apply zn | apply zd | refine zs ?_ GE199.out | refine zs ?_ GE200.out | refine zs ?_ GE217.out) | exact HB.out)⟩
               ·rw [if_neg c108] at H
                exact absurd H (by simp)
              ·rw [if_neg c107] at H
               exact absurd H (by simp)
             ·rw [if_neg c106] at H
              exact absurd H (by simp)
           ·rw [if_neg c77] at H
            have c77b0 : ((bt a0 x7_1) == 46) = false := beq_eq_false_iff_ne.mpr c77
            have c77b1 : ((bt a0 x7_1) != 46) = true := bne_iff_ne.mpr c77
            by_cases c128 : 0 ≤ a1
            ·rw [if_pos c128] at H
             have c128b0 := eq_true c128
             have c128b1 : decide (0 ≤ a1) = true := decide_eq_true c128
             clear c128
             by_cases c129 : a1 ≤ x7_1
             ·rw [if_pos c129] at H
              have c129b0 := eq_true c129
              have c129b1 : decide (a1 ≤ x7_1) = true := decide_eq_true c129
              clear c129
              by_cases c130 : x7_1 ≤ (a0.size : Int)
              ·rw [if_pos c130] at H
               have c130b0 := eq_true c130
               have c130b1 : decide (x7_1 ≤ (a0.size : Int)) = true := decide_eq_true c130
               clear c130
               replace H := Option.bind_eq_some_iff.mp H
               obtain ⟨⟨t218, t219, t220⟩, A1310, H⟩ := H
               replace H : (some (3, a0.extract (a1 : Int).toNat (x7_1 : Int).toNat, t218, t219, (⟨#[]⟩ : ByteArray), a1, x7_1, t220)) = some (r1, r2, r3, r4, r5, r6, r7, r8) := H
               have A131 := Aside0.mk A1310
               clear A1310
               have c132b0 := eq_true (of_decide_eq_true (by first | (with_reducible assumption) | assumption) : 0 ≤ a1)
               have c133b0 := eq_true (of_decide_eq_true (by first | (with_reducible assumption) | assumption) : a1 ≤ x7_1)
               have c134b0 := eq_true (of_decide_eq_true (by first | (with_reducible assumption) | assumption) : x7_1 ≤ (a0.size : Int))
               simp only [Option.some.injEq, Prod.mk.injEq] at H
               obtain ⟨rfl, rfl, rfl, rfl, rfl, rfl, rfl, rfl⟩ := H
               have p70 : 0 ≤ (x7_1 : Int) := of_decide_eq_true (by first | (with_reducible assumption) | assumption)
               have q70 : x7_1 < (a0.size : Int) := of_decide_eq_true (by first | (with_reducible assumption) | assumption)
               have hx70 := bt_at a0 x7_1
               replace p70 := eq_true p70
               replace q70 := eq_true q70
               try go_wp2_with (first | (go_at_call 42; (with_reducible refine (heirloomref07_letter.calls (bt a0 x7_1) false _ A71.out).mono ?_); rintro e w' ⟨rfl, ⟨nd, rfl⟩⟩; (try (rw [drewN_self wr]; generalize hq_ : World.drewN wr _ = wr; have n0_ : Aside0 (wr.heap[gb199]? = some (.cells #[.int .i64 0, .string (⟨#[]⟩ : ByteArray), .int .i64 0, .int .i64 0, .string (⟨#[]⟩ : ByteArray), .int .i64 0, .int .i64 0] 35 (0, 0))) := ⟨by rw [← hq_]; exact (by (with_reducible repeat first | refine kn ?_ _ | refine kd ?_ | refine ka ?_ _); exact BK199.out)⟩; have n1_ : Aside0 (wr.heap[gb200]? = some (.cells #[.int .i64 0, .string (⟨#[]⟩ : ByteArray), .int .i64 0, .int .i64 0, .string (⟨#[]⟩ : ByteArray), .int .i64 a1, .int .i64 0] 35 (0, 0))) := ⟨by rw [← hq_]; exact (by (with_reducible repeat first | refine kn ?_ _ | refine kd ?_ | refine ka ?_ _); exact BK200.out)⟩; have n2_ : Aside0 (Below w.heap.size w wr) := ⟨by rw [← hq_]; exact (by repeat (first | (with_reducible first | exact HB.out | apply zb | apply zn | apply zd | refine zs ?_ GE199.out | refine zs ?_ GE200.out) | exact HB.out))⟩; clear BK199 BK200 HB hq_; have BK199 := n0_; have BK200 := n1_; have HB := n2_; clear n0_ n1_ n2_)); have p73 : 0 ≤ (x7_1 : Int) := of_decide_eq_true (by first | (with_reducible assumption) | assumption); have q73 : x7_1 < (a0.size : Int) := of_decide_eq_true (by first | (with_reducible assumption) | assumption); have hx73 := bt_at a0 x7_1; replace p73 := eq_true p73; replace q73 := eq_true q73) | (go_at_call 43; (with_reducible refine (heirloomref07_digit.calls (bt a0 x7_1) false _ A74.out).mono ?_); rintro e w' ⟨rfl, ⟨nd, rfl⟩⟩; (try (rw [drewN_self wr]; generalize hq_ : World.drewN wr _ = wr; have n0_ : Aside0 (wr.heap[gb199]? = some (.cells #[.int .i64 0, .string (⟨#[]⟩ : ByteArray), .int .i64 0, .int .i64 0, .string (⟨#[]⟩ : ByteArray), .int .i64 0, .int .i64 0] 35 (0, 0))) := ⟨by rw [← hq_]; exact (by (with_reducible repeat first | refine kn ?_ _ | refine kd ?_ | refine ka ?_ _); exact BK199.out)⟩; have n1_ : Aside0 (wr.heap[gb200]? = some (.cells #[.int .i64 0, .string (⟨#[]⟩ : ByteArray), .int .i64 0, .int .i64 0, .string (⟨#[]⟩ : ByteArray), .int .i64 a1, .int .i64 0] 35 (0, 0))) := ⟨by rw [← hq_]; exact (by (with_reducible repeat first | refine kn ?_ _ | refine kd ?_ | refine ka ?_ _); exact BK200.out)⟩; have n2_ : Aside0 (Below w.heap.size w wr) := ⟨by rw [← hq_]; exact (by repeat (first | (with_reducible first | exact HB.out | apply zb | apply zn | apply zd | refine zs ?_ GE199.out | refine zs ?_ GE200.out) | exact HB.out))⟩; clear BK199 BK200 HB hq_; have BK199 := n0_; have BK200 := n1_; have HB := n2_; clear n0_ n1_ n2_)); have p76 : 0 ≤ (x7_1 : Int) := of_decide_eq_true (by first | (with_reducible assumption) | assumption); have q76 : x7_1 < (a0.size : Int) := of_decide_eq_true (by first | (with_reducible assumption) | assumption); have hx76 := bt_at a0 x7_1; replace p76 := eq_true p76; replace q76 := eq_true q76) | ((with_reducible refine gate_callee (f := 44) rfl ?_); refine goesL_ (some 100) rfl rfl Tryd.func44 (by kernel_rfl) rfl #[.string (a0.extract (a1 : Int).toNat (x7_1 : Int).toNat)] rfl (by (try simp only [List.map_toArray, List.map_cons, List.map_nil]); first | done | rfl | (simp only [List.length_drop, List.length_take]; rfl)) ?_; (with_reducible refine (heirloomref01_Read.calls k1 (a0.extract (a1 : Int).toNat (x7_1 : Int).toNat) t218 t219 t220 _ A131.out).mono ?_); rintro e w135 ⟨rfl, hb⟩; refine ⟨_, rfl, ?_⟩; have n0_ := Aside0.mk (blk_below (g := gb199) (o := .cells #[.int .i64 0, .string (⟨#[]⟩ : ByteArray), .int .i64 0, .int .i64 0, .string (⟨#[]⟩ : ByteArray), .int .i64 0, .int .i64 0] 35 (0, 0)) (by (with_reducible repeat first | refine kn ?_ _ | refine kd ?_ | refine ka ?_ _); exact BK199.out) hb); have n1_ := Aside0.mk (blk_below (g := gb200) (o := .cells #[.int .i64 0, .string (⟨#[]⟩ : ByteArray), .int .i64 0, .int .i64 0, .string (⟨#[]⟩ : ByteArray), .int .i64 a1, .int .i64 0] 35 (0, 0)) (by (with_reducible repeat first | refine kn ?_ _ | refine kd ?_ | refine ka ?_ _); exact BK200.out) hb); have n2_ := Aside0.mk (below_step (by repeat (first | (with_reducible first | exact HB.out | apply zb | apply zn | apply zd | refine zs ?_ GE199.out | refine zs ?_ GE200.out) | exact HB.out)) hb); clear BK199; clear BK200; clear HB; have BK199 := n0_; have BK200 := n1_; have HB := n2_; clear n0_ n1_ n2_; (try clear hb)) | ((with_reducible refine gate_dst (N := 9) rfl ?_); (try (refine gate_guard (by rfl) ?_; dsimp only)); refine box_event ?hg (N := 9) ?hd (cs := #[.int .i64 0, .int .i64 0]) (t := 33) ?hr ?_; (case hd => rfl); (case hg => rfl); (case hr => go_simp <;> rfl); intro gb221 hg w136 hbox hb; have n0_ := Aside0.mk (blk_below (g := gb199) (o := .cells #[.int .i64 0, .string (⟨#[]⟩ : ByteArray), .int .i64 0, .int .i64 0, .string (⟨#[]⟩ : ByteArray), .int .i64 0, .int .i64 0] 35 (0, 0)) (by (with_reducible repeat first | refine kn ?_ _ | refine kd ?_ | refine ka ?_ _); exact BK199.out) hb); have n1_ := Aside0.mk (blk_below (g := gb200) (o := .cells #[.int .i64 0, .string (⟨#[]⟩ : ByteArray), .int .i64 0, .int .i64 0, .string (⟨#[]⟩ : ByteArray), .int .i64 a1, .int .i64 0] 35 (0, 0)) (by (with_reducible repeat first | refine kn ?_ _ | refine kd ?_ | refine ka ?_ _); exact BK200.out) hb); have n2_ := Aside0.mk (below_step (by repeat (first | (with_reducible first | exact HB.out | apply zb | apply zn | apply zd | refine zs ?_ GE199.out | refine zs ?_ GE200.out) | exact HB.out)) hb); have n3_ := Aside0.mk (hbox); have n4_ := Aside0.mk ((by rw [hg]; exact (below_size (by repeat (first | (with_reducible first | exact HB.out | apply zb | apply zn | apply zd | refine zs ?_ GE199.out | refine zs ?_ GE200.out) | exact HB.out))) : w.heap.size ≤ gb221)); have n5_ := Aside0.mk ((by rw [hg]; exact (below_size (by repeat (first | (with_reducible first | exact HB.out | apply zb | apply zn | apply zd | refine zs ?_ GE199.out | refine zs ?_ GE200.out) | exact HB.out))) : w.heap.size ≤ gb221)); have n6_ := Aside0.mk ((by rw [hg]; exact Nat.ne_of_lt (blk_lt (g := gb199) (o := .cells #[.int .i64 0, .string (⟨#[]⟩ : ByteArray), .int .i64 0, .int .i64 0, .string (⟨#[]⟩ : ByteArray), .int .i64 0, .int .i64 0] 35 (0, 0)) (by (with_reducible repeat first | refine kn ?_ _ | refine kd ?_ | refine ka ?_ _); exact BK199.out)) : gb199 ≠ gb221)); have n7_ := Aside0.mk ((by rw [hg]; exact Nat.ne_of_gt (blk_lt (g := gb199) (o := .cells #[.int .i64 0, .string (⟨#[]⟩ : ByteArray), .int .i64 0, .int .i64 0, .string (⟨#[]⟩ : ByteArray), .int .i64 0, .int .i64 0] 35 (0, 0)) (by (with_reducible repeat first | refine kn ?_ _ | refine kd ?_ | refine ka ?_ _); exact BK199.out)) : gb221 ≠ gb199)); have n8_ := Aside0.mk ((by rw [hg]; exact Nat.ne_of_lt (blk_lt (g := gb200) (o := .cells #[.int .i64 0, .string (⟨#[]⟩ : ByteArray), .int .i64 0, .int .i64 0, .string (⟨#[]⟩ : ByteArray), .int .i64 a1, .int .i64 0] 35 (0, 0)) (by (with_reducible repeat first | refine kn ?_ _ | refine kd ?_ | refine ka ?_ _); exact BK200.out)) : gb200 ≠ gb221)); have n9_ := Aside0.mk ((by rw [hg]; exact Nat.ne_of_gt (blk_lt (g := gb200) (o := .cells #[.int .i64 0, .string (⟨#[]⟩ : ByteArray), .int .i64 0, .int .i64 0, .string (⟨#[]⟩ : ByteArray), .int .i64 a1, .int .i64 0] 35 (0, 0)) (by (with_reducible repeat first | refine kn ?_ _ | refine kd ?_ | refine ka ?_ _); exact BK200.out)) : gb221 ≠ gb200)); clear BK199; clear BK200; clear HB; have BK199 := n0_; have BK200 := n1_; have HB := n2_; have BK221 := n3_; have GW221 := n4_; have GE221 := n5_; have NB199_221 := n6_; have NB221_199 := n7_; have NB200_221 := n8_; have NB221_200 := n9_; clear n0_ n1_ n2_ n3_ n4_ n5_ n6_ n7_ n8_ n9_; clear hb hbox hg; have hnb137 := NB221_199.out; have hnc137 := NB199_221.out; have hnb138 := NB221_200.out; have hnc138 := NB200_221.out; have hcz139_0 : w136.cell? ⟨gb221, 0, none⟩ = some (.int .i64 0) := (blk_cell BK221.out 0).trans rfl; have hcz139_1 : w136.cell? ⟨gb221, 1, none⟩ = some (.int .i64 0) := (blk_cell BK221.out 1).trans rfl; have hfz139_0 := blk_frozen BK221.out 0; have hfz139_1 := blk_frozen BK221.out 1))
               have n0_ : Aside0 (((w136.setCell ⟨gb221, 0, none⟩ (.int .i64 t218)).setCell ⟨gb221, 1, none⟩ (.int .i64 t219)).heap[gb199]? = some (.cells #[.int .i64 0, .string (⟨#[]⟩ : ByteArray), .int .i64 0, .int .i64 0, .string (⟨#[]⟩ : ByteArray), .int .i64 0, .int .i64 0] 35 (0, 0))) := ⟨by (repeat first | (with_reducible first | refine kn ?_ _ | refine kd ?_ | refine ka ?_ _ | apply bp) | apply blk_far (hp := NB199_221.out)); exact BK199.out; all_goals rfl⟩
               have n1_ : Aside0 (((w136.setCell ⟨gb221, 0, none⟩ (.int .i64 t218)).setCell ⟨gb221, 1, none⟩ (.int .i64 t219)).heap[gb200]? = some (.cells #[.int .i64 0, .string (⟨#[]⟩ : ByteArray), .int .i64 0, .int .i64 0, .string (⟨#[]⟩ : ByteArray), .int .i64 a1, .int .i64 0] 35 (0, 0))) := ⟨by (repeat first | (with_reducible first | refine kn ?_ _ | refine kd ?_ | refine ka ?_ _ | apply bp) | apply blk_far (hp := NB200_221.out)); exact BK200.out; all_goals rfl⟩
               have n2_ : Aside0 (((w136.setCell ⟨gb221, 0, none⟩ (.int .i64 t218)).setCell ⟨gb221, 1, none⟩ (.int .i64 t219)).heap[gb221]? = some (.cells #[.int .i64 t218, .int .i64 t219] 33 (0, 0))) := ⟨by (with_reducible repeat first | refine kn ?_ _ | refine kd ?_ | refine ka ?_ _ | apply bp); exact BK221.out; all_goals rfl⟩
               have n3_ : Aside0 (Below w.heap.size w ((w136.setCell ⟨gb221, 0, none⟩ (.int .i64 t218)).setCell ⟨gb221, 1, none⟩ (.int .i64 t219))) := ⟨by repeat (first | (with_reducible first | exact HB.out | apply zb | apply zn | apply zd | refine zs ?_ GE199.out | refine zs ?_ GE200.out | refine zs ?_ GE221.out) | exact HB.out)⟩
               (try clear BK199)
               (try clear BK200)
               (try clear BK221)
               (try clear HB)
               generalize ((w136.setCell ⟨gb221, 0, none⟩ (.int .i64 t218)).setCell ⟨gb221, 1, none⟩ (.int .i64 t219)) = w140 at n0_ n1_ n2_ n3_ ⊢
               have BK199 := n0_
               have BK200 := n1_
               have BK221 := n2_
               have HB := n3_
               clear n0_ n1_ n2_ n3_
               have n0_ := Aside0.mk (blk_drew BK199.out)
               have n1_ := Aside0.mk (blk_drew BK200.out)
               have n2_ := Aside0.mk (blk_drew BK221.out)
               have n3_ := Aside0.mk (below_drew1 HB.out)
               clear BK199
               clear BK200
               clear BK221
               clear HB
               have BK199 := n0_
               have BK200 := n1_
               have BK221 := n2_
               have HB := n3_
               clear n0_ n1_ n2_ n3_
               refine start_ (n := 14) (S := fun w' => w'.cell? ⟨gb221, 0, none⟩ = some (.int .i64 t218) ∧ w'.cell? ⟨gb221, 1, none⟩ = some (.int .i64 t219)) (ds := []) #[false, false, false, false, false, false, false, false, false, false, false, false, false, false] (by kernel_rfl) rfl rfl ⟨(blk_cell BK221.out 0).trans rfl, (blk_cell BK221.out 1).trans rfl⟩ (fun hHeld => ?_); refine with_tabW heirloomref07_one.tab16 heirloomref07_one.bits16 (fun HT_ HW_ => ?_)
               generalize w140.drew = w141 at BK199 BK200 BK221 HB hHeld ⊢
               refine pure_ (i := 0) (N := some 103) (v := ?_) (a' := ?_) #[true, false, false, false, false, false, false, false, false, false, false, false, false, false] rfl rfl (any_of HT_.out (by kernel_rfl)) (fun _ _ _ h => h) (Or.inl ⟨by rfl, ?_⟩) ?_ ?_
               rotate_left
               ·intro w'
                go_simp
                with_reducible rfl
               rotate_left
               ·simp only [Act.put, List.setIfInBounds_toArray, List.set_cons_zero, List.set_cons_succ, i64_w, i32_w]
                rfl
               refine pure_ (i := 1) (N := some 104) (v := ?_) (a' := ?_) #[true, true, false, false, false, false, false, false, false, false, false, false, false, false] rfl rfl (any_of HT_.out (by kernel_rfl)) (fun _ _ _ h => h) (Or.inl ⟨by rfl, ?_⟩) ?_ ?_
               rotate_left
               ·intro w'
                go_simp
                with_reducible rfl
               rotate_left
               ·simp only [Act.put, List.setIfInBounds_toArray, List.set_cons_zero, List.set_cons_succ, i64_w, i32_w]
                rfl
               refine pure_ (i := 2) (N := some 105) (v := ?_) (a' := ?_) #[true, true, true, false, false, false, false, false, false, false, false, false, false, false] rfl rfl (any_of HT_.out (by kernel_rfl)) (fun _ _ _ h => h) (Or.inl ⟨by rfl, ?_⟩) ?_ ?_
               rotate_left
               ·intro w'
                go_simp
                with_reducible rfl
               rotate_left
               ·simp only [Act.put, List.setIfInBounds_toArray, List.set_cons_zero, List.set_cons_succ, i64_w, i32_w]
                rfl
               refine pure_ (i := 3) (N := some 106) (v := ?_) (a' := ?_) #[true, true, true, true, false, false, false, false, false, false, false, false, false, false] rfl rfl (any_of HT_.out (by kernel_rfl)) (fun _ _ _ h => h) (Or.inl ⟨by rfl, ?_⟩) ?_ ?_
               rotate_left
               ·intro w'
                go_simp
                with_reducible rfl
               rotate_left
               ·simp only [Act.put, List.setIfInBounds_toArray, List.set_cons_zero, List.set_cons_succ, i64_w, i32_w]
                rfl
               refine pure_ (i := 4) (N := some 107) (v := ?_) (a' := ?_) #[true, true, true, true, true, false, false, false, false, false, false, false, false, false] rfl rfl (any_of HT_.out (by kernel_rfl)) (fun _ _ _ h => h) (Or.inl ⟨by rfl, ?_⟩) ?_ ?_
               rotate_left
               ·intro w'
                go_simp
                with_reducible rfl
               rotate_left
               ·simp only [Act.put, List.setIfInBounds_toArray, List.set_cons_zero, List.set_cons_succ, i64_w, i32_w]
                rfl
               refine pure_ (i := 6) (N := some 109) (v := ?_) (a' := ?_) #[true, true, true, true, true, false, true, false, false, false, false, false, false, false] rfl rfl (any_of HT_.out (by kernel_rfl)) (fun _ _ _ h => h) (Or.inl ⟨by rfl, ?_⟩) ?_ ?_
               rotate_left
               ·intro w'
                go_simp
                with_reducible rfl
               rotate_left
               ·simp only [Act.put, List.setIfInBounds_toArray, List.set_cons_zero, List.set_cons_succ, i64_w, i32_w]
                rfl
               refine take_ (i := 5) (N := some 108) (v := ?_) (a' := ?_) #[true, true, true, true, true, true, true, false, false, false, false, false, false, false] rfl rfl (take_ofW HT_.out HW_.out (by kernel_rfl)) (fun _ _ _ h => h) (Or.inl ⟨by rfl, ?_⟩) hHeld ?_ ?_
               rotate_left
               ·rintro w' ⟨s0, s1⟩
                go_simp
                with_reducible rfl
               rotate_left
               ·simp only [Act.put, List.setIfInBounds_toArray, List.set_cons_zero, List.set_cons_succ, i64_w, i32_w]
                rfl
               refine one_ (i := 7) (N := none) #[true, true, true, true, true, true, true, true, false, false, false, false, false, false] rfl rfl (one_of HT_.out (by kernel_rfl)) (by decide) (fun K hK => ?_)
               have hs142 : w141.cell? ⟨gb200, 0, none⟩ = some (.int .i64 0) := (blk_cell BK200.out 0).trans rfl
               have hfs142 := blk_frozen BK200.out 0
               have hns142_0 := NB199_200.out
               have hns142_2 := NB221_200.out
               have hms142_0 := NB200_199.out
               have hms142_2 := NB200_221.out
               refine skip_ (w1 := ?_) (by rfl) rfl ?_ ?_
               rotate_left
               ·go_simp
                rfl
               refine hK.out _ _ ⟨((cell_far (p := ⟨gb200, _, none⟩) NB221_200.out _).trans (hHeld.1)), ((cell_far (p := ⟨gb200, _, none⟩) NB221_200.out _).trans (hHeld.2))⟩ (fun hHeld => ?_)
               clear hK K
               refine pure_ (i := 8) (N := some 110) (v := ?_) (a' := ?_) #[true, true, true, true, true, true, true, true, true, false, false, false, false, false] rfl rfl (any_of HT_.out (by kernel_rfl)) (fun _ _ _ h => h) (Or.inl ⟨by rfl, ?_⟩) ?_ ?_
               rotate_left
               ·intro w'
                go_simp
                with_reducible rfl
               rotate_left
               ·simp only [Act.put, List.setIfInBounds_toArray, List.set_cons_zero, List.set_cons_succ, i64_w, i32_w]
                rfl
               refine one_ (i := 9) (N := none) #[true, true, true, true, true, true, true, true, true, true, false, false, false, false] rfl rfl (one_of HT_.out (by kernel_rfl)) (by decide) (fun K hK => ?_)
               have hs143 : w141.cell? ⟨gb200, 1, none⟩ = some (.string (⟨#[]⟩ : ByteArray)) := (blk_cell BK200.out 1).trans rfl
               have hfs143 := blk_frozen BK200.out 1
               have hns143_0 := NB199_200.out
               have hns143_2 := NB221_200.out
               have hms143_0 := NB200_199.out
               have hms143_2 := NB200_221.out
               refine skip_ (w1 := ?_) (by rfl) rfl ?_ ?_
               rotate_left
               ·go_simp
                rfl
               refine hK.out _ _ ⟨((cell_far (p := ⟨gb200, _, none⟩) NB221_200.out _).trans (hHeld.1)), ((cell_far (p := ⟨gb200, _, none⟩) NB221_200.out _).trans (hHeld.2))⟩ (fun hHeld => ?_)
               clear hK K
               refine pure_ (i := 10) (N := some 111) (v := ?_) (a' := ?_) #[true, true, true, true, true, true, true, true, true, true, true, false, false, false] rfl rfl (any_of HT_.out (by kernel_rfl)) (fun _ _ _ h => h) (Or.inl ⟨by rfl, ?_⟩) ?_ ?_
               rotate_left
               ·intro w'
                go_simp
                with_reducible rfl
               rotate_left
               ·simp only [Act.put, List.setIfInBounds_toArray, List.set_cons_zero, List.set_cons_succ, i64_w, i32_w]
                rfl
               refine one_ (i := 11) (N := none) #[true, true, true, true, true, true, true, true, true, true, true, true, false, false] rfl rfl (one_of HT_.out (by kernel_rfl)) (by decide) (fun K hK => ?_)
               have hs144 : w141.cell? ⟨gb200, 6, none⟩ = some (.int .i64 0) := (blk_cell BK200.out 6).trans rfl
               have hfs144 := blk_frozen BK200.out 6
               have hns144_0 := NB199_200.out
               have hns144_2 := NB221_200.out
               have hms144_0 := NB200_199.out
               have hms144_2 := NB200_221.out
               refine skip_ (w1 := ?_) (by rfl) rfl ?_ ?_
               rotate_left
               ·go_simp
                rfl
               refine hK.out _ _ ⟨((cell_far (p := ⟨gb200, _, none⟩) NB221_200.out _).trans (hHeld.1)), ((cell_far (p := ⟨gb200, _, none⟩) NB221_200.out _).trans (hHeld.2))⟩ (fun hHeld => ?_)
               clear hK K
               refine pure_ (i := 12) (N := some 112) (v := ?_) (a' := ?_) #[true, true, true, true, true, true, true, true, true, true, true, true, true, false] rfl rfl (any_of HT_.out (by kernel_rfl)) (fun _ _ _ h => h) (Or.inl ⟨by rfl, ?_⟩) ?_ ?_
               rotate_left
               ·intro w'
                go_simp
                with_reducible rfl
               rotate_left
               ·simp only [Act.put, List.setIfInBounds_toArray, List.set_cons_zero, List.set_cons_succ, i64_w, i32_w]
                rfl
               refine one_ (i := 13) (N := none) #[true, true, true, true, true, true, true, true, true, true, true, true, true, true] rfl rfl (one_of HT_.out (by kernel_rfl)) (by decide) (fun K hK => ?_)
               have hs145 : w141.cell? ⟨gb200, 2, none⟩ = some (.int .i64 0) := (blk_cell BK200.out 2).trans rfl
               have hfs145 := blk_frozen BK200.out 2
               have hns145_0 := NB199_200.out
               have hns145_2 := NB221_200.out
               have hms145_0 := NB200_199.out
               have hms145_2 := NB200_221.out
               have hs146 : w141.cell? ⟨gb200, 3, none⟩ = some (.int .i64 0) := (blk_cell BK200.out 3).trans rfl
               have hfs146 := blk_frozen BK200.out 3
               have hns146_0 := NB199_200.out
               have hns146_2 := NB221_200.out
               have hms146_0 := NB200_199.out
               have hms146_2 := NB200_221.out
               refine skip_ (w1 := ?_) (by rfl) rfl ?_ ?_
               rotate_left
               ·go_simp
                rfl
               refine hK.out _ _ ⟨((cell_far (p := ⟨gb200, _, none⟩) NB221_200.out _).trans (((cell_far (p := ⟨gb200, _, none⟩) NB221_200.out _).trans (hHeld.1)))), ((cell_far (p := ⟨gb200, _, none⟩) NB221_200.out _).trans (((cell_far (p := ⟨gb200, _, none⟩) NB221_200.out _).trans (hHeld.2))))⟩ (fun hHeld => ?_)
               clear hK K
               refine done_ (done_of HT_.out (by kernel_rfl)) ?_
               have hnb147 := NB200_199.out
               have hnc147 := NB199_200.out
               have hcz148_0 : w141.cell? ⟨gb200, 0, none⟩ = some (.int .i64 0) := (blk_cell BK200.out 0).trans rfl
               have hcz148_1 : w141.cell? ⟨gb200, 1, none⟩ = some (.string (⟨#[]⟩ : ByteArray)) := (blk_cell BK200.out 1).trans rfl
               have hcz148_2 : w141.cell? ⟨gb200, 2, none⟩ = some (.int .i64 0) := (blk_cell BK200.out 2).trans rfl
               have hcz148_3 : w141.cell? ⟨gb200, 3, none⟩ = some (.int .i64 0) := (blk_cell BK200.out 3).trans rfl
               have hcz148_4 : w141.cell? ⟨gb200, 4, none⟩ = some (.string (⟨#[]⟩ : ByteArray)) := (blk_cell BK200.out 4).trans rfl
               have hcz148_5 : w141.cell? ⟨gb200, 5, none⟩ = some (.int .i64 a1) := (blk_cell BK200.out 5).trans rfl
               have hcz148_6 : w141.cell? ⟨gb200, 6, none⟩ = some (.int .i64 0) := (blk_cell BK200.out 6).trans rfl
               have hfz148_0 := blk_frozen BK200.out 0
               have hfz148_1 := blk_frozen BK200.out 1
               have hfz148_2 := blk_frozen BK200.out 2
               have hfz148_3 := blk_frozen BK200.out 3
               have hfz148_4 := blk_frozen BK200.out 4
               have hfz148_5 := blk_frozen BK200.out 5
               have hfz148_6 := blk_frozen BK200.out 6
               have hcz149_0 : w141.cell? ⟨gb199, 0, none⟩ = some (.int .i64 0) := (blk_cell BK199.out 0).trans rfl
               have hcz149_1 : w141.cell? ⟨gb199, 1, none⟩ = some (.string (⟨#[]⟩ : ByteArray)) := (blk_cell BK199.out 1).trans rfl
               have hcz149_2 : w141.cell? ⟨gb199, 2, none⟩ = some (.int .i64 0) := (blk_cell BK199.out 2).trans rfl
               have hcz149_3 : w141.cell? ⟨gb199, 3, none⟩ = some (.int .i64 0) := (blk_cell BK199.out 3).trans rfl
               have hcz149_4 : w141.cell? ⟨gb199, 4, none⟩ = some (.string (⟨#[]⟩ : ByteArray)) := (blk_cell BK199.out 4).trans rfl
               have hcz149_5 : w141.cell? ⟨gb199, 5, none⟩ = some (.int .i64 0) := (blk_cell BK199.out 5).trans rfl
               have hcz149_6 : w141.cell? ⟨gb199, 6, none⟩ = some (.int .i64 0) := (blk_cell BK199.out 6).trans rfl
               have hfz149_0 := blk_frozen BK199.out 0
               have hfz149_1 := blk_frozen BK199.out 1
               have hfz149_2 := blk_frozen BK199.out 2
               have hfz149_3 := blk_frozen BK199.out 3
               have hfz149_4 := blk_frozen BK199.out 4
               have hfz149_5 := blk_frozen BK199.out 5
               have hfz149_6 := blk_frozen BK199.out 6
               try go_wp2
               refine bodyPost_ret (results_ct rfl _ _ gb199 35 #[.int .i64 3, .string (a0.extract (a1 : Int).toNat (x7_1 : Int).toNat), .int .i64 t218, .int .i64 t219, .string (⟨#[]⟩ : ByteArray), .int .i64 a1, .int .i64 x7_1] (0, 0) _ rfl (by (repeat first | (with_reducible first | refine kn ?_ _ | refine kd ?_ | refine ka ?_ _ | apply bp) | apply blk_far (hp := NB199_200.out)); exact BK199.out; all_goals rfl) Tryd.underlying35 rfl (by kernel_rfl)) rfl ?_
               exact ⟨by first | rfl | (simp [errW_none, errW_some] <;> rfl) | (simp [*, errW_none, errW_some] <;> rfl), by repeat (first | (with_reducible first | exact HB.out | apply zb | apply zn | apply zd | refine zs ?_ GE199.out | refine zs ?_ GE200.out | refine zs ?_ GE221.out) | exact HB.out)⟩
              ·rw [if_neg c130] at H
               exact absurd H (by simp)
             ·rw [if_neg c129] at H
              exact absurd H (by simp)
            ·rw [if_neg c128] at H
             exact absurd H (by simp)
        ·rw [if_neg c69] at H
         exact absurd H (by simp)
       ·rw [if_neg c68] at H
        have c68b0 : decide (x7_1 < (a0.size : Int)) = false := decide_eq_false c68
        clear c68
        by_cases c150 : 0 ≤ a1
        ·rw [if_pos c150] at H
         have c150b0 := eq_true c150
         have c150b1 : decide (0 ≤ a1) = true := decide_eq_true c150
         clear c150
         by_cases c151 : a1 ≤ x7_1
         ·rw [if_pos c151] at H
          have c151b0 := eq_true c151
          have c151b1 : decide (a1 ≤ x7_1) = true := decide_eq_true c151
          clear c151
          by_cases c152 : x7_1 ≤ (a0.size : Int)
          ·rw [if_pos c152] at H
           have c152b0 := eq_true c152
           have c152b1 : decide (x7_1 ≤ (a0.size : Int)) = true := decide_eq_true c152
           clear c152
           replace H := Option.bind_eq_some_iff.mp H
           obtain ⟨⟨t222, t223, t224⟩, A1530, H⟩ := H
           replace H : (some (3, a0.extract (a1 : Int).toNat (x7_1 : Int).toNat, t222, t223, (⟨#[]⟩ : ByteArray), a1, x7_1, t224)) = some (r1, r2, r3, r4, r5, r6, r7, r8) := H
           have A153 := Aside0.mk A1530
           clear A1530
           have c154b0 := eq_true (of_decide_eq_true (by first | (with_reducible assumption) | assumption) : 0 ≤ a1)
           have c155b0 := eq_true (of_decide_eq_true (by first | (with_reducible assumption) | assumption) : a1 ≤ x7_1)
           have c156b0 := eq_true (of_decide_eq_true (by first | (with_reducible assumption) | assumption) : x7_1 ≤ (a0.size : Int))
           simp only [Option.some.injEq, Prod.mk.injEq] at H
           obtain ⟨rfl, rfl, rfl, rfl, rfl, rfl, rfl, rfl⟩ := H
           try go_wp2_with (first | ((with_reducible refine gate_callee (f := 44) rfl ?_); refine goesL_ (some 100) rfl rfl Tryd.func44 (by kernel_rfl) rfl #[.string (a0.extract (a1 : Int).toNat (x7_1 : Int).toNat)] rfl (by (try simp only [List.map_toArray, List.map_cons, List.map_nil]); first | done | rfl | (simp only [List.length_drop, List.length_take]; rfl)) ?_; (with_reducible refine (heirloomref01_Read.calls k1 (a0.extract (a1 : Int).toNat (x7_1 : Int).toNat) t222 t223 t224 _ A153.out).mono ?_); rintro e w157 ⟨rfl, hb⟩; refine ⟨_, rfl, ?_⟩; have n0_ := Aside0.mk (blk_below (g := gb199) (o := .cells #[.int .i64 0, .string (⟨#[]⟩ : ByteArray), .int .i64 0, .int .i64 0, .string (⟨#[]⟩ : ByteArray), .int .i64 0, .int .i64 0] 35 (0, 0)) (by (with_reducible repeat first | refine kn ?_ _ | refine kd ?_ | refine ka ?_ _); exact BK199.out) hb); have n1_ := Aside0.mk (blk_below (g := gb200) (o := .cells #[.int .i64 0, .string (⟨#[]⟩ : ByteArray), .int .i64 0, .int .i64 0, .string (⟨#[]⟩ : ByteArray), .int .i64 a1, .int .i64 0] 35 (0, 0)) (by (with_reducible repeat first | refine kn ?_ _ | refine kd ?_ | refine ka ?_ _); exact BK200.out) hb); have n2_ := Aside0.mk (below_step (by repeat (first | (with_reducible first | exact HB.out | apply zb | apply zn | apply zd | refine zs ?_ GE199.out | refine zs ?_ GE200.out) | exact HB.out)) hb); clear BK199; clear BK200; clear HB; have BK199 := n0_; have BK200 := n1_; have HB := n2_; clear n0_ n1_ n2_; (try clear hb)) | ((with_reducible refine gate_dst (N := 9) rfl ?_); (try (refine gate_guard (by rfl) ?_; dsimp only)); refine box_event ?hg (N := 9) ?hd (cs := #[.int .i64 0, .int .i64 0]) (t := 33) ?hr ?_; (case hd => rfl); (case hg => rfl); (case hr => go_simp <;> rfl); intro gb225 hg w158 hbox hb; have n0_ := Aside0.mk (blk_below (g := gb199) (o := .cells #[.int .i64 0, .string (⟨#[]⟩ : ByteArray), .int .i64 0, .int .i64 0, .string (⟨#[]⟩ : ByteArray), .int .i64 0, .int .i64 0] 35 (0, 0)) (by (with_reducible repeat first | refine kn ?_ _ | refine kd ?_ | refine ka ?_ _); exact BK199.out) hb); have n1_ := Aside0.mk (blk_below (g := gb200) (o := .cells #[.int .i64 0, .string (⟨#[]⟩ : ByteArray), .int .i64 0, .int .i64 0, .string (⟨#[]⟩ : ByteArray), .int .i64 a1, .int .i64 0] 35 (0, 0)) (by (with_reducible repeat first | refine kn ?_ _ | refine kd ?_ | refine ka ?_ _); exact BK200.out) hb); have n2_ := Aside0.mk (below_step (by repeat (first | (with_reducible first | exact HB.out | apply zb | apply zn | apply zd | refine zs ?_ GE199.out | refine zs ?_ GE200.out) | exact HB.out)) hb); have n3_ := Aside0.mk (hbox); have n4_ := Aside0.mk ((by rw [hg]; exact (below_size (by repeat (first | (with_reducible first | exact HB.out | apply zb | apply zn | apply zd | refine zs ?_ GE199.out | refine zs ?_ GE200.out) | exact HB.out))) : w.heap.size ≤ gb225)); have n5_ := Aside0.mk ((by rw [hg]; exact (below_size (by repeat (first | (with_reducible first | exact HB.out | apply zb | apply zn | apply zd | refine zs ?_ GE199.out | refine zs ?_ GE200.out) | exact HB.out))) : w.heap.size ≤ gb225)); have n6_ := Aside0.mk ((by rw [hg]; exact Nat.ne_of_lt (blk_lt (g := gb199) (o := .cells #[.int .i64 0, .string (⟨#[]⟩ : ByteArray), .int .i64 0, .int .i64 0, .string (⟨#[]⟩ : ByteArray), .int .i64 0, .int .i64 0] 35 (0, 0)) (by (with_reducible repeat first | refine kn ?_ _ | refine kd ?_ | refine ka ?_ _); exact BK199.out)) : gb199 ≠ gb225)); have n7_ := Aside0.mk ((by rw [hg]; exact Nat.ne_of_gt (blk_lt (g := gb199) (o := .cells #[.int .i64 0, .string (⟨#[]⟩ : ByteArray), .int .i64 0, .int .i64 0, .string (⟨#[]⟩ : ByteArray), .int .i64 0, .int .i64 0] 35 (0, 0)) (by (with_reducible repeat first | refine kn ?_ _ | refine kd ?_ | refine ka ?_ _); exact BK199.out)) : gb225 ≠ gb199)); have n8_ := Aside0.mk ((by rw [hg]; exact Nat.ne_of_lt (blk_lt (g := gb200) (o := .cells #[.int .i64 0, .string (⟨#[]⟩ : ByteArray), .int .i64 0, .int .i64 0, .string (⟨#[]⟩ : ByteArray), .int .i64 a1, .int .i64 0] 35 (0, 0)) (by (with_reducible repeat first | refine kn ?_ _ | refine kd ?_ | refine ka ?_ _); exact BK200.out)) : gb200 ≠ gb225)); have n9_ := Aside0.mk ((by rw [hg]; exact Nat.ne_of_gt (blk_lt (g := gb200) (o := .cells #[.int .i64 0, .string (⟨#[]⟩ : ByteArray), .int .i64 0, .int .i64 0, .string (⟨#[]⟩ : ByteArray), .int .i64 a1, .int .i64 0] 35 (0, 0)) (by (with_reducible repeat first | refine kn ?_ _ | refine kd ?_ | refine ka ?_ _); exact BK200.out)) : gb225 ≠ gb200)); clear BK199; clear BK200; clear HB; have BK199 := n0_; have BK200 := n1_; have HB := n2_; have BK225 := n3_; have GW225 := n4_; have GE225 := n5_; have NB199_225 := n6_; have NB225_199 := n7_; have NB200_225 := n8_; have NB225_200 := n9_; clear n0_ n1_ n2_ n3_ n4_ n5_ n6_ n7_ n8_ n9_; clear hb hbox hg; have hnb159 := NB225_199.out; have hnc159 := NB199_225.out; have hnb160 := NB225_200.out; have hnc160 := NB200_225.out; have hcz161_0 : w158.cell? ⟨gb225, 0, none⟩ = some (.int .i64 0) := (blk_cell BK225.out 0).trans rfl; have hcz161_1 : w158.cell? ⟨gb225, 1, none⟩ = some (.int .i64 0) := (blk_cell BK225.out 1).trans rfl; have hfz161_0 := blk_frozen BK225.out 0; have hfz161_1 := blk_frozen BK225.out 1))
           have n0_ : Aside0 (((w158.setCell ⟨gb225, 0, none⟩ (.int .i64 t222)).setCell ⟨gb225, 1, none⟩ (.int .i64 t223)).heap[gb199]? = some (.cells #[.int .i64 0, .string (⟨#[]⟩ : ByteArray), .int .i64 0, .int .i64 0, .string (⟨#[]⟩ : ByteArray), .int .i64 0, .int .i64 0] 35 (0, 0))) := ⟨by (repeat first | (with_reducible first | refine kn ?_ _ | refine kd ?_ | refine ka ?_ _ | apply bp) | apply blk_far (hp := NB199_225.out)); exact BK199.out; all_goals rfl⟩
           have n1_ : Aside0 (((w158.setCell ⟨gb225, 0, none⟩ (.int .i64 t222)).setCell ⟨gb225, 1, none⟩ (.int .i64 t223)).heap[gb200]? = some (.cells #[.int .i64 0, .string (⟨#[]⟩ : ByteArray), .int .i64 0, .int .i64 0, .string (⟨#[]⟩ : ByteArray), .int .i64 a1, .int .i64 0] 35 (0, 0))) := ⟨by (repeat first | (with_reducible first | refine kn ?_ _ | refine kd ?_ | refine ka ?_ _ | apply bp) | apply blk_far (hp := NB200_225.out)); exact BK200.out; all_goals rfl⟩
           have n2_ : Aside0 (((w158.setCell ⟨gb225, 0, none⟩ (.int .i64 t222)).setCell ⟨gb225, 1, none⟩ (.int .i64 t223)).heap[gb225]? = some (.cells #[.int .i64 t222, .int .i64 t223] 33 (0, 0))) := ⟨by (with_reducible repeat first | refine kn ?_ _ | refine kd ?_ | refine ka ?_ _ | apply bp); exact BK225.out; all_goals rfl⟩
           have n3_ : Aside0 (Below w.heap.size w ((w158.setCell ⟨gb225, 0, none⟩ (.int .i64 t222)).setCell ⟨gb225, 1, none⟩ (.int .i64 t223))) := ⟨by repeat (first | (with_reducible first | exact HB.out | apply zb | apply zn | apply zd | refine zs ?_ GE199.out | refine zs ?_ GE200.out | refine zs ?_ GE225.out) | exact HB.out)⟩
           (try clear BK199)
           (try clear BK200)
           (try clear BK225)
           (try clear HB)
           generalize ((w158.setCell ⟨gb225, 0, none⟩ (.int .i64 t222)).setCell ⟨gb225, 1, none⟩ (.int .i64 t223)) = w162 at n0_ n1_ n2_ n3_ ⊢
           have BK199 := n0_
           have BK200 := n1_
           have BK225 := n2_
           have HB := n3_
           clear n0_ n1_ n2_ n3_
           have n0_ := Aside0.mk (blk_drew BK199.out)
           have n1_ := Aside0.mk (blk_drew BK200.out)
           have n2_ := Aside0.mk (blk_drew BK225.out)
           have n3_ := Aside0.mk (below_drew1 HB.out)
           clear BK199
           clear BK200
           clear BK225
           clear HB
           have BK199 := n0_
           have BK200 := n1_
           have BK225 := n2_
           have HB := n3_
           clear n0_ n1_ n2_ n3_
           refine start_ (n := 14) (S := fun w' => w'.cell? ⟨gb225, 0, none⟩ = some (.int .i64 t222) ∧ w'.cell? ⟨gb225, 1, none⟩ = some (.int .i64 t223)) (ds := []) #[false, false, false, false, false, false, false, false, false, false, false, false, false, false] (by kernel_rfl) rfl rfl ⟨(blk_cell BK225.out 0).trans rfl, (blk_cell BK225.out 1).trans rfl⟩ (fun hHeld => ?_); refine with_tabW heirloomref07_one.tab16 heirloomref07_one.bits16 (fun HT_ HW_ => ?_)
           generalize w162.drew = w163 at BK199 BK200 BK225 HB hHeld ⊢
           refine pure_ (i := 0) (N := some 103) (v := ?_) (a' := ?_) #[true, false, false, false, false, false, false, false, false, false, false, false, false, false] rfl rfl (any_of HT_.out (by kernel_rfl)) (fun _ _ _ h => h) (Or.inl ⟨by rfl, ?_⟩) ?_ ?_
           rotate_left
           ·intro w'
            go_simp
            with_reducible rfl
           rotate_left
           ·simp only [Act.put, List.setIfInBounds_toArray, List.set_cons_zero, List.set_cons_succ, i64_w, i32_w]
            rfl
           refine pure_ (i := 1) (N := some 104) (v := ?_) (a' := ?_) #[true, true, false, false, false, false, false, false, false, false, false, false, false, false] rfl rfl (any_of HT_.out (by kernel_rfl)) (fun _ _ _ h => h) (Or.inl ⟨by rfl, ?_⟩) ?_ ?_
           rotate_left
           ·intro w'
            go_simp
            with_reducible rfl
           rotate_left
           ·simp only [Act.put, List.setIfInBounds_toArray, List.set_cons_zero, List.set_cons_succ, i64_w, i32_w]
            rfl
           refine pure_ (i := 2) (N := some 105) (v := ?_) (a' := ?_) #[true, true, true, false, false, false, false, false, false, false, false, false, false, false] rfl rfl (any_of HT_.out (by kernel_rfl)) (fun _ _ _ h => h) (Or.inl ⟨by rfl, ?_⟩) ?_ ?_
           rotate_left
           ·intro w'
            go_simp
            with_reducible rfl
           rotate_left
           ·simp only [Act.put, List.setIfInBounds_toArray, List.set_cons_zero, List.set_cons_succ, i64_w, i32_w]
            rfl
           refine pure_ (i := 3) (N := some 106) (v := ?_) (a' := ?_) #[true, true, true, true, false, false, false, false, false, false, false, false, false, false] rfl rfl (any_of HT_.out (by kernel_rfl)) (fun _ _ _ h => h) (Or.inl ⟨by rfl, ?_⟩) ?_ ?_
           rotate_left
           ·intro w'
            go_simp
            with_reducible rfl
           rotate_left
           ·simp only [Act.put, List.setIfInBounds_toArray, List.set_cons_zero, List.set_cons_succ, i64_w, i32_w]
            rfl
           refine pure_ (i := 4) (N := some 107) (v := ?_) (a' := ?_) #[true, true, true, true, true, false, false, false, false, false, false, false, false, false] rfl rfl (any_of HT_.out (by kernel_rfl)) (fun _ _ _ h => h) (Or.inl ⟨by rfl, ?_⟩) ?_ ?_
           rotate_left
           ·intro w'
            go_simp
            with_reducible rfl
           rotate_left
           ·simp only [Act.put, List.setIfInBounds_toArray, List.set_cons_zero, List.set_cons_succ, i64_w, i32_w]
            rfl
           refine pure_ (i := 6) (N := some 109) (v := ?_) (a' := ?_) #[true, true, true, true, true, false, true, false, false, false, false, false, false, false] rfl rfl (any_of HT_.out (by kernel_rfl)) (fun _ _ _ h => h) (Or.inl ⟨by rfl, ?_⟩) ?_ ?_
           rotate_left
           ·intro w'
            go_simp
            with_reducible rfl
           rotate_left
           ·simp only [Act.put, List.setIfInBounds_toArray, List.set_cons_zero, List.set_cons_succ, i64_w, i32_w]
            rfl
           refine take_ (i := 5) (N := some 108) (v := ?_) (a' := ?_) #[true, true, true, true, true, true, true, false, false, false, false, false, false, false] rfl rfl (take_ofW HT_.out HW_.out (by kernel_rfl)) (fun _ _ _ h => h) (Or.inl ⟨by rfl, ?_⟩) hHeld ?_ ?_
           rotate_left
           ·rintro w' ⟨s0, s1⟩
            go_simp
            with_reducible rfl
           rotate_left
           ·simp only [Act.put, List.setIfInBounds_toArray, List.set_cons_zero, List.set_cons_succ, i64_w, i32_w]
            rfl
           refine one_ (i := 7) (N := none) #[true, true, true, true, true, true, true, true, false, false, false, false, false, false] rfl rfl (one_of HT_.out (by kernel_rfl)) (by decide) (fun K hK => ?_)
           have hs164 : w163.cell? ⟨gb200, 0, none⟩ = some (.int .i64 0) := (blk_cell BK200.out 0).trans rfl
           have hfs164 := blk_frozen BK200.out 0
           have hns164_0 := NB199_200.out
           have hns164_2 := NB225_200.out
           have hms164_0 := NB200_199.out
           have hms164_2 := NB200_225.out
           refine skip_ (w1 := ?_) (by rfl) rfl ?_ ?_
           rotate_left
           ·go_simp
            rfl
           refine hK.out _ _ ⟨((cell_far (p := ⟨gb200, _, none⟩) NB225_200.out _).trans (hHeld.1)), ((cell_far (p := ⟨gb200, _, none⟩) NB225_200.out _).trans (hHeld.2))⟩ (fun hHeld => ?_)
           clear hK K
           refine pure_ (i := 8) (N := some 110) (v := ?_) (a' := ?_) #[true, true, true, true, true, true, true, true, true, false, false, false, false, false] rfl rfl (any_of HT_.out (by kernel_rfl)) (fun _ _ _ h => h) (Or.inl ⟨by rfl, ?_⟩) ?_ ?_
           rotate_left
           ·intro w'
            go_simp
            with_reducible rfl
           rotate_left
           ·simp only [Act.put, List.setIfInBounds_toArray, List.set_cons_zero, List.set_cons_succ, i64_w, i32_w]
            rfl
           refine one_ (i := 9) (N := none) #[true, true, true, true, true, true, true, true, true, true, false, false, false, false] rfl rfl (one_of HT_.out (by kernel_rfl)) (by decide) (fun K hK => ?_)
           have hs165 : w163.cell? ⟨gb200, 1, none⟩ = some (.string (⟨#[]⟩ : ByteArray)) := (blk_cell BK200.out 1).trans rfl
           have hfs165 := blk_frozen BK200.out 1
           have hns165_0 := NB199_200.out
           have hns165_2 := NB225_200.out
           have hms165_0 := NB200_199.out
           have hms165_2 := NB200_225.out
           refine skip_ (w1 := ?_) (by rfl) rfl ?_ ?_
           rotate_left
           ·go_simp
            rfl
           refine hK.out _ _ ⟨((cell_far (p := ⟨gb200, _, none⟩) NB225_200.out _).trans (hHeld.1)), ((cell_far (p := ⟨gb200, _, none⟩) NB225_200.out _).trans (hHeld.2))⟩ (fun hHeld => ?_)
           clear hK K
           refine pure_ (i := 10) (N := some 111) (v := ?_) (a' := ?_) #[true, true, true, true, true, true, true, true, true, true, true, false, false, false] rfl rfl (any_of HT_.out (by kernel_rfl)) (fun _ _ _ h => h) (Or.inl ⟨by rfl, ?_⟩) ?_ ?_
           rotate_left
           ·intro w'
            go_simp
            with_reducible rfl
           rotate_left
           ·simp only [Act.put, List.setIfInBounds_toArray, List.set_cons_zero, List.set_cons_succ, i64_w, i32_w]
            rfl
           refine one_ (i := 11) (N := none) #[true, true, true, true, true, true, true, true, true, true, true, true, false, false] rfl rfl (one_of HT_.out (by kernel_rfl)) (by decide) (fun K hK => ?_)
           have hs166 : w163.cell? ⟨gb200, 6, none⟩ = some (.int .i64 0) := (blk_cell BK200.out 6).trans rfl
           have hfs166 := blk_frozen BK200.out 6
           have hns166_0 := NB199_200.out
           have hns166_2 := NB225_200.out
           have hms166_0 := NB200_199.out
           have hms166_2 := NB200_225.out
           refine skip_ (w1 := ?_) (by rfl) rfl ?_ ?_
           rotate_left
           ·go_simp
            rfl
           refine hK.out _ _ ⟨((cell_far (p := ⟨gb200, _, none⟩) NB225_200.out _).trans (hHeld.1)), ((cell_far (p := ⟨gb200, _, none⟩) NB225_200.out _).trans (hHeld.2))⟩ (fun hHeld => ?_)
           clear hK K
           refine pure_ (i := 12) (N := some 112) (v := ?_) (a' := ?_) #[true, true, true, true, true, true, true, true, true, true, true, true, true, false] rfl rfl (any_of HT_.out (by kernel_rfl)) (fun _ _ _ h => h) (Or.inl ⟨by rfl, ?_⟩) ?_ ?_
           rotate_left
           ·intro w'
            go_simp
            with_reducible rfl
           rotate_left
           ·simp only [Act.put, List.setIfInBounds_toArray, List.set_cons_zero, List.set_cons_succ, i64_w, i32_w]
            rfl
           refine one_ (i := 13) (N := none) #[true, true, true, true, true, true, true, true, true, true, true, true, true, true] rfl rfl (one_of HT_.out (by kernel_rfl)) (by decide) (fun K hK => ?_)
           have hs167 : w163.cell? ⟨gb200, 2, none⟩ = some (.int .i64 0) := (blk_cell BK200.out 2).trans rfl
           have hfs167 := blk_frozen BK200.out 2
           have hns167_0 := NB199_200.out
           have hns167_2 := NB225_200.out
           have hms167_0 := NB200_199.out
           have hms167_2 := NB200_225.out
           have hs168 : w163.cell? ⟨gb200, 3, none⟩ = some (.int .i64 0) := (blk_cell BK200.out 3).trans rfl
           have hfs168 := blk_frozen BK200.out 3
           have hns168_0 := NB199_200.out
           have hns168_2 := NB225_200.out
           have hms168_0 := NB200_199.out
           have hms168_2 := NB200_225.out
           refine skip_ (w1 := ?_) (by rfl) rfl ?_ ?_
           rotate_left
           ·go_simp
            rfl
           refine hK.out _ _ ⟨((cell_far (p := ⟨gb200, _, none⟩) NB225_200.out _).trans (((cell_far (p := ⟨gb200, _, none⟩) NB225_200.out _).trans (hHeld.1)))), ((cell_far (p := ⟨gb200, _, none⟩) NB225_200.out _).trans (((cell_far (p := ⟨gb200, _, none⟩) NB225_200.out _).trans (hHeld.2))))⟩ (fun hHeld => ?_)
           clear hK K
           refine done_ (done_of HT_.out (by kernel_rfl)) ?_
           have hnb169 := NB200_199.out
           have hnc169 := NB199_200.out
           have hcz170_0 : w163.cell? ⟨gb200, 0, none⟩ = some (.int .i64 0) := (blk_cell BK200.out 0).trans rfl
           have hcz170_1 : w163.cell? ⟨gb200, 1, none⟩ = some (.string (⟨#[]⟩ : ByteArray)) := (blk_cell BK200.out 1).trans rfl
           have hcz170_2 : w163.cell? ⟨gb200, 2, none⟩ = some (.int .i64 0) := (blk_cell BK200.out 2).trans rfl
           have hcz170_3 : w163.cell? ⟨gb200, 3, none⟩ = some (.int .i64 0) := (blk_cell BK200.out 3).trans rfl
           have hcz170_4 : w163.cell? ⟨gb200, 4, none⟩ = some (.string (⟨#[]⟩ : ByteArray)) := (blk_cell BK200.out 4).trans rfl
           have hcz170_5 : w163.cell? ⟨gb200, 5, none⟩ = some (.int .i64 a1) := (blk_cell BK200.out 5).trans rfl
           have hcz170_6 : w163.cell? ⟨gb200, 6, none⟩ = some (.int .i64 0) := (blk_cell BK200.out 6).trans rfl
           have hfz170_0 := blk_frozen BK200.out 0
           have hfz170_1 := blk_frozen BK200.out 1
           have hfz170_2 := blk_frozen BK200.out 2
           have hfz170_3 := blk_frozen BK200.out 3
           have hfz170_4 := blk_frozen BK200.out 4
           have hfz170_5 := blk_frozen BK200.out 5
           have hfz170_6 := blk_frozen BK200.out 6
           have hcz171_0 : w163.cell? ⟨gb199, 0, none⟩ = some (.int .i64 0) := (blk_cell BK199.out 0).trans rfl
           have hcz171_1 : w163.cell? ⟨gb199, 1, none⟩ = some (.string (⟨#[]⟩ : ByteArray)) := (blk_cell BK199.out 1).trans rfl
           have hcz171_2 : w163.cell? ⟨gb199, 2, none⟩ = some (.int .i64 0) := (blk_cell BK199.out 2).trans rfl
           have hcz171_3 : w163.cell? ⟨gb199, 3, none⟩ = some (.int .i64 0) := (blk_cell BK199.out 3).trans rfl
           have hcz171_4 : w163.cell? ⟨gb199, 4, none⟩ = some (.string (⟨#[]⟩ : ByteArray)) := (blk_cell BK199.out 4).trans rfl
           have hcz171_5 : w163.cell? ⟨gb199, 5, none⟩ = some (.int .i64 0) := (blk_cell BK199.out 5).trans rfl
           have hcz171_6 : w163.cell? ⟨gb199, 6, none⟩ = some (.int .i64 0) := (blk_cell BK199.out 6).trans rfl
           have hfz171_0 := blk_frozen BK199.out 0
           have hfz171_1 := blk_frozen BK199.out 1
           have hfz171_2 := blk_frozen BK199.out 2
           have hfz171_3 := blk_frozen BK199.out 3
           have hfz171_4 := blk_frozen BK199.out 4
           have hfz171_5 := blk_frozen BK199.out 5
           have hfz171_6 := blk_frozen BK199.out 6
           try go_wp2
           refine bodyPost_ret (results_ct rfl _ _ gb199 35 #[.int .i64 3, .string (a0.extract (a1 : Int).toNat (x7_1 : Int).toNat), .int .i64 t222, .int .i64 t223, .string (⟨#[]⟩ : ByteArray), .int .i64 a1, .int .i64 x7_1] (0, 0) _ rfl (by (repeat first | (with_reducible first | refine kn ?_ _ | refine kd ?_ | refine ka ?_ _ | apply bp) | apply blk_far (hp := NB199_200.out)); exact BK199.out; all_goals rfl) Tryd.underlying35 rfl (by kernel_rfl)) rfl ?_
           exact ⟨by first | rfl | (simp [errW_none, errW_some] <;> rfl) | (simp [*, errW_none, errW_some] <;> rfl), by repeat (first | (with_reducible first | exact HB.out | apply zb | apply zn | apply zd | refine zs ?_ GE199.out | refine zs ?_ GE200.out | refine zs ?_ GE225.out) | exact HB.out)⟩
          ·rw [if_neg c152] at H
           exact absurd H (by simp)
         ·rw [if_neg c151] at H
          exact absurd H (by simp)
        ·rw [if_neg c150] at H
         exact absurd H (by simp)
    ·replace c63 := Bool.eq_false_iff.mpr c63
     subst c63
     have H1 : (if (bt a0 a1) = 34 then (heirloomref07_one.l2 k a0 a1 (wrap64 (a1 + 1)) 0 (⟨#[]⟩ : ByteArray) 0 0 (⟨#[]⟩ : ByteArray) a1 0) else ((heirloomref07_signAt.f k a0 a1).bind fun t228 => (if t228 = 0 then (some (0, (⟨#[]⟩ : ByteArray), 0, 0, (⟨#[]⟩ : ByteArray), a1, 0, 15)) else (if a1 ≤ (wrap64 (a1 + t228)) then (if (wrap64 (a1 + t228)) ≤ (a0.size : Int) then (some (5, a0.extract (a1 : Int).toNat ((wrap64 (a1 + t228)) : Int).toNat, 0, 0, (⟨#[]⟩ : ByteArray), a1, wrap64 (a1 + t228), 0)) else (none)) else (none))))) = some (r1, r2, r3, r4, r5, r6, r7, r8) := by rw [if_neg (show ¬ (false = true) by decide)] at H; exact H
     clear H
     have H := H1
     clear H1
     by_cases c172 : (bt a0 a1) = 34
     ·rw [if_pos c172] at H
      have c172b0 : ((bt a0 a1) == 34) = true := beq_iff_eq.mpr c172
      have c172b1 : ((bt a0 a1) != 34) = false := bne_eq_false_iff_eq.mpr c172
      clear c172
      have HC173 := Aside0.mk H
      clear H
      go_enter Tryd.func22, Tryd.ntmps22
      go_upto_block 4 with (first | ((with_reducible refine gate_dst (N := 4) rfl ?_); (try (refine gate_guard (by rfl) ?_; dsimp only)); refine box_event ?hg (N := 4) ?hd (cs := #[.int .i64 0, .string (⟨#[]⟩ : ByteArray), .int .i64 0, .int .i64 0, .string (⟨#[]⟩ : ByteArray), .int .i64 0, .int .i64 0]) (t := 35) ?hr ?_; (case hd => rfl); (case hg => rfl); (case hr => go_simp <;> rfl); intro gb199 hg w174 hbox hb; have n0_ := Aside0.mk (below_step (by repeat (first | (with_reducible first | exact HB.out | apply zb | apply zn | apply zd) | exact HB.out)) hb); have n1_ := Aside0.mk (hbox); have n2_ := Aside0.mk ((by rw [hg]; exact (below_size (by repeat (first | (with_reducible first | exact HB.out | apply zb | apply zn | apply zd) | exact HB.out))) : w.heap.size ≤ gb199)); have n3_ := n2_; clear HB; have HB := n0_; have BK199 := n1_; have GW199 := n2_; have GE199 := n3_; clear n0_ n1_ n2_ n3_; clear hb hbox hg) | ((with_reducible refine gate_dst (N := 6) rfl ?_); (try (refine gate_guard (by rfl) ?_; dsimp only)); refine box_event ?hg (N := 6) ?hd (cs := #[.int .i64 0, .string (⟨#[]⟩ : ByteArray), .int .i64 0, .int .i64 0, .string (⟨#[]⟩ : ByteArray), .int .i64 0, .int .i64 0]) (t := 35) ?hr ?_; (case hd => rfl); (case hg => rfl); (case hr => go_simp <;> rfl); intro gb200 hg w175 hbox hb; have n0_ := Aside0.mk (blk_below (g := gb199) (o := .cells #[.int .i64 0, .string (⟨#[]⟩ : ByteArray), .int .i64 0, .int .i64 0, .string (⟨#[]⟩ : ByteArray), .int .i64 0, .int .i64 0] 35 (0, 0)) (by (with_reducible repeat first | refine kn ?_ _ | refine kd ?_ | refine ka ?_ _); exact BK199.out) hb); have n1_ := Aside0.mk (below_step (by repeat (first | (with_reducible first | exact HB.out | apply zb | apply zn | apply zd | refine zs ?_ GE199.out) | exact HB.out)) hb); have n2_ := Aside0.mk (hbox); have n3_ := Aside0.mk ((by rw [hg]; exact (below_size (by repeat (first | (with_reducible first | exact HB.out | apply zb | apply zn | apply zd | refine zs ?_ GE199.out) | exact HB.out))) : w.heap.size ≤ gb200)); have n4_ := Aside0.mk ((by rw [hg]; exact (below_size (by repeat (first | (with_reducible first | exact HB.out | apply zb | apply zn | apply zd | refine zs ?_ GE199.out) | exact HB.out))) : w.heap.size ≤ gb200)); have n5_ := Aside0.mk ((by rw [hg]; exact Nat.ne_of_lt (blk_lt (g := gb199) (o := .cells #[.int .i64 0, .string (⟨#[]⟩ : ByteArray), .int .i64 0, .int .i64 0, .string (⟨#[]⟩ : ByteArray), .int .i64 0, .int .i64 0] 35 (0, 0)) (by (with_reducible repeat first | refine kn ?_ _ | refine kd ?_ | refine ka ?_ _); exact BK199.out)) : gb199 ≠ gb200)); have n6_ := Aside0.mk ((by rw [hg]; exact Nat.ne_of_gt (blk_lt (g := gb199) (o := .cells #[.int .i64 0, .string (⟨#[]⟩ : ByteArray), .int .i64 0, .int .i64 0, .string (⟨#[]⟩ : ByteArray), .int .i64 0, .int .i64 0] 35 (0, 0)) (by (with_reducible repeat first | refine kn ?_ _ | refine kd ?_ | refine ka ?_ _); exact BK199.out)) : gb200 ≠ gb199)); clear BK199; clear HB; have BK199 := n0_; have HB := n1_; have BK200 := n2_; have GW200 := n3_; have GE200 := n4_; have NB199_200 := n5_; have NB200_199 := n6_; clear n0_ n1_ n2_ n3_ n4_ n5_ n6_; clear hb hbox hg; have hnb176 := NB200_199.out; have hnc176 := NB199_200.out; have hcz177_0 : w175.cell? ⟨gb200, 0, none⟩ = some (.int .i64 0) := (blk_cell BK200.out 0).trans rfl; have hcz177_1 : w175.cell? ⟨gb200, 1, none⟩ = some (.string (⟨#[]⟩ : ByteArray)) := (blk_cell BK200.out 1).trans rfl; have hcz177_2 : w175.cell? ⟨gb200, 2, none⟩ = some (.int .i64 0) := (blk_cell BK200.out 2).trans rfl; have hcz177_3 : w175.cell? ⟨gb200, 3, none⟩ = some (.int .i64 0) := (blk_cell BK200.out 3).trans rfl; have hcz177_4 : w175.cell? ⟨gb200, 4, none⟩ = some (.string (⟨#[]⟩ : ByteArray)) := (blk_cell BK200.out 4).trans rfl; have hcz177_5 : w175.cell? ⟨gb200, 5, none⟩ = some (.int .i64 0) := (blk_cell BK200.out 5).trans rfl; have hcz177_6 : w175.cell? ⟨gb200, 6, none⟩ = some (.int .i64 0) := (blk_cell BK200.out 6).trans rfl; have hfz177_0 := blk_frozen BK200.out 0; have hfz177_1 := blk_frozen BK200.out 1; have hfz177_2 := blk_frozen BK200.out 2; have hfz177_3 := blk_frozen BK200.out 3; have hfz177_4 := blk_frozen BK200.out 4; have hfz177_5 := blk_frozen BK200.out 5; have hfz177_6 := blk_frozen BK200.out 6; have p5 : 0 ≤ (a1 : Int) := of_decide_eq_true (by first | (with_reducible assumption) | assumption); have q5 : a1 < (a0.size : Int) := of_decide_eq_true (by first | (with_reducible assumption) | assumption); have hx5 := bt_at a0 a1; replace p5 := eq_true p5; replace q5 := eq_true q5) | ((with_reducible refine gate_callee (f := 42) rfl ?_); refine goesL_ (some 21) rfl rfl Tryd.func42 (by kernel_rfl) rfl #[.int .u8 (bt a0 a1)] rfl (by simp only [m1, m2, m3] <;> rfl) ?_; (with_reducible refine (heirloomref07_letter.calls (bt a0 a1) false _ A6.out).mono ?_); rintro e w' ⟨rfl, ⟨nd, rfl⟩⟩; refine ⟨_, rfl, ?_⟩) | ((with_reducible refine gate_callee (f := 43) rfl ?_); refine goesL_ (some 56) rfl rfl Tryd.func43 (by kernel_rfl) rfl #[.int .u8 (bt a0 a1)] rfl (by simp only [m1, m2, m3] <;> rfl) ?_; (with_reducible refine (heirloomref07_digit.calls (bt a0 a1) false _ A62.out).mono ?_); rintro e w' ⟨rfl, ⟨nd, rfl⟩⟩; refine ⟨_, rfl, ?_⟩))
      (try simp only [Act.put, List.setIfInBounds_toArray, List.set_cons_zero, List.set_cons_succ])
      go_cut [7] (fun v7 wc => ∃ (kq : Nat) (x7_172 : Int), v7 = .int .i64 x7_172 ∧ Aside0 (heirloomref07_one.j3 kq a0 a1 x7_172 0 (⟨#[]⟩ : ByteArray) 0 0 (⟨#[]⟩ : ByteArray) a1 0 = some (r1, r2, r3, r4, r5, r6, r7, r8)) ∧ Aside0 (kq ≤ k) ∧ Aside0 (wc.heap[gb199]? = some (.cells #[.int .i64 0, .string (⟨#[]⟩ : ByteArray), .int .i64 0, .int .i64 0, .string (⟨#[]⟩ : ByteArray), .int .i64 0, .int .i64 0] 35 (0, 0))) ∧ Aside0 (wc.heap[gb200]? = some (.cells #[.int .i64 0, .string (⟨#[]⟩ : ByteArray), .int .i64 0, .int .i64 0, .string (⟨#[]⟩ : ByteArray), .int .i64 a1, .int .i64 0] 35 (0, 0))) ∧ Aside0 (Below w.heap.size w wc))
      case first =>
       have H := HC173.out
       clear HC173
       have H' := Aside0.mk H
       clear H
       go_wp2
       try go_frame
       go_loopg [7] k (fun kq v7 w' => ∃ (x7_1 : Int), v7 = .int .i64 x7_1 ∧ Aside0 (heirloomref07_one.l2 kq a0 a1 x7_1 0 (⟨#[]⟩ : ByteArray) 0 0 (⟨#[]⟩ : ByteArray) a1 0 = some (r1, r2, r3, r4, r5, r6, r7, r8)) ∧ Aside0 (kq ≤ k) ∧ Aside0 (w'.heap[gb199]? = some (.cells #[.int .i64 0, .string (⟨#[]⟩ : ByteArray), .int .i64 0, .int .i64 0, .string (⟨#[]⟩ : ByteArray), .int .i64 0, .int .i64 0] 35 (0, 0))) ∧ Aside0 (w'.heap[gb200]? = some (.cells #[.int .i64 0, .string (⟨#[]⟩ : ByteArray), .int .i64 0, .int .i64 0, .string (⟨#[]⟩ : ByteArray), .int .i64 a1, .int .i64 0] 35 (0, 0))) ∧ Aside0 (Below w.heap.size w w'))
       case atStart => exact ⟨(wrap64 (a1 + 1)), (by first | rfl | (simp; done) | (simp [*]; done)), H', ⟨Nat.le_refl _⟩, ⟨by (repeat first | (with_reducible first | refine kn ?_ _ | refine kd ?_ | refine ka ?_ _ | apply bp) | apply blk_far (hp := NB199_200.out)); exact BK199.out; all_goals rfl⟩, ⟨by (with_reducible repeat first | refine kn ?_ _ | refine kd ?_ | refine ka ?_ _ | apply bp); exact BK200.out; all_goals rfl⟩, ⟨by repeat (first | (with_reducible first | exact HB.out | apply zb | apply zn | apply zd | refine zs ?_ GE199.out | refine zs ?_ GE200.out) | exact HB.out)⟩⟩
       case round =>
        clear H'
        try clear c1
        try clear c2
        try clear p2
        try clear c4
        try clear p5
        try clear q5
        try clear hx5
        try clear c6
        try clear p6
        try clear c7
        try clear p7
        try clear q7
        try clear hx7
        try clear c10
        try clear c12
        try clear c13
        try clear c14
        try clear c15
        try clear c16
        try clear c17
        try clear c22
        try clear c42
        try clear c43
        try clear c44
        try clear c63
        try clear p64
        try clear c68
        try clear c68b0
        try clear c69
        try clear p70
        try clear q70
        try clear hx70
        try clear p73
        try clear q73
        try clear hx73
        try clear p76
        try clear q76
        try clear hx76
        try clear c77
        try clear c77b0
        try clear c77b1
        try clear c106
        try clear c107
        try clear c108
        try clear c125
        try clear c128
        try clear c128b0
        try clear c128b1
        try clear c129
        try clear c129b0
        try clear c129b1
        try clear c130
        try clear c130b0
        try clear c130b1
        try clear c132
        try clear c132b0
        try clear c133
        try clear c133b0
        try clear c134
        try clear c134b0
        try clear c137
        try clear c138
        try clear c147
        try clear c150
        try clear c150b0
        try clear c150b1
        try clear c151
        try clear c151b0
        try clear c151b1
        try clear c152
        try clear c152b0
        try clear c152b1
        try clear c154
        try clear c154b0
        try clear c155
        try clear c155b0
        try clear c156
        try clear c156b0
        try clear c159
        try clear c160
        try clear c169
        try clear c172
        try clear c172b0
        try clear c172b1
        try clear c176
        try clear hcz126_0
        try clear hcz126_1
        try clear hcz126_2
        try clear hcz126_3
        try clear hcz126_4
        try clear hcz126_5
        try clear hcz126_6
        try clear hcz127_0
        try clear hcz127_1
        try clear hcz127_2
        try clear hcz127_3
        try clear hcz127_4
        try clear hcz127_5
        try clear hcz127_6
        try clear hcz139_0
        try clear hcz139_1
        try clear hcz148_0
        try clear hcz148_1
        try clear hcz148_2
        try clear hcz148_3
        try clear hcz148_4
        try clear hcz148_5
        try clear hcz148_6
        try clear hcz149_0
        try clear hcz149_1
        try clear hcz149_2
        try clear hcz149_3
        try clear hcz149_4
        try clear hcz149_5
        try clear hcz149_6
        try clear hcz161_0
        try clear hcz161_1
        try clear hcz170_0
        try clear hcz170_1
        try clear hcz170_2
        try clear hcz170_3
        try clear hcz170_4
        try clear hcz170_5
        try clear hcz170_6
        try clear hcz171_0
        try clear hcz171_1
        try clear hcz171_2
        try clear hcz171_3
        try clear hcz171_4
        try clear hcz171_5
        try clear hcz171_6
        try clear hcz177_0
        try clear hcz177_1
        try clear hcz177_2
        try clear hcz177_3
        try clear hcz177_4
        try clear hcz177_5
        try clear hcz177_6
        try clear hfz126_0
        try clear hfz126_1
        try clear hfz126_2
        try clear hfz126_3
        try clear hfz126_4
        try clear hfz126_5
        try clear hfz126_6
        try clear hfz127_0
        try clear hfz127_1
        try clear hfz127_2
        try clear hfz127_3
        try clear hfz127_4
        try clear hfz127_5
        try clear hfz127_6
        try clear hfz139_0
        try clear hfz139_1
        try clear hfz148_0
        try clear hfz148_1
        try clear hfz148_2
        try clear hfz148_3
        try clear hfz148_4
        try clear hfz148_5
        try clear hfz148_6
        try clear hfz149_0
        try clear hfz149_1
        try clear hfz149_2
        try clear hfz149_3
        try clear hfz149_4
        try clear hfz149_5
        try clear hfz149_6
        try clear hfz161_0
        try clear hfz161_1
        try clear hfz170_0
        try clear hfz170_1
        try clear hfz170_2
        try clear hfz170_3
        try clear hfz170_4
        try clear hfz170_5
        try clear hfz170_6
        try clear hfz171_0
        try clear hfz171_1
        try clear hfz171_2
        try clear hfz171_3
        try clear hfz171_4
        try clear hfz171_5
        try clear hfz171_6
        try clear hfz177_0
        try clear hfz177_1
        try clear hfz177_2
        try clear hfz177_3
        try clear hfz177_4
        try clear hfz177_5
        try clear hfz177_6
        try clear p5
        try clear p70
        try clear p73
        try clear p76
        try clear q5
        try clear q70
        try clear q73
        try clear q76
        obtain ⟨x7_1, rfl, HA, HK1, BK199, BK200, HB⟩ := hrel
        cases gk with
        | zero => exact absurd HA.out (by simp [heirloomref07_one.l2])
        | succ k1 =>
         have H := HA.out
         clear HA
         simp only [heirloomref07_one.l2] at H
         by_cases c178 : x7_1 < (a0.size : Int)
         ·rw [if_pos c178] at H
          have c178b0 : decide (x7_1 < (a0.size : Int)) = true := decide_eq_true c178
          clear c178
          (first | rw [c178b0] | (simp only [i64_w, i32_w]; rw [c178b0]) | skip)
          by_cases c179 : 0 ≤ x7_1
          ·rw [if_pos c179] at H
           have c179b0 : decide (0 ≤ x7_1) = true := decide_eq_true c179
           clear c179
           by_cases c181 : (bt a0 x7_1) = 34
           ·rw [if_pos c181] at H
            have c181b0 : ((bt a0 x7_1) == 34) = true := beq_iff_eq.mpr c181
            have c181b1 : ((bt a0 x7_1) != 34) = false := bne_eq_false_iff_eq.mpr c181
            clear c181
            have H' := Aside0.mk H
            clear H
            have p180 : 0 ≤ (x7_1 : Int) := of_decide_eq_true (by first | (with_reducible assumption) | assumption)
            have q180 : x7_1 < (a0.size : Int) := of_decide_eq_true (by first | (with_reducible assumption) | assumption)
            have hx180 := bt_at a0 x7_1
            replace p180 := eq_true p180
            replace q180 := eq_true q180
            go_wp2
            go_meet
            case rel => exact ⟨_, (x7_1), (by first | rfl | (simp; done) | (simp [*]; done)), H', ⟨by have := HK1.out; first | omega | exact Nat.le_refl _⟩, ⟨by (with_reducible repeat first | refine kn ?_ _ | refine kd ?_ | refine ka ?_ _); exact BK199.out⟩, ⟨by (with_reducible repeat first | refine kn ?_ _ | refine kd ?_ | refine ka ?_ _); exact BK200.out⟩, ⟨by repeat (first | (with_reducible first | exact HB.out | apply zb | apply zn | apply zd | refine zs ?_ GE199.out | refine zs ?_ GE200.out) | exact HB.out)⟩⟩
           ·rw [if_neg c181] at H
            have c181b0 : ((bt a0 x7_1) == 34) = false := beq_eq_false_iff_ne.mpr c181
            have c181b1 : ((bt a0 x7_1) != 34) = true := bne_iff_ne.mpr c181
            have H' := Aside0.mk H
            clear H
            have p180 : 0 ≤ (x7_1 : Int) := of_decide_eq_true (by first | (with_reducible assumption) | assumption)
            have q180 : x7_1 < (a0.size : Int) := of_decide_eq_true (by first | (with_reducible assumption) | assumption)
            have hx180 := bt_at a0 x7_1
            replace p180 := eq_true p180
            replace q180 := eq_true q180
            go_wp2
            go_roundg k1
            case measure => have := HK1.out; omega
            case rel => exact ⟨(wrap64 (x7_1 + 1)), (by first | rfl | (simp; done) | (simp [*]; done)), H', ⟨by have := HK1.out; omega⟩, ⟨by (with_reducible repeat first | refine kn ?_ _ | refine kd ?_ | refine ka ?_ _); exact BK199.out⟩, ⟨by (with_reducible repeat first | refine kn ?_ _ | refine kd ?_ | refine ka ?_ _); exact BK200.out⟩, ⟨by repeat (first | (with_reducible first | exact HB.out | apply zb | apply zn | apply zd | refine zs ?_ GE199.out | refine zs ?_ GE200.out) | exact HB.out)⟩⟩
          ·rw [if_neg c179] at H
           exact absurd H (by simp)
         ·rw [if_neg c178] at H
          have c178b0 : decide (x7_1 < (a0.size : Int)) = false := decide_eq_false c178
          clear c178
          (first | rw [c178b0] | (simp only [i64_w, i32_w]; rw [c178b0]) | skip)
          have H' := Aside0.mk H
          clear H
          go_wp2
          go_meet
          case rel => exact ⟨_, (x7_1), (by first | rfl | (simp; done) | (simp [*]; done)), H', ⟨by have := HK1.out; first | omega | exact Nat.le_refl _⟩, ⟨by (with_reducible repeat first | refine kn ?_ _ | refine kd ?_ | refine ka ?_ _); exact BK199.out⟩, ⟨by (with_reducible repeat first | refine kn ?_ _ | refine kd ?_ | refine ka ?_ _); exact BK200.out⟩, ⟨by repeat (first | (with_reducible first | exact HB.out | apply zb | apply zn | apply zd | refine zs ?_ GE199.out | refine zs ?_ GE200.out) | exact HB.out)⟩⟩
      case rest =>
       clear HC173
       try clear c1
       try clear p1
       try clear q1
       try clear hx1
       try clear c2
       try clear p2
       try clear c4
       try clear p5
       try clear q5
       try clear hx5
       try clear c6
       try clear p6
       try clear c7
       try clear p7
       try clear q7
       try clear hx7
       try clear c10
       try clear c12
       try clear c13
       try clear c14
       try clear c15
       try clear c16
       try clear c17
       try clear c18
       try clear p18
       try clear q18
       try clear hx18
       try clear c22
       try clear c42
       try clear c43
       try clear c44
       try clear c63
       try clear p64
       try clear c68
       try clear c68b0
       try clear c69
       try clear p70
       try clear q70
       try clear hx70
       try clear p73
       try clear q73
       try clear hx73
       try clear p76
       try clear q76
       try clear hx76
       try clear c77
       try clear c77b0
       try clear c77b1
       try clear c106
       try clear c107
       try clear c108
       try clear c125
       try clear c128
       try clear c128b0
       try clear c128b1
       try clear c129
       try clear c129b0
       try clear c129b1
       try clear c130
       try clear c130b0
       try clear c130b1
       try clear c132
       try clear c132b0
       try clear c133
       try clear c133b0
       try clear c134
       try clear c134b0
       try clear c137
       try clear c138
       try clear c147
       try clear c150
       try clear c150b0
       try clear c150b1
       try clear c151
       try clear c151b0
       try clear c151b1
       try clear c152
       try clear c152b0
       try clear c152b1
       try clear c154
       try clear c154b0
       try clear c155
       try clear c155b0
       try clear c156
       try clear c156b0
       try clear c159
       try clear c160
       try clear c169
       try clear c172
       try clear c172b0
       try clear c172b1
       try clear c176
       try clear c178
       try clear c178b0
       try clear c179
       try clear c179b0
       try clear p180
       try clear q180
       try clear hx180
       try clear c181
       try clear c181b0
       try clear c181b1
       try clear hcz126_0
       try clear hcz126_1
       try clear hcz126_2
       try clear hcz126_3
       try clear hcz126_4
       try clear hcz126_5
       try clear hcz126_6
       try clear hcz127_0
       try clear hcz127_1
       try clear hcz127_2
       try clear hcz127_3
       try clear hcz127_4
       try clear hcz127_5
       try clear hcz127_6
       try clear hcz139_0
       try clear hcz139_1
       try clear hcz148_0
       try clear hcz148_1
       try clear hcz148_2
       try clear hcz148_3
       try clear hcz148_4
       try clear hcz148_5
       try clear hcz148_6
       try clear hcz149_0
       try clear hcz149_1
       try clear hcz149_2
       try clear hcz149_3
       try clear hcz149_4
       try clear hcz149_5
       try clear hcz149_6
       try clear hcz161_0
       try clear hcz161_1
       try clear hcz170_0
       try clear hcz170_1
       try clear hcz170_2
       try clear hcz170_3
       try clear hcz170_4
       try clear hcz170_5
       try clear hcz170_6
       try clear hcz171_0
       try clear hcz171_1
       try clear hcz171_2
       try clear hcz171_3
       try clear hcz171_4
       try clear hcz171_5
       try clear hcz171_6
       try clear hcz177_0
       try clear hcz177_1
       try clear hcz177_2
       try clear hcz177_3
       try clear hcz177_4
       try clear hcz177_5
       try clear hcz177_6
       try clear hfz126_0
       try clear hfz126_1
       try clear hfz126_2
       try clear hfz126_3
       try clear hfz126_4
       try clear hfz126_5
       try clear hfz126_6
       try clear hfz127_0
       try clear hfz127_1
       try clear hfz127_2
       try clear hfz127_3
       try clear hfz127_4
       try clear hfz127_5
       try clear hfz127_6
       try clear hfz139_0
       try clear hfz139_1
       try clear hfz148_0
       try clear hfz148_1
       try clear hfz148_2
       try clear hfz148_3
       try clear hfz148_4
       try clear hfz148_5
       try clear hfz148_6
       try clear hfz149_0
       try clear hfz149_1
       try clear hfz149_2
       try clear hfz149_3
       try clear hfz149_4
       try clear hfz149_5
       try clear hfz149_6
       try clear hfz161_0
       try clear hfz161_1
       try clear hfz170_0
       try clear hfz170_1
       try clear hfz170_2
       try clear hfz170_3
       try clear hfz170_4
       try clear hfz170_5
       try clear hfz170_6
       try clear hfz171_0
       try clear hfz171_1
       try clear hfz171_2
       try clear hfz171_3
       try clear hfz171_4
       try clear hfz171_5
       try clear hfz171_6
       try clear hfz177_0
       try clear hfz177_1
       try clear hfz177_2
       try clear hfz177_3
       try clear hfz177_4
       try clear hfz177_5
       try clear hfz177_6
       try clear p180
       try clear p2
       try clear p5
       try clear p6
       try clear p64
       try clear p7
       try clear p70
       try clear p73
       try clear p76
       try clear q180
       try clear q5
       try clear q7
       try clear q70
       try clear q73
       try clear q76
       obtain ⟨kq, x7_172, rfl, HA, HJ172, BK199, BK200, HB⟩ := hcut
       cases kq with
       | zero => exact absurd HA.out (by simp [heirloomref07_one.j3])
       | succ kj172 =>
        have H := HA.out
        clear HA
        simp only [heirloomref07_one.j3] at H
        by_cases c182 : x7_172 = (a0.size : Int)
        ·rw [if_pos c182] at H
         have c182b0 : (x7_172 == (a0.size : Int)) = true := beq_iff_eq.mpr c182
         have c182b1 : (x7_172 != (a0.size : Int)) = false := bne_eq_false_iff_eq.mpr c182
         clear c182
         simp only [Option.some.injEq, Prod.mk.injEq] at H
         obtain ⟨rfl, rfl, rfl, rfl, rfl, rfl, rfl, rfl⟩ := H
         have hnb183 := NB200_199.out
         have hnc183 := NB199_200.out
         have hcz184_0 : wc.cell? ⟨gb200, 0, none⟩ = some (.int .i64 0) := (blk_cell BK200.out 0).trans rfl
         have hcz184_1 : wc.cell? ⟨gb200, 1, none⟩ = some (.string (⟨#[]⟩ : ByteArray)) := (blk_cell BK200.out 1).trans rfl
         have hcz184_2 : wc.cell? ⟨gb200, 2, none⟩ = some (.int .i64 0) := (blk_cell BK200.out 2).trans rfl
         have hcz184_3 : wc.cell? ⟨gb200, 3, none⟩ = some (.int .i64 0) := (blk_cell BK200.out 3).trans rfl
         have hcz184_4 : wc.cell? ⟨gb200, 4, none⟩ = some (.string (⟨#[]⟩ : ByteArray)) := (blk_cell BK200.out 4).trans rfl
         have hcz184_5 : wc.cell? ⟨gb200, 5, none⟩ = some (.int .i64 a1) := (blk_cell BK200.out 5).trans rfl
         have hcz184_6 : wc.cell? ⟨gb200, 6, none⟩ = some (.int .i64 0) := (blk_cell BK200.out 6).trans rfl
         have hfz184_0 := blk_frozen BK200.out 0
         have hfz184_1 := blk_frozen BK200.out 1
         have hfz184_2 := blk_frozen BK200.out 2
         have hfz184_3 := blk_frozen BK200.out 3
         have hfz184_4 := blk_frozen BK200.out 4
         have hfz184_5 := blk_frozen BK200.out 5
         have hfz184_6 := blk_frozen BK200.out 6
         have hcz185_0 : wc.cell? ⟨gb199, 0, none⟩ = some (.int .i64 0) := (blk_cell BK199.out 0).trans rfl
         have hcz185_1 : wc.cell? ⟨gb199, 1, none⟩ = some (.string (⟨#[]⟩ : ByteArray)) := (blk_cell BK199.out 1).trans rfl
         have hcz185_2 : wc.cell? ⟨gb199, 2, none⟩ = some (.int .i64 0) := (blk_cell BK199.out 2).trans rfl
         have hcz185_3 : wc.cell? ⟨gb199, 3, none⟩ = some (.int .i64 0) := (blk_cell BK199.out 3).trans rfl
         have hcz185_4 : wc.cell? ⟨gb199, 4, none⟩ = some (.string (⟨#[]⟩ : ByteArray)) := (blk_cell BK199.out 4).trans rfl
         have hcz185_5 : wc.cell? ⟨gb199, 5, none⟩ = some (.int .i64 0) := (blk_cell BK199.out 5).trans rfl
         have hcz185_6 : wc.cell? ⟨gb199, 6, none⟩ = some (.int .i64 0) := (blk_cell BK199.out 6).trans rfl
         have hfz185_0 := blk_frozen BK199.out 0
         have hfz185_1 := blk_frozen BK199.out 1
         have hfz185_2 := blk_frozen BK199.out 2
         have hfz185_3 := blk_frozen BK199.out 3
         have hfz185_4 := blk_frozen BK199.out 4
         have hfz185_5 := blk_frozen BK199.out 5
         have hfz185_6 := blk_frozen BK199.out 6
         go_wp2
         refine bodyPost_ret (results_ct rfl _ _ gb199 35 #[.int .i64 0, .string (⟨#[]⟩ : ByteArray), .int .i64 0, .int .i64 0, .string (⟨#[]⟩ : ByteArray), .int .i64 a1, .int .i64 0] (0, 0) _ rfl (by (with_reducible repeat first | refine kn ?_ _ | refine kd ?_ | refine ka ?_ _ | apply bp); exact BK199.out; all_goals rfl) Tryd.underlying35 rfl (by kernel_rfl)) rfl ?_
         exact ⟨by first | rfl | (simp [errW_none, errW_some] <;> rfl) | (simp [*, errW_none, errW_some] <;> rfl), by repeat (first | (with_reducible first | exact HB.out | apply zb | apply zn | apply zd | refine zs ?_ GE199.out | refine zs ?_ GE200.out) | exact HB.out)⟩
        ·rw [if_neg c182] at H
         have c182b0 : (x7_172 == (a0.size : Int)) = false := beq_eq_false_iff_ne.mpr c182
         have c182b1 : (x7_172 != (a0.size : Int)) = true := bne_iff_ne.mpr c182
         by_cases c186 : 0 ≤ a1
         ·rw [if_pos c186] at H
          have c186b0 := eq_true c186
          have c186b1 : decide (0 ≤ a1) = true := decide_eq_true c186
          clear c186
          by_cases c187 : a1 ≤ (wrap64 (x7_172 + 1))
          ·rw [if_pos c187] at H
           have c187b0 := eq_true c187
           have c187b1 : decide (a1 ≤ (wrap64 (x7_172 + 1))) = true := decide_eq_true c187
           by_cases c188 : (wrap64 (x7_172 + 1)) ≤ (a0.size : Int)
           ·rw [if_pos c188] at H
            have c188b0 := eq_true c188
            have c188b1 : decide ((wrap64 (x7_172 + 1)) ≤ (a0.size : Int)) = true := decide_eq_true c188
            replace H := Option.bind_eq_some_iff.mp H
            obtain ⟨⟨t226, t227⟩, A1890, H⟩ := H
            replace H : (if t227 = 0 then (some (4, a0.extract (a1 : Int).toNat ((wrap64 (x7_172 + 1)) : Int).toNat, 0, 0, t226, a1, wrap64 (x7_172 + 1), 0)) else (some (0, (⟨#[]⟩ : ByteArray), 0, 0, (⟨#[]⟩ : ByteArray), a1, 0, 16))) = some (r1, r2, r3, r4, r5, r6, r7, r8) := H
            have A189 := Aside0.mk A1890
            clear A1890
            by_cases c190 : t227 = 0
            ·rw [if_pos c190] at H
             have c190b0 : (t227 == 0) = true := beq_iff_eq.mpr c190
             have c190b1 : (t227 != 0) = false := bne_eq_false_iff_eq.mpr c190
             clear c190
             have c191b0 := eq_true (of_decide_eq_true (by first | (with_reducible assumption) | assumption) : 0 ≤ a1)
             have c192b0 := eq_true (of_decide_eq_true (by first | (with_reducible assumption) | assumption) : a1 ≤ (wrap64 (x7_172 + 1)))
             have c193b0 := eq_true (of_decide_eq_true (by first | (with_reducible assumption) | assumption) : (wrap64 (x7_172 + 1)) ≤ (a0.size : Int))
             simp only [Option.some.injEq, Prod.mk.injEq] at H
             obtain ⟨rfl, rfl, rfl, rfl, rfl, rfl, rfl, rfl⟩ := H
             try go_wp2_with (first | ((with_reducible refine gate_callee (f := 45) rfl ?_); refine goesL_ (some 142) rfl rfl Tryd.func45 (by kernel_rfl) rfl #[.string (a0.extract (a1 : Int).toNat ((wrap64 (x7_172 + 1)) : Int).toNat)] rfl (by (try simp only [List.map_toArray, List.map_cons, List.map_nil]); first | done | rfl | (simp only [List.length_drop, List.length_take]; rfl)) ?_; (with_reducible refine (heirloomref02_Unquote.calls kj172 (a0.extract (a1 : Int).toNat ((wrap64 (x7_172 + 1)) : Int).toNat) t226 t227 _ A189.out).mono ?_); rintro e w194 ⟨rfl, hb⟩; refine ⟨_, rfl, ?_⟩; have n0_ := Aside0.mk (blk_below (g := gb199) (o := .cells #[.int .i64 0, .string (⟨#[]⟩ : ByteArray), .int .i64 0, .int .i64 0, .string (⟨#[]⟩ : ByteArray), .int .i64 0, .int .i64 0] 35 (0, 0)) (by (with_reducible repeat first | refine kn ?_ _ | refine kd ?_ | refine ka ?_ _); exact BK199.out) hb); have n1_ := Aside0.mk (blk_below (g := gb200) (o := .cells #[.int .i64 0, .string (⟨#[]⟩ : ByteArray), .int .i64 0, .int .i64 0, .string (⟨#[]⟩ : ByteArray), .int .i64 a1, .int .i64 0] 35 (0, 0)) (by (with_reducible repeat first | refine kn ?_ _ | refine kd ?_ | refine ka ?_ _); exact BK200.out) hb); have n2_ := Aside0.mk (below_step (by repeat (first | (with_reducible first | exact HB.out | apply zb | apply zn | apply zd | refine zs ?_ GE199.out | refine zs ?_ GE200.out) | exact HB.out)) hb); clear BK199; clear BK200; clear HB; have BK199 := n0_; have BK200 := n1_; have HB := n2_; clear n0_ n1_ n2_; (try clear hb)))
             have n0_ := Aside0.mk (blk_drew BK199.out)
             have n1_ := Aside0.mk (blk_drew BK200.out)
             have n2_ := Aside0.mk (below_drew1 HB.out)
             clear BK199
             clear BK200
             clear HB
             have BK199 := n0_
             have BK200 := n1_
             have HB := n2_
             clear n0_ n1_ n2_
             refine start_ (n := 16) (S := fun w' => True) (ds := []) #[false, false, false, false, false, false, false, false, false, false, false, false, false, false, false, false] (by kernel_rfl) rfl rfl trivial (fun hHeld => ?_); refine with_tabW heirloomref07_one.tab27 heirloomref07_one.bits27 (fun HT_ HW_ => ?_)
             generalize w194.drew = w195 at BK199 BK200 HB hHeld ⊢
             refine pure_ (i := 0) (N := some 148) (v := ?_) (a' := ?_) #[true, false, false, false, false, false, false, false, false, false, false, false, false, false, false, false] rfl rfl (any_of HT_.out (by kernel_rfl)) (fun _ _ _ h => h) (Or.inl ⟨by rfl, ?_⟩) ?_ ?_
             rotate_left
             ·intro w'
              go_simp
              with_reducible rfl
             rotate_left
             ·simp only [Act.put, List.setIfInBounds_toArray, List.set_cons_zero, List.set_cons_succ, i64_w, i32_w]
              rfl
             refine pure_ (i := 1) (N := some 149) (v := ?_) (a' := ?_) #[true, true, false, false, false, false, false, false, false, false, false, false, false, false, false, false] rfl rfl (any_of HT_.out (by kernel_rfl)) (fun _ _ _ h => h) (Or.inl ⟨by rfl, ?_⟩) ?_ ?_
             rotate_left
             ·intro w'
              go_simp
              with_reducible rfl
             rotate_left
             ·simp only [Act.put, List.setIfInBounds_toArray, List.set_cons_zero, List.set_cons_succ, i64_w, i32_w]
              rfl
             refine pure_ (i := 2) (N := some 150) (v := ?_) (a' := ?_) #[true, true, true, false, false, false, false, false, false, false, false, false, false, false, false, false] rfl rfl (any_of HT_.out (by kernel_rfl)) (fun _ _ _ h => h) (Or.inl ⟨by rfl, ?_⟩) ?_ ?_
             rotate_left
             ·intro w'
              go_simp
              with_reducible rfl
             rotate_left
             ·simp only [Act.put, List.setIfInBounds_toArray, List.set_cons_zero, List.set_cons_succ, i64_w, i32_w]
              rfl
             refine pure_ (i := 3) (N := some 151) (v := ?_) (a' := ?_) #[true, true, true, true, false, false, false, false, false, false, false, false, false, false, false, false] rfl rfl (any_of HT_.out (by kernel_rfl)) (fun _ _ _ h => h) (Or.inl ⟨by rfl, ?_⟩) ?_ ?_
             rotate_left
             ·intro w'
              go_simp
              with_reducible rfl
             rotate_left
             ·simp only [Act.put, List.setIfInBounds_toArray, List.set_cons_zero, List.set_cons_succ, i64_w, i32_w]
              rfl
             refine pure_ (i := 4) (N := some 152) (v := ?_) (a' := ?_) #[true, true, true, true, true, false, false, false, false, false, false, false, false, false, false, false] rfl rfl (any_of HT_.out (by kernel_rfl)) (fun _ _ _ h => h) (Or.inl ⟨by rfl, ?_⟩) ?_ ?_
             rotate_left
             ·intro w'
              go_simp
              with_reducible rfl
             rotate_left
             ·simp only [Act.put, List.setIfInBounds_toArray, List.set_cons_zero, List.set_cons_succ, i64_w, i32_w]
              rfl
             refine pure_ (i := 5) (N := some 153) (v := ?_) (a' := ?_) #[true, true, true, true, true, true, false, false, false, false, false, false, false, false, false, false] rfl rfl (any_of HT_.out (by kernel_rfl)) (fun _ _ _ h => h) (Or.inl ⟨by rfl, ?_⟩) ?_ ?_
             rotate_left
             ·intro w'
              go_simp
              with_reducible rfl
             rotate_left
             ·simp only [Act.put, List.setIfInBounds_toArray, List.set_cons_zero, List.set_cons_succ, i64_w, i32_w]
              rfl
             refine pure_ (i := 6) (N := some 154) (v := ?_) (a' := ?_) #[true, true, true, true, true, true, true, false, false, false, false, false, false, false, false, false] rfl rfl (any_of HT_.out (by kernel_rfl)) (fun _ _ _ h => h) (Or.inl ⟨by rfl, ?_⟩) ?_ ?_
             rotate_left
             ·intro w'
              go_simp
              with_reducible rfl
             rotate_left
             ·simp only [Act.put, List.setIfInBounds_toArray, List.set_cons_zero, List.set_cons_succ, i64_w, i32_w]
              rfl
             refine pure_ (i := 7) (N := some 155) (v := ?_) (a' := ?_) #[true, true, true, true, true, true, true, true, false, false, false, false, false, false, false, false] rfl rfl (any_of HT_.out (by kernel_rfl)) (fun _ _ _ h => h) (Or.inl ⟨by rfl, ?_⟩) ?_ ?_
             rotate_left
             ·intro w'
              go_simp
              with_reducible rfl
             rotate_left
             ·simp only [Act.put, List.setIfInBounds_toArray, List.set_cons_zero, List.set_cons_succ, i64_w, i32_w]
              rfl
             refine pure_ (i := 8) (N := some 156) (v := ?_) (a' := ?_) #[true, true, true, true, true, true, true, true, true, false, false, false, false, false, false, false] rfl rfl (any_of HT_.out (by kernel_rfl)) (fun _ _ _ h => h) (Or.inl ⟨by rfl, ?_⟩) ?_ ?_
             rotate_left
             ·intro w'
              go_simp
              with_reducible rfl
             rotate_left
             ·simp only [Act.put, List.setIfInBounds_toArray, List.set_cons_zero, List.set_cons_succ, i64_w, i32_w]
              rfl
             refine one_ (i := 9) (N := none) #[true, true, true, true, true, true, true, true, true, true, false, false, false, false, false, false] rfl rfl (one_of HT_.out (by kernel_rfl)) (by decide) (fun K hK => ?_)
             have hs196 : w195.cell? ⟨gb200, 0, none⟩ = some (.int .i64 0) := (blk_cell BK200.out 0).trans rfl
             have hfs196 := blk_frozen BK200.out 0
             have hns196_0 := NB199_200.out
             have hms196_0 := NB200_199.out
             refine skip_ (w1 := ?_) (by rfl) rfl ?_ ?_
             rotate_left
             ·go_simp
              rfl
             refine hK.out _ _ trivial (fun hHeld => ?_)
             clear hK K
             refine pure_ (i := 10) (N := some 157) (v := ?_) (a' := ?_) #[true, true, true, true, true, true, true, true, true, true, true, false, false, false, false, false] rfl rfl (any_of HT_.out (by kernel_rfl)) (fun _ _ _ h => h) (Or.inl ⟨by rfl, ?_⟩) ?_ ?_
             rotate_left
             ·intro w'
              go_simp
              with_reducible rfl
             rotate_left
             ·simp only [Act.put, List.setIfInBounds_toArray, List.set_cons_zero, List.set_cons_succ, i64_w, i32_w]
              rfl
             refine one_ (i := 11) (N := none) #[true, true, true, true, true, true, true, true, true, true, true, true, false, false, false, false] rfl rfl (one_of HT_.out (by kernel_rfl)) (by decide) (fun K hK => ?_)
             have hs197 : w195.cell? ⟨gb200, 1, none⟩ = some (.string (⟨#[]⟩ : ByteArray)) := (blk_cell BK200.out 1).trans rfl
             have hfs197 := blk_frozen BK200.out 1
             have hns197_0 := NB199_200.out
             have hms197_0 := NB200_199.out
             refine skip_ (w1 := ?_) (by rfl) rfl ?_ ?_
             rotate_left
             ·go_simp
              rfl
             refine hK.out _ _ trivial (fun hHeld => ?_)
             clear hK K
             refine pure_ (i := 12) (N := some 158) (v := ?_) (a' := ?_) #[true, true, true, true, true, true, true, true, true, true, true, true, true, false, false, false] rfl rfl (any_of HT_.out (by kernel_rfl)) (fun _ _ _ h => h) (Or.inl ⟨by rfl, ?_⟩) ?_ ?_
             rotate_left
             ·intro w'
              go_simp
              with_reducible rfl
             rotate_left
             ·simp only [Act.put, List.setIfInBounds_toArray, List.set_cons_zero, List.set_cons_succ, i64_w, i32_w]
              rfl
             refine one_ (i := 13) (N := none) #[true, true, true, true, true, true, true, true, true, true, true, true, true, true, false, false] rfl rfl (one_of HT_.out (by kernel_rfl)) (by decide) (fun K hK => ?_)
             have hs198 : w195.cell? ⟨gb200, 6, none⟩ = some (.int .i64 0) := (blk_cell BK200.out 6).trans rfl
             have hfs198 := blk_frozen BK200.out 6
             have hns198_0 := NB199_200.out
             have hms198_0 := NB200_199.out
             refine skip_ (w1 := ?_) (by rfl) rfl ?_ ?_
             rotate_left
             ·go_simp
              rfl
             refine hK.out _ _ trivial (fun hHeld => ?_)
             clear hK K
             refine pure_ (i := 14) (N := some 159) (v := ?_) (a' := ?_) #[true, true, true, true, true, true, true, true, true, true, true, true, true, true, true, false] rfl rfl (any_of HT_.out (by kernel_rfl)) (fun _ _ _ h => h) (Or.inl ⟨by rfl, ?_⟩) ?_ ?_
             rotate_left
             ·intro w'
              go_simp
              with_reducible rfl
             rotate_left
             ·simp only [Act.put, List.setIfInBounds_toArray, List.set_cons_zero, List.set_cons_succ, i64_w, i32_w]
              rfl
             refine one_ (i := 15) (N := none) #[true, true, true, true, true, true, true, true, true, true, true, true, true, true, true, true] rfl rfl (one_of HT_.out (by kernel_rfl)) (by decide) (fun K hK => ?_)
             have hs199 : w195.cell? ⟨gb200, 4, none⟩ = some (.string (⟨#[]⟩ : ByteArray)) := (blk_cell BK200.out 4).trans rfl
             have hfs199 := blk_frozen BK200.out 4
             have hns199_0 := NB199_200.out
             have hms199_0 := NB200_199.out
             refine skip_ (w1 := ?_) (by rfl) rfl ?_ ?_
             rotate_left
             ·go_simp
              rfl
             refine hK.out _ _ trivial (fun hHeld => ?_)
             clear hK K
             refine done_ (done_of HT_.out (by kernel_rfl)) ?_
             have hnb200 := NB200_199.out
             have hnc200 := NB199_200.out
             have hcz201_0 : w195.cell? ⟨gb200, 0, none⟩ = some (.int .i64 0) := (blk_cell BK200.out 0).trans rfl
             have hcz201_1 : w195.cell? ⟨gb200, 1, none⟩ = some (.string (⟨#[]⟩ : ByteArray)) := (blk_cell BK200.out 1).trans rfl
             have hcz201_2 : w195.cell? ⟨gb200, 2, none⟩ = some (.int .i64 0) := (blk_cell BK200.out 2).trans rfl
             have hcz201_3 : w195.cell? ⟨gb200, 3, none⟩ = some (.int .i64 0) := (blk_cell BK200.out 3).trans rfl
             have hcz201_4 : w195.cell? ⟨gb200, 4, none⟩ = some (.string (⟨#[]⟩ : ByteArray)) := (blk_cell BK200.out 4).trans rfl
             have hcz201_5 : w195.cell? ⟨gb200, 5, none⟩ = some (.int .i64 a1) := (blk_cell BK200.out 5).trans rfl
             have hcz201_6 : w195.cell? ⟨gb200, 6, none⟩ = some (.int .i64 0) := (blk_cell BK200.out 6).trans rfl
             have hfz201_0 := blk_frozen BK200.out 0
             have hfz201_1 := blk_frozen BK200.out 1
             have hfz201_2 := blk_frozen BK200.out 2
             have hfz201_3 := blk_frozen BK200.out 3
             have hfz201_4 := blk_frozen BK200.out 4
             have hfz201_5 := blk_frozen BK200.out 5
             have hfz201_6 := blk_frozen BK200.out 6
             have hcz202_0 : w195.cell? ⟨gb199, 0, none⟩ = some (.int .i64 0) := (blk_cell BK199.out 0).trans rfl
             have hcz202_1 : w195.cell? ⟨gb199, 1, none⟩ = some (.string (⟨#[]⟩ : ByteArray)) := (blk_cell BK199.out 1).trans rfl
             have hcz202_2 : w195.cell? ⟨gb199, 2, none⟩ = some (.int .i64 0) := (blk_cell BK199.out 2).trans rfl
             have hcz202_3 : w195.cell? ⟨gb199, 3, none⟩ = some (.int .i64 0) := (blk_cell BK199.out 3).trans rfl
             have hcz202_4 : w195.cell? ⟨gb199, 4, none⟩ = some (.string (⟨#[]⟩ : ByteArray)) := (blk_cell BK199.out 4).trans rfl
             have hcz202_5 : w195.cell? ⟨gb199, 5, none⟩ = some (.int .i64 0) := (blk_cell BK199.out 5).trans rfl
             have hcz202_6 : w195.cell? ⟨gb199, 6, none⟩ = some (.int .i64 0) := (blk_cell BK199.out 6).trans rfl
             have hfz202_0 := blk_frozen BK199.out 0
             have hfz202_1 := blk_frozen BK199.out 1
             have hfz202_2 := blk_frozen BK199.out 2
             have hfz202_3 := blk_frozen BK199.out 3
             have hfz202_4 := blk_frozen BK199.out 4
             have hfz202_5 := blk_frozen BK199.out 5
             have hfz202_6 := blk_frozen BK199.out 6
             try go_wp2
             refine bodyPost_ret (results_ct rfl _ _ gb199 35 #[.int .i64 4, .string (a0.extract (a1 : Int).toNat ((wrap64 (x7_172 + 1)) : Int).toNat), .int .i64 0, .int .i64 0, .string t226, .int .i64 a1, .int .i64 (wrap64 (x7_172 + 1))] (0, 0) _ rfl (by (repeat first | (with_reducible first | refine kn ?_ _ | refine kd ?_ | refine ka ?_ _ | apply bp) | apply blk_far (hp := NB199_200.out)); exact BK199.out; all_goals rfl) Tryd.underlying35 rfl (by kernel_rfl)) rfl ?_
             exact ⟨by first | rfl | (simp [errW_none, errW_some] <;> rfl) | (simp [*, errW_none, errW_some] <;> rfl), by repeat (first | (with_reducible first | exact HB.out | apply zb | apply zn | apply zd | refine zs ?_ GE199.out | refine zs ?_ GE200.out) | exact HB.out)⟩
            ·rw [if_neg c190] at H
             have c190b0 : (t227 == 0) = false := beq_eq_false_iff_ne.mpr c190
             have c190b1 : (t227 != 0) = true := bne_iff_ne.mpr c190
             simp only [Option.some.injEq, Prod.mk.injEq] at H
             obtain ⟨rfl, rfl, rfl, rfl, rfl, rfl, rfl, rfl⟩ := H
             go_wp2_with (first | ((with_reducible refine gate_callee (f := 45) rfl ?_); refine goesL_ (some 142) rfl rfl Tryd.func45 (by kernel_rfl) rfl #[.string (a0.extract (a1 : Int).toNat ((wrap64 (x7_172 + 1)) : Int).toNat)] rfl (by (try simp only [List.map_toArray, List.map_cons, List.map_nil]); first | done | rfl | (simp only [List.length_drop, List.length_take]; rfl)) ?_; (with_reducible refine (heirloomref02_Unquote.calls kj172 (a0.extract (a1 : Int).toNat ((wrap64 (x7_172 + 1)) : Int).toNat) t226 t227 _ A189.out).mono ?_); rintro e w203 ⟨rfl, hb⟩; refine ⟨_, rfl, ?_⟩; have n0_ := Aside0.mk (blk_below (g := gb199) (o := .cells #[.int .i64 0, .string (⟨#[]⟩ : ByteArray), .int .i64 0, .int .i64 0, .string (⟨#[]⟩ : ByteArray), .int .i64 0, .int .i64 0] 35 (0, 0)) (by (with_reducible repeat first | refine kn ?_ _ | refine kd ?_ | refine ka ?_ _); exact BK199.out) hb); have n1_ := Aside0.mk (blk_below (g := gb200) (o := .cells #[.int .i64 0, .string (⟨#[]⟩ : ByteArray), .int .i64 0, .int .i64 0, .string (⟨#[]⟩ : ByteArray), .int .i64 a1, .int .i64 0] 35 (0, 0)) (by (with_reducible repeat first | refine kn ?_ _ | refine kd ?_ | refine ka ?_ _); exact BK200.out) hb); have n2_ := Aside0.mk (below_step (by repeat (first | (with_reducible first | exact HB.out | apply zb | apply zn | apply zd | refine zs ?_ GE199.out | refine zs ?_ GE200.out) | exact HB.out)) hb); clear BK199; clear BK200; clear HB; have BK199 := n0_; have BK200 := n1_; have HB := n2_; clear n0_ n1_ n2_; (try clear hb); have hnb204 := NB200_199.out; have hnc204 := NB199_200.out; have hcz205_0 : w203.cell? ⟨gb200, 0, none⟩ = some (.int .i64 0) := (blk_cell BK200.out 0).trans rfl; have hcz205_1 : w203.cell? ⟨gb200, 1, none⟩ = some (.string (⟨#[]⟩ : ByteArray)) := (blk_cell BK200.out 1).trans rfl; have hcz205_2 : w203.cell? ⟨gb200, 2, none⟩ = some (.int .i64 0) := (blk_cell BK200.out 2).trans rfl; have hcz205_3 : w203.cell? ⟨gb200, 3, none⟩ = some (.int .i64 0) := (blk_cell BK200.out 3).trans rfl; have hcz205_4 : w203.cell? ⟨gb200, 4, none⟩ = some (.string (⟨#[]⟩ : ByteArray)) := (blk_cell BK200.out 4).trans rfl; have hcz205_5 : w203.cell? ⟨gb200, 5, none⟩ = some (.int .i64 a1) := (blk_cell BK200.out 5).trans rfl; have hcz205_6 : w203.cell? ⟨gb200, 6, none⟩ = some (.int .i64 0) := (blk_cell BK200.out 6).trans rfl; have hfz205_0 := blk_frozen BK200.out 0; have hfz205_1 := blk_frozen BK200.out 1; have hfz205_2 := blk_frozen BK200.out 2; have hfz205_3 := blk_frozen BK200.out 3; have hfz205_4 := blk_frozen BK200.out 4; have hfz205_5 := blk_frozen BK200.out 5; have hfz205_6 := blk_frozen BK200.out 6; have hcz206_0 : w203.cell? ⟨gb199, 0, none⟩ = some (.int .i64 0) := (blk_cell BK199.out 0).trans rfl; have hcz206_1 : w203.cell? ⟨gb199, 1, none⟩ = some (.string (⟨#[]⟩ : ByteArray)) := (blk_cell BK199.out 1).trans rfl; have hcz206_2 : w203.cell? ⟨gb199, 2, none⟩ = some (.int .i64 0) := (blk_cell BK199.out 2).trans rfl; have hcz206_3 : w203.cell? ⟨gb199, 3, none⟩ = some (.int .i64 0) := (blk_cell BK199.out 3).trans rfl; have hcz206_4 : w203.cell? ⟨gb199, 4, none⟩ = some (.string (⟨#[]⟩ : ByteArray)) := (blk_cell BK199.out 4).trans rfl; have hcz206_5 : w203.cell? ⟨gb199, 5, none⟩ = some (.int .i64 0) := (blk_cell BK199.out 5).trans rfl; have hcz206_6 : w203.cell? ⟨gb199, 6, none⟩ = some (.int .i64 0) := (blk_cell BK199.out 6).trans rfl; have hfz206_0 := blk_frozen BK199.out 0; have hfz206_1 := blk_frozen BK199.out 1; have hfz206_2 := blk_frozen BK199.out 2; have hfz206_3 := blk_frozen BK199.out 3; have hfz206_4 := blk_frozen BK199.out 4; have hfz206_5 := blk_frozen BK199.out 5; have hfz206_6 := blk_frozen BK199.out 6))
             refine bodyPost_ret (results_ct rfl _ _ gb199 35 #[.int .i64 0, .string (⟨#[]⟩ : ByteArray), .int .i64 0, .int .i64 0, .string (⟨#[]⟩ : ByteArray), .int .i64 a1, .int .i64 0] (0, 0) _ rfl (by (with_reducible repeat first | refine kn ?_ _ | refine kd ?_ | refine ka ?_ _ | apply bp); exact BK199.out; all_goals rfl) Tryd.underlying35 rfl (by kernel_rfl)) rfl ?_
             exact ⟨by first | rfl | (simp [errW_none, errW_some] <;> rfl) | (simp [*, errW_none, errW_some] <;> rfl), by repeat (first | (with_reducible first | exact HB.out | apply zb | apply zn | apply zd | refine zs ?_ GE199.out | refine zs ?_ GE200.out) | exact HB.out)⟩
           ·rw [if_neg c188] at H
            exact absurd H (by simp)
          ·rw [if_neg c187] at H
           exact absurd H (by simp)
         ·rw [if_neg c186] at H
          exact absurd H (by simp)
     ·rw [if_neg c172] at H
      have c172b0 : ((bt a0 a1) == 34) = false := beq_eq_false_iff_ne.mpr c172
      have c172b1 : ((bt a0 a1) != 34) = true := bne_iff_ne.mpr c172
      replace H := Option.bind_eq_some_iff.mp H
      obtain ⟨t228, A2070, H⟩ := H
      replace H : (if t228 = 0 then (some (0, (⟨#[]⟩ : ByteArray), 0, 0, (⟨#[]⟩ : ByteArray), a1, 0, 15)) else (if a1 ≤ (wrap64 (a1 + t228)) then (if (wrap64 (a1 + t228)) ≤ (a0.size : Int) then (some (5, a0.extract (a1 : Int).toNat ((wrap64 (a1 + t228)) : Int).toNat, 0, 0, (⟨#[]⟩ : ByteArray), a1, wrap64 (a1 + t228), 0)) else (none)) else (none))) = some (r1, r2, r3, r4, r5, r6, r7, r8) := H
      have A207 := Aside0.mk A2070
      clear A2070
      by_cases c208 : t228 = 0
      ·rw [if_pos c208] at H
       have c208b0 : (t228 == 0) = true := beq_iff_eq.mpr c208
       have c208b1 : (t228 != 0) = false := bne_eq_false_iff_eq.mpr c208
       clear c208
       simp only [Option.some.injEq, Prod.mk.injEq] at H
       obtain ⟨rfl, rfl, rfl, rfl, rfl, rfl, rfl, rfl⟩ := H
       go_enter Tryd.func22, Tryd.ntmps22
       go_wp2_with (first | ((with_reducible refine gate_dst (N := 4) rfl ?_); (try (refine gate_guard (by rfl) ?_; dsimp only)); refine box_event ?hg (N := 4) ?hd (cs := #[.int .i64 0, .string (⟨#[]⟩ : ByteArray), .int .i64 0, .int .i64 0, .string (⟨#[]⟩ : ByteArray), .int .i64 0, .int .i64 0]) (t := 35) ?hr ?_; (case hd => rfl); (case hg => rfl); (case hr => go_simp <;> rfl); intro gb199 hg w209 hbox hb; have n0_ := Aside0.mk (below_step (by repeat (first | (with_reducible first | exact HB.out | apply zb | apply zn | apply zd) | exact HB.out)) hb); have n1_ := Aside0.mk (hbox); have n2_ := Aside0.mk ((by rw [hg]; exact (below_size (by repeat (first | (with_reducible first | exact HB.out | apply zb | apply zn | apply zd) | exact HB.out))) : w.heap.size ≤ gb199)); have n3_ := n2_; clear HB; have HB := n0_; have BK199 := n1_; have GW199 := n2_; have GE199 := n3_; clear n0_ n1_ n2_ n3_; clear hb hbox hg) | ((with_reducible refine gate_dst (N := 6) rfl ?_); (try (refine gate_guard (by rfl) ?_; dsimp only)); refine box_event ?hg (N := 6) ?hd (cs := #[.int .i64 0, .string (⟨#[]⟩ : ByteArray), .int .i64 0, .int .i64 0, .string (⟨#[]⟩ : ByteArray), .int .i64 0, .int .i64 0]) (t := 35) ?hr ?_; (case hd => rfl); (case hg => rfl); (case hr => go_simp <;> rfl); intro gb200 hg w210 hbox hb; have n0_ := Aside0.mk (blk_below (g := gb199) (o := .cells #[.int .i64 0, .string (⟨#[]⟩ : ByteArray), .int .i64 0, .int .i64 0, .string (⟨#[]⟩ : ByteArray), .int .i64 0, .int .i64 0] 35 (0, 0)) (by (with_reducible repeat first | refine kn ?_ _ | refine kd ?_ | refine ka ?_ _); exact BK199.out) hb); have n1_ := Aside0.mk (below_step (by repeat (first | (with_reducible first | exact HB.out | apply zb | apply zn | apply zd | refine zs ?_ GE199.out) | exact HB.out)) hb); have n2_ := Aside0.mk (hbox); have n3_ := Aside0.mk ((by rw [hg]; exact (below_size (by repeat (first | (with_reducible first | exact HB.out | apply zb | apply zn | apply zd | refine zs ?_ GE199.out) | exact HB.out))) : w.heap.size ≤ gb200)); have n4_ := Aside0.mk ((by rw [hg]; exact (below_size (by repeat (first | (with_reducible first | exact HB.out | apply zb | apply zn | apply zd | refine zs ?_ GE199.out) | exact HB.out))) : w.heap.size ≤ gb200)); have n5_ := Aside0.mk ((by rw [hg]; exact Nat.ne_of_lt (blk_lt (g := gb199) (o := .cells #[.int .i64 0, .string (⟨#[]⟩ : ByteArray), .int .i64 0, .int .i64 0, .string (⟨#[]⟩ : ByteArray), .int .i64 0, .int .i64 0] 35 (0, 0)) (by (with_reducible repeat first | refine kn ?_ _ | refine kd ?_ | refine ka ?_ _); exact BK199.out)) : gb199 ≠ gb200)); have n6_ := Aside0.mk ((by rw [hg]; exact Nat.ne_of_gt (blk_lt (g := gb199) (o := .cells #[.int .i64 0, .string (⟨#[]⟩ : ByteArray), .int .i64 0, .int .i64 0, .string (⟨#[]⟩ : ByteArray), .int .i64 0, .int .i64 0] 35 (0, 0)) (by (with_reducible repeat first | refine kn ?_ _ | refine kd ?_ | refine ka ?_ _); exact BK199.out)) : gb200 ≠ gb199)); clear BK199; clear HB; have BK199 := n0_; have HB := n1_; have BK200 := n2_; have GW200 := n3_; have GE200 := n4_; have NB199_200 := n5_; have NB200_199 := n6_; clear n0_ n1_ n2_ n3_ n4_ n5_ n6_; clear hb hbox hg; have hnb211 := NB200_199.out; have hnc211 := NB199_200.out; have hcz212_0 : w210.cell? ⟨gb200, 0, none⟩ = some (.int .i64 0) := (blk_cell BK200.out 0).trans rfl; have hcz212_1 : w210.cell? ⟨gb200, 1, none⟩ = some (.string (⟨#[]⟩ : ByteArray)) := (blk_cell BK200.out 1).trans rfl; have hcz212_2 : w210.cell? ⟨gb200, 2, none⟩ = some (.int .i64 0) := (blk_cell BK200.out 2).trans rfl; have hcz212_3 : w210.cell? ⟨gb200, 3, none⟩ = some (.int .i64 0) := (blk_cell BK200.out 3).trans rfl; have hcz212_4 : w210.cell? ⟨gb200, 4, none⟩ = some (.string (⟨#[]⟩ : ByteArray)) := (blk_cell BK200.out 4).trans rfl; have hcz212_5 : w210.cell? ⟨gb200, 5, none⟩ = some (.int .i64 0) := (blk_cell BK200.out 5).trans rfl; have hcz212_6 : w210.cell? ⟨gb200, 6, none⟩ = some (.int .i64 0) := (blk_cell BK200.out 6).trans rfl; have hfz212_0 := blk_frozen BK200.out 0; have hfz212_1 := blk_frozen BK200.out 1; have hfz212_2 := blk_frozen BK200.out 2; have hfz212_3 := blk_frozen BK200.out 3; have hfz212_4 := blk_frozen BK200.out 4; have hfz212_5 := blk_frozen BK200.out 5; have hfz212_6 := blk_frozen BK200.out 6; have p5 : 0 ≤ (a1 : Int) := of_decide_eq_true (by first | (with_reducible assumption) | assumption); have q5 : a1 < (a0.size : Int) := of_decide_eq_true (by first | (with_reducible assumption) | assumption); have hx5 := bt_at a0 a1; replace p5 := eq_true p5; replace q5 := eq_true q5) | ((with_reducible refine gate_callee (f := 42) rfl ?_); refine goesL_ (some 21) rfl rfl Tryd.func42 (by kernel_rfl) rfl #[.int .u8 (bt a0 a1)] rfl (by simp only [m1, m2, m3] <;> rfl) ?_; (with_reducible refine (heirloomref07_letter.calls (bt a0 a1) false _ A6.out).mono ?_); rintro e w' ⟨rfl, ⟨nd, rfl⟩⟩; refine ⟨_, rfl, ?_⟩) | ((with_reducible refine gate_callee (f := 43) rfl ?_); refine goesL_ (some 56) rfl rfl Tryd.func43 (by kernel_rfl) rfl #[.int .u8 (bt a0 a1)] rfl (by simp only [m1, m2, m3] <;> rfl) ?_; (with_reducible refine (heirloomref07_digit.calls (bt a0 a1) false _ A62.out).mono ?_); rintro e w' ⟨rfl, ⟨nd, rfl⟩⟩; refine ⟨_, rfl, ?_⟩) | ((with_reducible refine gate_callee (f := 46) rfl ?_); refine goesL_ (some 163) rfl rfl Tryd.func46 (by kernel_rfl) rfl #[.string a0, .int .i64 a1] rfl (by (try simp only [List.map_toArray, List.map_cons, List.map_nil]); first | done | rfl | (simp only [List.length_drop, List.length_take]; rfl)) ?_; (with_reducible refine (heirloomref07_signAt.calls k a0 a1 t228 _ A207.out).mono ?_); rintro e w213 ⟨rfl, hb⟩; refine ⟨_, rfl, ?_⟩; have n0_ := Aside0.mk (blk_below (g := gb199) (o := .cells #[.int .i64 0, .string (⟨#[]⟩ : ByteArray), .int .i64 0, .int .i64 0, .string (⟨#[]⟩ : ByteArray), .int .i64 0, .int .i64 0] 35 (0, 0)) (by (repeat first | (with_reducible first | refine kn ?_ _ | refine kd ?_ | refine ka ?_ _ | apply bp) | apply blk_far (hp := NB199_200.out)); exact BK199.out; all_goals rfl) hb); have n1_ := Aside0.mk (blk_below (g := gb200) (o := .cells #[.int .i64 0, .string (⟨#[]⟩ : ByteArray), .int .i64 0, .int .i64 0, .string (⟨#[]⟩ : ByteArray), .int .i64 a1, .int .i64 0] 35 (0, 0)) (by (with_reducible repeat first | refine kn ?_ _ | refine kd ?_ | refine ka ?_ _ | apply bp); exact BK200.out; all_goals rfl) hb); have n2_ := Aside0.mk (below_step (by repeat (first | (with_reducible first | exact HB.out | apply zb | apply zn | apply zd | refine zs ?_ GE199.out | refine zs ?_ GE200.out) | exact HB.out)) hb); clear BK199; clear BK200; clear HB; have BK199 := n0_; have BK200 := n1_; have HB := n2_; clear n0_ n1_ n2_; (try clear hb); have hcz214_0 : w213.cell? ⟨gb200, 0, none⟩ = some (.int .i64 0) := (blk_cell BK200.out 0).trans rfl; have hcz214_1 : w213.cell? ⟨gb200, 1, none⟩ = some (.string (⟨#[]⟩ : ByteArray)) := (blk_cell BK200.out 1).trans rfl; have hcz214_2 : w213.cell? ⟨gb200, 2, none⟩ = some (.int .i64 0) := (blk_cell BK200.out 2).trans rfl; have hcz214_3 : w213.cell? ⟨gb200, 3, none⟩ = some (.int .i64 0) := (blk_cell BK200.out 3).trans rfl; have hcz214_4 : w213.cell? ⟨gb200, 4, none⟩ = some (.string (⟨#[]⟩ : ByteArray)) := (blk_cell BK200.out 4).trans rfl; have hcz214_5 : w213.cell? ⟨gb200, 5, none⟩ = some (.int .i64 a1) := (blk_cell BK200.out 5).trans rfl; have hcz214_6 : w213.cell? ⟨gb200, 6, none⟩ = some (.int .i64 0) := (blk_cell BK200.out 6).trans rfl; have hfz214_0 := blk_frozen BK200.out 0; have hfz214_1 := blk_frozen BK200.out 1; have hfz214_2 := blk_frozen BK200.out 2; have hfz214_3 := blk_frozen BK200.out 3; have hfz214_4 := blk_frozen BK200.out 4; have hfz214_5 := blk_frozen BK200.out 5; have hfz214_6 := blk_frozen BK200.out 6; have hcz215_0 : w213.cell? ⟨gb199, 0, none⟩ = some (.int .i64 0) := (blk_cell BK199.out 0).trans rfl; have hcz215_1 : w213.cell? ⟨gb199, 1, none⟩ = some (.string (⟨#[]⟩ : ByteArray)) := (blk_cell BK199.out 1).trans rfl; have hcz215_2 : w213.cell? ⟨gb199, 2, none⟩ = some (.int .i64 0) := (blk_cell BK199.out 2).trans rfl; have hcz215_3 : w213.cell? ⟨gb199, 3, none⟩ = some (.int .i64 0) := (blk_cell BK199.out 3).trans rfl; have hcz215_4 : w213.cell? ⟨gb199, 4, none⟩ = some (.string (⟨#[]⟩ : ByteArray)) := (blk_cell BK199.out 4).trans rfl; have hcz215_5 : w213.cell? ⟨gb199, 5, none⟩ = some (.int .i64 0) := (blk_cell BK199.out 5).trans rfl; have hcz215_6 : w213.cell? ⟨gb199, 6, none⟩ = some (.int .i64 0) := (blk_cell BK199.out 6).trans rfl; have hfz215_0 := blk_frozen BK199.out 0; have hfz215_1 := blk_frozen BK199.out 1; have hfz215_2 := blk_frozen BK199.out 2; have hfz215_3 := blk_frozen BK199.out 3; have hfz215_4 := blk_frozen BK199.out 4; have hfz215_5 := blk_frozen BK199.out 5; have hfz215_6 := blk_frozen BK199.out 6))
       refine bodyPost_ret (results_ct rfl _ _ gb199 35 #[.int .i64 0, .string (⟨#[]⟩ : ByteArray), .int .i64 0, .int .i64 0, .string (⟨#[]⟩ : ByteArray), .int .i64 a1, .int .i64 0] (0, 0) _ rfl (by (with_reducible repeat first | refine kn ?_ _ | refine kd ?_ | refine ka ?_ _ | apply bp); exact BK199.out; all_goals rfl) Tryd.underlying35 rfl (by kernel_rfl)) rfl ?_
       exact ⟨by first | rfl | (simp [errW_none, errW_some] <;> rfl) | (simp [*, errW_none, errW_some] <;> rfl), by repeat (first | (with_reducible first | exact HB.out | apply zb | apply zn | apply zd | refine zs ?_ GE199.out | refine zs ?_ GE200.out) | exact HB.out)⟩
      ·rw [if_neg c208] at H
       have c208b0 : (t228 == 0) = false := beq_eq_false_iff_ne.mpr c208
       have c208b1 : (t228 != 0) = true := bne_iff_ne.mpr c208
       have c216b0 := eq_true (of_decide_eq_true (by first | (with_reducible assumption) | assumption) : 0 ≤ a1)
       by_cases c217 : a1 ≤ (wrap64 (a1 + t228))
       ·rw [if_pos c217] at H
        have c217b0 := eq_true c217
        have c217b1 : decide (a1 ≤ (wrap64 (a1 + t228))) = true := decide_eq_true c217
        by_cases c218 : (wrap64 (a1 + t228)) ≤ (a0.size : Int)
        ·rw [if_pos c218] at H
         have c218b0 := eq_true c218
         have c218b1 : decide ((wrap64 (a1 + t228)) ≤ (a0.size : Int)) = true := decide_eq_true c218
         simp only [Option.some.injEq, Prod.mk.injEq] at H
         obtain ⟨rfl, rfl, rfl, rfl, rfl, rfl, rfl, rfl⟩ := H
         go_enter Tryd.func22, Tryd.ntmps22
         try go_wp2_with (first | ((with_reducible refine gate_dst (N := 4) rfl ?_); (try (refine gate_guard (by rfl) ?_; dsimp only)); refine box_event ?hg (N := 4) ?hd (cs := #[.int .i64 0, .string (⟨#[]⟩ : ByteArray), .int .i64 0, .int .i64 0, .string (⟨#[]⟩ : ByteArray), .int .i64 0, .int .i64 0]) (t := 35) ?hr ?_; (case hd => rfl); (case hg => rfl); (case hr => go_simp <;> rfl); intro gb199 hg w219 hbox hb; have n0_ := Aside0.mk (below_step (by repeat (first | (with_reducible first | exact HB.out | apply zb | apply zn | apply zd) | exact HB.out)) hb); have n1_ := Aside0.mk (hbox); have n2_ := Aside0.mk ((by rw [hg]; exact (below_size (by repeat (first | (with_reducible first | exact HB.out | apply zb | apply zn | apply zd) | exact HB.out))) : w.heap.size ≤ gb199)); have n3_ := n2_; clear HB; have HB := n0_; have BK199 := n1_; have GW199 := n2_; have GE199 := n3_; clear n0_ n1_ n2_ n3_; clear hb hbox hg) | ((with_reducible refine gate_dst (N := 6) rfl ?_); (try (refine gate_guard (by rfl) ?_; dsimp only)); refine box_event ?hg (N := 6) ?hd (cs := #[.int .i64 0, .string (⟨#[]⟩ : ByteArray), .int .i64 0, .int .i64 0, .string (⟨#[]⟩ : ByteArray), .int .i64 0, .int .i64 0]) (t := 35) ?hr ?_; (case hd => rfl); (case hg => rfl); (case hr => go_simp <;> rfl); intro gb200 hg w220 hbox hb; have n0_ := Aside0.mk (blk_below (g := gb199) (o := .cells #[.int .i64 0, .string (⟨#[]⟩ : ByteArray), .int .i64 0, .int .i64 0, .string (⟨#[]⟩ : ByteArray), .int .i64 0, .int .i64 0] 35 (0, 0)) (by (with_reducible repeat first | refine kn ?_ _ | refine kd ?_ | refine ka ?_ _); exact BK199.out) hb); have n1_ := Aside0.mk (below_step (by repeat (first | (with_reducible first | exact HB.out | apply zb | apply zn | apply zd | refine zs ?_ GE199.out) | exact HB.out)) hb); have n2_ := Aside0.mk (hbox); have n3_ := Aside0.mk ((by rw [hg]; exact (below_size (by repeat (first | (with_reducible first | exact HB.out | apply zb | apply zn | apply zd | refine zs ?_ GE199.out) | exact HB.out))) : w.heap.size ≤ gb200)); have n4_ := Aside0.mk ((by rw [hg]; exact (below_size (by repeat (first | (with_reducible first | exact HB.out | apply zb | apply zn | apply zd | refine zs ?_ GE199.out) | exact HB.out))) : w.heap.size ≤ gb200)); have n5_ := Aside0.mk ((by rw [hg]; exact Nat.ne_of_lt (blk_lt (g := gb199) (o := .cells #[.int .i64 0, .string (⟨#[]⟩ : ByteArray), .int .i64 0, .int .i64 0, .string (⟨#[]⟩ : ByteArray), .int .i64 0, .int .i64 0] 35 (0, 0)) (by (with_reducible repeat first | refine kn ?_ _ | refine kd ?_ | refine ka ?_ _); exact BK199.out)) : gb199 ≠ gb200)); have n6_ := Aside0.mk ((by rw [hg]; exact Nat.ne_of_gt (blk_lt (g := gb199) (o := .cells #[.int .i64 0, .string (⟨#[]⟩ : ByteArray), .int .i64 0, .int .i64 0, .string (⟨#[]⟩ : ByteArray), .int .i64 0, .int .i64 0] 35 (0, 0)) (by (with_reducible repeat first | refine kn ?_ _ | refine kd ?_ | refine ka ?_ _); exact BK199.out)) : gb200 ≠ gb199)); clear BK199; clear HB; have BK199 := n0_; have HB := n1_; have BK200 := n2_; have GW200 := n3_; have GE200 := n4_; have NB199_200 := n5_; have NB200_199 := n6_; clear n0_ n1_ n2_ n3_ n4_ n5_ n6_; clear hb hbox hg; have hnb221 := NB200_199.out; have hnc221 := NB199_200.out; have hcz222_0 : w220.cell? ⟨gb200, 0, none⟩ = some (.int .i64 0) := (blk_cell BK200.out 0).trans rfl; have hcz222_1 : w220.cell? ⟨gb200, 1, none⟩ = some (.string (⟨#[]⟩ : ByteArray)) := (blk_cell BK200.out 1).trans rfl; have hcz222_2 : w220.cell? ⟨gb200, 2, none⟩ = some (.int .i64 0) := (blk_cell BK200.out 2).trans rfl; have hcz222_3 : w220.cell? ⟨gb200, 3, none⟩ = some (.int .i64 0) := (blk_cell BK200.out 3).trans rfl; have hcz222_4 : w220.cell? ⟨gb200, 4, none⟩ = some (.string (⟨#[]⟩ : ByteArray)) := (blk_cell BK200.out 4).trans rfl; have hcz222_5 : w220.cell? ⟨gb200, 5, none⟩ = some (.int .i64 0) := (blk_cell BK200.out 5).trans rfl; have hcz222_6 : w220.cell? ⟨gb200, 6, none⟩ = some (.int .i64 0) := (blk_cell BK200.out 6).trans rfl; have hfz222_0 := blk_frozen BK200.out 0; have hfz222_1 := blk_frozen BK200.out 1; have hfz222_2 := blk_frozen BK200.out 2; have hfz222_3 := blk_frozen BK200.out 3; have hfz222_4 := blk_frozen BK200.out 4; have hfz222_5 := blk_frozen BK200.out 5; have hfz222_6 := blk_frozen BK200.out 6; have p5 : 0 ≤ (a1 : Int) := of_decide_eq_true (by first | (with_reducible assumption) | assumption); have q5 : a1 < (a0.size : Int) := of_decide_eq_true (by first | (with_reducible assumption) | assumption); have hx5 := bt_at a0 a1; replace p5 := eq_true p5; replace q5 := eq_true q5) | ((with_reducible refine gate_callee (f := 42) rfl ?_); refine goesL_ (some 21) rfl rfl Tryd.func42 (by kernel_rfl) rfl #[.int .u8 (bt a0 a1)] rfl (by simp only [m1, m2, m3] <;> rfl) ?_; (with_reducible refine (heirloomref07_letter.calls (bt a0 a1) false _ A6.out).mono ?_); rintro e w' ⟨rfl, ⟨nd, rfl⟩⟩; refine ⟨_, rfl, ?_⟩) | ((with_reducible refine gate_callee (f := 43) rfl ?_); refine goesL_ (some 56) rfl rfl Tryd.func43 (by kernel_rfl) rfl #[.int .u8 (bt a0 a1)] rfl (by simp only [m1, m2, m3] <;> rfl) ?_; (with_reducible refine (heirloomref07_digit.calls (bt a0 a1) false _ A62.out).mono ?_); rintro e w' ⟨rfl, ⟨nd, rfl⟩⟩; refine ⟨_, rfl, ?_⟩) | ((with_reducible refine gate_callee (f := 46) rfl ?_); refine goesL_ (some 163) rfl rfl Tryd.func46 (by kernel_rfl) rfl #[.string a0, .int .i64 a1] rfl (by (try simp only [List.map_toArray, List.map_cons, List.map_nil]); first | done | rfl | (simp only [List.length_drop, List.length_take]; rfl)) ?_; (with_reducible refine (heirloomref07_signAt.calls k a0 a1 t228 _ A207.out).mono ?_); rintro e w223 ⟨rfl, hb⟩; refine ⟨_, rfl, ?_⟩; have n0_ := Aside0.mk (blk_below (g := gb199) (o := .cells #[.int .i64 0, .string (⟨#[]⟩ : ByteArray), .int .i64 0, .int .i64 0, .string (⟨#[]⟩ : ByteArray), .int .i64 0, .int .i64 0] 35 (0, 0)) (by (repeat first | (with_reducible first | refine kn ?_ _ | refine kd ?_ | refine ka ?_ _ | apply bp) | apply blk_far (hp := NB199_200.out)); exact BK199.out; all_goals rfl) hb); have n1_ := Aside0.mk (blk_below (g := gb200) (o := .cells #[.int .i64 0, .string (⟨#[]⟩ : ByteArray), .int .i64 0, .int .i64 0, .string (⟨#[]⟩ : ByteArray), .int .i64 a1, .int .i64 0] 35 (0, 0)) (by (with_reducible repeat first | refine kn ?_ _ | refine kd ?_ | refine ka ?_ _ | apply bp); exact BK200.out; all_goals rfl) hb); have n2_ := Aside0.mk (below_step (by repeat (first | (with_reducible first | exact HB.out | apply zb | apply zn | apply zd | refine zs ?_ GE199.out | refine zs ?_ GE200.out) | exact HB.out)) hb); clear BK199; clear BK200; clear HB; have BK199 := n0_; have BK200 := n1_; have HB := n2_; clear n0_ n1_ n2_; (try clear hb)))
         have n0_ := Aside0.mk (blk_drew BK199.out)
         have n1_ := Aside0.mk (blk_drew BK200.out)
         have n2_ := Aside0.mk (below_drew1 HB.out)
         clear BK199
         clear BK200
         clear HB
         have BK199 := n0_
         have BK200 := n1_
         have HB := n2_
         clear n0_ n1_ n2_
         refine start_ (n := 15) (S := fun w' => True) (ds := []) #[false, false, false, false, false, false, false, false, false, false, false, false, false, false, false] (by kernel_rfl) rfl rfl trivial (fun hHeld => ?_); refine with_tabW heirloomref07_one.tab32 heirloomref07_one.bits32 (fun HT_ HW_ => ?_)
         generalize w223.drew = w224 at BK199 BK200 HB hHeld ⊢
         refine pure_ (i := 0) (N := some 167) (v := ?_) (a' := ?_) #[true, false, false, false, false, false, false, false, false, false, false, false, false, false, false] rfl rfl (any_of HT_.out (by kernel_rfl)) (fun _ _ _ h => h) (Or.inl ⟨by rfl, ?_⟩) ?_ ?_
         rotate_left
         ·intro w'
          go_simp
          with_reducible rfl
         rotate_left
         ·simp only [Act.put, List.setIfInBounds_toArray, List.set_cons_zero, List.set_cons_succ, i64_w, i32_w]
          rfl
         refine pure_ (i := 1) (N := some 168) (v := ?_) (a' := ?_) #[true, true, false, false, false, false, false, false, false, false, false, false, false, false, false] rfl rfl (any_of HT_.out (by kernel_rfl)) (fun _ _ _ h => h) (Or.inl ⟨by rfl, ?_⟩) ?_ ?_
         rotate_left
         ·intro w'
          go_simp
          with_reducible rfl
         rotate_left
         ·simp only [Act.put, List.setIfInBounds_toArray, List.set_cons_zero, List.set_cons_succ, i64_w, i32_w]
          rfl
         refine pure_ (i := 2) (N := some 169) (v := ?_) (a' := ?_) #[true, true, true, false, false, false, false, false, false, false, false, false, false, false, false] rfl rfl (any_of HT_.out (by kernel_rfl)) (fun _ _ _ h => h) (Or.inl ⟨by rfl, ?_⟩) ?_ ?_
         rotate_left
         ·intro w'
          go_simp
          with_reducible rfl
         rotate_left
         ·simp only [Act.put, List.setIfInBounds_toArray, List.set_cons_zero, List.set_cons_succ, i64_w, i32_w]
          rfl
         refine pure_ (i := 3) (N := some 170) (v := ?_) (a' := ?_) #[true, true, true, true, false, false, false, false, false, false, false, false, false, false, false] rfl rfl (any_of HT_.out (by kernel_rfl)) (fun _ _ _ h => h) (Or.inl ⟨by rfl, ?_⟩) ?_ ?_
         rotate_left
         ·intro w'
          go_simp
          with_reducible rfl
         rotate_left
         ·simp only [Act.put, List.setIfInBounds_toArray, List.set_cons_zero, List.set_cons_succ, i64_w, i32_w]
          rfl
         refine pure_ (i := 4) (N := some 171) (v := ?_) (a' := ?_) #[true, true, true, true, true, false, false, false, false, false, false, false, false, false, false] rfl rfl (any_of HT_.out (by kernel_rfl)) (fun _ _ _ h => h) (Or.inl ⟨by rfl, ?_⟩) ?_ ?_
         rotate_left
         ·intro w'
          go_simp
          with_reducible rfl
         rotate_left
         ·simp only [Act.put, List.setIfInBounds_toArray, List.set_cons_zero, List.set_cons_succ, i64_w, i32_w]
          rfl
         refine pure_ (i := 5) (N := some 172) (v := ?_) (a' := ?_) #[true, true, true, true, true, true, false, false, false, false, false, false, false, false, false] rfl rfl (any_of HT_.out (by kernel_rfl)) (fun _ _ _ h => h) (Or.inl ⟨by rfl, ?_⟩) ?_ ?_
         rotate_left
         ·intro w'
          go_simp
          with_reducible rfl
         rotate_left
         ·simp only [Act.put, List.setIfInBounds_toArray, List.set_cons_zero, List.set_cons_succ, i64_w, i32_w]
          rfl
         refine pure_ (i := 6) (N := some 173) (v := ?_) (a' := ?_) #[true, true, true, true, true, true, true, false, false, false, false, false, false, false, false] rfl rfl (any_of HT_.out (by kernel_rfl)) (fun _ _ _ h => h) (Or.inl ⟨by rfl, ?_⟩) ?_ ?_
         rotate_left
         ·intro w'
          go_simp
          with_reducible rfl
         rotate_left
         ·simp only [Act.put, List.setIfInBounds_toArray, List.set_cons_zero, List.set_cons_succ, i64_w, i32_w]
          rfl
         refine pure_ (i := 7) (N := some 174) (v := ?_) (a' := ?_) #[true, true, true, true, true, true, true, true, false, false, false, false, false, false, false] rfl rfl (any_of HT_.out (by kernel_rfl)) (fun _ _ _ h => h) (Or.inl ⟨by rfl, ?_⟩) ?_ ?_
         rotate_left
         ·intro w'
          go_simp
          with_reducible rfl
         rotate_left
         ·simp only [Act.put, List.setIfInBounds_toArray, List.set_cons_zero, List.set_cons_succ, i64_w, i32_w]
          rfl
         refine pure_ (i := 8) (N := some 175) (v := ?_) (a' := ?_) #[true, true, true, true, true, true, true, true, true, false, false, false, false, false, false] rfl rfl (any_of HT_.out (by kernel_rfl)) (fun _ _ _ h => h) (Or.inl ⟨by rfl, ?_⟩) ?_ ?_
         rotate_left
         ·intro w'
          go_simp
          with_reducible rfl
         rotate_left
         ·simp only [Act.put, List.setIfInBounds_toArray, List.set_cons_zero, List.set_cons_succ, i64_w, i32_w]
          rfl
         refine pure_ (i := 9) (N := some 176) (v := ?_) (a' := ?_) #[true, true, true, true, true, true, true, true, true, true, false, false, false, false, false] rfl rfl (any_of HT_.out (by kernel_rfl)) (fun _ _ _ h => h) (Or.inl ⟨by rfl, ?_⟩) ?_ ?_
         rotate_left
         ·intro w'
          go_simp
          with_reducible rfl
         rotate_left
         ·simp only [Act.put, List.setIfInBounds_toArray, List.set_cons_zero, List.set_cons_succ, i64_w, i32_w]
          rfl
         refine one_ (i := 10) (N := none) #[true, true, true, true, true, true, true, true, true, true, true, false, false, false, false] rfl rfl (one_of HT_.out (by kernel_rfl)) (by decide) (fun K hK => ?_)
         have hs225 : w224.cell? ⟨gb200, 0, none⟩ = some (.int .i64 0) := (blk_cell BK200.out 0).trans rfl
         have hfs225 := blk_frozen BK200.out 0
         have hns225_0 := NB199_200.out
         have hms225_0 := NB200_199.out
         refine skip_ (w1 := ?_) (by rfl) rfl ?_ ?_
         rotate_left
         ·go_simp
          rfl
         refine hK.out _ _ trivial (fun hHeld => ?_)
         clear hK K
         refine pure_ (i := 11) (N := some 177) (v := ?_) (a' := ?_) #[true, true, true, true, true, true, true, true, true, true, true, true, false, false, false] rfl rfl (any_of HT_.out (by kernel_rfl)) (fun _ _ _ h => h) (Or.inl ⟨by rfl, ?_⟩) ?_ ?_
         rotate_left
         ·intro w'
          go_simp
          with_reducible rfl
         rotate_left
         ·simp only [Act.put, List.setIfInBounds_toArray, List.set_cons_zero, List.set_cons_succ, i64_w, i32_w]
          rfl
         refine one_ (i := 12) (N := none) #[true, true, true, true, true, true, true, true, true, true, true, true, true, false, false] rfl rfl (one_of HT_.out (by kernel_rfl)) (by decide) (fun K hK => ?_)
         have hs226 : w224.cell? ⟨gb200, 1, none⟩ = some (.string (⟨#[]⟩ : ByteArray)) := (blk_cell BK200.out 1).trans rfl
         have hfs226 := blk_frozen BK200.out 1
         have hns226_0 := NB199_200.out
         have hms226_0 := NB200_199.out
         refine skip_ (w1 := ?_) (by rfl) rfl ?_ ?_
         rotate_left
         ·go_simp
          rfl
         refine hK.out _ _ trivial (fun hHeld => ?_)
         clear hK K
         refine pure_ (i := 13) (N := some 178) (v := ?_) (a' := ?_) #[true, true, true, true, true, true, true, true, true, true, true, true, true, true, false] rfl rfl (any_of HT_.out (by kernel_rfl)) (fun _ _ _ h => h) (Or.inl ⟨by rfl, ?_⟩) ?_ ?_
         rotate_left
         ·intro w'
          go_simp
          with_reducible rfl
         rotate_left
         ·simp only [Act.put, List.setIfInBounds_toArray, List.set_cons_zero, List.set_cons_succ, i64_w, i32_w]
          rfl
         refine one_ (i := 14) (N := none) #[true, true, true, true, true, true, true, true, true, true, true, true, true, true, true] rfl rfl (one_of HT_.out (by kernel_rfl)) (by decide) (fun K hK => ?_)
         have hs227 : w224.cell? ⟨gb200, 6, none⟩ = some (.int .i64 0) := (blk_cell BK200.out 6).trans rfl
         have hfs227 := blk_frozen BK200.out 6
         have hns227_0 := NB199_200.out
         have hms227_0 := NB200_199.out
         refine skip_ (w1 := ?_) (by rfl) rfl ?_ ?_
         rotate_left
         ·go_simp
          rfl
         refine hK.out _ _ trivial (fun hHeld => ?_)
         clear hK K
         refine done_ (done_of HT_.out (by kernel_rfl)) ?_
         have hcz228_0 : w224.cell? ⟨gb200, 0, none⟩ = some (.int .i64 0) := (blk_cell BK200.out 0).trans rfl
         have hcz228_1 : w224.cell? ⟨gb200, 1, none⟩ = some (.string (⟨#[]⟩ : ByteArray)) := (blk_cell BK200.out 1).trans rfl
         have hcz228_2 : w224.cell? ⟨gb200, 2, none⟩ = some (.int .i64 0) := (blk_cell BK200.out 2).trans rfl
         have hcz228_3 : w224.cell? ⟨gb200, 3, none⟩ = some (.int .i64 0) := (blk_cell BK200.out 3).trans rfl
         have hcz228_4 : w224.cell? ⟨gb200, 4, none⟩ = some (.string (⟨#[]⟩ : ByteArray)) := (blk_cell BK200.out 4).trans rfl
         have hcz228_5 : w224.cell? ⟨gb200, 5, none⟩ = some (.int .i64 a1) := (blk_cell BK200.out 5).trans rfl
         have hcz228_6 : w224.cell? ⟨gb200, 6, none⟩ = some (.int .i64 0) := (blk_cell BK200.out 6).trans rfl
         have hfz228_0 := blk_frozen BK200.out 0
         have hfz228_1 := blk_frozen BK200.out 1
         have hfz228_2 := blk_frozen BK200.out 2
         have hfz228_3 := blk_frozen BK200.out 3
         have hfz228_4 := blk_frozen BK200.out 4
         have hfz228_5 := blk_frozen BK200.out 5
         have hfz228_6 := blk_frozen BK200.out 6
         have hcz229_0 : w224.cell? ⟨gb199, 0, none⟩ = some (.int .i64 0) := (blk_cell BK199.out 0).trans rfl
         have hcz229_1 : w224.cell? ⟨gb199, 1, none⟩ = some (.string (⟨#[]⟩ : ByteArray)) := (blk_cell BK199.out 1).trans rfl
         have hcz229_2 : w224.cell? ⟨gb199, 2, none⟩ = some (.int .i64 0) := (blk_cell BK199.out 2).trans rfl
         have hcz229_3 : w224.cell? ⟨gb199, 3, none⟩ = some (.int .i64 0) := (blk_cell BK199.out 3).trans rfl
         have hcz229_4 : w224.cell? ⟨gb199, 4, none⟩ = some (.string (⟨#[]⟩ : ByteArray)) := (blk_cell BK199.out 4).trans rfl
         have hcz229_5 : w224.cell? ⟨gb199, 5, none⟩ = some (.int .i64 0) := (blk_cell BK199.out 5).trans rfl
         have hcz229_6 : w224.cell? ⟨gb199, 6, none⟩ = some (.int .i64 0) := (blk_cell BK199.out 6).trans rfl
         have hfz229_0 := blk_frozen BK199.out 0
         have hfz229_1 := blk_frozen BK199.out 1
         have hfz229_2 := blk_frozen BK199.out 2
         have hfz229_3 := blk_frozen BK199.out 3
         have hfz229_4 := blk_frozen BK199.out 4
         have hfz229_5 := blk_frozen BK199.out 5
         have hfz229_6 := blk_frozen BK199.out 6
         try go_wp2
         refine bodyPost_ret (results_ct rfl _ _ gb199 35 #[.int .i64 5, .string (a0.extract (a1 : Int).toNat ((wrap64 (a1 + t228)) : Int).toNat), .int .i64 0, .int .i64 0, .string (⟨#[]⟩ : ByteArray), .int .i64 a1, .int .i64 (wrap64 (a1 + t228))] (0, 0) _ rfl (by (repeat first | (with_reducible first | refine kn ?_ _ | refine kd ?_ | refine ka ?_ _ | apply bp) | apply blk_far (hp := NB199_200.out)); exact BK199.out; all_goals rfl) Tryd.underlying35 rfl (by kernel_rfl)) rfl ?_
         exact ⟨by first | rfl | (simp [errW_none, errW_some] <;> rfl) | (simp [*, errW_none, errW_some] <;> rfl), by repeat (first | (with_reducible first | exact HB.out | apply zb | apply zn | apply zd | refine zs ?_ GE199.out | refine zs ?_ GE200.out) | exact HB.out)⟩
        ·rw [if_neg c218] at H
         exact absurd H (by simp)
       ·rw [if_neg c217] at H
        exact absurd H (by simp)
  ·rw [if_neg c4] at H
   exact absurd H (by simp)
 ·rw [if_neg c3] at H
  exact absurd H (by simp)

end Go.Proofs.YtpemgladmnbfhaaDoor.QL
