-- WRITTEN BY wip/tools/myprint.py, a program of this session, over the kit's printer
import Derived.Test.YticnolkbmpmgcaaSh
import Derived.Test.YticnolkbmpmgcaaQNx0
import Derived.Test.YticnolkbmpmgcaaQNx1
import Derived.Test.YticnolkbmpmgcaaQNx2
import Derived.Test.YticnolkbmpmgcaaQNx3
import Derived.Test.YticnolkbmpmgcaaQNx4
import Derived.Test.YticnolkbmpmgcaaQNx6
import Derived.Test.YticnolkbmpmgcaaQNx7
namespace Go.Proofs.Yticnolkbmpmgcaa.QN
open Go.Proofs.Yticnolkbmpmgcaa.Sh
open Go.RowKit Go.Proofs.YticnolkbmpmgcaaW.PrintWords Go.Proofs.YticnolkbmpmgcaaW.PrintLast Go.Proofs.YticnolkbmpmgcaaW.PrintMore
attribute [local go_sem] max2_int min2_int max_two min_two max_three min_three max_four min_four   -- for this text's walks alone
open Go.Proofs.Yticnolkbmpmgcaa.Fl
attribute [local go_sem high] bo_eq bo_ne bo_lt bo_le bo_gt bo_ge
attribute [local go_sem] run39 run40 neg_fl
set_option linter.unusedVariables false
set_option linter.unusedSimpArgs false

attribute [local go_sem high] eqA23
/-! ### heirloomlaw01_alive: function 25 -/
def heirloomlaw01_alive.f (k : Nat)  : Option (Bool) := (num_Int.f 9223372036854775807).bind fun bt157 => ((num_Int.f 1).bind fun bt159 => ((num_Op.f 1 bt157.1 bt157.2 bt159.1 bt159.2).bind fun bt161 => ((num_Int.f (-7)).bind fun bt165 => ((num_Int.f 2).bind fun bt167 => ((num_Op.f 5 bt165.1 bt165.2 bt167.1 bt167.2).bind fun bt169 => ((num_Int.f (-7)).bind fun bt173 => ((num_Int.f 2).bind fun bt175 => ((num_Op.f 6 bt173.1 bt173.2 bt175.1 bt175.2).bind fun bt177 => ((num_Int.f 7).bind fun bt181 => ((num_Int.f 0).bind fun bt183 => ((num_Op.f 6 bt181.1 bt181.2 bt183.1 bt183.2).bind fun bt185 => ((num_Read.f k (⟨#[49, 46, 53]⟩ : ByteArray)).bind fun bt189 => ((num_Read.f k (⟨#[49, 46]⟩ : ByteArray)).bind fun bt193 => ((num_Int.f 9007199254740993).bind fun bt197 => ((num_Float.f 4845873199050653696).bind fun bt199 => ((num_Cmp.f k bt197.1 bt197.2 bt199.1 bt199.2).bind fun bt201 => ((heirloomlaw01_no.f bt161.2.2).bind fun t203 => (if t203 = 0 then (if bt161.2.1 = (-9223372036854775808) then ((heirloomlaw01_no.f bt169.2.2).bind fun t204 => (if t204 = 0 then (if bt169.2.1 = (-4) then ((heirloomlaw01_no.f bt177.2.2).bind fun t205 => (if t205 = 0 then (if bt177.2.1 = 1 then ((heirloomlaw01_no.f bt185.2.2).bind fun t206 => (if t206 = 11 then ((heirloomlaw01_no.f bt189.2.2).bind fun t207 => (if t207 = 0 then ((num_Float.f 4609434218613702656).bind fun bt208 => (if (bt189.1 == bt208.1 && (bt189.2.1 == bt208.2)) = true then ((heirloomlaw01_no.f bt193.2.2).bind fun t210 => (if t210 = 6 then (if bt201.2 = true then (if bt201.1 = 1 then ((num_Float.f 4607182418800017408).bind fun bt211 => ((num_Text.f bt211.1 bt211.2).bind fun t213 => (some (t213.toList == ([48, 102, 51, 102, 102, 48, 48, 48, 48, 48, 48, 48, 48, 48, 48, 48, 48, 48] : List UInt8))))) else (none)) else (none)) else (none))) else (none))) else (none))) else (none))) else (none)) else (none))) else (none)) else (none))) else (none)) else (none)))))))))))))))))))
theorem heirloomlaw01_alive.mono : ∀ k, LeO (heirloomlaw01_alive.f k ) (heirloomlaw01_alive.f (k + 1) ) := by
  intro  k
  unfold heirloomlaw01_alive.f
  repeat' first
      | (with_reducible exact num_Cmp.mono _ _ _ _ _)
      | (with_reducible exact num_Read.mono _ _)
      | (with_reducible exact LeO.refl _)
      | (with_reducible exact LeO.none _)
      | (with_reducible refine LeO.ite ?_ ?_)
      | (with_reducible refine LeO.bind ?_ (fun _ => ?_))
      | exact num_Cmp.mono _ _ _ _ _
      | exact num_Read.mono _ _
      | exact LeO.none _
      | refine LeO.ite ?_ ?_
      | refine LeO.bind ?_ (fun _ => ?_)
def heirloomlaw01_alive.T8 : Bool × List (List Nat × List Nat) := (true, [([], []), ([0], [0]), ([1], [1]), ([2, 1], [2]), ([3], [3]), ([4, 3], [3, 4]), ([5, 3], [3, 5]), ([3, 6], [3, 6]), ([7, 3], [7]), ([8], [8]), ([9, 8, 8], [8, 9]), ([10, 8], [8, 10]), ([8, 11], [8, 11]), ([12, 10], [12]), ([13], [13]), ([14, 13], [13, 14]), ([15, 13], [13, 15]), ([13, 16], [13, 16]), ([17, 13], [17]), ([18], [18]), ([19, 18, 18], [18, 19]), ([20, 18], [18, 20]), ([18, 21], [18, 21]), ([22, 20], [22]), ([23], [23]), ([24, 23], [23, 24]), ([25, 23], [23, 25]), ([23, 26], [23, 26]), ([27, 23], [27]), ([28], [28]), ([29, 28, 28], [28, 29]), ([30, 28], [28, 30]), ([28, 31], [28, 31]), ([32, 30], [32]), ([33], [33]), ([34, 33, 33], [33, 34]), ([35, 33], [33, 35]), ([33, 36], [33, 36]), ([37, 35], [37]), ([38], [38]), ([38, 38], [38]), ([39, 40, 38], [38, 39, 40]), ([38, 41], [38, 41]), ([42, 40], [42]), ([43], [43]), ([44, 43, 43], [43, 44]), ([45, 43], [43, 45]), ([43, 46], [43, 46]), ([47, 45], [47]), ([48], [48]), ([48, 49], [48, 49]), ([50, 48], [50]), ([51], [51]), ([52, 51], [51, 52]), ([51, 53], [51, 53]), ([54, 51], [54]), ([55, 55], [55]), ([56, 56, 55], [55, 56]), ([57, 55], [55, 57]), ([55, 58], [55, 58]), ([59, 57, 0, 1, 2, 3, 4, 5, 6, 7, 8, 9, 10, 11, 12, 13, 14, 15, 16, 17, 18, 19, 20, 21, 22, 23, 24, 25, 26, 27, 28, 29, 30, 31, 32, 33, 34, 35, 36, 37, 38, 39, 40, 41, 42, 43, 44, 45, 46, 47, 48, 49, 50, 51, 52, 53, 54, 55, 56, 57, 58, 59], [59])])
def heirloomlaw01_alive.B8 : List Nat := [0, 1, 3, 7, 15, 31, 63, 127, 255, 511, 1023, 2047, 4095, 8191, 16383, 32767, 65535, 131071, 262143, 524287, 1048575, 2097151, 4194303, 8388607, 16777215, 33554431, 67108863, 134217727, 268435455, 536870911, 1073741823, 2147483647, 4294967295, 8589934591, 17179869183, 34359738367, 68719476735, 137438953471, 274877906943, 549755813887, 549755813887, 2199023255551, 4398046511103, 8796093022207, 17592186044415, 35184372088831, 70368744177663, 140737488355327, 281474976710655, 562949953421311, 1125899906842623, 2251799813685247, 4503599627370495, 9007199254740991, 18014398509481983, 36028797018963967, 72057594037927935, 144115188075855871, 288230376151711743, 576460752303423487, 1152921504606846975]
theorem heirloomlaw01_alive.tab8 : rtab .any (opsOf Try.f25 8) = heirloomlaw01_alive.T8 := by kernel_rfl
theorem heirloomlaw01_alive.bits8 : waitsOk heirloomlaw01_alive.T8.2 heirloomlaw01_alive.B8 = true := by kernel_rfl
set_option maxHeartbeats 8000000 in
set_option maxRecDepth 100000 in
theorem heirloomlaw01_alive.calls (k : Nat)  (r : Bool) (w : World) (h : heirloomlaw01_alive.f k  = some r) :
    Calls Try.prog 25 #[] w fun e w' => e = .returned (.bool r) ∧ Below w.heap.size w w' := by
  have hu23 := Try.underlying23
  have HB := Aside0.mk (Below.refl w.heap.size w)
  have H : ((num_Int.f 9223372036854775807).bind fun bt157 => ((num_Int.f 1).bind fun bt159 => ((num_Op.f 1 bt157.1 bt157.2 bt159.1 bt159.2).bind fun bt161 => ((num_Int.f (-7)).bind fun bt165 => ((num_Int.f 2).bind fun bt167 => ((num_Op.f 5 bt165.1 bt165.2 bt167.1 bt167.2).bind fun bt169 => ((num_Int.f (-7)).bind fun bt173 => ((num_Int.f 2).bind fun bt175 => ((num_Op.f 6 bt173.1 bt173.2 bt175.1 bt175.2).bind fun bt177 => ((num_Int.f 7).bind fun bt181 => ((num_Int.f 0).bind fun bt183 => ((num_Op.f 6 bt181.1 bt181.2 bt183.1 bt183.2).bind fun bt185 => ((num_Read.f k (⟨#[49, 46, 53]⟩ : ByteArray)).bind fun bt189 => ((num_Read.f k (⟨#[49, 46]⟩ : ByteArray)).bind fun bt193 => ((num_Int.f 9007199254740993).bind fun bt197 => ((num_Float.f 4845873199050653696).bind fun bt199 => ((num_Cmp.f k bt197.1 bt197.2 bt199.1 bt199.2).bind fun bt201 => ((heirloomlaw01_no.f bt161.2.2).bind fun t203 => (if t203 = 0 then (if bt161.2.1 = (-9223372036854775808) then ((heirloomlaw01_no.f bt169.2.2).bind fun t204 => (if t204 = 0 then (if bt169.2.1 = (-4) then ((heirloomlaw01_no.f bt177.2.2).bind fun t205 => (if t205 = 0 then (if bt177.2.1 = 1 then ((heirloomlaw01_no.f bt185.2.2).bind fun t206 => (if t206 = 11 then ((heirloomlaw01_no.f bt189.2.2).bind fun t207 => (if t207 = 0 then ((num_Float.f 4609434218613702656).bind fun bt208 => (if (bt189.1 == bt208.1 && (bt189.2.1 == bt208.2)) = true then ((heirloomlaw01_no.f bt193.2.2).bind fun t210 => (if t210 = 6 then (if bt201.2 = true then (if bt201.1 = 1 then ((num_Float.f 4607182418800017408).bind fun bt211 => ((num_Text.f bt211.1 bt211.2).bind fun t213 => (some (t213.toList == ([48, 102, 51, 102, 102, 48, 48, 48, 48, 48, 48, 48, 48, 48, 48, 48, 48, 48] : List UInt8))))) else (none)) else (none)) else (none))) else (none))) else (none))) else (none))) else (none)) else (none))) else (none)) else (none))) else (none)) else (none)))))))))))))))))))) = some r := h
  clear h
  replace H := Option.bind_eq_some_iff.mp H
  obtain ⟨⟨t157, t158⟩, A10, H⟩ := H
  replace H : ((num_Int.f 1).bind fun bt159 => ((num_Op.f 1 t157 t158 bt159.1 bt159.2).bind fun bt161 => ((num_Int.f (-7)).bind fun bt165 => ((num_Int.f 2).bind fun bt167 => ((num_Op.f 5 bt165.1 bt165.2 bt167.1 bt167.2).bind fun bt169 => ((num_Int.f (-7)).bind fun bt173 => ((num_Int.f 2).bind fun bt175 => ((num_Op.f 6 bt173.1 bt173.2 bt175.1 bt175.2).bind fun bt177 => ((num_Int.f 7).bind fun bt181 => ((num_Int.f 0).bind fun bt183 => ((num_Op.f 6 bt181.1 bt181.2 bt183.1 bt183.2).bind fun bt185 => ((num_Read.f k (⟨#[49, 46, 53]⟩ : ByteArray)).bind fun bt189 => ((num_Read.f k (⟨#[49, 46]⟩ : ByteArray)).bind fun bt193 => ((num_Int.f 9007199254740993).bind fun bt197 => ((num_Float.f 4845873199050653696).bind fun bt199 => ((num_Cmp.f k bt197.1 bt197.2 bt199.1 bt199.2).bind fun bt201 => ((heirloomlaw01_no.f bt161.2.2).bind fun t203 => (if t203 = 0 then (if bt161.2.1 = (-9223372036854775808) then ((heirloomlaw01_no.f bt169.2.2).bind fun t204 => (if t204 = 0 then (if bt169.2.1 = (-4) then ((heirloomlaw01_no.f bt177.2.2).bind fun t205 => (if t205 = 0 then (if bt177.2.1 = 1 then ((heirloomlaw01_no.f bt185.2.2).bind fun t206 => (if t206 = 11 then ((heirloomlaw01_no.f bt189.2.2).bind fun t207 => (if t207 = 0 then ((num_Float.f 4609434218613702656).bind fun bt208 => (if (bt189.1 == bt208.1 && (bt189.2.1 == bt208.2)) = true then ((heirloomlaw01_no.f bt193.2.2).bind fun t210 => (if t210 = 6 then (if bt201.2 = true then (if bt201.1 = 1 then ((num_Float.f 4607182418800017408).bind fun bt211 => ((num_Text.f bt211.1 bt211.2).bind fun t213 => (some (t213.toList == ([48, 102, 51, 102, 102, 48, 48, 48, 48, 48, 48, 48, 48, 48, 48, 48, 48, 48] : List UInt8))))) else (none)) else (none)) else (none))) else (none))) else (none))) else (none))) else (none)) else (none))) else (none)) else (none))) else (none)) else (none))))))))))))))))))) = some r := H
  have A1 := Aside0.mk A10
  clear A10
  replace H := Option.bind_eq_some_iff.mp H
  obtain ⟨⟨t159, t160⟩, A20, H⟩ := H
  replace H : ((num_Op.f 1 t157 t158 t159 t160).bind fun bt161 => ((num_Int.f (-7)).bind fun bt165 => ((num_Int.f 2).bind fun bt167 => ((num_Op.f 5 bt165.1 bt165.2 bt167.1 bt167.2).bind fun bt169 => ((num_Int.f (-7)).bind fun bt173 => ((num_Int.f 2).bind fun bt175 => ((num_Op.f 6 bt173.1 bt173.2 bt175.1 bt175.2).bind fun bt177 => ((num_Int.f 7).bind fun bt181 => ((num_Int.f 0).bind fun bt183 => ((num_Op.f 6 bt181.1 bt181.2 bt183.1 bt183.2).bind fun bt185 => ((num_Read.f k (⟨#[49, 46, 53]⟩ : ByteArray)).bind fun bt189 => ((num_Read.f k (⟨#[49, 46]⟩ : ByteArray)).bind fun bt193 => ((num_Int.f 9007199254740993).bind fun bt197 => ((num_Float.f 4845873199050653696).bind fun bt199 => ((num_Cmp.f k bt197.1 bt197.2 bt199.1 bt199.2).bind fun bt201 => ((heirloomlaw01_no.f bt161.2.2).bind fun t203 => (if t203 = 0 then (if bt161.2.1 = (-9223372036854775808) then ((heirloomlaw01_no.f bt169.2.2).bind fun t204 => (if t204 = 0 then (if bt169.2.1 = (-4) then ((heirloomlaw01_no.f bt177.2.2).bind fun t205 => (if t205 = 0 then (if bt177.2.1 = 1 then ((heirloomlaw01_no.f bt185.2.2).bind fun t206 => (if t206 = 11 then ((heirloomlaw01_no.f bt189.2.2).bind fun t207 => (if t207 = 0 then ((num_Float.f 4609434218613702656).bind fun bt208 => (if (bt189.1 == bt208.1 && (bt189.2.1 == bt208.2)) = true then ((heirloomlaw01_no.f bt193.2.2).bind fun t210 => (if t210 = 6 then (if bt201.2 = true then (if bt201.1 = 1 then ((num_Float.f 4607182418800017408).bind fun bt211 => ((num_Text.f bt211.1 bt211.2).bind fun t213 => (some (t213.toList == ([48, 102, 51, 102, 102, 48, 48, 48, 48, 48, 48, 48, 48, 48, 48, 48, 48, 48] : List UInt8))))) else (none)) else (none)) else (none))) else (none))) else (none))) else (none))) else (none)) else (none))) else (none)) else (none))) else (none)) else (none)))))))))))))))))) = some r := H
  have A2 := Aside0.mk A20
  clear A20
  replace H := Option.bind_eq_some_iff.mp H
  obtain ⟨⟨t161, t162, t163⟩, A30, H⟩ := H
  replace H : ((num_Int.f (-7)).bind fun bt165 => ((num_Int.f 2).bind fun bt167 => ((num_Op.f 5 bt165.1 bt165.2 bt167.1 bt167.2).bind fun bt169 => ((num_Int.f (-7)).bind fun bt173 => ((num_Int.f 2).bind fun bt175 => ((num_Op.f 6 bt173.1 bt173.2 bt175.1 bt175.2).bind fun bt177 => ((num_Int.f 7).bind fun bt181 => ((num_Int.f 0).bind fun bt183 => ((num_Op.f 6 bt181.1 bt181.2 bt183.1 bt183.2).bind fun bt185 => ((num_Read.f k (⟨#[49, 46, 53]⟩ : ByteArray)).bind fun bt189 => ((num_Read.f k (⟨#[49, 46]⟩ : ByteArray)).bind fun bt193 => ((num_Int.f 9007199254740993).bind fun bt197 => ((num_Float.f 4845873199050653696).bind fun bt199 => ((num_Cmp.f k bt197.1 bt197.2 bt199.1 bt199.2).bind fun bt201 => ((heirloomlaw01_no.f t163).bind fun t203 => (if t203 = 0 then (if t162 = (-9223372036854775808) then ((heirloomlaw01_no.f bt169.2.2).bind fun t204 => (if t204 = 0 then (if bt169.2.1 = (-4) then ((heirloomlaw01_no.f bt177.2.2).bind fun t205 => (if t205 = 0 then (if bt177.2.1 = 1 then ((heirloomlaw01_no.f bt185.2.2).bind fun t206 => (if t206 = 11 then ((heirloomlaw01_no.f bt189.2.2).bind fun t207 => (if t207 = 0 then ((num_Float.f 4609434218613702656).bind fun bt208 => (if (bt189.1 == bt208.1 && (bt189.2.1 == bt208.2)) = true then ((heirloomlaw01_no.f bt193.2.2).bind fun t210 => (if t210 = 6 then (if bt201.2 = true then (if bt201.1 = 1 then ((num_Float.f 4607182418800017408).bind fun bt211 => ((num_Text.f bt211.1 bt211.2).bind fun t213 => (some (t213.toList == ([48, 102, 51, 102, 102, 48, 48, 48, 48, 48, 48, 48, 48, 48, 48, 48, 48, 48] : List UInt8))))) else (none)) else (none)) else (none))) else (none))) else (none))) else (none))) else (none)) else (none))) else (none)) else (none))) else (none)) else (none))))))))))))))))) = some r := H
  have A3 := Aside0.mk A30
  clear A30
  replace H := Option.bind_eq_some_iff.mp H
  obtain ⟨⟨t165, t166⟩, A40, H⟩ := H
  replace H : ((num_Int.f 2).bind fun bt167 => ((num_Op.f 5 t165 t166 bt167.1 bt167.2).bind fun bt169 => ((num_Int.f (-7)).bind fun bt173 => ((num_Int.f 2).bind fun bt175 => ((num_Op.f 6 bt173.1 bt173.2 bt175.1 bt175.2).bind fun bt177 => ((num_Int.f 7).bind fun bt181 => ((num_Int.f 0).bind fun bt183 => ((num_Op.f 6 bt181.1 bt181.2 bt183.1 bt183.2).bind fun bt185 => ((num_Read.f k (⟨#[49, 46, 53]⟩ : ByteArray)).bind fun bt189 => ((num_Read.f k (⟨#[49, 46]⟩ : ByteArray)).bind fun bt193 => ((num_Int.f 9007199254740993).bind fun bt197 => ((num_Float.f 4845873199050653696).bind fun bt199 => ((num_Cmp.f k bt197.1 bt197.2 bt199.1 bt199.2).bind fun bt201 => ((heirloomlaw01_no.f t163).bind fun t203 => (if t203 = 0 then (if t162 = (-9223372036854775808) then ((heirloomlaw01_no.f bt169.2.2).bind fun t204 => (if t204 = 0 then (if bt169.2.1 = (-4) then ((heirloomlaw01_no.f bt177.2.2).bind fun t205 => (if t205 = 0 then (if bt177.2.1 = 1 then ((heirloomlaw01_no.f bt185.2.2).bind fun t206 => (if t206 = 11 then ((heirloomlaw01_no.f bt189.2.2).bind fun t207 => (if t207 = 0 then ((num_Float.f 4609434218613702656).bind fun bt208 => (if (bt189.1 == bt208.1 && (bt189.2.1 == bt208.2)) = true then ((heirloomlaw01_no.f bt193.2.2).bind fun t210 => (if t210 = 6 then (if bt201.2 = true then (if bt201.1 = 1 then ((num_Float.f 4607182418800017408).bind fun bt211 => ((num_Text.f bt211.1 bt211.2).bind fun t213 => (some (t213.toList == ([48, 102, 51, 102, 102, 48, 48, 48, 48, 48, 48, 48, 48, 48, 48, 48, 48, 48] : List UInt8))))) else (none)) else (none)) else (none))) else (none))) else (none))) else (none))) else (none)) else (none))) else (none)) else (none))) else (none)) else (none)))))))))))))))) = some r := H
  have A4 := Aside0.mk A40
  clear A40
  replace H := Option.bind_eq_some_iff.mp H
  obtain ⟨⟨t167, t168⟩, A50, H⟩ := H
  replace H : ((num_Op.f 5 t165 t166 t167 t168).bind fun bt169 => ((num_Int.f (-7)).bind fun bt173 => ((num_Int.f 2).bind fun bt175 => ((num_Op.f 6 bt173.1 bt173.2 bt175.1 bt175.2).bind fun bt177 => ((num_Int.f 7).bind fun bt181 => ((num_Int.f 0).bind fun bt183 => ((num_Op.f 6 bt181.1 bt181.2 bt183.1 bt183.2).bind fun bt185 => ((num_Read.f k (⟨#[49, 46, 53]⟩ : ByteArray)).bind fun bt189 => ((num_Read.f k (⟨#[49, 46]⟩ : ByteArray)).bind fun bt193 => ((num_Int.f 9007199254740993).bind fun bt197 => ((num_Float.f 4845873199050653696).bind fun bt199 => ((num_Cmp.f k bt197.1 bt197.2 bt199.1 bt199.2).bind fun bt201 => ((heirloomlaw01_no.f t163).bind fun t203 => (if t203 = 0 then (if t162 = (-9223372036854775808) then ((heirloomlaw01_no.f bt169.2.2).bind fun t204 => (if t204 = 0 then (if bt169.2.1 = (-4) then ((heirloomlaw01_no.f bt177.2.2).bind fun t205 => (if t205 = 0 then (if bt177.2.1 = 1 then ((heirloomlaw01_no.f bt185.2.2).bind fun t206 => (if t206 = 11 then ((heirloomlaw01_no.f bt189.2.2).bind fun t207 => (if t207 = 0 then ((num_Float.f 4609434218613702656).bind fun bt208 => (if (bt189.1 == bt208.1 && (bt189.2.1 == bt208.2)) = true then ((heirloomlaw01_no.f bt193.2.2).bind fun t210 => (if t210 = 6 then (if bt201.2 = true then (if bt201.1 = 1 then ((num_Float.f 4607182418800017408).bind fun bt211 => ((num_Text.f bt211.1 bt211.2).bind fun t213 => (some (t213.toList == ([48, 102, 51, 102, 102, 48, 48, 48, 48, 48, 48, 48, 48, 48, 48, 48, 48, 48] : List UInt8))))) else (none)) else (none)) else (none))) else (none))) else (none))) else (none))) else (none)) else (none))) else (none)) else (none))) else (none)) else (none))))))))))))))) = some r := H
  have A5 := Aside0.mk A50
  clear A50
  replace H := Option.bind_eq_some_iff.mp H
  obtain ⟨⟨t169, t170, t171⟩, A60, H⟩ := H
  replace H : ((num_Int.f (-7)).bind fun bt173 => ((num_Int.f 2).bind fun bt175 => ((num_Op.f 6 bt173.1 bt173.2 bt175.1 bt175.2).bind fun bt177 => ((num_Int.f 7).bind fun bt181 => ((num_Int.f 0).bind fun bt183 => ((num_Op.f 6 bt181.1 bt181.2 bt183.1 bt183.2).bind fun bt185 => ((num_Read.f k (⟨#[49, 46, 53]⟩ : ByteArray)).bind fun bt189 => ((num_Read.f k (⟨#[49, 46]⟩ : ByteArray)).bind fun bt193 => ((num_Int.f 9007199254740993).bind fun bt197 => ((num_Float.f 4845873199050653696).bind fun bt199 => ((num_Cmp.f k bt197.1 bt197.2 bt199.1 bt199.2).bind fun bt201 => ((heirloomlaw01_no.f t163).bind fun t203 => (if t203 = 0 then (if t162 = (-9223372036854775808) then ((heirloomlaw01_no.f t171).bind fun t204 => (if t204 = 0 then (if t170 = (-4) then ((heirloomlaw01_no.f bt177.2.2).bind fun t205 => (if t205 = 0 then (if bt177.2.1 = 1 then ((heirloomlaw01_no.f bt185.2.2).bind fun t206 => (if t206 = 11 then ((heirloomlaw01_no.f bt189.2.2).bind fun t207 => (if t207 = 0 then ((num_Float.f 4609434218613702656).bind fun bt208 => (if (bt189.1 == bt208.1 && (bt189.2.1 == bt208.2)) = true then ((heirloomlaw01_no.f bt193.2.2).bind fun t210 => (if t210 = 6 then (if bt201.2 = true then (if bt201.1 = 1 then ((num_Float.f 4607182418800017408).bind fun bt211 => ((num_Text.f bt211.1 bt211.2).bind fun t213 => (some (t213.toList == ([48, 102, 51, 102, 102, 48, 48, 48, 48, 48, 48, 48, 48, 48, 48, 48, 48, 48] : List UInt8))))) else (none)) else (none)) else (none))) else (none))) else (none))) else (none))) else (none)) else (none))) else (none)) else (none))) else (none)) else (none)))))))))))))) = some r := H
  have A6 := Aside0.mk A60
  clear A60
  replace H := Option.bind_eq_some_iff.mp H
  obtain ⟨⟨t173, t174⟩, A70, H⟩ := H
  replace H : ((num_Int.f 2).bind fun bt175 => ((num_Op.f 6 t173 t174 bt175.1 bt175.2).bind fun bt177 => ((num_Int.f 7).bind fun bt181 => ((num_Int.f 0).bind fun bt183 => ((num_Op.f 6 bt181.1 bt181.2 bt183.1 bt183.2).bind fun bt185 => ((num_Read.f k (⟨#[49, 46, 53]⟩ : ByteArray)).bind fun bt189 => ((num_Read.f k (⟨#[49, 46]⟩ : ByteArray)).bind fun bt193 => ((num_Int.f 9007199254740993).bind fun bt197 => ((num_Float.f 4845873199050653696).bind fun bt199 => ((num_Cmp.f k bt197.1 bt197.2 bt199.1 bt199.2).bind fun bt201 => ((heirloomlaw01_no.f t163).bind fun t203 => (if t203 = 0 then (if t162 = (-9223372036854775808) then ((heirloomlaw01_no.f t171).bind fun t204 => (if t204 = 0 then (if t170 = (-4) then ((heirloomlaw01_no.f bt177.2.2).bind fun t205 => (if t205 = 0 then (if bt177.2.1 = 1 then ((heirloomlaw01_no.f bt185.2.2).bind fun t206 => (if t206 = 11 then ((heirloomlaw01_no.f bt189.2.2).bind fun t207 => (if t207 = 0 then ((num_Float.f 4609434218613702656).bind fun bt208 => (if (bt189.1 == bt208.1 && (bt189.2.1 == bt208.2)) = true then ((heirloomlaw01_no.f bt193.2.2).bind fun t210 => (if t210 = 6 then (if bt201.2 = true then (if bt201.1 = 1 then ((num_Float.f 4607182418800017408).bind fun bt211 => ((num_Text.f bt211.1 bt211.2).bind fun t213 => (some (t213.toList == ([48, 102, 51, 102, 102, 48, 48, 48, 48, 48, 48, 48, 48, 48, 48, 48, 48, 48] : List UInt8))))) else (none)) else (none)) else (none))) else (none))) else (none))) else (none))) else (none)) else (none))) else (none)) else (none))) else (none)) else (none))))))))))))) = some r := H
  have A7 := Aside0.mk A70
  clear A70
  replace H := Option.bind_eq_some_iff.mp H
  obtain ⟨⟨t175, t176⟩, A80, H⟩ := H
  replace H : ((num_Op.f 6 t173 t174 t175 t176).bind fun bt177 => ((num_Int.f 7).bind fun bt181 => ((num_Int.f 0).bind fun bt183 => ((num_Op.f 6 bt181.1 bt181.2 bt183.1 bt183.2).bind fun bt185 => ((num_Read.f k (⟨#[49, 46, 53]⟩ : ByteArray)).bind fun bt189 => ((num_Read.f k (⟨#[49, 46]⟩ : ByteArray)).bind fun bt193 => ((num_Int.f 9007199254740993).bind fun bt197 => ((num_Float.f 4845873199050653696).bind fun bt199 => ((num_Cmp.f k bt197.1 bt197.2 bt199.1 bt199.2).bind fun bt201 => ((heirloomlaw01_no.f t163).bind fun t203 => (if t203 = 0 then (if t162 = (-9223372036854775808) then ((heirloomlaw01_no.f t171).bind fun t204 => (if t204 = 0 then (if t170 = (-4) then ((heirloomlaw01_no.f bt177.2.2).bind fun t205 => (if t205 = 0 then (if bt177.2.1 = 1 then ((heirloomlaw01_no.f bt185.2.2).bind fun t206 => (if t206 = 11 then ((heirloomlaw01_no.f bt189.2.2).bind fun t207 => (if t207 = 0 then ((num_Float.f 4609434218613702656).bind fun bt208 => (if (bt189.1 == bt208.1 && (bt189.2.1 == bt208.2)) = true then ((heirloomlaw01_no.f bt193.2.2).bind fun t210 => (if t210 = 6 then (if bt201.2 = true then (if bt201.1 = 1 then ((num_Float.f 4607182418800017408).bind fun bt211 => ((num_Text.f bt211.1 bt211.2).bind fun t213 => (some (t213.toList == ([48, 102, 51, 102, 102, 48, 48, 48, 48, 48, 48, 48, 48, 48, 48, 48, 48, 48] : List UInt8))))) else (none)) else (none)) else (none))) else (none))) else (none))) else (none))) else (none)) else (none))) else (none)) else (none))) else (none)) else (none)))))))))))) = some r := H
  have A8 := Aside0.mk A80
  clear A80
  replace H := Option.bind_eq_some_iff.mp H
  obtain ⟨⟨t177, t178, t179⟩, A90, H⟩ := H
  replace H : ((num_Int.f 7).bind fun bt181 => ((num_Int.f 0).bind fun bt183 => ((num_Op.f 6 bt181.1 bt181.2 bt183.1 bt183.2).bind fun bt185 => ((num_Read.f k (⟨#[49, 46, 53]⟩ : ByteArray)).bind fun bt189 => ((num_Read.f k (⟨#[49, 46]⟩ : ByteArray)).bind fun bt193 => ((num_Int.f 9007199254740993).bind fun bt197 => ((num_Float.f 4845873199050653696).bind fun bt199 => ((num_Cmp.f k bt197.1 bt197.2 bt199.1 bt199.2).bind fun bt201 => ((heirloomlaw01_no.f t163).bind fun t203 => (if t203 = 0 then (if t162 = (-9223372036854775808) then ((heirloomlaw01_no.f t171).bind fun t204 => (if t204 = 0 then (if t170 = (-4) then ((heirloomlaw01_no.f t179).bind fun t205 => (if t205 = 0 then (if t178 = 1 then ((heirloomlaw01_no.f bt185.2.2).bind fun t206 => (if t206 = 11 then ((heirloomlaw01_no.f bt189.2.2).bind fun t207 => (if t207 = 0 then ((num_Float.f 4609434218613702656).bind fun bt208 => (if (bt189.1 == bt208.1 && (bt189.2.1 == bt208.2)) = true then ((heirloomlaw01_no.f bt193.2.2).bind fun t210 => (if t210 = 6 then (if bt201.2 = true then (if bt201.1 = 1 then ((num_Float.f 4607182418800017408).bind fun bt211 => ((num_Text.f bt211.1 bt211.2).bind fun t213 => (some (t213.toList == ([48, 102, 51, 102, 102, 48, 48, 48, 48, 48, 48, 48, 48, 48, 48, 48, 48, 48] : List UInt8))))) else (none)) else (none)) else (none))) else (none))) else (none))) else (none))) else (none)) else (none))) else (none)) else (none))) else (none)) else (none))))))))))) = some r := H
  have A9 := Aside0.mk A90
  clear A90
  replace H := Option.bind_eq_some_iff.mp H
  obtain ⟨⟨t181, t182⟩, A100, H⟩ := H
  replace H : ((num_Int.f 0).bind fun bt183 => ((num_Op.f 6 t181 t182 bt183.1 bt183.2).bind fun bt185 => ((num_Read.f k (⟨#[49, 46, 53]⟩ : ByteArray)).bind fun bt189 => ((num_Read.f k (⟨#[49, 46]⟩ : ByteArray)).bind fun bt193 => ((num_Int.f 9007199254740993).bind fun bt197 => ((num_Float.f 4845873199050653696).bind fun bt199 => ((num_Cmp.f k bt197.1 bt197.2 bt199.1 bt199.2).bind fun bt201 => ((heirloomlaw01_no.f t163).bind fun t203 => (if t203 = 0 then (if t162 = (-9223372036854775808) then ((heirloomlaw01_no.f t171).bind fun t204 => (if t204 = 0 then (if t170 = (-4) then ((heirloomlaw01_no.f t179).bind fun t205 => (if t205 = 0 then (if t178 = 1 then ((heirloomlaw01_no.f bt185.2.2).bind fun t206 => (if t206 = 11 then ((heirloomlaw01_no.f bt189.2.2).bind fun t207 => (if t207 = 0 then ((num_Float.f 4609434218613702656).bind fun bt208 => (if (bt189.1 == bt208.1 && (bt189.2.1 == bt208.2)) = true then ((heirloomlaw01_no.f bt193.2.2).bind fun t210 => (if t210 = 6 then (if bt201.2 = true then (if bt201.1 = 1 then ((num_Float.f 4607182418800017408).bind fun bt211 => ((num_Text.f bt211.1 bt211.2).bind fun t213 => (some (t213.toList == ([48, 102, 51, 102, 102, 48, 48, 48, 48, 48, 48, 48, 48, 48, 48, 48, 48, 48] : List UInt8))))) else (none)) else (none)) else (none))) else (none))) else (none))) else (none))) else (none)) else (none))) else (none)) else (none))) else (none)) else (none)))))))))) = some r := H
  have A10 := Aside0.mk A100
  clear A100
  replace H := Option.bind_eq_some_iff.mp H
  obtain ⟨⟨t183, t184⟩, A110, H⟩ := H
  replace H : ((num_Op.f 6 t181 t182 t183 t184).bind fun bt185 => ((num_Read.f k (⟨#[49, 46, 53]⟩ : ByteArray)).bind fun bt189 => ((num_Read.f k (⟨#[49, 46]⟩ : ByteArray)).bind fun bt193 => ((num_Int.f 9007199254740993).bind fun bt197 => ((num_Float.f 4845873199050653696).bind fun bt199 => ((num_Cmp.f k bt197.1 bt197.2 bt199.1 bt199.2).bind fun bt201 => ((heirloomlaw01_no.f t163).bind fun t203 => (if t203 = 0 then (if t162 = (-9223372036854775808) then ((heirloomlaw01_no.f t171).bind fun t204 => (if t204 = 0 then (if t170 = (-4) then ((heirloomlaw01_no.f t179).bind fun t205 => (if t205 = 0 then (if t178 = 1 then ((heirloomlaw01_no.f bt185.2.2).bind fun t206 => (if t206 = 11 then ((heirloomlaw01_no.f bt189.2.2).bind fun t207 => (if t207 = 0 then ((num_Float.f 4609434218613702656).bind fun bt208 => (if (bt189.1 == bt208.1 && (bt189.2.1 == bt208.2)) = true then ((heirloomlaw01_no.f bt193.2.2).bind fun t210 => (if t210 = 6 then (if bt201.2 = true then (if bt201.1 = 1 then ((num_Float.f 4607182418800017408).bind fun bt211 => ((num_Text.f bt211.1 bt211.2).bind fun t213 => (some (t213.toList == ([48, 102, 51, 102, 102, 48, 48, 48, 48, 48, 48, 48, 48, 48, 48, 48, 48, 48] : List UInt8))))) else (none)) else (none)) else (none))) else (none))) else (none))) else (none))) else (none)) else (none))) else (none)) else (none))) else (none)) else (none))))))))) = some r := H
  have A11 := Aside0.mk A110
  clear A110
  replace H := Option.bind_eq_some_iff.mp H
  obtain ⟨⟨t185, t186, t187⟩, A120, H⟩ := H
  replace H : ((num_Read.f k (⟨#[49, 46, 53]⟩ : ByteArray)).bind fun bt189 => ((num_Read.f k (⟨#[49, 46]⟩ : ByteArray)).bind fun bt193 => ((num_Int.f 9007199254740993).bind fun bt197 => ((num_Float.f 4845873199050653696).bind fun bt199 => ((num_Cmp.f k bt197.1 bt197.2 bt199.1 bt199.2).bind fun bt201 => ((heirloomlaw01_no.f t163).bind fun t203 => (if t203 = 0 then (if t162 = (-9223372036854775808) then ((heirloomlaw01_no.f t171).bind fun t204 => (if t204 = 0 then (if t170 = (-4) then ((heirloomlaw01_no.f t179).bind fun t205 => (if t205 = 0 then (if t178 = 1 then ((heirloomlaw01_no.f t187).bind fun t206 => (if t206 = 11 then ((heirloomlaw01_no.f bt189.2.2).bind fun t207 => (if t207 = 0 then ((num_Float.f 4609434218613702656).bind fun bt208 => (if (bt189.1 == bt208.1 && (bt189.2.1 == bt208.2)) = true then ((heirloomlaw01_no.f bt193.2.2).bind fun t210 => (if t210 = 6 then (if bt201.2 = true then (if bt201.1 = 1 then ((num_Float.f 4607182418800017408).bind fun bt211 => ((num_Text.f bt211.1 bt211.2).bind fun t213 => (some (t213.toList == ([48, 102, 51, 102, 102, 48, 48, 48, 48, 48, 48, 48, 48, 48, 48, 48, 48, 48] : List UInt8))))) else (none)) else (none)) else (none))) else (none))) else (none))) else (none))) else (none)) else (none))) else (none)) else (none))) else (none)) else (none)))))))) = some r := H
  have A12 := Aside0.mk A120
  clear A120
  replace H := Option.bind_eq_some_iff.mp H
  obtain ⟨⟨t189, t190, t191⟩, A130, H⟩ := H
  replace H : ((num_Read.f k (⟨#[49, 46]⟩ : ByteArray)).bind fun bt193 => ((num_Int.f 9007199254740993).bind fun bt197 => ((num_Float.f 4845873199050653696).bind fun bt199 => ((num_Cmp.f k bt197.1 bt197.2 bt199.1 bt199.2).bind fun bt201 => ((heirloomlaw01_no.f t163).bind fun t203 => (if t203 = 0 then (if t162 = (-9223372036854775808) then ((heirloomlaw01_no.f t171).bind fun t204 => (if t204 = 0 then (if t170 = (-4) then ((heirloomlaw01_no.f t179).bind fun t205 => (if t205 = 0 then (if t178 = 1 then ((heirloomlaw01_no.f t187).bind fun t206 => (if t206 = 11 then ((heirloomlaw01_no.f t191).bind fun t207 => (if t207 = 0 then ((num_Float.f 4609434218613702656).bind fun bt208 => (if (t189 == bt208.1 && (t190 == bt208.2)) = true then ((heirloomlaw01_no.f bt193.2.2).bind fun t210 => (if t210 = 6 then (if bt201.2 = true then (if bt201.1 = 1 then ((num_Float.f 4607182418800017408).bind fun bt211 => ((num_Text.f bt211.1 bt211.2).bind fun t213 => (some (t213.toList == ([48, 102, 51, 102, 102, 48, 48, 48, 48, 48, 48, 48, 48, 48, 48, 48, 48, 48] : List UInt8))))) else (none)) else (none)) else (none))) else (none))) else (none))) else (none))) else (none)) else (none))) else (none)) else (none))) else (none)) else (none))))))) = some r := H
  have A13 := Aside0.mk A130
  clear A130
  replace H := Option.bind_eq_some_iff.mp H
  obtain ⟨⟨t193, t194, t195⟩, A140, H⟩ := H
  replace H : ((num_Int.f 9007199254740993).bind fun bt197 => ((num_Float.f 4845873199050653696).bind fun bt199 => ((num_Cmp.f k bt197.1 bt197.2 bt199.1 bt199.2).bind fun bt201 => ((heirloomlaw01_no.f t163).bind fun t203 => (if t203 = 0 then (if t162 = (-9223372036854775808) then ((heirloomlaw01_no.f t171).bind fun t204 => (if t204 = 0 then (if t170 = (-4) then ((heirloomlaw01_no.f t179).bind fun t205 => (if t205 = 0 then (if t178 = 1 then ((heirloomlaw01_no.f t187).bind fun t206 => (if t206 = 11 then ((heirloomlaw01_no.f t191).bind fun t207 => (if t207 = 0 then ((num_Float.f 4609434218613702656).bind fun bt208 => (if (t189 == bt208.1 && (t190 == bt208.2)) = true then ((heirloomlaw01_no.f t195).bind fun t210 => (if t210 = 6 then (if bt201.2 = true then (if bt201.1 = 1 then ((num_Float.f 4607182418800017408).bind fun bt211 => ((num_Text.f bt211.1 bt211.2).bind fun t213 => (some (t213.toList == ([48, 102, 51, 102, 102, 48, 48, 48, 48, 48, 48, 48, 48, 48, 48, 48, 48, 48] : List UInt8))))) else (none)) else (none)) else (none))) else (none))) else (none))) else (none))) else (none)) else (none))) else (none)) else (none))) else (none)) else (none)))))) = some r := H
  have A14 := Aside0.mk A140
  clear A140
  replace H := Option.bind_eq_some_iff.mp H
  obtain ⟨⟨t197, t198⟩, A150, H⟩ := H
  replace H : ((num_Float.f 4845873199050653696).bind fun bt199 => ((num_Cmp.f k t197 t198 bt199.1 bt199.2).bind fun bt201 => ((heirloomlaw01_no.f t163).bind fun t203 => (if t203 = 0 then (if t162 = (-9223372036854775808) then ((heirloomlaw01_no.f t171).bind fun t204 => (if t204 = 0 then (if t170 = (-4) then ((heirloomlaw01_no.f t179).bind fun t205 => (if t205 = 0 then (if t178 = 1 then ((heirloomlaw01_no.f t187).bind fun t206 => (if t206 = 11 then ((heirloomlaw01_no.f t191).bind fun t207 => (if t207 = 0 then ((num_Float.f 4609434218613702656).bind fun bt208 => (if (t189 == bt208.1 && (t190 == bt208.2)) = true then ((heirloomlaw01_no.f t195).bind fun t210 => (if t210 = 6 then (if bt201.2 = true then (if bt201.1 = 1 then ((num_Float.f 4607182418800017408).bind fun bt211 => ((num_Text.f bt211.1 bt211.2).bind fun t213 => (some (t213.toList == ([48, 102, 51, 102, 102, 48, 48, 48, 48, 48, 48, 48, 48, 48, 48, 48, 48, 48] : List UInt8))))) else (none)) else (none)) else (none))) else (none))) else (none))) else (none))) else (none)) else (none))) else (none)) else (none))) else (none)) else (none))))) = some r := H
  have A15 := Aside0.mk A150
  clear A150
  replace H := Option.bind_eq_some_iff.mp H
  obtain ⟨⟨t199, t200⟩, A160, H⟩ := H
  replace H : ((num_Cmp.f k t197 t198 t199 t200).bind fun bt201 => ((heirloomlaw01_no.f t163).bind fun t203 => (if t203 = 0 then (if t162 = (-9223372036854775808) then ((heirloomlaw01_no.f t171).bind fun t204 => (if t204 = 0 then (if t170 = (-4) then ((heirloomlaw01_no.f t179).bind fun t205 => (if t205 = 0 then (if t178 = 1 then ((heirloomlaw01_no.f t187).bind fun t206 => (if t206 = 11 then ((heirloomlaw01_no.f t191).bind fun t207 => (if t207 = 0 then ((num_Float.f 4609434218613702656).bind fun bt208 => (if (t189 == bt208.1 && (t190 == bt208.2)) = true then ((heirloomlaw01_no.f t195).bind fun t210 => (if t210 = 6 then (if bt201.2 = true then (if bt201.1 = 1 then ((num_Float.f 4607182418800017408).bind fun bt211 => ((num_Text.f bt211.1 bt211.2).bind fun t213 => (some (t213.toList == ([48, 102, 51, 102, 102, 48, 48, 48, 48, 48, 48, 48, 48, 48, 48, 48, 48, 48] : List UInt8))))) else (none)) else (none)) else (none))) else (none))) else (none))) else (none))) else (none)) else (none))) else (none)) else (none))) else (none)) else (none)))) = some r := H
  have A16 := Aside0.mk A160
  clear A160
  replace H := Option.bind_eq_some_iff.mp H
  obtain ⟨⟨t201, t202⟩, A170, H⟩ := H
  replace H : ((heirloomlaw01_no.f t163).bind fun t203 => (if t203 = 0 then (if t162 = (-9223372036854775808) then ((heirloomlaw01_no.f t171).bind fun t204 => (if t204 = 0 then (if t170 = (-4) then ((heirloomlaw01_no.f t179).bind fun t205 => (if t205 = 0 then (if t178 = 1 then ((heirloomlaw01_no.f t187).bind fun t206 => (if t206 = 11 then ((heirloomlaw01_no.f t191).bind fun t207 => (if t207 = 0 then ((num_Float.f 4609434218613702656).bind fun bt208 => (if (t189 == bt208.1 && (t190 == bt208.2)) = true then ((heirloomlaw01_no.f t195).bind fun t210 => (if t210 = 6 then (if t202 = true then (if t201 = 1 then ((num_Float.f 4607182418800017408).bind fun bt211 => ((num_Text.f bt211.1 bt211.2).bind fun t213 => (some (t213.toList == ([48, 102, 51, 102, 102, 48, 48, 48, 48, 48, 48, 48, 48, 48, 48, 48, 48, 48] : List UInt8))))) else (none)) else (none)) else (none))) else (none))) else (none))) else (none))) else (none)) else (none))) else (none)) else (none))) else (none)) else (none))) = some r := H
  have A17 := Aside0.mk A170
  clear A170
  replace H := Option.bind_eq_some_iff.mp H
  obtain ⟨t203, A180, H⟩ := H
  replace H : (if t203 = 0 then (if t162 = (-9223372036854775808) then ((heirloomlaw01_no.f t171).bind fun t204 => (if t204 = 0 then (if t170 = (-4) then ((heirloomlaw01_no.f t179).bind fun t205 => (if t205 = 0 then (if t178 = 1 then ((heirloomlaw01_no.f t187).bind fun t206 => (if t206 = 11 then ((heirloomlaw01_no.f t191).bind fun t207 => (if t207 = 0 then ((num_Float.f 4609434218613702656).bind fun bt208 => (if (t189 == bt208.1 && (t190 == bt208.2)) = true then ((heirloomlaw01_no.f t195).bind fun t210 => (if t210 = 6 then (if t202 = true then (if t201 = 1 then ((num_Float.f 4607182418800017408).bind fun bt211 => ((num_Text.f bt211.1 bt211.2).bind fun t213 => (some (t213.toList == ([48, 102, 51, 102, 102, 48, 48, 48, 48, 48, 48, 48, 48, 48, 48, 48, 48, 48] : List UInt8))))) else (none)) else (none)) else (none))) else (none))) else (none))) else (none))) else (none)) else (none))) else (none)) else (none))) else (none)) else (none)) = some r := H
  have A18 := Aside0.mk A180
  clear A180
  by_cases c19 : t203 = 0
  · rw [if_pos c19] at H
    have c19b0 : (t203 == 0) = true := beq_iff_eq.mpr c19
    have c19b1 : (t203 != 0) = false := bne_eq_false_iff_eq.mpr c19
    clear c19
    by_cases c20 : t162 = (-9223372036854775808)
    · rw [if_pos c20] at H
      have c20b0 : (t162 == (-9223372036854775808)) = true := beq_iff_eq.mpr c20
      have c20b1 : (t162 != (-9223372036854775808)) = false := bne_eq_false_iff_eq.mpr c20
      clear c20
      replace H := Option.bind_eq_some_iff.mp H
      obtain ⟨t204, A210, H⟩ := H
      replace H : (if t204 = 0 then (if t170 = (-4) then ((heirloomlaw01_no.f t179).bind fun t205 => (if t205 = 0 then (if t178 = 1 then ((heirloomlaw01_no.f t187).bind fun t206 => (if t206 = 11 then ((heirloomlaw01_no.f t191).bind fun t207 => (if t207 = 0 then ((num_Float.f 4609434218613702656).bind fun bt208 => (if (t189 == bt208.1 && (t190 == bt208.2)) = true then ((heirloomlaw01_no.f t195).bind fun t210 => (if t210 = 6 then (if t202 = true then (if t201 = 1 then ((num_Float.f 4607182418800017408).bind fun bt211 => ((num_Text.f bt211.1 bt211.2).bind fun t213 => (some (t213.toList == ([48, 102, 51, 102, 102, 48, 48, 48, 48, 48, 48, 48, 48, 48, 48, 48, 48, 48] : List UInt8))))) else (none)) else (none)) else (none))) else (none))) else (none))) else (none))) else (none)) else (none))) else (none)) else (none)) = some r := H
      have A21 := Aside0.mk A210
      clear A210
      by_cases c22 : t204 = 0
      · rw [if_pos c22] at H
        have c22b0 : (t204 == 0) = true := beq_iff_eq.mpr c22
        have c22b1 : (t204 != 0) = false := bne_eq_false_iff_eq.mpr c22
        clear c22
        by_cases c23 : t170 = (-4)
        · rw [if_pos c23] at H
          have c23b0 : (t170 == (-4)) = true := beq_iff_eq.mpr c23
          have c23b1 : (t170 != (-4)) = false := bne_eq_false_iff_eq.mpr c23
          clear c23
          replace H := Option.bind_eq_some_iff.mp H
          obtain ⟨t205, A240, H⟩ := H
          replace H : (if t205 = 0 then (if t178 = 1 then ((heirloomlaw01_no.f t187).bind fun t206 => (if t206 = 11 then ((heirloomlaw01_no.f t191).bind fun t207 => (if t207 = 0 then ((num_Float.f 4609434218613702656).bind fun bt208 => (if (t189 == bt208.1 && (t190 == bt208.2)) = true then ((heirloomlaw01_no.f t195).bind fun t210 => (if t210 = 6 then (if t202 = true then (if t201 = 1 then ((num_Float.f 4607182418800017408).bind fun bt211 => ((num_Text.f bt211.1 bt211.2).bind fun t213 => (some (t213.toList == ([48, 102, 51, 102, 102, 48, 48, 48, 48, 48, 48, 48, 48, 48, 48, 48, 48, 48] : List UInt8))))) else (none)) else (none)) else (none))) else (none))) else (none))) else (none))) else (none)) else (none)) = some r := H
          have A24 := Aside0.mk A240
          clear A240
          by_cases c25 : t205 = 0
          · rw [if_pos c25] at H
            have c25b0 : (t205 == 0) = true := beq_iff_eq.mpr c25
            have c25b1 : (t205 != 0) = false := bne_eq_false_iff_eq.mpr c25
            clear c25
            by_cases c26 : t178 = 1
            · rw [if_pos c26] at H
              have c26b0 : (t178 == 1) = true := beq_iff_eq.mpr c26
              have c26b1 : (t178 != 1) = false := bne_eq_false_iff_eq.mpr c26
              clear c26
              replace H := Option.bind_eq_some_iff.mp H
              obtain ⟨t206, A270, H⟩ := H
              replace H : (if t206 = 11 then ((heirloomlaw01_no.f t191).bind fun t207 => (if t207 = 0 then ((num_Float.f 4609434218613702656).bind fun bt208 => (if (t189 == bt208.1 && (t190 == bt208.2)) = true then ((heirloomlaw01_no.f t195).bind fun t210 => (if t210 = 6 then (if t202 = true then (if t201 = 1 then ((num_Float.f 4607182418800017408).bind fun bt211 => ((num_Text.f bt211.1 bt211.2).bind fun t213 => (some (t213.toList == ([48, 102, 51, 102, 102, 48, 48, 48, 48, 48, 48, 48, 48, 48, 48, 48, 48, 48] : List UInt8))))) else (none)) else (none)) else (none))) else (none))) else (none))) else (none)) = some r := H
              have A27 := Aside0.mk A270
              clear A270
              by_cases c28 : t206 = 11
              · rw [if_pos c28] at H
                have c28b0 : (t206 == 11) = true := beq_iff_eq.mpr c28
                have c28b1 : (t206 != 11) = false := bne_eq_false_iff_eq.mpr c28
                clear c28
                replace H := Option.bind_eq_some_iff.mp H
                obtain ⟨t207, A290, H⟩ := H
                replace H : (if t207 = 0 then ((num_Float.f 4609434218613702656).bind fun bt208 => (if (t189 == bt208.1 && (t190 == bt208.2)) = true then ((heirloomlaw01_no.f t195).bind fun t210 => (if t210 = 6 then (if t202 = true then (if t201 = 1 then ((num_Float.f 4607182418800017408).bind fun bt211 => ((num_Text.f bt211.1 bt211.2).bind fun t213 => (some (t213.toList == ([48, 102, 51, 102, 102, 48, 48, 48, 48, 48, 48, 48, 48, 48, 48, 48, 48, 48] : List UInt8))))) else (none)) else (none)) else (none))) else (none))) else (none)) = some r := H
                have A29 := Aside0.mk A290
                clear A290
                by_cases c30 : t207 = 0
                · rw [if_pos c30] at H
                  have c30b0 : (t207 == 0) = true := beq_iff_eq.mpr c30
                  have c30b1 : (t207 != 0) = false := bne_eq_false_iff_eq.mpr c30
                  clear c30
                  replace H := Option.bind_eq_some_iff.mp H
                  obtain ⟨⟨t208, t209⟩, A310, H⟩ := H
                  replace H : (if (t189 == t208 && (t190 == t209)) = true then ((heirloomlaw01_no.f t195).bind fun t210 => (if t210 = 6 then (if t202 = true then (if t201 = 1 then ((num_Float.f 4607182418800017408).bind fun bt211 => ((num_Text.f bt211.1 bt211.2).bind fun t213 => (some (t213.toList == ([48, 102, 51, 102, 102, 48, 48, 48, 48, 48, 48, 48, 48, 48, 48, 48, 48, 48] : List UInt8))))) else (none)) else (none)) else (none))) else (none)) = some r := H
                  have A31 := Aside0.mk A310
                  clear A310
                  by_cases c32 : (t189 == t208 && (t190 == t209)) = true
                  · rw [if_pos c32] at H
                    have c32b0 : (t189 == t208 && (t190 == t209)) = true := c32
                    (try (have c32b1 : decide (t189 = t208 && (t190 == t209)) = true := by simpa using c32))
                    (try (have c32b2 : (t189 == t208 && (t190 == t209)) = true := by simpa using c32))
                    clear c32
                    replace H := Option.bind_eq_some_iff.mp H
                    obtain ⟨t210, A330, H⟩ := H
                    replace H : (if t210 = 6 then (if t202 = true then (if t201 = 1 then ((num_Float.f 4607182418800017408).bind fun bt211 => ((num_Text.f bt211.1 bt211.2).bind fun t213 => (some (t213.toList == ([48, 102, 51, 102, 102, 48, 48, 48, 48, 48, 48, 48, 48, 48, 48, 48, 48, 48] : List UInt8))))) else (none)) else (none)) else (none)) = some r := H
                    have A33 := Aside0.mk A330
                    clear A330
                    by_cases c34 : t210 = 6
                    · rw [if_pos c34] at H
                      have c34b0 : (t210 == 6) = true := beq_iff_eq.mpr c34
                      have c34b1 : (t210 != 6) = false := bne_eq_false_iff_eq.mpr c34
                      clear c34
                      by_cases c35 : t202 = true
                      · subst c35
                        have H1 : (if t201 = 1 then ((num_Float.f 4607182418800017408).bind fun bt211 => ((num_Text.f bt211.1 bt211.2).bind fun t213 => (some (t213.toList == ([48, 102, 51, 102, 102, 48, 48, 48, 48, 48, 48, 48, 48, 48, 48, 48, 48, 48] : List UInt8))))) else (none)) = some r := by rw [if_pos rfl] at H; exact H
                        clear H
                        have H := H1
                        clear H1
                        by_cases c36 : t201 = 1
                        · rw [if_pos c36] at H
                          have c36b0 : (t201 == 1) = true := beq_iff_eq.mpr c36
                          have c36b1 : (t201 != 1) = false := bne_eq_false_iff_eq.mpr c36
                          clear c36
                          replace H := Option.bind_eq_some_iff.mp H
                          obtain ⟨⟨t211, t212⟩, A370, H⟩ := H
                          replace H : ((num_Text.f t211 t212).bind fun t213 => (some (t213.toList == ([48, 102, 51, 102, 102, 48, 48, 48, 48, 48, 48, 48, 48, 48, 48, 48, 48, 48] : List UInt8)))) = some r := H
                          have A37 := Aside0.mk A370
                          clear A370
                          replace H := Option.bind_eq_some_iff.mp H
                          obtain ⟨t213, A380, H⟩ := H
                          replace H : (some (t213.toList == ([48, 102, 51, 102, 102, 48, 48, 48, 48, 48, 48, 48, 48, 48, 48, 48, 48, 48] : List UInt8))) = some r := H
                          have A38 := Aside0.mk A380
                          clear A380
                          obtain rfl := Option.some.inj H
                          go_enter Try.func25, Try.ntmps25
                          try go_wp2_with (first | ((with_reducible refine gate_callee (f := 16) rfl ?_); refine goesL_ (some 16) rfl rfl Try.func16 (by kernel_rfl) rfl #[.int .i64 9223372036854775807] rfl (by simp only [m1, m2, m3]; rfl) ?_; (with_reducible refine (num_Int.calls 9223372036854775807 t157 t158 _ A1.out).mono ?_); rintro e w39 ⟨rfl, hb⟩; refine ⟨_, rfl, ?_⟩; replace HB := Aside0.mk (below_step (by repeat first | exact HB.out | apply zb | apply zn | apply zd) hb); (try clear hb)) | ((with_reducible refine gate_callee (f := 16) rfl ?_); refine goesL_ (some 17) rfl rfl Try.func16 (by kernel_rfl) rfl #[.int .i64 1] rfl (by simp only [m1, m2, m3]; rfl) ?_; (with_reducible refine (num_Int.calls 1 t159 t160 _ A2.out).mono ?_); rintro e w40 ⟨rfl, hb⟩; refine ⟨_, rfl, ?_⟩; replace HB := Aside0.mk (below_step (by repeat first | exact HB.out | apply zb | apply zn | apply zd) hb); (try clear hb)) | ((with_reducible refine gate_callee (f := 26) rfl ?_); refine goesL_ (some 18) rfl rfl Try.func26 (by kernel_rfl) rfl #[.int .i64 1, .agg #[.int .i64 t157, .int .i64 t158], .agg #[.int .i64 t159, .int .i64 t160]] rfl (by simp only [m1, m2, m3]; rfl) ?_; (with_reducible refine (num_Op.calls 1 t157 t158 t159 t160 t161 t162 t163 _ A3.out).mono ?_); rintro e w41 ⟨rfl, hb⟩; refine ⟨_, rfl, ?_⟩; replace HB := Aside0.mk (below_step (by repeat first | exact HB.out | apply zb | apply zn | apply zd) hb); (try clear hb)) | ((with_reducible refine gate_dst (N := 1) rfl ?_); refine box_event ?hg (N := 1) ?hd (cs := #[.int .i64 0, .int .i64 0]) (t := 23) ?hr ?_; (case hd => rfl); (case hg => rfl); (case hr => go_simp <;> rfl); intro gb164 hg w42 hbox hb; have n0_ := Aside0.mk (below_step (by repeat first | exact HB.out | apply zb | apply zn | apply zd) hb); have n1_ := Aside0.mk (hbox); have n2_ := Aside0.mk ((by rw [hg]; exact (below_size (by repeat first | exact HB.out | apply zb | apply zn | apply zd)) : w.heap.size ≤ gb164)); have n3_ := n2_; clear HB; have HB := n0_; have BK164 := n1_; have GW164 := n2_; have GE164 := n3_; clear n0_ n1_ n2_ n3_; clear hb hbox hg; have hcz43_0 : w42.cell? ⟨gb164, 0, none⟩ = some (.int .i64 0) := (blk_cell BK164.out 0).trans rfl; have hcz43_1 : w42.cell? ⟨gb164, 1, none⟩ = some (.int .i64 0) := (blk_cell BK164.out 1).trans rfl; have hfz43_0 := blk_frozen BK164.out 0; have hfz43_1 := blk_frozen BK164.out 1) | ((with_reducible refine gate_callee (f := 16) rfl ?_); refine goesL_ (some 22) rfl rfl Try.func16 (by kernel_rfl) rfl #[.int .i64 (-7)] rfl (by simp only [m1, m2, m3]; rfl) ?_; (with_reducible refine (num_Int.calls (-7) t165 t166 _ A4.out).mono ?_); rintro e w44 ⟨rfl, hb⟩; refine ⟨_, rfl, ?_⟩; have n0_ := Aside0.mk (blk_below (g := gb164) (o := .cells #[.int .i64 t161, .int .i64 t162] 23 (0, 0)) (by (with_reducible repeat first | refine kn ?_ _ | refine kd ?_ | refine ka ?_ _); refine blk_put (cs := #[.int .i64 t161, .int .i64 0]) ?_ 1 _ rfl; (with_reducible repeat first | refine kn ?_ _ | refine kd ?_ | refine ka ?_ _); refine blk_put (cs := #[.int .i64 0, .int .i64 0]) ?_ 0 _ rfl; (with_reducible repeat first | refine kn ?_ _ | refine kd ?_ | refine ka ?_ _); exact BK164.out) hb); have n1_ := Aside0.mk (below_step (by repeat first | exact HB.out | apply zb | apply zn | apply zd | refine zs ?_ GE164.out) hb); clear BK164; clear HB; have BK164 := n0_; have HB := n1_; clear n0_ n1_; (try clear hb)) | ((with_reducible refine gate_callee (f := 16) rfl ?_); refine goesL_ (some 23) rfl rfl Try.func16 (by kernel_rfl) rfl #[.int .i64 2] rfl (by simp only [m1, m2, m3]; rfl) ?_; (with_reducible refine (num_Int.calls 2 t167 t168 _ A5.out).mono ?_); rintro e w45 ⟨rfl, hb⟩; refine ⟨_, rfl, ?_⟩; have n0_ := Aside0.mk (blk_below (g := gb164) (o := .cells #[.int .i64 t161, .int .i64 t162] 23 (0, 0)) (by (with_reducible repeat first | refine kn ?_ _ | refine kd ?_ | refine ka ?_ _); exact BK164.out) hb); have n1_ := Aside0.mk (below_step (by repeat first | exact HB.out | apply zb | apply zn | apply zd | refine zs ?_ GE164.out) hb); clear BK164; clear HB; have BK164 := n0_; have HB := n1_; clear n0_ n1_; (try clear hb)) | ((with_reducible refine gate_callee (f := 26) rfl ?_); refine goesL_ (some 24) rfl rfl Try.func26 (by kernel_rfl) rfl #[.int .i64 5, .agg #[.int .i64 t165, .int .i64 t166], .agg #[.int .i64 t167, .int .i64 t168]] rfl (by simp only [m1, m2, m3]; rfl) ?_; (with_reducible refine (num_Op.calls 5 t165 t166 t167 t168 t169 t170 t171 _ A6.out).mono ?_); rintro e w46 ⟨rfl, hb⟩; refine ⟨_, rfl, ?_⟩; have n0_ := Aside0.mk (blk_below (g := gb164) (o := .cells #[.int .i64 t161, .int .i64 t162] 23 (0, 0)) (by (with_reducible repeat first | refine kn ?_ _ | refine kd ?_ | refine ka ?_ _); exact BK164.out) hb); have n1_ := Aside0.mk (below_step (by repeat first | exact HB.out | apply zb | apply zn | apply zd | refine zs ?_ GE164.out) hb); clear BK164; clear HB; have BK164 := n0_; have HB := n1_; clear n0_ n1_; (try clear hb)) | ((with_reducible refine gate_dst (N := 3) rfl ?_); refine box_event ?hg (N := 3) ?hd (cs := #[.int .i64 0, .int .i64 0]) (t := 23) ?hr ?_; (case hd => rfl); (case hg => rfl); (case hr => go_simp <;> rfl); intro gb172 hg w47 hbox hb; have n0_ := Aside0.mk (blk_below (g := gb164) (o := .cells #[.int .i64 t161, .int .i64 t162] 23 (0, 0)) (by (with_reducible repeat first | refine kn ?_ _ | refine kd ?_ | refine ka ?_ _); exact BK164.out) hb); have n1_ := Aside0.mk (below_step (by repeat first | exact HB.out | apply zb | apply zn | apply zd | refine zs ?_ GE164.out) hb); have n2_ := Aside0.mk (hbox); have n3_ := Aside0.mk ((by rw [hg]; exact (below_size (by repeat first | exact HB.out | apply zb | apply zn | apply zd | refine zs ?_ GE164.out)) : w.heap.size ≤ gb172)); have n4_ := Aside0.mk ((by rw [hg]; exact (below_size (by repeat first | exact HB.out | apply zb | apply zn | apply zd | refine zs ?_ GE164.out)) : w.heap.size ≤ gb172)); have n5_ := Aside0.mk ((by rw [hg]; exact Nat.ne_of_lt (blk_lt (g := gb164) (o := .cells #[.int .i64 t161, .int .i64 t162] 23 (0, 0)) (by (with_reducible repeat first | refine kn ?_ _ | refine kd ?_ | refine ka ?_ _); exact BK164.out)) : gb164 ≠ gb172)); have n6_ := Aside0.mk ((by rw [hg]; exact Nat.ne_of_gt (blk_lt (g := gb164) (o := .cells #[.int .i64 t161, .int .i64 t162] 23 (0, 0)) (by (with_reducible repeat first | refine kn ?_ _ | refine kd ?_ | refine ka ?_ _); exact BK164.out)) : gb172 ≠ gb164)); clear BK164; clear HB; have BK164 := n0_; have HB := n1_; have BK172 := n2_; have GW172 := n3_; have GE172 := n4_; have NB164_172 := n5_; have NB172_164 := n6_; clear n0_ n1_ n2_ n3_ n4_ n5_ n6_; clear hb hbox hg; have hnb48 := NB172_164.out; have hnc48 := NB164_172.out; have hcz49_0 : w47.cell? ⟨gb172, 0, none⟩ = some (.int .i64 0) := (blk_cell BK172.out 0).trans rfl; have hcz49_1 : w47.cell? ⟨gb172, 1, none⟩ = some (.int .i64 0) := (blk_cell BK172.out 1).trans rfl; have hfz49_0 := blk_frozen BK172.out 0; have hfz49_1 := blk_frozen BK172.out 1) | ((with_reducible refine gate_callee (f := 16) rfl ?_); refine goesL_ (some 28) rfl rfl Try.func16 (by kernel_rfl) rfl #[.int .i64 (-7)] rfl (by simp only [m1, m2, m3]; rfl) ?_; (with_reducible refine (num_Int.calls (-7) t173 t174 _ A7.out).mono ?_); rintro e w50 ⟨rfl, hb⟩; refine ⟨_, rfl, ?_⟩; have n0_ := Aside0.mk (blk_below (g := gb164) (o := .cells #[.int .i64 t161, .int .i64 t162] 23 (0, 0)) (by (with_reducible repeat first | refine kn ?_ _ | refine kd ?_ | refine ka ?_ _); refine blk_far ?_ NB164_172.out _; (with_reducible repeat first | refine kn ?_ _ | refine kd ?_ | refine ka ?_ _); refine blk_far ?_ NB164_172.out _; (with_reducible repeat first | refine kn ?_ _ | refine kd ?_ | refine ka ?_ _); exact BK164.out) hb); have n1_ := Aside0.mk (blk_below (g := gb172) (o := .cells #[.int .i64 t169, .int .i64 t170] 23 (0, 0)) (by (with_reducible repeat first | refine kn ?_ _ | refine kd ?_ | refine ka ?_ _); refine blk_put (cs := #[.int .i64 t169, .int .i64 0]) ?_ 1 _ rfl; (with_reducible repeat first | refine kn ?_ _ | refine kd ?_ | refine ka ?_ _); refine blk_put (cs := #[.int .i64 0, .int .i64 0]) ?_ 0 _ rfl; (with_reducible repeat first | refine kn ?_ _ | refine kd ?_ | refine ka ?_ _); exact BK172.out) hb); have n2_ := Aside0.mk (below_step (by repeat first | exact HB.out | apply zb | apply zn | apply zd | refine zs ?_ GE164.out | refine zs ?_ GE172.out) hb); clear BK164; clear BK172; clear HB; have BK164 := n0_; have BK172 := n1_; have HB := n2_; clear n0_ n1_ n2_; (try clear hb)) | ((with_reducible refine gate_callee (f := 16) rfl ?_); refine goesL_ (some 29) rfl rfl Try.func16 (by kernel_rfl) rfl #[.int .i64 2] rfl (by simp only [m1, m2, m3]; rfl) ?_; (with_reducible refine (num_Int.calls 2 t175 t176 _ A8.out).mono ?_); rintro e w51 ⟨rfl, hb⟩; refine ⟨_, rfl, ?_⟩; have n0_ := Aside0.mk (blk_below (g := gb164) (o := .cells #[.int .i64 t161, .int .i64 t162] 23 (0, 0)) (by (with_reducible repeat first | refine kn ?_ _ | refine kd ?_ | refine ka ?_ _); exact BK164.out) hb); have n1_ := Aside0.mk (blk_below (g := gb172) (o := .cells #[.int .i64 t169, .int .i64 t170] 23 (0, 0)) (by (with_reducible repeat first | refine kn ?_ _ | refine kd ?_ | refine ka ?_ _); exact BK172.out) hb); have n2_ := Aside0.mk (below_step (by repeat first | exact HB.out | apply zb | apply zn | apply zd | refine zs ?_ GE164.out | refine zs ?_ GE172.out) hb); clear BK164; clear BK172; clear HB; have BK164 := n0_; have BK172 := n1_; have HB := n2_; clear n0_ n1_ n2_; (try clear hb)) | ((with_reducible refine gate_callee (f := 26) rfl ?_); refine goesL_ (some 30) rfl rfl Try.func26 (by kernel_rfl) rfl #[.int .i64 6, .agg #[.int .i64 t173, .int .i64 t174], .agg #[.int .i64 t175, .int .i64 t176]] rfl (by simp only [m1, m2, m3]; rfl) ?_; (with_reducible refine (num_Op.calls 6 t173 t174 t175 t176 t177 t178 t179 _ A9.out).mono ?_); rintro e w52 ⟨rfl, hb⟩; refine ⟨_, rfl, ?_⟩; have n0_ := Aside0.mk (blk_below (g := gb164) (o := .cells #[.int .i64 t161, .int .i64 t162] 23 (0, 0)) (by (with_reducible repeat first | refine kn ?_ _ | refine kd ?_ | refine ka ?_ _); exact BK164.out) hb); have n1_ := Aside0.mk (blk_below (g := gb172) (o := .cells #[.int .i64 t169, .int .i64 t170] 23 (0, 0)) (by (with_reducible repeat first | refine kn ?_ _ | refine kd ?_ | refine ka ?_ _); exact BK172.out) hb); have n2_ := Aside0.mk (below_step (by repeat first | exact HB.out | apply zb | apply zn | apply zd | refine zs ?_ GE164.out | refine zs ?_ GE172.out) hb); clear BK164; clear BK172; clear HB; have BK164 := n0_; have BK172 := n1_; have HB := n2_; clear n0_ n1_ n2_; (try clear hb)) | ((with_reducible refine gate_dst (N := 5) rfl ?_); refine box_event ?hg (N := 5) ?hd (cs := #[.int .i64 0, .int .i64 0]) (t := 23) ?hr ?_; (case hd => rfl); (case hg => rfl); (case hr => go_simp <;> rfl); intro gb180 hg w53 hbox hb; have n0_ := Aside0.mk (blk_below (g := gb164) (o := .cells #[.int .i64 t161, .int .i64 t162] 23 (0, 0)) (by (with_reducible repeat first | refine kn ?_ _ | refine kd ?_ | refine ka ?_ _); exact BK164.out) hb); have n1_ := Aside0.mk (blk_below (g := gb172) (o := .cells #[.int .i64 t169, .int .i64 t170] 23 (0, 0)) (by (with_reducible repeat first | refine kn ?_ _ | refine kd ?_ | refine ka ?_ _); exact BK172.out) hb); have n2_ := Aside0.mk (below_step (by repeat first | exact HB.out | apply zb | apply zn | apply zd | refine zs ?_ GE164.out | refine zs ?_ GE172.out) hb); have n3_ := Aside0.mk (hbox); have n4_ := Aside0.mk ((by rw [hg]; exact (below_size (by repeat first | exact HB.out | apply zb | apply zn | apply zd | refine zs ?_ GE164.out | refine zs ?_ GE172.out)) : w.heap.size ≤ gb180)); have n5_ := Aside0.mk ((by rw [hg]; exact (below_size (by repeat first | exact HB.out | apply zb | apply zn | apply zd | refine zs ?_ GE164.out | refine zs ?_ GE172.out)) : w.heap.size ≤ gb180)); have n6_ := Aside0.mk ((by rw [hg]; exact Nat.ne_of_lt (blk_lt (g := gb164) (o := .cells #[.int .i64 t161, .int .i64 t162] 23 (0, 0)) (by (with_reducible repeat first | refine kn ?_ _ | refine kd ?_ | refine ka ?_ _); exact BK164.out)) : gb164 ≠ gb180)); have n7_ := Aside0.mk ((by rw [hg]; exact Nat.ne_of_gt (blk_lt (g := gb164) (o := .cells #[.int .i64 t161, .int .i64 t162] 23 (0, 0)) (by (with_reducible repeat first | refine kn ?_ _ | refine kd ?_ | refine ka ?_ _); exact BK164.out)) : gb180 ≠ gb164)); have n8_ := Aside0.mk ((by rw [hg]; exact Nat.ne_of_lt (blk_lt (g := gb172) (o := .cells #[.int .i64 t169, .int .i64 t170] 23 (0, 0)) (by (with_reducible repeat first | refine kn ?_ _ | refine kd ?_ | refine ka ?_ _); exact BK172.out)) : gb172 ≠ gb180)); have n9_ := Aside0.mk ((by rw [hg]; exact Nat.ne_of_gt (blk_lt (g := gb172) (o := .cells #[.int .i64 t169, .int .i64 t170] 23 (0, 0)) (by (with_reducible repeat first | refine kn ?_ _ | refine kd ?_ | refine ka ?_ _); exact BK172.out)) : gb180 ≠ gb172)); clear BK164; clear BK172; clear HB; have BK164 := n0_; have BK172 := n1_; have HB := n2_; have BK180 := n3_; have GW180 := n4_; have GE180 := n5_; have NB164_180 := n6_; have NB180_164 := n7_; have NB172_180 := n8_; have NB180_172 := n9_; clear n0_ n1_ n2_ n3_ n4_ n5_ n6_ n7_ n8_ n9_; clear hb hbox hg; have hnb54 := NB180_164.out; have hnc54 := NB164_180.out; have hnb55 := NB180_172.out; have hnc55 := NB172_180.out; have hcz56_0 : w53.cell? ⟨gb180, 0, none⟩ = some (.int .i64 0) := (blk_cell BK180.out 0).trans rfl; have hcz56_1 : w53.cell? ⟨gb180, 1, none⟩ = some (.int .i64 0) := (blk_cell BK180.out 1).trans rfl; have hfz56_0 := blk_frozen BK180.out 0; have hfz56_1 := blk_frozen BK180.out 1) | ((with_reducible refine gate_callee (f := 16) rfl ?_); refine goesL_ (some 34) rfl rfl Try.func16 (by kernel_rfl) rfl #[.int .i64 7] rfl (by simp only [m1, m2, m3]; rfl) ?_; (with_reducible refine (num_Int.calls 7 t181 t182 _ A10.out).mono ?_); rintro e w57 ⟨rfl, hb⟩; refine ⟨_, rfl, ?_⟩; have n0_ := Aside0.mk (blk_below (g := gb164) (o := .cells #[.int .i64 t161, .int .i64 t162] 23 (0, 0)) (by (with_reducible repeat first | refine kn ?_ _ | refine kd ?_ | refine ka ?_ _); refine blk_far ?_ NB164_180.out _; (with_reducible repeat first | refine kn ?_ _ | refine kd ?_ | refine ka ?_ _); refine blk_far ?_ NB164_180.out _; (with_reducible repeat first | refine kn ?_ _ | refine kd ?_ | refine ka ?_ _); exact BK164.out) hb); have n1_ := Aside0.mk (blk_below (g := gb172) (o := .cells #[.int .i64 t169, .int .i64 t170] 23 (0, 0)) (by (with_reducible repeat first | refine kn ?_ _ | refine kd ?_ | refine ka ?_ _); refine blk_far ?_ NB172_180.out _; (with_reducible repeat first | refine kn ?_ _ | refine kd ?_ | refine ka ?_ _); refine blk_far ?_ NB172_180.out _; (with_reducible repeat first | refine kn ?_ _ | refine kd ?_ | refine ka ?_ _); exact BK172.out) hb); have n2_ := Aside0.mk (blk_below (g := gb180) (o := .cells #[.int .i64 t177, .int .i64 t178] 23 (0, 0)) (by (with_reducible repeat first | refine kn ?_ _ | refine kd ?_ | refine ka ?_ _); refine blk_put (cs := #[.int .i64 t177, .int .i64 0]) ?_ 1 _ rfl; (with_reducible repeat first | refine kn ?_ _ | refine kd ?_ | refine ka ?_ _); refine blk_put (cs := #[.int .i64 0, .int .i64 0]) ?_ 0 _ rfl; (with_reducible repeat first | refine kn ?_ _ | refine kd ?_ | refine ka ?_ _); exact BK180.out) hb); have n3_ := Aside0.mk (below_step (by repeat first | exact HB.out | apply zb | apply zn | apply zd | refine zs ?_ GE164.out | refine zs ?_ GE172.out | refine zs ?_ GE180.out) hb); clear BK164; clear BK172; clear BK180; clear HB; have BK164 := n0_; have BK172 := n1_; have BK180 := n2_; have HB := n3_; clear n0_ n1_ n2_ n3_; (try clear hb)) | ((with_reducible refine gate_callee (f := 16) rfl ?_); refine goesL_ (some 35) rfl rfl Try.func16 (by kernel_rfl) rfl #[.int .i64 0] rfl (by simp only [m1, m2, m3]; rfl) ?_; (with_reducible refine (num_Int.calls 0 t183 t184 _ A11.out).mono ?_); rintro e w58 ⟨rfl, hb⟩; refine ⟨_, rfl, ?_⟩; have n0_ := Aside0.mk (blk_below (g := gb164) (o := .cells #[.int .i64 t161, .int .i64 t162] 23 (0, 0)) (by (with_reducible repeat first | refine kn ?_ _ | refine kd ?_ | refine ka ?_ _); exact BK164.out) hb); have n1_ := Aside0.mk (blk_below (g := gb172) (o := .cells #[.int .i64 t169, .int .i64 t170] 23 (0, 0)) (by (with_reducible repeat first | refine kn ?_ _ | refine kd ?_ | refine ka ?_ _); exact BK172.out) hb); have n2_ := Aside0.mk (blk_below (g := gb180) (o := .cells #[.int .i64 t177, .int .i64 t178] 23 (0, 0)) (by (with_reducible repeat first | refine kn ?_ _ | refine kd ?_ | refine ka ?_ _); exact BK180.out) hb); have n3_ := Aside0.mk (below_step (by repeat first | exact HB.out | apply zb | apply zn | apply zd | refine zs ?_ GE164.out | refine zs ?_ GE172.out | refine zs ?_ GE180.out) hb); clear BK164; clear BK172; clear BK180; clear HB; have BK164 := n0_; have BK172 := n1_; have BK180 := n2_; have HB := n3_; clear n0_ n1_ n2_ n3_; (try clear hb)) | ((with_reducible refine gate_callee (f := 26) rfl ?_); refine goesL_ (some 36) rfl rfl Try.func26 (by kernel_rfl) rfl #[.int .i64 6, .agg #[.int .i64 t181, .int .i64 t182], .agg #[.int .i64 t183, .int .i64 t184]] rfl (by simp only [m1, m2, m3]; rfl) ?_; (with_reducible refine (num_Op.calls 6 t181 t182 t183 t184 t185 t186 t187 _ A12.out).mono ?_); rintro e w59 ⟨rfl, hb⟩; refine ⟨_, rfl, ?_⟩; have n0_ := Aside0.mk (blk_below (g := gb164) (o := .cells #[.int .i64 t161, .int .i64 t162] 23 (0, 0)) (by (with_reducible repeat first | refine kn ?_ _ | refine kd ?_ | refine ka ?_ _); exact BK164.out) hb); have n1_ := Aside0.mk (blk_below (g := gb172) (o := .cells #[.int .i64 t169, .int .i64 t170] 23 (0, 0)) (by (with_reducible repeat first | refine kn ?_ _ | refine kd ?_ | refine ka ?_ _); exact BK172.out) hb); have n2_ := Aside0.mk (blk_below (g := gb180) (o := .cells #[.int .i64 t177, .int .i64 t178] 23 (0, 0)) (by (with_reducible repeat first | refine kn ?_ _ | refine kd ?_ | refine ka ?_ _); exact BK180.out) hb); have n3_ := Aside0.mk (below_step (by repeat first | exact HB.out | apply zb | apply zn | apply zd | refine zs ?_ GE164.out | refine zs ?_ GE172.out | refine zs ?_ GE180.out) hb); clear BK164; clear BK172; clear BK180; clear HB; have BK164 := n0_; have BK172 := n1_; have BK180 := n2_; have HB := n3_; clear n0_ n1_ n2_ n3_; (try clear hb)) | ((with_reducible refine gate_dst (N := 7) rfl ?_); refine box_event ?hg (N := 7) ?hd (cs := #[.int .i64 0, .int .i64 0]) (t := 23) ?hr ?_; (case hd => rfl); (case hg => rfl); (case hr => go_simp <;> rfl); intro gb188 hg w60 hbox hb; have n0_ := Aside0.mk (blk_below (g := gb164) (o := .cells #[.int .i64 t161, .int .i64 t162] 23 (0, 0)) (by (with_reducible repeat first | refine kn ?_ _ | refine kd ?_ | refine ka ?_ _); exact BK164.out) hb); have n1_ := Aside0.mk (blk_below (g := gb172) (o := .cells #[.int .i64 t169, .int .i64 t170] 23 (0, 0)) (by (with_reducible repeat first | refine kn ?_ _ | refine kd ?_ | refine ka ?_ _); exact BK172.out) hb); have n2_ := Aside0.mk (blk_below (g := gb180) (o := .cells #[.int .i64 t177, .int .i64 t178] 23 (0, 0)) (by (with_reducible repeat first | refine kn ?_ _ | refine kd ?_ | refine ka ?_ _); exact BK180.out) hb); have n3_ := Aside0.mk (below_step (by repeat first | exact HB.out | apply zb | apply zn | apply zd | refine zs ?_ GE164.out | refine zs ?_ GE172.out | refine zs ?_ GE180.out) hb); have n4_ := Aside0.mk (hbox); have n5_ := Aside0.mk ((by rw [hg]; exact (below_size (by repeat first | exact HB.out | apply zb | apply zn | apply zd | refine zs ?_ GE164.out | refine zs ?_ GE172.out | refine zs ?_ GE180.out)) : w.heap.size ≤ gb188)); have n6_ := Aside0.mk ((by rw [hg]; exact (below_size (by repeat first | exact HB.out | apply zb | apply zn | apply zd | refine zs ?_ GE164.out | refine zs ?_ GE172.out | refine zs ?_ GE180.out)) : w.heap.size ≤ gb188)); have n7_ := Aside0.mk ((by rw [hg]; exact Nat.ne_of_lt (blk_lt (g := gb164) (o := .cells #[.int .i64 t161, .int .i64 t162] 23 (0, 0)) (by (with_reducible repeat first | refine kn ?_ _ | refine kd ?_ | refine ka ?_ _); exact BK164.out)) : gb164 ≠ gb188)); have n8_ := Aside0.mk ((by rw [hg]; exact Nat.ne_of_gt (blk_lt (g := gb164) (o := .cells #[.int .i64 t161, .int .i64 t162] 23 (0, 0)) (by (with_reducible repeat first | refine kn ?_ _ | refine kd ?_ | refine ka ?_ _); exact BK164.out)) : gb188 ≠ gb164)); have n9_ := Aside0.mk ((by rw [hg]; exact Nat.ne_of_lt (blk_lt (g := gb172) (o := .cells #[.int .i64 t169, .int .i64 t170] 23 (0, 0)) (by (with_reducible repeat first | refine kn ?_ _ | refine kd ?_ | refine ka ?_ _); exact BK172.out)) : gb172 ≠ gb188)); have n10_ := Aside0.mk ((by rw [hg]; exact Nat.ne_of_gt (blk_lt (g := gb172) (o := .cells #[.int .i64 t169, .int .i64 t170] 23 (0, 0)) (by (with_reducible repeat first | refine kn ?_ _ | refine kd ?_ | refine ka ?_ _); exact BK172.out)) : gb188 ≠ gb172)); have n11_ := Aside0.mk ((by rw [hg]; exact Nat.ne_of_lt (blk_lt (g := gb180) (o := .cells #[.int .i64 t177, .int .i64 t178] 23 (0, 0)) (by (with_reducible repeat first | refine kn ?_ _ | refine kd ?_ | refine ka ?_ _); exact BK180.out)) : gb180 ≠ gb188)); have n12_ := Aside0.mk ((by rw [hg]; exact Nat.ne_of_gt (blk_lt (g := gb180) (o := .cells #[.int .i64 t177, .int .i64 t178] 23 (0, 0)) (by (with_reducible repeat first | refine kn ?_ _ | refine kd ?_ | refine ka ?_ _); exact BK180.out)) : gb188 ≠ gb180)); clear BK164; clear BK172; clear BK180; clear HB; have BK164 := n0_; have BK172 := n1_; have BK180 := n2_; have HB := n3_; have BK188 := n4_; have GW188 := n5_; have GE188 := n6_; have NB164_188 := n7_; have NB188_164 := n8_; have NB172_188 := n9_; have NB188_172 := n10_; have NB180_188 := n11_; have NB188_180 := n12_; clear n0_ n1_ n2_ n3_ n4_ n5_ n6_ n7_ n8_ n9_ n10_ n11_ n12_; clear hb hbox hg; have hnb61 := NB188_164.out; have hnc61 := NB164_188.out; have hnb62 := NB188_172.out; have hnc62 := NB172_188.out; have hnb63 := NB188_180.out; have hnc63 := NB180_188.out; have hcz64_0 : w60.cell? ⟨gb188, 0, none⟩ = some (.int .i64 0) := (blk_cell BK188.out 0).trans rfl; have hcz64_1 : w60.cell? ⟨gb188, 1, none⟩ = some (.int .i64 0) := (blk_cell BK188.out 1).trans rfl; have hfz64_0 := blk_frozen BK188.out 0; have hfz64_1 := blk_frozen BK188.out 1) | ((with_reducible refine gate_callee (f := 30) rfl ?_); refine goesL_ (some 40) rfl rfl Try.func30 (by kernel_rfl) rfl #[.string (⟨#[49, 46, 53]⟩ : ByteArray)] rfl (by (try simp only [List.map_toArray, List.map_cons, List.map_nil]); first | done | rfl | (simp only [List.length_drop, List.length_take]; rfl)) ?_; (with_reducible refine (num_Read.calls k (⟨#[49, 46, 53]⟩ : ByteArray) t189 t190 t191 _ A13.out).mono ?_); rintro e w65 ⟨rfl, hb⟩; refine ⟨_, rfl, ?_⟩; have n0_ := Aside0.mk (blk_below (g := gb164) (o := .cells #[.int .i64 t161, .int .i64 t162] 23 (0, 0)) (by (with_reducible repeat first | refine kn ?_ _ | refine kd ?_ | refine ka ?_ _); refine blk_far ?_ NB164_188.out _; (with_reducible repeat first | refine kn ?_ _ | refine kd ?_ | refine ka ?_ _); refine blk_far ?_ NB164_188.out _; (with_reducible repeat first | refine kn ?_ _ | refine kd ?_ | refine ka ?_ _); exact BK164.out) hb); have n1_ := Aside0.mk (blk_below (g := gb172) (o := .cells #[.int .i64 t169, .int .i64 t170] 23 (0, 0)) (by (with_reducible repeat first | refine kn ?_ _ | refine kd ?_ | refine ka ?_ _); refine blk_far ?_ NB172_188.out _; (with_reducible repeat first | refine kn ?_ _ | refine kd ?_ | refine ka ?_ _); refine blk_far ?_ NB172_188.out _; (with_reducible repeat first | refine kn ?_ _ | refine kd ?_ | refine ka ?_ _); exact BK172.out) hb); have n2_ := Aside0.mk (blk_below (g := gb180) (o := .cells #[.int .i64 t177, .int .i64 t178] 23 (0, 0)) (by (with_reducible repeat first | refine kn ?_ _ | refine kd ?_ | refine ka ?_ _); refine blk_far ?_ NB180_188.out _; (with_reducible repeat first | refine kn ?_ _ | refine kd ?_ | refine ka ?_ _); refine blk_far ?_ NB180_188.out _; (with_reducible repeat first | refine kn ?_ _ | refine kd ?_ | refine ka ?_ _); exact BK180.out) hb); have n3_ := Aside0.mk (blk_below (g := gb188) (o := .cells #[.int .i64 t185, .int .i64 t186] 23 (0, 0)) (by (with_reducible repeat first | refine kn ?_ _ | refine kd ?_ | refine ka ?_ _); refine blk_put (cs := #[.int .i64 t185, .int .i64 0]) ?_ 1 _ rfl; (with_reducible repeat first | refine kn ?_ _ | refine kd ?_ | refine ka ?_ _); refine blk_put (cs := #[.int .i64 0, .int .i64 0]) ?_ 0 _ rfl; (with_reducible repeat first | refine kn ?_ _ | refine kd ?_ | refine ka ?_ _); exact BK188.out) hb); have n4_ := Aside0.mk (below_step (by repeat first | exact HB.out | apply zb | apply zn | apply zd | refine zs ?_ GE164.out | refine zs ?_ GE172.out | refine zs ?_ GE180.out | refine zs ?_ GE188.out) hb); clear BK164; clear BK172; clear BK180; clear BK188; clear HB; have BK164 := n0_; have BK172 := n1_; have BK180 := n2_; have BK188 := n3_; have HB := n4_; clear n0_ n1_ n2_ n3_ n4_; (try clear hb)) | ((with_reducible refine gate_dst (N := 9) rfl ?_); refine box_event ?hg (N := 9) ?hd (cs := #[.int .i64 0, .int .i64 0]) (t := 23) ?hr ?_; (case hd => rfl); (case hg => rfl); (case hr => go_simp <;> rfl); intro gb192 hg w66 hbox hb; have n0_ := Aside0.mk (blk_below (g := gb164) (o := .cells #[.int .i64 t161, .int .i64 t162] 23 (0, 0)) (by (with_reducible repeat first | refine kn ?_ _ | refine kd ?_ | refine ka ?_ _); exact BK164.out) hb); have n1_ := Aside0.mk (blk_below (g := gb172) (o := .cells #[.int .i64 t169, .int .i64 t170] 23 (0, 0)) (by (with_reducible repeat first | refine kn ?_ _ | refine kd ?_ | refine ka ?_ _); exact BK172.out) hb); have n2_ := Aside0.mk (blk_below (g := gb180) (o := .cells #[.int .i64 t177, .int .i64 t178] 23 (0, 0)) (by (with_reducible repeat first | refine kn ?_ _ | refine kd ?_ | refine ka ?_ _); exact BK180.out) hb); have n3_ := Aside0.mk (blk_below (g := gb188) (o := .cells #[.int .i64 t185, .int .i64 t186] 23 (0, 0)) (by (with_reducible repeat first | refine kn ?_ _ | refine kd ?_ | refine ka ?_ _); exact BK188.out) hb); have n4_ := Aside0.mk (below_step (by repeat first | exact HB.out | apply zb | apply zn | apply zd | refine zs ?_ GE164.out | refine zs ?_ GE172.out | refine zs ?_ GE180.out | refine zs ?_ GE188.out) hb); have n5_ := Aside0.mk (hbox); have n6_ := Aside0.mk ((by rw [hg]; exact (below_size (by repeat first | exact HB.out | apply zb | apply zn | apply zd | refine zs ?_ GE164.out | refine zs ?_ GE172.out | refine zs ?_ GE180.out | refine zs ?_ GE188.out)) : w.heap.size ≤ gb192)); have n7_ := Aside0.mk ((by rw [hg]; exact (below_size (by repeat first | exact HB.out | apply zb | apply zn | apply zd | refine zs ?_ GE164.out | refine zs ?_ GE172.out | refine zs ?_ GE180.out | refine zs ?_ GE188.out)) : w.heap.size ≤ gb192)); have n8_ := Aside0.mk ((by rw [hg]; exact Nat.ne_of_lt (blk_lt (g := gb164) (o := .cells #[.int .i64 t161, .int .i64 t162] 23 (0, 0)) (by (with_reducible repeat first | refine kn ?_ _ | refine kd ?_ | refine ka ?_ _); exact BK164.out)) : gb164 ≠ gb192)); have n9_ := Aside0.mk ((by rw [hg]; exact Nat.ne_of_gt (blk_lt (g := gb164) (o := .cells #[.int .i64 t161, .int .i64 t162] 23 (0, 0)) (by (with_reducible repeat first | refine kn ?_ _ | refine kd ?_ | refine ka ?_ _); exact BK164.out)) : gb192 ≠ gb164)); have n10_ := Aside0.mk ((by rw [hg]; exact Nat.ne_of_lt (blk_lt (g := gb172) (o := .cells #[.int .i64 t169, .int .i64 t170] 23 (0, 0)) (by (with_reducible repeat first | refine kn ?_ _ | refine kd ?_ | refine ka ?_ _); exact BK172.out)) : gb172 ≠ gb192)); have n11_ := Aside0.mk ((by rw [hg]; exact Nat.ne_of_gt (blk_lt (g := gb172) (o := .cells #[.int .i64 t169, .int .i64 t170] 23 (0, 0)) (by (with_reducible repeat first | refine kn ?_ _ | refine kd ?_ | refine ka ?_ _); exact BK172.out)) : gb192 ≠ gb172)); have n12_ := Aside0.mk ((by rw [hg]; exact Nat.ne_of_lt (blk_lt (g := gb180) (o := .cells #[.int .i64 t177, .int .i64 t178] 23 (0, 0)) (by (with_reducible repeat first | refine kn ?_ _ | refine kd ?_ | refine ka ?_ _); exact BK180.out)) : gb180 ≠ gb192)); have n13_ := Aside0.mk ((by rw [hg]; exact Nat.ne_of_gt (blk_lt (g := gb180) (o := .cells #[.int .i64 t177, .int .i64 t178] 23 (0, 0)) (by (with_reducible repeat first | refine kn ?_ _ | refine kd ?_ | refine ka ?_ _); exact BK180.out)) : gb192 ≠ gb180)); have n14_ := Aside0.mk ((by rw [hg]; exact Nat.ne_of_lt (blk_lt (g := gb188) (o := .cells #[.int .i64 t185, .int .i64 t186] 23 (0, 0)) (by (with_reducible repeat first | refine kn ?_ _ | refine kd ?_ | refine ka ?_ _); exact BK188.out)) : gb188 ≠ gb192)); have n15_ := Aside0.mk ((by rw [hg]; exact Nat.ne_of_gt (blk_lt (g := gb188) (o := .cells #[.int .i64 t185, .int .i64 t186] 23 (0, 0)) (by (with_reducible repeat first | refine kn ?_ _ | refine kd ?_ | refine ka ?_ _); exact BK188.out)) : gb192 ≠ gb188)); clear BK164; clear BK172; clear BK180; clear BK188; clear HB; have BK164 := n0_; have BK172 := n1_; have BK180 := n2_; have BK188 := n3_; have HB := n4_; have BK192 := n5_; have GW192 := n6_; have GE192 := n7_; have NB164_192 := n8_; have NB192_164 := n9_; have NB172_192 := n10_; have NB192_172 := n11_; have NB180_192 := n12_; have NB192_180 := n13_; have NB188_192 := n14_; have NB192_188 := n15_; clear n0_ n1_ n2_ n3_ n4_ n5_ n6_ n7_ n8_ n9_ n10_ n11_ n12_ n13_ n14_ n15_; clear hb hbox hg; have hnb67 := NB192_164.out; have hnc67 := NB164_192.out; have hnb68 := NB192_172.out; have hnc68 := NB172_192.out; have hnb69 := NB192_180.out; have hnc69 := NB180_192.out; have hnb70 := NB192_188.out; have hnc70 := NB188_192.out; have hcz71_0 : w66.cell? ⟨gb192, 0, none⟩ = some (.int .i64 0) := (blk_cell BK192.out 0).trans rfl; have hcz71_1 : w66.cell? ⟨gb192, 1, none⟩ = some (.int .i64 0) := (blk_cell BK192.out 1).trans rfl; have hfz71_0 := blk_frozen BK192.out 0; have hfz71_1 := blk_frozen BK192.out 1) | ((with_reducible refine gate_callee (f := 30) rfl ?_); refine goesL_ (some 44) rfl rfl Try.func30 (by kernel_rfl) rfl #[.string (⟨#[49, 46]⟩ : ByteArray)] rfl (by (try simp only [List.map_toArray, List.map_cons, List.map_nil]); first | done | rfl | (simp only [List.length_drop, List.length_take]; rfl)) ?_; (with_reducible refine (num_Read.calls k (⟨#[49, 46]⟩ : ByteArray) t193 t194 t195 _ A14.out).mono ?_); rintro e w72 ⟨rfl, hb⟩; refine ⟨_, rfl, ?_⟩; have n0_ := Aside0.mk (blk_below (g := gb164) (o := .cells #[.int .i64 t161, .int .i64 t162] 23 (0, 0)) (by (with_reducible repeat first | refine kn ?_ _ | refine kd ?_ | refine ka ?_ _); refine blk_far ?_ NB164_192.out _; (with_reducible repeat first | refine kn ?_ _ | refine kd ?_ | refine ka ?_ _); refine blk_far ?_ NB164_192.out _; (with_reducible repeat first | refine kn ?_ _ | refine kd ?_ | refine ka ?_ _); exact BK164.out) hb); have n1_ := Aside0.mk (blk_below (g := gb172) (o := .cells #[.int .i64 t169, .int .i64 t170] 23 (0, 0)) (by (with_reducible repeat first | refine kn ?_ _ | refine kd ?_ | refine ka ?_ _); refine blk_far ?_ NB172_192.out _; (with_reducible repeat first | refine kn ?_ _ | refine kd ?_ | refine ka ?_ _); refine blk_far ?_ NB172_192.out _; (with_reducible repeat first | refine kn ?_ _ | refine kd ?_ | refine ka ?_ _); exact BK172.out) hb); have n2_ := Aside0.mk (blk_below (g := gb180) (o := .cells #[.int .i64 t177, .int .i64 t178] 23 (0, 0)) (by (with_reducible repeat first | refine kn ?_ _ | refine kd ?_ | refine ka ?_ _); refine blk_far ?_ NB180_192.out _; (with_reducible repeat first | refine kn ?_ _ | refine kd ?_ | refine ka ?_ _); refine blk_far ?_ NB180_192.out _; (with_reducible repeat first | refine kn ?_ _ | refine kd ?_ | refine ka ?_ _); exact BK180.out) hb); have n3_ := Aside0.mk (blk_below (g := gb188) (o := .cells #[.int .i64 t185, .int .i64 t186] 23 (0, 0)) (by (with_reducible repeat first | refine kn ?_ _ | refine kd ?_ | refine ka ?_ _); refine blk_far ?_ NB188_192.out _; (with_reducible repeat first | refine kn ?_ _ | refine kd ?_ | refine ka ?_ _); refine blk_far ?_ NB188_192.out _; (with_reducible repeat first | refine kn ?_ _ | refine kd ?_ | refine ka ?_ _); exact BK188.out) hb); have n4_ := Aside0.mk (blk_below (g := gb192) (o := .cells #[.int .i64 t189, .int .i64 t190] 23 (0, 0)) (by (with_reducible repeat first | refine kn ?_ _ | refine kd ?_ | refine ka ?_ _); refine blk_put (cs := #[.int .i64 t189, .int .i64 0]) ?_ 1 _ rfl; (with_reducible repeat first | refine kn ?_ _ | refine kd ?_ | refine ka ?_ _); refine blk_put (cs := #[.int .i64 0, .int .i64 0]) ?_ 0 _ rfl; (with_reducible repeat first | refine kn ?_ _ | refine kd ?_ | refine ka ?_ _); exact BK192.out) hb); have n5_ := Aside0.mk (below_step (by repeat first | exact HB.out | apply zb | apply zn | apply zd | refine zs ?_ GE164.out | refine zs ?_ GE172.out | refine zs ?_ GE180.out | refine zs ?_ GE188.out | refine zs ?_ GE192.out) hb); clear BK164; clear BK172; clear BK180; clear BK188; clear BK192; clear HB; have BK164 := n0_; have BK172 := n1_; have BK180 := n2_; have BK188 := n3_; have BK192 := n4_; have HB := n5_; clear n0_ n1_ n2_ n3_ n4_ n5_; (try clear hb)) | ((with_reducible refine gate_dst (N := 11) rfl ?_); refine box_event ?hg (N := 11) ?hd (cs := #[.int .i64 0, .int .i64 0]) (t := 23) ?hr ?_; (case hd => rfl); (case hg => rfl); (case hr => go_simp <;> rfl); intro gb196 hg w73 hbox hb; have n0_ := Aside0.mk (blk_below (g := gb164) (o := .cells #[.int .i64 t161, .int .i64 t162] 23 (0, 0)) (by (with_reducible repeat first | refine kn ?_ _ | refine kd ?_ | refine ka ?_ _); exact BK164.out) hb); have n1_ := Aside0.mk (blk_below (g := gb172) (o := .cells #[.int .i64 t169, .int .i64 t170] 23 (0, 0)) (by (with_reducible repeat first | refine kn ?_ _ | refine kd ?_ | refine ka ?_ _); exact BK172.out) hb); have n2_ := Aside0.mk (blk_below (g := gb180) (o := .cells #[.int .i64 t177, .int .i64 t178] 23 (0, 0)) (by (with_reducible repeat first | refine kn ?_ _ | refine kd ?_ | refine ka ?_ _); exact BK180.out) hb); have n3_ := Aside0.mk (blk_below (g := gb188) (o := .cells #[.int .i64 t185, .int .i64 t186] 23 (0, 0)) (by (with_reducible repeat first | refine kn ?_ _ | refine kd ?_ | refine ka ?_ _); exact BK188.out) hb); have n4_ := Aside0.mk (blk_below (g := gb192) (o := .cells #[.int .i64 t189, .int .i64 t190] 23 (0, 0)) (by (with_reducible repeat first | refine kn ?_ _ | refine kd ?_ | refine ka ?_ _); exact BK192.out) hb); have n5_ := Aside0.mk (below_step (by repeat first | exact HB.out | apply zb | apply zn | apply zd | refine zs ?_ GE164.out | refine zs ?_ GE172.out | refine zs ?_ GE180.out | refine zs ?_ GE188.out | refine zs ?_ GE192.out) hb); have n6_ := Aside0.mk (hbox); have n7_ := Aside0.mk ((by rw [hg]; exact (below_size (by repeat first | exact HB.out | apply zb | apply zn | apply zd | refine zs ?_ GE164.out | refine zs ?_ GE172.out | refine zs ?_ GE180.out | refine zs ?_ GE188.out | refine zs ?_ GE192.out)) : w.heap.size ≤ gb196)); have n8_ := Aside0.mk ((by rw [hg]; exact (below_size (by repeat first | exact HB.out | apply zb | apply zn | apply zd | refine zs ?_ GE164.out | refine zs ?_ GE172.out | refine zs ?_ GE180.out | refine zs ?_ GE188.out | refine zs ?_ GE192.out)) : w.heap.size ≤ gb196)); have n9_ := Aside0.mk ((by rw [hg]; exact Nat.ne_of_lt (blk_lt (g := gb164) (o := .cells #[.int .i64 t161, .int .i64 t162] 23 (0, 0)) (by (with_reducible repeat first | refine kn ?_ _ | refine kd ?_ | refine ka ?_ _); exact BK164.out)) : gb164 ≠ gb196)); have n10_ := Aside0.mk ((by rw [hg]; exact Nat.ne_of_gt (blk_lt (g := gb164) (o := .cells #[.int .i64 t161, .int .i64 t162] 23 (0, 0)) (by (with_reducible repeat first | refine kn ?_ _ | refine kd ?_ | refine ka ?_ _); exact BK164.out)) : gb196 ≠ gb164)); have n11_ := Aside0.mk ((by rw [hg]; exact Nat.ne_of_lt (blk_lt (g := gb172) (o := .cells #[.int .i64 t169, .int .i64 t170] 23 (0, 0)) (by (with_reducible repeat first | refine kn ?_ _ | refine kd ?_ | refine ka ?_ _); exact BK172.out)) : gb172 ≠ gb196)); have n12_ := Aside0.mk ((by rw [hg]; exact Nat.ne_of_gt (blk_lt (g := gb172) (o := .cells #[.int .i64 t169, .int .i64 t170] 23 (0, 0)) (by (with_reducible repeat first | refine kn ?_ _ | refine kd ?_ | refine ka ?_ _); exact BK172.out)) : gb196 ≠ gb172)); have n13_ := Aside0.mk ((by rw [hg]; exact Nat.ne_of_lt (blk_lt (g := gb180) (o := .cells #[.int .i64 t177, .int .i64 t178] 23 (0, 0)) (by (with_reducible repeat first | refine kn ?_ _ | refine kd ?_ | refine ka ?_ _); exact BK180.out)) : gb180 ≠ gb196)); have n14_ := Aside0.mk ((by rw [hg]; exact Nat.ne_of_gt (blk_lt (g := gb180) (o := .cells #[.int .i64 t177, .int .i64 t178] 23 (0, 0)) (by (with_reducible repeat first | refine kn ?_ _ | refine kd ?_ | refine ka ?_ _); exact BK180.out)) : gb196 ≠ gb180)); have n15_ := Aside0.mk ((by rw [hg]; exact Nat.ne_of_lt (blk_lt (g := gb188) (o := .cells #[.int .i64 t185, .int .i64 t186] 23 (0, 0)) (by (with_reducible repeat first | refine kn ?_ _ | refine kd ?_ | refine ka ?_ _); exact BK188.out)) : gb188 ≠ gb196)); have n16_ := Aside0.mk ((by rw [hg]; exact Nat.ne_of_gt (blk_lt (g := gb188) (o := .cells #[.int .i64 t185, .int .i64 t186] 23 (0, 0)) (by (with_reducible repeat first | refine kn ?_ _ | refine kd ?_ | refine ka ?_ _); exact BK188.out)) : gb196 ≠ gb188)); have n17_ := Aside0.mk ((by rw [hg]; exact Nat.ne_of_lt (blk_lt (g := gb192) (o := .cells #[.int .i64 t189, .int .i64 t190] 23 (0, 0)) (by (with_reducible repeat first | refine kn ?_ _ | refine kd ?_ | refine ka ?_ _); exact BK192.out)) : gb192 ≠ gb196)); have n18_ := Aside0.mk ((by rw [hg]; exact Nat.ne_of_gt (blk_lt (g := gb192) (o := .cells #[.int .i64 t189, .int .i64 t190] 23 (0, 0)) (by (with_reducible repeat first | refine kn ?_ _ | refine kd ?_ | refine ka ?_ _); exact BK192.out)) : gb196 ≠ gb192)); clear BK164; clear BK172; clear BK180; clear BK188; clear BK192; clear HB; have BK164 := n0_; have BK172 := n1_; have BK180 := n2_; have BK188 := n3_; have BK192 := n4_; have HB := n5_; have BK196 := n6_; have GW196 := n7_; have GE196 := n8_; have NB164_196 := n9_; have NB196_164 := n10_; have NB172_196 := n11_; have NB196_172 := n12_; have NB180_196 := n13_; have NB196_180 := n14_; have NB188_196 := n15_; have NB196_188 := n16_; have NB192_196 := n17_; have NB196_192 := n18_; clear n0_ n1_ n2_ n3_ n4_ n5_ n6_ n7_ n8_ n9_ n10_ n11_ n12_ n13_ n14_ n15_ n16_ n17_ n18_; clear hb hbox hg; have hnb74 := NB196_164.out; have hnc74 := NB164_196.out; have hnb75 := NB196_172.out; have hnc75 := NB172_196.out; have hnb76 := NB196_180.out; have hnc76 := NB180_196.out; have hnb77 := NB196_188.out; have hnc77 := NB188_196.out; have hnb78 := NB196_192.out; have hnc78 := NB192_196.out; have hcz79_0 : w73.cell? ⟨gb196, 0, none⟩ = some (.int .i64 0) := (blk_cell BK196.out 0).trans rfl; have hcz79_1 : w73.cell? ⟨gb196, 1, none⟩ = some (.int .i64 0) := (blk_cell BK196.out 1).trans rfl; have hfz79_0 := blk_frozen BK196.out 0; have hfz79_1 := blk_frozen BK196.out 1) | ((with_reducible refine gate_callee (f := 16) rfl ?_); refine goesL_ (some 48) rfl rfl Try.func16 (by kernel_rfl) rfl #[.int .i64 9007199254740993] rfl (by simp only [m1, m2, m3]; rfl) ?_; (with_reducible refine (num_Int.calls 9007199254740993 t197 t198 _ A15.out).mono ?_); rintro e w80 ⟨rfl, hb⟩; refine ⟨_, rfl, ?_⟩; have n0_ := Aside0.mk (blk_below (g := gb164) (o := .cells #[.int .i64 t161, .int .i64 t162] 23 (0, 0)) (by (with_reducible repeat first | refine kn ?_ _ | refine kd ?_ | refine ka ?_ _); refine blk_far ?_ NB164_196.out _; (with_reducible repeat first | refine kn ?_ _ | refine kd ?_ | refine ka ?_ _); refine blk_far ?_ NB164_196.out _; (with_reducible repeat first | refine kn ?_ _ | refine kd ?_ | refine ka ?_ _); exact BK164.out) hb); have n1_ := Aside0.mk (blk_below (g := gb172) (o := .cells #[.int .i64 t169, .int .i64 t170] 23 (0, 0)) (by (with_reducible repeat first | refine kn ?_ _ | refine kd ?_ | refine ka ?_ _); refine blk_far ?_ NB172_196.out _; (with_reducible repeat first | refine kn ?_ _ | refine kd ?_ | refine ka ?_ _); refine blk_far ?_ NB172_196.out _; (with_reducible repeat first | refine kn ?_ _ | refine kd ?_ | refine ka ?_ _); exact BK172.out) hb); have n2_ := Aside0.mk (blk_below (g := gb180) (o := .cells #[.int .i64 t177, .int .i64 t178] 23 (0, 0)) (by (with_reducible repeat first | refine kn ?_ _ | refine kd ?_ | refine ka ?_ _); refine blk_far ?_ NB180_196.out _; (with_reducible repeat first | refine kn ?_ _ | refine kd ?_ | refine ka ?_ _); refine blk_far ?_ NB180_196.out _; (with_reducible repeat first | refine kn ?_ _ | refine kd ?_ | refine ka ?_ _); exact BK180.out) hb); have n3_ := Aside0.mk (blk_below (g := gb188) (o := .cells #[.int .i64 t185, .int .i64 t186] 23 (0, 0)) (by (with_reducible repeat first | refine kn ?_ _ | refine kd ?_ | refine ka ?_ _); refine blk_far ?_ NB188_196.out _; (with_reducible repeat first | refine kn ?_ _ | refine kd ?_ | refine ka ?_ _); refine blk_far ?_ NB188_196.out _; (with_reducible repeat first | refine kn ?_ _ | refine kd ?_ | refine ka ?_ _); exact BK188.out) hb); have n4_ := Aside0.mk (blk_below (g := gb192) (o := .cells #[.int .i64 t189, .int .i64 t190] 23 (0, 0)) (by (with_reducible repeat first | refine kn ?_ _ | refine kd ?_ | refine ka ?_ _); refine blk_far ?_ NB192_196.out _; (with_reducible repeat first | refine kn ?_ _ | refine kd ?_ | refine ka ?_ _); refine blk_far ?_ NB192_196.out _; (with_reducible repeat first | refine kn ?_ _ | refine kd ?_ | refine ka ?_ _); exact BK192.out) hb); have n5_ := Aside0.mk (blk_below (g := gb196) (o := .cells #[.int .i64 t193, .int .i64 t194] 23 (0, 0)) (by (with_reducible repeat first | refine kn ?_ _ | refine kd ?_ | refine ka ?_ _); refine blk_put (cs := #[.int .i64 t193, .int .i64 0]) ?_ 1 _ rfl; (with_reducible repeat first | refine kn ?_ _ | refine kd ?_ | refine ka ?_ _); refine blk_put (cs := #[.int .i64 0, .int .i64 0]) ?_ 0 _ rfl; (with_reducible repeat first | refine kn ?_ _ | refine kd ?_ | refine ka ?_ _); exact BK196.out) hb); have n6_ := Aside0.mk (below_step (by repeat first | exact HB.out | apply zb | apply zn | apply zd | refine zs ?_ GE164.out | refine zs ?_ GE172.out | refine zs ?_ GE180.out | refine zs ?_ GE188.out | refine zs ?_ GE192.out | refine zs ?_ GE196.out) hb); clear BK164; clear BK172; clear BK180; clear BK188; clear BK192; clear BK196; clear HB; have BK164 := n0_; have BK172 := n1_; have BK180 := n2_; have BK188 := n3_; have BK192 := n4_; have BK196 := n5_; have HB := n6_; clear n0_ n1_ n2_ n3_ n4_ n5_ n6_; (try clear hb)) | ((with_reducible refine gate_callee (f := 18) rfl ?_); refine goesL_ (some 49) rfl rfl Try.func18 (by kernel_rfl) rfl #[.float .f64 4845873199050653696] rfl (by simp only [m1, m2, m3]; rfl) ?_; (with_reducible refine (num_Float.calls 4845873199050653696 t199 t200 _ A16.out).mono ?_); rintro e w81 ⟨rfl, hb⟩; refine ⟨_, rfl, ?_⟩; have n0_ := Aside0.mk (blk_below (g := gb164) (o := .cells #[.int .i64 t161, .int .i64 t162] 23 (0, 0)) (by (with_reducible repeat first | refine kn ?_ _ | refine kd ?_ | refine ka ?_ _); exact BK164.out) hb); have n1_ := Aside0.mk (blk_below (g := gb172) (o := .cells #[.int .i64 t169, .int .i64 t170] 23 (0, 0)) (by (with_reducible repeat first | refine kn ?_ _ | refine kd ?_ | refine ka ?_ _); exact BK172.out) hb); have n2_ := Aside0.mk (blk_below (g := gb180) (o := .cells #[.int .i64 t177, .int .i64 t178] 23 (0, 0)) (by (with_reducible repeat first | refine kn ?_ _ | refine kd ?_ | refine ka ?_ _); exact BK180.out) hb); have n3_ := Aside0.mk (blk_below (g := gb188) (o := .cells #[.int .i64 t185, .int .i64 t186] 23 (0, 0)) (by (with_reducible repeat first | refine kn ?_ _ | refine kd ?_ | refine ka ?_ _); exact BK188.out) hb); have n4_ := Aside0.mk (blk_below (g := gb192) (o := .cells #[.int .i64 t189, .int .i64 t190] 23 (0, 0)) (by (with_reducible repeat first | refine kn ?_ _ | refine kd ?_ | refine ka ?_ _); exact BK192.out) hb); have n5_ := Aside0.mk (blk_below (g := gb196) (o := .cells #[.int .i64 t193, .int .i64 t194] 23 (0, 0)) (by (with_reducible repeat first | refine kn ?_ _ | refine kd ?_ | refine ka ?_ _); exact BK196.out) hb); have n6_ := Aside0.mk (below_step (by repeat first | exact HB.out | apply zb | apply zn | apply zd | refine zs ?_ GE164.out | refine zs ?_ GE172.out | refine zs ?_ GE180.out | refine zs ?_ GE188.out | refine zs ?_ GE192.out | refine zs ?_ GE196.out) hb); clear BK164; clear BK172; clear BK180; clear BK188; clear BK192; clear BK196; clear HB; have BK164 := n0_; have BK172 := n1_; have BK180 := n2_; have BK188 := n3_; have BK192 := n4_; have BK196 := n5_; have HB := n6_; clear n0_ n1_ n2_ n3_ n4_ n5_ n6_; (try clear hb)) | ((with_reducible refine gate_callee (f := 28) rfl ?_); refine goesL_ (some 50) rfl rfl Try.func28 (by kernel_rfl) rfl #[.agg #[.int .i64 t197, .int .i64 t198], .agg #[.int .i64 t199, .int .i64 t200]] rfl (by simp only [m1, m2, m3]; rfl) ?_; (with_reducible refine (num_Cmp.calls k t197 t198 t199 t200 t201 true _ A17.out).mono ?_); rintro e w82 ⟨rfl, hb⟩; refine ⟨_, rfl, ?_⟩; have n0_ := Aside0.mk (blk_below (g := gb164) (o := .cells #[.int .i64 t161, .int .i64 t162] 23 (0, 0)) (by (with_reducible repeat first | refine kn ?_ _ | refine kd ?_ | refine ka ?_ _); exact BK164.out) hb); have n1_ := Aside0.mk (blk_below (g := gb172) (o := .cells #[.int .i64 t169, .int .i64 t170] 23 (0, 0)) (by (with_reducible repeat first | refine kn ?_ _ | refine kd ?_ | refine ka ?_ _); exact BK172.out) hb); have n2_ := Aside0.mk (blk_below (g := gb180) (o := .cells #[.int .i64 t177, .int .i64 t178] 23 (0, 0)) (by (with_reducible repeat first | refine kn ?_ _ | refine kd ?_ | refine ka ?_ _); exact BK180.out) hb); have n3_ := Aside0.mk (blk_below (g := gb188) (o := .cells #[.int .i64 t185, .int .i64 t186] 23 (0, 0)) (by (with_reducible repeat first | refine kn ?_ _ | refine kd ?_ | refine ka ?_ _); exact BK188.out) hb); have n4_ := Aside0.mk (blk_below (g := gb192) (o := .cells #[.int .i64 t189, .int .i64 t190] 23 (0, 0)) (by (with_reducible repeat first | refine kn ?_ _ | refine kd ?_ | refine ka ?_ _); exact BK192.out) hb); have n5_ := Aside0.mk (blk_below (g := gb196) (o := .cells #[.int .i64 t193, .int .i64 t194] 23 (0, 0)) (by (with_reducible repeat first | refine kn ?_ _ | refine kd ?_ | refine ka ?_ _); exact BK196.out) hb); have n6_ := Aside0.mk (below_step (by repeat first | exact HB.out | apply zb | apply zn | apply zd | refine zs ?_ GE164.out | refine zs ?_ GE172.out | refine zs ?_ GE180.out | refine zs ?_ GE188.out | refine zs ?_ GE192.out | refine zs ?_ GE196.out) hb); clear BK164; clear BK172; clear BK180; clear BK188; clear BK192; clear BK196; clear HB; have BK164 := n0_; have BK172 := n1_; have BK180 := n2_; have BK188 := n3_; have BK192 := n4_; have BK196 := n5_; have HB := n6_; clear n0_ n1_ n2_ n3_ n4_ n5_ n6_; (try clear hb)))
                          have n0_ := Aside0.mk (blk_drew BK164.out)
                          have n1_ := Aside0.mk (blk_drew BK172.out)
                          have n2_ := Aside0.mk (blk_drew BK180.out)
                          have n3_ := Aside0.mk (blk_drew BK188.out)
                          have n4_ := Aside0.mk (blk_drew BK192.out)
                          have n5_ := Aside0.mk (blk_drew BK196.out)
                          have n6_ := Aside0.mk (below_drew1 HB.out)
                          clear BK164
                          clear BK172
                          clear BK180
                          clear BK188
                          clear BK192
                          clear BK196
                          clear HB
                          have BK164 := n0_
                          have BK172 := n1_
                          have BK180 := n2_
                          have BK188 := n3_
                          have BK192 := n4_
                          have BK196 := n5_
                          have HB := n6_
                          clear n0_ n1_ n2_ n3_ n4_ n5_ n6_
                          refine start_ (n := 61) (S := fun w' => w'.cell? ⟨gb164, 0, none⟩ = some (.int .i64 t161) ∧ w'.cell? ⟨gb164, 1, none⟩ = some (.int .i64 t162) ∧ w'.cell? ⟨gb172, 0, none⟩ = some (.int .i64 t169) ∧ w'.cell? ⟨gb172, 1, none⟩ = some (.int .i64 t170) ∧ w'.cell? ⟨gb180, 0, none⟩ = some (.int .i64 t177) ∧ w'.cell? ⟨gb180, 1, none⟩ = some (.int .i64 t178) ∧ w'.cell? ⟨gb192, 0, none⟩ = some (.int .i64 t189) ∧ w'.cell? ⟨gb192, 1, none⟩ = some (.int .i64 t190)) (ds := []) #[false, false, false, false, false, false, false, false, false, false, false, false, false, false, false, false, false, false, false, false, false, false, false, false, false, false, false, false, false, false, false, false, false, false, false, false, false, false, false, false, false, false, false, false, false, false, false, false, false, false, false, false, false, false, false, false, false, false, false, false, false] (by kernel_rfl) rfl rfl ⟨(blk_cell BK164.out 0).trans rfl, (blk_cell BK164.out 1).trans rfl, (blk_cell BK172.out 0).trans rfl, (blk_cell BK172.out 1).trans rfl, (blk_cell BK180.out 0).trans rfl, (blk_cell BK180.out 1).trans rfl, (blk_cell BK192.out 0).trans rfl, (blk_cell BK192.out 1).trans rfl⟩ (fun hHeld => ?_); refine with_tabW heirloomlaw01_alive.tab8 heirloomlaw01_alive.bits8 (fun HT_ HW_ => ?_)
                          generalize w82.drew = w83 at BK164 BK172 BK180 BK188 BK192 BK196 HB hHeld ⊢
                          refine pure_ (i := 0) (N := some 53) (v := ?_) (a' := ?_) #[true, false, false, false, false, false, false, false, false, false, false, false, false, false, false, false, false, false, false, false, false, false, false, false, false, false, false, false, false, false, false, false, false, false, false, false, false, false, false, false, false, false, false, false, false, false, false, false, false, false, false, false, false, false, false, false, false, false, false, false, false] rfl rfl (any_of HT_.out (by kernel_rfl)) (fun _ _ _ h => h) (Or.inl ⟨by rfl, ?_⟩) ?_ ?_
                          rotate_left
                          · intro w'
                            go_simp
                            first | with_reducible rfl | (rw [if_neg (by have hq_ : (_ + _ : Nat) ≤ 9223372036854775807 := (by assumption); simp only [ByteArray.size_extract] at hq_; simp only [decide_eq_true_eq] at *; omega)]; done)
                          rotate_left
                          · simp only [Act.put, List.setIfInBounds_toArray, List.set_cons_zero, List.set_cons_succ, i64_w, i32_w]
                            rfl
                          refine one_ (i := 1) (N := some 54) #[true, true, false, false, false, false, false, false, false, false, false, false, false, false, false, false, false, false, false, false, false, false, false, false, false, false, false, false, false, false, false, false, false, false, false, false, false, false, false, false, false, false, false, false, false, false, false, false, false, false, false, false, false, false, false, false, false, false, false, false, false] rfl rfl (one_of HT_.out (by kernel_rfl)) (by decide) (fun K hK => ?_)
                          refine goes_ Try.func24 (by kernel_rfl) rfl #[.int .i64 t163] (by rfl) rfl rfl (by (try simp only [List.map_toArray, List.map_cons, List.map_nil]); first | done | rfl | (simp only [List.length_drop, List.length_take]; rfl)) ?_
                          with_reducible refine (heirloomlaw01_no.calls t163 t203 _ A18.out).mono ?_
                          rintro e w' ⟨rfl, ⟨nd, rfl⟩⟩
                          refine ⟨_, rfl, ?_⟩
                          refine hK.out _ _ ⟨(blk_cell BK164.out 0).trans rfl, (blk_cell BK164.out 1).trans rfl, (blk_cell BK172.out 0).trans rfl, (blk_cell BK172.out 1).trans rfl, (blk_cell BK180.out 0).trans rfl, (blk_cell BK180.out 1).trans rfl, (blk_cell BK192.out 0).trans rfl, (blk_cell BK192.out 1).trans rfl⟩ (fun hHeld => ?_)
                          clear hK K
                          refine norm_ (a' := ?_) ?_ ?_
                          rotate_left
                          · show Act.put _ (some 54) _ = _
                            simp only [Act.put, List.setIfInBounds_toArray, List.set_cons_zero, List.set_cons_succ, i64_w, i32_w]
                            rfl
                          refine pure_ (i := 2) (N := some 55) (v := ?_) (a' := ?_) #[true, true, true, false, false, false, false, false, false, false, false, false, false, false, false, false, false, false, false, false, false, false, false, false, false, false, false, false, false, false, false, false, false, false, false, false, false, false, false, false, false, false, false, false, false, false, false, false, false, false, false, false, false, false, false, false, false, false, false, false, false] rfl rfl (any_of HT_.out (by kernel_rfl)) (fun _ _ _ h => h) (Or.inl ⟨by rfl, ?_⟩) ?_ ?_
                          rotate_left
                          · intro w'
                            go_simp
                            first | with_reducible rfl | (rw [if_neg (by have hq_ : (_ + _ : Nat) ≤ 9223372036854775807 := (by assumption); simp only [ByteArray.size_extract] at hq_; simp only [decide_eq_true_eq] at *; omega)]; done)
                          rotate_left
                          · simp only [Act.put, List.setIfInBounds_toArray, List.set_cons_zero, List.set_cons_succ, i64_w, i32_w]
                            rfl
                          refine pure_ (i := 3) (N := some 56) (v := ?_) (a' := ?_) #[true, true, true, true, false, false, false, false, false, false, false, false, false, false, false, false, false, false, false, false, false, false, false, false, false, false, false, false, false, false, false, false, false, false, false, false, false, false, false, false, false, false, false, false, false, false, false, false, false, false, false, false, false, false, false, false, false, false, false, false, false] rfl rfl (any_of HT_.out (by kernel_rfl)) (fun _ _ _ h => h) (Or.inl ⟨by rfl, ?_⟩) ?_ ?_
                          rotate_left
                          · intro w'
                            go_simp
                            first | with_reducible rfl | (rw [if_neg (by have hq_ : (_ + _ : Nat) ≤ 9223372036854775807 := (by assumption); simp only [ByteArray.size_extract] at hq_; simp only [decide_eq_true_eq] at *; omega)]; done)
                          rotate_left
                          · simp only [Act.put, List.setIfInBounds_toArray, List.set_cons_zero, List.set_cons_succ, i64_w, i32_w]
                            rfl
                          refine pure_ (i := 4) (N := some 57) (v := ?_) (a' := ?_) #[true, true, true, true, true, false, false, false, false, false, false, false, false, false, false, false, false, false, false, false, false, false, false, false, false, false, false, false, false, false, false, false, false, false, false, false, false, false, false, false, false, false, false, false, false, false, false, false, false, false, false, false, false, false, false, false, false, false, false, false, false] rfl rfl (any_of HT_.out (by kernel_rfl)) (fun _ _ _ h => h) (Or.inl ⟨by rfl, ?_⟩) ?_ ?_
                          rotate_left
                          · intro w'
                            go_simp
                            first | with_reducible rfl | (rw [if_neg (by have hq_ : (_ + _ : Nat) ≤ 9223372036854775807 := (by assumption); simp only [ByteArray.size_extract] at hq_; simp only [decide_eq_true_eq] at *; omega)]; done)
                          rotate_left
                          · simp only [Act.put, List.setIfInBounds_toArray, List.set_cons_zero, List.set_cons_succ, i64_w, i32_w]
                            rfl
                          refine take_ (i := 5) (N := some 58) (v := ?_) (a' := ?_) #[true, true, true, true, true, true, false, false, false, false, false, false, false, false, false, false, false, false, false, false, false, false, false, false, false, false, false, false, false, false, false, false, false, false, false, false, false, false, false, false, false, false, false, false, false, false, false, false, false, false, false, false, false, false, false, false, false, false, false, false, false] rfl rfl (take_ofW HT_.out HW_.out (by kernel_rfl)) (fun _ _ _ h => h) (Or.inl ⟨by rfl, ?_⟩) hHeld ?_ ?_
                          rotate_left
                          · rintro w' ⟨s0, s1, s2, s3, s4, s5, s6, s7⟩
                            go_simp
                            first | with_reducible rfl | (rw [if_neg (by have hq_ : (_ + _ : Nat) ≤ 9223372036854775807 := (by assumption); simp only [ByteArray.size_extract] at hq_; simp only [decide_eq_true_eq] at *; omega)]; done)
                          rotate_left
                          · simp only [Act.put, List.setIfInBounds_toArray, List.set_cons_zero, List.set_cons_succ, i64_w, i32_w]
                            rfl
                          refine pure_ (i := 6) (N := some 59) (v := ?_) (a' := ?_) #[true, true, true, true, true, true, true, false, false, false, false, false, false, false, false, false, false, false, false, false, false, false, false, false, false, false, false, false, false, false, false, false, false, false, false, false, false, false, false, false, false, false, false, false, false, false, false, false, false, false, false, false, false, false, false, false, false, false, false, false, false] rfl rfl (any_of HT_.out (by kernel_rfl)) (fun _ _ _ h => h) (Or.inl ⟨by rfl, ?_⟩) ?_ ?_
                          rotate_left
                          · intro w'
                            go_simp
                            first | with_reducible rfl | (rw [if_neg (by have hq_ : (_ + _ : Nat) ≤ 9223372036854775807 := (by assumption); simp only [ByteArray.size_extract] at hq_; simp only [decide_eq_true_eq] at *; omega)]; done)
                          rotate_left
                          · simp only [Act.put, List.setIfInBounds_toArray, List.set_cons_zero, List.set_cons_succ, i64_w, i32_w]
                            rfl
                          refine pure_ (i := 7) (N := some 60) (v := ?_) (a' := ?_) #[true, true, true, true, true, true, true, true, false, false, false, false, false, false, false, false, false, false, false, false, false, false, false, false, false, false, false, false, false, false, false, false, false, false, false, false, false, false, false, false, false, false, false, false, false, false, false, false, false, false, false, false, false, false, false, false, false, false, false, false, false] rfl rfl (any_of HT_.out (by kernel_rfl)) (fun _ _ _ h => h) (Or.inl ⟨by rfl, ?_⟩) ?_ ?_
                          rotate_left
                          · intro w'
                            go_simp
                            first | with_reducible rfl | (rw [if_neg (by have hq_ : (_ + _ : Nat) ≤ 9223372036854775807 := (by assumption); simp only [ByteArray.size_extract] at hq_; simp only [decide_eq_true_eq] at *; omega)]; done)
                          rotate_left
                          · simp only [Act.put, List.setIfInBounds_toArray, List.set_cons_zero, List.set_cons_succ, i64_w, i32_w]
                            rfl
                          refine pure_ (i := 8) (N := some 61) (v := ?_) (a' := ?_) #[true, true, true, true, true, true, true, true, true, false, false, false, false, false, false, false, false, false, false, false, false, false, false, false, false, false, false, false, false, false, false, false, false, false, false, false, false, false, false, false, false, false, false, false, false, false, false, false, false, false, false, false, false, false, false, false, false, false, false, false, false] rfl rfl (any_of HT_.out (by kernel_rfl)) (fun _ _ _ h => h) (Or.inl ⟨by rfl, ?_⟩) ?_ ?_
                          rotate_left
                          · intro w'
                            go_simp
                            first | with_reducible rfl | (rw [if_neg (by have hq_ : (_ + _ : Nat) ≤ 9223372036854775807 := (by assumption); simp only [ByteArray.size_extract] at hq_; simp only [decide_eq_true_eq] at *; omega)]; done)
                          rotate_left
                          · simp only [Act.put, List.setIfInBounds_toArray, List.set_cons_zero, List.set_cons_succ, i64_w, i32_w]
                            rfl
                          refine pure_ (i := 9) (N := some 62) (v := ?_) (a' := ?_) #[true, true, true, true, true, true, true, true, true, true, false, false, false, false, false, false, false, false, false, false, false, false, false, false, false, false, false, false, false, false, false, false, false, false, false, false, false, false, false, false, false, false, false, false, false, false, false, false, false, false, false, false, false, false, false, false, false, false, false, false, false] rfl rfl (any_of HT_.out (by kernel_rfl)) (fun _ _ _ h => h) (Or.inl ⟨by rfl, ?_⟩) ?_ ?_
                          rotate_left
                          · intro w'
                            go_simp
                            first | with_reducible rfl | (rw [if_neg (by have hq_ : (_ + _ : Nat) ≤ 9223372036854775807 := (by assumption); simp only [ByteArray.size_extract] at hq_; simp only [decide_eq_true_eq] at *; omega)]; done)
                          rotate_left
                          · simp only [Act.put, List.setIfInBounds_toArray, List.set_cons_zero, List.set_cons_succ, i64_w, i32_w]
                            rfl
                          refine one_ (i := 10) (N := some 63) #[true, true, true, true, true, true, true, true, true, true, true, false, false, false, false, false, false, false, false, false, false, false, false, false, false, false, false, false, false, false, false, false, false, false, false, false, false, false, false, false, false, false, false, false, false, false, false, false, false, false, false, false, false, false, false, false, false, false, false, false, false] rfl rfl (one_of HT_.out (by kernel_rfl)) (by decide) (fun K hK => ?_)
                          refine goes_ Try.func24 (by kernel_rfl) rfl #[.int .i64 t171] (by rfl) rfl rfl (by (try simp only [List.map_toArray, List.map_cons, List.map_nil]); first | done | rfl | (simp only [List.length_drop, List.length_take]; rfl)) ?_
                          with_reducible refine (heirloomlaw01_no.calls t171 t204 _ A21.out).mono ?_
                          rintro e w' ⟨rfl, ⟨nd, rfl⟩⟩
                          refine ⟨_, rfl, ?_⟩
                          refine hK.out _ _ ⟨(blk_cell BK164.out 0).trans rfl, (blk_cell BK164.out 1).trans rfl, (blk_cell BK172.out 0).trans rfl, (blk_cell BK172.out 1).trans rfl, (blk_cell BK180.out 0).trans rfl, (blk_cell BK180.out 1).trans rfl, (blk_cell BK192.out 0).trans rfl, (blk_cell BK192.out 1).trans rfl⟩ (fun hHeld => ?_)
                          clear hK K
                          refine norm_ (a' := ?_) ?_ ?_
                          rotate_left
                          · show Act.put _ (some 63) _ = _
                            simp only [Act.put, List.setIfInBounds_toArray, List.set_cons_zero, List.set_cons_succ, i64_w, i32_w]
                            rfl
                          refine pure_ (i := 11) (N := some 64) (v := ?_) (a' := ?_) #[true, true, true, true, true, true, true, true, true, true, true, true, false, false, false, false, false, false, false, false, false, false, false, false, false, false, false, false, false, false, false, false, false, false, false, false, false, false, false, false, false, false, false, false, false, false, false, false, false, false, false, false, false, false, false, false, false, false, false, false, false] rfl rfl (any_of HT_.out (by kernel_rfl)) (fun _ _ _ h => h) (Or.inl ⟨by rfl, ?_⟩) ?_ ?_
                          rotate_left
                          · intro w'
                            go_simp
                            first | with_reducible rfl | (rw [if_neg (by have hq_ : (_ + _ : Nat) ≤ 9223372036854775807 := (by assumption); simp only [ByteArray.size_extract] at hq_; simp only [decide_eq_true_eq] at *; omega)]; done)
                          rotate_left
                          · simp only [Act.put, List.setIfInBounds_toArray, List.set_cons_zero, List.set_cons_succ, i64_w, i32_w]
                            rfl
                          refine pure_ (i := 12) (N := some 65) (v := ?_) (a' := ?_) #[true, true, true, true, true, true, true, true, true, true, true, true, true, false, false, false, false, false, false, false, false, false, false, false, false, false, false, false, false, false, false, false, false, false, false, false, false, false, false, false, false, false, false, false, false, false, false, false, false, false, false, false, false, false, false, false, false, false, false, false, false] rfl rfl (any_of HT_.out (by kernel_rfl)) (fun _ _ _ h => h) (Or.inl ⟨by rfl, ?_⟩) ?_ ?_
                          rotate_left
                          · intro w'
                            go_simp
                            first | with_reducible rfl | (rw [if_neg (by have hq_ : (_ + _ : Nat) ≤ 9223372036854775807 := (by assumption); simp only [ByteArray.size_extract] at hq_; simp only [decide_eq_true_eq] at *; omega)]; done)
                          rotate_left
                          · simp only [Act.put, List.setIfInBounds_toArray, List.set_cons_zero, List.set_cons_succ, i64_w, i32_w]
                            rfl
                          refine pure_ (i := 13) (N := some 66) (v := ?_) (a' := ?_) #[true, true, true, true, true, true, true, true, true, true, true, true, true, true, false, false, false, false, false, false, false, false, false, false, false, false, false, false, false, false, false, false, false, false, false, false, false, false, false, false, false, false, false, false, false, false, false, false, false, false, false, false, false, false, false, false, false, false, false, false, false] rfl rfl (any_of HT_.out (by kernel_rfl)) (fun _ _ _ h => h) (Or.inl ⟨by rfl, ?_⟩) ?_ ?_
                          rotate_left
                          · intro w'
                            go_simp
                            first | with_reducible rfl | (rw [if_neg (by have hq_ : (_ + _ : Nat) ≤ 9223372036854775807 := (by assumption); simp only [ByteArray.size_extract] at hq_; simp only [decide_eq_true_eq] at *; omega)]; done)
                          rotate_left
                          · simp only [Act.put, List.setIfInBounds_toArray, List.set_cons_zero, List.set_cons_succ, i64_w, i32_w]
                            rfl
                          refine pure_ (i := 14) (N := some 67) (v := ?_) (a' := ?_) #[true, true, true, true, true, true, true, true, true, true, true, true, true, true, true, false, false, false, false, false, false, false, false, false, false, false, false, false, false, false, false, false, false, false, false, false, false, false, false, false, false, false, false, false, false, false, false, false, false, false, false, false, false, false, false, false, false, false, false, false, false] rfl rfl (any_of HT_.out (by kernel_rfl)) (fun _ _ _ h => h) (Or.inl ⟨by rfl, ?_⟩) ?_ ?_
                          rotate_left
                          · intro w'
                            go_simp
                            first | with_reducible rfl | (rw [if_neg (by have hq_ : (_ + _ : Nat) ≤ 9223372036854775807 := (by assumption); simp only [ByteArray.size_extract] at hq_; simp only [decide_eq_true_eq] at *; omega)]; done)
                          rotate_left
                          · simp only [Act.put, List.setIfInBounds_toArray, List.set_cons_zero, List.set_cons_succ, i64_w, i32_w]
                            rfl
                          refine take_ (i := 15) (N := some 68) (v := ?_) (a' := ?_) #[true, true, true, true, true, true, true, true, true, true, true, true, true, true, true, true, false, false, false, false, false, false, false, false, false, false, false, false, false, false, false, false, false, false, false, false, false, false, false, false, false, false, false, false, false, false, false, false, false, false, false, false, false, false, false, false, false, false, false, false, false] rfl rfl (take_ofW HT_.out HW_.out (by kernel_rfl)) (fun _ _ _ h => h) (Or.inl ⟨by rfl, ?_⟩) hHeld ?_ ?_
                          rotate_left
                          · rintro w' ⟨s0, s1, s2, s3, s4, s5, s6, s7⟩
                            go_simp
                            first | with_reducible rfl | (rw [if_neg (by have hq_ : (_ + _ : Nat) ≤ 9223372036854775807 := (by assumption); simp only [ByteArray.size_extract] at hq_; simp only [decide_eq_true_eq] at *; omega)]; done)
                          rotate_left
                          · simp only [Act.put, List.setIfInBounds_toArray, List.set_cons_zero, List.set_cons_succ, i64_w, i32_w]
                            rfl
                          refine pure_ (i := 16) (N := some 69) (v := ?_) (a' := ?_) #[true, true, true, true, true, true, true, true, true, true, true, true, true, true, true, true, true, false, false, false, false, false, false, false, false, false, false, false, false, false, false, false, false, false, false, false, false, false, false, false, false, false, false, false, false, false, false, false, false, false, false, false, false, false, false, false, false, false, false, false, false] rfl rfl (any_of HT_.out (by kernel_rfl)) (fun _ _ _ h => h) (Or.inl ⟨by rfl, ?_⟩) ?_ ?_
                          rotate_left
                          · intro w'
                            go_simp
                            first | with_reducible rfl | (rw [if_neg (by have hq_ : (_ + _ : Nat) ≤ 9223372036854775807 := (by assumption); simp only [ByteArray.size_extract] at hq_; simp only [decide_eq_true_eq] at *; omega)]; done)
                          rotate_left
                          · simp only [Act.put, List.setIfInBounds_toArray, List.set_cons_zero, List.set_cons_succ, i64_w, i32_w]
                            rfl
                          refine pure_ (i := 17) (N := some 70) (v := ?_) (a' := ?_) #[true, true, true, true, true, true, true, true, true, true, true, true, true, true, true, true, true, true, false, false, false, false, false, false, false, false, false, false, false, false, false, false, false, false, false, false, false, false, false, false, false, false, false, false, false, false, false, false, false, false, false, false, false, false, false, false, false, false, false, false, false] rfl rfl (any_of HT_.out (by kernel_rfl)) (fun _ _ _ h => h) (Or.inl ⟨by rfl, ?_⟩) ?_ ?_
                          rotate_left
                          · intro w'
                            go_simp
                            first | with_reducible rfl | (rw [if_neg (by have hq_ : (_ + _ : Nat) ≤ 9223372036854775807 := (by assumption); simp only [ByteArray.size_extract] at hq_; simp only [decide_eq_true_eq] at *; omega)]; done)
                          rotate_left
                          · simp only [Act.put, List.setIfInBounds_toArray, List.set_cons_zero, List.set_cons_succ, i64_w, i32_w]
                            rfl
                          refine pure_ (i := 18) (N := some 71) (v := ?_) (a' := ?_) #[true, true, true, true, true, true, true, true, true, true, true, true, true, true, true, true, true, true, true, false, false, false, false, false, false, false, false, false, false, false, false, false, false, false, false, false, false, false, false, false, false, false, false, false, false, false, false, false, false, false, false, false, false, false, false, false, false, false, false, false, false] rfl rfl (any_of HT_.out (by kernel_rfl)) (fun _ _ _ h => h) (Or.inl ⟨by rfl, ?_⟩) ?_ ?_
                          rotate_left
                          · intro w'
                            go_simp
                            first | with_reducible rfl | (rw [if_neg (by have hq_ : (_ + _ : Nat) ≤ 9223372036854775807 := (by assumption); simp only [ByteArray.size_extract] at hq_; simp only [decide_eq_true_eq] at *; omega)]; done)
                          rotate_left
                          · simp only [Act.put, List.setIfInBounds_toArray, List.set_cons_zero, List.set_cons_succ, i64_w, i32_w]
                            rfl
                          refine pure_ (i := 19) (N := some 72) (v := ?_) (a' := ?_) #[true, true, true, true, true, true, true, true, true, true, true, true, true, true, true, true, true, true, true, true, false, false, false, false, false, false, false, false, false, false, false, false, false, false, false, false, false, false, false, false, false, false, false, false, false, false, false, false, false, false, false, false, false, false, false, false, false, false, false, false, false] rfl rfl (any_of HT_.out (by kernel_rfl)) (fun _ _ _ h => h) (Or.inl ⟨by rfl, ?_⟩) ?_ ?_
                          rotate_left
                          · intro w'
                            go_simp
                            first | with_reducible rfl | (rw [if_neg (by have hq_ : (_ + _ : Nat) ≤ 9223372036854775807 := (by assumption); simp only [ByteArray.size_extract] at hq_; simp only [decide_eq_true_eq] at *; omega)]; done)
                          rotate_left
                          · simp only [Act.put, List.setIfInBounds_toArray, List.set_cons_zero, List.set_cons_succ, i64_w, i32_w]
                            rfl
                          refine one_ (i := 20) (N := some 73) #[true, true, true, true, true, true, true, true, true, true, true, true, true, true, true, true, true, true, true, true, true, false, false, false, false, false, false, false, false, false, false, false, false, false, false, false, false, false, false, false, false, false, false, false, false, false, false, false, false, false, false, false, false, false, false, false, false, false, false, false, false] rfl rfl (one_of HT_.out (by kernel_rfl)) (by decide) (fun K hK => ?_)
                          refine goes_ Try.func24 (by kernel_rfl) rfl #[.int .i64 t179] (by rfl) rfl rfl (by (try simp only [List.map_toArray, List.map_cons, List.map_nil]); first | done | rfl | (simp only [List.length_drop, List.length_take]; rfl)) ?_
                          with_reducible refine (heirloomlaw01_no.calls t179 t205 _ A24.out).mono ?_
                          rintro e w' ⟨rfl, ⟨nd, rfl⟩⟩
                          refine ⟨_, rfl, ?_⟩
                          refine hK.out _ _ ⟨(blk_cell BK164.out 0).trans rfl, (blk_cell BK164.out 1).trans rfl, (blk_cell BK172.out 0).trans rfl, (blk_cell BK172.out 1).trans rfl, (blk_cell BK180.out 0).trans rfl, (blk_cell BK180.out 1).trans rfl, (blk_cell BK192.out 0).trans rfl, (blk_cell BK192.out 1).trans rfl⟩ (fun hHeld => ?_)
                          clear hK K
                          refine norm_ (a' := ?_) ?_ ?_
                          rotate_left
                          · show Act.put _ (some 73) _ = _
                            simp only [Act.put, List.setIfInBounds_toArray, List.set_cons_zero, List.set_cons_succ, i64_w, i32_w]
                            rfl
                          refine pure_ (i := 21) (N := some 74) (v := ?_) (a' := ?_) #[true, true, true, true, true, true, true, true, true, true, true, true, true, true, true, true, true, true, true, true, true, true, false, false, false, false, false, false, false, false, false, false, false, false, false, false, false, false, false, false, false, false, false, false, false, false, false, false, false, false, false, false, false, false, false, false, false, false, false, false, false] rfl rfl (any_of HT_.out (by kernel_rfl)) (fun _ _ _ h => h) (Or.inl ⟨by rfl, ?_⟩) ?_ ?_
                          rotate_left
                          · intro w'
                            go_simp
                            first | with_reducible rfl | (rw [if_neg (by have hq_ : (_ + _ : Nat) ≤ 9223372036854775807 := (by assumption); simp only [ByteArray.size_extract] at hq_; simp only [decide_eq_true_eq] at *; omega)]; done)
                          rotate_left
                          · simp only [Act.put, List.setIfInBounds_toArray, List.set_cons_zero, List.set_cons_succ, i64_w, i32_w]
                            rfl
                          refine pure_ (i := 22) (N := some 75) (v := ?_) (a' := ?_) #[true, true, true, true, true, true, true, true, true, true, true, true, true, true, true, true, true, true, true, true, true, true, true, false, false, false, false, false, false, false, false, false, false, false, false, false, false, false, false, false, false, false, false, false, false, false, false, false, false, false, false, false, false, false, false, false, false, false, false, false, false] rfl rfl (any_of HT_.out (by kernel_rfl)) (fun _ _ _ h => h) (Or.inl ⟨by rfl, ?_⟩) ?_ ?_
                          rotate_left
                          · intro w'
                            go_simp
                            first | with_reducible rfl | (rw [if_neg (by have hq_ : (_ + _ : Nat) ≤ 9223372036854775807 := (by assumption); simp only [ByteArray.size_extract] at hq_; simp only [decide_eq_true_eq] at *; omega)]; done)
                          rotate_left
                          · simp only [Act.put, List.setIfInBounds_toArray, List.set_cons_zero, List.set_cons_succ, i64_w, i32_w]
                            rfl
                          refine pure_ (i := 23) (N := some 76) (v := ?_) (a' := ?_) #[true, true, true, true, true, true, true, true, true, true, true, true, true, true, true, true, true, true, true, true, true, true, true, true, false, false, false, false, false, false, false, false, false, false, false, false, false, false, false, false, false, false, false, false, false, false, false, false, false, false, false, false, false, false, false, false, false, false, false, false, false] rfl rfl (any_of HT_.out (by kernel_rfl)) (fun _ _ _ h => h) (Or.inl ⟨by rfl, ?_⟩) ?_ ?_
                          rotate_left
                          · intro w'
                            go_simp
                            first | with_reducible rfl | (rw [if_neg (by have hq_ : (_ + _ : Nat) ≤ 9223372036854775807 := (by assumption); simp only [ByteArray.size_extract] at hq_; simp only [decide_eq_true_eq] at *; omega)]; done)
                          rotate_left
                          · simp only [Act.put, List.setIfInBounds_toArray, List.set_cons_zero, List.set_cons_succ, i64_w, i32_w]
                            rfl
                          refine pure_ (i := 24) (N := some 77) (v := ?_) (a' := ?_) #[true, true, true, true, true, true, true, true, true, true, true, true, true, true, true, true, true, true, true, true, true, true, true, true, true, false, false, false, false, false, false, false, false, false, false, false, false, false, false, false, false, false, false, false, false, false, false, false, false, false, false, false, false, false, false, false, false, false, false, false, false] rfl rfl (any_of HT_.out (by kernel_rfl)) (fun _ _ _ h => h) (Or.inl ⟨by rfl, ?_⟩) ?_ ?_
                          rotate_left
                          · intro w'
                            go_simp
                            first | with_reducible rfl | (rw [if_neg (by have hq_ : (_ + _ : Nat) ≤ 9223372036854775807 := (by assumption); simp only [ByteArray.size_extract] at hq_; simp only [decide_eq_true_eq] at *; omega)]; done)
                          rotate_left
                          · simp only [Act.put, List.setIfInBounds_toArray, List.set_cons_zero, List.set_cons_succ, i64_w, i32_w]
                            rfl
                          refine take_ (i := 25) (N := some 78) (v := ?_) (a' := ?_) #[true, true, true, true, true, true, true, true, true, true, true, true, true, true, true, true, true, true, true, true, true, true, true, true, true, true, false, false, false, false, false, false, false, false, false, false, false, false, false, false, false, false, false, false, false, false, false, false, false, false, false, false, false, false, false, false, false, false, false, false, false] rfl rfl (take_ofW HT_.out HW_.out (by kernel_rfl)) (fun _ _ _ h => h) (Or.inl ⟨by rfl, ?_⟩) hHeld ?_ ?_
                          rotate_left
                          · rintro w' ⟨s0, s1, s2, s3, s4, s5, s6, s7⟩
                            go_simp
                            first | with_reducible rfl | (rw [if_neg (by have hq_ : (_ + _ : Nat) ≤ 9223372036854775807 := (by assumption); simp only [ByteArray.size_extract] at hq_; simp only [decide_eq_true_eq] at *; omega)]; done)
                          rotate_left
                          · simp only [Act.put, List.setIfInBounds_toArray, List.set_cons_zero, List.set_cons_succ, i64_w, i32_w]
                            rfl
                          refine pure_ (i := 26) (N := some 79) (v := ?_) (a' := ?_) #[true, true, true, true, true, true, true, true, true, true, true, true, true, true, true, true, true, true, true, true, true, true, true, true, true, true, true, false, false, false, false, false, false, false, false, false, false, false, false, false, false, false, false, false, false, false, false, false, false, false, false, false, false, false, false, false, false, false, false, false, false] rfl rfl (any_of HT_.out (by kernel_rfl)) (fun _ _ _ h => h) (Or.inl ⟨by rfl, ?_⟩) ?_ ?_
                          rotate_left
                          · intro w'
                            go_simp
                            first | with_reducible rfl | (rw [if_neg (by have hq_ : (_ + _ : Nat) ≤ 9223372036854775807 := (by assumption); simp only [ByteArray.size_extract] at hq_; simp only [decide_eq_true_eq] at *; omega)]; done)
                          rotate_left
                          · simp only [Act.put, List.setIfInBounds_toArray, List.set_cons_zero, List.set_cons_succ, i64_w, i32_w]
                            rfl
                          refine pure_ (i := 27) (N := some 80) (v := ?_) (a' := ?_) #[true, true, true, true, true, true, true, true, true, true, true, true, true, true, true, true, true, true, true, true, true, true, true, true, true, true, true, true, false, false, false, false, false, false, false, false, false, false, false, false, false, false, false, false, false, false, false, false, false, false, false, false, false, false, false, false, false, false, false, false, false] rfl rfl (any_of HT_.out (by kernel_rfl)) (fun _ _ _ h => h) (Or.inl ⟨by rfl, ?_⟩) ?_ ?_
                          rotate_left
                          · intro w'
                            go_simp
                            first | with_reducible rfl | (rw [if_neg (by have hq_ : (_ + _ : Nat) ≤ 9223372036854775807 := (by assumption); simp only [ByteArray.size_extract] at hq_; simp only [decide_eq_true_eq] at *; omega)]; done)
                          rotate_left
                          · simp only [Act.put, List.setIfInBounds_toArray, List.set_cons_zero, List.set_cons_succ, i64_w, i32_w]
                            rfl
                          refine pure_ (i := 28) (N := some 81) (v := ?_) (a' := ?_) #[true, true, true, true, true, true, true, true, true, true, true, true, true, true, true, true, true, true, true, true, true, true, true, true, true, true, true, true, true, false, false, false, false, false, false, false, false, false, false, false, false, false, false, false, false, false, false, false, false, false, false, false, false, false, false, false, false, false, false, false, false] rfl rfl (any_of HT_.out (by kernel_rfl)) (fun _ _ _ h => h) (Or.inl ⟨by rfl, ?_⟩) ?_ ?_
                          rotate_left
                          · intro w'
                            go_simp
                            first | with_reducible rfl | (rw [if_neg (by have hq_ : (_ + _ : Nat) ≤ 9223372036854775807 := (by assumption); simp only [ByteArray.size_extract] at hq_; simp only [decide_eq_true_eq] at *; omega)]; done)
                          rotate_left
                          · simp only [Act.put, List.setIfInBounds_toArray, List.set_cons_zero, List.set_cons_succ, i64_w, i32_w]
                            rfl
                          refine pure_ (i := 29) (N := some 82) (v := ?_) (a' := ?_) #[true, true, true, true, true, true, true, true, true, true, true, true, true, true, true, true, true, true, true, true, true, true, true, true, true, true, true, true, true, true, false, false, false, false, false, false, false, false, false, false, false, false, false, false, false, false, false, false, false, false, false, false, false, false, false, false, false, false, false, false, false] rfl rfl (any_of HT_.out (by kernel_rfl)) (fun _ _ _ h => h) (Or.inl ⟨by rfl, ?_⟩) ?_ ?_
                          rotate_left
                          · intro w'
                            go_simp
                            first | with_reducible rfl | (rw [if_neg (by have hq_ : (_ + _ : Nat) ≤ 9223372036854775807 := (by assumption); simp only [ByteArray.size_extract] at hq_; simp only [decide_eq_true_eq] at *; omega)]; done)
                          rotate_left
                          · simp only [Act.put, List.setIfInBounds_toArray, List.set_cons_zero, List.set_cons_succ, i64_w, i32_w]
                            rfl
                          refine one_ (i := 30) (N := some 83) #[true, true, true, true, true, true, true, true, true, true, true, true, true, true, true, true, true, true, true, true, true, true, true, true, true, true, true, true, true, true, true, false, false, false, false, false, false, false, false, false, false, false, false, false, false, false, false, false, false, false, false, false, false, false, false, false, false, false, false, false, false] rfl rfl (one_of HT_.out (by kernel_rfl)) (by decide) (fun K hK => ?_)
                          refine goes_ Try.func24 (by kernel_rfl) rfl #[.int .i64 t187] (by rfl) rfl rfl (by (try simp only [List.map_toArray, List.map_cons, List.map_nil]); first | done | rfl | (simp only [List.length_drop, List.length_take]; rfl)) ?_
                          with_reducible refine (heirloomlaw01_no.calls t187 t206 _ A27.out).mono ?_
                          rintro e w' ⟨rfl, ⟨nd, rfl⟩⟩
                          refine ⟨_, rfl, ?_⟩
                          refine hK.out _ _ ⟨(blk_cell BK164.out 0).trans rfl, (blk_cell BK164.out 1).trans rfl, (blk_cell BK172.out 0).trans rfl, (blk_cell BK172.out 1).trans rfl, (blk_cell BK180.out 0).trans rfl, (blk_cell BK180.out 1).trans rfl, (blk_cell BK192.out 0).trans rfl, (blk_cell BK192.out 1).trans rfl⟩ (fun hHeld => ?_)
                          clear hK K
                          refine norm_ (a' := ?_) ?_ ?_
                          rotate_left
                          · show Act.put _ (some 83) _ = _
                            simp only [Act.put, List.setIfInBounds_toArray, List.set_cons_zero, List.set_cons_succ, i64_w, i32_w]
                            rfl
                          refine pure_ (i := 31) (N := some 84) (v := ?_) (a' := ?_) #[true, true, true, true, true, true, true, true, true, true, true, true, true, true, true, true, true, true, true, true, true, true, true, true, true, true, true, true, true, true, true, true, false, false, false, false, false, false, false, false, false, false, false, false, false, false, false, false, false, false, false, false, false, false, false, false, false, false, false, false, false] rfl rfl (any_of HT_.out (by kernel_rfl)) (fun _ _ _ h => h) (Or.inl ⟨by rfl, ?_⟩) ?_ ?_
                          rotate_left
                          · intro w'
                            go_simp
                            first | with_reducible rfl | (rw [if_neg (by have hq_ : (_ + _ : Nat) ≤ 9223372036854775807 := (by assumption); simp only [ByteArray.size_extract] at hq_; simp only [decide_eq_true_eq] at *; omega)]; done)
                          rotate_left
                          · simp only [Act.put, List.setIfInBounds_toArray, List.set_cons_zero, List.set_cons_succ, i64_w, i32_w]
                            rfl
                          refine pure_ (i := 32) (N := some 85) (v := ?_) (a' := ?_) #[true, true, true, true, true, true, true, true, true, true, true, true, true, true, true, true, true, true, true, true, true, true, true, true, true, true, true, true, true, true, true, true, true, false, false, false, false, false, false, false, false, false, false, false, false, false, false, false, false, false, false, false, false, false, false, false, false, false, false, false, false] rfl rfl (any_of HT_.out (by kernel_rfl)) (fun _ _ _ h => h) (Or.inl ⟨by rfl, ?_⟩) ?_ ?_
                          rotate_left
                          · intro w'
                            go_simp
                            first | with_reducible rfl | (rw [if_neg (by have hq_ : (_ + _ : Nat) ≤ 9223372036854775807 := (by assumption); simp only [ByteArray.size_extract] at hq_; simp only [decide_eq_true_eq] at *; omega)]; done)
                          rotate_left
                          · simp only [Act.put, List.setIfInBounds_toArray, List.set_cons_zero, List.set_cons_succ, i64_w, i32_w]
                            rfl
                          refine pure_ (i := 33) (N := some 86) (v := ?_) (a' := ?_) #[true, true, true, true, true, true, true, true, true, true, true, true, true, true, true, true, true, true, true, true, true, true, true, true, true, true, true, true, true, true, true, true, true, true, false, false, false, false, false, false, false, false, false, false, false, false, false, false, false, false, false, false, false, false, false, false, false, false, false, false, false] rfl rfl (any_of HT_.out (by kernel_rfl)) (fun _ _ _ h => h) (Or.inl ⟨by rfl, ?_⟩) ?_ ?_
                          rotate_left
                          · intro w'
                            go_simp
                            first | with_reducible rfl | (rw [if_neg (by have hq_ : (_ + _ : Nat) ≤ 9223372036854775807 := (by assumption); simp only [ByteArray.size_extract] at hq_; simp only [decide_eq_true_eq] at *; omega)]; done)
                          rotate_left
                          · simp only [Act.put, List.setIfInBounds_toArray, List.set_cons_zero, List.set_cons_succ, i64_w, i32_w]
                            rfl
                          refine pure_ (i := 34) (N := some 87) (v := ?_) (a' := ?_) #[true, true, true, true, true, true, true, true, true, true, true, true, true, true, true, true, true, true, true, true, true, true, true, true, true, true, true, true, true, true, true, true, true, true, true, false, false, false, false, false, false, false, false, false, false, false, false, false, false, false, false, false, false, false, false, false, false, false, false, false, false] rfl rfl (any_of HT_.out (by kernel_rfl)) (fun _ _ _ h => h) (Or.inl ⟨by rfl, ?_⟩) ?_ ?_
                          rotate_left
                          · intro w'
                            go_simp
                            first | with_reducible rfl | (rw [if_neg (by have hq_ : (_ + _ : Nat) ≤ 9223372036854775807 := (by assumption); simp only [ByteArray.size_extract] at hq_; simp only [decide_eq_true_eq] at *; omega)]; done)
                          rotate_left
                          · simp only [Act.put, List.setIfInBounds_toArray, List.set_cons_zero, List.set_cons_succ, i64_w, i32_w]
                            rfl
                          refine one_ (i := 35) (N := some 88) #[true, true, true, true, true, true, true, true, true, true, true, true, true, true, true, true, true, true, true, true, true, true, true, true, true, true, true, true, true, true, true, true, true, true, true, true, false, false, false, false, false, false, false, false, false, false, false, false, false, false, false, false, false, false, false, false, false, false, false, false, false] rfl rfl (one_of HT_.out (by kernel_rfl)) (by decide) (fun K hK => ?_)
                          refine goes_ Try.func24 (by kernel_rfl) rfl #[.int .i64 t191] (by rfl) rfl rfl (by (try simp only [List.map_toArray, List.map_cons, List.map_nil]); first | done | rfl | (simp only [List.length_drop, List.length_take]; rfl)) ?_
                          with_reducible refine (heirloomlaw01_no.calls t191 t207 _ A29.out).mono ?_
                          rintro e w' ⟨rfl, ⟨nd, rfl⟩⟩
                          refine ⟨_, rfl, ?_⟩
                          refine hK.out _ _ ⟨(blk_cell BK164.out 0).trans rfl, (blk_cell BK164.out 1).trans rfl, (blk_cell BK172.out 0).trans rfl, (blk_cell BK172.out 1).trans rfl, (blk_cell BK180.out 0).trans rfl, (blk_cell BK180.out 1).trans rfl, (blk_cell BK192.out 0).trans rfl, (blk_cell BK192.out 1).trans rfl⟩ (fun hHeld => ?_)
                          clear hK K
                          refine norm_ (a' := ?_) ?_ ?_
                          rotate_left
                          · show Act.put _ (some 88) _ = _
                            simp only [Act.put, List.setIfInBounds_toArray, List.set_cons_zero, List.set_cons_succ, i64_w, i32_w]
                            rfl
                          refine pure_ (i := 36) (N := some 89) (v := ?_) (a' := ?_) #[true, true, true, true, true, true, true, true, true, true, true, true, true, true, true, true, true, true, true, true, true, true, true, true, true, true, true, true, true, true, true, true, true, true, true, true, true, false, false, false, false, false, false, false, false, false, false, false, false, false, false, false, false, false, false, false, false, false, false, false, false] rfl rfl (any_of HT_.out (by kernel_rfl)) (fun _ _ _ h => h) (Or.inl ⟨by rfl, ?_⟩) ?_ ?_
                          rotate_left
                          · intro w'
                            go_simp
                            first | with_reducible rfl | (rw [if_neg (by have hq_ : (_ + _ : Nat) ≤ 9223372036854775807 := (by assumption); simp only [ByteArray.size_extract] at hq_; simp only [decide_eq_true_eq] at *; omega)]; done)
                          rotate_left
                          · simp only [Act.put, List.setIfInBounds_toArray, List.set_cons_zero, List.set_cons_succ, i64_w, i32_w]
                            rfl
                          refine pure_ (i := 37) (N := some 90) (v := ?_) (a' := ?_) #[true, true, true, true, true, true, true, true, true, true, true, true, true, true, true, true, true, true, true, true, true, true, true, true, true, true, true, true, true, true, true, true, true, true, true, true, true, true, false, false, false, false, false, false, false, false, false, false, false, false, false, false, false, false, false, false, false, false, false, false, false] rfl rfl (any_of HT_.out (by kernel_rfl)) (fun _ _ _ h => h) (Or.inl ⟨by rfl, ?_⟩) ?_ ?_
                          rotate_left
                          · intro w'
                            go_simp
                            first | with_reducible rfl | (rw [if_neg (by have hq_ : (_ + _ : Nat) ≤ 9223372036854775807 := (by assumption); simp only [ByteArray.size_extract] at hq_; simp only [decide_eq_true_eq] at *; omega)]; done)
                          rotate_left
                          · simp only [Act.put, List.setIfInBounds_toArray, List.set_cons_zero, List.set_cons_succ, i64_w, i32_w]
                            rfl
                          refine pure_ (i := 38) (N := some 91) (v := ?_) (a' := ?_) #[true, true, true, true, true, true, true, true, true, true, true, true, true, true, true, true, true, true, true, true, true, true, true, true, true, true, true, true, true, true, true, true, true, true, true, true, true, true, true, false, false, false, false, false, false, false, false, false, false, false, false, false, false, false, false, false, false, false, false, false, false] rfl rfl (any_of HT_.out (by kernel_rfl)) (fun _ _ _ h => h) (Or.inl ⟨by rfl, ?_⟩) ?_ ?_
                          rotate_left
                          · intro w'
                            go_simp
                            first | with_reducible rfl | (rw [if_neg (by have hq_ : (_ + _ : Nat) ≤ 9223372036854775807 := (by assumption); simp only [ByteArray.size_extract] at hq_; simp only [decide_eq_true_eq] at *; omega)]; done)
                          rotate_left
                          · simp only [Act.put, List.setIfInBounds_toArray, List.set_cons_zero, List.set_cons_succ, i64_w, i32_w]
                            rfl
                          refine take_ (i := 39) (N := some 92) (v := ?_) (a' := ?_) #[true, true, true, true, true, true, true, true, true, true, true, true, true, true, true, true, true, true, true, true, true, true, true, true, true, true, true, true, true, true, true, true, true, true, true, true, true, true, true, true, false, false, false, false, false, false, false, false, false, false, false, false, false, false, false, false, false, false, false, false, false] rfl rfl (take_ofW HT_.out HW_.out (by kernel_rfl)) (fun _ _ _ h => h) (Or.inl ⟨by rfl, ?_⟩) hHeld ?_ ?_
                          rotate_left
                          · rintro w' ⟨s0, s1, s2, s3, s4, s5, s6, s7⟩
                            go_simp
                            first | with_reducible rfl | (rw [if_neg (by have hq_ : (_ + _ : Nat) ≤ 9223372036854775807 := (by assumption); simp only [ByteArray.size_extract] at hq_; simp only [decide_eq_true_eq] at *; omega)]; done)
                          rotate_left
                          · simp only [Act.put, List.setIfInBounds_toArray, List.set_cons_zero, List.set_cons_succ, i64_w, i32_w]
                            rfl
                          refine one_ (i := 40) (N := some 93) #[true, true, true, true, true, true, true, true, true, true, true, true, true, true, true, true, true, true, true, true, true, true, true, true, true, true, true, true, true, true, true, true, true, true, true, true, true, true, true, true, true, false, false, false, false, false, false, false, false, false, false, false, false, false, false, false, false, false, false, false, false] rfl rfl (one_of HT_.out (by kernel_rfl)) (by decide) (fun K hK => ?_)
                          refine goes_ Try.func18 (by kernel_rfl) rfl #[.float .f64 4609434218613702656] (by rfl) rfl rfl (by (try simp only [List.map_toArray, List.map_cons, List.map_nil]); first | done | rfl | (simp only [List.length_drop, List.length_take]; rfl)) ?_
                          with_reducible refine (num_Float.calls 4609434218613702656 t208 t209 _ A31.out).mono ?_
                          rintro e w84 ⟨rfl, hb⟩
                          refine ⟨_, rfl, ?_⟩
                          have n0_ := Aside0.mk (blk_below (g := gb164) (o := .cells #[.int .i64 t161, .int .i64 t162] 23 (0, 0)) (by (with_reducible repeat first | refine kn ?_ _ | refine kd ?_ | refine ka ?_ _); exact BK164.out) hb)
                          have n1_ := Aside0.mk (blk_below (g := gb172) (o := .cells #[.int .i64 t169, .int .i64 t170] 23 (0, 0)) (by (with_reducible repeat first | refine kn ?_ _ | refine kd ?_ | refine ka ?_ _); exact BK172.out) hb)
                          have n2_ := Aside0.mk (blk_below (g := gb180) (o := .cells #[.int .i64 t177, .int .i64 t178] 23 (0, 0)) (by (with_reducible repeat first | refine kn ?_ _ | refine kd ?_ | refine ka ?_ _); exact BK180.out) hb)
                          have n3_ := Aside0.mk (blk_below (g := gb188) (o := .cells #[.int .i64 t185, .int .i64 t186] 23 (0, 0)) (by (with_reducible repeat first | refine kn ?_ _ | refine kd ?_ | refine ka ?_ _); exact BK188.out) hb)
                          have n4_ := Aside0.mk (blk_below (g := gb192) (o := .cells #[.int .i64 t189, .int .i64 t190] 23 (0, 0)) (by (with_reducible repeat first | refine kn ?_ _ | refine kd ?_ | refine ka ?_ _); exact BK192.out) hb)
                          have n5_ := Aside0.mk (blk_below (g := gb196) (o := .cells #[.int .i64 t193, .int .i64 t194] 23 (0, 0)) (by (with_reducible repeat first | refine kn ?_ _ | refine kd ?_ | refine ka ?_ _); exact BK196.out) hb)
                          have n6_ := Aside0.mk (below_step (by repeat first | exact HB.out | apply zb | apply zn | apply zd | refine zs ?_ GE164.out | refine zs ?_ GE172.out | refine zs ?_ GE180.out | refine zs ?_ GE188.out | refine zs ?_ GE192.out | refine zs ?_ GE196.out) hb)
                          clear BK164
                          clear BK172
                          clear BK180
                          clear BK188
                          clear BK192
                          clear BK196
                          clear HB
                          have BK164 := n0_
                          have BK172 := n1_
                          have BK180 := n2_
                          have BK188 := n3_
                          have BK192 := n4_
                          have BK196 := n5_
                          have HB := n6_
                          clear n0_ n1_ n2_ n3_ n4_ n5_ n6_
                          (try clear hb)
                          (try clear hb2)
                          (try clear hk)
                          (try clear hi)
                          refine hK.out _ _ ⟨(blk_cell BK164.out 0).trans rfl, (blk_cell BK164.out 1).trans rfl, (blk_cell BK172.out 0).trans rfl, (blk_cell BK172.out 1).trans rfl, (blk_cell BK180.out 0).trans rfl, (blk_cell BK180.out 1).trans rfl, (blk_cell BK192.out 0).trans rfl, (blk_cell BK192.out 1).trans rfl⟩ (fun hHeld => ?_)
                          clear hK K
                          refine norm_ (a' := ?_) ?_ ?_
                          rotate_left
                          · show Act.put _ (some 93) _ = _
                            simp only [Act.put, List.setIfInBounds_toArray, List.set_cons_zero, List.set_cons_succ, i64_w, i32_w]
                            rfl
                          refine pure_ (i := 41) (N := some 94) (v := ?_) (a' := ?_) #[true, true, true, true, true, true, true, true, true, true, true, true, true, true, true, true, true, true, true, true, true, true, true, true, true, true, true, true, true, true, true, true, true, true, true, true, true, true, true, true, true, true, false, false, false, false, false, false, false, false, false, false, false, false, false, false, false, false, false, false, false] rfl rfl (any_of HT_.out (by kernel_rfl)) (fun _ _ _ h => h) (Or.inl ⟨by rfl, ?_⟩) ?_ ?_
                          rotate_left
                          · intro w'
                            go_simp
                            first | with_reducible rfl | (rw [if_neg (by have hq_ : (_ + _ : Nat) ≤ 9223372036854775807 := (by assumption); simp only [ByteArray.size_extract] at hq_; simp only [decide_eq_true_eq] at *; omega)]; done)
                          rotate_left
                          · simp only [Act.put, List.setIfInBounds_toArray, List.set_cons_zero, List.set_cons_succ, i64_w, i32_w]
                            rfl
                          refine pure_ (i := 42) (N := some 95) (v := ?_) (a' := ?_) #[true, true, true, true, true, true, true, true, true, true, true, true, true, true, true, true, true, true, true, true, true, true, true, true, true, true, true, true, true, true, true, true, true, true, true, true, true, true, true, true, true, true, true, false, false, false, false, false, false, false, false, false, false, false, false, false, false, false, false, false, false] rfl rfl (any_of HT_.out (by kernel_rfl)) (fun _ _ _ h => h) (Or.inl ⟨by rfl, ?_⟩) ?_ ?_
                          rotate_left
                          · intro w'
                            go_simp
                            first | with_reducible rfl | (rw [if_neg (by have hq_ : (_ + _ : Nat) ≤ 9223372036854775807 := (by assumption); simp only [ByteArray.size_extract] at hq_; simp only [decide_eq_true_eq] at *; omega)]; done)
                          rotate_left
                          · simp only [Act.put, List.setIfInBounds_toArray, List.set_cons_zero, List.set_cons_succ, i64_w, i32_w]
                            rfl
                          refine pure_ (i := 43) (N := some 96) (v := ?_) (a' := ?_) #[true, true, true, true, true, true, true, true, true, true, true, true, true, true, true, true, true, true, true, true, true, true, true, true, true, true, true, true, true, true, true, true, true, true, true, true, true, true, true, true, true, true, true, true, false, false, false, false, false, false, false, false, false, false, false, false, false, false, false, false, false] rfl rfl (any_of HT_.out (by kernel_rfl)) (fun _ _ _ h => h) (Or.inl ⟨by rfl, ?_⟩) ?_ ?_
                          rotate_left
                          · intro w'
                            go_simp
                            first | with_reducible rfl | (rw [if_neg (by have hq_ : (_ + _ : Nat) ≤ 9223372036854775807 := (by assumption); simp only [ByteArray.size_extract] at hq_; simp only [decide_eq_true_eq] at *; omega)]; done)
                          rotate_left
                          · simp only [Act.put, List.setIfInBounds_toArray, List.set_cons_zero, List.set_cons_succ, i64_w, i32_w]
                            rfl
                          refine pure_ (i := 44) (N := some 97) (v := ?_) (a' := ?_) #[true, true, true, true, true, true, true, true, true, true, true, true, true, true, true, true, true, true, true, true, true, true, true, true, true, true, true, true, true, true, true, true, true, true, true, true, true, true, true, true, true, true, true, true, true, false, false, false, false, false, false, false, false, false, false, false, false, false, false, false, false] rfl rfl (any_of HT_.out (by kernel_rfl)) (fun _ _ _ h => h) (Or.inl ⟨by rfl, ?_⟩) ?_ ?_
                          rotate_left
                          · intro w'
                            go_simp
                            first | with_reducible rfl | (rw [if_neg (by have hq_ : (_ + _ : Nat) ≤ 9223372036854775807 := (by assumption); simp only [ByteArray.size_extract] at hq_; simp only [decide_eq_true_eq] at *; omega)]; done)
                          rotate_left
                          · simp only [Act.put, List.setIfInBounds_toArray, List.set_cons_zero, List.set_cons_succ, i64_w, i32_w]
                            rfl
                          refine one_ (i := 45) (N := some 98) #[true, true, true, true, true, true, true, true, true, true, true, true, true, true, true, true, true, true, true, true, true, true, true, true, true, true, true, true, true, true, true, true, true, true, true, true, true, true, true, true, true, true, true, true, true, true, false, false, false, false, false, false, false, false, false, false, false, false, false, false, false] rfl rfl (one_of HT_.out (by kernel_rfl)) (by decide) (fun K hK => ?_)
                          refine goes_ Try.func24 (by kernel_rfl) rfl #[.int .i64 t195] (by rfl) rfl rfl (by (try simp only [List.map_toArray, List.map_cons, List.map_nil]); first | done | rfl | (simp only [List.length_drop, List.length_take]; rfl)) ?_
                          with_reducible refine (heirloomlaw01_no.calls t195 t210 _ A33.out).mono ?_
                          rintro e w' ⟨rfl, ⟨nd, rfl⟩⟩
                          refine ⟨_, rfl, ?_⟩
                          refine hK.out _ _ ⟨(blk_cell BK164.out 0).trans rfl, (blk_cell BK164.out 1).trans rfl, (blk_cell BK172.out 0).trans rfl, (blk_cell BK172.out 1).trans rfl, (blk_cell BK180.out 0).trans rfl, (blk_cell BK180.out 1).trans rfl, (blk_cell BK192.out 0).trans rfl, (blk_cell BK192.out 1).trans rfl⟩ (fun hHeld => ?_)
                          clear hK K
                          refine norm_ (a' := ?_) ?_ ?_
                          rotate_left
                          · show Act.put _ (some 98) _ = _
                            simp only [Act.put, List.setIfInBounds_toArray, List.set_cons_zero, List.set_cons_succ, i64_w, i32_w]
                            rfl
                          refine pure_ (i := 46) (N := some 99) (v := ?_) (a' := ?_) #[true, true, true, true, true, true, true, true, true, true, true, true, true, true, true, true, true, true, true, true, true, true, true, true, true, true, true, true, true, true, true, true, true, true, true, true, true, true, true, true, true, true, true, true, true, true, true, false, false, false, false, false, false, false, false, false, false, false, false, false, false] rfl rfl (any_of HT_.out (by kernel_rfl)) (fun _ _ _ h => h) (Or.inl ⟨by rfl, ?_⟩) ?_ ?_
                          rotate_left
                          · intro w'
                            go_simp
                            first | with_reducible rfl | (rw [if_neg (by have hq_ : (_ + _ : Nat) ≤ 9223372036854775807 := (by assumption); simp only [ByteArray.size_extract] at hq_; simp only [decide_eq_true_eq] at *; omega)]; done)
                          rotate_left
                          · simp only [Act.put, List.setIfInBounds_toArray, List.set_cons_zero, List.set_cons_succ, i64_w, i32_w]
                            rfl
                          refine pure_ (i := 47) (N := some 100) (v := ?_) (a' := ?_) #[true, true, true, true, true, true, true, true, true, true, true, true, true, true, true, true, true, true, true, true, true, true, true, true, true, true, true, true, true, true, true, true, true, true, true, true, true, true, true, true, true, true, true, true, true, true, true, true, false, false, false, false, false, false, false, false, false, false, false, false, false] rfl rfl (any_of HT_.out (by kernel_rfl)) (fun _ _ _ h => h) (Or.inl ⟨by rfl, ?_⟩) ?_ ?_
                          rotate_left
                          · intro w'
                            go_simp
                            first | with_reducible rfl | (rw [if_neg (by have hq_ : (_ + _ : Nat) ≤ 9223372036854775807 := (by assumption); simp only [ByteArray.size_extract] at hq_; simp only [decide_eq_true_eq] at *; omega)]; done)
                          rotate_left
                          · simp only [Act.put, List.setIfInBounds_toArray, List.set_cons_zero, List.set_cons_succ, i64_w, i32_w]
                            rfl
                          refine pure_ (i := 48) (N := some 101) (v := ?_) (a' := ?_) #[true, true, true, true, true, true, true, true, true, true, true, true, true, true, true, true, true, true, true, true, true, true, true, true, true, true, true, true, true, true, true, true, true, true, true, true, true, true, true, true, true, true, true, true, true, true, true, true, true, false, false, false, false, false, false, false, false, false, false, false, false] rfl rfl (any_of HT_.out (by kernel_rfl)) (fun _ _ _ h => h) (Or.inl ⟨by rfl, ?_⟩) ?_ ?_
                          rotate_left
                          · intro w'
                            go_simp
                            first | with_reducible rfl | (rw [if_neg (by have hq_ : (_ + _ : Nat) ≤ 9223372036854775807 := (by assumption); simp only [ByteArray.size_extract] at hq_; simp only [decide_eq_true_eq] at *; omega)]; done)
                          rotate_left
                          · simp only [Act.put, List.setIfInBounds_toArray, List.set_cons_zero, List.set_cons_succ, i64_w, i32_w]
                            rfl
                          refine pure_ (i := 49) (N := some 102) (v := ?_) (a' := ?_) #[true, true, true, true, true, true, true, true, true, true, true, true, true, true, true, true, true, true, true, true, true, true, true, true, true, true, true, true, true, true, true, true, true, true, true, true, true, true, true, true, true, true, true, true, true, true, true, true, true, true, false, false, false, false, false, false, false, false, false, false, false] rfl rfl (any_of HT_.out (by kernel_rfl)) (fun _ _ _ h => h) (Or.inl ⟨by rfl, ?_⟩) ?_ ?_
                          rotate_left
                          · intro w'
                            go_simp
                            first | with_reducible rfl | (rw [if_neg (by have hq_ : (_ + _ : Nat) ≤ 9223372036854775807 := (by assumption); simp only [ByteArray.size_extract] at hq_; simp only [decide_eq_true_eq] at *; omega)]; done)
                          rotate_left
                          · simp only [Act.put, List.setIfInBounds_toArray, List.set_cons_zero, List.set_cons_succ, i64_w, i32_w]
                            rfl
                          refine pure_ (i := 50) (N := some 103) (v := ?_) (a' := ?_) #[true, true, true, true, true, true, true, true, true, true, true, true, true, true, true, true, true, true, true, true, true, true, true, true, true, true, true, true, true, true, true, true, true, true, true, true, true, true, true, true, true, true, true, true, true, true, true, true, true, true, true, false, false, false, false, false, false, false, false, false, false] rfl rfl (any_of HT_.out (by kernel_rfl)) (fun _ _ _ h => h) (Or.inl ⟨by rfl, ?_⟩) ?_ ?_
                          rotate_left
                          · intro w'
                            go_simp
                            first | with_reducible rfl | (rw [if_neg (by have hq_ : (_ + _ : Nat) ≤ 9223372036854775807 := (by assumption); simp only [ByteArray.size_extract] at hq_; simp only [decide_eq_true_eq] at *; omega)]; done)
                          rotate_left
                          · simp only [Act.put, List.setIfInBounds_toArray, List.set_cons_zero, List.set_cons_succ, i64_w, i32_w]
                            rfl
                          refine pure_ (i := 51) (N := some 104) (v := ?_) (a' := ?_) #[true, true, true, true, true, true, true, true, true, true, true, true, true, true, true, true, true, true, true, true, true, true, true, true, true, true, true, true, true, true, true, true, true, true, true, true, true, true, true, true, true, true, true, true, true, true, true, true, true, true, true, true, false, false, false, false, false, false, false, false, false] rfl rfl (any_of HT_.out (by kernel_rfl)) (fun _ _ _ h => h) (Or.inl ⟨by rfl, ?_⟩) ?_ ?_
                          rotate_left
                          · intro w'
                            go_simp
                            first | with_reducible rfl | (rw [if_neg (by have hq_ : (_ + _ : Nat) ≤ 9223372036854775807 := (by assumption); simp only [ByteArray.size_extract] at hq_; simp only [decide_eq_true_eq] at *; omega)]; done)
                          rotate_left
                          · simp only [Act.put, List.setIfInBounds_toArray, List.set_cons_zero, List.set_cons_succ, i64_w, i32_w]
                            rfl
                          refine pure_ (i := 52) (N := some 105) (v := ?_) (a' := ?_) #[true, true, true, true, true, true, true, true, true, true, true, true, true, true, true, true, true, true, true, true, true, true, true, true, true, true, true, true, true, true, true, true, true, true, true, true, true, true, true, true, true, true, true, true, true, true, true, true, true, true, true, true, true, false, false, false, false, false, false, false, false] rfl rfl (any_of HT_.out (by kernel_rfl)) (fun _ _ _ h => h) (Or.inl ⟨by rfl, ?_⟩) ?_ ?_
                          rotate_left
                          · intro w'
                            go_simp
                            first | with_reducible rfl | (rw [if_neg (by have hq_ : (_ + _ : Nat) ≤ 9223372036854775807 := (by assumption); simp only [ByteArray.size_extract] at hq_; simp only [decide_eq_true_eq] at *; omega)]; done)
                          rotate_left
                          · simp only [Act.put, List.setIfInBounds_toArray, List.set_cons_zero, List.set_cons_succ, i64_w, i32_w]
                            rfl
                          refine pure_ (i := 53) (N := some 106) (v := ?_) (a' := ?_) #[true, true, true, true, true, true, true, true, true, true, true, true, true, true, true, true, true, true, true, true, true, true, true, true, true, true, true, true, true, true, true, true, true, true, true, true, true, true, true, true, true, true, true, true, true, true, true, true, true, true, true, true, true, true, false, false, false, false, false, false, false] rfl rfl (any_of HT_.out (by kernel_rfl)) (fun _ _ _ h => h) (Or.inl ⟨by rfl, ?_⟩) ?_ ?_
                          rotate_left
                          · intro w'
                            go_simp
                            first | with_reducible rfl | (rw [if_neg (by have hq_ : (_ + _ : Nat) ≤ 9223372036854775807 := (by assumption); simp only [ByteArray.size_extract] at hq_; simp only [decide_eq_true_eq] at *; omega)]; done)
                          rotate_left
                          · simp only [Act.put, List.setIfInBounds_toArray, List.set_cons_zero, List.set_cons_succ, i64_w, i32_w]
                            rfl
                          refine pure_ (i := 54) (N := some 107) (v := ?_) (a' := ?_) #[true, true, true, true, true, true, true, true, true, true, true, true, true, true, true, true, true, true, true, true, true, true, true, true, true, true, true, true, true, true, true, true, true, true, true, true, true, true, true, true, true, true, true, true, true, true, true, true, true, true, true, true, true, true, true, false, false, false, false, false, false] rfl rfl (any_of HT_.out (by kernel_rfl)) (fun _ _ _ h => h) (Or.inl ⟨by rfl, ?_⟩) ?_ ?_
                          rotate_left
                          · intro w'
                            go_simp
                            first | with_reducible rfl | (rw [if_neg (by have hq_ : (_ + _ : Nat) ≤ 9223372036854775807 := (by assumption); simp only [ByteArray.size_extract] at hq_; simp only [decide_eq_true_eq] at *; omega)]; done)
                          rotate_left
                          · simp only [Act.put, List.setIfInBounds_toArray, List.set_cons_zero, List.set_cons_succ, i64_w, i32_w]
                            rfl
                          refine pure_ (i := 55) (N := some 108) (v := ?_) (a' := ?_) #[true, true, true, true, true, true, true, true, true, true, true, true, true, true, true, true, true, true, true, true, true, true, true, true, true, true, true, true, true, true, true, true, true, true, true, true, true, true, true, true, true, true, true, true, true, true, true, true, true, true, true, true, true, true, true, true, false, false, false, false, false] rfl rfl (any_of HT_.out (by kernel_rfl)) (fun _ _ _ h => h) (Or.inl ⟨by rfl, ?_⟩) ?_ ?_
                          rotate_left
                          · intro w'
                            go_simp
                            first | with_reducible rfl | (rw [if_neg (by have hq_ : (_ + _ : Nat) ≤ 9223372036854775807 := (by assumption); simp only [ByteArray.size_extract] at hq_; simp only [decide_eq_true_eq] at *; omega)]; done)
                          rotate_left
                          · simp only [Act.put, List.setIfInBounds_toArray, List.set_cons_zero, List.set_cons_succ, i64_w, i32_w]
                            rfl
                          refine one_ (i := 56) (N := some 109) #[true, true, true, true, true, true, true, true, true, true, true, true, true, true, true, true, true, true, true, true, true, true, true, true, true, true, true, true, true, true, true, true, true, true, true, true, true, true, true, true, true, true, true, true, true, true, true, true, true, true, true, true, true, true, true, true, true, false, false, false, false] rfl rfl (one_of HT_.out (by kernel_rfl)) (by decide) (fun K hK => ?_)
                          refine goes_ Try.func18 (by kernel_rfl) rfl #[.float .f64 4607182418800017408] (by rfl) rfl rfl (by (try simp only [List.map_toArray, List.map_cons, List.map_nil]); first | done | rfl | (simp only [List.length_drop, List.length_take]; rfl)) ?_
                          with_reducible refine (num_Float.calls 4607182418800017408 t211 t212 _ A37.out).mono ?_
                          rintro e w85 ⟨rfl, hb⟩
                          refine ⟨_, rfl, ?_⟩
                          have n0_ := Aside0.mk (blk_below (g := gb164) (o := .cells #[.int .i64 t161, .int .i64 t162] 23 (0, 0)) (by (with_reducible repeat first | refine kn ?_ _ | refine kd ?_ | refine ka ?_ _); exact BK164.out) hb)
                          have n1_ := Aside0.mk (blk_below (g := gb172) (o := .cells #[.int .i64 t169, .int .i64 t170] 23 (0, 0)) (by (with_reducible repeat first | refine kn ?_ _ | refine kd ?_ | refine ka ?_ _); exact BK172.out) hb)
                          have n2_ := Aside0.mk (blk_below (g := gb180) (o := .cells #[.int .i64 t177, .int .i64 t178] 23 (0, 0)) (by (with_reducible repeat first | refine kn ?_ _ | refine kd ?_ | refine ka ?_ _); exact BK180.out) hb)
                          have n3_ := Aside0.mk (blk_below (g := gb188) (o := .cells #[.int .i64 t185, .int .i64 t186] 23 (0, 0)) (by (with_reducible repeat first | refine kn ?_ _ | refine kd ?_ | refine ka ?_ _); exact BK188.out) hb)
                          have n4_ := Aside0.mk (blk_below (g := gb192) (o := .cells #[.int .i64 t189, .int .i64 t190] 23 (0, 0)) (by (with_reducible repeat first | refine kn ?_ _ | refine kd ?_ | refine ka ?_ _); exact BK192.out) hb)
                          have n5_ := Aside0.mk (blk_below (g := gb196) (o := .cells #[.int .i64 t193, .int .i64 t194] 23 (0, 0)) (by (with_reducible repeat first | refine kn ?_ _ | refine kd ?_ | refine ka ?_ _); exact BK196.out) hb)
                          have n6_ := Aside0.mk (below_step (by repeat first | exact HB.out | apply zb | apply zn | apply zd | refine zs ?_ GE164.out | refine zs ?_ GE172.out | refine zs ?_ GE180.out | refine zs ?_ GE188.out | refine zs ?_ GE192.out | refine zs ?_ GE196.out) hb)
                          clear BK164
                          clear BK172
                          clear BK180
                          clear BK188
                          clear BK192
                          clear BK196
                          clear HB
                          have BK164 := n0_
                          have BK172 := n1_
                          have BK180 := n2_
                          have BK188 := n3_
                          have BK192 := n4_
                          have BK196 := n5_
                          have HB := n6_
                          clear n0_ n1_ n2_ n3_ n4_ n5_ n6_
                          (try clear hb)
                          (try clear hb2)
                          (try clear hk)
                          (try clear hi)
                          refine hK.out _ _ ⟨(blk_cell BK164.out 0).trans rfl, (blk_cell BK164.out 1).trans rfl, (blk_cell BK172.out 0).trans rfl, (blk_cell BK172.out 1).trans rfl, (blk_cell BK180.out 0).trans rfl, (blk_cell BK180.out 1).trans rfl, (blk_cell BK192.out 0).trans rfl, (blk_cell BK192.out 1).trans rfl⟩ (fun hHeld => ?_)
                          clear hK K
                          refine norm_ (a' := ?_) ?_ ?_
                          rotate_left
                          · show Act.put _ (some 109) _ = _
                            simp only [Act.put, List.setIfInBounds_toArray, List.set_cons_zero, List.set_cons_succ, i64_w, i32_w]
                            rfl
                          refine one_ (i := 57) (N := some 110) #[true, true, true, true, true, true, true, true, true, true, true, true, true, true, true, true, true, true, true, true, true, true, true, true, true, true, true, true, true, true, true, true, true, true, true, true, true, true, true, true, true, true, true, true, true, true, true, true, true, true, true, true, true, true, true, true, true, true, false, false, false] rfl rfl (one_of HT_.out (by kernel_rfl)) (by decide) (fun K hK => ?_)
                          refine goes_ Try.func32 (by kernel_rfl) rfl #[.agg #[.int .i64 t211, .int .i64 t212]] (by rfl) rfl rfl (by (try simp only [List.map_toArray, List.map_cons, List.map_nil]); first | done | rfl | (simp only [List.length_drop, List.length_take]; rfl)) ?_
                          with_reducible refine (num_Text.calls t211 t212 t213 _ A38.out).mono ?_
                          rintro e w86 ⟨rfl, hb⟩
                          refine ⟨_, rfl, ?_⟩
                          have n0_ := Aside0.mk (blk_below (g := gb164) (o := .cells #[.int .i64 t161, .int .i64 t162] 23 (0, 0)) (by (with_reducible repeat first | refine kn ?_ _ | refine kd ?_ | refine ka ?_ _); exact BK164.out) hb)
                          have n1_ := Aside0.mk (blk_below (g := gb172) (o := .cells #[.int .i64 t169, .int .i64 t170] 23 (0, 0)) (by (with_reducible repeat first | refine kn ?_ _ | refine kd ?_ | refine ka ?_ _); exact BK172.out) hb)
                          have n2_ := Aside0.mk (blk_below (g := gb180) (o := .cells #[.int .i64 t177, .int .i64 t178] 23 (0, 0)) (by (with_reducible repeat first | refine kn ?_ _ | refine kd ?_ | refine ka ?_ _); exact BK180.out) hb)
                          have n3_ := Aside0.mk (blk_below (g := gb188) (o := .cells #[.int .i64 t185, .int .i64 t186] 23 (0, 0)) (by (with_reducible repeat first | refine kn ?_ _ | refine kd ?_ | refine ka ?_ _); exact BK188.out) hb)
                          have n4_ := Aside0.mk (blk_below (g := gb192) (o := .cells #[.int .i64 t189, .int .i64 t190] 23 (0, 0)) (by (with_reducible repeat first | refine kn ?_ _ | refine kd ?_ | refine ka ?_ _); exact BK192.out) hb)
                          have n5_ := Aside0.mk (blk_below (g := gb196) (o := .cells #[.int .i64 t193, .int .i64 t194] 23 (0, 0)) (by (with_reducible repeat first | refine kn ?_ _ | refine kd ?_ | refine ka ?_ _); exact BK196.out) hb)
                          have n6_ := Aside0.mk (below_step (by repeat first | exact HB.out | apply zb | apply zn | apply zd | refine zs ?_ GE164.out | refine zs ?_ GE172.out | refine zs ?_ GE180.out | refine zs ?_ GE188.out | refine zs ?_ GE192.out | refine zs ?_ GE196.out) hb)
                          clear BK164
                          clear BK172
                          clear BK180
                          clear BK188
                          clear BK192
                          clear BK196
                          clear HB
                          have BK164 := n0_
                          have BK172 := n1_
                          have BK180 := n2_
                          have BK188 := n3_
                          have BK192 := n4_
                          have BK196 := n5_
                          have HB := n6_
                          clear n0_ n1_ n2_ n3_ n4_ n5_ n6_
                          (try clear hb)
                          (try clear hb2)
                          (try clear hk)
                          (try clear hi)
                          refine hK.out _ _ ⟨(blk_cell BK164.out 0).trans rfl, (blk_cell BK164.out 1).trans rfl, (blk_cell BK172.out 0).trans rfl, (blk_cell BK172.out 1).trans rfl, (blk_cell BK180.out 0).trans rfl, (blk_cell BK180.out 1).trans rfl, (blk_cell BK192.out 0).trans rfl, (blk_cell BK192.out 1).trans rfl⟩ (fun hHeld => ?_)
                          clear hK K
                          refine norm_ (a' := ?_) ?_ ?_
                          rotate_left
                          · show Act.put _ (some 110) _ = _
                            simp only [Act.put, List.setIfInBounds_toArray, List.set_cons_zero, List.set_cons_succ, i64_w, i32_w]
                            rfl
                          refine pure_ (i := 58) (N := some 111) (v := ?_) (a' := ?_) #[true, true, true, true, true, true, true, true, true, true, true, true, true, true, true, true, true, true, true, true, true, true, true, true, true, true, true, true, true, true, true, true, true, true, true, true, true, true, true, true, true, true, true, true, true, true, true, true, true, true, true, true, true, true, true, true, true, true, true, false, false] rfl rfl (any_of HT_.out (by kernel_rfl)) (fun _ _ _ h => h) (Or.inl ⟨by rfl, ?_⟩) ?_ ?_
                          rotate_left
                          · intro w'
                            go_simp
                            first | with_reducible rfl | (rw [if_neg (by have hq_ : (_ + _ : Nat) ≤ 9223372036854775807 := (by assumption); simp only [ByteArray.size_extract] at hq_; simp only [decide_eq_true_eq] at *; omega)]; done)
                          rotate_left
                          · simp only [Act.put, List.setIfInBounds_toArray, List.set_cons_zero, List.set_cons_succ, i64_w, i32_w]
                            rfl
                          refine pure_ (i := 59) (N := some 112) (v := ?_) (a' := ?_) #[true, true, true, true, true, true, true, true, true, true, true, true, true, true, true, true, true, true, true, true, true, true, true, true, true, true, true, true, true, true, true, true, true, true, true, true, true, true, true, true, true, true, true, true, true, true, true, true, true, true, true, true, true, true, true, true, true, true, true, true, false] rfl rfl (any_of HT_.out (by kernel_rfl)) (fun _ _ _ h => h) (Or.inl ⟨by rfl, ?_⟩) ?_ ?_
                          rotate_left
                          · intro w'
                            go_simp
                            first | with_reducible rfl | (rw [if_neg (by have hq_ : (_ + _ : Nat) ≤ 9223372036854775807 := (by assumption); simp only [ByteArray.size_extract] at hq_; simp only [decide_eq_true_eq] at *; omega)]; done)
                          rotate_left
                          · simp only [Act.put, List.setIfInBounds_toArray, List.set_cons_zero, List.set_cons_succ, i64_w, i32_w]
                            rfl
                          refine pure_ (i := 60) (N := some 0) (v := ?_) (a' := ?_) #[true, true, true, true, true, true, true, true, true, true, true, true, true, true, true, true, true, true, true, true, true, true, true, true, true, true, true, true, true, true, true, true, true, true, true, true, true, true, true, true, true, true, true, true, true, true, true, true, true, true, true, true, true, true, true, true, true, true, true, true, true] rfl rfl (any_of HT_.out (by kernel_rfl)) (fun _ _ _ h => h) (Or.inl ⟨by rfl, ?_⟩) ?_ ?_
                          rotate_left
                          · intro w'
                            go_simp
                            first | with_reducible rfl | (rw [if_neg (by have hq_ : (_ + _ : Nat) ≤ 9223372036854775807 := (by assumption); simp only [ByteArray.size_extract] at hq_; simp only [decide_eq_true_eq] at *; omega)]; done)
                          rotate_left
                          · simp only [Act.put, List.setIfInBounds_toArray, List.set_cons_zero, List.set_cons_succ, i64_w, i32_w]
                            rfl
                          refine done_ (done_of HT_.out (by kernel_rfl)) ?_
                          try go_wp2
                          go_ret
                          exact ⟨by first | rfl | (simp [errW_none, errW_some] <;> rfl) | (simp [*, errW_none, errW_some] <;> rfl), by repeat first | exact HB.out | apply zb | apply zn | apply zd | refine zs ?_ GE164.out | refine zs ?_ GE172.out | refine zs ?_ GE180.out | refine zs ?_ GE188.out | refine zs ?_ GE192.out | refine zs ?_ GE196.out⟩
                        · rw [if_neg c36] at H
                          have c36b0 : (t201 == 1) = false := beq_eq_false_iff_ne.mpr c36
                          have c36b1 : (t201 != 1) = true := bne_iff_ne.mpr c36
                          exact absurd H (by simp)
                      · replace c35 := Bool.eq_false_iff.mpr c35
                        subst c35
                        have H1 : (none) = some r := by rw [if_neg (show ¬ (false = true) by decide)] at H; exact H
                        clear H
                        have H := H1
                        clear H1
                        exact absurd H (by simp)
                    · rw [if_neg c34] at H
                      have c34b0 : (t210 == 6) = false := beq_eq_false_iff_ne.mpr c34
                      have c34b1 : (t210 != 6) = true := bne_iff_ne.mpr c34
                      exact absurd H (by simp)
                  · rw [if_neg c32] at H
                    have c32b0 : (t189 == t208 && (t190 == t209)) = false := by simpa using c32
                    (try (have c32b1 : decide (t189 = t208 && (t190 == t209)) = false := by simpa using c32))
                    (try (have c32b2 : (t189 == t208 && (t190 == t209)) = false := by simpa using c32))
                    (try (have c32b3 : ¬ (t189 = t208 && (t190 == t209)) := by simpa using c32))
                    clear c32
                    exact absurd H (by simp)
                · rw [if_neg c30] at H
                  have c30b0 : (t207 == 0) = false := beq_eq_false_iff_ne.mpr c30
                  have c30b1 : (t207 != 0) = true := bne_iff_ne.mpr c30
                  exact absurd H (by simp)
              · rw [if_neg c28] at H
                have c28b0 : (t206 == 11) = false := beq_eq_false_iff_ne.mpr c28
                have c28b1 : (t206 != 11) = true := bne_iff_ne.mpr c28
                exact absurd H (by simp)
            · rw [if_neg c26] at H
              have c26b0 : (t178 == 1) = false := beq_eq_false_iff_ne.mpr c26
              have c26b1 : (t178 != 1) = true := bne_iff_ne.mpr c26
              exact absurd H (by simp)
          · rw [if_neg c25] at H
            have c25b0 : (t205 == 0) = false := beq_eq_false_iff_ne.mpr c25
            have c25b1 : (t205 != 0) = true := bne_iff_ne.mpr c25
            exact absurd H (by simp)
        · rw [if_neg c23] at H
          have c23b0 : (t170 == (-4)) = false := beq_eq_false_iff_ne.mpr c23
          have c23b1 : (t170 != (-4)) = true := bne_iff_ne.mpr c23
          exact absurd H (by simp)
      · rw [if_neg c22] at H
        have c22b0 : (t204 == 0) = false := beq_eq_false_iff_ne.mpr c22
        have c22b1 : (t204 != 0) = true := bne_iff_ne.mpr c22
        exact absurd H (by simp)
    · rw [if_neg c20] at H
      have c20b0 : (t162 == (-9223372036854775808)) = false := beq_eq_false_iff_ne.mpr c20
      have c20b1 : (t162 != (-9223372036854775808)) = true := bne_iff_ne.mpr c20
      exact absurd H (by simp)
  · rw [if_neg c19] at H
    have c19b0 : (t203 == 0) = false := beq_eq_false_iff_ne.mpr c19
    have c19b1 : (t203 != 0) = true := bne_iff_ne.mpr c19
    exact absurd H (by simp)

end Go.Proofs.Yticnolkbmpmgcaa.QN
