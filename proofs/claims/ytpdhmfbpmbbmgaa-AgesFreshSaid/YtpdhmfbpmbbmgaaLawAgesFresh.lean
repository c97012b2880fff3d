/- The law AgesFresh: a view in which all are young and white, and each slot leads somewhere, breaks nothing, in either mode: true at every view. No condition. (The row's lines are the kit's printer's.) -/
import Derived.Test.YtpdhmfbpmbbmgaaRows
import Derived.Test.YtpdhmfbpmbbmgaaFg
import Derived.Test.YtpdhmfbpmbbmgaaFi
import Derived.WalkKit
import Derived.ProofKit
import Derived.OpenShut
import Derived.ShutString
import Derived.ChangeOld
import Derived.Below
import Derived.SizedLaws
namespace Go.Proofs.Ytpdhmfbpmbbmgaa.Mp
open Go.RowKit in
theorem afresh_calls (w : World) (m ph wh : Int) (a3 : Option Addr) (c3 : Nat) (S : List Inp) (a4 : Option Addr) (n4 c4 : Nat) (a5 : Option Addr) (n5 c5 : Nat) (a6 : Option Addr) (n6 c6 : Nat) (gen : Bool) (hS : SeenIn w a3 S) (hb : S.length * 80 ≤ reachBytes) (hb5 : n5 * 8 ≤ reachBytes) :
    Calls Try.prog 5 #[.agg #[.int .i64 m, .int .i64 ph, .int .i64 wh, .slice a3 S.length c3, .slice a4 n4 c4, .slice a5 n5 c5, .slice a6 n6 c6], .bool gen] w fun e w' => e = .returned (.bool true) ∧ Below w.heap.size w w' := by
  cases gen
  · exact fresh_inc w m ph wh a3 c3 S a4 n4 c4 a5 n5 c5 a6 n6 c6 hS hb hb5
  · exact fresh_gen w m ph wh a3 c3 S a4 n4 c4 a5 n5 c5 a6 n6 c6 hS hb hb5
end Go.Proofs.Ytpdhmfbpmbbmgaa.Mp
namespace Go.Proofs.Ytpdhmfbpmbbmgaa.agesFresh
open Go.ChangeShapes Go.WideShapes Go.ChangeAt Go.RowKit
open Go.ChangeMaps (open_string shut_string)
set_option linter.unusedVariables false
theorem laidOut : laidOutB Try.prog = true := by kernel_rfl
theorem own : ownKnob Try.prog.godebug = none := by kernel_rfl
set_option maxRecDepth 100000 in
theorem lifted (os : Os) (started : os.Started) (H : Type) (enc : TypeId × Value → H) :
    ReturnsInHanded {} Try.checked os 5 .any (Rows.agesFreshSpec.pre6 enc Try.prog Try.f5 Rows.agesFreshRow.domain false) (Rows.agesFreshSpec.post enc Try.prog Try.f5 false true false false) := by
  refine returnsInHanded_of_change_sized (C := Try.checked) own started (by kernel_rfl) Try.func5
    (ChangeSpec.witness6 (enc := enc) (C := Try.checked) false ⟨#[], #[.agg #[.int .i64 0, .int .i64 0, .int .i64 0, .slice none 0 0, .slice none 0 0, .slice none 0 0, .slice none 0 0], .bool false], []⟩ 8 (by kernel_rfl) (by kernel_rfl) (by kernel_rfl) (by kernel_rfl)) ?_
  intro W base args ds gs before hval0 hW hcnd hsz0 _
  have hsz : (DataW.weightsEach Try.prog (Try.f5.params.toList ++ Rows.agesFreshSpec.plain.varTypes Try.prog) (ds ++ gs)).all (· ≤ reachBytes) = true := hsz0
  have hval : ∀ (j : Nat) t v, Try.f5.params[j]? = some t → args[j]? = some v → Value.okWide Try.prog W .any base t v := hval0
  have hW' := hW
  obtain ⟨p, q, hA0, hV, rfl, hfz, hnd⟩ := hW
  have hA : DataW.TrodAll enc Try.prog W 0 (fun _ => true) true Try.f5.params.toList args.toList ds p := hA0
  rw [Try.params5] at hA hval hsz
  obtain ⟨v0, vs0, d0, ds0, p0, q0, hargs, rfl, rfl, h0, r0⟩ := trodAll_cons hA
  obtain ⟨v1, vs1, d1, ds1, p1, q1, rfl, rfl, rfl, h1, r1⟩ := trodAll_cons r0
  obtain ⟨rfl, rfl, rfl⟩ := trodAll_nil r1
  obtain rfl : args = #[v0, v1] := by cases args; simp_all
  obtain ⟨rfl, rfl⟩ := trodVars_none hV
  obtain ⟨a1, rfl, rfl, rfl⟩ := open_bool Try.underlying4 (hval 1 4 v1 rfl rfl) h1
  obtain ⟨cs, rfl, hcs⟩ := okWide_struct Try.underlying30 (hval 0 30 v0 rfl rfl)
  have k0 := h0
  have lt0 : ∀ x ∈ p0, x.block < W.heap.size := by obtain ⟨m, hm⟩ := k0; exact DataW.trod_lt m _ _ _ hm
  have hw : ∀ n ∈ d0.weights Try.prog 30, n ≤ reachBytes := fun n hn => of_decide_eq_true (List.all_eq_true.1 hsz n (DataW.weights_mem_each (j := 0) rfl rfl n hn))
  obtain ⟨fuel, hf⟩ := h0
  obtain ⟨m, ph, wh, a3, c3, S, a4, n4, c4, a5, n5, c5, a6, n6, c6, hc, hS, hb, hb5⟩ := Mp.open_view hf hw
  obtain rfl : cs = #[.int .i64 m, .int .i64 ph, .int .i64 wh, .slice a3 S.length c3, .slice a4 n4 c4, .slice a5 n5 c5, .slice a6 n6 c6] := by
    have h : cs.toList = _ := hc
    rw [← Array.toArray_toList (xs := cs), h]
  clear hA0 hval0 hsz0 hsz
  refine (Mp.afresh_calls W m ph wh a3 c3 S a4 n4 c4 a5 n5 c5 a6 n6 c6 a1 hS hb hb5).mono fun e W' ⟨he, bel⟩ => ?_
  subst he
  exact ⟨_, rfl, _, _, _, [], _, [], hW', trodAll_mk1 (shut_bool Try.underlying4 _), (trodAll_cons_mk (Below.trod laidOut (by kernel_rfl) (of_decide_eq_true (by kernel_rfl)) k0 bel lt0) (trodAll_cons_mk (shut_bool Try.underlying4 _) trodAll_mk0)), rfl, bel.frame _, fun h => by cases h⟩
theorem over : Rows.agesFreshRow.holds Try.pinned (OpenSpec.ofChange Rows.agesFreshSpec) :=
  OpenClaim.holds_of_wide 5 Try.f5 rfl rfl rfl rfl rfl rfl rfl ⟨rfl, rfl, rfl, rfl, rfl⟩ rfl rfl rfl rfl rfl (by kernel_rfl) Try.func5 (by kernel_rfl)
    (of_decide_eq_true (by kernel_rfl)) (by unfold Func.isWrapper; first | (rw [if_pos (by decide +kernel)]; kernel_rfl) | (rw [if_neg (by decide +kernel)]; exact ⟨rfl, rfl⟩))
    (fun os started H enc _ => lifted os started H enc)
theorem proved : Rows.AgesFreshSaid := over
#print axioms proved
end Go.Proofs.Ytpdhmfbpmbbmgaa.agesFresh
namespace Go.Proofs.Ytpdhmfbpmbbmgaa
/-- The row, under a short name, for the claim. -/
theorem agesFresh_holds : Rows.AgesFreshSaid := agesFresh.proved
end Go.Proofs.Ytpdhmfbpmbbmgaa
