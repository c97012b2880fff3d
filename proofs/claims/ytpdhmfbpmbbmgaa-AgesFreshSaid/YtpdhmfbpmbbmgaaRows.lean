/-
  No cell of these rows narrows 'for every input' (looked for: loops, veiled, ifaces, maps, wideKeys, modest, calm, conditions, laid).
  DERIVED. THE GIVEN ROWS OF THIS SEAT. 4 by the template 'for every input the law returns true; each argument reads behind the call as it read before'; 0 by the template 'total and deterministic' (their statements: YtpdhmfbpmbbmgaaTotals.lean).
  GIVEN WITH THE SEED: the statements are not yours to turn. If you find one false, say at which input.
  Laid BY PROGRAM, IN A SANDBOX (cutbox-rows.mjs): the forced cells as the released guide's own fill.sh prints them over the translation d3d65661c5c6b501… (all of the seat's roots in one cut). By AI agents, Wed Nov 11 2026. No macro, syntax, notation, axiom, sorry.
-/
import Derived.Test.YtpdhmfbpmbbmgaaChecked
import GoSem.Claim
import GoSem.ClaimJoined
import GoSem.ClaimMapViews
import Derived.JoinedTies
import Derived.KernelRfl
namespace Go.Proofs.Ytpdhmfbpmbbmgaa
/- THE CELL 'sum', in the pinned program and in every row, IS THE sha256 OF THE DUMP (.gsa) THAT YtpdhmfbpmbbmgaaProg.lean LOADS. Nothing in Lean hashes anything: it is a label: what it is worth is what the hold of that sum in a sandbox is worth. -/
noncomputable def Try.pinned : Pinned := { name := "ytpdhmfbpmbbmgaa", sum := "d3d65661c5c6b501ed2cdc78cad7c417dd9004e5a4a8325538af94113161c239", checked := Try.checked }
namespace Rows
def none {H : Type} : Left H := { results := [], args := [] }

/-- 'heirloomlaw12.AgesTurn': WHATEVER THE INPUT: true; the input reads as it did. -/
def agesTurnSpec : ChangeSpec := { name := "agesTurn", fn := fun _ => fun
  | [d1, d2] => { results := [.lit (.bool true)], args := [d1, d2] }
  | _ => none }
def agesTurnRow : OpenClaim := { program := "ytpdhmfbpmbbmgaa", sum := "d3d65661c5c6b501ed2cdc78cad7c417dd9004e5a4a8325538af94113161c239", func := "heirloom/heirloomlaw12.AgesTurn", spec := "agesTurn", unfollowed := true, recurses := true, plainKeys := false, apart := false }
def AgesTurnSaid : Prop := agesTurnRow.holds Try.pinned (OpenSpec.ofChange agesTurnSpec)

/-- ITS FALSE NEIGHBOUR: 'it returns false'. Refute it at one input. -/
def agesTurnWrong : ChangeSpec := { name := "agesTurn", fn := fun _ => fun
  | [d1, d2] => { results := [.lit (.bool false)], args := [d1, d2] }
  | _ => none }
def AgesTurnWrongFalsely : Prop := agesTurnRow.holds Try.pinned (OpenSpec.ofChange agesTurnWrong)

/-- 'heirloomlaw12.AgesPath': WHATEVER THE INPUT: true; the input reads as it did. -/
def agesPathSpec : ChangeSpec := { name := "agesPath", fn := fun _ => fun
  | [d] => { results := [.lit (.bool true)], args := [d] }
  | _ => none }
def agesPathRow : OpenClaim := { program := "ytpdhmfbpmbbmgaa", sum := "d3d65661c5c6b501ed2cdc78cad7c417dd9004e5a4a8325538af94113161c239", func := "heirloom/heirloomlaw12.AgesPath", spec := "agesPath", unfollowed := true, recurses := true, plainKeys := false, apart := false }
def AgesPathSaid : Prop := agesPathRow.holds Try.pinned (OpenSpec.ofChange agesPathSpec)

/-- ITS FALSE NEIGHBOUR: 'it returns false'. Refute it at one input. -/
def agesPathWrong : ChangeSpec := { name := "agesPath", fn := fun _ => fun
  | [d] => { results := [.lit (.bool false)], args := [d] }
  | _ => none }
def AgesPathWrongFalsely : Prop := agesPathRow.holds Try.pinned (OpenSpec.ofChange agesPathWrong)

/-- 'heirloomlaw12.AgesFresh': WHATEVER THE INPUT: true; the input reads as it did. -/
def agesFreshSpec : ChangeSpec := { name := "agesFresh", fn := fun _ => fun
  | [d1, d2] => { results := [.lit (.bool true)], args := [d1, d2] }
  | _ => none }
def agesFreshRow : OpenClaim := { program := "ytpdhmfbpmbbmgaa", sum := "d3d65661c5c6b501ed2cdc78cad7c417dd9004e5a4a8325538af94113161c239", func := "heirloom/heirloomlaw12.AgesFresh", spec := "agesFresh", unfollowed := true, recurses := true, plainKeys := false, apart := false }
def AgesFreshSaid : Prop := agesFreshRow.holds Try.pinned (OpenSpec.ofChange agesFreshSpec)

/-- ITS FALSE NEIGHBOUR: 'it returns false'. Refute it at one input. -/
def agesFreshWrong : ChangeSpec := { name := "agesFresh", fn := fun _ => fun
  | [d1, d2] => { results := [.lit (.bool false)], args := [d1, d2] }
  | _ => none }
def AgesFreshWrongFalsely : Prop := agesFreshRow.holds Try.pinned (OpenSpec.ofChange agesFreshWrong)

/-- 'heirloomlaw12.AgesOne': WHATEVER THE INPUT: true; the input reads as it did. -/
def agesOneSpec : ChangeSpec := { name := "agesOne", fn := fun _ => fun
  | [d1, d2] => { results := [.lit (.bool true)], args := [d1, d2] }
  | _ => none }
def agesOneRow : OpenClaim := { program := "ytpdhmfbpmbbmgaa", sum := "d3d65661c5c6b501ed2cdc78cad7c417dd9004e5a4a8325538af94113161c239", func := "heirloom/heirloomlaw12.AgesOne", spec := "agesOne", unfollowed := true, recurses := true, plainKeys := false, apart := false }
def AgesOneSaid : Prop := agesOneRow.holds Try.pinned (OpenSpec.ofChange agesOneSpec)

/-- ITS FALSE NEIGHBOUR: 'it returns false'. Refute it at one input. -/
def agesOneWrong : ChangeSpec := { name := "agesOne", fn := fun _ => fun
  | [d1, d2] => { results := [.lit (.bool false)], args := [d1, d2] }
  | _ => none }
def AgesOneWrongFalsely : Prop := agesOneRow.holds Try.pinned (OpenSpec.ofChange agesOneWrong)

/- THE SECOND FORM. 'bulk': how many values and letters a reading holds, each counted each time it is reached (what is shared counts as often as it is met; a slice's spare places count too). A statement '..UptoSaid' is the law's where the arguments, and the package variables that the reading takes, are together of bulk at most 1048576: NARROWER than '..Said'. Prove '..Said' where nothing that the law and all that it calls make is longer than what came in: it says more and counts as full. Else prove '..UptoSaid'. A law counts once. -/
mutual
def uptoBulk {H : Type} : DataW H → Nat
  | .lit (.string bytes) => bytes.length + 1
  | .lit _ => 1
  | .nil => 1
  | .ptr d => uptoBulk d + 1
  | .slice elems spare => uptoBulkAll elems + uptoBulkAll spare + 1
  | .agg parts => uptoBulkAll parts + 1
  | .iface _ d => uptoBulk d + 1
  | .map entries => uptoBulkEntries entries + 1
  | .held _ => 1
def uptoBulkAll {H : Type} : List (DataW H) → Nat
  | [] => 0
  | d :: r => uptoBulk d + uptoBulkAll r
def uptoBulkEntries {H : Type} : List (Lit × DataW H) → Nat
  | [] => 0
  | x :: r => uptoBulkEntry x + uptoBulkEntries r
def uptoBulkEntry {H : Type} : Lit × DataW H → Nat
  | (.string bytes, d) => bytes.length + uptoBulk d + 1
  | (_, d) => uptoBulk d + 1
 end
def uptoSmall : (H : Type) → List (DataW H) → Bool := fun _ ds => decide (uptoBulkAll ds ≤ 1048576)
def OpenSpec.upto (s : _root_.Go.ChangeSpec) : _root_.Go.OpenSpec := { _root_.Go.OpenSpec.ofChange s with cond := some uptoSmall }

/-- 'heirloomlaw12.AgesTurn', WHERE WHAT IT READS IS OF BULK AT MOST 1048576: true; the input reads as it did. -/
def agesTurnUptoRow : OpenClaim := { program := "ytpdhmfbpmbbmgaa", sum := "d3d65661c5c6b501ed2cdc78cad7c417dd9004e5a4a8325538af94113161c239", func := "heirloom/heirloomlaw12.AgesTurn", spec := "agesTurn", unfollowed := true, recurses := true, plainKeys := false, apart := false, narrowed := true }
def AgesTurnUptoSaid : Prop := agesTurnUptoRow.holds Try.pinned (OpenSpec.upto agesTurnSpec)

/-- 'heirloomlaw12.AgesPath', WHERE WHAT IT READS IS OF BULK AT MOST 1048576: true; the input reads as it did. -/
def agesPathUptoRow : OpenClaim := { program := "ytpdhmfbpmbbmgaa", sum := "d3d65661c5c6b501ed2cdc78cad7c417dd9004e5a4a8325538af94113161c239", func := "heirloom/heirloomlaw12.AgesPath", spec := "agesPath", unfollowed := true, recurses := true, plainKeys := false, apart := false, narrowed := true }
def AgesPathUptoSaid : Prop := agesPathUptoRow.holds Try.pinned (OpenSpec.upto agesPathSpec)

/-- 'heirloomlaw12.AgesFresh', WHERE WHAT IT READS IS OF BULK AT MOST 1048576: true; the input reads as it did. -/
def agesFreshUptoRow : OpenClaim := { program := "ytpdhmfbpmbbmgaa", sum := "d3d65661c5c6b501ed2cdc78cad7c417dd9004e5a4a8325538af94113161c239", func := "heirloom/heirloomlaw12.AgesFresh", spec := "agesFresh", unfollowed := true, recurses := true, plainKeys := false, apart := false, narrowed := true }
def AgesFreshUptoSaid : Prop := agesFreshUptoRow.holds Try.pinned (OpenSpec.upto agesFreshSpec)

/-- 'heirloomlaw12.AgesOne', WHERE WHAT IT READS IS OF BULK AT MOST 1048576: true; the input reads as it did. -/
def agesOneUptoRow : OpenClaim := { program := "ytpdhmfbpmbbmgaa", sum := "d3d65661c5c6b501ed2cdc78cad7c417dd9004e5a4a8325538af94113161c239", func := "heirloom/heirloomlaw12.AgesOne", spec := "agesOne", unfollowed := true, recurses := true, plainKeys := false, apart := false, narrowed := true }
def AgesOneUptoSaid : Prop := agesOneUptoRow.holds Try.pinned (OpenSpec.upto agesOneSpec)

end Rows
end Go.Proofs.Ytpdhmfbpmbbmgaa
