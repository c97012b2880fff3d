/-
  No cell of these rows narrows 'for every input' (looked for: loops, veiled, ifaces, maps, wideKeys, modest, calm, conditions, laid).
  DERIVED. THE GIVEN ROWS OF THIS SEAT. 7 by the template 'for every input the law returns true; each argument reads behind the call as it read before'; 0 by the template 'total and deterministic' (their statements: YtollnnbcfhnlfaaTotals.lean).
  GIVEN WITH THE SEED: the statements are not yours to turn. If you find one false, say at which input.
  Laid BY PROGRAM, IN A SANDBOX (cutbox-rows.mjs): the forced cells as the released guide's own fill.sh prints them over the translation 55eb0f8c57354f30… (all of the seat's roots in one cut). By AI agents, Wed Nov 11 2026. No macro, syntax, notation, axiom, sorry.
-/
import Derived.Test.YtollnnbcfhnlfaaChecked
import GoSem.Claim
import GoSem.ClaimJoined
import GoSem.ClaimMapViews
import Derived.JoinedTies
import Derived.KernelRfl
namespace Go.Proofs.Ytollnnbcfhnlfaa
/- THE CELL 'sum', in the pinned program and in every row, IS THE sha256 OF THE DUMP (.gsa) THAT YtollnnbcfhnlfaaProg.lean LOADS. Nothing in Lean hashes anything: it is a label: what it is worth is what the hold of that sum in a sandbox is worth. -/
noncomputable def Try.pinned : Pinned := { name := "ytollnnbcfhnlfaa", sum := "55eb0f8c57354f301b873526a26fc4c8dbcb4168f5771b6cd906ad1d6a6161e9", checked := Try.checked }
namespace Rows
def none {H : Type} : Left H := { results := [], args := [] }

/-- 'heirloomlaw11.ReachStrong': WHATEVER THE INPUT: true; the input reads as it did. -/
def reachStrongSpec : ChangeSpec := { name := "reachStrong", fn := fun _ => fun
  | [d1, d2] => { results := [.lit (.bool true)], args := [d1, d2] }
  | _ => none }
def reachStrongRow : OpenClaim := { program := "ytollnnbcfhnlfaa", sum := "55eb0f8c57354f301b873526a26fc4c8dbcb4168f5771b6cd906ad1d6a6161e9", func := "heirloom/heirloomlaw11.ReachStrong", spec := "reachStrong", unfollowed := true, recurses := true, apart := false }
def ReachStrongSaid : Prop := reachStrongRow.holds Try.pinned (OpenSpec.ofChange reachStrongSpec)

/-- ITS FALSE NEIGHBOUR: 'it returns false'. Refute it at one input. -/
def reachStrongWrong : ChangeSpec := { name := "reachStrong", fn := fun _ => fun
  | [d1, d2] => { results := [.lit (.bool false)], args := [d1, d2] }
  | _ => none }
def ReachStrongWrongFalsely : Prop := reachStrongRow.holds Try.pinned (OpenSpec.ofChange reachStrongWrong)

/-- 'heirloomlaw11.ReachCollects': WHATEVER THE INPUT: true; the input reads as it did. -/
def reachCollectsSpec : ChangeSpec := { name := "reachCollects", fn := fun _ => fun
  | [d] => { results := [.lit (.bool true)], args := [d] }
  | _ => none }
def reachCollectsRow : OpenClaim := { program := "ytollnnbcfhnlfaa", sum := "55eb0f8c57354f301b873526a26fc4c8dbcb4168f5771b6cd906ad1d6a6161e9", func := "heirloom/heirloomlaw11.ReachCollects", spec := "reachCollects", unfollowed := true, recurses := true, apart := false }
def ReachCollectsSaid : Prop := reachCollectsRow.holds Try.pinned (OpenSpec.ofChange reachCollectsSpec)

/-- ITS FALSE NEIGHBOUR: 'it returns false'. Refute it at one input. -/
def reachCollectsWrong : ChangeSpec := { name := "reachCollects", fn := fun _ => fun
  | [d] => { results := [.lit (.bool false)], args := [d] }
  | _ => none }
def ReachCollectsWrongFalsely : Prop := reachCollectsRow.holds Try.pinned (OpenSpec.ofChange reachCollectsWrong)

/-- 'heirloomlaw11.ReachMore': WHATEVER THE INPUT: true; the input reads as it did. -/
def reachMoreSpec : ChangeSpec := { name := "reachMore", fn := fun _ => fun
  | [d1, d2, d3] => { results := [.lit (.bool true)], args := [d1, d2, d3] }
  | _ => none }
def reachMoreRow : OpenClaim := { program := "ytollnnbcfhnlfaa", sum := "55eb0f8c57354f301b873526a26fc4c8dbcb4168f5771b6cd906ad1d6a6161e9", func := "heirloom/heirloomlaw11.ReachMore", spec := "reachMore", unfollowed := true, recurses := true, apart := false }
def ReachMoreSaid : Prop := reachMoreRow.holds Try.pinned (OpenSpec.ofChange reachMoreSpec)

/-- ITS FALSE NEIGHBOUR: 'it returns false'. Refute it at one input. -/
def reachMoreWrong : ChangeSpec := { name := "reachMore", fn := fun _ => fun
  | [d1, d2, d3] => { results := [.lit (.bool false)], args := [d1, d2, d3] }
  | _ => none }
def ReachMoreWrongFalsely : Prop := reachMoreRow.holds Try.pinned (OpenSpec.ofChange reachMoreWrong)

/-- 'heirloomlaw11.ReachWays': WHATEVER THE INPUT: true; the input reads as it did. -/
def reachWaysSpec : ChangeSpec := { name := "reachWays", fn := fun _ => fun
  | [d] => { results := [.lit (.bool true)], args := [d] }
  | _ => none }
def reachWaysRow : OpenClaim := { program := "ytollnnbcfhnlfaa", sum := "55eb0f8c57354f301b873526a26fc4c8dbcb4168f5771b6cd906ad1d6a6161e9", func := "heirloom/heirloomlaw11.ReachWays", spec := "reachWays", unfollowed := true, recurses := true, apart := false }
def ReachWaysSaid : Prop := reachWaysRow.holds Try.pinned (OpenSpec.ofChange reachWaysSpec)

/-- ITS FALSE NEIGHBOUR: 'it returns false'. Refute it at one input. -/
def reachWaysWrong : ChangeSpec := { name := "reachWays", fn := fun _ => fun
  | [d] => { results := [.lit (.bool false)], args := [d] }
  | _ => none }
def ReachWaysWrongFalsely : Prop := reachWaysRow.holds Try.pinned (OpenSpec.ofChange reachWaysWrong)

/-- 'heirloomlaw11.ReachClosed': WHATEVER THE INPUT: true; the input reads as it did. -/
def reachClosedSpec : ChangeSpec := { name := "reachClosed", fn := fun _ => fun
  | [d] => { results := [.lit (.bool true)], args := [d] }
  | _ => none }
def reachClosedRow : OpenClaim := { program := "ytollnnbcfhnlfaa", sum := "55eb0f8c57354f301b873526a26fc4c8dbcb4168f5771b6cd906ad1d6a6161e9", func := "heirloom/heirloomlaw11.ReachClosed", spec := "reachClosed", unfollowed := true, recurses := true, apart := false }
def ReachClosedSaid : Prop := reachClosedRow.holds Try.pinned (OpenSpec.ofChange reachClosedSpec)

/-- ITS FALSE NEIGHBOUR: 'it returns false'. Refute it at one input. -/
def reachClosedWrong : ChangeSpec := { name := "reachClosed", fn := fun _ => fun
  | [d] => { results := [.lit (.bool false)], args := [d] }
  | _ => none }
def ReachClosedWrongFalsely : Prop := reachClosedRow.holds Try.pinned (OpenSpec.ofChange reachClosedWrong)

/-- 'heirloomlaw11.ReachPending': WHATEVER THE INPUT: true; the input reads as it did. -/
def reachPendingSpec : ChangeSpec := { name := "reachPending", fn := fun _ => fun
  | [d] => { results := [.lit (.bool true)], args := [d] }
  | _ => none }
def reachPendingRow : OpenClaim := { program := "ytollnnbcfhnlfaa", sum := "55eb0f8c57354f301b873526a26fc4c8dbcb4168f5771b6cd906ad1d6a6161e9", func := "heirloom/heirloomlaw11.ReachPending", spec := "reachPending", unfollowed := true, recurses := true, apart := false }
def ReachPendingSaid : Prop := reachPendingRow.holds Try.pinned (OpenSpec.ofChange reachPendingSpec)

/-- ITS FALSE NEIGHBOUR: 'it returns false'. Refute it at one input. -/
def reachPendingWrong : ChangeSpec := { name := "reachPending", fn := fun _ => fun
  | [d] => { results := [.lit (.bool false)], args := [d] }
  | _ => none }
def ReachPendingWrongFalsely : Prop := reachPendingRow.holds Try.pinned (OpenSpec.ofChange reachPendingWrong)

/-- 'heirloomlaw11.ReachWeak': WHATEVER THE INPUT: true; the input reads as it did. -/
def reachWeakSpec : ChangeSpec := { name := "reachWeak", fn := fun _ => fun
  | [d] => { results := [.lit (.bool true)], args := [d] }
  | _ => none }
def reachWeakRow : OpenClaim := { program := "ytollnnbcfhnlfaa", sum := "55eb0f8c57354f301b873526a26fc4c8dbcb4168f5771b6cd906ad1d6a6161e9", func := "heirloom/heirloomlaw11.ReachWeak", spec := "reachWeak", unfollowed := true, recurses := true, apart := false }
def ReachWeakSaid : Prop := reachWeakRow.holds Try.pinned (OpenSpec.ofChange reachWeakSpec)

/-- ITS FALSE NEIGHBOUR: 'it returns false'. Refute it at one input. -/
def reachWeakWrong : ChangeSpec := { name := "reachWeak", fn := fun _ => fun
  | [d] => { results := [.lit (.bool false)], args := [d] }
  | _ => none }
def ReachWeakWrongFalsely : Prop := reachWeakRow.holds Try.pinned (OpenSpec.ofChange reachWeakWrong)

/- THE SECOND FORM. 'bulk': how many values and letters a reading holds, each counted each time it is reached (what is shared counts as often as it is met; a slice's spare places count too). A statement '..UptoSaid' is the law's where the arguments, and the package variables that the reading takes, are together of bulk at most 1048576: NARROWER than '..Said'. Prove '..Said' where nothing that the law and all that it calls make is longer than what came in: it says more and counts as full. Else prove '..UptoSaid'. A law counts once. -/
mutual
def uptoBulk {H : Type} : DataW H → Nat
  | .lit (.string bytes) => bytes.length + 1
  | .lit _ => 1
  | .nil => 1
  | .ptr d => uptoBulk d + 1
  | .slice elems spare => uptoBulkAll elems + uptoBulkAll spare + 1
  | .agg parts => uptoBulkAll parts + 1
  | .iface _ d => uptoBulk d + 1
  | .map entries => uptoBulkEntries entries + 1
  | .held _ => 1
def uptoBulkAll {H : Type} : List (DataW H) → Nat
  | [] => 0
  | d :: r => uptoBulk d + uptoBulkAll r
def uptoBulkEntries {H : Type} : List (Lit × DataW H) → Nat
  | [] => 0
  | x :: r => uptoBulkEntry x + uptoBulkEntries r
def uptoBulkEntry {H : Type} : Lit × DataW H → Nat
  | (.string bytes, d) => bytes.length + uptoBulk d + 1
  | (_, d) => uptoBulk d + 1
 end
def uptoSmall : (H : Type) → List (DataW H) → Bool := fun _ ds => decide (uptoBulkAll ds ≤ 1048576)
def OpenSpec.upto (s : _root_.Go.ChangeSpec) : _root_.Go.OpenSpec := { _root_.Go.OpenSpec.ofChange s with cond := some uptoSmall }

/-- 'heirloomlaw11.ReachStrong', WHERE WHAT IT READS IS OF BULK AT MOST 1048576: true; the input reads as it did. -/
def reachStrongUptoRow : OpenClaim := { program := "ytollnnbcfhnlfaa", sum := "55eb0f8c57354f301b873526a26fc4c8dbcb4168f5771b6cd906ad1d6a6161e9", func := "heirloom/heirloomlaw11.ReachStrong", spec := "reachStrong", unfollowed := true, recurses := true, apart := false, narrowed := true }
def ReachStrongUptoSaid : Prop := reachStrongUptoRow.holds Try.pinned (OpenSpec.upto reachStrongSpec)

/-- 'heirloomlaw11.ReachCollects', WHERE WHAT IT READS IS OF BULK AT MOST 1048576: true; the input reads as it did. -/
def reachCollectsUptoRow : OpenClaim := { program := "ytollnnbcfhnlfaa", sum := "55eb0f8c57354f301b873526a26fc4c8dbcb4168f5771b6cd906ad1d6a6161e9", func := "heirloom/heirloomlaw11.ReachCollects", spec := "reachCollects", unfollowed := true, recurses := true, apart := false, narrowed := true }
def ReachCollectsUptoSaid : Prop := reachCollectsUptoRow.holds Try.pinned (OpenSpec.upto reachCollectsSpec)

/-- 'heirloomlaw11.ReachMore', WHERE WHAT IT READS IS OF BULK AT MOST 1048576: true; the input reads as it did. -/
def reachMoreUptoRow : OpenClaim := { program := "ytollnnbcfhnlfaa", sum := "55eb0f8c57354f301b873526a26fc4c8dbcb4168f5771b6cd906ad1d6a6161e9", func := "heirloom/heirloomlaw11.ReachMore", spec := "reachMore", unfollowed := true, recurses := true, apart := false, narrowed := true }
def ReachMoreUptoSaid : Prop := reachMoreUptoRow.holds Try.pinned (OpenSpec.upto reachMoreSpec)

/-- 'heirloomlaw11.ReachWays', WHERE WHAT IT READS IS OF BULK AT MOST 1048576: true; the input reads as it did. -/
def reachWaysUptoRow : OpenClaim := { program := "ytollnnbcfhnlfaa", sum := "55eb0f8c57354f301b873526a26fc4c8dbcb4168f5771b6cd906ad1d6a6161e9", func := "heirloom/heirloomlaw11.ReachWays", spec := "reachWays", unfollowed := true, recurses := true, apart := false, narrowed := true }
def ReachWaysUptoSaid : Prop := reachWaysUptoRow.holds Try.pinned (OpenSpec.upto reachWaysSpec)

/-- 'heirloomlaw11.ReachClosed', WHERE WHAT IT READS IS OF BULK AT MOST 1048576: true; the input reads as it did. -/
def reachClosedUptoRow : OpenClaim := { program := "ytollnnbcfhnlfaa", sum := "55eb0f8c57354f301b873526a26fc4c8dbcb4168f5771b6cd906ad1d6a6161e9", func := "heirloom/heirloomlaw11.ReachClosed", spec := "reachClosed", unfollowed := true, recurses := true, apart := false, narrowed := true }
def ReachClosedUptoSaid : Prop := reachClosedUptoRow.holds Try.pinned (OpenSpec.upto reachClosedSpec)

/-- 'heirloomlaw11.ReachPending', WHERE WHAT IT READS IS OF BULK AT MOST 1048576: true; the input reads as it did. -/
def reachPendingUptoRow : OpenClaim := { program := "ytollnnbcfhnlfaa", sum := "55eb0f8c57354f301b873526a26fc4c8dbcb4168f5771b6cd906ad1d6a6161e9", func := "heirloom/heirloomlaw11.ReachPending", spec := "reachPending", unfollowed := true, recurses := true, apart := false, narrowed := true }
def ReachPendingUptoSaid : Prop := reachPendingUptoRow.holds Try.pinned (OpenSpec.upto reachPendingSpec)

/-- 'heirloomlaw11.ReachWeak', WHERE WHAT IT READS IS OF BULK AT MOST 1048576: true; the input reads as it did. -/
def reachWeakUptoRow : OpenClaim := { program := "ytollnnbcfhnlfaa", sum := "55eb0f8c57354f301b873526a26fc4c8dbcb4168f5771b6cd906ad1d6a6161e9", func := "heirloom/heirloomlaw11.ReachWeak", spec := "reachWeak", unfollowed := true, recurses := true, apart := false, narrowed := true }
def ReachWeakUptoSaid : Prop := reachWeakUptoRow.holds Try.pinned (OpenSpec.upto reachWeakSpec)

end Rows
end Go.Proofs.Ytollnnbcfhnlfaa
