-- WRITTEN BY wip/tools/myprint.py, a program of this session, over the kit's printer
import Derived.Test.YticnolkbmpmgcaaSh
import Derived.Test.YticnolkbmpmgcaaProg
import Derived.Below
import Derived.Deep.Draws
import Derived.Deep.AppendLies
import Derived.Maps.AppendAt
import Derived.OwnWalk
import Derived.Laws.BytesArg
import Derived.Laws.MakeOwn
import Derived.Laws.OwnMore
import Derived.Deep.OwnRows
import Derived.Tactics
import Derived.Lib.ConvBytes
import Derived.Laws.Slices
import Derived.WalkKit
import Derived.KernelRfl
import Derived.RowKit3
import Derived.Deep.LoopGhost
import Derived.Deep.QuietTactic
import Derived.BigQuiet
import Derived.WideLaws
import Derived.Deep.DeepCutAuto
import Derived.Deep.CutBlock
import Derived.Deep.RegionHeld3
import Derived.Laws.Rows
import Derived.Lib.AppendStr
import Derived.ArgAppend
import Derived.Laws.IdiomCopy
import Derived.OrdersHeld
import Derived.Laws.BitsLemmas
import Derived.RowKit
import Derived.Test.YticnolkbmpmgcaaFl
import Derived.Test.YticnolkbmpmgcaaWWords
import Derived.Test.YticnolkbmpmgcaaWLast
import Derived.Test.YticnolkbmpmgcaaWTab
import Derived.Test.YticnolkbmpmgcaaWFour
import Derived.Test.YticnolkbmpmgcaaWQPut
import Derived.Test.YticnolkbmpmgcaaWApart
import Derived.Test.YticnolkbmpmgcaaWArr
import Derived.Test.YticnolkbmpmgcaaWZeros
import Derived.Test.YticnolkbmpmgcaaWFoot
import Derived.Test.YticnolkbmpmgcaaWKept
import Derived.Test.YticnolkbmpmgcaaWShare
import Derived.Test.YticnolkbmpmgcaaWN
import Derived.Test.YticnolkbmpmgcaaWFootNe
import Derived.Test.YticnolkbmpmgcaaWAt
import Derived.Test.YticnolkbmpmgcaaWEqStruct
import Derived.Test.YticnolkbmpmgcaaWRepsOne
import Derived.Test.YticnolkbmpmgcaaWInv
import Derived.Test.YticnolkbmpmgcaaWInvWords
import Derived.Test.YticnolkbmpmgcaaWGuard
import Derived.Test.YticnolkbmpmgcaaWNEv
import Derived.Test.YticnolkbmpmgcaaWMore
namespace Go.Proofs.Yticnolkbmpmgcaa.QN
open Go.Proofs.Yticnolkbmpmgcaa.Sh
open Go.RowKit Go.Proofs.YticnolkbmpmgcaaW.PrintWords Go.Proofs.YticnolkbmpmgcaaW.PrintLast Go.Proofs.YticnolkbmpmgcaaW.PrintMore
attribute [local go_sem] max2_int min2_int max_two min_two max_three min_three max_four min_four   -- for this text's walks alone
open Go.Proofs.Yticnolkbmpmgcaa.Fl
attribute [local go_sem high] bo_eq bo_ne bo_lt bo_le bo_gt bo_ge
attribute [local go_sem] run39 run40 neg_fl
set_option linter.unusedVariables false
set_option linter.unusedSimpArgs false



def errW : Option Int → Value
  | none => .nilIface
  | some c => .iface 0 (.int .i64 c)
theorem errW_none : errW none = .nilIface := rfl
theorem errW_some (c : Int) : errW (some c) = .iface 0 (.int .i64 c) := rfl

-- the values' own types

end Go.Proofs.Yticnolkbmpmgcaa.QN
