/- Printed by a program of ours (wip/tool/pp.py, over the kit's printer): for each Go function that the law reaches, a Lean function and the proof that a call of the Go function does what the Lean function says, where that is 'some'. -/
import Derived.Test.YtejhoojndkiijaaProg
import Derived.Below
import Derived.Deep.Draws
import Derived.Deep.AppendLies
import Derived.Maps.AppendAt
import Derived.OwnWalk
import Derived.Laws.BytesArg
import Derived.Laws.MakeOwn
import Derived.Laws.OwnMore
import Derived.Deep.OwnRows
import Derived.Tactics
import Derived.Lib.ConvBytes
import Derived.Laws.Slices
import Derived.WalkKit
import Derived.KernelRfl
import Derived.RowKit3
import Derived.Deep.LoopGhost
import Derived.Deep.QuietTactic
import Derived.BigQuiet
import Derived.WideLaws
import Derived.Deep.DeepCutAuto
import Derived.Deep.CutBlock
import Derived.Deep.RegionHeld3
import Derived.Laws.Rows
import Derived.Lib.AppendStr
import Derived.ArgAppend
import Derived.Laws.IdiomCopy
import Derived.OrdersHeld
import Derived.Laws.BitsLemmas
import Derived.RowKit
import Derived.Test.YtejhoojndkiijaaShelf
import Derived.WalkSpells
import Derived.Test.YtejhoojndkiijaaWWords
import Derived.Test.YtejhoojndkiijaaWLast
import Derived.Test.YtejhoojndkiijaaWTab
import Derived.Test.YtejhoojndkiijaaWFour
import Derived.Test.YtejhoojndkiijaaWQPut
import Derived.Test.YtejhoojndkiijaaWApart
import Derived.Test.YtejhoojndkiijaaWArr
import Derived.Test.YtejhoojndkiijaaWZeros
import Derived.Test.YtejhoojndkiijaaWFoot
import Derived.Test.YtejhoojndkiijaaWKept
import Derived.Test.YtejhoojndkiijaaWShare
import Derived.Test.YtejhoojndkiijaaWN
import Derived.Test.YtejhoojndkiijaaWFootNe
import Derived.Test.YtejhoojndkiijaaWAt
import Derived.Test.YtejhoojndkiijaaWEqStruct
import Derived.Test.YtejhoojndkiijaaWRepsOne
import Derived.Test.YtejhoojndkiijaaWInv
import Derived.Test.YtejhoojndkiijaaWInvWords
import Derived.Test.YtejhoojndkiijaaWGuard
import Derived.Test.YtejhoojndkiijaaWNEv
import Derived.Test.YtejhoojndkiijaaWMore
namespace Go.Proofs.Ytejhoojndkiijaa.PAll
open Go.RowKit Go.Proofs.YtejhoojndkiijaaW.PrintWords Go.Proofs.YtejhoojndkiijaaW.PrintLast Go.Proofs.YtejhoojndkiijaaW.PrintMore
attribute [local go_sem] max2_int min2_int max_two min_two max_three min_three max_four min_four   -- for this text's walks alone
set_option linter.unusedVariables false
set_option linter.unusedSimpArgs false



def errW : Option Int → Value
  | none => .nilIface
  | some c => .iface 0 (.int .i64 c)
theorem errW_none : errW none = .nilIface := rfl
theorem errW_some (c : Int) : errW (some c) = .iface 0 (.int .i64 c) := rfl

theorem info5 : (Try.prog.info? 5).map (fun i => (i.zero, i.size, i.bytes)) = some (some (.int .u8 0), 1, 1) := by kernel_rfl
theorem info22 : (Try.prog.info? 22).map (fun i => (i.zero, i.size, i.bytes)) = some (some (.int .u64 0), 1, 8) := by kernel_rfl
-- the values' own types

end Go.Proofs.Ytejhoojndkiijaa.PAll
