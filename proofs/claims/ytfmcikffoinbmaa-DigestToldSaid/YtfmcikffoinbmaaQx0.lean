-- WRITTEN BY A PROGRAM of this session: a widened scratch copy of the kit's print (patch_print.py). Nothing here is trusted: Lean checks it.
import Derived.Test.YtfmcikffoinbmaaProg
import Derived.Below
import Derived.Deep.Draws
import Derived.Deep.AppendLies
import Derived.Maps.AppendAt
import Derived.OwnWalk
import Derived.Laws.BytesArg
import Derived.Laws.MakeOwn
import Derived.Laws.OwnMore
import Derived.Deep.OwnRows
import Derived.Tactics
import Derived.Lib.ConvBytes
import Derived.Laws.Slices
import Derived.WalkKit
import Derived.KernelRfl
import Derived.RowKit3
import Derived.Deep.LoopGhost
import Derived.Deep.QuietTactic
import Derived.BigQuiet
import Derived.WideLaws
import Derived.Deep.DeepCutAuto
import Derived.Deep.CutBlock
import Derived.Deep.RegionHeld3
import Derived.Laws.Rows
import Derived.Lib.AppendStr
import Derived.ArgAppend
import Derived.Laws.IdiomCopy
import Derived.OrdersHeld
import Derived.Laws.BitsLemmas
import Derived.RowKit
import Derived.Test.YtfmcikffoinbmaaWWords
import Derived.Test.YtfmcikffoinbmaaWLast
import Derived.Test.YtfmcikffoinbmaaWTab
import Derived.Test.YtfmcikffoinbmaaWQPut
import Derived.Test.YtfmcikffoinbmaaWApart
import Derived.Test.YtfmcikffoinbmaaWArr
import Derived.Test.YtfmcikffoinbmaaWZeros
import Derived.Test.YtfmcikffoinbmaaWFoot
import Derived.Test.YtfmcikffoinbmaaWKept
import Derived.Test.YtfmcikffoinbmaaWShare
import Derived.Test.YtfmcikffoinbmaaWN
import Derived.Test.YtfmcikffoinbmaaWEqStruct
import Derived.Test.YtfmcikffoinbmaaWRepsOne
import Derived.Test.YtfmcikffoinbmaaWGuard
import Derived.Test.YtfmcikffoinbmaaWNEv
import Derived.Test.YtfmcikffoinbmaaWMore
namespace Go.Proofs.Ytfmcikffoinbmaa.Q
open Go.RowKit Go.Proofs.YtfmcikffoinbmaaW.PrintWords Go.Proofs.YtfmcikffoinbmaaW.PrintLast Go.Proofs.YtfmcikffoinbmaaW.PrintMore
attribute [local go_sem] max2_int min2_int max_two min_two max_three min_three max_four min_four   -- for this text's walks alone
set_option linter.unusedVariables false
set_option linter.unusedSimpArgs false



def errW : Option Int → Value
  | none => .nilIface
  | some c => .iface 0 (.int .i64 c)
theorem errW_none : errW none = .nilIface := rfl
theorem errW_some (c : Int) : errW (some c) = .iface 0 (.int .i64 c) := rfl

theorem info5 : (Try.prog.info? 5).map (fun i => (i.zero, i.size, i.bytes)) = some (some (.int .u8 0), 1, 1) := by kernel_rfl
-- the values' own types

end Go.Proofs.Ytfmcikffoinbmaa.Q
