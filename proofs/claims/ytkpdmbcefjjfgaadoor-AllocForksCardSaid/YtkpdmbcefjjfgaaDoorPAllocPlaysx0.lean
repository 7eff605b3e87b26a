-- PRINTED BY print.sh 35421559b90ae4d0a3588c463048766b98c2df88dd9212a6774a882060cdf62d: not written by this session
import Derived.Test.YtkpdmbcefjjfgaaDoorProg
import Derived.Below
import Derived.Deep.Draws
import Derived.Deep.AppendLies
import Derived.Maps.AppendAt
import Derived.OwnWalk
import Derived.Laws.BytesArg
import Derived.Laws.MakeOwn
import Derived.Laws.OwnMore
import Derived.Deep.OwnRows
import Derived.Tactics
import Derived.Lib.ConvBytes
import Derived.Laws.Slices
import Derived.WalkKit
import Derived.KernelRfl
import Derived.RowKit3
import Derived.Deep.LoopGhost
import Derived.Deep.QuietTactic
import Derived.BigQuiet
import Derived.WideLaws
import Derived.Deep.DeepCutAuto
import Derived.Deep.CutBlock
import Derived.Deep.RegionHeld3
import Derived.Laws.Rows
import Derived.Lib.AppendStr
import Derived.ArgAppend
import Derived.Laws.IdiomCopy
import Derived.OrdersHeld
import Derived.Laws.BitsLemmas
import Derived.RowKit
import Derived.Test.YtkpdmbcefjjfgaaDoorWWords
import Derived.Test.YtkpdmbcefjjfgaaDoorWLast
import Derived.Test.YtkpdmbcefjjfgaaDoorWTab
import Derived.Test.YtkpdmbcefjjfgaaDoorWFour
import Derived.Test.YtkpdmbcefjjfgaaDoorWQPut
import Derived.Test.YtkpdmbcefjjfgaaDoorWApart
import Derived.Test.YtkpdmbcefjjfgaaDoorWArr
import Derived.Test.YtkpdmbcefjjfgaaDoorWZeros
import Derived.Test.YtkpdmbcefjjfgaaDoorWFoot
import Derived.Test.YtkpdmbcefjjfgaaDoorWKept
import Derived.Test.YtkpdmbcefjjfgaaDoorWShare
import Derived.Test.YtkpdmbcefjjfgaaDoorWN
import Derived.Test.YtkpdmbcefjjfgaaDoorWFootNe
import Derived.Test.YtkpdmbcefjjfgaaDoorWAt
import Derived.Test.YtkpdmbcefjjfgaaDoorWEqStruct
import Derived.Test.YtkpdmbcefjjfgaaDoorWRepsOne
import Derived.Test.YtkpdmbcefjjfgaaDoorWInv
import Derived.Test.YtkpdmbcefjjfgaaDoorWInvWords
import Derived.Test.YtkpdmbcefjjfgaaDoorWGuard
import Derived.Test.YtkpdmbcefjjfgaaDoorWNEv
import Derived.Test.YtkpdmbcefjjfgaaDoorWMore
namespace Go.Proofs.YtkpdmbcefjjfgaaDoor.PAllocPlays
open Go.RowKit Go.Proofs.YtkpdmbcefjjfgaaDoorW.PrintWords Go.Proofs.YtkpdmbcefjjfgaaDoorW.PrintLast Go.Proofs.YtkpdmbcefjjfgaaDoorW.PrintMore
attribute [local go_sem] max2_int min2_int max_two min_two max_three min_three max_four min_four   -- for this text's walks alone
set_option linter.unusedVariables false
set_option linter.unusedSimpArgs false



def errW : Option Int → Value
  | none => .nilIface
  | some c => .iface 0 (.int .i64 c)
theorem errW_none : errW none = .nilIface := rfl
theorem errW_some (c : Int) : errW (some c) = .iface 0 (.int .i64 c) := rfl

theorem info33 : (Tryd.prog.info? 33).map (fun i => (i.zero, i.size, i.bytes)) = some (some (.int .u32 0), 1, 4) := by kernel_rfl
theorem info58 : (Tryd.prog.info? 58).map (fun i => (i.zero, i.size, i.bytes)) = some (some (.int .u64 0), 1, 8) := by kernel_rfl
-- the values' own types

end Go.Proofs.YtkpdmbcefjjfgaaDoor.PAllocPlays
