/- What the texts of Alloc share. -/
import Derived.Test.YtkpdmbcefjjfgaaDoorProg
import Derived.Below
import Derived.Deep.Draws
import Derived.OwnWalk
import Derived.Laws.MakeOwn
import Derived.Laws.OwnMore
import Derived.Tactics
import Derived.Laws.Slices
import Derived.WalkKit
import Derived.KernelRfl
import Derived.RowKit3
import Derived.Deep.QuietTactic
import Derived.BigQuiet
import Derived.WideLaws
import Derived.Deep.DeepCutAuto
import Derived.Laws.Rows
import Derived.Laws.BitsLemmas
import Derived.RowKit
import Derived.Outline
import Derived.Lib.Hide
import Derived.Test.YtkpdmbcefjjfgaaDoorWWords
import Derived.Test.YtkpdmbcefjjfgaaDoorWLast
import Derived.Test.YtkpdmbcefjjfgaaDoorWKept
import Derived.Test.YtkpdmbcefjjfgaaDoorWMore
namespace Go.Proofs.YtkpdmbcefjjfgaaDoor.S0
open Go.RowKit
theorem info33 : (Tryd.prog.info? 33).map (fun i => (i.zero, i.size, i.bytes)) = some (some (.int .u32 0), 1, 4) := by kernel_rfl
theorem info58 : (Tryd.prog.info? 58).map (fun i => (i.zero, i.size, i.bytes)) = some (some (.int .u64 0), 1, 8) := by kernel_rfl
end Go.Proofs.YtkpdmbcefjjfgaaDoor.S0
