/- The table of math/bits that each row of Alloc lists, and a world in which it lies. -/
import Derived.Test.YtkpdmbcefjjfgaaDoorCards
import Derived.Test.YtkpdmbcefjjfgaaDoorTie
import Derived.Test.YtkpdmbcefjjfgaaDoorSa
import Derived.WalkKit
import Derived.ProofKit
import Derived.OpenShut
import Derived.ShutString
import Derived.ChangeOld
import Derived.Deep.DeepHandedRow
import Derived.Lib.LaidTab
namespace Go.Proofs.YtkpdmbcefjjfgaaDoor.Tb
open Go.ChangeShapes Go.WideShapes Go.ChangeAt Go.RowKit Sa

theorem own : ownKnob Tryd.prog.godebug = none := by kernel_rfl
theorem laidOut : laidOutB Tryd.prog = true := by kernel_rfl
theorem gTab : Tryd.prog.globalNamed "math/bits.deBruijn64tab" = some 0 := by kernel_rfl
theorem gTabType : (Tryd.prog.globals[0]?).map (·.type) = some 62 := by kernel_rfl
theorem cells62 : Tryd.prog.cellsOf 62 = 64 := by kernel_rfl
theorem cells5 : Tryd.prog.cellsOf 5 = 1 := by kernel_rfl
def nums : List Int := Lib.deBruijn64tab.map fun n : Nat => (n : Int)
theorem table {W : World} (h : laidMetH Tryd.prog [("math/bits.deBruijn64tab", Rows.laid_math_bits_deBruijn64tab)] W) : Tab W := by
  have ht : Lib.TabIs Tryd.prog W "math/bits.deBruijn64tab" .u8 nums :=
    Lib.tabIs_of_head (rest := []) gTab gTabType Tryd.underlying62 Tryd.underlying5 cells5 cells62 h
  intro k hk
  have h1 := ht.cell gTab k (by simpa [nums, Lib.deBruijn64tab] using hk)
  rw [h1]
  congr 2
  simp only [nums, List.getD_eq_getElem?_getD, List.getElem?_map]
  cases Lib.deBruijn64tab[k]? <;> simp
noncomputable def laidWorld (os : Os) : World :=
  { World.holding Tryd.prog os ⟨#[], #[], []⟩ with heap := (World.holding Tryd.prog os ⟨#[], #[], []⟩).heap.modify 0 fun
      | .cells _ t frozen => .cells (nums.map fun n => Value.int .u8 n).toArray t frozen
      | o => o }
end Go.Proofs.YtkpdmbcefjjfgaaDoor.Tb
