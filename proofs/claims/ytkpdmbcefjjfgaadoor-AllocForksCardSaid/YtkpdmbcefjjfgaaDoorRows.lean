/-
  NARROWER THAN 'FOR EVERY INPUT', by the rows' own cells (each row's printed sentence says how): AllocForks: laid · AllocNobody: laid · AllocAll: laid · AllocLists: laid · AllocLowest: laid · AllocPlays: laid.
  DERIVED. THE GIVEN ROWS OF THIS SEAT. 6 by the template 'for every input the law returns true; each argument reads behind the call as it read before'; 0 by the template 'total and deterministic' (their statements: YtkpdmbcefjjfgaaDoorTotals.lean).
  GIVEN WITH THE SEED: the statements are not yours to turn. If you find one false, say at which input.
  Laid BY PROGRAM, IN A SANDBOX (cutbox-rows.mjs): the forced cells as the released guide's own fill.sh prints them over the translation 162517a24f1b07eb… (all of the seat's roots in one cut). By AI agents, Wed Nov 11 2026. No macro, syntax, notation, axiom, sorry.
-/
import Derived.Test.YtkpdmbcefjjfgaaDoorChecked
import GoSem.Claim
import GoSem.ClaimJoined
import GoSem.ClaimMapViews
import Derived.JoinedTies
import Derived.KernelRfl
namespace Go.Proofs.YtkpdmbcefjjfgaaDoor
/- THE CELL 'sum', in the pinned program and in every row, IS THE sha256 OF THE DUMP (.gsa) THAT YtkpdmbcefjjfgaaDoorProg.lean LOADS. Nothing in Lean hashes anything: it is a label: what it is worth is what the hold of that sum in a sandbox is worth. -/
noncomputable def Tryd.pinned : Pinned := { name := "ytkpdmbcefjjfgaadoor", sum := "162517a24f1b07eb81e14d2be178048c62f1088f1e0fe08b6831c33736fb0889", checked := Tryd.checked }
namespace Rows
def none {H : Type} : Left H := { results := [], args := [] }

/- WHAT THE LISTED PACKAGE-LEVEL VARIABLES READ AS WHEN THE CALL BEGINS. Each datum BY PROGRAM (the guide's laid-datum.mjs) off the statement by which the dump's own 'gosem.cut.vars' lays the variable. In a bare row this is a premise. The card (YtkpdmbcefjjfgaaDoorCards.lean) ties it to the program's text. -/
def laid_math_bits_deBruijn64tab {H : Type} : DataW H := .agg [.lit (.int .u8 0), .lit (.int .u8 1), .lit (.int .u8 56), .lit (.int .u8 2), .lit (.int .u8 57), .lit (.int .u8 49), .lit (.int .u8 28), .lit (.int .u8 3), .lit (.int .u8 61), .lit (.int .u8 58), .lit (.int .u8 42), .lit (.int .u8 50), .lit (.int .u8 38), .lit (.int .u8 29), .lit (.int .u8 17), .lit (.int .u8 4), .lit (.int .u8 62), .lit (.int .u8 47), .lit (.int .u8 59), .lit (.int .u8 36), .lit (.int .u8 45), .lit (.int .u8 43), .lit (.int .u8 51), .lit (.int .u8 22), .lit (.int .u8 53), .lit (.int .u8 39), .lit (.int .u8 33), .lit (.int .u8 30), .lit (.int .u8 24), .lit (.int .u8 18), .lit (.int .u8 12), .lit (.int .u8 5), .lit (.int .u8 63), .lit (.int .u8 55), .lit (.int .u8 48), .lit (.int .u8 27), .lit (.int .u8 60), .lit (.int .u8 41), .lit (.int .u8 37), .lit (.int .u8 16), .lit (.int .u8 46), .lit (.int .u8 35), .lit (.int .u8 44), .lit (.int .u8 21), .lit (.int .u8 52), .lit (.int .u8 32), .lit (.int .u8 23), .lit (.int .u8 11), .lit (.int .u8 54), .lit (.int .u8 26), .lit (.int .u8 40), .lit (.int .u8 15), .lit (.int .u8 34), .lit (.int .u8 20), .lit (.int .u8 31), .lit (.int .u8 10), .lit (.int .u8 25), .lit (.int .u8 14), .lit (.int .u8 19), .lit (.int .u8 9), .lit (.int .u8 13), .lit (.int .u8 8), .lit (.int .u8 7), .lit (.int .u8 6)]

/-- 'reliquarylaw17.AllocForks': WHATEVER THE INPUT: true; the input reads as it did. -/
def allocForksSpec : ChangeSpec := { name := "allocForks", fn := fun _ => fun
  | [d1, d2, d3] => { results := [.lit (.bool true)], args := [d1, d2, d3] }
  | _ => none }
def allocForksRow : OpenClaim := { program := "ytkpdmbcefjjfgaadoor", sum := "162517a24f1b07eb81e14d2be178048c62f1088f1e0fe08b6831c33736fb0889", func := "reliquary/reliquarylaw17.AllocForks", spec := "allocForks", named := ["math/bits.deBruijn64tab"], apart := false, laid := [("math/bits.deBruijn64tab", laid_math_bits_deBruijn64tab)] }
def AllocForksSaid : Prop := allocForksRow.holds Tryd.pinned (OpenSpec.ofChange allocForksSpec)

/-- ITS FALSE NEIGHBOUR: 'it returns false'. Refute it at one input. -/
def allocForksWrong : ChangeSpec := { name := "allocForks", fn := fun _ => fun
  | [d1, d2, d3] => { results := [.lit (.bool false)], args := [d1, d2, d3] }
  | _ => none }
def AllocForksWrongFalsely : Prop := allocForksRow.holds Tryd.pinned (OpenSpec.ofChange allocForksWrong)

/-- 'reliquarylaw17.AllocNobody': WHATEVER THE INPUT: true; the input reads as it did. -/
def allocNobodySpec : ChangeSpec := { name := "allocNobody", fn := fun _ => fun
  | [d] => { results := [.lit (.bool true)], args := [d] }
  | _ => none }
def allocNobodyRow : OpenClaim := { program := "ytkpdmbcefjjfgaadoor", sum := "162517a24f1b07eb81e14d2be178048c62f1088f1e0fe08b6831c33736fb0889", func := "reliquary/reliquarylaw17.AllocNobody", spec := "allocNobody", named := ["math/bits.deBruijn64tab"], apart := false, laid := [("math/bits.deBruijn64tab", laid_math_bits_deBruijn64tab)] }
def AllocNobodySaid : Prop := allocNobodyRow.holds Tryd.pinned (OpenSpec.ofChange allocNobodySpec)

/-- ITS FALSE NEIGHBOUR: 'it returns false'. Refute it at one input. -/
def allocNobodyWrong : ChangeSpec := { name := "allocNobody", fn := fun _ => fun
  | [d] => { results := [.lit (.bool false)], args := [d] }
  | _ => none }
def AllocNobodyWrongFalsely : Prop := allocNobodyRow.holds Tryd.pinned (OpenSpec.ofChange allocNobodyWrong)

/-- 'reliquarylaw17.AllocAll': WHATEVER THE INPUT: true; the input reads as it did. -/
def allocAllSpec : ChangeSpec := { name := "allocAll", fn := fun _ => fun
  | [d] => { results := [.lit (.bool true)], args := [d] }
  | _ => none }
def allocAllRow : OpenClaim := { program := "ytkpdmbcefjjfgaadoor", sum := "162517a24f1b07eb81e14d2be178048c62f1088f1e0fe08b6831c33736fb0889", func := "reliquary/reliquarylaw17.AllocAll", spec := "allocAll", named := ["math/bits.deBruijn64tab"], apart := false, laid := [("math/bits.deBruijn64tab", laid_math_bits_deBruijn64tab)] }
def AllocAllSaid : Prop := allocAllRow.holds Tryd.pinned (OpenSpec.ofChange allocAllSpec)

/-- ITS FALSE NEIGHBOUR: 'it returns false'. Refute it at one input. -/
def allocAllWrong : ChangeSpec := { name := "allocAll", fn := fun _ => fun
  | [d] => { results := [.lit (.bool false)], args := [d] }
  | _ => none }
def AllocAllWrongFalsely : Prop := allocAllRow.holds Tryd.pinned (OpenSpec.ofChange allocAllWrong)

/-- 'reliquarylaw17.AllocLists': WHATEVER THE INPUT: true; the input reads as it did. -/
def allocListsSpec : ChangeSpec := { name := "allocLists", fn := fun _ => fun
  | [d1, d2] => { results := [.lit (.bool true)], args := [d1, d2] }
  | _ => none }
def allocListsRow : OpenClaim := { program := "ytkpdmbcefjjfgaadoor", sum := "162517a24f1b07eb81e14d2be178048c62f1088f1e0fe08b6831c33736fb0889", func := "reliquary/reliquarylaw17.AllocLists", spec := "allocLists", named := ["math/bits.deBruijn64tab"], apart := false, laid := [("math/bits.deBruijn64tab", laid_math_bits_deBruijn64tab)] }
def AllocListsSaid : Prop := allocListsRow.holds Tryd.pinned (OpenSpec.ofChange allocListsSpec)

/-- ITS FALSE NEIGHBOUR: 'it returns false'. Refute it at one input. -/
def allocListsWrong : ChangeSpec := { name := "allocLists", fn := fun _ => fun
  | [d1, d2] => { results := [.lit (.bool false)], args := [d1, d2] }
  | _ => none }
def AllocListsWrongFalsely : Prop := allocListsRow.holds Tryd.pinned (OpenSpec.ofChange allocListsWrong)

/-- 'reliquarylaw17.AllocLowest': WHATEVER THE INPUT: true; the input reads as it did. -/
def allocLowestSpec : ChangeSpec := { name := "allocLowest", fn := fun _ => fun
  | [d1, d2] => { results := [.lit (.bool true)], args := [d1, d2] }
  | _ => none }
def allocLowestRow : OpenClaim := { program := "ytkpdmbcefjjfgaadoor", sum := "162517a24f1b07eb81e14d2be178048c62f1088f1e0fe08b6831c33736fb0889", func := "reliquary/reliquarylaw17.AllocLowest", spec := "allocLowest", named := ["math/bits.deBruijn64tab"], apart := false, laid := [("math/bits.deBruijn64tab", laid_math_bits_deBruijn64tab)] }
def AllocLowestSaid : Prop := allocLowestRow.holds Tryd.pinned (OpenSpec.ofChange allocLowestSpec)

/-- ITS FALSE NEIGHBOUR: 'it returns false'. Refute it at one input. -/
def allocLowestWrong : ChangeSpec := { name := "allocLowest", fn := fun _ => fun
  | [d1, d2] => { results := [.lit (.bool false)], args := [d1, d2] }
  | _ => none }
def AllocLowestWrongFalsely : Prop := allocLowestRow.holds Tryd.pinned (OpenSpec.ofChange allocLowestWrong)

/-- 'reliquarylaw17.AllocPlays': WHATEVER THE INPUT: true; the input reads as it did. -/
def allocPlaysSpec : ChangeSpec := { name := "allocPlays", fn := fun _ => fun
  | [d1, d2] => { results := [.lit (.bool true)], args := [d1, d2] }
  | _ => none }
def allocPlaysRow : OpenClaim := { program := "ytkpdmbcefjjfgaadoor", sum := "162517a24f1b07eb81e14d2be178048c62f1088f1e0fe08b6831c33736fb0889", func := "reliquary/reliquarylaw17.AllocPlays", spec := "allocPlays", named := ["math/bits.deBruijn64tab"], apart := false, laid := [("math/bits.deBruijn64tab", laid_math_bits_deBruijn64tab)] }
def AllocPlaysSaid : Prop := allocPlaysRow.holds Tryd.pinned (OpenSpec.ofChange allocPlaysSpec)

/-- ITS FALSE NEIGHBOUR: 'it returns false'. Refute it at one input. -/
def allocPlaysWrong : ChangeSpec := { name := "allocPlays", fn := fun _ => fun
  | [d1, d2] => { results := [.lit (.bool false)], args := [d1, d2] }
  | _ => none }
def AllocPlaysWrongFalsely : Prop := allocPlaysRow.holds Tryd.pinned (OpenSpec.ofChange allocPlaysWrong)

/- THE SECOND FORM. 'bulk': how many values and letters a reading holds, each counted each time it is reached (what is shared counts as often as it is met; a slice's spare places count too). A statement '..UptoSaid' is the law's where the arguments, and the package variables that the reading takes, are together of bulk at most 1048576: NARROWER than '..Said'. Prove '..Said' where nothing that the law and all that it calls make is longer than what came in: it says more and counts as full. Else prove '..UptoSaid'. A law counts once. -/
mutual
def uptoBulk {H : Type} : DataW H → Nat
  | .lit (.string bytes) => bytes.length + 1
  | .lit _ => 1
  | .nil => 1
  | .ptr d => uptoBulk d + 1
  | .slice elems spare => uptoBulkAll elems + uptoBulkAll spare + 1
  | .agg parts => uptoBulkAll parts + 1
  | .iface _ d => uptoBulk d + 1
  | .map entries => uptoBulkEntries entries + 1
  | .held _ => 1
def uptoBulkAll {H : Type} : List (DataW H) → Nat
  | [] => 0
  | d :: r => uptoBulk d + uptoBulkAll r
def uptoBulkEntries {H : Type} : List (Lit × DataW H) → Nat
  | [] => 0
  | x :: r => uptoBulkEntry x + uptoBulkEntries r
def uptoBulkEntry {H : Type} : Lit × DataW H → Nat
  | (.string bytes, d) => bytes.length + uptoBulk d + 1
  | (_, d) => uptoBulk d + 1
 end
def uptoSmall : (H : Type) → List (DataW H) → Bool := fun _ ds => decide (uptoBulkAll ds ≤ 1048576)
def OpenSpec.upto (s : _root_.Go.ChangeSpec) : _root_.Go.OpenSpec := { _root_.Go.OpenSpec.ofChange s with cond := some uptoSmall }

/-- 'reliquarylaw17.AllocForks', WHERE WHAT IT READS IS OF BULK AT MOST 1048576: true; the input reads as it did. -/
def allocForksUptoRow : OpenClaim := { program := "ytkpdmbcefjjfgaadoor", sum := "162517a24f1b07eb81e14d2be178048c62f1088f1e0fe08b6831c33736fb0889", func := "reliquary/reliquarylaw17.AllocForks", spec := "allocForks", named := ["math/bits.deBruijn64tab"], apart := false, laid := [("math/bits.deBruijn64tab", laid_math_bits_deBruijn64tab)], narrowed := true }
def AllocForksUptoSaid : Prop := allocForksUptoRow.holds Tryd.pinned (OpenSpec.upto allocForksSpec)

/-- 'reliquarylaw17.AllocNobody', WHERE WHAT IT READS IS OF BULK AT MOST 1048576: true; the input reads as it did. -/
def allocNobodyUptoRow : OpenClaim := { program := "ytkpdmbcefjjfgaadoor", sum := "162517a24f1b07eb81e14d2be178048c62f1088f1e0fe08b6831c33736fb0889", func := "reliquary/reliquarylaw17.AllocNobody", spec := "allocNobody", named := ["math/bits.deBruijn64tab"], apart := false, laid := [("math/bits.deBruijn64tab", laid_math_bits_deBruijn64tab)], narrowed := true }
def AllocNobodyUptoSaid : Prop := allocNobodyUptoRow.holds Tryd.pinned (OpenSpec.upto allocNobodySpec)

/-- 'reliquarylaw17.AllocAll', WHERE WHAT IT READS IS OF BULK AT MOST 1048576: true; the input reads as it did. -/
def allocAllUptoRow : OpenClaim := { program := "ytkpdmbcefjjfgaadoor", sum := "162517a24f1b07eb81e14d2be178048c62f1088f1e0fe08b6831c33736fb0889", func := "reliquary/reliquarylaw17.AllocAll", spec := "allocAll", named := ["math/bits.deBruijn64tab"], apart := false, laid := [("math/bits.deBruijn64tab", laid_math_bits_deBruijn64tab)], narrowed := true }
def AllocAllUptoSaid : Prop := allocAllUptoRow.holds Tryd.pinned (OpenSpec.upto allocAllSpec)

/-- 'reliquarylaw17.AllocLists', WHERE WHAT IT READS IS OF BULK AT MOST 1048576: true; the input reads as it did. -/
def allocListsUptoRow : OpenClaim := { program := "ytkpdmbcefjjfgaadoor", sum := "162517a24f1b07eb81e14d2be178048c62f1088f1e0fe08b6831c33736fb0889", func := "reliquary/reliquarylaw17.AllocLists", spec := "allocLists", named := ["math/bits.deBruijn64tab"], apart := false, laid := [("math/bits.deBruijn64tab", laid_math_bits_deBruijn64tab)], narrowed := true }
def AllocListsUptoSaid : Prop := allocListsUptoRow.holds Tryd.pinned (OpenSpec.upto allocListsSpec)

/-- 'reliquarylaw17.AllocLowest', WHERE WHAT IT READS IS OF BULK AT MOST 1048576: true; the input reads as it did. -/
def allocLowestUptoRow : OpenClaim := { program := "ytkpdmbcefjjfgaadoor", sum := "162517a24f1b07eb81e14d2be178048c62f1088f1e0fe08b6831c33736fb0889", func := "reliquary/reliquarylaw17.AllocLowest", spec := "allocLowest", named := ["math/bits.deBruijn64tab"], apart := false, laid := [("math/bits.deBruijn64tab", laid_math_bits_deBruijn64tab)], narrowed := true }
def AllocLowestUptoSaid : Prop := allocLowestUptoRow.holds Tryd.pinned (OpenSpec.upto allocLowestSpec)

/-- 'reliquarylaw17.AllocPlays', WHERE WHAT IT READS IS OF BULK AT MOST 1048576: true; the input reads as it did. -/
def allocPlaysUptoRow : OpenClaim := { program := "ytkpdmbcefjjfgaadoor", sum := "162517a24f1b07eb81e14d2be178048c62f1088f1e0fe08b6831c33736fb0889", func := "reliquary/reliquarylaw17.AllocPlays", spec := "allocPlays", named := ["math/bits.deBruijn64tab"], apart := false, laid := [("math/bits.deBruijn64tab", laid_math_bits_deBruijn64tab)], narrowed := true }
def AllocPlaysUptoSaid : Prop := allocPlaysUptoRow.holds Tryd.pinned (OpenSpec.upto allocPlaysSpec)

end Rows
end Go.Proofs.YtkpdmbcefjjfgaaDoor
