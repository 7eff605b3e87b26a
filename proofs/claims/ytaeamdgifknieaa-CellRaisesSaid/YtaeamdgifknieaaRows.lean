/-
  No cell of these rows narrows 'for every input' (looked for: loops, veiled, ifaces, maps, wideKeys, modest, calm, conditions, laid).
  DERIVED. THE GIVEN ROWS OF THIS SEAT. 10 by the template 'for every input the law returns true; each argument reads behind the call as it read before'; 0 by the template 'total and deterministic' (their statements: YtaeamdgifknieaaTotals.lean).
  GIVEN WITH THE SEED: the statements are not yours to turn. If you find one false, say at which input.
  Laid BY PROGRAM, IN A SANDBOX (cutbox-rows.mjs): the forced cells as the released guide's own fill.sh prints them over the translation f9c2dd880ec1979b… (all of the seat's roots in one cut). By AI agents, Wed Nov 11 2026. No macro, syntax, notation, axiom, sorry.
-/
import Derived.Test.YtaeamdgifknieaaChecked
import GoSem.Claim
import GoSem.ClaimJoined
import GoSem.ClaimMapViews
import Derived.JoinedTies
import Derived.KernelRfl
namespace Go.Proofs.Ytaeamdgifknieaa
/- THE CELL 'sum', in the pinned program and in every row, IS THE sha256 OF THE DUMP (.gsa) THAT YtaeamdgifknieaaProg.lean LOADS. Nothing in Lean hashes anything: it is a label: what it is worth is what the hold of that sum in a sandbox is worth. -/
noncomputable def Try.pinned : Pinned := { name := "ytaeamdgifknieaa", sum := "f9c2dd880ec1979b11659e5c216817c1f1a7b3d2685afdfde7c4051847e71f60", checked := Try.checked }
namespace Rows
def none {H : Type} : Left H := { results := [], args := [] }

/-- 'reliquarylaw10.CellRises': WHATEVER THE INPUT: true; the input reads as it did. -/
def cellRisesSpec : ChangeSpec := { name := "cellRises", fn := fun _ => fun
  | [d1, d2] => { results := [.lit (.bool true)], args := [d1, d2] }
  | _ => none }
def cellRisesRow : OpenClaim := { program := "ytaeamdgifknieaa", sum := "f9c2dd880ec1979b11659e5c216817c1f1a7b3d2685afdfde7c4051847e71f60", func := "reliquary/reliquarylaw10.CellRises", spec := "cellRises", inPlace := ["sync/atomic.AddInt64"], apart := false }
def CellRisesSaid : Prop := cellRisesRow.holds Try.pinned (OpenSpec.ofChange cellRisesSpec)

/-- ITS FALSE NEIGHBOUR: 'it returns false'. Refute it at one input. -/
def cellRisesWrong : ChangeSpec := { name := "cellRises", fn := fun _ => fun
  | [d1, d2] => { results := [.lit (.bool false)], args := [d1, d2] }
  | _ => none }
def CellRisesWrongFalsely : Prop := cellRisesRow.holds Try.pinned (OpenSpec.ofChange cellRisesWrong)

/-- 'reliquarylaw10.CellRaises': WHATEVER THE INPUT: true; the input reads as it did. -/
def cellRaisesSpec : ChangeSpec := { name := "cellRaises", fn := fun _ => fun
  | [d1, d2] => { results := [.lit (.bool true)], args := [d1, d2] }
  | _ => none }
def cellRaisesRow : OpenClaim := { program := "ytaeamdgifknieaa", sum := "f9c2dd880ec1979b11659e5c216817c1f1a7b3d2685afdfde7c4051847e71f60", func := "reliquary/reliquarylaw10.CellRaises", spec := "cellRaises", inPlace := ["sync/atomic.AddInt64", "sync/atomic.LoadInt64"], apart := false }
def CellRaisesSaid : Prop := cellRaisesRow.holds Try.pinned (OpenSpec.ofChange cellRaisesSpec)

/-- ITS FALSE NEIGHBOUR: 'it returns false'. Refute it at one input. -/
def cellRaisesWrong : ChangeSpec := { name := "cellRaises", fn := fun _ => fun
  | [d1, d2] => { results := [.lit (.bool false)], args := [d1, d2] }
  | _ => none }
def CellRaisesWrongFalsely : Prop := cellRaisesRow.holds Try.pinned (OpenSpec.ofChange cellRaisesWrong)

/-- 'reliquarylaw10.CellForks': WHATEVER THE INPUT: true; the input reads as it did. -/
def cellForksSpec : ChangeSpec := { name := "cellForks", fn := fun _ => fun
  | [d] => { results := [.lit (.bool true)], args := [d] }
  | _ => none }
def cellForksRow : OpenClaim := { program := "ytaeamdgifknieaa", sum := "f9c2dd880ec1979b11659e5c216817c1f1a7b3d2685afdfde7c4051847e71f60", func := "reliquary/reliquarylaw10.CellForks", spec := "cellForks", inPlace := ["sync/atomic.LoadInt64", "sync/atomic.StoreInt64", "sync/atomic.AddInt64"], apart := false }
def CellForksSaid : Prop := cellForksRow.holds Try.pinned (OpenSpec.ofChange cellForksSpec)

/-- ITS FALSE NEIGHBOUR: 'it returns false'. Refute it at one input. -/
def cellForksWrong : ChangeSpec := { name := "cellForks", fn := fun _ => fun
  | [d] => { results := [.lit (.bool false)], args := [d] }
  | _ => none }
def CellForksWrongFalsely : Prop := cellForksRow.holds Try.pinned (OpenSpec.ofChange cellForksWrong)

/-- 'reliquarylaw01.FieldMuls': WHATEVER THE INPUT: true; the input reads as it did. -/
def fieldMulsSpec : ChangeSpec := { name := "fieldMuls", fn := fun _ => fun
  | [d1, d2] => { results := [.lit (.bool true)], args := [d1, d2] }
  | _ => none }
def fieldMulsRow : OpenClaim := { program := "ytaeamdgifknieaa", sum := "f9c2dd880ec1979b11659e5c216817c1f1a7b3d2685afdfde7c4051847e71f60", func := "reliquary/reliquarylaw01.FieldMuls", spec := "fieldMuls", apart := false }
def FieldMulsSaid : Prop := fieldMulsRow.holds Try.pinned (OpenSpec.ofChange fieldMulsSpec)

/-- ITS FALSE NEIGHBOUR: 'it returns false'. Refute it at one input. -/
def fieldMulsWrong : ChangeSpec := { name := "fieldMuls", fn := fun _ => fun
  | [d1, d2] => { results := [.lit (.bool false)], args := [d1, d2] }
  | _ => none }
def FieldMulsWrongFalsely : Prop := fieldMulsRow.holds Try.pinned (OpenSpec.ofChange fieldMulsWrong)

/-- 'reliquarylaw01.FieldInverts': WHATEVER THE INPUT: true; the input reads as it did. -/
def fieldInvertsSpec : ChangeSpec := { name := "fieldInverts", fn := fun _ => fun
  | [d] => { results := [.lit (.bool true)], args := [d] }
  | _ => none }
def fieldInvertsRow : OpenClaim := { program := "ytaeamdgifknieaa", sum := "f9c2dd880ec1979b11659e5c216817c1f1a7b3d2685afdfde7c4051847e71f60", func := "reliquary/reliquarylaw01.FieldInverts", spec := "fieldInverts", apart := false }
def FieldInvertsSaid : Prop := fieldInvertsRow.holds Try.pinned (OpenSpec.ofChange fieldInvertsSpec)

/-- ITS FALSE NEIGHBOUR: 'it returns false'. Refute it at one input. -/
def fieldInvertsWrong : ChangeSpec := { name := "fieldInverts", fn := fun _ => fun
  | [d] => { results := [.lit (.bool false)], args := [d] }
  | _ => none }
def FieldInvertsWrongFalsely : Prop := fieldInvertsRow.holds Try.pinned (OpenSpec.ofChange fieldInvertsWrong)

/-- 'reliquarylaw01.FieldPowers': WHATEVER THE INPUT: true; the input reads as it did. -/
def fieldPowersSpec : ChangeSpec := { name := "fieldPowers", fn := fun _ => fun
  | [d1, d2] => { results := [.lit (.bool true)], args := [d1, d2] }
  | _ => none }
def fieldPowersRow : OpenClaim := { program := "ytaeamdgifknieaa", sum := "f9c2dd880ec1979b11659e5c216817c1f1a7b3d2685afdfde7c4051847e71f60", func := "reliquary/reliquarylaw01.FieldPowers", spec := "fieldPowers", apart := false }
def FieldPowersSaid : Prop := fieldPowersRow.holds Try.pinned (OpenSpec.ofChange fieldPowersSpec)

/-- ITS FALSE NEIGHBOUR: 'it returns false'. Refute it at one input. -/
def fieldPowersWrong : ChangeSpec := { name := "fieldPowers", fn := fun _ => fun
  | [d1, d2] => { results := [.lit (.bool false)], args := [d1, d2] }
  | _ => none }
def FieldPowersWrongFalsely : Prop := fieldPowersRow.holds Try.pinned (OpenSpec.ofChange fieldPowersWrong)

/-- 'reliquarylaw01.FieldAffines': WHATEVER THE INPUT: true; the input reads as it did. -/
def fieldAffinesSpec : ChangeSpec := { name := "fieldAffines", fn := fun _ => fun
  | [d] => { results := [.lit (.bool true)], args := [d] }
  | _ => none }
def fieldAffinesRow : OpenClaim := { program := "ytaeamdgifknieaa", sum := "f9c2dd880ec1979b11659e5c216817c1f1a7b3d2685afdfde7c4051847e71f60", func := "reliquary/reliquarylaw01.FieldAffines", spec := "fieldAffines", apart := false }
def FieldAffinesSaid : Prop := fieldAffinesRow.holds Try.pinned (OpenSpec.ofChange fieldAffinesSpec)

/-- ITS FALSE NEIGHBOUR: 'it returns false'. Refute it at one input. -/
def fieldAffinesWrong : ChangeSpec := { name := "fieldAffines", fn := fun _ => fun
  | [d] => { results := [.lit (.bool false)], args := [d] }
  | _ => none }
def FieldAffinesWrongFalsely : Prop := fieldAffinesRow.holds Try.pinned (OpenSpec.ofChange fieldAffinesWrong)

/-- 'reliquarylaw01.FieldRing': WHATEVER THE INPUT: true; the input reads as it did. -/
def fieldRingSpec : ChangeSpec := { name := "fieldRing", fn := fun _ => fun
  | [d1, d2, d3] => { results := [.lit (.bool true)], args := [d1, d2, d3] }
  | _ => none }
def fieldRingRow : OpenClaim := { program := "ytaeamdgifknieaa", sum := "f9c2dd880ec1979b11659e5c216817c1f1a7b3d2685afdfde7c4051847e71f60", func := "reliquary/reliquarylaw01.FieldRing", spec := "fieldRing", apart := false }
def FieldRingSaid : Prop := fieldRingRow.holds Try.pinned (OpenSpec.ofChange fieldRingSpec)

/-- ITS FALSE NEIGHBOUR: 'it returns false'. Refute it at one input. -/
def fieldRingWrong : ChangeSpec := { name := "fieldRing", fn := fun _ => fun
  | [d1, d2, d3] => { results := [.lit (.bool false)], args := [d1, d2, d3] }
  | _ => none }
def FieldRingWrongFalsely : Prop := fieldRingRow.holds Try.pinned (OpenSpec.ofChange fieldRingWrong)

/-- 'reliquarylaw01.FieldDivides': WHATEVER THE INPUT: true; the input reads as it did. -/
def fieldDividesSpec : ChangeSpec := { name := "fieldDivides", fn := fun _ => fun
  | [d1, d2] => { results := [.lit (.bool true)], args := [d1, d2] }
  | _ => none }
def fieldDividesRow : OpenClaim := { program := "ytaeamdgifknieaa", sum := "f9c2dd880ec1979b11659e5c216817c1f1a7b3d2685afdfde7c4051847e71f60", func := "reliquary/reliquarylaw01.FieldDivides", spec := "fieldDivides", apart := false }
def FieldDividesSaid : Prop := fieldDividesRow.holds Try.pinned (OpenSpec.ofChange fieldDividesSpec)

/-- ITS FALSE NEIGHBOUR: 'it returns false'. Refute it at one input. -/
def fieldDividesWrong : ChangeSpec := { name := "fieldDivides", fn := fun _ => fun
  | [d1, d2] => { results := [.lit (.bool false)], args := [d1, d2] }
  | _ => none }
def FieldDividesWrongFalsely : Prop := fieldDividesRow.holds Try.pinned (OpenSpec.ofChange fieldDividesWrong)

/-- 'reliquarylaw01.FieldExponents': WHATEVER THE INPUT: true; the input reads as it did. -/
def fieldExponentsSpec : ChangeSpec := { name := "fieldExponents", fn := fun _ => fun
  | [d1, d2, d3] => { results := [.lit (.bool true)], args := [d1, d2, d3] }
  | _ => none }
def fieldExponentsRow : OpenClaim := { program := "ytaeamdgifknieaa", sum := "f9c2dd880ec1979b11659e5c216817c1f1a7b3d2685afdfde7c4051847e71f60", func := "reliquary/reliquarylaw01.FieldExponents", spec := "fieldExponents", apart := false }
def FieldExponentsSaid : Prop := fieldExponentsRow.holds Try.pinned (OpenSpec.ofChange fieldExponentsSpec)

/-- ITS FALSE NEIGHBOUR: 'it returns false'. Refute it at one input. -/
def fieldExponentsWrong : ChangeSpec := { name := "fieldExponents", fn := fun _ => fun
  | [d1, d2, d3] => { results := [.lit (.bool false)], args := [d1, d2, d3] }
  | _ => none }
def FieldExponentsWrongFalsely : Prop := fieldExponentsRow.holds Try.pinned (OpenSpec.ofChange fieldExponentsWrong)

/- THE SECOND FORM. 'bulk': how many values and letters a reading holds, each counted each time it is reached (what is shared counts as often as it is met; a slice's spare places count too). A statement '..UptoSaid' is the law's where the arguments, and the package variables that the reading takes, are together of bulk at most 1048576: NARROWER than '..Said'. Prove '..Said' where nothing that the law and all that it calls make is longer than what came in: it says more and counts as full. Else prove '..UptoSaid'. A law counts once. -/
mutual
def uptoBulk {H : Type} : DataW H → Nat
  | .lit (.string bytes) => bytes.length + 1
  | .lit _ => 1
  | .nil => 1
  | .ptr d => uptoBulk d + 1
  | .slice elems spare => uptoBulkAll elems + uptoBulkAll spare + 1
  | .agg parts => uptoBulkAll parts + 1
  | .iface _ d => uptoBulk d + 1
  | .map entries => uptoBulkEntries entries + 1
  | .held _ => 1
def uptoBulkAll {H : Type} : List (DataW H) → Nat
  | [] => 0
  | d :: r => uptoBulk d + uptoBulkAll r
def uptoBulkEntries {H : Type} : List (Lit × DataW H) → Nat
  | [] => 0
  | x :: r => uptoBulkEntry x + uptoBulkEntries r
def uptoBulkEntry {H : Type} : Lit × DataW H → Nat
  | (.string bytes, d) => bytes.length + uptoBulk d + 1
  | (_, d) => uptoBulk d + 1
 end
def uptoSmall : (H : Type) → List (DataW H) → Bool := fun _ ds => decide (uptoBulkAll ds ≤ 1048576)
def OpenSpec.upto (s : _root_.Go.ChangeSpec) : _root_.Go.OpenSpec := { _root_.Go.OpenSpec.ofChange s with cond := some uptoSmall }

/-- 'reliquarylaw10.CellRises', WHERE WHAT IT READS IS OF BULK AT MOST 1048576: true; the input reads as it did. -/
def cellRisesUptoRow : OpenClaim := { program := "ytaeamdgifknieaa", sum := "f9c2dd880ec1979b11659e5c216817c1f1a7b3d2685afdfde7c4051847e71f60", func := "reliquary/reliquarylaw10.CellRises", spec := "cellRises", inPlace := ["sync/atomic.AddInt64"], apart := false, narrowed := true }
def CellRisesUptoSaid : Prop := cellRisesUptoRow.holds Try.pinned (OpenSpec.upto cellRisesSpec)

/-- 'reliquarylaw10.CellRaises', WHERE WHAT IT READS IS OF BULK AT MOST 1048576: true; the input reads as it did. -/
def cellRaisesUptoRow : OpenClaim := { program := "ytaeamdgifknieaa", sum := "f9c2dd880ec1979b11659e5c216817c1f1a7b3d2685afdfde7c4051847e71f60", func := "reliquary/reliquarylaw10.CellRaises", spec := "cellRaises", inPlace := ["sync/atomic.AddInt64", "sync/atomic.LoadInt64"], apart := false, narrowed := true }
def CellRaisesUptoSaid : Prop := cellRaisesUptoRow.holds Try.pinned (OpenSpec.upto cellRaisesSpec)

/-- 'reliquarylaw10.CellForks', WHERE WHAT IT READS IS OF BULK AT MOST 1048576: true; the input reads as it did. -/
def cellForksUptoRow : OpenClaim := { program := "ytaeamdgifknieaa", sum := "f9c2dd880ec1979b11659e5c216817c1f1a7b3d2685afdfde7c4051847e71f60", func := "reliquary/reliquarylaw10.CellForks", spec := "cellForks", inPlace := ["sync/atomic.LoadInt64", "sync/atomic.StoreInt64", "sync/atomic.AddInt64"], apart := false, narrowed := true }
def CellForksUptoSaid : Prop := cellForksUptoRow.holds Try.pinned (OpenSpec.upto cellForksSpec)

/-- 'reliquarylaw01.FieldMuls', WHERE WHAT IT READS IS OF BULK AT MOST 1048576: true; the input reads as it did. -/
def fieldMulsUptoRow : OpenClaim := { program := "ytaeamdgifknieaa", sum := "f9c2dd880ec1979b11659e5c216817c1f1a7b3d2685afdfde7c4051847e71f60", func := "reliquary/reliquarylaw01.FieldMuls", spec := "fieldMuls", apart := false, narrowed := true }
def FieldMulsUptoSaid : Prop := fieldMulsUptoRow.holds Try.pinned (OpenSpec.upto fieldMulsSpec)

/-- 'reliquarylaw01.FieldInverts', WHERE WHAT IT READS IS OF BULK AT MOST 1048576: true; the input reads as it did. -/
def fieldInvertsUptoRow : OpenClaim := { program := "ytaeamdgifknieaa", sum := "f9c2dd880ec1979b11659e5c216817c1f1a7b3d2685afdfde7c4051847e71f60", func := "reliquary/reliquarylaw01.FieldInverts", spec := "fieldInverts", apart := false, narrowed := true }
def FieldInvertsUptoSaid : Prop := fieldInvertsUptoRow.holds Try.pinned (OpenSpec.upto fieldInvertsSpec)

/-- 'reliquarylaw01.FieldPowers', WHERE WHAT IT READS IS OF BULK AT MOST 1048576: true; the input reads as it did. -/
def fieldPowersUptoRow : OpenClaim := { program := "ytaeamdgifknieaa", sum := "f9c2dd880ec1979b11659e5c216817c1f1a7b3d2685afdfde7c4051847e71f60", func := "reliquary/reliquarylaw01.FieldPowers", spec := "fieldPowers", apart := false, narrowed := true }
def FieldPowersUptoSaid : Prop := fieldPowersUptoRow.holds Try.pinned (OpenSpec.upto fieldPowersSpec)

/-- 'reliquarylaw01.FieldAffines', WHERE WHAT IT READS IS OF BULK AT MOST 1048576: true; the input reads as it did. -/
def fieldAffinesUptoRow : OpenClaim := { program := "ytaeamdgifknieaa", sum := "f9c2dd880ec1979b11659e5c216817c1f1a7b3d2685afdfde7c4051847e71f60", func := "reliquary/reliquarylaw01.FieldAffines", spec := "fieldAffines", apart := false, narrowed := true }
def FieldAffinesUptoSaid : Prop := fieldAffinesUptoRow.holds Try.pinned (OpenSpec.upto fieldAffinesSpec)

/-- 'reliquarylaw01.FieldRing', WHERE WHAT IT READS IS OF BULK AT MOST 1048576: true; the input reads as it did. -/
def fieldRingUptoRow : OpenClaim := { program := "ytaeamdgifknieaa", sum := "f9c2dd880ec1979b11659e5c216817c1f1a7b3d2685afdfde7c4051847e71f60", func := "reliquary/reliquarylaw01.FieldRing", spec := "fieldRing", apart := false, narrowed := true }
def FieldRingUptoSaid : Prop := fieldRingUptoRow.holds Try.pinned (OpenSpec.upto fieldRingSpec)

/-- 'reliquarylaw01.FieldDivides', WHERE WHAT IT READS IS OF BULK AT MOST 1048576: true; the input reads as it did. -/
def fieldDividesUptoRow : OpenClaim := { program := "ytaeamdgifknieaa", sum := "f9c2dd880ec1979b11659e5c216817c1f1a7b3d2685afdfde7c4051847e71f60", func := "reliquary/reliquarylaw01.FieldDivides", spec := "fieldDivides", apart := false, narrowed := true }
def FieldDividesUptoSaid : Prop := fieldDividesUptoRow.holds Try.pinned (OpenSpec.upto fieldDividesSpec)

/-- 'reliquarylaw01.FieldExponents', WHERE WHAT IT READS IS OF BULK AT MOST 1048576: true; the input reads as it did. -/
def fieldExponentsUptoRow : OpenClaim := { program := "ytaeamdgifknieaa", sum := "f9c2dd880ec1979b11659e5c216817c1f1a7b3d2685afdfde7c4051847e71f60", func := "reliquary/reliquarylaw01.FieldExponents", spec := "fieldExponents", apart := false, narrowed := true }
def FieldExponentsUptoSaid : Prop := fieldExponentsUptoRow.holds Try.pinned (OpenSpec.upto fieldExponentsSpec)

end Rows
end Go.Proofs.Ytaeamdgifknieaa
