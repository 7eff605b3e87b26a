/-
  DERIVED. GIVEN WITH THE SEED: THE CARDS: each row of YtkpdmbcefjjfgaaDoorRows.lean that lists a variable, with what it lists TIED to the program's text (the seventh form; the later family's looks); each row that meets fmt, with fmt's text TOLD by the authors' own Lean function (tested against real Go, not proved from fmt's source: count such statements apart). THE CARD IS WHAT COUNTS. Prove the row's statement (the work); the ties are given (YtkpdmbcefjjfgaaDoorTie.lean); close each card by the builder's one call (the guide's Derived/Test/ToyasCard.lean, 'card_holds'). Laid BY PROGRAM, IN A SANDBOX (cutbox-door.mjs). By AI agents, Wed Nov 11 2026. No macro, syntax, notation, axiom, sorry.
-/
import Derived.Test.YtkpdmbcefjjfgaaDoorRows
import GoSem.ClaimSeven
namespace Go.Proofs.YtkpdmbcefjjfgaaDoor
namespace Rows

/-- THE TIED CARD OF 'reliquarylaw17.AllocForks'. -/
def allocForksCard : Claim7 := { stood := { row := allocForksRow, standIns := [], harness := (true, "dd37d134e0286848ca40d30434e0eac33146261bea603cf49ec62100d459935b"), looks := false }, kinds := [], alts := [], laidByText := true, laidKinds := [.data], laidTests := true, laidLooks := .later }
def AllocForksCardSaid : Prop := Claim7.holds Tryd.pinned (.plain (OpenSpec.ofChange allocForksSpec)) allocForksCard

/-- THE TIED CARD OF 'reliquarylaw17.AllocNobody'. -/
def allocNobodyCard : Claim7 := { stood := { row := allocNobodyRow, standIns := [], harness := (true, "dd37d134e0286848ca40d30434e0eac33146261bea603cf49ec62100d459935b"), looks := false }, kinds := [], alts := [], laidByText := true, laidKinds := [.data], laidTests := true, laidLooks := .later }
def AllocNobodyCardSaid : Prop := Claim7.holds Tryd.pinned (.plain (OpenSpec.ofChange allocNobodySpec)) allocNobodyCard

/-- THE TIED CARD OF 'reliquarylaw17.AllocAll'. -/
def allocAllCard : Claim7 := { stood := { row := allocAllRow, standIns := [], harness := (true, "dd37d134e0286848ca40d30434e0eac33146261bea603cf49ec62100d459935b"), looks := false }, kinds := [], alts := [], laidByText := true, laidKinds := [.data], laidTests := true, laidLooks := .later }
def AllocAllCardSaid : Prop := Claim7.holds Tryd.pinned (.plain (OpenSpec.ofChange allocAllSpec)) allocAllCard

/-- THE TIED CARD OF 'reliquarylaw17.AllocLists'. -/
def allocListsCard : Claim7 := { stood := { row := allocListsRow, standIns := [], harness := (true, "dd37d134e0286848ca40d30434e0eac33146261bea603cf49ec62100d459935b"), looks := false }, kinds := [], alts := [], laidByText := true, laidKinds := [.data], laidTests := true, laidLooks := .later }
def AllocListsCardSaid : Prop := Claim7.holds Tryd.pinned (.plain (OpenSpec.ofChange allocListsSpec)) allocListsCard

/-- THE TIED CARD OF 'reliquarylaw17.AllocLowest'. -/
def allocLowestCard : Claim7 := { stood := { row := allocLowestRow, standIns := [], harness := (true, "dd37d134e0286848ca40d30434e0eac33146261bea603cf49ec62100d459935b"), looks := false }, kinds := [], alts := [], laidByText := true, laidKinds := [.data], laidTests := true, laidLooks := .later }
def AllocLowestCardSaid : Prop := Claim7.holds Tryd.pinned (.plain (OpenSpec.ofChange allocLowestSpec)) allocLowestCard

/-- THE TIED CARD OF 'reliquarylaw17.AllocPlays'. -/
def allocPlaysCard : Claim7 := { stood := { row := allocPlaysRow, standIns := [], harness := (true, "dd37d134e0286848ca40d30434e0eac33146261bea603cf49ec62100d459935b"), looks := false }, kinds := [], alts := [], laidByText := true, laidKinds := [.data], laidTests := true, laidLooks := .later }
def AllocPlaysCardSaid : Prop := Claim7.holds Tryd.pinned (.plain (OpenSpec.ofChange allocPlaysSpec)) allocPlaysCard

/-- THE SECOND FORM's CARD OF 'reliquarylaw17.AllocForks'. -/
def allocForksUptoCard : Claim7 := { stood := { row := allocForksUptoRow, standIns := [], harness := (true, "dd37d134e0286848ca40d30434e0eac33146261bea603cf49ec62100d459935b"), looks := false }, kinds := [], alts := [], laidByText := true, laidKinds := [.data], laidTests := true, laidLooks := .later }
def AllocForksUptoCardSaid : Prop := Claim7.holds Tryd.pinned (.plain (OpenSpec.upto allocForksSpec)) allocForksUptoCard

/-- THE SECOND FORM's CARD OF 'reliquarylaw17.AllocNobody'. -/
def allocNobodyUptoCard : Claim7 := { stood := { row := allocNobodyUptoRow, standIns := [], harness := (true, "dd37d134e0286848ca40d30434e0eac33146261bea603cf49ec62100d459935b"), looks := false }, kinds := [], alts := [], laidByText := true, laidKinds := [.data], laidTests := true, laidLooks := .later }
def AllocNobodyUptoCardSaid : Prop := Claim7.holds Tryd.pinned (.plain (OpenSpec.upto allocNobodySpec)) allocNobodyUptoCard

/-- THE SECOND FORM's CARD OF 'reliquarylaw17.AllocAll'. -/
def allocAllUptoCard : Claim7 := { stood := { row := allocAllUptoRow, standIns := [], harness := (true, "dd37d134e0286848ca40d30434e0eac33146261bea603cf49ec62100d459935b"), looks := false }, kinds := [], alts := [], laidByText := true, laidKinds := [.data], laidTests := true, laidLooks := .later }
def AllocAllUptoCardSaid : Prop := Claim7.holds Tryd.pinned (.plain (OpenSpec.upto allocAllSpec)) allocAllUptoCard

/-- THE SECOND FORM's CARD OF 'reliquarylaw17.AllocLists'. -/
def allocListsUptoCard : Claim7 := { stood := { row := allocListsUptoRow, standIns := [], harness := (true, "dd37d134e0286848ca40d30434e0eac33146261bea603cf49ec62100d459935b"), looks := false }, kinds := [], alts := [], laidByText := true, laidKinds := [.data], laidTests := true, laidLooks := .later }
def AllocListsUptoCardSaid : Prop := Claim7.holds Tryd.pinned (.plain (OpenSpec.upto allocListsSpec)) allocListsUptoCard

/-- THE SECOND FORM's CARD OF 'reliquarylaw17.AllocLowest'. -/
def allocLowestUptoCard : Claim7 := { stood := { row := allocLowestUptoRow, standIns := [], harness := (true, "dd37d134e0286848ca40d30434e0eac33146261bea603cf49ec62100d459935b"), looks := false }, kinds := [], alts := [], laidByText := true, laidKinds := [.data], laidTests := true, laidLooks := .later }
def AllocLowestUptoCardSaid : Prop := Claim7.holds Tryd.pinned (.plain (OpenSpec.upto allocLowestSpec)) allocLowestUptoCard

/-- THE SECOND FORM's CARD OF 'reliquarylaw17.AllocPlays'. -/
def allocPlaysUptoCard : Claim7 := { stood := { row := allocPlaysUptoRow, standIns := [], harness := (true, "dd37d134e0286848ca40d30434e0eac33146261bea603cf49ec62100d459935b"), looks := false }, kinds := [], alts := [], laidByText := true, laidKinds := [.data], laidTests := true, laidLooks := .later }
def AllocPlaysUptoCardSaid : Prop := Claim7.holds Tryd.pinned (.plain (OpenSpec.upto allocPlaysSpec)) allocPlaysUptoCard
end Rows
end Go.Proofs.YtkpdmbcefjjfgaaDoor
