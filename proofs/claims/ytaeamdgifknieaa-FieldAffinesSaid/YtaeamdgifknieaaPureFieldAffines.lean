/- The two turnings of any byte's bits agree: for every input of the statement the printed law answers true. No condition beyond the statement's own. -/
import Derived.Test.YtaeamdgifknieaaBFieldAffines
namespace Go.Proofs.Ytaeamdgifknieaa.Pure
open Go.RowKit Go.Proofs.Ytaeamdgifknieaa.PFieldAffines Go.Proofs.YtaeamdgifknieaaW.PrintWords Go.Proofs.YtaeamdgifknieaaW.PrintLast Go.Proofs.YtaeamdgifknieaaW.PrintMore Go.Proofs.Ytaeamdgifknieaa.BFieldAffines Go.Proofs.Ytaeamdgifknieaa

theorem affines_all : ((List.range 256).all fun a => decide (reliquarylaw01_FieldAffines.f 40 (a : Int) = some true)) = true := by decide +kernel
theorem FieldAffines : reliquarylaw01_FieldAffines.Pure := by
  intro a0 w0
  obtain ⟨a, rfl, ha⟩ := byte_of w0
  exact ⟨40, of_decide_eq_true (Fld.all_of affines_all a ha)⟩

end Go.Proofs.Ytaeamdgifknieaa.Pure
