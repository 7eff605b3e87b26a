/- The two products of any two bytes agree: for every input of the statement the printed law answers true. No condition beyond the statement's own. -/
import Derived.Test.YtaeamdgifknieaaBFieldMuls
namespace Go.Proofs.Ytaeamdgifknieaa.Pure
open Go.RowKit Go.Proofs.Ytaeamdgifknieaa.PFieldMuls Go.Proofs.YtaeamdgifknieaaW.PrintWords Go.Proofs.YtaeamdgifknieaaW.PrintLast Go.Proofs.YtaeamdgifknieaaW.PrintMore Go.Proofs.Ytaeamdgifknieaa.BFieldMuls Go.Proofs.Ytaeamdgifknieaa

theorem FieldMuls : reliquarylaw01_FieldMuls.Pure := by
  intro a0 a1 w0 w1
  obtain ⟨a, rfl, ha⟩ := byte_of w0
  obtain ⟨b, rfl, hb⟩ := byte_of w1
  refine ⟨400, ?_⟩
  unfold reliquarylaw01_FieldMuls.f
  rw [mul_eq 400 a b ha hb (by omega), ref_mul_eq 400 a b ha hb (by omega), awake_eq 400 (by omega)]
  simp

end Go.Proofs.Ytaeamdgifknieaa.Pure
