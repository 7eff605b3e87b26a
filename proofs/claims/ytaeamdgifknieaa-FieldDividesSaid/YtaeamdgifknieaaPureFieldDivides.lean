/- Each byte but 0 has an inverse, and inverses go through products: for every input of the statement the printed law answers true. No condition beyond the statement's own. -/
import Derived.Test.YtaeamdgifknieaaBFieldDivides
namespace Go.Proofs.Ytaeamdgifknieaa.Pure
open Go.RowKit Go.Proofs.Ytaeamdgifknieaa.PFieldDivides Go.Proofs.YtaeamdgifknieaaW.PrintWords Go.Proofs.YtaeamdgifknieaaW.PrintLast Go.Proofs.YtaeamdgifknieaaW.PrintMore Go.Proofs.Ytaeamdgifknieaa.BFieldDivides Go.Proofs.Ytaeamdgifknieaa

theorem FieldDivides : reliquarylaw01_FieldDivides.Pure := by
  intro a0 a1 w0 w1
  obtain ⟨a, rfl, ha⟩ := byte_of w0
  obtain ⟨b, rfl, hb⟩ := byte_of w1
  refine ⟨400, ?_⟩
  have hi := Fld.inv_lt a
  have hj := Fld.inv_lt b
  unfold reliquarylaw01_FieldDivides.f
  simp only [inverse_eq 400 a ha (by omega), inverse_eq 400 b hb (by omega), inverse_eq 400 (Fld.inv a) hi (by omega), mul_eq 400 a b ha hb (by omega), inverse_eq 400 (Fld.mul a b) (Fld.mul_lt _ ha) (by omega), mul_eq 400 a (Fld.inv a) ha hi (by omega), mul_eq 400 (Fld.inv a) (Fld.inv b) hi hj (by omega), Option.bind_some, awake_eq 400 (by omega), Fld.inv_inv ha, Fld.inv_mul ha hb]
  by_cases h : a = 0
  · subst h
    rw [if_pos (by omega), if_pos (by rw [Fld.inv_zero]; omega), if_pos trivial, if_pos trivial]
  · rw [if_neg (by omega), if_pos (by rw [Fld.mul_inv h ha]; omega), if_pos trivial, if_pos trivial]

end Go.Proofs.Ytaeamdgifknieaa.Pure
