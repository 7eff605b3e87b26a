/- Powers go by sums of their numbers: for every input of the statement the printed law answers true. No condition beyond the statement's own. -/
import Derived.Test.YtaeamdgifknieaaBFieldExponents
namespace Go.Proofs.Ytaeamdgifknieaa.Pure
open Go.RowKit Go.Proofs.Ytaeamdgifknieaa.PFieldExponents Go.Proofs.YtaeamdgifknieaaW.PrintWords Go.Proofs.YtaeamdgifknieaaW.PrintLast Go.Proofs.YtaeamdgifknieaaW.PrintMore Go.Proofs.Ytaeamdgifknieaa.BFieldExponents Go.Proofs.Ytaeamdgifknieaa

theorem i16_of {m : Int} (w : (Lit.int .i16 m).wf = true) : -32768 ≤ m ∧ m ≤ 32767 := by
  simpa [Lit.wf, IntKind.min, IntKind.max, IntKind.signed, IntKind.bits] using w
theorem wrap_in {m : Int} (h : -65536 ≤ m ∧ m ≤ 65536) : wrap64 m = m := by
  unfold wrap64
  omega
theorem FieldExponents : reliquarylaw01_FieldExponents.Pure := by
  intro a0 m n w0 w1 w2
  obtain ⟨a, rfl, ha⟩ := byte_of w0
  have hm := i16_of w1
  have hn := i16_of w2
  refine ⟨400, ?_⟩
  unfold reliquarylaw01_FieldExponents.f
  have z0 : field_Power.f 400 0 0 = some 1 := (power_eq 400 0 0 (by omega) (by omega)).trans (by decide +kernel)
  by_cases h : a = 0
  · subst h
    rw [if_pos (by omega), z0]
    simp only [Option.bind_some, awake_eq 400 (by omega)]
    rw [if_pos trivial]
    by_cases hz : n = 0
    · rw [if_pos hz]
    · rw [if_neg hz, wrap_in (by omega)]
      have zn : field_Power.f 400 0 n = some 0 := (power_eq 400 0 n (by omega) (by omega)).trans (by unfold Fld.pw; rw [if_pos ⟨rfl, hz⟩]; rfl)
      rw [zn]
      rfl
  · rw [if_neg (by omega), wrap_in (m := m) (by omega), wrap_in (m := n) (by omega), wrap_in (m := m + n) (by omega)]
    have e1 : Fld.pw a (-1) = Fld.inv a := by
      rw [Fld.inv_of h]
      unfold Fld.pw
      rw [if_neg (by omega)]
      rfl
    have e2 : Fld.pw a 255 = 1 := by
      unfold Fld.pw
      rw [if_neg (by omega)]
      rfl
    simp only [power_eq 400 a (m + n) ha (by omega), power_eq 400 a m ha (by omega), power_eq 400 a n ha (by omega), power_eq 400 a (-1) ha (by omega), power_eq 400 a 255 ha (by omega), inverse_eq 400 a ha (by omega), mul_eq 400 _ _ (Fld.pw_lt a m) (Fld.pw_lt a n) (by omega), Option.bind_some, awake_eq 400 (by omega), e1, e2]
    rw [if_pos (by rw [Fld.pw_add h ha]), if_pos trivial, if_pos (by omega)]

end Go.Proofs.Ytaeamdgifknieaa.Pure
