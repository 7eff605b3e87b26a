/- The two inverses of any byte agree: for every input of the statement the printed law answers true. No condition beyond the statement's own. -/
import Derived.Test.YtaeamdgifknieaaBFieldInverts
namespace Go.Proofs.Ytaeamdgifknieaa.Pure
open Go.RowKit Go.Proofs.Ytaeamdgifknieaa.PFieldInverts Go.Proofs.YtaeamdgifknieaaW.PrintWords Go.Proofs.YtaeamdgifknieaaW.PrintLast Go.Proofs.YtaeamdgifknieaaW.PrintMore Go.Proofs.Ytaeamdgifknieaa.BFieldInverts Go.Proofs.Ytaeamdgifknieaa

theorem ref_inverse_l0 (d : Nat) : ∀ (k a i : Nat), a < 256 → i + d = 256 → d + 20 ≤ k → (∀ j, j < i → Fld.mul a j ≠ 1) → reliquaryref01_Inverse.l0 k a i = some ((Fld.inv a : Nat) : Int) := by
  induction d with
  | zero =>
    intro k a i ha hi hk hj
    obtain ⟨k, rfl⟩ : ∃ m, k = m + 1 := ⟨k - 1, by omega⟩
    simp only [reliquaryref01_Inverse.l0]
    rw [if_neg (by omega)]
    by_cases h : a = 0
    · subst h
      rw [Fld.inv_zero]
      rfl
    · exact absurd (Fld.mul_inv h ha) (hj _ (by have := Fld.inv_lt a; omega))
  | succ d ih =>
    intro k a i ha hi hk hj
    obtain ⟨k, rfl⟩ : ∃ m, k = m + 1 := ⟨k - 1, by omega⟩
    have hw : wrap64 ((i : Int) + 1) = ((i + 1 : Nat) : Int) := by unfold wrap64; omega
    have hm : (i : Int) % 256 = (i : Int) := by omega
    simp only [reliquaryref01_Inverse.l0, hm, hw, ref_mul_eq k a i ha (by omega) (by omega), Option.bind_some]
    rw [if_pos (by omega)]
    by_cases h : Fld.mul a i = 1
    · rw [if_pos (by omega), ← Fld.inv_only ha (by omega) h]
    · rw [if_neg (by omega)]
      exact ih k a (i + 1) ha (by omega) (by omega) fun j hlt => by
        by_cases e : j = i
        · subst e
          exact h
        · exact hj j (by omega)
theorem FieldInverts : reliquarylaw01_FieldInverts.Pure := by
  intro a0 w0
  obtain ⟨a, rfl, ha⟩ := byte_of w0
  refine ⟨400, ?_⟩
  unfold reliquarylaw01_FieldInverts.f reliquaryref01_Inverse.f
  have h := ref_inverse_l0 256 400 a 0 ha (by omega) (by omega) (fun j hj => by omega)
  rw [inverse_eq 400 a ha (by omega), show (0 : Int) = ((0 : Nat) : Int) from rfl, h, awake_eq 400 (by omega)]
  simp

end Go.Proofs.Ytaeamdgifknieaa.Pure
