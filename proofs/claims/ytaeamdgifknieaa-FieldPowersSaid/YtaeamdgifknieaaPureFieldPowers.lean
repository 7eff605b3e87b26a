/- The two powers of any byte agree: for every input of the statement the printed law answers true. No condition beyond the statement's own. -/
import Derived.Test.YtaeamdgifknieaaBFieldPowers
namespace Go.Proofs.Ytaeamdgifknieaa.Pure
open Go.RowKit Go.Proofs.Ytaeamdgifknieaa.PFieldPowers Go.Proofs.YtaeamdgifknieaaW.PrintWords Go.Proofs.YtaeamdgifknieaaW.PrintLast Go.Proofs.YtaeamdgifknieaaW.PrintMore Go.Proofs.Ytaeamdgifknieaa.BFieldPowers Go.Proofs.Ytaeamdgifknieaa

theorem ref_power_l0 (d : Nat) : ∀ (k a n x i : Nat), a < 256 → x < 256 → n < 255 → i + d = n → d + 20 ≤ k → reliquaryref01_Power.l0 k a n x i = some ((Fld.refPow a d x : Nat) : Int) := by
  induction d with
  | zero =>
    intro k a n x i ha hx hn hi hk
    obtain ⟨k, rfl⟩ : ∃ m, k = m + 1 := ⟨k - 1, by omega⟩
    simp only [reliquaryref01_Power.l0]
    rw [if_neg (by omega)]
    rfl
  | succ d ih =>
    intro k a n x i ha hx hn hi hk
    obtain ⟨k, rfl⟩ : ∃ m, k = m + 1 := ⟨k - 1, by omega⟩
    have hw : wrap64 ((i : Int) + 1) = ((i + 1 : Nat) : Int) := by unfold wrap64; omega
    simp only [reliquaryref01_Power.l0, hw, ref_mul_eq k x a hx ha (by omega), Option.bind_some]
    rw [if_pos (by omega), Fld.refPow]
    exact ih k a n _ (i + 1) ha (Fld.mul_lt _ hx) hn (by omega) (by omega)
theorem ref_power_j0 (k a m : Nat) (ha : a < 256) (hm : m < 255) (hk : 300 ≤ k) : reliquaryref01_Power.j0 k a m = some ((Fld.pow a m : Nat) : Int) := by
  obtain ⟨k, rfl⟩ : ∃ m, k = m + 1 := ⟨k - 1, by omega⟩
  simp only [reliquaryref01_Power.j0]
  have h := ref_power_l0 m k a m 1 0 ha (by omega) hm (by omega) (by omega)
  rw [Fld.refPow_eq ha m 1 (by omega), Fld.one_mul (Fld.pow_lt m)] at h
  exact h
theorem ref_power_eq (k a : Nat) (n : Int) (ha : a < 256) (hk : 300 ≤ k) : reliquaryref01_Power.f k a n = some ((Fld.pw a n : Nat) : Int) := by
  unfold reliquaryref01_Power.f Fld.pw
  by_cases h : a = 0
  · rw [if_pos (by omega)]
    by_cases hn : n = 0
    · rw [if_pos hn, if_neg (by omega), hn]
      rfl
    · rw [if_neg hn, if_pos ⟨h, hn⟩]
      rfl
  · rw [if_neg (show ¬ ((a : Int) = 0) by omega), if_neg (show ¬ (a = 0 ∧ n ≠ 0) by omega)]
    have hm : (((n % 255).toNat : Nat) : Int) = n % 255 := by omega
    have hlt : (n % 255).toNat < 255 := by omega
    have ht := Int.tmod_eq_emod (a := n) (b := 255)
    by_cases h : Int.tmod n 255 < 0
    · have e : wrap64 (Int.tmod n 255 + 255) = (((n % 255).toNat : Nat) : Int) := by
        rw [hm]
        split at ht
        · omega
        · have e1 : ((255 : Int).natAbs : Int) = 255 := rfl
          rw [e1] at ht
          unfold wrap64
          omega
      rw [if_pos h, e]
      exact ref_power_j0 k a _ ha hlt hk
    · have e : Int.tmod n 255 = (((n % 255).toNat : Nat) : Int) := by
        rw [hm]
        split at ht
        · omega
        · have e1 : ((255 : Int).natAbs : Int) = 255 := rfl
          rw [e1] at ht
          omega
      rw [if_neg h, e]
      exact ref_power_j0 k a _ ha hlt hk
theorem FieldPowers : reliquarylaw01_FieldPowers.Pure := by
  intro a0 n w0 _
  obtain ⟨a, rfl, ha⟩ := byte_of w0
  refine ⟨400, ?_⟩
  unfold reliquarylaw01_FieldPowers.f
  rw [power_eq 400 a n ha (by omega), ref_power_eq 400 a n ha (by omega), awake_eq 400 (by omega)]
  simp

end Go.Proofs.Ytaeamdgifknieaa.Pure
