/- The printed functions of FieldInverts are the field's plain functions (numbers alone). No condition beyond the numbers' bounds. -/
import Derived.Test.YtaeamdgifknieaaFld
import Derived.Test.YtaeamdgifknieaaPFieldInvertsx2
namespace Go.Proofs.Ytaeamdgifknieaa.BFieldInverts
open Go.RowKit Go.Proofs.Ytaeamdgifknieaa.PFieldInverts Go.Proofs.YtaeamdgifknieaaW.PrintWords Go.Proofs.YtaeamdgifknieaaW.PrintLast Go.Proofs.YtaeamdgifknieaaW.PrintMore
open Fld (mul mulTo pow pw inv sh fast xlt sh_lt mul_lt)

theorem byte_of {a0 : Int} (w : (Lit.int .u8 a0).wf = true) : ∃ a : Nat, a0 = (a : Int) ∧ a < 256 := by
  have hx : 0 ≤ a0 ∧ a0 ≤ 255 := by simpa [Lit.wf, IntKind.min, IntKind.max, IntKind.signed, IntKind.bits] using w
  exact ⟨a0.toNat, by omega, by omega⟩
theorem shift_all : ((List.range 256).all fun a => decide (field_shift.f (a : Int) = some ((sh a : Nat) : Int))) = true := by decide +kernel
theorem shift_eq (a : Nat) (ha : a < 256) : field_shift.f (a : Int) = some ((sh a : Nat) : Int) := of_decide_eq_true (Fld.all_of shift_all a ha)

theorem mul_l0 (d : Nat) : ∀ (k a b p : Nat) (i : Int), a < 256 → b < 256 → p < 256 → i = 8 - d → 0 ≤ i → d < k → field_Mul.l0 k a b p i = some ((mulTo d a b p : Nat) : Int) := by
  induction d with
  | zero =>
    intro k a b p i ha hb hp hi h0 hk
    obtain ⟨k, rfl⟩ : ∃ m, k = m + 1 := ⟨k - 1, by omega⟩
    simp only [field_Mul.l0]
    rw [if_neg (by omega)]
    rfl
  | succ d ih =>
    intro k a b p i ha hb hp hi h0 hk
    obtain ⟨k, rfl⟩ : ∃ m, k = m + 1 := ⟨k - 1, by omega⟩
    have hw : wrap64 (i + 1) = i + 1 := by unfold wrap64; omega
    have hd : ((b : Int) / 2) = ((b / 2 : Nat) : Int) := by omega
    simp only [field_Mul.l0, shift_eq a ha, Option.bind_some, Fld.u8_and1 b hb, hw, hd]
    rw [if_pos (by omega)]
    by_cases h : b % 2 = 1
    · rw [if_neg (by omega), u8_xor_nat p a hp ha, ih k (sh a) (b / 2) (p ^^^ a) (i + 1) (sh_lt a) (by omega) (xlt hp ha) (by omega) (by omega) (by omega), mulTo, if_pos h]
    · rw [if_pos (by omega), ih k (sh a) (b / 2) p (i + 1) (sh_lt a) (by omega) hp (by omega) (by omega) (by omega), mulTo, if_neg h, Nat.xor_zero]
theorem mul_eq (k a b : Nat) (ha : a < 256) (hb : b < 256) (hk : 8 < k) : field_Mul.f k a b = some ((mul a b : Nat) : Int) :=
  mul_l0 8 k a b 0 0 ha hb (by omega) (by omega) (by omega) hk

theorem power_l0 (r : Nat) : ∀ (k n a p : Nat), n < 2 ^ r → r ≤ 60 → a < 256 → p < 256 → r + 10 ≤ k → field_Power.l0 k a n p = some ((fast r n a p : Nat) : Int) := by
  induction r with
  | zero =>
    intro k n a p hn _ ha hp hk
    obtain ⟨k, rfl⟩ : ∃ m, k = m + 1 := ⟨k - 1, by omega⟩
    have h0 : n = 0 := by simpa using hn
    subst h0
    simp only [field_Power.l0]
    rw [if_neg (by omega)]
    rfl
  | succ r ih =>
    intro k n a p hn hr ha hp hk
    obtain ⟨k, rfl⟩ : ∃ m, k = m + 1 := ⟨k - 1, by omega⟩
    rw [Nat.pow_succ] at hn
    have hb : 2 ^ r ≤ 2 ^ 60 := Nat.pow_le_pow_right (by omega) (by omega)
    have hd : ((n : Int) / 2) = ((n / 2 : Nat) : Int) := by omega
    simp only [field_Power.l0, mul_eq k a a ha ha (by omega), mul_eq k p a hp ha (by omega), Option.bind_some, Fld.i64_and1 n (by omega), hd]
    rw [fast]
    by_cases h0 : n = 0
    · rw [if_neg (by omega), if_pos h0]
    · rw [if_pos (by omega), if_neg h0]
      by_cases h : n % 2 = 1
      · rw [if_neg (by omega), if_pos h, ih k (n / 2) (mul a a) (mul p a) (by omega) (by omega) (mul_lt _ ha) (mul_lt _ hp) (by omega)]
      · rw [if_pos (by omega), if_neg h, ih k (n / 2) (mul a a) p (by omega) (by omega) (mul_lt _ ha) hp (by omega)]
theorem power_at (k a m : Nat) (ha : a < 256) (hm : m < 255) (hk : 19 < k) : field_Power.j1 k a m = some ((pow a m : Nat) : Int) := by
  obtain ⟨k, rfl⟩ : ∃ m, k = m + 1 := ⟨k - 1, by omega⟩
  simp only [field_Power.j1]
  have h := power_l0 8 k m a 1 (by omega) (by omega) ha (by omega) (by omega)
  rw [Fld.fast_eq 8 m a 1 (by omega) ha (by omega), Fld.one_mul (Fld.pow_lt m)] at h
  exact h
theorem power_j0 (k a : Nat) (n : Int) (ha : a < 256) (hk : 20 < k) : field_Power.j0 k a n false = some ((pow a (n % 255).toNat : Nat) : Int) := by
  obtain ⟨k, rfl⟩ : ∃ m, k = m + 1 := ⟨k - 1, by omega⟩
  simp only [field_Power.j0]
  rw [if_neg (by simp)]
  have hm : (((n % 255).toNat : Nat) : Int) = n % 255 := by omega
  have hlt : (n % 255).toNat < 255 := by omega
  have ht := Int.tmod_eq_emod (a := n) (b := 255)
  by_cases h : Int.tmod n 255 < 0
  · have e : wrap64 (Int.tmod n 255 + 255) = (((n % 255).toNat : Nat) : Int) := by
      rw [hm]
      split at ht
      · omega
      · have e1 : ((255 : Int).natAbs : Int) = 255 := rfl
        rw [e1] at ht
        unfold wrap64
        omega
    rw [if_pos h, e]
    exact power_at k a _ ha hlt (by omega)
  · have e : Int.tmod n 255 = (((n % 255).toNat : Nat) : Int) := by
      rw [hm]
      split at ht
      · omega
      · have e1 : ((255 : Int).natAbs : Int) = 255 := rfl
        rw [e1] at ht
        omega
    rw [if_neg h, e]
    exact power_at k a _ ha hlt (by omega)
theorem power_eq (k a : Nat) (n : Int) (ha : a < 256) (hk : 20 < k) : field_Power.f k a n = some ((pw a n : Nat) : Int) := by
  unfold field_Power.f pw
  by_cases h : a = 0
  · rw [if_pos (by omega)]
    by_cases hn : n = 0
    · rw [if_neg (by omega), show (n != 0) = false by simp [hn]]
      exact power_j0 k a n ha hk
    · rw [if_pos ⟨h, hn⟩, show (n != 0) = true by simp [hn]]
      obtain ⟨k, rfl⟩ : ∃ m, k = m + 1 := ⟨k - 1, by omega⟩
      simp only [field_Power.j0]
      rfl
  · rw [if_neg (by omega), if_neg (by omega)]
    exact power_j0 k a n ha hk
theorem inverse_eq (k a : Nat) (ha : a < 256) (hk : 20 < k) : field_Inverse.f k a = some ((inv a : Nat) : Int) := by
  unfold field_Inverse.f
  rw [power_eq k a 254 ha hk]
  rfl
theorem affine_zero : field_Affine.f 0 = some 99 := by decide +kernel
theorem awake_eq (k : Nat) (hk : 20 < k) : reliquarylaw01_awake.f k = some true := by
  unfold reliquarylaw01_awake.f
  have h1 : field_Mul.f k 87 131 = some 193 := (mul_eq k 87 131 (by omega) (by omega) (by omega)).trans (by decide +kernel)
  have h2 : field_Inverse.f k 83 = some 202 := (inverse_eq k 83 (by omega) hk).trans (by decide +kernel)
  rw [h1, h2, affine_zero]
  rfl
theorem two_pow_le {i : Nat} (h : i ≤ 14) : 2 ^ i ≤ 16384 := Nat.pow_le_pow_right (n := 2) (by omega) h
theorem u64_in (i : Nat) (h : i ≤ 20) : IntKind.u64.wrap (i : Int) = i := by
  simp [IntKind.wrap, IntKind.bits, IntKind.signed]
  omega
theorem ref_l1 (d : Nat) : ∀ (k n : Nat) (i : Int), n < 32768 → d ≤ 7 → i = d + 7 → d < k → reliquaryref01_Mul.l1 k n i = some ((Fld.rB d n % 256 : Nat) : Int) := by
  induction d with
  | zero =>
    intro k n i hn _ hi hk
    obtain ⟨k, rfl⟩ : ∃ m, k = m + 1 := ⟨k - 1, by omega⟩
    simp only [reliquaryref01_Mul.l1]
    rw [if_neg (by omega)]
    simp [Fld.rB]
  | succ d ih =>
    intro k n i hn hd hi hk
    obtain ⟨k, rfl⟩ : ∃ m, k = m + 1 := ⟨k - 1, by omega⟩
    have hi' : i = ((d + 8 : Nat) : Int) := by omega
    subst hi'
    have w1 : wrap64 (((d + 8 : Nat) : Int) - 8) = ((d : Nat) : Int) := by unfold wrap64; omega
    have w2 : wrap64 (((d + 8 : Nat) : Int) - 1) = ((d + 7 : Nat) : Int) := by unfold wrap64; omega
    have s1 : shr .i64 (n : Int) ((d + 8 : Nat) : Int) = ((n / 2 ^ (d + 8) : Nat) : Int) := by
      have e : min (((d + 8 : Nat) : Int).toNat) IntKind.i64.bits = d + 8 := by simp [IntKind.bits]; omega
      unfold shr
      rw [e]
      simp
    have p := two_pow_le (i := d) (by omega)
    have s2 : shl .i64 283 ((d : Nat) : Int) = ((283 * 2 ^ d : Nat) : Int) := by
      have e : min (((d : Nat) : Int).toNat) IntKind.i64.bits = d := by simp [IntKind.bits]; omega
      unfold shl
      rw [e, IntKind.wrap_i64]
      have e2 : (283 * 2 ^ d : Int) = ((283 * 2 ^ d : Nat) : Int) := by simp
      rw [e2]
      omega
    have hb : n / 2 ^ (d + 8) < 9223372036854775808 := Nat.lt_of_le_of_lt (Nat.div_le_self _ _) (by omega)
    have p7 : 2 ^ d ≤ 2 ^ 6 := Nat.pow_le_pow_right (by omega) (by omega)
    simp only [reliquaryref01_Mul.l1, u64_in (d + 8) (by omega), w1, w2, u64_in d (by omega), s1, s2, Fld.i64_and1 _ hb]
    rw [if_pos (by omega), if_pos (by omega), Fld.i64_xor n (283 * 2 ^ d) (by omega) (by omega), Fld.rB]
    by_cases h : n / 2 ^ (d + 8) % 2 = 1
    · rw [if_pos (by omega), if_pos (by omega), if_pos h]
      exact ih k _ _ (Nat.xor_lt_two_pow (n := 15) (by omega) (by omega)) (by omega) (by omega) (by omega)
    · rw [if_neg (by omega), if_neg h, Nat.xor_zero]
      exact ih k _ _ hn (by omega) (by omega) (by omega)
theorem ref_l0 (d : Nat) : ∀ (k a b n i : Nat), a < 256 → b < 256 → n < 32768 → i + d = 8 → d + 10 ≤ k → reliquaryref01_Mul.l0 k a b n i = some ((Fld.rB 7 (Fld.rA d a b n i) % 256 : Nat) : Int) := by
  induction d with
  | zero =>
    intro k a b n i ha hb hn hi hk
    obtain ⟨k, rfl⟩ : ∃ m, k = m + 1 := ⟨k - 1, by omega⟩
    simp only [reliquaryref01_Mul.l0]
    rw [if_neg (by omega)]
    exact ref_l1 7 k n 14 hn (by omega) (by omega) (by omega)
  | succ d ih =>
    intro k a b n i ha hb hn hi hk
    obtain ⟨k, rfl⟩ : ∃ m, k = m + 1 := ⟨k - 1, by omega⟩
    have w1 : wrap64 ((i : Int) + 1) = ((i + 1 : Nat) : Int) := by unfold wrap64; omega
    have w2 : wrap64 (a : Int) = (a : Int) := by unfold wrap64; omega
    have s1 : shr .u8 (b : Int) (i : Int) = ((b / 2 ^ i : Nat) : Int) := by
      have e : min ((i : Int).toNat) IntKind.u8.bits = i := by simp [IntKind.bits]; omega
      unfold shr
      rw [e]
      simp
    have p7 : 2 ^ i ≤ 2 ^ 7 := Nat.pow_le_pow_right (by omega) (by omega)
    have hm : a * 2 ^ i ≤ 255 * 2 ^ 7 := Nat.mul_le_mul (by omega) p7
    have s2 : shl .i64 (a : Int) (i : Int) = ((a * 2 ^ i : Nat) : Int) := by
      have e : min ((i : Int).toNat) IntKind.i64.bits = i := by simp [IntKind.bits]; omega
      unfold shl
      rw [e, IntKind.wrap_i64]
      have e2 : ((a : Int) * 2 ^ i : Int) = ((a * 2 ^ i : Nat) : Int) := by simp
      rw [e2]
      omega
    have hb' : b / 2 ^ i < 256 := Nat.lt_of_le_of_lt (Nat.div_le_self _ _) hb
    simp only [reliquaryref01_Mul.l0, u64_in i (by omega), w1, w2, s1, s2, Fld.u8_and1 _ hb']
    rw [if_pos (by omega), if_pos (by omega), Fld.i64_xor n (a * 2 ^ i) (by omega) (by omega), Fld.rA]
    by_cases h : b / 2 ^ i % 2 = 1
    · rw [if_pos (by omega), if_pos h]
      exact ih k a b _ (i + 1) ha hb (Nat.xor_lt_two_pow (n := 15) (by omega) (by omega)) (by omega) (by omega)
    · rw [if_neg (by omega), if_neg h, Nat.xor_zero]
      exact ih k a b _ (i + 1) ha hb hn (by omega) (by omega)
theorem ref_mul_eq (k a b : Nat) (ha : a < 256) (hb : b < 256) (hk : 17 < k) : reliquaryref01_Mul.f k a b = some ((mul a b : Nat) : Int) := by
  rw [← Fld.refMul_eq ha hb]
  exact ref_l0 8 k a b 0 0 ha hb (by omega) (by omega) (by omega)

end Go.Proofs.Ytaeamdgifknieaa.BFieldInverts
