/- Sums of rows of sixteen bytes under doubling; no two rows have one double; no two bytes one Affine. No condition beyond the bounds. -/
import Derived.Test.YtaeamdgifknieabAr
import Derived.Test.YtaeamdgifknieabPFieldApartx1
namespace Go.Proofs.Ytaeamdgifknieab.Ax
open Ar

theorem xor_mul2 (b c : Nat) : (b ^^^ c) * 2 = b * 2 ^^^ c * 2 := by
  have h : (b ^^^ c) * 2 ^ 1 = b * 2 ^ 1 ^^^ c * 2 ^ 1 := by
    rw [← Nat.shiftLeft_eq, ← Nat.shiftLeft_eq, ← Nat.shiftLeft_eq, Nat.shiftLeft_xor_distrib]
  rwa [Nat.pow_one] at h
theorem xor_mod256 (b c : Nat) : (b ^^^ c) % 256 = (b % 256) ^^^ (c % 256) := Nat.xor_mod_two_pow (n := 8)
theorem xor_div128 (b c : Nat) : (b ^^^ c) / 128 = b / 128 ^^^ c / 128 := by
  have h : (b ^^^ c) / 2 ^ 7 = b / 2 ^ 7 ^^^ c / 2 ^ 7 := by
    rw [← Nat.shiftRight_eq_div_pow, ← Nat.shiftRight_eq_div_pow, ← Nat.shiftRight_eq_div_pow, Nat.shiftRight_xor_distrib]
  exact h
theorem xor_odd (b c : Nat) : (b ^^^ c) % 2 = (b % 2 + c % 2) % 2 := by
  have h : (b ^^^ c) % 2 ^ 1 = (b % 2 ^ 1) ^^^ (c % 2 ^ 1) := Nat.xor_mod_two_pow
  rw [Nat.pow_one] at h
  rw [h]
  rcases Nat.mod_two_eq_zero_or_one b with hb | hb <;> rcases Nat.mod_two_eq_zero_or_one c with hc | hc <;> simp [hb, hc]
theorem xor_half (b c : Nat) : (b ^^^ c) / 2 = b / 2 ^^^ c / 2 := by
  apply Nat.eq_of_testBit_eq
  intro i
  simp [Nat.testBit_div_two, Nat.testBit_xor]
theorem dbl_eq (x k : Nat) (hk : k ≤ 1) : dbl x k = (x * 2 % 256) ^^^ k := by
  unfold dbl
  rcases (by omega : k = 0 ∨ k = 1) with rfl | rfl
  · simp
  · have h1 := xor_half (x * 2 % 256) 1
    rw [show 1 / 2 = 0 from rfl, Nat.xor_zero] at h1
    have h2 := xor_odd (x * 2 % 256) 1
    omega
theorem xor_le {k l : Nat} (hk : k ≤ 1) (hl : l ≤ 1) : k ^^^ l ≤ 1 := by
  rcases (by omega : k = 0 ∨ k = 1) with rfl | rfl <;> rcases (by omega : l = 0 ∨ l = 1) with rfl | rfl <;> decide
theorem dbl_xor (a b k l : Nat) (hk : k ≤ 1) (hl : l ≤ 1) : dbl (a ^^^ b) (k ^^^ l) = dbl a k ^^^ dbl b l := by
  rw [dbl_eq _ _ (xor_le hk hl), dbl_eq _ _ hk, dbl_eq _ _ hl, xor_mul2, xor_mod256]
  ac_rfl
theorem dbl_xor' (a b x y : Nat) (hx : x < 256) (hy : y < 256) : dbl (a ^^^ b) ((x ^^^ y) / 128) = dbl a (x / 128) ^^^ dbl b (y / 128) := by
  rw [xor_div128]
  exact dbl_xor a b _ _ (by omega) (by omega)
theorem top_xor (a b x y : Nat) (hx : x < 256) (hy : y < 256) :
    (if (x ^^^ y) / 128 = 0 then dbl (a ^^^ b) 0 else dbl (a ^^^ b) 0 ^^^ 135) = (if x / 128 = 0 then dbl a 0 else dbl a 0 ^^^ 135) ^^^ (if y / 128 = 0 then dbl b 0 else dbl b 0 ^^^ 135) := by
  have e : dbl (a ^^^ b) 0 = dbl a 0 ^^^ dbl b 0 := dbl_xor a b 0 0 (by omega) (by omega)
  rw [e, xor_div128]
  have h1 : x / 128 = 0 ∨ x / 128 = 1 := by omega
  have h2 : y / 128 = 0 ∨ y / 128 = 1 := by omega
  rcases h1 with h1 | h1 <;> rcases h2 with h2 | h2 <;> simp only [h1, h2]
  · simp
  · simp [Nat.xor_assoc]
  · simp only [Nat.one_ne_zero, if_false, if_true, Nat.xor_zero]
    ac_rfl
  · have h3 : dbl a 0 ^^^ 135 ^^^ (dbl b 0 ^^^ 135) = dbl a 0 ^^^ dbl b 0 ^^^ (135 ^^^ 135) := by ac_rfl
    simp only [Nat.one_ne_zero, if_false, Nat.xor_self, if_true] at h3 ⊢
    rw [h3, Nat.xor_zero]
/-- the sum, place by place -/
def xrun (s t : List Nat) : Nat → List Nat
  | 0 => List.replicate 16 0
  | i + 1 => (xrun s t i).set i (s.getD i 0 ^^^ t.getD i 0)
theorem xrun_row {s t : List Nat} (hs : Row16 s) (ht : Row16 t) (i : Nat) : Row16 (xrun s t i) := by
  induction i with
  | zero => exact zeros16
  | succ i ih => exact ih.set i (Nat.xor_lt_two_pow (n := 8) (hs.get i) (ht.get i))
theorem getD16 (x0 x1 x2 x3 x4 x5 x6 x7 x8 x9 x10 x11 x12 x13 x14 x15 : Nat) (y0 y1 y2 y3 y4 y5 y6 y7 y8 y9 y10 y11 y12 y13 y14 y15 : Nat) (z0 z1 z2 z3 z4 z5 z6 z7 z8 z9 z10 z11 z12 z13 z14 z15 : Nat)
    (h0 : z0 = x0 ^^^ y0) (h1 : z1 = x1 ^^^ y1) (h2 : z2 = x2 ^^^ y2) (h3 : z3 = x3 ^^^ y3) (h4 : z4 = x4 ^^^ y4) (h5 : z5 = x5 ^^^ y5) (h6 : z6 = x6 ^^^ y6) (h7 : z7 = x7 ^^^ y7) (h8 : z8 = x8 ^^^ y8) (h9 : z9 = x9 ^^^ y9) (h10 : z10 = x10 ^^^ y10) (h11 : z11 = x11 ^^^ y11) (h12 : z12 = x12 ^^^ y12) (h13 : z13 = x13 ^^^ y13) (h14 : z14 = x14 ^^^ y14) (h15 : z15 = x15 ^^^ y15) (i : Nat) (hi : i < 16) :
    [z0, z1, z2, z3, z4, z5, z6, z7, z8, z9, z10, z11, z12, z13, z14, z15].getD i 0 = [x0, x1, x2, x3, x4, x5, x6, x7, x8, x9, x10, x11, x12, x13, x14, x15].getD i 0 ^^^ [y0, y1, y2, y3, y4, y5, y6, y7, y8, y9, y10, y11, y12, y13, y14, y15].getD i 0 := by
  subst h0 h1 h2 h3 h4 h5 h6 h7 h8 h9 h10 h11 h12 h13 h14 h15
  match i, hi with
  | 0, _ | 1, _ | 2, _ | 3, _ | 4, _ | 5, _ | 6, _ | 7, _ | 8, _ | 9, _ | 10, _ | 11, _ | 12, _ | 13, _ | 14, _ | 15, _ => rfl
  | n + 16, h => exact absurd h (by omega)
theorem twice_xor {s t : List Nat} (hs : Row16 s) (ht : Row16 t) (i : Nat) (hi : i < 16) : (twice (xrun s t 16)).getD i 0 = (twice s).getD i 0 ^^^ (twice t).getD i 0 := by
  obtain ⟨ls, bs⟩ := hs
  obtain ⟨lt, bt⟩ := ht
  obtain ⟨a0, a1, a2, a3, a4, a5, a6, a7, a8, a9, a10, a11, a12, a13, a14, a15, rfl⟩ := open16 ls
  obtain ⟨b0, b1, b2, b3, b4, b5, b6, b7, b8, b9, b10, b11, b12, b13, b14, b15, rfl⟩ := open16 lt
  simp only [List.mem_cons, List.not_mem_nil, or_false, forall_eq_or_imp, forall_eq] at bs bt
  obtain ⟨p0, p1, p2, p3, p4, p5, p6, p7, p8, p9, p10, p11, p12, p13, p14, p15⟩ := bs
  obtain ⟨q0, q1, q2, q3, q4, q5, q6, q7, q8, q9, q10, q11, q12, q13, q14, q15⟩ := bt
  have e : xrun [a0, a1, a2, a3, a4, a5, a6, a7, a8, a9, a10, a11, a12, a13, a14, a15] [b0, b1, b2, b3, b4, b5, b6, b7, b8, b9, b10, b11, b12, b13, b14, b15] 16 = [a0 ^^^ b0, a1 ^^^ b1, a2 ^^^ b2, a3 ^^^ b3, a4 ^^^ b4, a5 ^^^ b5, a6 ^^^ b6, a7 ^^^ b7, a8 ^^^ b8, a9 ^^^ b9, a10 ^^^ b10, a11 ^^^ b11, a12 ^^^ b12, a13 ^^^ b13, a14 ^^^ b14, a15 ^^^ b15] := by
    simp [xrun]
  rw [e, twice_closed, twice_closed, twice_closed]
  exact getD16 _ _ _ _ _ _ _ _ _ _ _ _ _ _ _ _ _ _ _ _ _ _ _ _ _ _ _ _ _ _ _ _ _ _ _ _ _ _ _ _ _ _ _ _ _ _ _ _ (top_xor _ _ _ _ p15 q15) (dbl_xor' _ _ _ _ p0 q0) (dbl_xor' _ _ _ _ p1 q1) (dbl_xor' _ _ _ _ p2 q2) (dbl_xor' _ _ _ _ p3 q3) (dbl_xor' _ _ _ _ p4 q4) (dbl_xor' _ _ _ _ p5 q5) (dbl_xor' _ _ _ _ p6 q6) (dbl_xor' _ _ _ _ p7 q7) (dbl_xor' _ _ _ _ p8 q8) (dbl_xor' _ _ _ _ p9 q9) (dbl_xor' _ _ _ _ p10 q10) (dbl_xor' _ _ _ _ p11 q11) (dbl_xor' _ _ _ _ p12 q12) (dbl_xor' _ _ _ _ p13 q13) (dbl_xor' _ _ _ _ p14 q14) i hi
theorem dbl_inj {a b k l : Nat} (hk : k ≤ 1) (hl : l ≤ 1) (h : dbl a k = dbl b l) : a % 128 = b % 128 ∧ k = l := by
  unfold dbl at h
  omega
theorem top_inj {a b x y : Nat} (hx : x < 256) (hy : y < 256) (h : (if x / 128 = 0 then dbl a 0 else dbl a 0 ^^^ 135) = (if y / 128 = 0 then dbl b 0 else dbl b 0 ^^^ 135)) : a % 128 = b % 128 ∧ x / 128 = y / 128 := by
  have h1 := xor_odd (dbl a 0) 135
  have h2 := xor_odd (dbl b 0) 135
  have e1 : dbl a 0 % 2 = 0 := by unfold dbl; omega
  have e2 : dbl b 0 % 2 = 0 := by unfold dbl; omega
  by_cases c1 : x / 128 = 0 <;> by_cases c2 : y / 128 = 0
  · rw [if_pos c1, if_pos c2] at h
    exact ⟨(dbl_inj (by omega) (by omega) h).1, by omega⟩
  · rw [if_pos c1, if_neg c2] at h
    omega
  · rw [if_neg c1, if_pos c2] at h
    omega
  · rw [if_neg c1, if_neg c2] at h
    have h3 : dbl a 0 = dbl b 0 := by
      have h4 : (dbl a 0 ^^^ 135) ^^^ 135 = (dbl b 0 ^^^ 135) ^^^ 135 := by rw [h]
      rwa [Nat.xor_assoc, Nat.xor_assoc, Nat.xor_self, Nat.xor_zero, Nat.xor_zero] at h4
    exact ⟨(dbl_inj (by omega) (by omega) h3).1, by omega⟩
theorem twice_inj {s t : List Nat} (hs : Row16 s) (ht : Row16 t) (h : twice s = twice t) : s = t := by
  obtain ⟨ls, bs⟩ := hs
  obtain ⟨lt, bt⟩ := ht
  obtain ⟨a0, a1, a2, a3, a4, a5, a6, a7, a8, a9, a10, a11, a12, a13, a14, a15, rfl⟩ := open16 ls
  obtain ⟨b0, b1, b2, b3, b4, b5, b6, b7, b8, b9, b10, b11, b12, b13, b14, b15, rfl⟩ := open16 lt
  simp only [List.mem_cons, List.not_mem_nil, or_false, forall_eq_or_imp, forall_eq] at bs bt
  obtain ⟨p0, p1, p2, p3, p4, p5, p6, p7, p8, p9, p10, p11, p12, p13, p14, p15⟩ := bs
  obtain ⟨q0, q1, q2, q3, q4, q5, q6, q7, q8, q9, q10, q11, q12, q13, q14, q15⟩ := bt
  rw [twice_closed, twice_closed] at h
  simp only [List.cons.injEq, and_true] at h
  obtain ⟨h0, h1, h2, h3, h4, h5, h6, h7, h8, h9, h10, h11, h12, h13, h14, h15⟩ := h
  have g0 := top_inj p15 q15 h0
  have g1 := dbl_inj (by omega) (by omega) h1
  have g2 := dbl_inj (by omega) (by omega) h2
  have g3 := dbl_inj (by omega) (by omega) h3
  have g4 := dbl_inj (by omega) (by omega) h4
  have g5 := dbl_inj (by omega) (by omega) h5
  have g6 := dbl_inj (by omega) (by omega) h6
  have g7 := dbl_inj (by omega) (by omega) h7
  have g8 := dbl_inj (by omega) (by omega) h8
  have g9 := dbl_inj (by omega) (by omega) h9
  have g10 := dbl_inj (by omega) (by omega) h10
  have g11 := dbl_inj (by omega) (by omega) h11
  have g12 := dbl_inj (by omega) (by omega) h12
  have g13 := dbl_inj (by omega) (by omega) h13
  have g14 := dbl_inj (by omega) (by omega) h14
  have g15 := dbl_inj (by omega) (by omega) h15
  clear h0 h1 h2 h3 h4 h5 h6 h7 h8 h9 h10 h11 h12 h13 h14 h15
  have f0 : a0 = b0 := by omega
  have f1 : a1 = b1 := by omega
  have f2 : a2 = b2 := by omega
  have f3 : a3 = b3 := by omega
  have f4 : a4 = b4 := by omega
  have f5 : a5 = b5 := by omega
  have f6 : a6 = b6 := by omega
  have f7 : a7 = b7 := by omega
  have f8 : a8 = b8 := by omega
  have f9 : a9 = b9 := by omega
  have f10 : a10 = b10 := by omega
  have f11 : a11 = b11 := by omega
  have f12 : a12 = b12 := by omega
  have f13 : a13 = b13 := by omega
  have f14 : a14 = b14 := by omega
  have f15 : a15 = b15 := by omega
  rw [f0, f1, f2, f3, f4, f5, f6, f7, f8, f9, f10, f11, f12, f13, f14, f15]
def tbl : List Nat := [99, 124, 93, 66, 31, 0, 33, 62, 155, 132, 165, 186, 231, 248, 217, 198, 146, 141, 172, 179, 238, 241, 208, 207, 106, 117, 84, 75, 22, 9, 40, 55, 128, 159, 190, 161, 252, 227, 194, 221, 120, 103, 70, 89, 4, 27, 58, 37, 113, 110, 79, 80, 13, 18, 51, 44, 137, 150, 183, 168, 245, 234, 203, 212, 164, 187, 154, 133, 216, 199, 230, 249, 92, 67, 98, 125, 32, 63, 30, 1, 85, 74, 107, 116, 41, 54, 23, 8, 173, 178, 147, 140, 209, 206, 239, 240, 71, 88, 121, 102, 59, 36, 5, 26, 191, 160, 129, 158, 195, 220, 253, 226, 182, 169, 136, 151, 202, 213, 244, 235, 78, 81, 112, 111, 50, 45, 12, 19, 236, 243, 210, 205, 144, 143, 174, 177, 20, 11, 42, 53, 104, 119, 86, 73, 29, 2, 35, 60, 97, 126, 95, 64, 229, 250, 219, 196, 153, 134, 167, 184, 15, 16, 49, 46, 115, 108, 77, 82, 247, 232, 201, 214, 139, 148, 181, 170, 254, 225, 192, 223, 130, 157, 188, 163, 6, 25, 56, 39, 122, 101, 68, 91, 43, 52, 21, 10, 87, 72, 105, 118, 211, 204, 237, 242, 175, 176, 145, 142, 218, 197, 228, 251, 166, 185, 152, 135, 34, 61, 28, 3, 94, 65, 96, 127, 200, 215, 246, 233, 180, 171, 138, 149, 48, 47, 14, 17, 76, 83, 114, 109, 57, 38, 7, 24, 69, 90, 123, 100, 193, 222, 255, 224, 189, 162, 131, 156]
def itbl : List Nat := [5, 79, 145, 219, 44, 102, 184, 242, 87, 29, 195, 137, 126, 52, 234, 160, 161, 235, 53, 127, 136, 194, 28, 86, 243, 185, 103, 45, 218, 144, 78, 4, 76, 6, 216, 146, 101, 47, 241, 187, 30, 84, 138, 192, 55, 125, 163, 233, 232, 162, 124, 54, 193, 139, 85, 31, 186, 240, 46, 100, 147, 217, 7, 77, 151, 221, 3, 73, 190, 244, 42, 96, 197, 143, 81, 27, 236, 166, 120, 50, 51, 121, 167, 237, 26, 80, 142, 196, 97, 43, 245, 191, 72, 2, 220, 150, 222, 148, 74, 0, 247, 189, 99, 41, 140, 198, 24, 82, 165, 239, 49, 123, 122, 48, 238, 164, 83, 25, 199, 141, 40, 98, 188, 246, 1, 75, 149, 223, 32, 106, 180, 254, 9, 67, 157, 215, 114, 56, 230, 172, 91, 17, 207, 133, 132, 206, 16, 90, 173, 231, 57, 115, 214, 156, 66, 8, 255, 181, 107, 33, 105, 35, 253, 183, 64, 10, 212, 158, 59, 113, 175, 229, 18, 88, 134, 204, 205, 135, 89, 19, 228, 174, 112, 58, 159, 213, 11, 65, 182, 252, 34, 104, 178, 248, 38, 108, 155, 209, 15, 69, 224, 170, 116, 62, 201, 131, 93, 23, 22, 92, 130, 200, 63, 117, 171, 225, 68, 14, 208, 154, 109, 39, 249, 179, 251, 177, 111, 37, 210, 152, 70, 12, 169, 227, 61, 119, 128, 202, 20, 94, 95, 21, 203, 129, 118, 60, 226, 168, 13, 71, 153, 211, 36, 110, 176, 250]
def aff (a : Nat) : Nat := tbl.getD a 0
theorem all_of {p : Nat → Bool} {n : Nat} (h : (List.range n).all p = true) (a : Nat) (ha : a < n) : p a = true :=
  List.all_eq_true.1 h a (List.mem_range.2 ha)
theorem aff_all : ((List.range 256).all fun a => decide (PFieldApart.field_Affine.f (a : Int) = some ((aff a : Nat) : Int))) = true := by decide +kernel
theorem aff_eq {a : Nat} (ha : a < 256) : PFieldApart.field_Affine.f (a : Int) = some ((aff a : Nat) : Int) := of_decide_eq_true (all_of aff_all a ha)
theorem back_all : ((List.range 256).all fun a => Nat.beq (itbl.getD (aff a) 0) a) = true := by decide +kernel
theorem aff_inj {a b : Nat} (ha : a < 256) (hb : b < 256) (h : aff a = aff b) : a = b := by
  have h1 := Nat.eq_of_beq_eq_true (all_of back_all a ha)
  have h2 := Nat.eq_of_beq_eq_true (all_of back_all b hb)
  rw [← h1, ← h2, h]
end Go.Proofs.Ytaeamdgifknieab.Ax
