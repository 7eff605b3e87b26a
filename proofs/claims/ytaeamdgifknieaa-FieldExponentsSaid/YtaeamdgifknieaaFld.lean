/- The field of 256 numbers over Nat: what the program's and the document's products, powers and inverses are as plain functions, and that they are those of a field. No condition. -/
import Derived.Laws.BitsAllLaws
import Derived.Laws.BitsLemmas
namespace Go.Proofs.Ytaeamdgifknieaa.Fld

theorem xlt {a b : Nat} (ha : a < 256) (hb : b < 256) : a ^^^ b < 256 := Nat.xor_lt_two_pow (n := 8) ha hb
theorem xor_self_mid (a b : Nat) : (a ^^^ b) ^^^ b = a := by rw [Nat.xor_assoc, Nat.xor_self, Nat.xor_zero]
theorem top_off {n a : Nat} (h1 : 2 ^ n ≤ a) (h2 : a < 2 ^ (n + 1)) : a ^^^ 2 ^ n < 2 ^ n := by
  refine Nat.lt_pow_two_of_testBit _ fun i hi => ?_
  rw [Nat.testBit_xor, Nat.testBit_two_pow]
  by_cases h : n = i
  · subst h
    have e : a / 2 ^ n = 1 := by
      rw [Nat.pow_succ] at h2
      exact Nat.div_eq_of_lt_le (by omega) (by omega)
    rw [Nat.testBit_eq_decide_div_mod_eq, e]
    simp
  · rw [Nat.testBit_lt_two_pow (Nat.lt_of_lt_of_le h2 (Nat.pow_le_pow_right (by omega) (by omega)))]
    simp [h]
theorem lin_ext (f g : Nat → Nat) (hf0 : f 0 = g 0) (N : Nat) (hf : ∀ x y, x < 2 ^ N → y < 2 ^ N → f (x ^^^ y) = f x ^^^ f y) (hg : ∀ x y, x < 2 ^ N → y < 2 ^ N → g (x ^^^ y) = g x ^^^ g y)
    (hb : ∀ i, i < N → f (2 ^ i) = g (2 ^ i)) : ∀ n, n ≤ N → ∀ a, a < 2 ^ n → f a = g a := by
  intro n
  induction n with
  | zero =>
    intro _ a ha
    obtain rfl : a = 0 := by simpa using ha
    exact hf0
  | succ n ih =>
    intro hn a ha
    by_cases h : a < 2 ^ n
    · exact ih (by omega) a h
    · have ht := top_off (by omega : 2 ^ n ≤ a) ha
      have hle : 2 ^ n < 2 ^ N := Nat.pow_lt_pow_right (by omega) (by omega)
      have e := xor_self_mid a (2 ^ n)
      rw [← e, hf _ _ (by omega) hle, hg _ _ (by omega) hle, ih (by omega) _ ht, hb n (by omega)]
theorem xor_half (b c : Nat) : (b ^^^ c) / 2 = b / 2 ^^^ c / 2 := by
  apply Nat.eq_of_testBit_eq; intro i; simp [Nat.testBit_div_two, Nat.testBit_xor]
theorem xor_div (i b c : Nat) : (b ^^^ c) / 2 ^ i = b / 2 ^ i ^^^ c / 2 ^ i := by
  rw [← Nat.shiftRight_eq_div_pow, ← Nat.shiftRight_eq_div_pow, ← Nat.shiftRight_eq_div_pow, Nat.shiftRight_xor_distrib]
theorem xor_mul (i b c : Nat) : (b ^^^ c) * 2 ^ i = b * 2 ^ i ^^^ c * 2 ^ i := by
  rw [← Nat.shiftLeft_eq, ← Nat.shiftLeft_eq, ← Nat.shiftLeft_eq, Nat.shiftLeft_xor_distrib]
theorem xor_mod (i b c : Nat) : (b ^^^ c) % 2 ^ i = (b % 2 ^ i) ^^^ (c % 2 ^ i) := Nat.xor_mod_two_pow
theorem xor_odd (b c : Nat) : (b ^^^ c) % 2 = (b % 2 + c % 2) % 2 := by
  have h := xor_mod 1 b c
  rw [Nat.pow_one] at h
  rw [h]
  rcases Nat.mod_two_eq_zero_or_one b with hb | hb <;> rcases Nat.mod_two_eq_zero_or_one c with hc | hc <;> simp [hb, hc]
/-- a bit's part goes through sums -/
theorem bit_xor (b c x : Nat) : (if (b ^^^ c) % 2 = 1 then x else 0) = (if b % 2 = 1 then x else 0) ^^^ (if c % 2 = 1 then x else 0) := by
  rw [xor_odd]
  rcases Nat.mod_two_eq_zero_or_one b with hb | hb <;> rcases Nat.mod_two_eq_zero_or_one c with hc | hc <;> simp [hb, hc]
theorem pick_xor (c : Prop) [Decidable c] (x y : Nat) : (if c then x ^^^ y else 0) = (if c then x else 0) ^^^ (if c then y else 0) := by split <;> simp
theorem all_of {p : Nat → Bool} {n : Nat} (h : (List.range n).all p = true) (a : Nat) (ha : a < n) : p a = true :=
  List.all_eq_true.1 h a (List.mem_range.2 ha)

def sh (a : Nat) : Nat := (a * 2 % 256) ^^^ (if a / 128 % 2 = 1 then 27 else 0)
def mulTo : Nat → Nat → Nat → Nat → Nat
  | 0, _, _, p => p
  | k + 1, a, b, p => mulTo k (sh a) (b / 2) (p ^^^ (if b % 2 = 1 then a else 0))
def mul (a b : Nat) : Nat := mulTo 8 a b 0
theorem sh_lt (a : Nat) : sh a < 256 := xlt (Nat.mod_lt _ (by omega)) (by split <;> omega)
theorem sh_xor (a b : Nat) : sh (a ^^^ b) = sh a ^^^ sh b := by
  have h1 := xor_mul 1 a b
  have h2 := xor_mod 8 (a * 2) (b * 2)
  have h3 := xor_div 7 a b
  rw [Nat.pow_one] at h1
  rw [show 2 ^ 8 = 256 from rfl] at h2
  rw [show 2 ^ 7 = 128 from rfl] at h3
  unfold sh
  rw [h1, h2, h3, bit_xor]
  ac_rfl
theorem sh_zero : sh 0 = 0 := by decide
theorem mulTo_p (k : Nat) : ∀ a b p, mulTo k a b p = p ^^^ mulTo k a b 0 := by
  induction k with
  | zero => intro a b p; simp [mulTo]
  | succ k ih =>
    intro a b p
    rw [mulTo, ih, mulTo, ih _ _ (0 ^^^ _), Nat.zero_xor, Nat.xor_assoc]
theorem mulTo_succ (k a b : Nat) : mulTo (k + 1) a b 0 = (if b % 2 = 1 then a else 0) ^^^ mulTo k (sh a) (b / 2) 0 := by
  rw [mulTo, mulTo_p, Nat.zero_xor]
theorem mulTo_lt (k : Nat) : ∀ a b, a < 256 → mulTo k a b 0 < 256 := by
  induction k with
  | zero => intro a b _; simp [mulTo]
  | succ k ih =>
    intro a b ha
    rw [mulTo_succ]
    refine xlt ?_ (ih _ _ (sh_lt a))
    split <;> omega
theorem mul_lt {a : Nat} (b : Nat) (ha : a < 256) : mul a b < 256 := mulTo_lt 8 a b ha
theorem mulTo_sh (k : Nat) : ∀ a b, mulTo k (sh a) b 0 = sh (mulTo k a b 0) := by
  induction k with
  | zero => intro a b; simp [mulTo, sh_zero]
  | succ k ih =>
    intro a b
    rw [mulTo_succ, mulTo_succ, sh_xor, ih]
    congr 1
    split <;> simp [sh_zero]
theorem mulTo_xor (k : Nat) : ∀ a b c, mulTo k a (b ^^^ c) 0 = mulTo k a b 0 ^^^ mulTo k a c 0 := by
  induction k with
  | zero => intro a b c; simp [mulTo]
  | succ k ih =>
    intro a b c
    rw [mulTo_succ, mulTo_succ, mulTo_succ, xor_half, ih, bit_xor]
    ac_rfl
theorem mul_xor (a b c : Nat) : mul a (b ^^^ c) = mul a b ^^^ mul a c := mulTo_xor 8 a b c
theorem mulTo_xor_l (k : Nat) : ∀ a b c, mulTo k (a ^^^ b) c 0 = mulTo k a c 0 ^^^ mulTo k b c 0 := by
  induction k with
  | zero => intro a b c; simp [mulTo]
  | succ k ih =>
    intro a b c
    rw [mulTo_succ, mulTo_succ, mulTo_succ, sh_xor, ih, pick_xor]
    ac_rfl
theorem xor_mul_l (a b c : Nat) : mul (a ^^^ b) c = mul a c ^^^ mul b c := mulTo_xor_l 8 a b c
theorem mul_zero (a : Nat) : mul a 0 = 0 := by
  have h := mul_xor a 0 0
  rw [Nat.xor_self] at h
  rw [h, Nat.xor_self]
theorem zero_mul (a : Nat) : mul 0 a = 0 := by
  have h := xor_mul_l 0 0 a
  rw [Nat.xor_self] at h
  rw [h, Nat.xor_self]
theorem mul_comm_all : ((List.range 8).all fun i => (List.range 256).all fun b => Nat.beq (mul (2 ^ i) b) (mul b (2 ^ i))) = true := by decide +kernel
theorem mul_comm {a b : Nat} (ha : a < 256) (hb : b < 256) : mul a b = mul b a :=
  lin_ext (fun a => mul a b) (fun a => mul b a) (by simp only [mul_zero, zero_mul]) 8 (fun x y _ _ => xor_mul_l x y b) (fun x y _ _ => mul_xor b x y)
    (fun i hi => Nat.eq_of_beq_eq_true (all_of (all_of mul_comm_all i hi) b hb)) 8 (Nat.le_refl _) a ha
def pow (a : Nat) : Nat → Nat
  | 0 => 1
  | n + 1 => mul (pow a n) a
theorem mul_sh {a b : Nat} (ha : a < 256) (hb : b < 256) : mul a (sh b) = sh (mul a b) := by
  rw [mul_comm ha (sh_lt b), mul_comm ha hb]; exact mulTo_sh 8 b a
theorem mul_mulTo (k : Nat) : ∀ a x c, a < 256 → x < 256 → mulTo k (mul a x) c 0 = mul a (mulTo k x c 0) := by
  induction k with
  | zero => intro a x c _ _; simp [mulTo, mul_zero]
  | succ k ih =>
    intro a x c ha hx
    rw [mulTo_succ, mulTo_succ, mul_xor, ← mul_sh ha hx, ih _ _ _ ha (sh_lt x)]
    congr 1
    split <;> simp [mul_zero]
theorem mul_assoc {a b : Nat} (c : Nat) (ha : a < 256) (hb : b < 256) : mul (mul a b) c = mul a (mul b c) := mul_mulTo 8 a b c ha hb
theorem mul_one (a : Nat) : mul a 1 = a := by simp [mul, mulTo]
theorem one_mul {a : Nat} (ha : a < 256) : mul 1 a = a := by rw [mul_comm (by omega) ha, mul_one]

theorem pow_lt {a : Nat} (n : Nat) : pow a n < 256 := by
  induction n with
  | zero => simp [pow]
  | succ n ih => exact mul_lt _ ih
theorem pow_add {a : Nat} (_ha : a < 256) (m n : Nat) : pow a (m + n) = mul (pow a m) (pow a n) := by
  induction n with
  | zero => simp [pow, mul_one]
  | succ n ih => rw [← Nat.add_assoc, pow, ih, mul_assoc _ (pow_lt m) (pow_lt n), pow]
theorem pow_one {a : Nat} (ha : a < 256) : pow a 1 = a := by simp [pow, one_mul ha]
theorem pow_sq {a : Nat} (ha : a < 256) (n : Nat) : pow (mul a a) n = pow a (2 * n) := by
  induction n with
  | zero => rfl
  | succ n ih =>
    rw [pow, ih, show 2 * (n + 1) = 2 * n + 1 + 1 from by omega, pow, pow, mul_assoc _ (pow_lt _) ha]
theorem pow_mul_ {a b : Nat} (ha : a < 256) (_hb : b < 256) (n : Nat) : pow (mul a b) n = mul (pow a n) (pow b n) := by
  induction n with
  | zero => simp [pow, mul_one]
  | succ n ih =>
    rw [pow, ih, pow, pow, mul_assoc _ (pow_lt _) (pow_lt _), mul_assoc _ (pow_lt _) ha]
    congr 1
    rw [← mul_assoc _ (pow_lt _) ha, mul_comm (pow_lt _) ha, mul_assoc _ ha (pow_lt _)]
theorem pow_pow {a : Nat} (ha : a < 256) (m n : Nat) : pow (pow a m) n = pow a (m * n) := by
  induction n with
  | zero => rfl
  | succ n ih => rw [pow, ih, Nat.mul_succ, pow_add ha]
theorem one_pow (n : Nat) : pow 1 n = 1 := by
  induction n with
  | zero => rfl
  | succ n ih => rw [pow, ih, mul_one]
theorem zero_pow {n : Nat} (h : n ≠ 0) : pow 0 n = 0 := by
  obtain ⟨m, rfl⟩ : ∃ m, n = m + 1 := ⟨n - 1, by omega⟩
  rw [pow, mul_zero]
/-- squaring and multiplying, as the program does it -/
def fast : Nat → Nat → Nat → Nat → Nat
  | 0, _, _, p => p
  | k + 1, n, a, p => if n = 0 then p else fast k (n / 2) (mul a a) (if n % 2 = 1 then mul p a else p)
theorem fast_eq (k : Nat) : ∀ n a p, n < 2 ^ k → a < 256 → p < 256 → fast k n a p = mul p (pow a n) := by
  induction k with
  | zero => intro n a p hn _ _; obtain rfl : n = 0 := by simpa using hn
            simp [fast, pow, mul_one]
  | succ k ih =>
    intro n a p hn ha hp
    rw [fast]
    split
    · next h => subst h; simp [pow, mul_one]
    · have hlt : (if n % 2 = 1 then mul p a else p) < 256 := by split; exact mul_lt _ hp; exact hp
      rw [ih _ _ _ (by rw [Nat.pow_succ] at hn; omega) (mul_lt _ ha) hlt, pow_sq ha]
      split
      · next h =>
        rw [mul_assoc _ hp ha]
        congr 1
        have e : n = 2 * (n / 2) + 1 := by omega
        conv => rhs; rw [e, pow]
        exact mul_comm ha (pow_lt _)
      · congr 2; omega
theorem pow_255_all : ((List.range 255).all fun a => Nat.beq (fast 8 255 (a + 1) 1) 1) = true := by decide +kernel
theorem pow_255 {a : Nat} (h0 : a ≠ 0) (ha : a < 256) : pow a 255 = 1 := by
  have h := Nat.eq_of_beq_eq_true (all_of pow_255_all (a - 1) (by omega))
  rw [show a - 1 + 1 = a from by omega, fast_eq 8 255 a 1 (by omega) ha (by omega), one_mul (pow_lt _)] at h
  exact h
theorem pow_mod {a : Nat} (h0 : a ≠ 0) (ha : a < 256) (n : Nat) : pow a (n % 255) = pow a n := by
  have h := Nat.div_add_mod n 255
  rw [← h, pow_add ha, ← pow_pow ha, pow_255 h0 ha, one_pow, one_mul (pow_lt _)]
  congr 1; omega


def rA : Nat → Nat → Nat → Nat → Nat → Nat
  | 0, _, _, n, _ => n
  | d + 1, a, b, n, i => rA d a b (n ^^^ (if b / 2 ^ i % 2 = 1 then a * 2 ^ i else 0)) (i + 1)
def rB : Nat → Nat → Nat
  | 0, n => n
  | d + 1, n => rB d (n ^^^ (if n / 2 ^ (d + 8) % 2 = 1 then 283 * 2 ^ d else 0))
def refMul (a b : Nat) : Nat := rB 7 (rA 8 a b 0 0) % 256
theorem rA_xor (d : Nat) : ∀ a a' b n n' i, rA d (a ^^^ a') b (n ^^^ n') i = rA d a b n i ^^^ rA d a' b n' i := by
  induction d with
  | zero => intro a a' b n n' i; rfl
  | succ d ih =>
    intro a a' b n n' i
    rw [rA, rA, rA, ← ih, xor_mul, pick_xor]
    congr 1
    ac_rfl
theorem rB_xor (d : Nat) : ∀ n n', rB d (n ^^^ n') = rB d n ^^^ rB d n' := by
  induction d with
  | zero => intro n n'; rfl
  | succ d ih =>
    intro n n'
    rw [rB, rB, rB, ← ih, xor_div, bit_xor]
    congr 1
    ac_rfl
theorem refMul_xor (a a' b : Nat) : refMul (a ^^^ a') b = refMul a b ^^^ refMul a' b := by
  unfold refMul
  have h := rA_xor 8 a a' b 0 0 0
  rw [Nat.xor_self] at h
  rw [h, rB_xor]
  exact xor_mod 8 _ _
theorem refMul_zero (b : Nat) : refMul 0 b = 0 := by
  have h := refMul_xor 0 0 b
  rw [Nat.xor_self] at h
  rw [h, Nat.xor_self]
theorem refMul_all : ((List.range 8).all fun i => (List.range 256).all fun b => Nat.beq (refMul (2 ^ i) b) (mul (2 ^ i) b)) = true := by decide +kernel
theorem refMul_eq {a b : Nat} (ha : a < 256) (hb : b < 256) : refMul a b = mul a b :=
  lin_ext (fun a => refMul a b) (fun a => mul a b) (by simp only [zero_mul, refMul_zero]) 8 (fun x y _ _ => refMul_xor x y b) (fun x y _ _ => xor_mul_l x y b)
    (fun i hi => Nat.eq_of_beq_eq_true (all_of (all_of refMul_all i hi) b hb)) 8 (Nat.le_refl _) a ha
def refPow (a : Nat) : Nat → Nat → Nat
  | 0, x => x
  | n + 1, x => refPow a n (mul x a)
theorem refPow_eq {a : Nat} (ha : a < 256) (n : Nat) : ∀ x, x < 256 → refPow a n x = mul x (pow a n) := by
  induction n with
  | zero => intro x _; simp [refPow, pow, mul_one]
  | succ n ih =>
    intro x hx
    rw [refPow, ih _ (mul_lt _ hx), mul_assoc _ hx ha, mul_comm ha (pow_lt n), pow]
/-- the power as both programs tell it -/
def pw (a : Nat) (n : Int) : Nat := if a = 0 ∧ n ≠ 0 then 0 else pow a (n % 255).toNat
theorem pw_lt (a : Nat) (n : Int) : pw a n < 256 := by
  unfold pw
  split
  · omega
  · exact pow_lt _
def inv (a : Nat) : Nat := pw a 254
theorem inv_lt (a : Nat) : inv a < 256 := pw_lt a 254
theorem inv_zero : inv 0 = 0 := by decide
theorem inv_of {a : Nat} (h : a ≠ 0) : inv a = pow a 254 := by
  unfold inv pw
  rw [if_neg (by omega)]
  rfl
theorem mul_inv {a : Nat} (h : a ≠ 0) (ha : a < 256) : mul a (inv a) = 1 := by
  rw [inv_of h, mul_comm ha (pow_lt _)]
  exact pow_255 h ha
theorem inv_inv {a : Nat} (ha : a < 256) : inv (inv a) = a := by
  by_cases h : a = 0
  · subst h; decide
  · have hi := mul_inv h ha
    have hn : inv a ≠ 0 := by
      intro h0
      rw [h0, mul_zero] at hi
      omega
    rw [inv_of hn, inv_of h, pow_pow ha, ← pow_mod h ha, ← pow_mod h ha]
    exact pow_one ha
theorem ne_zero_mul {a b : Nat} (ha : a < 256) (hb : b < 256) (h : a ≠ 0) (h' : b ≠ 0) : mul a b ≠ 0 := by
  intro h0
  have e : mul (inv a) (mul a b) = b := by
    rw [← mul_assoc _ (inv_lt a) ha, mul_comm (inv_lt a) ha, mul_inv h ha, one_mul hb]
  rw [h0, mul_zero] at e
  omega
theorem inv_mul {a b : Nat} (ha : a < 256) (hb : b < 256) : inv (mul a b) = mul (inv a) (inv b) := by
  by_cases h : a = 0
  · subst h
    rw [zero_mul b, inv_zero, zero_mul (inv b)]
  · by_cases h' : b = 0
    · subst h'
      rw [mul_zero, inv_zero, mul_zero]
    · rw [inv_of (ne_zero_mul ha hb h h'), inv_of h, inv_of h']
      exact pow_mul_ ha hb 254
theorem inv_only {a b : Nat} (ha : a < 256) (hb : b < 256) (h : mul a b = 1) : b = inv a := by
  have h0 : a ≠ 0 := by
    rintro rfl
    rw [zero_mul b] at h
    omega
  have e : mul (inv a) (mul a b) = b := by
    rw [← mul_assoc _ (inv_lt a) ha, mul_comm (inv_lt a) ha, mul_inv h0 ha, one_mul hb]
  rw [h, mul_one] at e
  exact e.symm
theorem pw_add {a : Nat} (h0 : a ≠ 0) (ha : a < 256) (m n : Int) : pw a (m + n) = mul (pw a m) (pw a n) := by
  unfold pw
  rw [if_neg (by omega), if_neg (by omega), if_neg (by omega), ← pow_add ha, ← pow_mod h0 ha ((m % 255).toNat + (n % 255).toNat)]
  congr 1
  omega
theorem i64_ofInt (a : Nat) (ha : a < 9223372036854775808) : (BitVec.ofInt 64 (a : Int)).toNat = a := by
  rw [BitVec.ofInt_natCast, BitVec.toNat_ofNat]; exact Nat.mod_eq_of_lt (by omega)
theorem i64_and (a b : Nat) (ha : a < 9223372036854775808) (hb : b < 9223372036854775808) : bits .and .i64 (a : Int) (b : Int) = ((a &&& b : Nat) : Int) := by
  have hx : a &&& b < 2 ^ 63 := Nat.and_lt_two_pow _ (by omega)
  show IntKind.i64.wrap ((BitVec.ofInt 64 (a : Int) &&& BitVec.ofInt 64 (b : Int)).toNat : Int) = _
  rw [BitVec.toNat_and, i64_ofInt a ha, i64_ofInt b hb, IntKind.wrap_i64]
  omega
theorem i64_xor (a b : Nat) (ha : a < 9223372036854775808) (hb : b < 9223372036854775808) : bits .xor .i64 (a : Int) (b : Int) = ((a ^^^ b : Nat) : Int) := by
  have hx : a ^^^ b < 2 ^ 63 := Nat.xor_lt_two_pow (by omega) (by omega)
  show IntKind.i64.wrap ((BitVec.ofInt 64 (a : Int) ^^^ BitVec.ofInt 64 (b : Int)).toNat : Int) = _
  rw [BitVec.toNat_xor, i64_ofInt a ha, i64_ofInt b hb, IntKind.wrap_i64]
  omega
theorem u8_and1 (b : Nat) (hb : b < 256) : bits .and .u8 (b : Int) 1 = ((b % 2 : Nat) : Int) := by
  have h := u8_and_nat b 1 hb (by omega)
  rw [Nat.and_one_is_mod] at h
  exact h
theorem i64_and1 (b : Nat) (hb : b < 9223372036854775808) : bits .and .i64 (b : Int) 1 = ((b % 2 : Nat) : Int) := by
  have h := i64_and b 1 hb (by omega)
  rw [Nat.and_one_is_mod] at h
  exact h
end Go.Proofs.Ytaeamdgifknieaa.Fld

