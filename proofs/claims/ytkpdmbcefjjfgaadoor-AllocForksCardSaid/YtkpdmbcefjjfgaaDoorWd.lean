/- The plain law of the set's words: sixty-four bits each; which numbers are used is a rising list. No program in sight. -/
import Derived.Lib.TrailingZeros
import Derived.Laws.BitsLemmas
namespace Go.Proofs.YtkpdmbcefjjfgaaDoor.Wd
open Go Go.Lib

theorem wrap_u64 (n : Int) : IntKind.u64.wrap n = n % 18446744073709551616 := by simp [IntKind.wrap, IntKind.bits, IntKind.signed]
theorem wraps_u64 (n : Int) (h₀ : 0 ≤ n) (h₁ : n < 2 ^ 64) : IntKind.u64.wrap n = n := by rw [wrap_u64]; omega
theorem and_u64 (a b : Nat) (ha : a < 2 ^ 64) (hb : b < 2 ^ 64) : bits .and .u64 a b = ((a &&& b : Nat) : Int) := (bits_nat .u64 64 (by decide) wraps_u64 a b ha hb).1
theorem or_u64 (a b : Nat) (ha : a < 2 ^ 64) (hb : b < 2 ^ 64) : bits .or .u64 a b = ((a ||| b : Nat) : Int) := (bits_nat .u64 64 (by decide) wraps_u64 a b ha hb).2
theorem andNot_u64 (a b : Nat) : ∃ z : Nat, bits .andNot .u64 a b = (z : Int) ∧ z < 2 ^ 64 ∧ ∀ j, j < 64 → z.testBit j = (a.testBit j && !b.testBit j) := by
  refine ⟨(BitVec.ofNat 64 a &&& ~~~ BitVec.ofNat 64 b).toNat, ?_, BitVec.isLt _, ?_⟩
  · simp only [bits, BitVec.ofInt_natCast]
    exact wraps_u64 _ (Int.natCast_nonneg _) (by exact_mod_cast BitVec.isLt _)
  · intro j hj
    rw [BitVec.testBit_toNat, BitVec.getLsbD_and, BitVec.getLsbD_not, BitVec.getLsbD_ofNat, BitVec.getLsbD_ofNat]
    simp [hj]
theorem has_bit (x k : Nat) (hx : x < 2 ^ 64) : (bits .and .u64 ((x : Int) / 2 ^ k) 1 != 0) = x.testBit k := by
  have h1 : ((x : Int) / 2 ^ k) = ((x / 2 ^ k : Nat) : Int) := by simp
  have h2 : (1 : Int) = ((1 : Nat) : Int) := rfl
  rw [h1, h2, and_u64 _ _ (Nat.lt_of_le_of_lt (Nat.div_le_self _ _) hx) (by decide), Nat.testBit, Nat.shiftRight_eq_div_pow, Nat.and_comm]
  generalize 1 &&& x / 2 ^ k = z
  cases z <;> rfl
theorem shl_u64 (k : Nat) (hk : k < 64) : IntKind.u64.wrap (2 ^ k) = ((2 ^ k : Nat) : Int) := by
  rw [wraps_u64]
  · simp
  · exact Int.le_of_lt (by exact_mod_cast Nat.two_pow_pos k)
  · exact_mod_cast Nat.pow_lt_pow_right (by decide) hk

theorem ctz_q (x : Nat) (h0 : x ≠ 0) (h : x < 2 ^ 64) : IntKind.u64.wrap (bits BinOp.and IntKind.u64 x (IntKind.u64.wrap (-x)) * 285870213051353865) / 288230376151711744 = ((2 ^ ctz 64 x * 285870213051353865 % 18446744073709551616 / 288230376151711744 : Nat) : Int) := by
  have h1 : IntKind.u64.wrap (-(x : Int)) = ((2 ^ 64 - x : Nat) : Int) := by
    rw [wrap_u64]
    have : (2:Nat)^64 = 18446744073709551616 := rfl
    omega
  rw [h1, and_u64 _ _ h (by omega), (lowest_bit 64 x h0 h).1, wrap_u64]
  simp
theorem ctz_spec (x : Nat) (h0 : x ≠ 0) (h : x < 2 ^ 64) : ∃ m, x = 2 ^ ctz 64 x * (2 * m + 1) ∧ ctz 64 x < 64 := by
  have := ctzFrom_spec 64 x (by omega) h
  rwa [show ctz 64 x = ctzFrom 64 x by simp [ctz, h0]]
theorem ctz_bit (x : Nat) (h0 : x ≠ 0) (h : x < 2 ^ 64) : ctz 64 x < 64 ∧ x.testBit (ctz 64 x) = true ∧ ∀ j, j < ctz 64 x → x.testBit j = false := by
  obtain ⟨m, hm, hk⟩ := ctz_spec x h0 h
  refine ⟨hk, ?_, ?_⟩
  · generalize ctz 64 x = k at hm
    rw [hm, Nat.mul_comm, Nat.testBit_mul_two_pow]
    simp
  · intro j hj
    generalize ctz 64 x = k at hm hj
    rw [hm, Nat.mul_comm, Nat.testBit_mul_two_pow]
    simp [Nat.not_le.2 hj]
/-- w & (w - 1): the lowest bit goes. -/
theorem drop_low (x : Nat) (h0 : x ≠ 0) (h : x < 2 ^ 64) (j : Nat) : (x &&& (x - 1)).testBit j = (x.testBit j && decide (j ≠ ctz 64 x)) := by
  obtain ⟨m, hm, hk⟩ := ctz_spec x h0 h
  have hb := ctz_bit x h0 h
  rw [Nat.testBit_and]
  generalize ctz 64 x = k at hm hb hk
  rcases Nat.lt_trichotomy j k with hjk | rfl | hjk
  · rw [hb.2.2 j hjk]; rfl
  · rw [hb.2.1]
    have hp : 0 < 2 ^ j := Nat.two_pow_pos j
    have : (x - 1) / 2 ^ j = 2 * m := by
      have e : x - 1 = (2 ^ j - 1) + 2 ^ j * (2 * m) := by rw [hm, Nat.mul_add]; omega
      rw [e, Nat.add_mul_div_left _ _ hp, Nat.div_eq_of_lt (by omega)]; omega
    have : (x - 1).testBit j = false := by
      rw [Nat.testBit_eq_decide_div_mod_eq, this]; simp
    rw [this]; simp
  · have hp : 0 < 2 ^ k := Nat.two_pow_pos k
    have e1 : (x - 1) / 2 ^ (k + 1) = m := by
      have e : x - 1 = (2 ^ k - 1) + 2 ^ k * (2 * m) := by rw [hm, Nat.mul_add]; omega
      have z : (2 ^ k - 1) / 2 ^ k = 0 := Nat.div_eq_of_lt (Nat.sub_lt hp (by decide))
      rw [Nat.pow_succ, ← Nat.div_div_eq_div_mul, e, Nat.add_mul_div_left _ _ hp, z]; omega
    have e2 : x / 2 ^ (k + 1) = m := by
      rw [Nat.pow_succ, ← Nat.div_div_eq_div_mul, hm, Nat.mul_div_cancel_left _ hp]; omega
    obtain ⟨i, rfl⟩ : ∃ i, j = (k + 1) + i := ⟨j - (k + 1), by omega⟩
    have s1 : (x - 1).testBit (k + 1 + i) = m.testBit i := by
      rw [← e1, Nat.testBit_div_two_pow, Nat.add_comm i]
    have s2 : x.testBit (k + 1 + i) = m.testBit i := by
      rw [← e2, Nat.testBit_div_two_pow, Nat.add_comm i]
    rw [s1, s2]
    have : decide (k + 1 + i ≠ k) = true := decide_eq_true (by omega)
    rw [this]; simp

/-- The words ws have the numbers L, of T there are. -/
structure Ok (T : Nat) (L ws : List Nat) : Prop where
  big : T ≤ 65536
  up : L.Pairwise (· < ·)
  lt : ∀ n, n ∈ L → n < T
  len : ws.length = (T + 63) / 64
  w64 : ∀ (i x : Nat), ws[i]? = some x → x < 2 ^ 64
  bit : ∀ (i x : Nat), ws[i]? = some x → ∀ j, j < 64 → x.testBit j = decide (64 * i + j ∈ L)

theorem Ok.get {T : Nat} {L ws : List Nat} (h : Ok T L ws) {n : Nat} (hn : n < T) : ∃ x, ws[n / 64]? = some x ∧ x < 2 ^ 64 ∧ x.testBit (n % 64) = decide (n ∈ L) := by
  have hl : n / 64 < ws.length := by rw [h.len]; omega
  refine ⟨ws[n / 64], List.getElem?_eq_getElem hl, h.w64 _ _ (List.getElem?_eq_getElem hl), ?_⟩
  rw [h.bit _ _ (List.getElem?_eq_getElem hl) (n % 64) (Nat.mod_lt _ (by decide))]
  rw [Nat.div_add_mod]
theorem Ok.new {T : Nat} (h : T ≤ 65536) : Ok T [] (List.replicate ((T + 63) / 64) 0) where
  big := h
  up := List.Pairwise.nil
  lt := fun _ h => by cases h
  len := by simp
  w64 := fun i x hx => by
    have := List.mem_of_getElem? hx
    rw [List.mem_replicate] at this
    rw [this.2]; decide
  bit := fun i x hx j _ => by
    have := List.mem_of_getElem? hx
    rw [List.mem_replicate] at this
    rw [this.2]; simp

/-- n laid into a rising list. -/
def ins (n : Nat) : List Nat → List Nat
  | [] => [n]
  | m :: r => if n < m then n :: m :: r else m :: ins n r
theorem mem_ins (n a : Nat) : ∀ L, a ∈ ins n L ↔ a = n ∨ a ∈ L
  | [] => by simp [ins]
  | m :: r => by
    unfold ins
    split
    · simp
    · simp only [List.mem_cons, mem_ins n a r]
      constructor
      · rintro (h | h | h)
        · exact .inr (.inl h)
        · exact .inl h
        · exact .inr (.inr h)
      · rintro (h | h | h)
        · exact .inr (.inl h)
        · exact .inl h
        · exact .inr (.inr h)
theorem length_ins (n : Nat) : ∀ L, (ins n L).length = L.length + 1
  | [] => rfl
  | m :: r => by
    unfold ins
    split
    · rfl
    · simp [length_ins n r]
theorem up_ins (n : Nat) : ∀ L : List Nat, L.Pairwise (· < ·) → n ∉ L → (ins n L).Pairwise (· < ·)
  | [], _, _ => by simp [ins]
  | m :: r, h, hn => by
    have h1 := List.pairwise_cons.1 h
    have hnm : n ≠ m := fun e => hn (by simp [e])
    have hnr : n ∉ r := fun e => hn (by simp [e])
    unfold ins
    split
    · rename_i hlt
      refine List.pairwise_cons.2 ⟨?_, h⟩
      intro a ha
      rcases List.mem_cons.1 ha with rfl | ha
      · exact hlt
      · exact Nat.lt_trans hlt (h1.1 a ha)
    · rename_i hge
      refine List.pairwise_cons.2 ⟨?_, up_ins n r h1.2 hnr⟩
      intro a ha
      rcases (mem_ins n a r).1 ha with rfl | ha
      · omega
      · exact h1.1 a ha

theorem Ok.mark {T : Nat} {L ws : List Nat} (h : Ok T L ws) {n x : Nat} (hn : n < T) (hx : ws[n / 64]? = some x) (hL : n ∉ L) : Ok T (ins n L) (ws.set (n / 64) (x ||| 2 ^ (n % 64))) where
  big := h.big
  up := up_ins n L h.up hL
  lt := fun a ha => by
    rcases (mem_ins n a L).1 ha with rfl | ha
    · exact hn
    · exact h.lt a ha
  len := by simp [h.len]
  w64 := fun i y hy => by
    by_cases hi : n / 64 = i
    · subst hi
      have hl : n / 64 < ws.length := by rw [h.len]; omega
      rw [List.getElem?_set_self hl] at hy
      injection hy with hy
      rw [← hy]
      exact Nat.or_lt_two_pow (h.w64 _ _ hx) (Nat.pow_lt_pow_right (by decide) (Nat.mod_lt _ (by decide)))
    · rw [List.getElem?_set_ne hi] at hy
      exact h.w64 _ _ hy
  bit := fun i y hy j hj => by
    have e : decide (64 * i + j ∈ ins n L) = (decide (64 * i + j = n) || decide (64 * i + j ∈ L)) := by
      rw [← Bool.decide_or]
      exact decide_eq_decide.2 (mem_ins n _ L)
    rw [e]
    by_cases hi : n / 64 = i
    · subst hi
      have hl : n / 64 < ws.length := by rw [h.len]; omega
      rw [List.getElem?_set_self hl] at hy
      injection hy with hy
      rw [← hy, Nat.testBit_or, h.bit _ _ hx j hj, Nat.testBit_two_pow, Bool.or_comm]
      congr 1
      exact decide_eq_decide.2 (by omega)
    · rw [List.getElem?_set_ne hi] at hy
      rw [h.bit _ _ hy j hj]
      have : decide (64 * i + j = n) = false := decide_eq_false (by omega)
      rw [this]; rfl
theorem Ok.clear {T : Nat} {L ws : List Nat} (h : Ok T L ws) {n x z : Nat} (hn : n < T) (hx : ws[n / 64]? = some x) (hz : z < 2 ^ 64) (hb : ∀ j, j < 64 → z.testBit j = (x.testBit j && !(2 ^ (n % 64)).testBit j)) : Ok T (L.filter (· ≠ n)) (ws.set (n / 64) z) where
  big := h.big
  up := List.Pairwise.filter _ h.up
  lt := fun a ha => h.lt a (List.mem_filter.1 ha).1
  len := by simp [h.len]
  w64 := fun i y hy => by
    by_cases hi : n / 64 = i
    · subst hi
      have hl : n / 64 < ws.length := by rw [h.len]; omega
      rw [List.getElem?_set_self hl] at hy
      injection hy with hy
      rw [← hy]; exact hz
    · rw [List.getElem?_set_ne hi] at hy
      exact h.w64 _ _ hy
  bit := fun i y hy j hj => by
    have e : decide (64 * i + j ∈ L.filter (· ≠ n)) = (decide (64 * i + j ∈ L) && decide (64 * i + j ≠ n)) := by
      rw [← Bool.decide_and]
      exact decide_eq_decide.2 (by simp [List.mem_filter])
    rw [e]
    by_cases hi : n / 64 = i
    · subst hi
      have hl : n / 64 < ws.length := by rw [h.len]; omega
      rw [List.getElem?_set_self hl] at hy
      injection hy with hy
      rw [← hy, hb j hj, h.bit _ _ hx j hj, Nat.testBit_two_pow, ← decide_not]
      congr 1
      exact decide_eq_decide.2 (by omega)
    · rw [List.getElem?_set_ne hi] at hy
      rw [h.bit _ _ hy j hj]
      have : decide (64 * i + j ≠ n) = true := decide_eq_true (by omega)
      rw [this]; simp
theorem length_out (n : Nat) : ∀ L : List Nat, L.Pairwise (· < ·) → n ∈ L → (L.filter (· ≠ n)).length + 1 = L.length
  | m :: r, h, hn => by
    have h1 := List.pairwise_cons.1 h
    by_cases hm : m = n
    · subst hm
      have : r.filter (· ≠ m) = r := List.filter_eq_self.2 (fun a ha => by have := h1.1 a ha; simp; omega)
      rw [List.filter_cons, this]
      simp
    · have hr : n ∈ r := by rcases List.mem_cons.1 hn with h | h; exact absurd h.symm hm; exact h
      simp only [List.filter_cons, hm, ne_eq, not_false_eq_true, decide_true, if_true, List.length_cons]
      have := length_out n r h1.2 hr
      simp only [ne_eq] at this
      omega
/-- As many as are below. -/
theorem length_le (T : Nat) : ∀ (L : List Nat) (b : Nat), L.Pairwise (· < ·) → (∀ n, n ∈ L → b ≤ n ∧ n < T) → b ≤ T → L.length + b ≤ T
  | [], b, _, _, hb => by simpa using hb
  | m :: r, b, h, hl, _ => by
    have h1 := List.pairwise_cons.1 h
    have hm := hl m (by simp)
    have := length_le T r (m + 1) h1.2 (fun n hn => ⟨h1.1 n hn, (hl n (by simp [hn])).2⟩) (by omega)
    simp only [List.length_cons]; omega
theorem full (T : Nat) : ∀ (L : List Nat) (b : Nat), L.Pairwise (· < ·) → (∀ n, n ∈ L → b ≤ n ∧ n < T) → b ≤ T → L.length + b = T → ∀ n, b ≤ n → n < T → n ∈ L
  | [], b, _, _, _, he, n, h1, h2 => by simp at he; omega
  | m :: r, b, h, hl, _, he, n, h1, h2 => by
    have hc := List.pairwise_cons.1 h
    have hm := hl m (by simp)
    have hle := length_le T r (m + 1) hc.2 (fun n hn => ⟨hc.1 n hn, (hl n (by simp [hn])).2⟩) (by omega)
    simp only [List.length_cons] at he
    have hmb : m = b := by omega
    by_cases hnb : n = m
    · simp [hnb]
    · exact List.mem_cons_of_mem _ (full T r (m + 1) hc.2 (fun n hn => ⟨hc.1 n hn, (hl n (by simp [hn])).2⟩) (by omega) (by omega) n (by omega) h2)
theorem Ok.length_le {T : Nat} {L ws : List Nat} (h : Ok T L ws) : L.length ≤ T := by
  have := Wd.length_le T L 0 h.up (fun n hn => ⟨Nat.zero_le _, h.lt n hn⟩) (Nat.zero_le _)
  omega
theorem Ok.full {T : Nat} {L ws : List Nat} (h : Ok T L ws) (he : L.length = T) (n : Nat) (hn : n < T) : n ∈ L :=
  Wd.full T L 0 h.up (fun n hn => ⟨Nat.zero_le _, h.lt n hn⟩) (Nat.zero_le _) (by omega) n (Nat.zero_le _) hn
end Go.Proofs.YtkpdmbcefjjfgaaDoor.Wd
