/- Sixteen bytes as a list: what doubling makes of them, as the program and as the document do it. No condition. -/
import Derived.Laws.BitsAllLaws
namespace Go.Proofs.Ytaeamdgifknieab.Ar

def dbl (x k : Nat) : Nat := x * 2 % 256 + k
def run (c : List Nat) : Nat → List Nat × Nat
  | 0 => (c, 0)
  | i + 1 => ((run c i).1.set i (dbl ((run c i).1.getD i 0) (run c i).2), (run c i).1.getD i 0 / 128)
def twice (c : List Nat) : List Nat := if (run c 16).2 = 0 then (run c 16).1 else (run c 16).1.set 0 ((run c 16).1.getD 0 0 ^^^ 135)
def rrun (c : List Nat) : Nat → List Nat
  | 0 => List.replicate 16 0
  | i + 1 => (rrun c i).set i (dbl (c.getD i 0) (if i = 0 then 0 else c.getD (i - 1) 0 / 128))
def rtwice (c : List Nat) : List Nat := if c.getD 15 0 / 128 = 1 then (rrun c 16).set 0 ((rrun c 16).getD 0 0 ^^^ 135) else rrun c 16
/-- a row of sixteen bytes -/
def Row16 (c : List Nat) : Prop := c.length = 16 ∧ ∀ x ∈ c, x < 256

theorem Row16.get {c : List Nat} (h : Row16 c) (i : Nat) : c.getD i 0 < 256 := by
  by_cases hi : i < c.length
  · have e : c.getD i 0 = c[i] := by simp [List.getD, hi]
    rw [e]
    exact h.2 _ (List.getElem_mem hi)
  · have e : c.getD i 0 = 0 := by simp [List.getD, List.getElem?_eq_none (Nat.le_of_not_lt hi)]
    omega
theorem Row16.set {c : List Nat} (h : Row16 c) (i : Nat) {x : Nat} (hx : x < 256) : Row16 (c.set i x) := by
  refine ⟨by rw [List.length_set]; exact h.1, fun y hy => ?_⟩
  rcases List.mem_or_eq_of_mem_set hy with h1 | h1
  · exact h.2 _ h1
  · omega
theorem dbl_lt {x k : Nat} (hk : k ≤ 1) : dbl x k < 256 := by
  unfold dbl
  omega
theorem zeros16 : Row16 (List.replicate 16 0) := ⟨by simp, fun x hx => by have := List.eq_of_mem_replicate hx; omega⟩
theorem run_row {c : List Nat} (h : Row16 c) (i : Nat) : Row16 (run c i).1 ∧ (run c i).2 ≤ 1 := by
  induction i with
  | zero => exact ⟨h, Nat.zero_le _⟩
  | succ i ih =>
    have := ih.1.get i
    exact ⟨ih.1.set i (dbl_lt ih.2), by simp only [run]; omega⟩
theorem twice_row {c : List Nat} (h : Row16 c) : Row16 (twice c) := by
  unfold twice
  have hr := run_row h 16
  split
  · exact hr.1
  · exact hr.1.set 0 (Nat.xor_lt_two_pow (n := 8) (hr.1.get 0) (by omega))
theorem rrun_row {c : List Nat} (h : Row16 c) (i : Nat) : Row16 (rrun c i) := by
  induction i with
  | zero => exact zeros16
  | succ i ih =>
    refine ih.set i (dbl_lt ?_)
    split
    · omega
    · have := h.get (i - 1)
      omega
theorem or_carry (x k : Nat) (hk : k ≤ 1) : (x * 2 % 256) ||| k = dbl x k := by
  unfold dbl
  rcases (by omega : k = 0 ∨ k = 1) with rfl | rfl
  · simp
  · have e := nat_join 1 (x * 2 % 256) 1 (by omega) (by omega)
    exact e
theorem open16 {c : List Nat} (h : c.length = 16) : ∃ a0 a1 a2 a3 a4 a5 a6 a7 a8 a9 a10 a11 a12 a13 a14 a15, c = [a0, a1, a2, a3, a4, a5, a6, a7, a8, a9, a10, a11, a12, a13, a14, a15] := by
  match c, h with
  | [a0, a1, a2, a3, a4, a5, a6, a7, a8, a9, a10, a11, a12, a13, a14, a15], _ => exact ⟨_, _, _, _, _, _, _, _, _, _, _, _, _, _, _, _, rfl⟩
theorem twice_closed (a0 a1 a2 a3 a4 a5 a6 a7 a8 a9 a10 a11 a12 a13 a14 a15 : Nat) : twice [a0, a1, a2, a3, a4, a5, a6, a7, a8, a9, a10, a11, a12, a13, a14, a15] =
    [if a15 / 128 = 0 then dbl a0 0 else dbl a0 0 ^^^ 135, dbl a1 (a0 / 128), dbl a2 (a1 / 128), dbl a3 (a2 / 128), dbl a4 (a3 / 128), dbl a5 (a4 / 128), dbl a6 (a5 / 128), dbl a7 (a6 / 128), dbl a8 (a7 / 128), dbl a9 (a8 / 128), dbl a10 (a9 / 128), dbl a11 (a10 / 128), dbl a12 (a11 / 128), dbl a13 (a12 / 128), dbl a14 (a13 / 128), dbl a15 (a14 / 128)] := by
  unfold twice
  have e : run [a0, a1, a2, a3, a4, a5, a6, a7, a8, a9, a10, a11, a12, a13, a14, a15] 16 = ([dbl a0 0, dbl a1 (a0 / 128), dbl a2 (a1 / 128), dbl a3 (a2 / 128), dbl a4 (a3 / 128), dbl a5 (a4 / 128), dbl a6 (a5 / 128), dbl a7 (a6 / 128), dbl a8 (a7 / 128), dbl a9 (a8 / 128), dbl a10 (a9 / 128), dbl a11 (a10 / 128), dbl a12 (a11 / 128), dbl a13 (a12 / 128), dbl a14 (a13 / 128), dbl a15 (a14 / 128)], a15 / 128) := by
    simp [run]
  rw [e]
  split <;> simp_all
theorem rtwice_eq {c : List Nat} (h : Row16 c) : rtwice c = twice c := by
  have h15 := h.get 15
  obtain ⟨a0, a1, a2, a3, a4, a5, a6, a7, a8, a9, a10, a11, a12, a13, a14, a15, rfl⟩ := open16 h.1
  rw [twice_closed]
  have h' : a15 < 256 := by simpa using h15
  unfold rtwice
  have e : rrun [a0, a1, a2, a3, a4, a5, a6, a7, a8, a9, a10, a11, a12, a13, a14, a15] 16 = [dbl a0 0, dbl a1 (a0 / 128), dbl a2 (a1 / 128), dbl a3 (a2 / 128), dbl a4 (a3 / 128), dbl a5 (a4 / 128), dbl a6 (a5 / 128), dbl a7 (a6 / 128), dbl a8 (a7 / 128), dbl a9 (a8 / 128), dbl a10 (a9 / 128), dbl a11 (a10 / 128), dbl a12 (a11 / 128), dbl a13 (a12 / 128), dbl a14 (a13 / 128), dbl a15 (a14 / 128)] := by
    simp [rrun]
  rw [e]
  by_cases hz : a15 / 128 = 0
  · simp [hz]
  · have h1 : a15 / 128 = 1 := by omega
    simp [h1]
end Go.Proofs.Ytaeamdgifknieab.Ar
