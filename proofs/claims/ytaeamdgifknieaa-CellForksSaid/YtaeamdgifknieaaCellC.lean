/- CellForks' walk: a fork is as the cell is, and each one rises alone; at its greatest value a cell stays. Conditions: the number is one of 64 bits. -/
import Derived.Test.YtaeamdgifknieaaCellB
namespace Go.Proofs.Ytaeamdgifknieaa.CellC
open Go.RowKit CellA CellB

set_option maxHeartbeats 1000000 in
theorem forks_top (n : Int) (w : World) (hn : n = 18446744073709551615) :
    Calls Try.prog 5 #[.int .u64 n] w fun e w' => e = .returned (.bool true) ∧ Below w.heap.size w w' := by
  have HN := Lib.hid hn
  have ht : (n == 18446744073709551615) = true := beq_iff_eq.2 hn
  clear hn
  go_enter Try.func5, Try.ntmps5
  go_wp2_with fail
  refine (new_any _ _).mono ?_
  rintro e w' ⟨rfl, rfl⟩
  have hb0 := Lib.hid ((Below.refl w.heap.size w).alloc (Nat.le_refl _) (.cells #[.int .u64 n, .int .i64 0] 53))
  go_wp2_with fail
  refine (fork_any (Cell.laid w n 0)).mono ?_
  rintro e w2 ⟨rfl, hb, hc⟩
  have HB := Lib.hid (hb0.out.trans (hb.mono (by simp)))
  have hc' : Cell w2 (w.heap.size + 1) n 0 := by simpa using hc
  have HC := Lib.hid hc'
  clear hb hc hb0 hc'
  go_wp2_with fail
  refine (value_any HC.out).mono ?_
  rintro e w' ⟨rfl, rfl⟩
  go_wp2_with fail
  refine (value_nil _).mono ?_
  rintro e w' ⟨rfl, rfl⟩
  go_wp2_with fail
  refine (raised_nil _).mono ?_
  rintro e w' ⟨rfl, rfl⟩
  go_wp2_with fail
  refine (fork_nil _).mono ?_
  rintro e w' ⟨rfl, rfl⟩
  go_wp2_with fail
  refine (raise_nil _ _).mono ?_
  rintro e w' ⟨rfl, rfl⟩
  go_wp2_with fail
  refine (raise_top' _ HC.out HN.out).mono ?_
  rintro e w' ⟨rfl, rfl⟩
  go_wp2_with fail
  refine (raise_top' _ HC.out HN.out).mono ?_
  rintro e w' ⟨rfl, rfl⟩
  go_wp2_with fail
  refine (value_any HC.out).mono ?_
  rintro e w' ⟨rfl, rfl⟩
  go_wp2_with fail
  refine (awake_any _).mono ?_
  rintro e w' ⟨rfl, hb⟩
  go_wp2_with fail
  go_ret
  exact ⟨rfl, HB.out.trans (hb.mono HB.out.size)⟩

set_option maxHeartbeats 1000000 in
theorem forks_low (n : Int) (w : World) (h0 : 0 ≤ n) (hn : n < 18446744073709551615) :
    Calls Try.prog 5 #[.int .u64 n] w fun e w' => e = .returned (.bool true) ∧ Below w.heap.size w w' := by
  have HN := Lib.hid hn
  have H0 := Lib.hid h0
  have ht : (n == 18446744073709551615) = false := beq_eq_false_iff_ne.2 (by omega)
  have hw : IntKind.u64.wrap (n + 1) = n + 1 := by
    simp [IntKind.wrap, IntKind.bits, IntKind.signed]
    omega
  have HW := Lib.hid hw
  clear hn h0 hw
  go_enter Try.func5, Try.ntmps5
  go_wp2_with fail
  refine (new_any _ _).mono ?_
  rintro e w' ⟨rfl, rfl⟩
  have hb0 := Lib.hid ((Below.refl w.heap.size w).alloc (Nat.le_refl _) (.cells #[.int .u64 n, .int .i64 0] 53))
  go_wp2_with fail
  refine (fork_any (Cell.laid w n 0)).mono ?_
  rintro e w2 ⟨rfl, hb, hc⟩
  have HB := Lib.hid (hb0.out.trans (hb.mono (by simp)))
  have hc' : Cell w2 (w.heap.size + 1) n 0 := by simpa using hc
  have HC := Lib.hid hc'
  have HC1 := Lib.hid ((Cell.laid w n 0).below hb (by simp))
  clear hb hc hb0 hc'
  go_wp2_with fail
  refine (value_any HC.out).mono ?_
  rintro e w' ⟨rfl, rfl⟩
  go_wp2_with fail
  refine (value_nil _).mono ?_
  rintro e w' ⟨rfl, rfl⟩
  go_wp2_with fail
  refine (raised_nil _).mono ?_
  rintro e w' ⟨rfl, rfl⟩
  go_wp2_with fail
  refine (fork_nil _).mono ?_
  rintro e w' ⟨rfl, rfl⟩
  go_wp2_with fail
  refine (raise_nil _ _).mono ?_
  rintro e w' ⟨rfl, rfl⟩
  go_wp2_with fail
  rw [HW.out]
  refine (raise_ok HC.out H0.out HN.out (by omega) (by omega)).mono ?_
  rintro e w' ⟨rfl, rfl⟩
  have HC2 := Lib.hid ((HC.out.set0 (n + 1)).set1 1)
  have hne : w.heap.size ≠ w.heap.size + 1 := by omega
  have HC3 := Lib.hid ((HC1.out.far (p := ⟨w.heap.size + 1, 0, none⟩) hne (.int .u64 (n + 1))).far (p := ⟨w.heap.size + 1, 1, none⟩) hne (.int .i64 1))
  have HB2 := Lib.hid ((HB.out.setCell (p := ⟨w.heap.size + 1, 0, none⟩) (Nat.le_succ _) (.int .u64 (n + 1))).setCell (p := ⟨w.heap.size + 1, 1, none⟩) (Nat.le_succ _) (.int .i64 1))
  clear hne
  have HW2 := HW.out
  go_wp2_with fail
  refine (value_any HC2.out).mono ?_
  rintro e w' ⟨rfl, rfl⟩
  go_wp2_with fail
  refine (raised_any HC2.out).mono ?_
  rintro e w' ⟨rfl, rfl⟩
  go_wp2_with fail
  refine (value_any HC3.out).mono ?_
  rintro e w' ⟨rfl, rfl⟩
  go_wp2_with fail
  refine (raised_any HC3.out).mono ?_
  rintro e w' ⟨rfl, rfl⟩
  go_wp2_with fail
  refine (awake_any _).mono ?_
  rintro e w' ⟨rfl, hb⟩
  go_wp2_with fail
  go_ret
  exact ⟨rfl, HB2.out.trans (hb.mono HB2.out.size)⟩
theorem forks (n : Int) (w : World) (h : U64 n) : Calls Try.prog 5 #[.int .u64 n] w fun e w' => e = .returned (.bool true) ∧ Below w.heap.size w w' := by
  by_cases hn : n = 18446744073709551615
  · exact forks_top n w hn
  · exact forks_low n w h.1 (by have := h.2; omega)
end Go.Proofs.Ytaeamdgifknieaa.CellC
