/- Contracts of the cell's functions: a cell is one block of two places, its value and how often it was raised. Conditions: the block is known and not frozen. -/
import Derived.Test.YtaeamdgifknieaaProg
import Derived.WalkKit
import Derived.WalkLawsBesides
import Derived.WalkSpells
import Derived.Laws.LoneSync
import Derived.Outline
import Derived.Below
import Derived.Laws.OwnMore
import Derived.Deep.Draws
import Derived.Laws.Rows
import Derived.KernelRfl
import Derived.Deep.RegionWith
import Derived.Lib.Hide
namespace Go.Proofs.Ytaeamdgifknieaa.CellA
open Go.RowKit

/-- The cell at block b: its value and its count. -/
def Cell (w : World) (b : Nat) (v r : Int) : Prop := w.heap[b]? = some (.cells #[.int .u64 v, .int .i64 r] 53 (0, 0))
section
variable {w w' : World} {b : Nat} {v r : Int}
theorem Cell.lt (h : Cell w b v r) : b < w.heap.size := by
  rcases Nat.lt_or_ge b w.heap.size with hlt | hge
  · exact hlt
  · unfold Cell at h; rw [Array.getElem?_eq_none hge] at h; cases h
theorem Cell.c0 (h : Cell w b v r) : w.cell? ⟨b, 0, none⟩ = some (.int .u64 v) := cell_of_row w b 0 _ 53 (0, 0) h
theorem Cell.c1 (h : Cell w b v r) : w.cell? ⟨b, 1, none⟩ = some (.int .i64 r) := cell_of_row w b 1 _ 53 (0, 0) h
theorem Cell.frozen (h : Cell w b v r) (i : Nat) : w.frozen? ⟨b, i, none⟩ = false := by
  unfold Cell at h
  simp [World.frozen?, h]
theorem Cell.new (w : World) (v : Int) : Cell (w.alloc (.cells #[.int .u64 v, .int .i64 0] 53)) w.heap.size v 0 := heap_alloc_new w _
theorem Cell.laid (w : World) (v r : Int) : Cell (w.alloc (.cells #[.int .u64 v, .int .i64 r] 53)) w.heap.size v r := heap_alloc_new w _
theorem Cell.drewN (h : Cell w b v r) (n : Nat) : Cell (w.drewN n) b v r := h
theorem Cell.set0 (h : Cell w b v r) (x : Int) : Cell (w.setCell ⟨b, 0, none⟩ (.int .u64 x)) b x r := by
  unfold Cell at h ⊢
  simp [World.setCell, Array.getElem?_modify, h]
theorem Cell.set1 (h : Cell w b v r) (x : Int) : Cell (w.setCell ⟨b, 1, none⟩ (.int .i64 x)) b v x := by
  unfold Cell at h ⊢
  simp [World.setCell, Array.getElem?_modify, h]
theorem Cell.far (h : Cell w b v r) {p : Addr} (hp : b ≠ p.block) (u : Value) : Cell (w.setCell p u) b v r := (Below.heap_setCell w p u b hp).trans h
theorem Cell.below {B : Nat} (h : Cell w b v r) (hb : Below B w w') (hg : b < B) : Cell w' b v r := (hb.block b hg).trans h
end

theorem new_any (n : Int) (w : World) : Calls Try.prog 13 #[.int .u64 n] w fun e w' => e = .returned (.pointer (some ⟨w.heap.size, 0, none⟩)) ∧ w.alloc (.cells #[.int .u64 n, .int .i64 0] 53) = w' := by
  go_enter Try.func13, Try.ntmps13
  go_wp2
  go_ret
  exact ⟨rfl, rfl⟩
theorem value_any {b : Nat} {v r : Int} {w : World} (h : Cell w b v r) : Calls Try.prog 14 #[.pointer (some ⟨b, 0, none⟩)] w fun e w' => e = .returned (.int .u64 v) ∧ w = w' := by
  have h0 := h.c0
  clear h
  go_enter Try.func14, Try.ntmps14
  go_wp2
  go_ret
  exact ⟨rfl, rfl⟩
theorem value_nil (w : World) : Calls Try.prog 14 #[.pointer none] w fun e w' => e = .returned (.int .u64 0) ∧ w = w' := by
  go_enter Try.func14, Try.ntmps14
  go_wp2
  go_ret
  exact ⟨rfl, rfl⟩
theorem raise_nil (to : Int) (w : World) : Calls Try.prog 15 #[.pointer none, .int .u64 to] w fun e w' => e = .returned (.int .i64 1) ∧ w = w' := by
  go_enter Try.func15, Try.ntmps15
  go_wp2
  go_ret
  exact ⟨rfl, rfl⟩
theorem raise_top {b : Nat} {r : Int} (to : Int) {w : World} (h : Cell w b 18446744073709551615 r) : Calls Try.prog 15 #[.pointer (some ⟨b, 0, none⟩), .int .u64 to] w fun e w' => e = .returned (.int .i64 42) ∧ w = w' := by
  have h0 := h.c0
  clear h
  go_enter Try.func15, Try.ntmps15
  go_wp2
  go_ret
  exact ⟨rfl, rfl⟩
theorem raise_not {b : Nat} {v r : Int} (to : Int) {w : World} (h : Cell w b v r) (hv0 : 0 ≤ v) (hv : v < 18446744073709551615) (hto : (to != v + 1) = true) : Calls Try.prog 15 #[.pointer (some ⟨b, 0, none⟩), .int .u64 to] w fun e w' => e = .returned (.int .i64 2) ∧ w = w' := by
  have h0 := h.c0
  have ht : (v == 18446744073709551615) = false := beq_eq_false_iff_ne.2 (by omega)
  clear h
  go_enter Try.func15, Try.ntmps15
  go_wp2
  go_ret
  exact ⟨rfl, rfl⟩
theorem add_run (a : Addr) (x y : Int) (w : World) (hc : w.cell? a = some (.int .i64 x)) (hz : w.frozen? a = false) :
    (callFunc 34 #[.pointer (some a), .int .i64 y]).run Try.prog w = .ok (.value (.int .i64 (wrap64 (x + y)))) (w.setCell a (.int .i64 (wrap64 (x + y)))) :=
  run_call_add (P := Try.prog) Try.func34 (by kernel_rfl) (by kernel_rfl) (by kernel_rfl) .i64 (by kernel_rfl) hc hz (by simp [go_sem, wrap64, IntKind.wrap_i64])
theorem load_run (a : Addr) (x : Int) (w : World) (hc : w.cell? a = some (.int .i64 x)) :
    (callFunc 35 #[.pointer (some a)]).run Try.prog w = .ok (.value (.int .i64 x)) w :=
  run_call_load (P := Try.prog) Try.func35 (by kernel_rfl) (by kernel_rfl) (by kernel_rfl) .i64 (by kernel_rfl) hc
theorem store_run (a : Addr) (y : Int) (u : Value) (w : World) (hc : w.cell? a = some u) (hz : w.frozen? a = false) :
    (callFunc 36 #[.pointer (some a), .int .i64 y]).run Try.prog w = .ok (.value (.tuple #[])) (w.setCell a (.int .i64 y)) :=
  run_call_store (P := Try.prog) Try.func36 (by kernel_rfl) (by kernel_rfl) (by kernel_rfl) (by kernel_rfl) hc hz
theorem raise_ok {b : Nat} {v r : Int} {w : World} (h : Cell w b v r) (hv0 : 0 ≤ v) (hv : v < 18446744073709551615) (hr : -9223372036854775808 ≤ r) (hr' : r < 9223372036854775807) :
    Calls Try.prog 15 #[.pointer (some ⟨b, 0, none⟩), .int .u64 (v + 1)] w fun e w' => e = .returned (.int .i64 0) ∧ w' = (w.setCell ⟨b, 0, none⟩ (.int .u64 (v + 1))).setCell ⟨b, 1, none⟩ (.int .i64 (r + 1)) := by
  have h0 := h.c0
  have ht : (v == 18446744073709551615) = false := beq_eq_false_iff_ne.2 (by omega)
  have f0 := h.frozen 0
  have f1 := h.frozen 1
  have h1 := h.c1
  have hadd := add_run ⟨b, 1, none⟩ r 1 (w.setCell ⟨b, 0, none⟩ (.int .u64 (v + 1))) (h.set0 (v + 1)).c1 ((h.set0 (v + 1)).frozen 1)
  have hw : wrap64 (r + 1) = r + 1 := by unfold wrap64; omega
  rw [hw] at hadd
  clear h hw
  go_enter Try.func15, Try.ntmps15
  go_wp2
  go_ret
  exact ⟨rfl, rfl⟩
theorem raised_any {b : Nat} {v r : Int} {w : World} (h : Cell w b v r) : Calls Try.prog 18 #[.pointer (some ⟨b, 0, none⟩)] w fun e w' => e = .returned (.int .i64 r) ∧ w = w' := by
  have h1 := h.c1
  have hload := load_run ⟨b, 1, none⟩ r w h1
  clear h
  go_enter Try.func18, Try.ntmps18
  go_wp2
  go_ret
  exact ⟨rfl, rfl⟩
theorem raised_nil (w : World) : Calls Try.prog 18 #[.pointer none] w fun e w' => e = .returned (.int .i64 0) ∧ w = w' := by
  go_enter Try.func18, Try.ntmps18
  go_wp2
  go_ret
  exact ⟨rfl, rfl⟩
theorem fork_nil (w : World) : Calls Try.prog 19 #[.pointer none] w fun e w' => e = .returned (.pointer none) ∧ w = w' := by
  go_enter Try.func19, Try.ntmps19
  go_wp2
  go_ret
  exact ⟨rfl, rfl⟩
theorem load_any {b : Nat} {x : Int} {w : World} (hc : w.cell? ⟨b, 1, none⟩ = some (.int .i64 x)) : Calls Try.prog 30 #[.pointer (some ⟨b, 1, none⟩)] w fun e w' => e = .returned (.int .i64 x) ∧ w = w' := by
  have hload := load_run ⟨b, 1, none⟩ x w hc
  go_enter Try.func30, Try.ntmps30
  go_wp2
  go_ret
  exact ⟨rfl, rfl⟩
theorem store_any {b : Nat} (y : Int) {u : Value} {w : World} (hc : w.cell? ⟨b, 1, none⟩ = some u) (hz : w.frozen? ⟨b, 1, none⟩ = false) : Calls Try.prog 31 #[.pointer (some ⟨b, 1, none⟩), .int .i64 y] w fun e w' => e = .returned (.tuple #[]) ∧ w.setCell ⟨b, 1, none⟩ (.int .i64 y) = w' := by
  have hst := store_run ⟨b, 1, none⟩ y u w hc hz
  go_enter Try.func31, Try.ntmps31
  go_wp2
  go_end0
  exact ⟨rfl, rfl⟩
theorem store_new (w : World) (v y : Int) : Calls Try.prog 31 #[.pointer (some ⟨w.heap.size, 1, none⟩), .int .i64 y] (w.alloc (.cells #[.int .u64 v, .int .i64 0] 53)).drew
    fun e w' => e = .returned (.tuple #[]) ∧ ((w.alloc (.cells #[.int .u64 v, .int .i64 0] 53)).drew).setCell ⟨w.heap.size, 1, none⟩ (.int .i64 y) = w' :=
  store_any y (Cell.new w v).c1 ((Cell.new w v).frozen 1)
theorem load_old {b : Nat} {v r : Int} {w : World} (h : Cell w b v r) (o : Obj) : Calls Try.prog 30 #[.pointer (some ⟨b, 1, none⟩)] (w.alloc o).drew fun e w' => e = .returned (.int .i64 r) ∧ (w.alloc o).drew = w' :=
  load_any ((World.cell?_alloc_lt w o ⟨b, 1, none⟩ h.lt).trans h.c1)
theorem fork_any {b : Nat} {v r : Int} {w : World} (h : Cell w b v r) : Calls Try.prog 19 #[.pointer (some ⟨b, 0, none⟩)] w fun e w' => e = .returned (.pointer (some ⟨w.heap.size, 0, none⟩)) ∧ Below w.heap.size w w' ∧ Cell w' w.heap.size v r := by
  have h0 := h.c0
  have hl := h.lt
  have H := Lib.hid h
  clear h
  go_enter Try.func19, Try.ntmps19
  go_wp2_with (go_at_call 13; refine (new_any _ _).mono ?_; rintro e w' ⟨rfl, rfl⟩)
  go_region_with (first | (go_at_call 30; refine (load_old H.out _).mono ?_; rintro e w' ⟨rfl, rfl⟩) | (go_at_call 31; refine (store_new w v r).mono ?_; rintro e w' ⟨rfl, rfl⟩))
  go_wp2
  go_ret
  exact ⟨rfl, ((Below.refl _ _).alloc (Nat.le_refl _) _).drew, Cell.laid w v r⟩
/-- What every right program raises. -/
theorem awake_any (w : World) : Calls Try.prog 16 #[] w fun e w' => e = .returned (.bool true) ∧ Below w.heap.size w w' := by
  go_enter Try.func16, Try.ntmps16
  go_wp2_with fail
  refine (new_any _ _).mono ?_
  rintro e w' ⟨rfl, rfl⟩
  go_wp2_with fail
  refine (raise_ok (v := 5) (Cell.laid w 5 0) (by omega) (by omega) (by omega) (by omega)).mono ?_
  rintro e w' ⟨rfl, rfl⟩
  go_wp2_with fail
  refine (raise_not (v := 6) (r := 1) _ (Cell.laid w 6 1) (by omega) (by omega) (by decide)).mono ?_
  rintro e w' ⟨rfl, rfl⟩
  go_wp2_with fail
  refine (value_any (v := 6) (r := 1) (Cell.laid w 6 1)).mono ?_
  rintro e w' ⟨rfl, rfl⟩
  go_wp2_with fail
  go_ret
  exact ⟨rfl, (Below.refl _ _).alloc (Nat.le_refl _) _⟩
end Go.Proofs.Ytaeamdgifknieaa.CellA
