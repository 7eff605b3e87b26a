/- What every right program tells of some bytes, by contract; arrays of bytes held against each other; an array read whole, as a step of a region. Conditions: sixteen bytes. -/
import Derived.Test.YtaeamdgifknieabTw
import Derived.Test.YtaeamdgifknieabPFieldApartx1
import Derived.Test.YtaeamdgifknieabWInvWords
import Derived.Stop.BytesEq
namespace Go.Proofs.Ytaeamdgifknieab.Aw
open Extern.Stop (cell)
open Go.RowKit Ar Tw Go.Proofs.Ytaeamdgifknieab.PFieldApart Go.Proofs.YtaeamdgifknieabW.PrintWords Go.Proofs.YtaeamdgifknieabW.PrintLast Go.Proofs.YtaeamdgifknieabW.PrintMore

theorem awake_some : reliquarylaw01_awake.f 60 = some true := by decide +kernel
theorem awake_any (w : World) : Calls Try.prog 8 #[] w fun e w' => e = .returned (.bool true) ∧ ∃ n, w' = w.drewN n :=
  (reliquarylaw01_awake.calls 60 true w awake_some).mono fun _ _ ⟨he, hd⟩ => ⟨he, hd.out⟩
theorem below_drewN {B : Nat} {a w : World} (h : Below B a w) (n : Nat) : Below B a (w.drewN n) := ⟨h.os, h.tape, h.output, h.size, h.block⟩
theorem _root_.Go.Proofs.Ytaeamdgifknieab.Tw.Row.drewN {w : World} {b : Nat} {c : List Nat} (h : Row w b c) (n : Nat) : Row (w.drewN n) b c := h
theorem cells_u8 {a : List Nat} (h : Row16 a) : cells a = ((a.map UInt8.ofNat).map cell).toArray := by
  unfold cells
  rw [List.map_map]
  congr 1
  refine List.map_congr_left fun x hx => ?_
  have := h.2 x hx
  simp [cell, UInt8.toNat_ofNat_of_lt' (show x < UInt8.size from this)]
theorem map_inj {a b : List Nat} (ha : Row16 a) (hb : Row16 b) (h : a.map UInt8.ofNat = b.map UInt8.ofNat) : a = b := by
  have e : ∀ l : List Nat, Row16 l → (l.map UInt8.ofNat).map UInt8.toNat = l := fun l hl => by
    rw [List.map_map]
    conv => rhs; rw [← List.map_id l]
    refine List.map_congr_left fun x hx => ?_
    have := hl.2 x hx
    simp [UInt8.toNat_ofNat_of_lt' (show x < UInt8.size from this)]
  rw [← e a ha, ← e b hb, h]
theorem size5 : ∀ w, (sizeOf 5).run Try.prog w = .ok 1 w := fun w => by kernel_rfl
theorem equalIn_cells {a b : List Nat} (ha : Row16 a) (hb : Row16 b) (w : World) : (Op.equalIn 10000 23 (.agg (cells a)) (.agg (cells b))).run Try.prog w = .ok (decide (a = b)) w := by
  rw [cells_u8 ha, cells_u8 hb, run_equalIn_bytes w 9998 23 5 16 Try.underlying23 Try.underlying5 size5 _ _ (by simp [ha.1]) (by simp [hb.1])]
  congr 1
  rw [Bool.eq_iff_iff, beq_iff_eq, decide_eq_true_iff]
  exact ⟨map_inj ha hb, fun h => by rw [h]⟩
theorem eql_same {a : List Nat} (ha : Row16 a) (w : World) : (Op.equalIn 10000 23 (.agg (cells a)) (.agg (cells a))).run Try.prog w = .ok true w :=
  (equalIn_cells ha ha w).trans (by simp)
section
variable {ops : Array Oper} {Q : Exit → Act → World → Prop}
/-- An array read whole. -/
theorem load_row_ {oi : Oper} {N : Option Tmp} {a : Act} {w : World} {K : Act → World → Prop} {x : Operand} {g : Nat} {c : List Nat} (hw : Region.wanted oi (yielded ops a.tmps) = true) (hN : oi.dst = N) (hop : oi.op = .load 23 x)
    (hx : a.eval x = .pointer (some ⟨g, 0, none⟩)) (hr : Row w g c) (hl : c.length = 16) (h : K (a.put N (.agg (cells c))) w) : if Region.wanted oi (yielded ops a.tmps) = true then Oper.wp Try.prog oi a w K Q else K (a.put N undef) w := by
  rw [if_pos hw]
  subst hN
  exact wp_load_row 23 x hop g hx 23 (cells c) (0, 0) _ hr Try.underlying23 rfl (by rw [cells_size hl]; exact info23) h
end
theorem rtwice_c (c : List Nat) (hc : Row16 c) (w : World) : Calls Try.prog 9 #[.agg (cells c)] w fun e w' => e = .returned (.agg (cells (twice c))) ∧ Below w.heap.size w w' := by
  have h := rtwice_any c hc w
  rw [rtwice_eq hc] at h
  exact h
end Go.Proofs.Ytaeamdgifknieab.Aw
