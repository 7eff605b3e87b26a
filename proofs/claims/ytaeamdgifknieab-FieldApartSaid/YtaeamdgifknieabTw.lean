/- Twice by contract: the program's and the document's. Conditions: sixteen bytes. -/
import Derived.Test.YtaeamdgifknieabProg
import Derived.Test.YtaeamdgifknieabAr
import Derived.WalkKit
import Derived.WalkLawsBesides
import Derived.WalkSpells
import Derived.Outline
import Derived.Below
import Derived.Laws.OwnMore
import Derived.Deep.Draws
import Derived.Laws.Rows
import Derived.Laws.Tables
import Derived.KernelRfl
import Derived.Lib.Hide
import Derived.RegionTactic
namespace Go.Proofs.Ytaeamdgifknieab.Tw
open Go.RowKit Ar

def cells (c : List Nat) : Array Value := (c.map fun n : Nat => Value.int .u8 (n : Int)).toArray
/-- The bytes' block. -/
def Row (w : World) (b : Nat) (c : List Nat) : Prop := w.heap[b]? = some (.cells (cells c) 23 (0, 0))
section
variable {w w' : World} {b : Nat} {c : List Nat}
theorem Row.lt (h : Row w b c) : b < w.heap.size := by
  rcases Nat.lt_or_ge b w.heap.size with hlt | hge
  · exact hlt
  · unfold Row at h; rw [Array.getElem?_eq_none hge] at h; cases h
theorem Row.cell (h : Row w b c) {i : Nat} (hi : i < c.length) : w.cell? ⟨b, i, none⟩ = some (.int .u8 (c.getD i 0 : Nat)) := by
  rw [cell_of_row w b i _ 23 (0, 0) h]
  simp [cells, List.getD, hi]
theorem Row.frozen (h : Row w b c) (i : Nat) : w.frozen? ⟨b, i, none⟩ = false := frozen_of_row w b i _ 23 h
theorem Row.laid (w : World) (c : List Nat) : Row (w.alloc (.cells (cells c) 23)) w.heap.size c := heap_alloc_new w _
theorem Row.set (h : Row w b c) (i x : Nat) : Row (w.setCell ⟨b, i, none⟩ (.int .u8 (x : Int))) b (c.set i x) := by
  have e : (cells c).setIfInBounds i (.int .u8 (x : Int)) = cells (c.set i x) := by simp [cells, List.map_set]
  unfold Row
  rw [heap_setCell_same w b i _ 23 _ h, e]
theorem Row.far (h : Row w b c) {p : Addr} (hp : b ≠ p.block) (u : Value) : Row (w.setCell p u) b c := (Below.heap_setCell w p u b hp).trans h
theorem Row.below {B : Nat} (h : Row w b c) (hb : Below B w w') (hg : b < B) : Row w' b c := (hb.block b hg).trans h
theorem Row.drew (h : Row w b c) : Row w.drew b c := h
end
theorem below_of {B : Nat} {a c a' c' : World} (h : Below B a c) (h1 : a'.os = a.os ∧ a'.tape = a.tape ∧ a'.output = a.output ∧ a'.heap = a.heap) (h2 : c'.os = c.os ∧ c'.tape = c.tape ∧ c'.output = c.output ∧ c'.heap = c.heap) : Below B a' c' :=
  ⟨by rw [h1.1, h2.1]; exact h.os, by rw [h1.2.1, h2.2.1]; exact h.tape, by rw [h1.2.2.1, h2.2.2.1]; exact h.output, by rw [h1.2.2.2, h2.2.2.2]; exact h.size, by rw [h1.2.2.2, h2.2.2.2]; exact h.block⟩
theorem below_row {B : Nat} {a w : World} (h : Below B a w) {g : Nat} (hg : B ≤ g) (cs : Array Value) : Below B a (w.setRow g cs) :=
  ⟨h.os, h.tape, h.output, by rw [size_setRow]; exact h.size, fun k hk => (setRow_other w g k cs (by omega)).trans (h.block k hk)⟩
theorem Row.put {w : World} {b : Nat} {c : List Nat} (h : Row w b c) (d : List Nat) : Row (w.setRow b (cells d)) b d := setRow_heap w b _ _ 23 _ h
theorem or_val (x s : Nat) (hs : s ≤ 1) : bits .or .u8 ((x : Int) * 2 % 256) (s : Int) = ((dbl x s : Nat) : Int) := by
  have h := u8_or_nat (x * 2 % 256) s (by omega) (by omega)
  rw [or_carry x s hs] at h
  rw [← h]
  congr 1
theorem info23 : (Try.prog.info? 23).map (·.size) = some 16 := by kernel_rfl
theorem all_one (c : List Nat) : (cells c).all (·.oneCell') = true := by simp [cells, Value.oneCell']
theorem cells_size {c : List Nat} (h : c.length = 16) : (cells c).size = 16 := by simp [cells, h]
theorem zeros_cells : cells (List.replicate 16 0) = #[Value.int .u8 0, Value.int .u8 0, Value.int .u8 0, Value.int .u8 0, Value.int .u8 0, Value.int .u8 0, Value.int .u8 0, Value.int .u8 0, Value.int .u8 0, Value.int .u8 0, Value.int .u8 0, Value.int .u8 0, Value.int .u8 0, Value.int .u8 0, Value.int .u8 0, Value.int .u8 0] := by simp [cells]

set_option maxHeartbeats 1000000 in
theorem twice_any (c : List Nat) (hc : Row16 c) (w : World) : Calls Try.prog 6 #[.agg (cells c)] w fun e w' => e = .returned (.agg (cells (twice c))) ∧ Below w.heap.size w w' := by
  have HC := Lib.hid hc
  clear hc
  go_enter Try.func6, Try.ntmps6
  go_wp2_with fail
  go_loopw [3, 5] (fun s i wr => ∃ k : Nat, k ≤ 16 ∧ i = .int .i64 k ∧ s = .int .u8 ((run c k).2 : Nat) ∧ Row wr w.heap.size (run c k).1 ∧ Row wr (w.heap.size + 1) (List.replicate 16 0) ∧ Below w.heap.size w wr) (fun _ i _ => 16 - (intOf i).toNat)
  case atStart =>
    have h1 : Row ((w.alloc (.cells (cells c) 23)).alloc (.cells (cells (List.replicate 16 0)) 23)) (w.heap.size + 1) (List.replicate 16 0) := by simpa using Row.laid (w.alloc (.cells (cells c) 23)) (List.replicate 16 0)
    have h0 : Row ((w.alloc (.cells (cells c) 23)).alloc (.cells (cells (List.replicate 16 0)) 23)) w.heap.size c := (Below.heap_alloc _ _ _ (Row.laid w c).lt).trans (Row.laid w c)
    rw [zeros_cells] at h0 h1
    exact ⟨0, by omega, rfl, rfl, h0, h1, ((Below.refl _ _).alloc (Nat.le_refl _) _).alloc (by simp) _⟩
  case round =>
    obtain ⟨k, hk, rfl, rfl, hr, hz, hb⟩ := hrel
    have HR := Lib.hid hr
    have HZ := Lib.hid hz
    have HB := Lib.hid hb
    have hrow := run_row HC.out k
    have hlen := hrow.1.1
    by_cases hlt : k < 16
    · have hcell := HR.out.cell (i := k) (by omega)
      have hfr := HR.out.frozen k
      have hx := hrow.1.get k
      have hs := hrow.2
      have HS := Lib.hid (show (run c (k + 1)) = ((run c k).1.set k (dbl ((run c k).1.getD k 0) (run c k).2), (run c k).1.getD k 0 / 128) from rfl)
      generalize hxx : (run c k).1.getD k 0 = x at *
      generalize hss : (run c k).2 = s at *
      have HX := Lib.hid hxx
      have HSS := Lib.hid hss
      clear hxx hss hr hz hb hrow hlen
      go_wp2_with fail
      go_region
      all_goals go_wp2_with fail
      have hR1 : Row (wr.setCell ⟨w.heap.size, k, none⟩ (.int .u8 ((dbl x s : Nat) : Int))) w.heap.size (run c (k + 1)).1 := by
        rw [HS.out]
        exact HR.out.set k (dbl x s)
      have hV : ((run c (k + 1)).2 : Int) = (x : Int) / 128 := by
        rw [HS.out]
        omega
      rw [or_val x s hs]
      go_roundw
      case rel => exact ⟨k + 1, by omega, by go_num, by rw [hV], hR1, HZ.out.far (p := ⟨w.heap.size, k, none⟩) (by simp) _, below_of (HB.out.setCell (p := ⟨w.heap.size, k, none⟩) (Nat.le_refl _) _) ⟨rfl, rfl, rfl, rfl⟩ ⟨rfl, rfl, rfl, rfl⟩⟩
      case measure => simp [intOf]; omega
    · obtain rfl : k = 16 := by omega
      have hx := hrow.1.get 0
      have hcell := HR.out.cell (i := 0) (by omega)
      have hfr := HR.out.frozen 0
      have HT := Lib.hid (show twice c = if (run c 16).2 = 0 then (run c 16).1 else (run c 16).1.set 0 ((run c 16).1.getD 0 0 ^^^ 135) from rfl)
      generalize (run c 16).1 = d at *
      generalize (run c 16).2 = s at *
      have HD := Lib.hid hlen
      generalize hxx : d.getD 0 0 = x at *
      clear hxx hr hz hb hrow hlen
      by_cases h0 : s = 0
      · have hb0 : ((s : Int) != 0) = false := bne_eq_false_iff_eq.2 (by omega)
        have HT0 := Lib.hid (HT.out.trans (if_pos h0))
        clear h0
        go_wp2_with (first | (refine wpList_load_row rfl 23 _ rfl w.heap.size rfl 23 (cells d) (0, 0) _ HR.out Try.underlying23 rfl (by rw [cells_size HD.out]; exact info23) ?_) | (refine wpList_store_row rfl 23 _ _ rfl (w.heap.size + 1) (cells d) rfl rfl 23 _ HZ.out (by rw [cells_size HD.out]; exact info23) (by rw [cells_size HD.out, cells_size (by simp)]) (all_one d) ?_))
        refine bodyPost_ret (results_cell_row Try.results6 _ _ (w.heap.size + 1) 23 (cells d) (0, 0) _ rfl (HZ.out.put d) Try.underlying23 rfl (by rw [cells_size HD.out]; exact info23)) rfl ⟨by rw [HT0.out], below_row HB.out (Nat.le_succ _) _⟩
      · have hb0 : ((s : Int) != 0) = true := bne_iff_ne.2 (by omega)
        have HT0 := Lib.hid (HT.out.trans (if_neg h0))
        have HX := Lib.hid hx
        have hR1 : Row (wr.setCell ⟨w.heap.size, 0, none⟩ (.int .u8 ((x ^^^ 135 : Nat) : Int))) w.heap.size (d.set 0 (x ^^^ 135)) := HR.out.set 0 (x ^^^ 135)
        have HR1 := Lib.hid hR1
        have HZ1 := Lib.hid (show Row (wr.setCell ⟨w.heap.size, 0, none⟩ (.int .u8 ((x ^^^ 135 : Nat) : Int))) (w.heap.size + 1) (List.replicate 16 0) from HZ.out.far (p := ⟨w.heap.size, 0, none⟩) (by simp) _)
        have hl2 : (d.set 0 (x ^^^ 135)).length = 16 := by rw [List.length_set]; exact HD.out
        have HD1 := Lib.hid hl2
        have hxo : bits .xor .u8 (x : Int) 135 = ((x ^^^ 135 : Nat) : Int) := u8_xor_nat x 135 hx (by omega)
        clear h0 hR1 hl2
        go_wp2_with (first | (refine wpList_load_row rfl 23 _ rfl w.heap.size rfl 23 (cells (d.set 0 (x ^^^ 135))) (0, 0) _ HR1.out Try.underlying23 rfl (by rw [cells_size HD1.out]; exact info23) ?_) | (refine wpList_store_row rfl 23 _ _ rfl (w.heap.size + 1) (cells (d.set 0 (x ^^^ 135))) rfl rfl 23 _ HZ1.out (by rw [cells_size HD1.out]; exact info23) (by rw [cells_size HD1.out, cells_size (by simp)]) (all_one _) ?_))
        refine bodyPost_ret (results_cell_row Try.results6 _ _ (w.heap.size + 1) 23 (cells (d.set 0 (x ^^^ 135))) (0, 0) _ rfl (HZ1.out.put _) Try.underlying23 rfl (by rw [cells_size HD1.out]; exact info23)) rfl ⟨by rw [HT0.out], below_row (HB.out.setCell (p := ⟨w.heap.size, 0, none⟩) (Nat.le_refl _) _) (Nat.le_succ _) _⟩

set_option maxHeartbeats 1000000 in
theorem rtwice_any (c : List Nat) (hc : Row16 c) (w : World) : Calls Try.prog 9 #[.agg (cells c)] w fun e w' => e = .returned (.agg (cells (rtwice c))) ∧ Below w.heap.size w w' := by
  have HC := Lib.hid hc
  clear hc
  go_enter Try.func9, Try.ntmps9
  go_wp2_with fail
  go_loopw [4] (fun i wr => ∃ k : Nat, k ≤ 16 ∧ i = .int .i64 k ∧ Row wr w.heap.size c ∧ Row wr (w.heap.size + 1) (List.replicate 16 0) ∧ Row wr (w.heap.size + 2) (rrun c k) ∧ Below w.heap.size w wr) (fun i _ => 16 - (intOf i).toNat)
  case atStart =>
    have e1 : (w.alloc (.cells (cells c) 23)).heap.size = w.heap.size + 1 := by simp
    have e2 : ((w.alloc (.cells (cells c) 23)).alloc (.cells (cells (List.replicate 16 0)) 23)).heap.size = w.heap.size + 2 := by simp
    have h2 : Row (((w.alloc (.cells (cells c) 23)).alloc (.cells (cells (List.replicate 16 0)) 23)).alloc (.cells (cells (List.replicate 16 0)) 23)) (w.heap.size + 2) (List.replicate 16 0) := by
      have h := Row.laid ((w.alloc (.cells (cells c) 23)).alloc (.cells (cells (List.replicate 16 0)) 23)) (List.replicate 16 0)
      rwa [e2] at h
    have h1 : Row (((w.alloc (.cells (cells c) 23)).alloc (.cells (cells (List.replicate 16 0)) 23)).alloc (.cells (cells (List.replicate 16 0)) 23)) (w.heap.size + 1) (List.replicate 16 0) := by
      have h := Row.laid (w.alloc (.cells (cells c) 23)) (List.replicate 16 0)
      rw [e1] at h
      exact (Below.heap_alloc _ _ _ h.lt).trans h
    have h0 : Row (((w.alloc (.cells (cells c) 23)).alloc (.cells (cells (List.replicate 16 0)) 23)).alloc (.cells (cells (List.replicate 16 0)) 23)) w.heap.size c := by
      have h := Row.laid w c
      have h' : Row ((w.alloc (.cells (cells c) 23)).alloc (.cells (cells (List.replicate 16 0)) 23)) w.heap.size c := (Below.heap_alloc _ _ _ h.lt).trans h
      exact (Below.heap_alloc _ _ _ h'.lt).trans h'
    rw [zeros_cells] at h0 h1 h2
    exact ⟨0, by omega, rfl, h0, h1, h2, (((Below.refl _ _).alloc (Nat.le_refl _) _).alloc (by simp) _).alloc (by simp; omega) _⟩
  case round =>
    obtain ⟨k, hk, rfl, ht, hz, hx, hb⟩ := hrel
    have HTT := Lib.hid ht
    have HZ := Lib.hid hz
    have HX := Lib.hid hx
    have HB := Lib.hid hb
    have HL := Lib.hid (rrun_row HC.out k).1
    have HLC := Lib.hid HC.out.1
    by_cases hlt : k < 16
    · have hc0 := HTT.out.cell (i := k) (by have := HLC.out; omega)
      have hx0 := HX.out.cell (i := k) (by have := HL.out; omega)
      have hfr := HX.out.frozen k
      have hbx := HC.out.get k
      have HS := Lib.hid (show rrun c (k + 1) = (rrun c k).set k (dbl (c.getD k 0) (if k = 0 then 0 else c.getD (k - 1) 0 / 128)) from rfl)
      by_cases hk0 : k = 0
      · subst hk0
        generalize hxx : c.getD 0 0 = x at *
        have HXX := Lib.hid hxx
        have hv : ((x : Int) * 2 % 256) = ((dbl x 0 : Nat) : Int) := by unfold dbl; omega
        have HV := Lib.hid hv
        clear hxx ht hz hx hb hv
        go_wp2_with fail
        have hR1 : Row (wr.setCell ⟨w.heap.size + 2, 0, none⟩ (.int .u8 ((dbl x 0 : Nat) : Int))) (w.heap.size + 2) (rrun c 1) := by
          rw [HS.out]
          exact HX.out.set 0 (dbl x 0)
        rw [HV.out]
        go_roundw
        case rel => exact ⟨1, by omega, by go_num, HTT.out.far (p := ⟨w.heap.size + 2, 0, none⟩) (by simp) _, HZ.out.far (p := ⟨w.heap.size + 2, 0, none⟩) (by simp) _, hR1, HB.out.setCell (p := ⟨w.heap.size + 2, 0, none⟩) (Nat.le_add_right _ _) _⟩
        case measure => simp [intOf]
      · have hc1 := HTT.out.cell (i := k - 1) (by have := HLC.out; omega)
        have hby := HC.out.get (k - 1)
        have hpos : 1 ≤ k := by omega
        have HK := Lib.hid hk0
        generalize hyy : c.getD (k - 1) 0 = y at *
        generalize hxx : c.getD k 0 = x at *
        generalize hoo : (rrun c k).getD k 0 = o at *
        have HXX := Lib.hid hxx
        clear hxx hyy hoo ht hz hx hb hk0
        go_wp2_with fail
        go_region
        all_goals go_wp2_with fail
        have hv : bits .or .u8 ((x : Int) * 2 % 256) ((y : Int) / 128) = ((dbl x (y / 128) : Nat) : Int) := or_val x (y / 128) (by omega)
        have hm : ((x : Int) * 2 % 256) = ((x * 2 % 256 : Nat) : Int) := by omega
        rw [hv, hm]
        have hR1 : Row ((wr.setCell ⟨w.heap.size + 2, k, none⟩ (.int .u8 ((x * 2 % 256 : Nat) : Int))).setCell ⟨w.heap.size + 2, k, none⟩ (.int .u8 ((dbl x (y / 128) : Nat) : Int))) (w.heap.size + 2) (rrun c (k + 1)) := by
          rw [HS.out, if_neg HK.out]
          have h := (HX.out.set k (x * 2 % 256)).set k (dbl x (y / 128))
          rwa [List.set_set] at h
        go_roundw
        case rel => exact ⟨k + 1, by omega, by go_num, (HTT.out.far (p := ⟨w.heap.size + 2, k, none⟩) (by simp) _).far (p := ⟨w.heap.size + 2, k, none⟩) (by simp) _, (HZ.out.far (p := ⟨w.heap.size + 2, k, none⟩) (by simp) _).far (p := ⟨w.heap.size + 2, k, none⟩) (by simp) _, hR1, below_of ((HB.out.setCell (p := ⟨w.heap.size + 2, k, none⟩) (Nat.le_add_right _ _) _).setCell (p := ⟨w.heap.size + 2, k, none⟩) (Nat.le_add_right _ _) _) ⟨rfl, rfl, rfl, rfl⟩ ⟨rfl, rfl, rfl, rfl⟩⟩
        case measure => simp [intOf]; omega
    · obtain rfl : k = 16 := by omega
      have hb15 := HC.out.get 15
      have hb0 := (rrun_row HC.out 16).get 0
      have hc15 := HTT.out.cell (i := 15) (by have := HLC.out; omega)
      have hcell := HX.out.cell (i := 0) (by have := HL.out; omega)
      have hfr := HX.out.frozen 0
      have HT := Lib.hid (show rtwice c = if c.getD 15 0 / 128 = 1 then (rrun c 16).set 0 ((rrun c 16).getD 0 0 ^^^ 135) else rrun c 16 from rfl)
      generalize rrun c 16 = d at *
      generalize c.getD 15 0 = y at *
      generalize d.getD 0 0 = x at *
      clear ht hz hx hb
      by_cases h1 : y / 128 = 1
      · have hd : ((y : Int) / 128 == 1) = true := beq_iff_eq.2 (by omega)
        have HT0 := Lib.hid (HT.out.trans (if_pos h1))
        have HR1 := Lib.hid (show Row (wr.setCell ⟨w.heap.size + 2, 0, none⟩ (.int .u8 ((x ^^^ 135 : Nat) : Int))) (w.heap.size + 2) (d.set 0 (x ^^^ 135)) from HX.out.set 0 (x ^^^ 135))
        have HZ1 := Lib.hid (show Row (wr.setCell ⟨w.heap.size + 2, 0, none⟩ (.int .u8 ((x ^^^ 135 : Nat) : Int))) (w.heap.size + 1) (List.replicate 16 0) from HZ.out.far (p := ⟨w.heap.size + 2, 0, none⟩) (by simp) _)
        have HD1 := Lib.hid (show (d.set 0 (x ^^^ 135)).length = 16 by rw [List.length_set]; exact HL.out)
        have hxo : bits .xor .u8 (x : Int) 135 = ((x ^^^ 135 : Nat) : Int) := u8_xor_nat x 135 hb0 (by omega)
        clear h1
        go_wp2_with (first | (refine wpList_load_row rfl 23 _ rfl (w.heap.size + 2) rfl 23 (cells (d.set 0 (x ^^^ 135))) (0, 0) _ HR1.out Try.underlying23 rfl (by rw [cells_size HD1.out]; exact info23) ?_) | (refine wpList_store_row rfl 23 _ _ rfl (w.heap.size + 1) (cells (d.set 0 (x ^^^ 135))) rfl rfl 23 _ HZ1.out (by rw [cells_size HD1.out]; exact info23) (by rw [cells_size HD1.out, cells_size (by simp)]) (all_one _) ?_))
        refine bodyPost_ret (results_cell_row Try.results9 _ _ (w.heap.size + 1) 23 (cells (d.set 0 (x ^^^ 135))) (0, 0) _ rfl (HZ1.out.put _) Try.underlying23 rfl (by rw [cells_size HD1.out]; exact info23)) rfl ⟨by rw [HT0.out], below_row (HB.out.setCell (p := ⟨w.heap.size + 2, 0, none⟩) (Nat.le_add_right _ _) _) (Nat.le_succ _) _⟩
      · have hd : ((y : Int) / 128 == 1) = false := beq_eq_false_iff_ne.2 (by omega)
        have HT0 := Lib.hid (HT.out.trans (if_neg h1))
        clear h1
        go_wp2_with (first | (refine wpList_load_row rfl 23 _ rfl (w.heap.size + 2) rfl 23 (cells d) (0, 0) _ HX.out Try.underlying23 rfl (by rw [cells_size HL.out]; exact info23) ?_) | (refine wpList_store_row rfl 23 _ _ rfl (w.heap.size + 1) (cells d) rfl rfl 23 _ HZ.out (by rw [cells_size HL.out]; exact info23) (by rw [cells_size HL.out, cells_size (by simp)]) (all_one d) ?_))
        refine bodyPost_ret (results_cell_row Try.results9 _ _ (w.heap.size + 1) 23 (cells d) (0, 0) _ rfl (HZ.out.put d) Try.underlying23 rfl (by rw [cells_size HL.out]; exact info23)) rfl ⟨by rw [HT0.out], below_row HB.out (Nat.le_succ _) _⟩
end Go.Proofs.Ytaeamdgifknieab.Tw
