/- Times by contract: the program's and the document's. Conditions: sixteen bytes, an int. -/
import Derived.Test.YtaeamdgifknieabTw
namespace Go.Proofs.Ytaeamdgifknieab.Ti
open Go.RowKit Ar Tw

def times (c : List Nat) : Nat → List Nat
  | 0 => c
  | n + 1 => twice (times c n)
theorem times_row {c : List Nat} (h : Row16 c) (n : Nat) : Row16 (times c n) := by
  induction n with
  | zero => exact h
  | succ n ih => exact twice_row ih
theorem times_times (c : List Nat) (m n : Nat) : times (times c m) n = times c (m + n) := by
  induction n with
  | zero => rfl
  | succ n ih =>
    rw [← Nat.add_assoc]
    exact congrArg twice ih
def cnt (n : Int) : Nat := min n.toNat 4096
theorem two_rows (w : World) (c : List Nat) : Row ((w.alloc (.cells (cells c) 23)).alloc (.cells (cells (List.replicate 16 0)) 23)) (w.heap.size + 1) (List.replicate 16 0) ∧ Row ((w.alloc (.cells (cells c) 23)).alloc (.cells (cells (List.replicate 16 0)) 23)) w.heap.size c :=
  ⟨by simpa using Row.laid (w.alloc (.cells (cells c) 23)) (List.replicate 16 0), (Below.heap_alloc _ _ _ (Row.laid w c).lt).trans (Row.laid w c)⟩
theorem _root_.Go.Proofs.Ytaeamdgifknieab.Tw.Row.row_far {w : World} {b : Nat} {c : List Nat} (h : Row w b c) {g : Nat} (hg : b ≠ g) (cs : Array Value) : Row (w.setRow g cs) b c := (setRow_other w g b cs hg).trans h

set_option maxHeartbeats 1000000 in
theorem times_much (c : List Nat) (hc : Row16 c) (n : Int) (hn : 4096 < n) (m : Nat) (hm : m = 4096) (w : World) : Calls Try.prog 10 #[.agg (cells c), .int .i64 n] w fun e w' => e = .returned (.agg (cells (times c m))) ∧ Below w.heap.size w w' := by
  have HC := Lib.hid hc
  clear hc
  have HM := Lib.hid hm
  clear hm
  go_enter Try.func10, Try.ntmps10
  go_wp2_with fail
  generalize hq : (4096 : Int) = q
  have HQ := Lib.hid hq
  clear hq hn
  go_loopw [8] (fun i wr => ∃ k : Nat, k ≤ m ∧ i = .int .i64 k ∧ Row wr w.heap.size (times c k) ∧ Row wr (w.heap.size + 1) (List.replicate 16 0) ∧ Below w.heap.size w wr) (fun i _ => m - (intOf i).toNat)
  case atStart =>
    have h := two_rows w c
    rw [zeros_cells] at h
    exact ⟨0, Nat.zero_le _, rfl, h.2, h.1, ((Below.refl _ _).alloc (Nat.le_refl _) _).alloc (by simp) _⟩
  case round =>
    obtain ⟨k, hk, rfl, hr, hz, hb⟩ := hrel
    have HR := Lib.hid hr
    have HZ := Lib.hid hz
    have HB := Lib.hid hb
    have HT := Lib.hid (times_row HC.out k)
    have HL := Lib.hid HT.out.1
    have HK := Lib.hid hk
    clear hr hz hb hk
    by_cases hlt : k < m
    · have HLT := Lib.hid hlt
      have h4 : (k : Int) < q := by have := HM.out; have := HQ.out; omega
      have h6 : k < 5000 := by have := HM.out; omega
      clear hlt
      go_wp2_with (refine wpList_load_row rfl 23 _ rfl w.heap.size rfl 23 (cells (times c k)) (0, 0) _ HR.out Try.underlying23 rfl (by rw [cells_size HL.out]; exact info23) ?_)
      refine (twice_any (times c k) HT.out _).mono ?_
      rintro e wx ⟨rfl, hbx⟩
      have HX := Lib.hid hbx
      have HRx := Lib.hid (HR.out.below hbx HR.out.lt)
      have HZx := Lib.hid (HZ.out.below hbx HZ.out.lt)
      have HLx := Lib.hid (show (twice (times c k)).length = 16 from (twice_row HT.out).1)
      clear hbx
      go_wp2_with (refine wpList_store_row rfl 23 _ _ rfl w.heap.size (cells (twice (times c k))) rfl rfl 23 _ HRx.out (by rw [cells_size HLx.out]; exact info23) (by rw [cells_size HL.out, cells_size HLx.out]) (all_one _) ?_)
      go_roundw
      case rel => exact ⟨k + 1, HLT.out, by go_num, HRx.out.put _, HZx.out.row_far (by simp) _, below_row (HB.out.trans (HX.out.mono HB.out.size)) (Nat.le_refl _) _⟩
      case measure => have := HLT.out; simp [intOf]; omega
    · have HE := Lib.hid (show k = m by have := HK.out; omega)
      have h4 : q ≤ (k : Int) := by have := HM.out; have := HQ.out; omega
      clear hlt
      go_wp2_with (first | (refine wpList_load_row rfl 23 _ rfl w.heap.size rfl 23 (cells (times c k)) (0, 0) _ HR.out Try.underlying23 rfl (by rw [cells_size HL.out]; exact info23) ?_) | (refine wpList_store_row rfl 23 _ _ rfl (w.heap.size + 1) (cells (times c k)) rfl rfl 23 _ HZ.out (by rw [cells_size HL.out]; exact info23) (by rw [cells_size HL.out, cells_size (by simp)]) (all_one _) ?_))
      refine bodyPost_ret (results_cell_row Try.results10 _ _ (w.heap.size + 1) 23 (cells (times c k)) (0, 0) _ rfl (HZ.out.put _) Try.underlying23 rfl (by rw [cells_size HL.out]; exact info23)) rfl ⟨by rw [HE.out], below_row HB.out (Nat.le_succ _) _⟩

set_option maxHeartbeats 1000000 in
theorem times_some (c : List Nat) (hc : Row16 c) (n : Nat) (h0 : 0 < n) (hn : n ≤ 4096) (w : World) : Calls Try.prog 10 #[.agg (cells c), .int .i64 n] w fun e w' => e = .returned (.agg (cells (times c n))) ∧ Below w.heap.size w w' := by
  have HC := Lib.hid hc
  clear hc
  go_enter Try.func10, Try.ntmps10
  go_wp2_with fail
  go_loopw [8] (fun i wr => ∃ k : Nat, k ≤ n ∧ i = .int .i64 k ∧ Row wr w.heap.size (times c k) ∧ Row wr (w.heap.size + 1) (List.replicate 16 0) ∧ Below w.heap.size w wr) (fun i _ => n - (intOf i).toNat)
  case atStart =>
    have h := two_rows w c
    rw [zeros_cells] at h
    exact ⟨0, Nat.zero_le _, rfl, h.2, h.1, ((Below.refl _ _).alloc (Nat.le_refl _) _).alloc (by simp) _⟩
  case round =>
    obtain ⟨k, hk, rfl, hr, hz, hb⟩ := hrel
    have HR := Lib.hid hr
    have HZ := Lib.hid hz
    have HB := Lib.hid hb
    have HT := Lib.hid (times_row HC.out k)
    have HL := Lib.hid HT.out.1
    have HK := Lib.hid hk
    clear hr hz hb hk
    by_cases hlt : k < n
    · have HLT := Lib.hid hlt
      go_wp2_with (refine wpList_load_row rfl 23 _ rfl w.heap.size rfl 23 (cells (times c k)) (0, 0) _ HR.out Try.underlying23 rfl (by rw [cells_size HL.out]; exact info23) ?_)
      refine (twice_any (times c k) HT.out _).mono ?_
      rintro e wx ⟨rfl, hbx⟩
      have HX := Lib.hid hbx
      have HRx := Lib.hid (HR.out.below hbx HR.out.lt)
      have HZx := Lib.hid (HZ.out.below hbx HZ.out.lt)
      have HLx := Lib.hid (show (twice (times c k)).length = 16 from (twice_row HT.out).1)
      clear hbx
      go_wp2_with (refine wpList_store_row rfl 23 _ _ rfl w.heap.size (cells (twice (times c k))) rfl rfl 23 _ HRx.out (by rw [cells_size HLx.out]; exact info23) (by rw [cells_size HL.out, cells_size HLx.out]) (all_one _) ?_)
      go_roundw
      case rel => exact ⟨k + 1, HLT.out, by go_num, HRx.out.put _, HZx.out.row_far (by simp) _, below_row (HB.out.trans (HX.out.mono HB.out.size)) (Nat.le_refl _) _⟩
      case measure => have := HLT.out; simp [intOf]; omega
    · have HE := Lib.hid (show k = n by have := HK.out; omega)
      go_wp2_with (first | (refine wpList_load_row rfl 23 _ rfl w.heap.size rfl 23 (cells (times c k)) (0, 0) _ HR.out Try.underlying23 rfl (by rw [cells_size HL.out]; exact info23) ?_) | (refine wpList_store_row rfl 23 _ _ rfl (w.heap.size + 1) (cells (times c k)) rfl rfl 23 _ HZ.out (by rw [cells_size HL.out]; exact info23) (by rw [cells_size HL.out, cells_size (by simp)]) (all_one _) ?_))
      refine bodyPost_ret (results_cell_row Try.results10 _ _ (w.heap.size + 1) 23 (cells (times c k)) (0, 0) _ rfl (HZ.out.put _) Try.underlying23 rfl (by rw [cells_size HL.out]; exact info23)) rfl ⟨by rw [HE.out], below_row HB.out (Nat.le_succ _) _⟩

set_option maxHeartbeats 1000000 in
theorem times_none (c : List Nat) (hc : Row16 c) (n : Int) (hn : n ≤ 0) (w : World) : Calls Try.prog 10 #[.agg (cells c), .int .i64 n] w fun e w' => e = .returned (.agg (cells (times c 0))) ∧ Below w.heap.size w w' := by
  have HC := Lib.hid hc
  clear hc
  go_enter Try.func10, Try.ntmps10
  go_wp2_with fail
  go_loopw [8] (fun i wr => ∃ k : Nat, k ≤ 0 ∧ i = .int .i64 k ∧ Row wr w.heap.size (times c k) ∧ Row wr (w.heap.size + 1) (List.replicate 16 0) ∧ Below w.heap.size w wr) (fun i _ => 0 - (intOf i).toNat)
  case atStart =>
    have h := two_rows w c
    rw [zeros_cells] at h
    exact ⟨0, Nat.zero_le _, rfl, h.2, h.1, ((Below.refl _ _).alloc (Nat.le_refl _) _).alloc (by simp) _⟩
  case round =>
    obtain ⟨k, hk, rfl, hr, hz, hb⟩ := hrel
    have HR := Lib.hid hr
    have HZ := Lib.hid hz
    have HB := Lib.hid hb
    have HT := Lib.hid (times_row HC.out k)
    have HL := Lib.hid HT.out.1
    have HK := Lib.hid hk
    clear hr hz hb hk
    by_cases hlt : k < 0
    · exact absurd hlt (by omega)
    · have HE := Lib.hid (show k = 0 by have := HK.out; omega)
      go_wp2_with (first | (refine wpList_load_row rfl 23 _ rfl w.heap.size rfl 23 (cells (times c k)) (0, 0) _ HR.out Try.underlying23 rfl (by rw [cells_size HL.out]; exact info23) ?_) | (refine wpList_store_row rfl 23 _ _ rfl (w.heap.size + 1) (cells (times c k)) rfl rfl 23 _ HZ.out (by rw [cells_size HL.out]; exact info23) (by rw [cells_size HL.out, cells_size (by simp)]) (all_one _) ?_))
      refine bodyPost_ret (results_cell_row Try.results10 _ _ (w.heap.size + 1) 23 (cells (times c k)) (0, 0) _ rfl (HZ.out.put _) Try.underlying23 rfl (by rw [cells_size HL.out]; exact info23)) rfl ⟨by rw [HE.out], below_row HB.out (Nat.le_succ _) _⟩

theorem times_any (c : List Nat) (hc : Row16 c) (n : Int) (w : World) : Calls Try.prog 10 #[.agg (cells c), .int .i64 n] w fun e w' => e = .returned (.agg (cells (times c (cnt n)))) ∧ Below w.heap.size w w' := by
  by_cases h1 : 4096 < n
  · have e : cnt n = 4096 := by unfold cnt; omega
    exact times_much c hc n h1 _ e w
  · by_cases h2 : n ≤ 0
    · have e : cnt n = 0 := by unfold cnt; omega
      rw [e]
      exact times_none c hc n h2 w
    · have e : cnt n = n.toNat := by unfold cnt; omega
      have e2 : n = (n.toNat : Int) := by omega
      rw [e]
      have h := times_some c hc n.toNat (by omega) (by omega) w
      rw [← e2] at h
      exact h

set_option maxHeartbeats 1000000 in
theorem ref_times_core (c : List Nat) (hc : Row16 c) (n : Int) (m : Nat) (hm : m = cnt n) (w : World) : Calls Try.prog 11 #[.agg (cells c), .int .i64 n] w fun e w' => e = .returned (.agg (cells (times c m))) ∧ Below w.heap.size w w' := by
  have HC := Lib.hid hc
  clear hc
  have HM := Lib.hid hm
  clear hm
  go_enter Try.func11, Try.ntmps11
  go_wp2_with fail
  go_loopw [5] (fun i wr => ∃ k : Nat, k ≤ m ∧ i = .int .i64 k ∧ Row wr w.heap.size (times c k) ∧ Row wr (w.heap.size + 1) (List.replicate 16 0) ∧ Below w.heap.size w wr) (fun i _ => m - (intOf i).toNat)
  case atStart =>
    have h := two_rows w c
    rw [zeros_cells] at h
    exact ⟨0, Nat.zero_le _, rfl, h.2, h.1, ((Below.refl _ _).alloc (Nat.le_refl _) _).alloc (by simp) _⟩
  case round =>
    obtain ⟨k, hk, rfl, hr, hz, hb⟩ := hrel
    have HR := Lib.hid hr
    have HZ := Lib.hid hz
    have HB := Lib.hid hb
    have HT := Lib.hid (times_row HC.out k)
    have HL := Lib.hid HT.out.1
    have HK := Lib.hid hk
    clear hr hz hb hk
    by_cases hlt : k < m
    · have HLT := Lib.hid hlt
      have h4 : (k : Int) < n := by have := HM.out; unfold cnt at this; omega
      have h5 : (k : Int) < 4096 := by have := HM.out; unfold cnt at this; omega
      clear hlt
      go_wp2_with (refine wpList_load_row rfl 23 _ rfl w.heap.size rfl 23 (cells (times c k)) (0, 0) _ HR.out Try.underlying23 rfl (by rw [cells_size HL.out]; exact info23) ?_)
      refine (rtwice_any (times c k) HT.out _).mono ?_
      rintro e wx ⟨rfl, hbx⟩
      have HX := Lib.hid hbx
      have HRx := Lib.hid (HR.out.below hbx HR.out.lt)
      have HZx := Lib.hid (HZ.out.below hbx HZ.out.lt)
      have HLx := Lib.hid (show (rtwice (times c k)).length = 16 by rw [rtwice_eq HT.out]; exact (twice_row HT.out).1)
      clear hbx
      go_wp2_with (refine wpList_store_row rfl 23 _ _ rfl w.heap.size (cells (rtwice (times c k))) rfl rfl 23 _ HRx.out (by rw [cells_size HLx.out]; exact info23) (by rw [cells_size HL.out, cells_size HLx.out]) (all_one _) ?_)
      go_roundw
      case rel => exact ⟨k + 1, HLT.out, by go_num, (by have h := HRx.out.put (rtwice (times c k)); rw [rtwice_eq HT.out] at h ⊢; exact h), HZx.out.row_far (by simp) _, below_row (HB.out.trans (HX.out.mono HB.out.size)) (Nat.le_refl _) _⟩
      case measure => have := HLT.out; simp [intOf]; omega
    · have HE := Lib.hid (show k = m by have := HK.out; omega)
      have HN := Lib.hid hlt
      clear hlt
      by_cases hkn : (k : Int) < n
      · have h5 : decide ((k : Int) < 4096) = false := decide_eq_false (by have := HM.out; have := HN.out; unfold cnt at *; omega)
        go_wp2_with (first | (refine wpList_load_row rfl 23 _ rfl w.heap.size rfl 23 (cells (times c k)) (0, 0) _ HR.out Try.underlying23 rfl (by rw [cells_size HL.out]; exact info23) ?_) | (refine wpList_store_row rfl 23 _ _ rfl (w.heap.size + 1) (cells (times c k)) rfl rfl 23 _ HZ.out (by rw [cells_size HL.out]; exact info23) (by rw [cells_size HL.out, cells_size (by simp)]) (all_one _) ?_))
        refine bodyPost_ret (results_cell_row Try.results11 _ _ (w.heap.size + 1) 23 (cells (times c k)) (0, 0) _ rfl (HZ.out.put _) Try.underlying23 rfl (by rw [cells_size HL.out]; exact info23)) rfl ⟨by rw [HE.out], below_row HB.out (Nat.le_succ _) _⟩
      · go_wp2_with (first | (refine wpList_load_row rfl 23 _ rfl w.heap.size rfl 23 (cells (times c k)) (0, 0) _ HR.out Try.underlying23 rfl (by rw [cells_size HL.out]; exact info23) ?_) | (refine wpList_store_row rfl 23 _ _ rfl (w.heap.size + 1) (cells (times c k)) rfl rfl 23 _ HZ.out (by rw [cells_size HL.out]; exact info23) (by rw [cells_size HL.out, cells_size (by simp)]) (all_one _) ?_))
        refine bodyPost_ret (results_cell_row Try.results11 _ _ (w.heap.size + 1) 23 (cells (times c k)) (0, 0) _ rfl (HZ.out.put _) Try.underlying23 rfl (by rw [cells_size HL.out]; exact info23)) rfl ⟨by rw [HE.out], below_row HB.out (Nat.le_succ _) _⟩
theorem ref_times_any (c : List Nat) (hc : Row16 c) (n : Int) (w : World) : Calls Try.prog 11 #[.agg (cells c), .int .i64 n] w fun e w' => e = .returned (.agg (cells (times c (cnt n)))) ∧ Below w.heap.size w w' :=
  ref_times_core c hc n _ rfl w
end Go.Proofs.Ytaeamdgifknieab.Ti
