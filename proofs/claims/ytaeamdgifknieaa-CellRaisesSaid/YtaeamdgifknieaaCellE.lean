/- CellRaises' walk: any calls leave the value that the document says, with the answers that it says. Conditions: what the arguments' readings give. -/
import Derived.Test.YtaeamdgifknieaaCellD
import Derived.Deep.QuietTactic
import Derived.BigQuiet
import Derived.Deep.DeepCutAuto
namespace Go.Proofs.Ytaeamdgifknieaa.CellE
open Go.RowKit CellA CellB CellD

/-- The reference's cell at block b: a value and a count. -/
def Rec (w : World) (b : Nat) (v r : Int) : Prop := w.heap[b]? = some (.cells #[.int .u64 v, .int .i64 r] 32 (0, 0))
theorem bcell {W w1 : World} (hb : Below W.heap.size W w1) : (∀ b o, b < W.heap.size → w1.cell? ⟨b, o, none⟩ = W.cell? ⟨b, o, none⟩) ∧ (∀ b o, b < W.heap.size → w1.frozen? ⟨b, o, none⟩ = W.frozen? ⟨b, o, none⟩) :=
  ⟨fun b o h => hb.cell (p := ⟨b, o, none⟩) h, fun b o h => hb.frozen (p := ⟨b, o, none⟩) h⟩
section
variable {w w' : World} {b : Nat} {v r : Int}
theorem Rec.lt (h : Rec w b v r) : b < w.heap.size := by
  rcases Nat.lt_or_ge b w.heap.size with hlt | hge
  · exact hlt
  · unfold Rec at h; rw [Array.getElem?_eq_none hge] at h; cases h
theorem Rec.c0 (h : Rec w b v r) : w.cell? ⟨b, 0, none⟩ = some (.int .u64 v) := cell_of_row w b 0 _ 32 (0, 0) h
theorem Rec.c1 (h : Rec w b v r) : w.cell? ⟨b, 1, none⟩ = some (.int .i64 r) := cell_of_row w b 1 _ 32 (0, 0) h
theorem Rec.frozen (h : Rec w b v r) (i : Nat) : w.frozen? ⟨b, i, none⟩ = false := by
  unfold Rec at h
  simp [World.frozen?, h]
theorem rec_set {a c : Int} (h : Rec w b a c) (v r : Int) : Rec ((w.setCell ⟨b, 0, none⟩ (.int .u64 v)).setCell ⟨b, 1, none⟩ (.int .i64 r)) b v r := by
  unfold Rec at h ⊢
  simp [World.setCell, Array.getElem?_modify, h]
theorem below_of {B : Nat} {a c a' c' : World} (h : Below B a c) (h1 : a'.os = a.os ∧ a'.tape = a.tape ∧ a'.output = a.output ∧ a'.heap = a.heap) (h2 : c'.os = c.os ∧ c'.tape = c.tape ∧ c'.output = c.output ∧ c'.heap = c.heap) : Below B a' c' :=
  ⟨by rw [h1.1, h2.1]; exact h.os, by rw [h1.2.1, h2.2.1]; exact h.tape, by rw [h1.2.2.1, h2.2.2.1]; exact h.output, by rw [h1.2.2.2, h2.2.2.2]; exact h.size, by rw [h1.2.2.2, h2.2.2.2]; exact h.block⟩
theorem Rec.laid (w : World) (v r : Int) : Rec (w.alloc (.cells #[.int .u64 v, .int .i64 r] 32)) w.heap.size v r := heap_alloc_new w _
end

theorem quiet_left {P : Program} {f : FuncId} {args : Array Value} {w : World} {n : Nat} {v : Value}
    (h : Calls P f args (w.drewN n) fun e w' => e = .returned v ∧ w.drewN n = w') : Calls P f args (w.drewN n) fun e w'' => e = .returned v ∧ ∃ m, w'' = w.drewN m :=
  h.mono fun _ _ ⟨he, hm⟩ => ⟨he, n, hm.symm⟩
theorem fin_new {w1 wx : World} (v r : Int) (hb : Below w1.heap.size w1 wx) : Rec (wx.alloc (.cells #[.int .u64 v, .int .i64 r] 32)) wx.heap.size v r ∧ Below w1.heap.size w1 (wx.alloc (.cells #[.int .u64 v, .int .i64 r] 32)) :=
  ⟨Rec.laid _ _ _, hb.alloc hb.size _⟩
theorem fin_set {w1 wx : World} (v r : Int) (hb : Below (w1.alloc (.cells #[.int .u64 0, .int .i64 0] 32)).heap.size (w1.alloc (.cells #[.int .u64 0, .int .i64 0] 32)) wx) :
    Rec ((wx.setCell ⟨w1.heap.size, 0, none⟩ (.int .u64 v)).setCell ⟨w1.heap.size, 1, none⟩ (.int .i64 r)) w1.heap.size v r ∧ Below w1.heap.size w1 ((wx.setCell ⟨w1.heap.size, 0, none⟩ (.int .u64 v)).setCell ⟨w1.heap.size, 1, none⟩ (.int .i64 r)) := by
  have h0 : Rec wx w1.heap.size 0 0 := (hb.block _ (by simp)).trans (Rec.laid w1 0 0)
  refine ⟨rec_set h0 v r, ?_⟩
  have h1 : Below w1.heap.size w1 wx := ((Below.refl _ _).alloc (Nat.le_refl _) _).trans (hb.mono (by simp))
  exact (h1.setCell (p := ⟨w1.heap.size, 0, none⟩) (Nat.le_refl _) _).setCell (p := ⟨w1.heap.size, 1, none⟩) (Nat.le_refl _) _

set_option maxHeartbeats 1000000 in
theorem raises (n : Int) (A : Option Addr) (len cap : Nat) (zs : List Int) (w : World) (hn : U64 n) (hz : Nums w A len zs) (hlen : len ≤ maxLen) :
    Calls Try.prog 4 #[.int .u64 n, .slice A len cap] w fun e w' => e = .returned (.bool true) ∧ Below w.heap.size w w' := by
  unfold maxLen at hlen
  have HN := Lib.hid hn
  clear hn
  have HZ := Lib.hid hz
  clear hz
  go_enter Try.func4, Try.ntmps4
  go_wp2_with fail
  refine (new_any _ _).mono ?_
  rintro e w' ⟨rfl, rfl⟩
  go_wp2_with fail
  go_loopw [7] (fun i wr => ∃ (k : Nat) (v r : Int), k ≤ len ∧ i = .int .i64 k ∧ U64 v ∧ 0 ≤ r ∧ r ≤ k ∧ Cell wr w.heap.size v r ∧ Rec wr (w.heap.size + 1) v r ∧ Below w.heap.size w wr) (fun i _ => len - (intOf i).toNat)
  case atStart =>
    have h1 : Rec ((w.alloc (.cells #[.int .u64 n, .int .i64 0] 53)).alloc (.cells #[.int .u64 n, .int .i64 0] 32)) (w.heap.size + 1) n 0 := by simpa using Rec.laid (w.alloc (.cells #[.int .u64 n, .int .i64 0] 53)) n 0
    exact ⟨0, n, 0, Nat.zero_le _, rfl, HN.out, by omega, by omega, (Below.heap_alloc _ _ _ (Cell.laid w n 0).lt).trans (Cell.laid w n 0), h1, ((Below.refl _ _).alloc (Nat.le_refl _) _).alloc (by simp) _⟩
  case round =>
    obtain ⟨k, v, r, hk, rfl, hv, hr0, hr1, hc, hx, hb⟩ := hrel
    have HC := Lib.hid hc
    have HR := Lib.hid hx
    have HB := Lib.hid hb
    have HV := Lib.hid hv
    clear hc hx hb hv
    by_cases hlt : k < len
    · obtain ⟨b, off, x, rfl, hbl, hx, hx64, hcell⟩ := HZ.out.2 k hlt
      have hcell' : wr.cell? ⟨b, off + k, none⟩ = some (.int .u64 x) := (HB.out.cell (p := ⟨b, off + k, none⟩) hbl).trans hcell
      have HX := Lib.hid hx64
      have HE := Lib.hid hcell
      obtain ⟨v', r', f, hs⟩ := step_some v r x HV.out
      have HS := Lib.hid hs
      clear hx hx64 hs hcell
      go_wp2_with fail
      refine (raise_all HS.out HV.out hr0 (by omega) HC.out).mono ?_
      rintro e w1 ⟨rfl, hc1, hg1⟩
      have hbd := HS.out.bounds HV.out hr0
      have HV1 := Lib.hid hbd.1
      have hr0' := hbd.2.1
      have hr1' := hbd.2.2
      have HC1 := Lib.hid hc1
      have hR1 : Rec w1 (w.heap.size + 1) v r := (hg1.block _ HR.out.lt (by simp)).trans HR.out
      have hB1 : Below w.heap.size w w1 := HB.out.grown hg1 HB.out.size (fun g hg => by injection hg; omega)
      have HR1 := Lib.hid hR1
      have HB1 := Lib.hid hB1
      have hcell1 : w1.cell? ⟨b, off + k, none⟩ = some (.int .u64 x) := (HB1.out.cell (p := ⟨b, off + k, none⟩) hbl).trans HE.out
      have c0 := HR1.out.c0
      have c1 := HR1.out.c1
      have f0 := HR1.out.frozen 0
      have f1 := HR1.out.frozen 1
      have hl1 := HR1.out.lt
      have hbl1 : b < w1.heap.size := by omega
      clear hc1 hg1 hbd hR1 hB1 hcell'
      go_upto_region 8 with fail
      go_cut [9, 10] (fun s9 s10 wx => ∃ g : Nat, s9 = .pointer (some ⟨g, 0, none⟩) ∧ s10 = .int .i64 f ∧ w1.heap.size ≤ g ∧ Rec wx g v' r' ∧ Below w1.heap.size w1 wx)
      case first =>
        go_region_with (go_at_call 17; refine (ref_all HS.out HV.out HX.out hr0 (by omega) _).mono ?_; rintro e wx ⟨rfl, hbx⟩; obtain ⟨hcx, hfx⟩ := bcell hbx; have hzx := hbx.size; simp at hzx)
        all_goals (go_wp2_with fail; go_meet)
        all_goals first | exact ⟨_, rfl, rfl, hbx.size, (fin_new v' r' (below_of hbx ⟨rfl, rfl, rfl, rfl⟩ ⟨rfl, rfl, rfl, rfl⟩)).1, below_of (fin_new v' r' (below_of hbx ⟨rfl, rfl, rfl, rfl⟩ ⟨rfl, rfl, rfl, rfl⟩)).2 ⟨rfl, rfl, rfl, rfl⟩ ⟨rfl, rfl, rfl, rfl⟩⟩ | exact ⟨_, rfl, rfl, Nat.le_refl _, (fin_set v' r' (below_of hbx ⟨rfl, rfl, rfl, rfl⟩ ⟨rfl, rfl, rfl, rfl⟩)).1, below_of (fin_set v' r' (below_of hbx ⟨rfl, rfl, rfl, rfl⟩ ⟨rfl, rfl, rfl, rfl⟩)).2 ⟨rfl, rfl, rfl, rfl⟩ ⟨rfl, rfl, rfl, rfl⟩⟩
      case rest =>
        obtain ⟨g, rfl, rfl, hg, hrg, hbg⟩ := hcut
        have hR2 : Rec wc (w.heap.size + 1) v r := (hbg.block _ HR1.out.lt).trans HR1.out
        have hC2 : Cell wc w.heap.size v' r' := (hbg.block _ HC1.out.lt).trans HC1.out
        have hB2 : Below w.heap.size w wc := HB1.out.trans (hbg.mono HB1.out.size)
        have HF := Lib.hid (show Cell ((wc.setCell ⟨w.heap.size + 1, 0, none⟩ (.int .u64 v')).setCell ⟨w.heap.size + 1, 1, none⟩ (.int .i64 r')) w.heap.size v' r' from
          (hC2.far (p := ⟨w.heap.size + 1, 0, none⟩) (by simp) _).far (p := ⟨w.heap.size + 1, 1, none⟩) (by simp) _)
        have HG := Lib.hid (rec_set hR2 v' r')
        have HH := Lib.hid ((hB2.setCell (p := ⟨w.heap.size + 1, 0, none⟩) (Nat.le_succ _) (.int .u64 v')).setCell (p := ⟨w.heap.size + 1, 1, none⟩) (Nat.le_succ _) (.int .i64 r'))
        have g0 := hrg.c0
        have g1 := hrg.c1
        have q0 := hR2.c0
        have q1 := hR2.c1
        have qf0 := hR2.frozen 0
        have qf1 := hR2.frozen 1
        clear hrg hbg hR2 hC2 hB2 hg c0 c1 f0 f1 hl1 hbl1 hcell1 HE HC1 HR1 HB1
        go_upto_region 10 with fail
        have z0 := HG.out.c0
        have z1 := HG.out.c1
        go_quiet (first | (go_at_call 14; exact quiet_left (value_any (HF.out.drewN _))) | (go_at_call 18; exact quiet_left (raised_any (HF.out.drewN _))))
        go_wp2_with fail
        go_roundw
        case rel => exact ⟨k + 1, v', r', by omega, by go_num, HV1.out, hr0', by omega, HF.out.drewN _, HG.out, below_of HH.out ⟨rfl, rfl, rfl, rfl⟩ ⟨rfl, rfl, rfl, rfl⟩⟩
        case measure => simp [intOf]; omega
    · have z0 := HR.out.c0
      go_wp2_with fail
      go_region_with (first | (go_at_call 14; refine (value_any (show Cell wr.drew w.heap.size v r from HC.out)).mono ?_; rintro e w' ⟨rfl, rfl⟩) | (go_at_call 16; refine (awake_any _).mono ?_; rintro e wx ⟨rfl, hbx⟩))
      all_goals go_wp2_with fail
      all_goals go_ret
      all_goals exact ⟨rfl, HB.out.trans ((below_of (a' := wr) (c' := wx) hbx ⟨rfl, rfl, rfl, rfl⟩ ⟨rfl, rfl, rfl, rfl⟩).mono HB.out.size)⟩
end Go.Proofs.Ytaeamdgifknieaa.CellE
