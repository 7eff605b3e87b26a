/- AllocPlays' walk: any calls leave used, and tell, what the document says. -/
import Derived.Test.YtkpdmbcefjjfgaaDoorSm
import Derived.Deep.RegionWith
namespace Go.Proofs.YtkpdmbcefjjfgaaDoor.Pl
open Go.RowKit Go.Proofs.YtkpdmbcefjjfgaaDoorW.PrintWords Go.Proofs.YtkpdmbcefjjfgaaDoorW.PrintLast Go.Proofs.YtkpdmbcefjjfgaaDoorW.PrintMore Wd Sa Sb Sc Sd Se Sf Si PAllocPlays Dq Sm

def Pls.T11 : Bool × List (List Nat × List Nat) := (true, [([], []), ([0], [0]), ([1], [1]), ([2], [2]), ([2], [2]), ([2], [2]), ([2], [2]), ([5, 6, 2], [2, 5, 6]), ([7, 2], [2, 7]), ([8, 2], [2, 8]), ([3, 4, 9, 2, 2], [2, 3, 4, 9]), ([10, 2], [2, 10]), ([2, 11], [2, 11])])
def Pls.B11 : List Nat := [0, 1, 3, 7, 7, 7, 7, 103, 231, 487, 1023, 2047, 4095]
theorem Pls.tab11 : rtab .any (opsOf Tryd.f8 11) = Pls.T11 := by kernel_rfl
theorem Pls.bits11 : waitsOk Pls.T11.2 Pls.B11 = true := by kernel_rfl
/-- A slice of calls that came in. -/
def Acts (w : World) (A : Option Addr) (l : List (Nat × Nat)) : Prop :=
  ∀ (j : Nat) (a : Nat × Nat), l[j]? = some a → a.1 < 256 ∧ a.2 < 4294967296 ∧ ∃ b off, A = some ⟨b, off, none⟩ ∧ b < w.heap.size ∧ w.cell? ⟨b, off + j * 2, none⟩ = some (.int .u8 (a.1 : Int)) ∧ w.cell? ⟨b, off + j * 2 + 1, none⟩ = some (.int .u32 (a.2 : Int))
theorem refnew {w : World} (t : Int) : Calls Tryd.prog 11 #[.int .i64 t] w fun e w' => ∃ rv, e = .returned (.agg #[.int .i64 (totOf t : Nat), rv]) ∧ Rv w.heap.size w' rv [] ∧ Below w.heap.size w w' :=
  (reliquaryref17_New.calls t (totOf t : Nat) [] w (Rp.new_f t)).mono fun _ _ ⟨v, he, hr, hb⟩ => ⟨v, he, Kd.R_tight rfl hr, hb⟩

structure St (w W : World) (sb wb T : Nat) (rv : Value) (L : List Nat) : Prop where
  set : SetAt W sb wb T L
  tab : Tab W
  bel : Below w.heap.size w W
  rv : Rv w.heap.size W rv L
theorem St.store {w W : World} {sb wb T g : Nat} {rv : Value} {L : List Nat} (h : St w W sb wb T rv L) (hgw : w.heap.size ≤ g) (h0 : 0 < g) (h1 : sb ≠ g) (h2 : wb ≠ g) (h3 : some g ≠ rv.ownBlock) (i : Nat) (u : Value) : St w (W.setCell ⟨g, i, none⟩ u) sb wb T rv L where
  set := h.set.kept (Kept.setCell (Kept.refl W (fun k => k = g)) (p := ⟨g, i, none⟩) (.inl rfl) u) h1 h2
  tab := h.tab.kept (Kept.setCell (Kept.refl W (fun k => k = g)) (p := ⟨g, i, none⟩) (.inl rfl) u) (by omega)
  bel := h.bel.setCell (p := ⟨g, i, none⟩) hgw u
  rv := h.rv.kept (Kept.setCell (Kept.refl W (fun k => k = g)) (p := ⟨g, i, none⟩) (.inl rfl) u) (fun _ hk => hk ▸ h3)
theorem St.of {w wr wx : World} {sb wb T : Nat} {rv : Value} {L : List Nat} (h : Dq.End w.heap.size wr wx sb wb T rv L) (hb : Below w.heap.size w wr) (ht : Tab wr) (h0 : 0 < w.heap.size) (h1 : w.heap.size ≤ sb) (h2 : w.heap.size ≤ wb) : St w wx sb wb T rv L :=
  ⟨h.set, Tab.keep ht h.keep (two_no (by omega) (by omega)), h.keep.below hb hb.size (two_ge h1 h2), h.rv⟩
set_option linter.unusedVariables false
set_option linter.unusedSimpArgs false
set_option maxRecDepth 100000 in
set_option maxHeartbeats 4000000 in
theorem plays (t : Int) (A : Option Addr) (cap : Nat) (l : List (Nat × Nat)) {w : World} (hl : Acts w A l) (hlen : l.length ≤ maxLen) (ht : Tab w) :
    Calls Tryd.prog 8 #[.int .i64 t, .slice A l.length cap] w fun e w' => e = .returned (.bool true) ∧ Below w.heap.size w w' := by
  unfold maxLen at hlen
  have hu29 := Tryd.underlying29
  have h0 := Tab.pos ht
  have HT := Lib.hid ht
  have HL := Lib.hid hl
  clear ht hl
  by_cases hbig : 200 < l.length
  · go_enter Tryd.func8, Tryd.ntmps8
    go_wp2_with fail
    refine (awake_any HT.out).mono ?_
    rintro e w' ⟨rfl, hb⟩
    have HB := Lib.hid hb
    clear hb
    go_wp2_with fail
    go_ret
    exact ⟨rfl, HB.out⟩
  have hsm : l.length ≤ 200 := by omega
  clear hbig
  go_enter Tryd.func8, Tryd.ntmps8
  go_wp2_with fail
  refine (new_any t w).mono ?_
  rintro e w1 ⟨sb, wb, rfl, hs, hb, h1, h2⟩
  have HS := Lib.hid hs
  have HB := Lib.hid hb
  have HT1 := Lib.hid (Tab.below HT.out hb h0)
  obtain ⟨T, hTot⟩ : ∃ T, totOf t = T := ⟨_, rfl⟩
  clear hs hb HT
  go_wp2_with fail
  refine (refnew t).mono ?_
  rintro e w2 ⟨rv, rfl, hr, hb2⟩
  rw [hTot]
  rw [hTot] at HS
  have hlt := SetAt.lt HS.out
  obtain ⟨A1, c1, rfl⟩ := Kd.R_slice hr
  have HS2 := Lib.hid (SetAt.below HS.out hb2 hlt.1 hlt.2)
  have HT2 := Lib.hid (Tab.below HT1.out hb2 (Tab.pos HT1.out))
  have HB2 := Lib.hid (HB.out.trans (hb2.mono HB.out.size))
  have HR2 := Lib.hid (show Rv w.heap.size w2 (.slice A1 (ints []).length c1) [] from Kd.R_lower hr HB.out.size)
  have hlt2 := SetAt.lt HS2.out
  obtain ⟨g, hg⟩ : ∃ g, w2.heap.size = g := ⟨_, rfl⟩
  have hgw : w.heap.size ≤ g := by have := HB2.out.size; omega
  have hgs : sb < g ∧ wb < g := by omega
  have hbox := below_alloc (Below.refl w2.heap.size w2) (.cells #[.int .i64 T, .slice A1 (ints []).length c1] 29)
  have HG3 := Lib.hid (show (w2.alloc (.cells #[.int .i64 T, .slice A1 (ints []).length c1] 29)).heap[g]? = some (.cells #[.int .i64 T, .slice A1 (ints []).length c1] 29 (0, 0)) from hg ▸ blk_new w2 _)
  have HS3 := Lib.hid (SetAt.below HS2.out hbox hlt2.1 hlt2.2)
  have HT3 := Lib.hid (Tab.below HT2.out hbox (Tab.pos HT2.out))
  have HB3 := Lib.hid (HB2.out.trans (hbox.mono HB2.out.size))
  have HR3 := Lib.hid (HR2.out.below hbox)
  clear hr hb2 hlt HS HB HT1 hTot hbox hlt2 HS2 HT2 HB2 HR2
  go_wp2_with fail
  refine (same_any HT3.out HS3.out HR3.out (n := 0) (by decide)).mono ?_
  rintro e w4 ⟨rfl, hb4⟩
  have hlt3 := SetAt.lt HS3.out
  have HG4 := Lib.hid (blk_below HG3.out hb4)
  have HS4 := Lib.hid (SetAt.below HS3.out hb4 hlt3.1 hlt3.2)
  have HT4 := Lib.hid (Tab.below HT3.out hb4 (Tab.pos HT3.out))
  have HB4 := Lib.hid (HB3.out.trans (hb4.mono HB3.out.size))
  have HR4 := Lib.hid (HR3.out.below hb4)
  clear hb4 hlt3 HG3 HS3 HT3 HB3 HR3 hg
  go_wp2_with fail
  go_loopw [7, 8] (fun v7 v8 wr => ∃ (i : Nat) (L : List Nat) (A1 : Option Addr) (c1 : Nat), v7 = .bool true ∧ v8 = .int .i64 i ∧ i ≤ l.length ∧ Go.RowKit.Hid (wr.heap[g]? = some (.cells #[.int .i64 T, .slice A1 (ints L).length c1] 29 (0, 0))) ∧ Go.RowKit.Hid (SetAt wr sb wb T L) ∧ Go.RowKit.Hid (Tab wr) ∧ Go.RowKit.Hid (Below w.heap.size w wr) ∧ Go.RowKit.Hid (Rv w.heap.size wr (.slice A1 (ints L).length c1) L)) (fun _ v _ => l.length - (intOf v).toNat)
  case atStart => exact ⟨0, [], A1, c1, rfl, rfl, Nat.zero_le _, HG4, HS4, HT4, HB4, HR4⟩
  case round =>
    clear HG4 HS4 HT4 HB4 HR4
    obtain ⟨i, L, A1, c1, rfl, rfl, hi, hgg, hs, ht, hb, hr⟩ := hrel
    by_cases hlt : i < l.length
    · obtain ⟨a, ha⟩ : ∃ a, l[i]? = some a := ⟨_, List.getElem?_eq_getElem hlt⟩
      obtain ⟨k, n⟩ := a
      obtain ⟨hk, hn, bb, off, hA, hbl, hc0, hc1⟩ := HL.out i _ ha
      have ca0 : wr.cell? ⟨bb, off + i * 2, none⟩ = some (.int .u8 (k : Int)) := (hb.out.cell (p := ⟨bb, off + i * 2, none⟩) hbl).trans hc0
      have ca1 : wr.cell? ⟨bb, off + i * 2 + 1, none⟩ = some (.int .u32 (n : Int)) := (hb.out.cell (p := ⟨bb, off + i * 2 + 1, none⟩) hbl).trans hc1
      have c0 : wr.cell? ⟨g, 0, none⟩ = some (.int .i64 T) := (blk_cell hgg.out 0).trans rfl
      have c1' : wr.cell? ⟨g, 1, none⟩ = some (.slice A1 (ints L).length c1) := (blk_cell hgg.out 1).trans rfl
      have HC0 := Lib.hid hc0
      have HC1 := Lib.hid hc1
      have HBL := Lib.hid hbl
      have hk' : k < 256 := hk
      have hn' : n < 4294967296 := hn
      subst hA
      clear ha hc0 hc1 hbl hk hn
      go_upto_region 10 with fail
      go_cut [7] from 25 to 53 (fun s7 wx => s7 = .bool true ∧ ∃ (L : List Nat) (A1 : Option Addr) (c1 : Nat), Go.RowKit.Hid (wx.heap[g]? = some (.cells #[.int .i64 T, .slice A1 (ints L).length c1] 29 (0, 0))) ∧ Go.RowKit.Hid (SetAt wx sb wb T L) ∧ Go.RowKit.Hid (Tab wx) ∧ Go.RowKit.Hid (Below w.heap.size w wx) ∧ Go.RowKit.Hid (Rv w.heap.size wx (.slice A1 (ints L).length c1) L))
      case first =>
        go_region_with (
          go_at_call 12
          refine (do_any (w0 := w) (w := wr.drew) (rv := .slice A1 (ints L).length c1) ht.out hs.out hr.out hb.out.drew h1 h2 hk' hn').mono ?_
          rintro e wx ⟨rv', rfl, hend⟩
          obtain ⟨A2, c2, rfl⟩ := Kd.R_slice hend.rv
          have hgx := blk_kept (W := wr.drew) hgg.out hend.keep.kept (fun h => by rcases h with h | h <;> omega)
          have c0x : wx.cell? ⟨g, 0, none⟩ = some (.int .i64 T) := (blk_cell hgx 0).trans rfl
          have c1x : wx.cell? ⟨g, 1, none⟩ = some (.slice A1 (ints L).length c1) := (blk_cell hgx 1).trans rfl
          have f0x := blk_frozen hgx 0
          have f1x := blk_frozen hgx 1
          have HGX := Lib.hid hgx
          have HEND := Lib.hid hend
          clear hend hgx)
        all_goals (go_wp2_with fail; go_meet)
        all_goals have hst := St.store (St.store (St.of HEND.out hb.out.drew ht.out h0 h1 h2) hgw (by omega) (by omega) (by omega) (HEND.out.rv.ne HGX.out (by decide)) 0 (.int .i64 T)) hgw (by omega) (by omega) (by omega) (HEND.out.rv.ne HGX.out (by decide)) 1 (.slice A2 (ints (stepOf T L k n)).length c2)
        all_goals have hgz := blk_put (cs' := #[.int .i64 T, .slice A2 (ints (stepOf T L k n)).length c2]) (blk_put (cs' := #[.int .i64 T, .slice A1 (ints L).length c1]) HGX.out 0 (.int .i64 T) rfl) 1 (.slice A2 (ints (stepOf T L k n)).length c2) rfl
        all_goals exact ⟨rfl, _, _, _, Lib.hid hgz, Lib.hid hst.set, Lib.hid hst.tab, Lib.hid (Se.below_of hst.bel ⟨rfl, rfl, rfl, rfl⟩ ⟨rfl, rfl, rfl, rfl⟩), Lib.hid hst.rv⟩
      case rest =>
        clear ca0 ca1 c0 c1' hgg hs ht hb hr
        obtain ⟨rfl, L2, A2, c2, hgg, hs, ht, hb, hr⟩ := hcut
        have ca1 : wc.cell? ⟨bb, off + i * 2 + 1, none⟩ = some (.int .u32 (n : Int)) := (hb.out.cell (p := ⟨bb, off + i * 2 + 1, none⟩) HBL.out).trans HC1.out
        have c0 : wc.cell? ⟨g, 0, none⟩ = some (.int .i64 T) := (blk_cell hgg.out 0).trans rfl
        have c1' : wc.cell? ⟨g, 1, none⟩ = some (.slice A2 (ints L2).length c2) := (blk_cell hgg.out 1).trans rfl
        go_upto_region 11 with fail
        have CS := Aside0.mk hs.out
        have C4 := Aside0.mk hgg.out
        have RV := Aside0.mk hr.out
        have TB := Aside0.mk ht.out
        have BL := Aside0.mk hb.out.drew
        have HN := Lib.hid hn'
        clear hs hgg hr ht hb ca1 c0 c1'
        refine start_ (n := 13) (S := fun w' => True) (ds := []) #[false, false, false, false, false, false, false, false, false, false, false, false, false] (by kernel_rfl) rfl rfl trivial (fun hHeld => ?_)
        refine with_tabW Pls.tab11 Pls.bits11 (fun HT_ HW_ => ?_)
        refine inv_at [0, 1, 2, 3, 4, 5, 6, 7, 8, 9, 10, 11, 12] (fun a0_ b a w' => a = putSel a0_ b [(0, 41, .bool true), (1, 42, .bool false), (2, 43, .bool false), (3, 44, .pointer (some ⟨sb, 0, none⟩)), (4, 45, .agg #[.int .i64 (T : Int), .slice A2 (ints L2).length c2]), (5, 46, .slice (some ⟨bb, off, none⟩) l.length cap), (6, 47, .int .i64 (i : Int)), (7, 48, .pointer (some ⟨bb, off + i * 2, none⟩)), (8, 49, .pointer (some ⟨bb, off + i * 2 + 1, none⟩)), (9, 50, .int .u32 (n : Int)), (10, 51, .bool true), (11, 52, .bool false), (12, 53, .bool false)] ∧ (SetAt w' sb wb T L2) ∧ (w'.heap[g]? = some (.cells #[.int .i64 (T : Int), .slice A2 (ints L2).length c2] 29 (0, 0))) ∧ (Dq.Rv w.heap.size w' (.slice A2 (ints L2).length c2) L2) ∧ (Tab w') ∧ (Below w.heap.size w w')) HT_.out HW_.out (by kernel_rfl) (by kernel_rfl) ?_ ?_ ?_
        · exact ⟨by simp only [putSel, Bool.false_eq_true, if_false], CS.out, C4.out, RV.out, TB.out, BL.out⟩
        · skip
          clear BL C4 CS RV TB
          refine steps_cons ?_ ?_
          · rintro b a w' ⟨ha, Q_CS, Q_C4, Q_RV, Q_TB, Q_BL⟩ hb_ hon hoff
            refine ⟨_, rfl, fun K hK => ?_⟩
            have e7 : a.tmps[7]? = some (.bool true) := by rw [ha]; exact (putSel_off rfl).trans rfl
            replace ha := Aside0.mk ha
            have CS := Aside0.mk Q_CS
            have C4 := Aside0.mk Q_C4
            have RV := Aside0.mk Q_RV
            have TB := Aside0.mk Q_TB
            have BL := Aside0.mk Q_BL
            refine value_ (w1 := w') (v := .bool true) (by rfl) rfl ?_ ?_
            · go_simp
              (try simp only [i64_w])
              try rfl
            refine hK.out _ _ ⟨(by rw [ha.out]; exact putSel_upk 0 hb_ rfl rfl rfl), Q_CS, Q_C4, Q_RV, Q_TB, Q_BL⟩
          refine steps_cons ?_ ?_
          · rintro b a w' ⟨ha, Q_CS, Q_C4, Q_RV, Q_TB, Q_BL⟩ hb_ hon hoff
            refine ⟨_, rfl, fun K hK => ?_⟩
            have e41 : a.tmps[41]? = some (.bool true) := by rw [ha]; exact putSel_on (e := (0, 41, .bool true)) 0 rfl rfl (hon 0 (by kernel_rfl)) rfl
            replace ha := Aside0.mk ha
            have CS := Aside0.mk Q_CS
            have C4 := Aside0.mk Q_C4
            have RV := Aside0.mk Q_RV
            have TB := Aside0.mk Q_TB
            have BL := Aside0.mk Q_BL
            refine value_ (w1 := w') (v := .bool false) (by rfl) rfl ?_ ?_
            · go_simp
              (try simp only [i64_w])
              try rfl
            refine hK.out _ _ ⟨(by rw [ha.out]; exact putSel_upk 1 hb_ rfl rfl rfl), Q_CS, Q_C4, Q_RV, Q_TB, Q_BL⟩
          refine steps_cons ?_ ?_
          · rintro b a w' ⟨ha, Q_CS, Q_C4, Q_RV, Q_TB, Q_BL⟩ hb_ hon hoff
            refine ⟨_, rfl, fun K hK => ?_⟩
            have e42 : a.tmps[42]? = some (.bool false) := by rw [ha]; exact putSel_on (e := (1, 42, .bool false)) 1 rfl rfl (hon 1 (by kernel_rfl)) rfl
            replace ha := Aside0.mk ha
            have CS := Aside0.mk Q_CS
            have C4 := Aside0.mk Q_C4
            have RV := Aside0.mk Q_RV
            have TB := Aside0.mk Q_TB
            have BL := Aside0.mk Q_BL
            refine value_ (w1 := w') (v := .bool false) (by rfl) rfl ?_ ?_
            · go_simp
              (try simp only [i64_w])
              try rfl
            refine hK.out _ _ ⟨(by rw [ha.out]; exact putSel_upk 2 hb_ rfl rfl rfl), Q_CS, Q_C4, Q_RV, Q_TB, Q_BL⟩
          refine steps_cons ?_ ?_
          · rintro b a w' ⟨ha, Q_CS, Q_C4, Q_RV, Q_TB, Q_BL⟩ hb_ hon hoff
            refine ⟨_, rfl, fun K hK => ?_⟩
            have e5 : a.tmps[5]? = some (.pointer (some ⟨sb, 0, none⟩)) := by rw [ha]; exact (putSel_off rfl).trans rfl
            have e43 : a.tmps[43]? = some (.bool false) := by rw [ha]; exact putSel_on (e := (2, 43, .bool false)) 2 rfl rfl (hon 2 (by kernel_rfl)) rfl
            replace ha := Aside0.mk ha
            have CS := Aside0.mk Q_CS
            have C4 := Aside0.mk Q_C4
            have RV := Aside0.mk Q_RV
            have TB := Aside0.mk Q_TB
            have BL := Aside0.mk Q_BL
            refine value_ (w1 := w') (v := .pointer (some ⟨sb, 0, none⟩)) (wanted_on rfl rfl rfl (e43.trans (by first | rfl | (simp [*]; done)))) rfl ?_ ?_
            · go_simp
              (try simp only [i64_w])
              try rfl
            refine hK.out _ _ ⟨(by rw [ha.out]; exact putSel_upk 3 hb_ rfl rfl rfl), Q_CS, Q_C4, Q_RV, Q_TB, Q_BL⟩
          refine steps_cons ?_ ?_
          · rintro b a w' ⟨ha, Q_CS, Q_C4, Q_RV, Q_TB, Q_BL⟩ hb_ hon hoff
            refine ⟨_, rfl, fun K hK => ?_⟩
            have e6 : a.tmps[6]? = some (.pointer (some ⟨g, 0, none⟩)) := by rw [ha]; exact (putSel_off rfl).trans rfl
            have e43 : a.tmps[43]? = some (.bool false) := by rw [ha]; exact putSel_on (e := (2, 43, .bool false)) 2 rfl rfl (hon 2 (by kernel_rfl)) rfl
            replace ha := Aside0.mk ha
            have CS := Aside0.mk Q_CS
            have C4 := Aside0.mk Q_C4
            have RV := Aside0.mk Q_RV
            have TB := Aside0.mk Q_TB
            have BL := Aside0.mk Q_BL
            have hc0 : w'.cell? ⟨g, 0, none⟩ = some (.int .i64 (T : Int)) := (blk_cell C4.out 0).trans rfl
            have hc1 : w'.cell? ⟨g, 1, none⟩ = some (.slice A2 (ints L2).length c2) := (blk_cell C4.out 1).trans rfl
            refine value_ (w1 := w') (v := .agg #[.int .i64 (T : Int), .slice A2 (ints L2).length c2]) (wanted_on rfl rfl rfl (e43.trans (by first | rfl | (simp [*]; done)))) rfl ?_ ?_
            · go_simp
              (try simp only [i64_w])
              try rfl
            refine hK.out _ _ ⟨(by rw [ha.out]; exact putSel_upk 4 hb_ rfl rfl rfl), Q_CS, Q_C4, Q_RV, Q_TB, Q_BL⟩
          refine steps_cons ?_ ?_
          · rintro b a w' ⟨ha, Q_CS, Q_C4, Q_RV, Q_TB, Q_BL⟩ hb_ hon hoff
            refine ⟨_, rfl, fun K hK => ?_⟩
            have e1 : a.tmps[1]? = some (.slice (some ⟨bb, off, none⟩) l.length cap) := by rw [ha]; exact (putSel_off rfl).trans rfl
            have e43 : a.tmps[43]? = some (.bool false) := by rw [ha]; exact putSel_on (e := (2, 43, .bool false)) 2 rfl rfl (hon 2 (by kernel_rfl)) rfl
            replace ha := Aside0.mk ha
            have CS := Aside0.mk Q_CS
            have C4 := Aside0.mk Q_C4
            have RV := Aside0.mk Q_RV
            have TB := Aside0.mk Q_TB
            have BL := Aside0.mk Q_BL
            refine value_ (w1 := w') (v := .slice (some ⟨bb, off, none⟩) l.length cap) (wanted_on rfl rfl rfl (e43.trans (by first | rfl | (simp [*]; done)))) rfl ?_ ?_
            · go_simp
              (try simp only [i64_w])
              try rfl
            refine hK.out _ _ ⟨(by rw [ha.out]; exact putSel_upk 5 hb_ rfl rfl rfl), Q_CS, Q_C4, Q_RV, Q_TB, Q_BL⟩
          refine steps_cons ?_ ?_
          · rintro b a w' ⟨ha, Q_CS, Q_C4, Q_RV, Q_TB, Q_BL⟩ hb_ hon hoff
            refine ⟨_, rfl, fun K hK => ?_⟩
            have e8 : a.tmps[8]? = some (.int .i64 (i : Int)) := by rw [ha]; exact (putSel_off rfl).trans rfl
            have e43 : a.tmps[43]? = some (.bool false) := by rw [ha]; exact putSel_on (e := (2, 43, .bool false)) 2 rfl rfl (hon 2 (by kernel_rfl)) rfl
            replace ha := Aside0.mk ha
            have CS := Aside0.mk Q_CS
            have C4 := Aside0.mk Q_C4
            have RV := Aside0.mk Q_RV
            have TB := Aside0.mk Q_TB
            have BL := Aside0.mk Q_BL
            refine value_ (w1 := w') (v := .int .i64 (i : Int)) (wanted_on rfl rfl rfl (e43.trans (by first | rfl | (simp [*]; done)))) rfl ?_ ?_
            · go_simp
              (try simp only [i64_w])
              try rfl
            refine hK.out _ _ ⟨(by rw [ha.out]; exact putSel_upk 6 hb_ rfl rfl rfl), Q_CS, Q_C4, Q_RV, Q_TB, Q_BL⟩
          refine steps_cons ?_ ?_
          · rintro b a w' ⟨ha, Q_CS, Q_C4, Q_RV, Q_TB, Q_BL⟩ hb_ hon hoff
            refine ⟨_, rfl, fun K hK => ?_⟩
            have e46 : a.tmps[46]? = some (.slice (some ⟨bb, off, none⟩) l.length cap) := by rw [ha]; exact putSel_on (e := (5, 46, .slice (some ⟨bb, off, none⟩) l.length cap)) 5 rfl rfl (hon 5 (by kernel_rfl)) rfl
            have e47 : a.tmps[47]? = some (.int .i64 (i : Int)) := by rw [ha]; exact putSel_on (e := (6, 47, .int .i64 (i : Int))) 6 rfl rfl (hon 6 (by kernel_rfl)) rfl
            have e43 : a.tmps[43]? = some (.bool false) := by rw [ha]; exact putSel_on (e := (2, 43, .bool false)) 2 rfl rfl (hon 2 (by kernel_rfl)) rfl
            replace ha := Aside0.mk ha
            have CS := Aside0.mk Q_CS
            have C4 := Aside0.mk Q_C4
            have RV := Aside0.mk Q_RV
            have TB := Aside0.mk Q_TB
            have BL := Aside0.mk Q_BL
            refine value_ (w1 := w') (v := .pointer (some ⟨bb, off + i * 2, none⟩)) (wanted_on rfl rfl rfl (e43.trans (by first | rfl | (simp [*]; done)))) rfl ?_ ?_
            · go_simp
              (try simp only [i64_w])
              try rfl
            refine hK.out _ _ ⟨(by rw [ha.out]; exact putSel_upk 7 hb_ rfl rfl rfl), Q_CS, Q_C4, Q_RV, Q_TB, Q_BL⟩
          refine steps_cons ?_ ?_
          · rintro b a w' ⟨ha, Q_CS, Q_C4, Q_RV, Q_TB, Q_BL⟩ hb_ hon hoff
            refine ⟨_, rfl, fun K hK => ?_⟩
            have e48 : a.tmps[48]? = some (.pointer (some ⟨bb, off + i * 2, none⟩)) := by rw [ha]; exact putSel_on (e := (7, 48, .pointer (some ⟨bb, off + i * 2, none⟩))) 7 rfl rfl (hon 7 (by kernel_rfl)) rfl
            have e43 : a.tmps[43]? = some (.bool false) := by rw [ha]; exact putSel_on (e := (2, 43, .bool false)) 2 rfl rfl (hon 2 (by kernel_rfl)) rfl
            replace ha := Aside0.mk ha
            have CS := Aside0.mk Q_CS
            have C4 := Aside0.mk Q_C4
            have RV := Aside0.mk Q_RV
            have TB := Aside0.mk Q_TB
            have BL := Aside0.mk Q_BL
            refine value_ (w1 := w') (v := .pointer (some ⟨bb, off + i * 2 + 1, none⟩)) (wanted_on rfl rfl rfl (e43.trans (by first | rfl | (simp [*]; done)))) rfl ?_ ?_
            · go_simp
              (try simp only [i64_w])
              try rfl
            refine hK.out _ _ ⟨(by rw [ha.out]; exact putSel_upk 8 hb_ rfl rfl rfl), Q_CS, Q_C4, Q_RV, Q_TB, Q_BL⟩
          refine steps_cons ?_ ?_
          · rintro b a w' ⟨ha, Q_CS, Q_C4, Q_RV, Q_TB, Q_BL⟩ hb_ hon hoff
            refine ⟨_, rfl, fun K hK => ?_⟩
            have e49 : a.tmps[49]? = some (.pointer (some ⟨bb, off + i * 2 + 1, none⟩)) := by rw [ha]; exact putSel_on (e := (8, 49, .pointer (some ⟨bb, off + i * 2 + 1, none⟩))) 8 rfl rfl (hon 8 (by kernel_rfl)) rfl
            have e43 : a.tmps[43]? = some (.bool false) := by rw [ha]; exact putSel_on (e := (2, 43, .bool false)) 2 rfl rfl (hon 2 (by kernel_rfl)) rfl
            replace ha := Aside0.mk ha
            have CS := Aside0.mk Q_CS
            have C4 := Aside0.mk Q_C4
            have RV := Aside0.mk Q_RV
            have TB := Aside0.mk Q_TB
            have BL := Aside0.mk Q_BL
            have hca : w'.cell? ⟨bb, off + i * 2 + 1, none⟩ = some (.int .u32 (n : Int)) := (BL.out.cell (p := ⟨bb, off + i * 2 + 1, none⟩) HBL.out).trans HC1.out
            refine value_ (w1 := w') (v := .int .u32 (n : Int)) (wanted_on rfl rfl rfl (e43.trans (by first | rfl | (simp [*]; done)))) rfl ?_ ?_
            · go_simp
              (try simp only [i64_w])
              try rfl
            refine hK.out _ _ ⟨(by rw [ha.out]; exact putSel_upk 9 hb_ rfl rfl rfl), Q_CS, Q_C4, Q_RV, Q_TB, Q_BL⟩
          refine steps_cons ?_ ?_
          · rintro b a w' ⟨ha, Q_CS, Q_C4, Q_RV, Q_TB, Q_BL⟩ hb_ hon hoff
            refine ⟨_, rfl, fun K hK => ?_⟩
            have e44 : a.tmps[44]? = some (.pointer (some ⟨sb, 0, none⟩)) := by rw [ha]; exact putSel_on (e := (3, 44, .pointer (some ⟨sb, 0, none⟩))) 3 rfl rfl (hon 3 (by kernel_rfl)) rfl
            have e45 : a.tmps[45]? = some (.agg #[.int .i64 (T : Int), .slice A2 (ints L2).length c2]) := by rw [ha]; exact putSel_on (e := (4, 45, .agg #[.int .i64 (T : Int), .slice A2 (ints L2).length c2])) 4 rfl rfl (hon 4 (by kernel_rfl)) rfl
            have e50 : a.tmps[50]? = some (.int .u32 (n : Int)) := by rw [ha]; exact putSel_on (e := (9, 50, .int .u32 (n : Int))) 9 rfl rfl (hon 9 (by kernel_rfl)) rfl
            have e43 : a.tmps[43]? = some (.bool false) := by rw [ha]; exact putSel_on (e := (2, 43, .bool false)) 2 rfl rfl (hon 2 (by kernel_rfl)) rfl
            replace ha := Aside0.mk ha
            have CS := Aside0.mk Q_CS
            have C4 := Aside0.mk Q_C4
            have RV := Aside0.mk Q_RV
            have TB := Aside0.mk Q_TB
            have BL := Aside0.mk Q_BL
            refine goes_ Tryd.func14 (by kernel_rfl) rfl #[.pointer (some ⟨sb, 0, none⟩), .agg #[.int .i64 (T : Int), .slice A2 (ints L2).length c2], .int .u32 (n : Int)] (wanted_on rfl rfl rfl (e43.trans (by first | rfl | (simp [*]; done)))) rfl rfl (by first | (simp only [List.map_toArray, List.map_cons, List.map_nil, Act.eval, Array.getD_eq_getD_getElem?, Option.getD_some, e44, e45, e50, e43]; done) | (simp only [List.map_toArray, List.map_cons, List.map_nil, Act.eval, Array.getD_eq_getD_getElem?, Option.getD_some, e44, e45, e50, e43]; rfl)) ?_
            refine (same_any TB.out CS.out RV.out HN.out).mono ?_
            rintro e_ wx ⟨rfl, hbx⟩
            refine ⟨_, rfl, ?_⟩
            refine hK.out _ _ ⟨(by rw [ha.out]; exact putSel_upk 10 hb_ rfl rfl rfl), SetAt.below CS.out hbx (SetAt.lt CS.out).1 (SetAt.lt CS.out).2, blk_below C4.out hbx, RV.out.below hbx, Tab.below TB.out hbx (Tab.pos TB.out), BL.out.trans (hbx.mono BL.out.size)⟩
          refine steps_cons ?_ ?_
          · rintro b a w' ⟨ha, Q_CS, Q_C4, Q_RV, Q_TB, Q_BL⟩ hb_ hon hoff
            refine ⟨_, rfl, fun K hK => ?_⟩
            have e51 : a.tmps[51]? = some (.bool true) := by rw [ha]; exact putSel_on (e := (10, 51, .bool true)) 10 rfl rfl (hon 10 (by kernel_rfl)) rfl
            have e43 : a.tmps[43]? = some (.bool false) := by rw [ha]; exact putSel_on (e := (2, 43, .bool false)) 2 rfl rfl (hon 2 (by kernel_rfl)) rfl
            replace ha := Aside0.mk ha
            have CS := Aside0.mk Q_CS
            have C4 := Aside0.mk Q_C4
            have RV := Aside0.mk Q_RV
            have TB := Aside0.mk Q_TB
            have BL := Aside0.mk Q_BL
            refine value_ (w1 := w') (v := .bool false) (wanted_on rfl rfl rfl (e43.trans (by first | rfl | (simp [*]; done)))) rfl ?_ ?_
            · go_simp
              (try simp only [i64_w])
              try rfl
            refine hK.out _ _ ⟨(by rw [ha.out]; exact putSel_upk 11 hb_ rfl rfl rfl), Q_CS, Q_C4, Q_RV, Q_TB, Q_BL⟩
          refine steps_cons ?_ ?_
          · rintro b a w' ⟨ha, Q_CS, Q_C4, Q_RV, Q_TB, Q_BL⟩ hb_ hon hoff
            refine ⟨_, rfl, fun K hK => ?_⟩
            have e43 : a.tmps[43]? = some (.bool false) := by rw [ha]; exact putSel_on (e := (2, 43, .bool false)) 2 rfl rfl (hon 2 (by kernel_rfl)) rfl
            have e52 : a.tmps[52]? = some (.bool false) := by rw [ha]; exact putSel_on (e := (11, 52, .bool false)) 11 rfl rfl (hon 11 (by kernel_rfl)) rfl
            replace ha := Aside0.mk ha
            have CS := Aside0.mk Q_CS
            have C4 := Aside0.mk Q_C4
            have RV := Aside0.mk Q_RV
            have TB := Aside0.mk Q_TB
            have BL := Aside0.mk Q_BL
            refine value_ (w1 := w') (v := .bool false) (by rfl) rfl ?_ ?_
            · go_simp
              (try simp only [i64_w])
              try rfl
            refine hK.out _ _ ⟨(by rw [ha.out]; exact putSel_upk 12 hb_ rfl rfl rfl), Q_CS, Q_C4, Q_RV, Q_TB, Q_BL⟩
          exact steps_nil
        · rintro b a w' hall ⟨ha, Q_CS, Q_C4, Q_RV, Q_TB, Q_BL⟩
          clear BL C4 CS RV TB
          have hb0_ := hall 0 (by kernel_rfl)
          have hb1_ := hall 1 (by kernel_rfl)
          have hb2_ := hall 2 (by kernel_rfl)
          have hb3_ := hall 3 (by kernel_rfl)
          have hb4_ := hall 4 (by kernel_rfl)
          have hb5_ := hall 5 (by kernel_rfl)
          have hb6_ := hall 6 (by kernel_rfl)
          have hb7_ := hall 7 (by kernel_rfl)
          have hb8_ := hall 8 (by kernel_rfl)
          have hb9_ := hall 9 (by kernel_rfl)
          have hb10_ := hall 10 (by kernel_rfl)
          have hb11_ := hall 11 (by kernel_rfl)
          have hb12_ := hall 12 (by kernel_rfl)
          subst ha
          simp only [putSel, hb0_, hb1_, hb2_, hb3_, hb4_, hb5_, hb6_, hb7_, hb8_, hb9_, hb10_, hb11_, hb12_, if_true, Act.put, List.setIfInBounds_toArray, List.set_cons_zero, List.set_cons_succ]
          have CS := Aside0.mk Q_CS
          clear Q_CS
          have C4 := Aside0.mk Q_C4
          clear Q_C4
          have RV := Aside0.mk Q_RV
          clear Q_RV
          have TB := Aside0.mk Q_TB
          clear Q_TB
          have BL := Aside0.mk Q_BL
          clear Q_BL
          clear hall hb0_ hb1_ hb2_ hb3_ hb4_ hb5_ hb6_ hb7_ hb8_ hb9_ hb10_ hb11_ hb12_
          have HS9 := Lib.hid CS.out
          have HG9 := Lib.hid C4.out
          have HR9 := Lib.hid RV.out
          have HT9 := Lib.hid TB.out
          have HB9 := Lib.hid BL.out
          clear CS C4 RV TB BL
          go_wp2_with fail
          exact ⟨⟨i + 1, L2, A2, c2, rfl, rfl, by omega, HG9, HS9, HT9, HB9, HR9⟩, by simp only [intOf]; omega⟩
    · go_wp2_with fail
      refine (awake_any ht.out).mono ?_
      rintro e w5 ⟨rfl, hb5⟩
      have HB5 := Lib.hid (hb.out.trans (hb5.mono hb.out.size))
      clear hb5
      go_wp2_with fail
      go_ret
      exact ⟨rfl, HB5.out⟩
end Go.Proofs.YtkpdmbcefjjfgaaDoor.Pl
