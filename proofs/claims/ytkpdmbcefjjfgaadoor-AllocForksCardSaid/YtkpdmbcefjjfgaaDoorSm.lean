/- same: do the set and the reference's list tell the same? -/
import Derived.Test.YtkpdmbcefjjfgaaDoorDq
import Derived.Test.YtkpdmbcefjjfgaaDoorWInvWords
namespace Go.Proofs.YtkpdmbcefjjfgaaDoor.Sm
open Go.RowKit Go.Proofs.YtkpdmbcefjjfgaaDoorW.PrintWords Go.Proofs.YtkpdmbcefjjfgaaDoorW.PrintLast Go.Proofs.YtkpdmbcefjjfgaaDoorW.PrintMore Wd Sa Sb Sc Sd Se Sf Si PAllocPlays
def Sme.T2 : Bool × List (List Nat × List Nat) := (true, [([], []), ([0], [0]), ([], []), ([2], [2]), ([3], [3]), ([1, 4], [1, 4]), ([5], [5]), ([6], [6]), ([7, 6, 6], [6, 7]), ([6], [6]), ([9, 6], [6, 9]), ([10, 6], [6, 10]), ([8, 11, 6], [6, 8, 11]), ([6, 12], [6, 12]), ([13, 8], [13]), ([14], [14]), ([15, 14, 14], [14, 15]), ([14], [14]), ([17, 14], [14, 17]), ([14], [14]), ([19, 14], [14, 19]), ([20, 14], [14, 20]), ([18, 21, 14], [14, 18, 21]), ([16, 22, 14], [14, 16, 22]), ([14, 23], [14, 23]), ([24, 16], [24]), ([25], [25]), ([26, 25, 25], [25, 26]), ([25], [25]), ([28, 25], [25, 28]), ([27, 29, 25], [25, 27, 29]), ([25, 30], [25, 30]), ([31, 27], [31]), ([32], [32]), ([32], [32]), ([33, 34, 32, 32], [32, 33, 34]), ([32], [32]), ([32], [32]), ([36, 37, 35, 32], [32, 36, 37]), ([35, 38, 32], [32, 35, 38]), ([32, 39], [32, 39])])
def Sme.B2 : List Nat := [0, 1, 0, 4, 12, 31, 63, 127, 255, 127, 639, 1663, 4095, 8191, 16383, 32767, 65535, 32767, 163839, 32767, 557055, 1605631, 4095999, 8388607, 16777215, 33554431, 67108863, 134217727, 67108863, 335544319, 1073741823, 2147483647, 4294967295, 8589934591, 8589934591, 34359738367, 8589934591, 8589934591, 274877906943, 549755813887, 1099511627775]
theorem Sme.tab2 : rtab .any (opsOf Tryd.f14 2) = Sme.T2 := by kernel_rfl
theorem Sme.bits2 : waitsOk Sme.T2.2 Sme.B2 = true := by kernel_rfl
theorem used_b {w : World} {sb wb T : Nat} {L : List Nat} (h : SetAt w sb wb T L) : Calls Tryd.prog 19 #[.pointer (some ⟨sb, 0, none⟩)] w fun e w' => e = .returned (.int .i64 L.length) ∧ Below w.heap.size w w' :=
  (used_any h).mono fun _ _ ⟨he, hw⟩ => ⟨he, hw ▸ Below.refl _ _⟩
theorem total_b {w : World} {sb wb T : Nat} {L : List Nat} (h : SetAt w sb wb T L) : Calls Tryd.prog 21 #[.pointer (some ⟨sb, 0, none⟩)] w fun e w' => e = .returned (.int .i64 T) ∧ Below w.heap.size w w' :=
  (total_any h).mono fun _ _ ⟨he, hw⟩ => ⟨he, hw ▸ Below.refl _ _⟩
theorem free_b {w : World} {sb wb T f : Nat} {L : List Nat} (h : SetAt w sb wb T L) (hf : T = L.length + f) : Calls Tryd.prog 20 #[.pointer (some ⟨sb, 0, none⟩)] w fun e w' => e = .returned (.int .i64 f) ∧ Below w.heap.size w w' :=
  (free_any h).mono fun _ _ ⟨he, hk⟩ => ⟨by rw [he]; congr 2; omega, hk.below (Below.refl _ _) (Nat.le_refl _) (fun _ h => h.elim)⟩
theorem has_b {w : World} {sb wb T : Nat} {L : List Nat} (h : SetAt w sb wb T L) (n : Nat) (hn : n < 4294967296) {d : Bool} (hd : decide (n ∈ L) = d) :
    Calls Tryd.prog 18 #[.pointer (some ⟨sb, 0, none⟩), .int .u32 n] w fun e w' => e = .returned (.bool d) ∧ Below w.heap.size w w' :=
  (has_any h n hn).mono fun _ _ ⟨he, hw⟩ => ⟨hd ▸ he, hw ▸ Below.refl _ _⟩
theorem refhas_b {B T c1 : Nat} {w : World} {A1 : Option Addr} {L : List Nat} (h : Dq.Rv B w (.slice A1 (ints L).length c1) L) (hL : L.Pairwise (· < ·) ∧ L.length ≤ 65536) (n : Nat) {d : Bool} (hd : decide (n ∈ L) = d) :
    Calls Tryd.prog 26 #[.agg #[.int .i64 T, .slice A1 (ints L).length c1], .int .u32 n] w fun e w' => e = .returned (.bool d) ∧ Below w.heap.size w w' := by
  obtain ⟨_, h2, h3⟩ := Kd.R_reads' h
  exact reliquaryref17_Set_Has.calls (L.length + 1) T A1 c1 (ints L) n d w h3 h2 (by rw [Rp.has_f T n L hL.1 hL.2 _ (Nat.lt_succ_self _), hd])
/-- The places of List's row from i on. -/
def Tail (base : Nat) (w : World) (A : Option Addr) (L : List Nat) (i : Nat) : Prop :=
  ∀ j x : Nat, i ≤ j → L[j]? = some x → ∃ g cur, A = some ⟨g, 0, none⟩ ∧ base ≤ g ∧ w.heap[g]? = some (.cells cur 33 (0, 0)) ∧ cur[j]? = some (.int .u32 x)
theorem Tail.of {w : World} {base n cap : Nat} {A : Option Addr} {L : List Nat} (h : Own w base (.slice A n cap) L) : Tail base w A L 0 := by
  intro j x _ hj
  rcases h with ⟨_, rfl⟩ | ⟨g, cap, cur, hv, hg, _, hh, hc⟩
  · simp at hj
  · injection hv with h1 h2 h3
    exact ⟨g, cur, h1, hg, hh, hc j x hj⟩
theorem Tail.kept {base i : Nat} {w w' : World} {A : Option Addr} {L : List Nat} (h : Tail base w A L i) (hb : Below w.heap.size w w') : Tail base w' A L i := fun j x hij hj => by
  obtain ⟨g, cur, h1, h2, h3, h4⟩ := h j x hij hj
  exact ⟨g, cur, h1, h2, blk_below h3 hb, h4⟩
theorem Tail.put {base i : Nat} {w : World} {g : Nat} {L : List Nat} (h : Tail base w (some ⟨g, 0, none⟩) L i) (u : Value) : Tail base (w.setCell ⟨g, i, none⟩ u) (some ⟨g, 0, none⟩) L (i + 1) := fun j x hij hj => by
  obtain ⟨g', cur, h1, h2, h3, h4⟩ := h j x (by omega) hj
  obtain rfl : g = g' := by simpa using h1
  exact ⟨g, _, rfl, h2, blk_set h3 i u, by rw [Array.getElem?_setIfInBounds_ne (by omega)]; exact h4⟩
set_option linter.unusedVariables false
set_option linter.unusedSimpArgs false
set_option maxHeartbeats 4000000 in
set_option maxRecDepth 100000 in
theorem same_any {B : Nat} {w : World} {sb wb T n : Nat} {L : List Nat} {rv : Value} (ht : Tab w) (hs : SetAt w sb wb T L) (hr : Dq.Rv B w rv L) (hn : n < 4294967296) :
    Calls Tryd.prog 14 #[.pointer (some ⟨sb, 0, none⟩), .agg #[.int .i64 T, rv], .int .u32 n] w fun e w' => e = .returned (.bool true) ∧ Below w.heap.size w w' := by
  obtain ⟨A1, c1, rfl⟩ := Kd.R_slice hr
  have hbox := below_alloc (Below.refl w.heap.size w) (.cells #[.int .i64 T, .slice A1 (ints L).length c1] 29)
  have hlt := SetAt.lt hs
  obtain ⟨ws, hok⟩ := SetAt.ok hs
  obtain ⟨f, hf⟩ : ∃ f : Nat, T = L.length + f := ⟨T - L.length, by have := hok.length_le; omega⟩
  obtain ⟨d, hd⟩ : ∃ d, decide (n ∈ L) = d := ⟨_, rfl⟩
  have HS := Lib.hid (SetAt.below hs hbox hlt.1 hlt.2)
  have HT := Lib.hid (Tab.below ht hbox (Tab.pos ht))
  have HR := Lib.hid (hr.below hbox)
  have HBX := Lib.hid hbox
  have H4 := Lib.hid (blk_new w (.cells #[.int .i64 T, .slice A1 (ints L).length c1] 29))
  have HF := Lib.hid hf
  have HD := Lib.hid hd
  have HN := Lib.hid hn
  have HUP := Lib.hid (show L.Pairwise (· < ·) ∧ L.length ≤ 65536 from ⟨hok.up, Nat.le_trans hok.length_le hok.big⟩)
  have HLL := Lib.hid (show (ints L).length = L.length from Rp.length_ints L)
  have HFF := Lib.hid (show (T : Int) - (L.length : Int) = (f : Int) by omega)
  have HWW := Lib.hid (show wrap64 (f : Int) = (f : Int) by have := hok.big; unfold wrap64; omega)
  have HLT := Lib.hid (Kd.R_lt hr)
  have hL64 : L.length ≤ 65536 := Nat.le_trans hok.length_le hok.big
  clear hs ht hr hbox hf hd hn hok hlt
  go_enter Tryd.func14, Tryd.ntmps14
  go_wp2_with fail
  refine (list_any HS.out HT.out).mono ?_
  rintro e w2 ⟨v, rfl, hl, hb2⟩
  have hown := own_list hl
  have hlt2 := SetAt.lt HS.out
  obtain ⟨A2, cap2, rfl, hcap⟩ := hown.slice
  have HOWN := Lib.hid hown
  have CS := Aside0.mk (SetAt.below HS.out hb2 hlt2.1 hlt2.2)
  have RV := Aside0.mk (HR.out.below hb2)
  have C4 := Aside0.mk (blk_below H4.out hb2)
  have BL := Aside0.mk (Below.refl w2.heap.size w2).drew
  have HB2 := Lib.hid (HBX.out.trans (hb2.mono HBX.out.size))
  clear hl hb2 hown hlt2 HS HT HR H4 HBX
  go_upto_region 2 with fail
  refine start_ (n := 41) (S := fun w' => True) (ds := []) #[false, false, false, false, false, false, false, false, false, false, false, false, false, false, false, false, false, false, false, false, false, false, false, false, false, false, false, false, false, false, false, false, false, false, false, false, false, false, false, false, false] (by kernel_rfl) rfl rfl trivial (fun hHeld => ?_)
  refine with_tabW Sme.tab2 Sme.bits2 (fun HT_ HW_ => ?_)
  refine inv_at [0, 1, 2, 3, 4, 5, 6, 7, 8, 9, 10, 11, 12, 13, 14, 15, 16, 17, 18, 19, 20, 21, 22, 23, 24, 25, 26, 27, 28, 29, 30, 31, 32, 33, 34, 35, 36, 37, 38, 39, 40] (fun a0_ b a w' => a = putSel a0_ b [(0, 11, .slice A2 L.length cap2), (1, 12, .int .i64 (L.length : Int)), (2, 13, .pointer (some ⟨w.heap.size, 1, none⟩)), (3, 14, .slice A1 (ints L).length c1), (4, 15, .int .i64 ((ints L).length : Int)), (5, 16, .bool false), (6, 17, .bool false), (7, 18, .pointer (some ⟨sb, 0, none⟩)), (8, 19, .int .i64 (L.length : Int)), (9, 20, .pointer (some ⟨w.heap.size, 1, none⟩)), (10, 21, .slice A1 (ints L).length c1), (11, 22, .int .i64 ((ints L).length : Int)), (12, 23, .bool false), (13, 24, .bool false), (14, 25, .bool false), (15, 26, .pointer (some ⟨sb, 0, none⟩)), (16, 27, .int .i64 (f : Int)), (17, 28, .pointer (some ⟨w.heap.size, 0, none⟩)), (18, 29, .int .i64 (T : Int)), (19, 30, .pointer (some ⟨w.heap.size, 1, none⟩)), (20, 31, .slice A1 (ints L).length c1), (21, 32, .int .i64 ((ints L).length : Int)), (22, 33, .int .i64 (f : Int)), (23, 34, .bool false), (24, 35, .bool false), (25, 36, .bool false), (26, 37, .pointer (some ⟨sb, 0, none⟩)), (27, 38, .int .i64 (T : Int)), (28, 39, .pointer (some ⟨w.heap.size, 0, none⟩)), (29, 40, .int .i64 (T : Int)), (30, 41, .bool false), (31, 42, .bool false), (32, 43, .bool false), (33, 44, .pointer (some ⟨sb, 0, none⟩)), (34, 45, .int .u32 (n : Int)), (35, 46, .bool d), (36, 47, .agg #[.int .i64 (T : Int), .slice A1 (ints L).length c1]), (37, 48, .int .u32 (n : Int)), (38, 49, .bool d), (39, 50, .bool false), (40, 51, .bool false)] ∧ (SetAt w' sb wb T L) ∧ (w'.heap[w.heap.size]? = some (.cells #[.int .i64 (T : Int), .slice A1 (ints L).length c1] 29 (0, 0))) ∧ (Dq.Rv B w' (.slice A1 (ints L).length c1) L) ∧ (Below w2.heap.size w2 w')) HT_.out HW_.out (by kernel_rfl) (by kernel_rfl) ?_ ?_ ?_
  · exact ⟨by simp only [putSel, Bool.false_eq_true, if_false], CS.out, C4.out, RV.out, BL.out⟩
  · skip
    clear BL C4 CS RV
    refine steps_cons ?_ ?_
    · rintro b a w' ⟨ha, Q_CS, Q_C4, Q_RV, Q_BL⟩ hb_ hon hoff
      refine ⟨_, rfl, fun K hK => ?_⟩
      have e7 : a.tmps[7]? = some (.slice A2 L.length cap2) := by rw [ha]; exact (putSel_off rfl).trans rfl
      replace ha := Aside0.mk ha
      have CS := Aside0.mk Q_CS
      have C4 := Aside0.mk Q_C4
      have RV := Aside0.mk Q_RV
      have BL := Aside0.mk Q_BL
      refine value_ (w1 := w') (v := .slice A2 L.length cap2) (by rfl) rfl ?_ ?_
      · go_simp
        (try simp only [i64_w])
        try rfl
      refine hK.out _ _ ⟨(by rw [ha.out]; exact putSel_upk 0 hb_ rfl rfl rfl), Q_CS, Q_C4, Q_RV, Q_BL⟩
    refine steps_cons ?_ ?_
    · rintro b a w' ⟨ha, Q_CS, Q_C4, Q_RV, Q_BL⟩ hb_ hon hoff
      refine ⟨_, rfl, fun K hK => ?_⟩
      have e11 : a.tmps[11]? = some (.slice A2 L.length cap2) := by rw [ha]; exact putSel_on (e := (0, 11, .slice A2 L.length cap2)) 0 rfl rfl (hon 0 (by kernel_rfl)) rfl
      replace ha := Aside0.mk ha
      have CS := Aside0.mk Q_CS
      have C4 := Aside0.mk Q_C4
      have RV := Aside0.mk Q_RV
      have BL := Aside0.mk Q_BL
      refine value_ (w1 := w') (v := .int .i64 (L.length : Int)) (by rfl) rfl ?_ ?_
      · go_simp
        (try simp only [i64_w])
        try rfl
      refine hK.out _ _ ⟨(by rw [ha.out]; exact putSel_upk 1 hb_ rfl rfl rfl), Q_CS, Q_C4, Q_RV, Q_BL⟩
    refine steps_cons ?_ ?_
    · rintro b a w' ⟨ha, Q_CS, Q_C4, Q_RV, Q_BL⟩ hb_ hon hoff
      refine ⟨_, rfl, fun K hK => ?_⟩
      have e4 : a.tmps[4]? = some (.pointer (some ⟨w.heap.size, 0, none⟩)) := by rw [ha]; exact (putSel_off rfl).trans rfl
      replace ha := Aside0.mk ha
      have CS := Aside0.mk Q_CS
      have C4 := Aside0.mk Q_C4
      have RV := Aside0.mk Q_RV
      have BL := Aside0.mk Q_BL
      refine value_ (w1 := w') (v := .pointer (some ⟨w.heap.size, 1, none⟩)) (by rfl) rfl ?_ ?_
      · go_simp
        (try simp only [i64_w])
        try rfl
      refine hK.out _ _ ⟨(by rw [ha.out]; exact putSel_upk 2 hb_ rfl rfl rfl), Q_CS, Q_C4, Q_RV, Q_BL⟩
    refine steps_cons ?_ ?_
    · rintro b a w' ⟨ha, Q_CS, Q_C4, Q_RV, Q_BL⟩ hb_ hon hoff
      refine ⟨_, rfl, fun K hK => ?_⟩
      have e13 : a.tmps[13]? = some (.pointer (some ⟨w.heap.size, 1, none⟩)) := by rw [ha]; exact putSel_on (e := (2, 13, .pointer (some ⟨w.heap.size, 1, none⟩))) 2 rfl rfl (hon 2 (by kernel_rfl)) rfl
      replace ha := Aside0.mk ha
      have CS := Aside0.mk Q_CS
      have C4 := Aside0.mk Q_C4
      have RV := Aside0.mk Q_RV
      have BL := Aside0.mk Q_BL
      have hc1 : w'.cell? ⟨w.heap.size, 1, none⟩ = some (.slice A1 (ints L).length c1) := (blk_cell C4.out 1).trans rfl
      refine value_ (w1 := w') (v := .slice A1 (ints L).length c1) (by rfl) rfl ?_ ?_
      · go_simp
        (try simp only [i64_w])
        try rfl
      refine hK.out _ _ ⟨(by rw [ha.out]; exact putSel_upk 3 hb_ rfl rfl rfl), Q_CS, Q_C4, Q_RV, Q_BL⟩
    refine steps_cons ?_ ?_
    · rintro b a w' ⟨ha, Q_CS, Q_C4, Q_RV, Q_BL⟩ hb_ hon hoff
      refine ⟨_, rfl, fun K hK => ?_⟩
      have e14 : a.tmps[14]? = some (.slice A1 (ints L).length c1) := by rw [ha]; exact putSel_on (e := (3, 14, .slice A1 (ints L).length c1)) 3 rfl rfl (hon 3 (by kernel_rfl)) rfl
      replace ha := Aside0.mk ha
      have CS := Aside0.mk Q_CS
      have C4 := Aside0.mk Q_C4
      have RV := Aside0.mk Q_RV
      have BL := Aside0.mk Q_BL
      refine value_ (w1 := w') (v := .int .i64 ((ints L).length : Int)) (by rfl) rfl ?_ ?_
      · go_simp
        (try simp only [i64_w])
        try rfl
      refine hK.out _ _ ⟨(by rw [ha.out]; exact putSel_upk 4 hb_ rfl rfl rfl), Q_CS, Q_C4, Q_RV, Q_BL⟩
    refine steps_cons ?_ ?_
    · rintro b a w' ⟨ha, Q_CS, Q_C4, Q_RV, Q_BL⟩ hb_ hon hoff
      refine ⟨_, rfl, fun K hK => ?_⟩
      have e12 : a.tmps[12]? = some (.int .i64 (L.length : Int)) := by rw [ha]; exact putSel_on (e := (1, 12, .int .i64 (L.length : Int))) 1 rfl rfl (hon 1 (by kernel_rfl)) rfl
      have e15 : a.tmps[15]? = some (.int .i64 ((ints L).length : Int)) := by rw [ha]; exact putSel_on (e := (4, 15, .int .i64 ((ints L).length : Int))) 4 rfl rfl (hon 4 (by kernel_rfl)) rfl
      replace ha := Aside0.mk ha
      have CS := Aside0.mk Q_CS
      have C4 := Aside0.mk Q_C4
      have RV := Aside0.mk Q_RV
      have BL := Aside0.mk Q_BL
      have hll := HLL.out
      refine value_ (w1 := w') (v := .bool false) (by rfl) rfl ?_ ?_
      · go_simp
        (try simp only [i64_w])
        try rfl
      refine hK.out _ _ ⟨(by rw [ha.out]; exact putSel_upk 5 hb_ rfl rfl rfl), Q_CS, Q_C4, Q_RV, Q_BL⟩
    refine steps_cons ?_ ?_
    · rintro b a w' ⟨ha, Q_CS, Q_C4, Q_RV, Q_BL⟩ hb_ hon hoff
      refine ⟨_, rfl, fun K hK => ?_⟩
      have e16 : a.tmps[16]? = some (.bool false) := by rw [ha]; exact putSel_on (e := (5, 16, .bool false)) 5 rfl rfl (hon 5 (by kernel_rfl)) rfl
      replace ha := Aside0.mk ha
      have CS := Aside0.mk Q_CS
      have C4 := Aside0.mk Q_C4
      have RV := Aside0.mk Q_RV
      have BL := Aside0.mk Q_BL
      refine value_ (w1 := w') (v := .bool false) (by rfl) rfl ?_ ?_
      · go_simp
        (try simp only [i64_w])
        try rfl
      refine hK.out _ _ ⟨(by rw [ha.out]; exact putSel_upk 6 hb_ rfl rfl rfl), Q_CS, Q_C4, Q_RV, Q_BL⟩
    refine steps_cons ?_ ?_
    · rintro b a w' ⟨ha, Q_CS, Q_C4, Q_RV, Q_BL⟩ hb_ hon hoff
      refine ⟨_, rfl, fun K hK => ?_⟩
      have e0 : a.tmps[0]? = some (.pointer (some ⟨sb, 0, none⟩)) := by rw [ha]; exact (putSel_off rfl).trans rfl
      have e17 : a.tmps[17]? = some (.bool false) := by rw [ha]; exact putSel_on (e := (6, 17, .bool false)) 6 rfl rfl (hon 6 (by kernel_rfl)) rfl
      replace ha := Aside0.mk ha
      have CS := Aside0.mk Q_CS
      have C4 := Aside0.mk Q_C4
      have RV := Aside0.mk Q_RV
      have BL := Aside0.mk Q_BL
      refine value_ (w1 := w') (v := .pointer (some ⟨sb, 0, none⟩)) (wanted_on rfl rfl rfl (e17.trans (by first | rfl | (simp [*]; done)))) rfl ?_ ?_
      · go_simp
        (try simp only [i64_w])
        try rfl
      refine hK.out _ _ ⟨(by rw [ha.out]; exact putSel_upk 7 hb_ rfl rfl rfl), Q_CS, Q_C4, Q_RV, Q_BL⟩
    refine steps_cons ?_ ?_
    · rintro b a w' ⟨ha, Q_CS, Q_C4, Q_RV, Q_BL⟩ hb_ hon hoff
      refine ⟨_, rfl, fun K hK => ?_⟩
      have e18 : a.tmps[18]? = some (.pointer (some ⟨sb, 0, none⟩)) := by rw [ha]; exact putSel_on (e := (7, 18, .pointer (some ⟨sb, 0, none⟩))) 7 rfl rfl (hon 7 (by kernel_rfl)) rfl
      have e17 : a.tmps[17]? = some (.bool false) := by rw [ha]; exact putSel_on (e := (6, 17, .bool false)) 6 rfl rfl (hon 6 (by kernel_rfl)) rfl
      replace ha := Aside0.mk ha
      have CS := Aside0.mk Q_CS
      have C4 := Aside0.mk Q_C4
      have RV := Aside0.mk Q_RV
      have BL := Aside0.mk Q_BL
      refine goes_ Tryd.func19 (by kernel_rfl) rfl #[.pointer (some ⟨sb, 0, none⟩)] (wanted_on rfl rfl rfl (e17.trans (by first | rfl | (simp [*]; done)))) rfl rfl (by first | (simp only [List.map_toArray, List.map_cons, List.map_nil, Act.eval, Array.getD_eq_getD_getElem?, Option.getD_some, e18, e17]; done) | (simp only [List.map_toArray, List.map_cons, List.map_nil, Act.eval, Array.getD_eq_getD_getElem?, Option.getD_some, e18, e17]; rfl)) ?_
      refine (used_b CS.out).mono ?_
      rintro e_ wx ⟨rfl, hbx⟩
      refine ⟨_, rfl, ?_⟩
      refine hK.out _ _ ⟨(by rw [ha.out]; exact putSel_upk 8 hb_ rfl rfl rfl), SetAt.below CS.out hbx (SetAt.lt CS.out).1 (SetAt.lt CS.out).2, blk_below C4.out hbx, RV.out.below hbx, BL.out.trans (hbx.mono BL.out.size)⟩
    refine steps_cons ?_ ?_
    · rintro b a w' ⟨ha, Q_CS, Q_C4, Q_RV, Q_BL⟩ hb_ hon hoff
      refine ⟨_, rfl, fun K hK => ?_⟩
      have e4 : a.tmps[4]? = some (.pointer (some ⟨w.heap.size, 0, none⟩)) := by rw [ha]; exact (putSel_off rfl).trans rfl
      have e17 : a.tmps[17]? = some (.bool false) := by rw [ha]; exact putSel_on (e := (6, 17, .bool false)) 6 rfl rfl (hon 6 (by kernel_rfl)) rfl
      replace ha := Aside0.mk ha
      have CS := Aside0.mk Q_CS
      have C4 := Aside0.mk Q_C4
      have RV := Aside0.mk Q_RV
      have BL := Aside0.mk Q_BL
      refine value_ (w1 := w') (v := .pointer (some ⟨w.heap.size, 1, none⟩)) (wanted_on rfl rfl rfl (e17.trans (by first | rfl | (simp [*]; done)))) rfl ?_ ?_
      · go_simp
        (try simp only [i64_w])
        try rfl
      refine hK.out _ _ ⟨(by rw [ha.out]; exact putSel_upk 9 hb_ rfl rfl rfl), Q_CS, Q_C4, Q_RV, Q_BL⟩
    refine steps_cons ?_ ?_
    · rintro b a w' ⟨ha, Q_CS, Q_C4, Q_RV, Q_BL⟩ hb_ hon hoff
      refine ⟨_, rfl, fun K hK => ?_⟩
      have e20 : a.tmps[20]? = some (.pointer (some ⟨w.heap.size, 1, none⟩)) := by rw [ha]; exact putSel_on (e := (9, 20, .pointer (some ⟨w.heap.size, 1, none⟩))) 9 rfl rfl (hon 9 (by kernel_rfl)) rfl
      have e17 : a.tmps[17]? = some (.bool false) := by rw [ha]; exact putSel_on (e := (6, 17, .bool false)) 6 rfl rfl (hon 6 (by kernel_rfl)) rfl
      replace ha := Aside0.mk ha
      have CS := Aside0.mk Q_CS
      have C4 := Aside0.mk Q_C4
      have RV := Aside0.mk Q_RV
      have BL := Aside0.mk Q_BL
      have hc1 : w'.cell? ⟨w.heap.size, 1, none⟩ = some (.slice A1 (ints L).length c1) := (blk_cell C4.out 1).trans rfl
      refine value_ (w1 := w') (v := .slice A1 (ints L).length c1) (wanted_on rfl rfl rfl (e17.trans (by first | rfl | (simp [*]; done)))) rfl ?_ ?_
      · go_simp
        (try simp only [i64_w])
        try rfl
      refine hK.out _ _ ⟨(by rw [ha.out]; exact putSel_upk 10 hb_ rfl rfl rfl), Q_CS, Q_C4, Q_RV, Q_BL⟩
    refine steps_cons ?_ ?_
    · rintro b a w' ⟨ha, Q_CS, Q_C4, Q_RV, Q_BL⟩ hb_ hon hoff
      refine ⟨_, rfl, fun K hK => ?_⟩
      have e21 : a.tmps[21]? = some (.slice A1 (ints L).length c1) := by rw [ha]; exact putSel_on (e := (10, 21, .slice A1 (ints L).length c1)) 10 rfl rfl (hon 10 (by kernel_rfl)) rfl
      have e17 : a.tmps[17]? = some (.bool false) := by rw [ha]; exact putSel_on (e := (6, 17, .bool false)) 6 rfl rfl (hon 6 (by kernel_rfl)) rfl
      replace ha := Aside0.mk ha
      have CS := Aside0.mk Q_CS
      have C4 := Aside0.mk Q_C4
      have RV := Aside0.mk Q_RV
      have BL := Aside0.mk Q_BL
      refine value_ (w1 := w') (v := .int .i64 ((ints L).length : Int)) (wanted_on rfl rfl rfl (e17.trans (by first | rfl | (simp [*]; done)))) rfl ?_ ?_
      · go_simp
        (try simp only [i64_w])
        try rfl
      refine hK.out _ _ ⟨(by rw [ha.out]; exact putSel_upk 11 hb_ rfl rfl rfl), Q_CS, Q_C4, Q_RV, Q_BL⟩
    refine steps_cons ?_ ?_
    · rintro b a w' ⟨ha, Q_CS, Q_C4, Q_RV, Q_BL⟩ hb_ hon hoff
      refine ⟨_, rfl, fun K hK => ?_⟩
      have e19 : a.tmps[19]? = some (.int .i64 (L.length : Int)) := by rw [ha]; exact putSel_on (e := (8, 19, .int .i64 (L.length : Int))) 8 rfl rfl (hon 8 (by kernel_rfl)) rfl
      have e22 : a.tmps[22]? = some (.int .i64 ((ints L).length : Int)) := by rw [ha]; exact putSel_on (e := (11, 22, .int .i64 ((ints L).length : Int))) 11 rfl rfl (hon 11 (by kernel_rfl)) rfl
      have e17 : a.tmps[17]? = some (.bool false) := by rw [ha]; exact putSel_on (e := (6, 17, .bool false)) 6 rfl rfl (hon 6 (by kernel_rfl)) rfl
      replace ha := Aside0.mk ha
      have CS := Aside0.mk Q_CS
      have C4 := Aside0.mk Q_C4
      have RV := Aside0.mk Q_RV
      have BL := Aside0.mk Q_BL
      have hll := HLL.out
      refine value_ (w1 := w') (v := .bool false) (wanted_on rfl rfl rfl (e17.trans (by first | rfl | (simp [*]; done)))) rfl ?_ ?_
      · go_simp
        (try simp only [i64_w])
        try rfl
      refine hK.out _ _ ⟨(by rw [ha.out]; exact putSel_upk 12 hb_ rfl rfl rfl), Q_CS, Q_C4, Q_RV, Q_BL⟩
    refine steps_cons ?_ ?_
    · rintro b a w' ⟨ha, Q_CS, Q_C4, Q_RV, Q_BL⟩ hb_ hon hoff
      refine ⟨_, rfl, fun K hK => ?_⟩
      have e17 : a.tmps[17]? = some (.bool false) := by rw [ha]; exact putSel_on (e := (6, 17, .bool false)) 6 rfl rfl (hon 6 (by kernel_rfl)) rfl
      have e23 : a.tmps[23]? = some (.bool false) := by rw [ha]; exact putSel_on (e := (12, 23, .bool false)) 12 rfl rfl (hon 12 (by kernel_rfl)) rfl
      replace ha := Aside0.mk ha
      have CS := Aside0.mk Q_CS
      have C4 := Aside0.mk Q_C4
      have RV := Aside0.mk Q_RV
      have BL := Aside0.mk Q_BL
      refine value_ (w1 := w') (v := .bool false) (by rfl) rfl ?_ ?_
      · go_simp
        (try simp only [i64_w])
        try rfl
      refine hK.out _ _ ⟨(by rw [ha.out]; exact putSel_upk 13 hb_ rfl rfl rfl), Q_CS, Q_C4, Q_RV, Q_BL⟩
    refine steps_cons ?_ ?_
    · rintro b a w' ⟨ha, Q_CS, Q_C4, Q_RV, Q_BL⟩ hb_ hon hoff
      refine ⟨_, rfl, fun K hK => ?_⟩
      have e24 : a.tmps[24]? = some (.bool false) := by rw [ha]; exact putSel_on (e := (13, 24, .bool false)) 13 rfl rfl (hon 13 (by kernel_rfl)) rfl
      replace ha := Aside0.mk ha
      have CS := Aside0.mk Q_CS
      have C4 := Aside0.mk Q_C4
      have RV := Aside0.mk Q_RV
      have BL := Aside0.mk Q_BL
      refine value_ (w1 := w') (v := .bool false) (by rfl) rfl ?_ ?_
      · go_simp
        (try simp only [i64_w])
        try rfl
      refine hK.out _ _ ⟨(by rw [ha.out]; exact putSel_upk 14 hb_ rfl rfl rfl), Q_CS, Q_C4, Q_RV, Q_BL⟩
    refine steps_cons ?_ ?_
    · rintro b a w' ⟨ha, Q_CS, Q_C4, Q_RV, Q_BL⟩ hb_ hon hoff
      refine ⟨_, rfl, fun K hK => ?_⟩
      have e0 : a.tmps[0]? = some (.pointer (some ⟨sb, 0, none⟩)) := by rw [ha]; exact (putSel_off rfl).trans rfl
      have e25 : a.tmps[25]? = some (.bool false) := by rw [ha]; exact putSel_on (e := (14, 25, .bool false)) 14 rfl rfl (hon 14 (by kernel_rfl)) rfl
      replace ha := Aside0.mk ha
      have CS := Aside0.mk Q_CS
      have C4 := Aside0.mk Q_C4
      have RV := Aside0.mk Q_RV
      have BL := Aside0.mk Q_BL
      refine value_ (w1 := w') (v := .pointer (some ⟨sb, 0, none⟩)) (wanted_on rfl rfl rfl (e25.trans (by first | rfl | (simp [*]; done)))) rfl ?_ ?_
      · go_simp
        (try simp only [i64_w])
        try rfl
      refine hK.out _ _ ⟨(by rw [ha.out]; exact putSel_upk 15 hb_ rfl rfl rfl), Q_CS, Q_C4, Q_RV, Q_BL⟩
    refine steps_cons ?_ ?_
    · rintro b a w' ⟨ha, Q_CS, Q_C4, Q_RV, Q_BL⟩ hb_ hon hoff
      refine ⟨_, rfl, fun K hK => ?_⟩
      have e26 : a.tmps[26]? = some (.pointer (some ⟨sb, 0, none⟩)) := by rw [ha]; exact putSel_on (e := (15, 26, .pointer (some ⟨sb, 0, none⟩))) 15 rfl rfl (hon 15 (by kernel_rfl)) rfl
      have e25 : a.tmps[25]? = some (.bool false) := by rw [ha]; exact putSel_on (e := (14, 25, .bool false)) 14 rfl rfl (hon 14 (by kernel_rfl)) rfl
      replace ha := Aside0.mk ha
      have CS := Aside0.mk Q_CS
      have C4 := Aside0.mk Q_C4
      have RV := Aside0.mk Q_RV
      have BL := Aside0.mk Q_BL
      refine goes_ Tryd.func20 (by kernel_rfl) rfl #[.pointer (some ⟨sb, 0, none⟩)] (wanted_on rfl rfl rfl (e25.trans (by first | rfl | (simp [*]; done)))) rfl rfl (by first | (simp only [List.map_toArray, List.map_cons, List.map_nil, Act.eval, Array.getD_eq_getD_getElem?, Option.getD_some, e26, e25]; done) | (simp only [List.map_toArray, List.map_cons, List.map_nil, Act.eval, Array.getD_eq_getD_getElem?, Option.getD_some, e26, e25]; rfl)) ?_
      refine (free_b CS.out HF.out).mono ?_
      rintro e_ wx ⟨rfl, hbx⟩
      refine ⟨_, rfl, ?_⟩
      refine hK.out _ _ ⟨(by rw [ha.out]; exact putSel_upk 16 hb_ rfl rfl rfl), SetAt.below CS.out hbx (SetAt.lt CS.out).1 (SetAt.lt CS.out).2, blk_below C4.out hbx, RV.out.below hbx, BL.out.trans (hbx.mono BL.out.size)⟩
    refine steps_cons ?_ ?_
    · rintro b a w' ⟨ha, Q_CS, Q_C4, Q_RV, Q_BL⟩ hb_ hon hoff
      refine ⟨_, rfl, fun K hK => ?_⟩
      have e4 : a.tmps[4]? = some (.pointer (some ⟨w.heap.size, 0, none⟩)) := by rw [ha]; exact (putSel_off rfl).trans rfl
      have e25 : a.tmps[25]? = some (.bool false) := by rw [ha]; exact putSel_on (e := (14, 25, .bool false)) 14 rfl rfl (hon 14 (by kernel_rfl)) rfl
      replace ha := Aside0.mk ha
      have CS := Aside0.mk Q_CS
      have C4 := Aside0.mk Q_C4
      have RV := Aside0.mk Q_RV
      have BL := Aside0.mk Q_BL
      refine value_ (w1 := w') (v := .pointer (some ⟨w.heap.size, 0, none⟩)) (wanted_on rfl rfl rfl (e25.trans (by first | rfl | (simp [*]; done)))) rfl ?_ ?_
      · go_simp
        (try simp only [i64_w])
        try rfl
      refine hK.out _ _ ⟨(by rw [ha.out]; exact putSel_upk 17 hb_ rfl rfl rfl), Q_CS, Q_C4, Q_RV, Q_BL⟩
    refine steps_cons ?_ ?_
    · rintro b a w' ⟨ha, Q_CS, Q_C4, Q_RV, Q_BL⟩ hb_ hon hoff
      refine ⟨_, rfl, fun K hK => ?_⟩
      have e28 : a.tmps[28]? = some (.pointer (some ⟨w.heap.size, 0, none⟩)) := by rw [ha]; exact putSel_on (e := (17, 28, .pointer (some ⟨w.heap.size, 0, none⟩))) 17 rfl rfl (hon 17 (by kernel_rfl)) rfl
      have e25 : a.tmps[25]? = some (.bool false) := by rw [ha]; exact putSel_on (e := (14, 25, .bool false)) 14 rfl rfl (hon 14 (by kernel_rfl)) rfl
      replace ha := Aside0.mk ha
      have CS := Aside0.mk Q_CS
      have C4 := Aside0.mk Q_C4
      have RV := Aside0.mk Q_RV
      have BL := Aside0.mk Q_BL
      have hc0 : w'.cell? ⟨w.heap.size, 0, none⟩ = some (.int .i64 (T : Int)) := (blk_cell C4.out 0).trans rfl
      refine value_ (w1 := w') (v := .int .i64 (T : Int)) (wanted_on rfl rfl rfl (e25.trans (by first | rfl | (simp [*]; done)))) rfl ?_ ?_
      · go_simp
        (try simp only [i64_w])
        try rfl
      refine hK.out _ _ ⟨(by rw [ha.out]; exact putSel_upk 18 hb_ rfl rfl rfl), Q_CS, Q_C4, Q_RV, Q_BL⟩
    refine steps_cons ?_ ?_
    · rintro b a w' ⟨ha, Q_CS, Q_C4, Q_RV, Q_BL⟩ hb_ hon hoff
      refine ⟨_, rfl, fun K hK => ?_⟩
      have e4 : a.tmps[4]? = some (.pointer (some ⟨w.heap.size, 0, none⟩)) := by rw [ha]; exact (putSel_off rfl).trans rfl
      have e25 : a.tmps[25]? = some (.bool false) := by rw [ha]; exact putSel_on (e := (14, 25, .bool false)) 14 rfl rfl (hon 14 (by kernel_rfl)) rfl
      replace ha := Aside0.mk ha
      have CS := Aside0.mk Q_CS
      have C4 := Aside0.mk Q_C4
      have RV := Aside0.mk Q_RV
      have BL := Aside0.mk Q_BL
      refine value_ (w1 := w') (v := .pointer (some ⟨w.heap.size, 1, none⟩)) (wanted_on rfl rfl rfl (e25.trans (by first | rfl | (simp [*]; done)))) rfl ?_ ?_
      · go_simp
        (try simp only [i64_w])
        try rfl
      refine hK.out _ _ ⟨(by rw [ha.out]; exact putSel_upk 19 hb_ rfl rfl rfl), Q_CS, Q_C4, Q_RV, Q_BL⟩
    refine steps_cons ?_ ?_
    · rintro b a w' ⟨ha, Q_CS, Q_C4, Q_RV, Q_BL⟩ hb_ hon hoff
      refine ⟨_, rfl, fun K hK => ?_⟩
      have e30 : a.tmps[30]? = some (.pointer (some ⟨w.heap.size, 1, none⟩)) := by rw [ha]; exact putSel_on (e := (19, 30, .pointer (some ⟨w.heap.size, 1, none⟩))) 19 rfl rfl (hon 19 (by kernel_rfl)) rfl
      have e25 : a.tmps[25]? = some (.bool false) := by rw [ha]; exact putSel_on (e := (14, 25, .bool false)) 14 rfl rfl (hon 14 (by kernel_rfl)) rfl
      replace ha := Aside0.mk ha
      have CS := Aside0.mk Q_CS
      have C4 := Aside0.mk Q_C4
      have RV := Aside0.mk Q_RV
      have BL := Aside0.mk Q_BL
      have hc1 : w'.cell? ⟨w.heap.size, 1, none⟩ = some (.slice A1 (ints L).length c1) := (blk_cell C4.out 1).trans rfl
      refine value_ (w1 := w') (v := .slice A1 (ints L).length c1) (wanted_on rfl rfl rfl (e25.trans (by first | rfl | (simp [*]; done)))) rfl ?_ ?_
      · go_simp
        (try simp only [i64_w])
        try rfl
      refine hK.out _ _ ⟨(by rw [ha.out]; exact putSel_upk 20 hb_ rfl rfl rfl), Q_CS, Q_C4, Q_RV, Q_BL⟩
    refine steps_cons ?_ ?_
    · rintro b a w' ⟨ha, Q_CS, Q_C4, Q_RV, Q_BL⟩ hb_ hon hoff
      refine ⟨_, rfl, fun K hK => ?_⟩
      have e31 : a.tmps[31]? = some (.slice A1 (ints L).length c1) := by rw [ha]; exact putSel_on (e := (20, 31, .slice A1 (ints L).length c1)) 20 rfl rfl (hon 20 (by kernel_rfl)) rfl
      have e25 : a.tmps[25]? = some (.bool false) := by rw [ha]; exact putSel_on (e := (14, 25, .bool false)) 14 rfl rfl (hon 14 (by kernel_rfl)) rfl
      replace ha := Aside0.mk ha
      have CS := Aside0.mk Q_CS
      have C4 := Aside0.mk Q_C4
      have RV := Aside0.mk Q_RV
      have BL := Aside0.mk Q_BL
      refine value_ (w1 := w') (v := .int .i64 ((ints L).length : Int)) (wanted_on rfl rfl rfl (e25.trans (by first | rfl | (simp [*]; done)))) rfl ?_ ?_
      · go_simp
        (try simp only [i64_w])
        try rfl
      refine hK.out _ _ ⟨(by rw [ha.out]; exact putSel_upk 21 hb_ rfl rfl rfl), Q_CS, Q_C4, Q_RV, Q_BL⟩
    refine steps_cons ?_ ?_
    · rintro b a w' ⟨ha, Q_CS, Q_C4, Q_RV, Q_BL⟩ hb_ hon hoff
      refine ⟨_, rfl, fun K hK => ?_⟩
      have e29 : a.tmps[29]? = some (.int .i64 (T : Int)) := by rw [ha]; exact putSel_on (e := (18, 29, .int .i64 (T : Int))) 18 rfl rfl (hon 18 (by kernel_rfl)) rfl
      have e32 : a.tmps[32]? = some (.int .i64 ((ints L).length : Int)) := by rw [ha]; exact putSel_on (e := (21, 32, .int .i64 ((ints L).length : Int))) 21 rfl rfl (hon 21 (by kernel_rfl)) rfl
      have e25 : a.tmps[25]? = some (.bool false) := by rw [ha]; exact putSel_on (e := (14, 25, .bool false)) 14 rfl rfl (hon 14 (by kernel_rfl)) rfl
      replace ha := Aside0.mk ha
      have CS := Aside0.mk Q_CS
      have C4 := Aside0.mk Q_C4
      have RV := Aside0.mk Q_RV
      have BL := Aside0.mk Q_BL
      have hll := HLL.out
      have hff := HFF.out
      refine value_ (w1 := w') (v := .int .i64 (f : Int)) (wanted_on rfl rfl rfl (e25.trans (by first | rfl | (simp [*]; done)))) rfl ?_ ?_
      · go_simp
        first | exact HWW.out | (simp only [i64_w]; exact HWW.out)
      refine hK.out _ _ ⟨(by rw [ha.out]; exact putSel_upk 22 hb_ rfl rfl rfl), CS.out, C4.out, RV.out, BL.out⟩
    refine steps_cons ?_ ?_
    · rintro b a w' ⟨ha, Q_CS, Q_C4, Q_RV, Q_BL⟩ hb_ hon hoff
      refine ⟨_, rfl, fun K hK => ?_⟩
      have e27 : a.tmps[27]? = some (.int .i64 (f : Int)) := by rw [ha]; exact putSel_on (e := (16, 27, .int .i64 (f : Int))) 16 rfl rfl (hon 16 (by kernel_rfl)) rfl
      have e33 : a.tmps[33]? = some (.int .i64 (f : Int)) := by rw [ha]; exact putSel_on (e := (22, 33, .int .i64 (f : Int))) 22 rfl rfl (hon 22 (by kernel_rfl)) rfl
      have e25 : a.tmps[25]? = some (.bool false) := by rw [ha]; exact putSel_on (e := (14, 25, .bool false)) 14 rfl rfl (hon 14 (by kernel_rfl)) rfl
      replace ha := Aside0.mk ha
      have CS := Aside0.mk Q_CS
      have C4 := Aside0.mk Q_C4
      have RV := Aside0.mk Q_RV
      have BL := Aside0.mk Q_BL
      refine value_ (w1 := w') (v := .bool false) (wanted_on rfl rfl rfl (e25.trans (by first | rfl | (simp [*]; done)))) rfl ?_ ?_
      · go_simp
        (try simp only [i64_w])
        try rfl
      refine hK.out _ _ ⟨(by rw [ha.out]; exact putSel_upk 23 hb_ rfl rfl rfl), Q_CS, Q_C4, Q_RV, Q_BL⟩
    refine steps_cons ?_ ?_
    · rintro b a w' ⟨ha, Q_CS, Q_C4, Q_RV, Q_BL⟩ hb_ hon hoff
      refine ⟨_, rfl, fun K hK => ?_⟩
      have e25 : a.tmps[25]? = some (.bool false) := by rw [ha]; exact putSel_on (e := (14, 25, .bool false)) 14 rfl rfl (hon 14 (by kernel_rfl)) rfl
      have e34 : a.tmps[34]? = some (.bool false) := by rw [ha]; exact putSel_on (e := (23, 34, .bool false)) 23 rfl rfl (hon 23 (by kernel_rfl)) rfl
      replace ha := Aside0.mk ha
      have CS := Aside0.mk Q_CS
      have C4 := Aside0.mk Q_C4
      have RV := Aside0.mk Q_RV
      have BL := Aside0.mk Q_BL
      refine value_ (w1 := w') (v := .bool false) (by rfl) rfl ?_ ?_
      · go_simp
        (try simp only [i64_w])
        try rfl
      refine hK.out _ _ ⟨(by rw [ha.out]; exact putSel_upk 24 hb_ rfl rfl rfl), Q_CS, Q_C4, Q_RV, Q_BL⟩
    refine steps_cons ?_ ?_
    · rintro b a w' ⟨ha, Q_CS, Q_C4, Q_RV, Q_BL⟩ hb_ hon hoff
      refine ⟨_, rfl, fun K hK => ?_⟩
      have e35 : a.tmps[35]? = some (.bool false) := by rw [ha]; exact putSel_on (e := (24, 35, .bool false)) 24 rfl rfl (hon 24 (by kernel_rfl)) rfl
      replace ha := Aside0.mk ha
      have CS := Aside0.mk Q_CS
      have C4 := Aside0.mk Q_C4
      have RV := Aside0.mk Q_RV
      have BL := Aside0.mk Q_BL
      refine value_ (w1 := w') (v := .bool false) (by rfl) rfl ?_ ?_
      · go_simp
        (try simp only [i64_w])
        try rfl
      refine hK.out _ _ ⟨(by rw [ha.out]; exact putSel_upk 25 hb_ rfl rfl rfl), Q_CS, Q_C4, Q_RV, Q_BL⟩
    refine steps_cons ?_ ?_
    · rintro b a w' ⟨ha, Q_CS, Q_C4, Q_RV, Q_BL⟩ hb_ hon hoff
      refine ⟨_, rfl, fun K hK => ?_⟩
      have e0 : a.tmps[0]? = some (.pointer (some ⟨sb, 0, none⟩)) := by rw [ha]; exact (putSel_off rfl).trans rfl
      have e36 : a.tmps[36]? = some (.bool false) := by rw [ha]; exact putSel_on (e := (25, 36, .bool false)) 25 rfl rfl (hon 25 (by kernel_rfl)) rfl
      replace ha := Aside0.mk ha
      have CS := Aside0.mk Q_CS
      have C4 := Aside0.mk Q_C4
      have RV := Aside0.mk Q_RV
      have BL := Aside0.mk Q_BL
      refine value_ (w1 := w') (v := .pointer (some ⟨sb, 0, none⟩)) (wanted_on rfl rfl rfl (e36.trans (by first | rfl | (simp [*]; done)))) rfl ?_ ?_
      · go_simp
        (try simp only [i64_w])
        try rfl
      refine hK.out _ _ ⟨(by rw [ha.out]; exact putSel_upk 26 hb_ rfl rfl rfl), Q_CS, Q_C4, Q_RV, Q_BL⟩
    refine steps_cons ?_ ?_
    · rintro b a w' ⟨ha, Q_CS, Q_C4, Q_RV, Q_BL⟩ hb_ hon hoff
      refine ⟨_, rfl, fun K hK => ?_⟩
      have e37 : a.tmps[37]? = some (.pointer (some ⟨sb, 0, none⟩)) := by rw [ha]; exact putSel_on (e := (26, 37, .pointer (some ⟨sb, 0, none⟩))) 26 rfl rfl (hon 26 (by kernel_rfl)) rfl
      have e36 : a.tmps[36]? = some (.bool false) := by rw [ha]; exact putSel_on (e := (25, 36, .bool false)) 25 rfl rfl (hon 25 (by kernel_rfl)) rfl
      replace ha := Aside0.mk ha
      have CS := Aside0.mk Q_CS
      have C4 := Aside0.mk Q_C4
      have RV := Aside0.mk Q_RV
      have BL := Aside0.mk Q_BL
      refine goes_ Tryd.func21 (by kernel_rfl) rfl #[.pointer (some ⟨sb, 0, none⟩)] (wanted_on rfl rfl rfl (e36.trans (by first | rfl | (simp [*]; done)))) rfl rfl (by first | (simp only [List.map_toArray, List.map_cons, List.map_nil, Act.eval, Array.getD_eq_getD_getElem?, Option.getD_some, e37, e36]; done) | (simp only [List.map_toArray, List.map_cons, List.map_nil, Act.eval, Array.getD_eq_getD_getElem?, Option.getD_some, e37, e36]; rfl)) ?_
      refine (total_b CS.out).mono ?_
      rintro e_ wx ⟨rfl, hbx⟩
      refine ⟨_, rfl, ?_⟩
      refine hK.out _ _ ⟨(by rw [ha.out]; exact putSel_upk 27 hb_ rfl rfl rfl), SetAt.below CS.out hbx (SetAt.lt CS.out).1 (SetAt.lt CS.out).2, blk_below C4.out hbx, RV.out.below hbx, BL.out.trans (hbx.mono BL.out.size)⟩
    refine steps_cons ?_ ?_
    · rintro b a w' ⟨ha, Q_CS, Q_C4, Q_RV, Q_BL⟩ hb_ hon hoff
      refine ⟨_, rfl, fun K hK => ?_⟩
      have e4 : a.tmps[4]? = some (.pointer (some ⟨w.heap.size, 0, none⟩)) := by rw [ha]; exact (putSel_off rfl).trans rfl
      have e36 : a.tmps[36]? = some (.bool false) := by rw [ha]; exact putSel_on (e := (25, 36, .bool false)) 25 rfl rfl (hon 25 (by kernel_rfl)) rfl
      replace ha := Aside0.mk ha
      have CS := Aside0.mk Q_CS
      have C4 := Aside0.mk Q_C4
      have RV := Aside0.mk Q_RV
      have BL := Aside0.mk Q_BL
      refine value_ (w1 := w') (v := .pointer (some ⟨w.heap.size, 0, none⟩)) (wanted_on rfl rfl rfl (e36.trans (by first | rfl | (simp [*]; done)))) rfl ?_ ?_
      · go_simp
        (try simp only [i64_w])
        try rfl
      refine hK.out _ _ ⟨(by rw [ha.out]; exact putSel_upk 28 hb_ rfl rfl rfl), Q_CS, Q_C4, Q_RV, Q_BL⟩
    refine steps_cons ?_ ?_
    · rintro b a w' ⟨ha, Q_CS, Q_C4, Q_RV, Q_BL⟩ hb_ hon hoff
      refine ⟨_, rfl, fun K hK => ?_⟩
      have e39 : a.tmps[39]? = some (.pointer (some ⟨w.heap.size, 0, none⟩)) := by rw [ha]; exact putSel_on (e := (28, 39, .pointer (some ⟨w.heap.size, 0, none⟩))) 28 rfl rfl (hon 28 (by kernel_rfl)) rfl
      have e36 : a.tmps[36]? = some (.bool false) := by rw [ha]; exact putSel_on (e := (25, 36, .bool false)) 25 rfl rfl (hon 25 (by kernel_rfl)) rfl
      replace ha := Aside0.mk ha
      have CS := Aside0.mk Q_CS
      have C4 := Aside0.mk Q_C4
      have RV := Aside0.mk Q_RV
      have BL := Aside0.mk Q_BL
      have hc0 : w'.cell? ⟨w.heap.size, 0, none⟩ = some (.int .i64 (T : Int)) := (blk_cell C4.out 0).trans rfl
      refine value_ (w1 := w') (v := .int .i64 (T : Int)) (wanted_on rfl rfl rfl (e36.trans (by first | rfl | (simp [*]; done)))) rfl ?_ ?_
      · go_simp
        (try simp only [i64_w])
        try rfl
      refine hK.out _ _ ⟨(by rw [ha.out]; exact putSel_upk 29 hb_ rfl rfl rfl), Q_CS, Q_C4, Q_RV, Q_BL⟩
    refine steps_cons ?_ ?_
    · rintro b a w' ⟨ha, Q_CS, Q_C4, Q_RV, Q_BL⟩ hb_ hon hoff
      refine ⟨_, rfl, fun K hK => ?_⟩
      have e38 : a.tmps[38]? = some (.int .i64 (T : Int)) := by rw [ha]; exact putSel_on (e := (27, 38, .int .i64 (T : Int))) 27 rfl rfl (hon 27 (by kernel_rfl)) rfl
      have e40 : a.tmps[40]? = some (.int .i64 (T : Int)) := by rw [ha]; exact putSel_on (e := (29, 40, .int .i64 (T : Int))) 29 rfl rfl (hon 29 (by kernel_rfl)) rfl
      have e36 : a.tmps[36]? = some (.bool false) := by rw [ha]; exact putSel_on (e := (25, 36, .bool false)) 25 rfl rfl (hon 25 (by kernel_rfl)) rfl
      replace ha := Aside0.mk ha
      have CS := Aside0.mk Q_CS
      have C4 := Aside0.mk Q_C4
      have RV := Aside0.mk Q_RV
      have BL := Aside0.mk Q_BL
      refine value_ (w1 := w') (v := .bool false) (wanted_on rfl rfl rfl (e36.trans (by first | rfl | (simp [*]; done)))) rfl ?_ ?_
      · go_simp
        (try simp only [i64_w])
        try rfl
      refine hK.out _ _ ⟨(by rw [ha.out]; exact putSel_upk 30 hb_ rfl rfl rfl), Q_CS, Q_C4, Q_RV, Q_BL⟩
    refine steps_cons ?_ ?_
    · rintro b a w' ⟨ha, Q_CS, Q_C4, Q_RV, Q_BL⟩ hb_ hon hoff
      refine ⟨_, rfl, fun K hK => ?_⟩
      have e36 : a.tmps[36]? = some (.bool false) := by rw [ha]; exact putSel_on (e := (25, 36, .bool false)) 25 rfl rfl (hon 25 (by kernel_rfl)) rfl
      have e41 : a.tmps[41]? = some (.bool false) := by rw [ha]; exact putSel_on (e := (30, 41, .bool false)) 30 rfl rfl (hon 30 (by kernel_rfl)) rfl
      replace ha := Aside0.mk ha
      have CS := Aside0.mk Q_CS
      have C4 := Aside0.mk Q_C4
      have RV := Aside0.mk Q_RV
      have BL := Aside0.mk Q_BL
      refine value_ (w1 := w') (v := .bool false) (by rfl) rfl ?_ ?_
      · go_simp
        (try simp only [i64_w])
        try rfl
      refine hK.out _ _ ⟨(by rw [ha.out]; exact putSel_upk 31 hb_ rfl rfl rfl), Q_CS, Q_C4, Q_RV, Q_BL⟩
    refine steps_cons ?_ ?_
    · rintro b a w' ⟨ha, Q_CS, Q_C4, Q_RV, Q_BL⟩ hb_ hon hoff
      refine ⟨_, rfl, fun K hK => ?_⟩
      have e42 : a.tmps[42]? = some (.bool false) := by rw [ha]; exact putSel_on (e := (31, 42, .bool false)) 31 rfl rfl (hon 31 (by kernel_rfl)) rfl
      replace ha := Aside0.mk ha
      have CS := Aside0.mk Q_CS
      have C4 := Aside0.mk Q_C4
      have RV := Aside0.mk Q_RV
      have BL := Aside0.mk Q_BL
      refine value_ (w1 := w') (v := .bool false) (by rfl) rfl ?_ ?_
      · go_simp
        (try simp only [i64_w])
        try rfl
      refine hK.out _ _ ⟨(by rw [ha.out]; exact putSel_upk 32 hb_ rfl rfl rfl), Q_CS, Q_C4, Q_RV, Q_BL⟩
    refine steps_cons ?_ ?_
    · rintro b a w' ⟨ha, Q_CS, Q_C4, Q_RV, Q_BL⟩ hb_ hon hoff
      refine ⟨_, rfl, fun K hK => ?_⟩
      have e0 : a.tmps[0]? = some (.pointer (some ⟨sb, 0, none⟩)) := by rw [ha]; exact (putSel_off rfl).trans rfl
      have e43 : a.tmps[43]? = some (.bool false) := by rw [ha]; exact putSel_on (e := (32, 43, .bool false)) 32 rfl rfl (hon 32 (by kernel_rfl)) rfl
      replace ha := Aside0.mk ha
      have CS := Aside0.mk Q_CS
      have C4 := Aside0.mk Q_C4
      have RV := Aside0.mk Q_RV
      have BL := Aside0.mk Q_BL
      refine value_ (w1 := w') (v := .pointer (some ⟨sb, 0, none⟩)) (wanted_on rfl rfl rfl (e43.trans (by first | rfl | (simp [*]; done)))) rfl ?_ ?_
      · go_simp
        (try simp only [i64_w])
        try rfl
      refine hK.out _ _ ⟨(by rw [ha.out]; exact putSel_upk 33 hb_ rfl rfl rfl), Q_CS, Q_C4, Q_RV, Q_BL⟩
    refine steps_cons ?_ ?_
    · rintro b a w' ⟨ha, Q_CS, Q_C4, Q_RV, Q_BL⟩ hb_ hon hoff
      refine ⟨_, rfl, fun K hK => ?_⟩
      have e2 : a.tmps[2]? = some (.int .u32 (n : Int)) := by rw [ha]; exact (putSel_off rfl).trans rfl
      have e43 : a.tmps[43]? = some (.bool false) := by rw [ha]; exact putSel_on (e := (32, 43, .bool false)) 32 rfl rfl (hon 32 (by kernel_rfl)) rfl
      replace ha := Aside0.mk ha
      have CS := Aside0.mk Q_CS
      have C4 := Aside0.mk Q_C4
      have RV := Aside0.mk Q_RV
      have BL := Aside0.mk Q_BL
      refine value_ (w1 := w') (v := .int .u32 (n : Int)) (wanted_on rfl rfl rfl (e43.trans (by first | rfl | (simp [*]; done)))) rfl ?_ ?_
      · go_simp
        (try simp only [i64_w])
        try rfl
      refine hK.out _ _ ⟨(by rw [ha.out]; exact putSel_upk 34 hb_ rfl rfl rfl), Q_CS, Q_C4, Q_RV, Q_BL⟩
    refine steps_cons ?_ ?_
    · rintro b a w' ⟨ha, Q_CS, Q_C4, Q_RV, Q_BL⟩ hb_ hon hoff
      refine ⟨_, rfl, fun K hK => ?_⟩
      have e44 : a.tmps[44]? = some (.pointer (some ⟨sb, 0, none⟩)) := by rw [ha]; exact putSel_on (e := (33, 44, .pointer (some ⟨sb, 0, none⟩))) 33 rfl rfl (hon 33 (by kernel_rfl)) rfl
      have e45 : a.tmps[45]? = some (.int .u32 (n : Int)) := by rw [ha]; exact putSel_on (e := (34, 45, .int .u32 (n : Int))) 34 rfl rfl (hon 34 (by kernel_rfl)) rfl
      have e43 : a.tmps[43]? = some (.bool false) := by rw [ha]; exact putSel_on (e := (32, 43, .bool false)) 32 rfl rfl (hon 32 (by kernel_rfl)) rfl
      replace ha := Aside0.mk ha
      have CS := Aside0.mk Q_CS
      have C4 := Aside0.mk Q_C4
      have RV := Aside0.mk Q_RV
      have BL := Aside0.mk Q_BL
      refine goes_ Tryd.func18 (by kernel_rfl) rfl #[.pointer (some ⟨sb, 0, none⟩), .int .u32 (n : Int)] (wanted_on rfl rfl rfl (e43.trans (by first | rfl | (simp [*]; done)))) rfl rfl (by first | (simp only [List.map_toArray, List.map_cons, List.map_nil, Act.eval, Array.getD_eq_getD_getElem?, Option.getD_some, e44, e45, e43]; done) | (simp only [List.map_toArray, List.map_cons, List.map_nil, Act.eval, Array.getD_eq_getD_getElem?, Option.getD_some, e44, e45, e43]; rfl)) ?_
      refine (has_b CS.out n HN.out HD.out).mono ?_
      rintro e_ wx ⟨rfl, hbx⟩
      refine ⟨_, rfl, ?_⟩
      refine hK.out _ _ ⟨(by rw [ha.out]; exact putSel_upk 35 hb_ rfl rfl rfl), SetAt.below CS.out hbx (SetAt.lt CS.out).1 (SetAt.lt CS.out).2, blk_below C4.out hbx, RV.out.below hbx, BL.out.trans (hbx.mono BL.out.size)⟩
    refine steps_cons ?_ ?_
    · rintro b a w' ⟨ha, Q_CS, Q_C4, Q_RV, Q_BL⟩ hb_ hon hoff
      refine ⟨_, rfl, fun K hK => ?_⟩
      have e4 : a.tmps[4]? = some (.pointer (some ⟨w.heap.size, 0, none⟩)) := by rw [ha]; exact (putSel_off rfl).trans rfl
      have e43 : a.tmps[43]? = some (.bool false) := by rw [ha]; exact putSel_on (e := (32, 43, .bool false)) 32 rfl rfl (hon 32 (by kernel_rfl)) rfl
      replace ha := Aside0.mk ha
      have CS := Aside0.mk Q_CS
      have C4 := Aside0.mk Q_C4
      have RV := Aside0.mk Q_RV
      have BL := Aside0.mk Q_BL
      have hc0 : w'.cell? ⟨w.heap.size, 0, none⟩ = some (.int .i64 (T : Int)) := (blk_cell C4.out 0).trans rfl
      have hc1 : w'.cell? ⟨w.heap.size, 1, none⟩ = some (.slice A1 (ints L).length c1) := (blk_cell C4.out 1).trans rfl
      refine value_ (w1 := w') (v := .agg #[.int .i64 (T : Int), .slice A1 (ints L).length c1]) (wanted_on rfl rfl rfl (e43.trans (by first | rfl | (simp [*]; done)))) rfl ?_ ?_
      · go_simp
        (try simp only [i64_w])
        try rfl
      refine hK.out _ _ ⟨(by rw [ha.out]; exact putSel_upk 36 hb_ rfl rfl rfl), Q_CS, Q_C4, Q_RV, Q_BL⟩
    refine steps_cons ?_ ?_
    · rintro b a w' ⟨ha, Q_CS, Q_C4, Q_RV, Q_BL⟩ hb_ hon hoff
      refine ⟨_, rfl, fun K hK => ?_⟩
      have e2 : a.tmps[2]? = some (.int .u32 (n : Int)) := by rw [ha]; exact (putSel_off rfl).trans rfl
      have e43 : a.tmps[43]? = some (.bool false) := by rw [ha]; exact putSel_on (e := (32, 43, .bool false)) 32 rfl rfl (hon 32 (by kernel_rfl)) rfl
      replace ha := Aside0.mk ha
      have CS := Aside0.mk Q_CS
      have C4 := Aside0.mk Q_C4
      have RV := Aside0.mk Q_RV
      have BL := Aside0.mk Q_BL
      refine value_ (w1 := w') (v := .int .u32 (n : Int)) (wanted_on rfl rfl rfl (e43.trans (by first | rfl | (simp [*]; done)))) rfl ?_ ?_
      · go_simp
        (try simp only [i64_w])
        try rfl
      refine hK.out _ _ ⟨(by rw [ha.out]; exact putSel_upk 37 hb_ rfl rfl rfl), Q_CS, Q_C4, Q_RV, Q_BL⟩
    refine steps_cons ?_ ?_
    · rintro b a w' ⟨ha, Q_CS, Q_C4, Q_RV, Q_BL⟩ hb_ hon hoff
      refine ⟨_, rfl, fun K hK => ?_⟩
      have e47 : a.tmps[47]? = some (.agg #[.int .i64 (T : Int), .slice A1 (ints L).length c1]) := by rw [ha]; exact putSel_on (e := (36, 47, .agg #[.int .i64 (T : Int), .slice A1 (ints L).length c1])) 36 rfl rfl (hon 36 (by kernel_rfl)) rfl
      have e48 : a.tmps[48]? = some (.int .u32 (n : Int)) := by rw [ha]; exact putSel_on (e := (37, 48, .int .u32 (n : Int))) 37 rfl rfl (hon 37 (by kernel_rfl)) rfl
      have e43 : a.tmps[43]? = some (.bool false) := by rw [ha]; exact putSel_on (e := (32, 43, .bool false)) 32 rfl rfl (hon 32 (by kernel_rfl)) rfl
      replace ha := Aside0.mk ha
      have CS := Aside0.mk Q_CS
      have C4 := Aside0.mk Q_C4
      have RV := Aside0.mk Q_RV
      have BL := Aside0.mk Q_BL
      refine goes_ Tryd.func26 (by kernel_rfl) rfl #[.agg #[.int .i64 (T : Int), .slice A1 (ints L).length c1], .int .u32 (n : Int)] (wanted_on rfl rfl rfl (e43.trans (by first | rfl | (simp [*]; done)))) rfl rfl (by first | (simp only [List.map_toArray, List.map_cons, List.map_nil, Act.eval, Array.getD_eq_getD_getElem?, Option.getD_some, e47, e48, e43]; done) | (simp only [List.map_toArray, List.map_cons, List.map_nil, Act.eval, Array.getD_eq_getD_getElem?, Option.getD_some, e47, e48, e43]; rfl)) ?_
      refine (refhas_b RV.out HUP.out n HD.out).mono ?_
      rintro e_ wx ⟨rfl, hbx⟩
      refine ⟨_, rfl, ?_⟩
      refine hK.out _ _ ⟨(by rw [ha.out]; exact putSel_upk 38 hb_ rfl rfl rfl), SetAt.below CS.out hbx (SetAt.lt CS.out).1 (SetAt.lt CS.out).2, blk_below C4.out hbx, RV.out.below hbx, BL.out.trans (hbx.mono BL.out.size)⟩
    refine steps_cons ?_ ?_
    · rintro b a w' ⟨ha, Q_CS, Q_C4, Q_RV, Q_BL⟩ hb_ hon hoff
      refine ⟨_, rfl, fun K hK => ?_⟩
      have e46 : a.tmps[46]? = some (.bool d) := by rw [ha]; exact putSel_on (e := (35, 46, .bool d)) 35 rfl rfl (hon 35 (by kernel_rfl)) rfl
      have e49 : a.tmps[49]? = some (.bool d) := by rw [ha]; exact putSel_on (e := (38, 49, .bool d)) 38 rfl rfl (hon 38 (by kernel_rfl)) rfl
      have e43 : a.tmps[43]? = some (.bool false) := by rw [ha]; exact putSel_on (e := (32, 43, .bool false)) 32 rfl rfl (hon 32 (by kernel_rfl)) rfl
      replace ha := Aside0.mk ha
      have CS := Aside0.mk Q_CS
      have C4 := Aside0.mk Q_C4
      have RV := Aside0.mk Q_RV
      have BL := Aside0.mk Q_BL
      refine value_ (w1 := w') (v := .bool false) (wanted_on rfl rfl rfl (e43.trans (by first | rfl | (simp [*]; done)))) rfl ?_ ?_
      · go_simp
        (try simp only [i64_w])
        try rfl
      refine hK.out _ _ ⟨(by rw [ha.out]; exact putSel_upk 39 hb_ rfl rfl rfl), Q_CS, Q_C4, Q_RV, Q_BL⟩
    refine steps_cons ?_ ?_
    · rintro b a w' ⟨ha, Q_CS, Q_C4, Q_RV, Q_BL⟩ hb_ hon hoff
      refine ⟨_, rfl, fun K hK => ?_⟩
      have e43 : a.tmps[43]? = some (.bool false) := by rw [ha]; exact putSel_on (e := (32, 43, .bool false)) 32 rfl rfl (hon 32 (by kernel_rfl)) rfl
      have e50 : a.tmps[50]? = some (.bool false) := by rw [ha]; exact putSel_on (e := (39, 50, .bool false)) 39 rfl rfl (hon 39 (by kernel_rfl)) rfl
      replace ha := Aside0.mk ha
      have CS := Aside0.mk Q_CS
      have C4 := Aside0.mk Q_C4
      have RV := Aside0.mk Q_RV
      have BL := Aside0.mk Q_BL
      refine value_ (w1 := w') (v := .bool false) (by rfl) rfl ?_ ?_
      · go_simp
        (try simp only [i64_w])
        try rfl
      refine hK.out _ _ ⟨(by rw [ha.out]; exact putSel_upk 40 hb_ rfl rfl rfl), Q_CS, Q_C4, Q_RV, Q_BL⟩
    exact steps_nil
  · rintro b a w' hall ⟨ha, Q_CS, Q_C4, Q_RV, Q_BL⟩
    clear BL C4 CS RV
    have hb0_ := hall 0 (by kernel_rfl)
    have hb1_ := hall 1 (by kernel_rfl)
    have hb2_ := hall 2 (by kernel_rfl)
    have hb3_ := hall 3 (by kernel_rfl)
    have hb4_ := hall 4 (by kernel_rfl)
    have hb5_ := hall 5 (by kernel_rfl)
    have hb6_ := hall 6 (by kernel_rfl)
    have hb7_ := hall 7 (by kernel_rfl)
    have hb8_ := hall 8 (by kernel_rfl)
    have hb9_ := hall 9 (by kernel_rfl)
    have hb10_ := hall 10 (by kernel_rfl)
    have hb11_ := hall 11 (by kernel_rfl)
    have hb12_ := hall 12 (by kernel_rfl)
    have hb13_ := hall 13 (by kernel_rfl)
    have hb14_ := hall 14 (by kernel_rfl)
    have hb15_ := hall 15 (by kernel_rfl)
    have hb16_ := hall 16 (by kernel_rfl)
    have hb17_ := hall 17 (by kernel_rfl)
    have hb18_ := hall 18 (by kernel_rfl)
    have hb19_ := hall 19 (by kernel_rfl)
    have hb20_ := hall 20 (by kernel_rfl)
    have hb21_ := hall 21 (by kernel_rfl)
    have hb22_ := hall 22 (by kernel_rfl)
    have hb23_ := hall 23 (by kernel_rfl)
    have hb24_ := hall 24 (by kernel_rfl)
    have hb25_ := hall 25 (by kernel_rfl)
    have hb26_ := hall 26 (by kernel_rfl)
    have hb27_ := hall 27 (by kernel_rfl)
    have hb28_ := hall 28 (by kernel_rfl)
    have hb29_ := hall 29 (by kernel_rfl)
    have hb30_ := hall 30 (by kernel_rfl)
    have hb31_ := hall 31 (by kernel_rfl)
    have hb32_ := hall 32 (by kernel_rfl)
    have hb33_ := hall 33 (by kernel_rfl)
    have hb34_ := hall 34 (by kernel_rfl)
    have hb35_ := hall 35 (by kernel_rfl)
    have hb36_ := hall 36 (by kernel_rfl)
    have hb37_ := hall 37 (by kernel_rfl)
    have hb38_ := hall 38 (by kernel_rfl)
    have hb39_ := hall 39 (by kernel_rfl)
    have hb40_ := hall 40 (by kernel_rfl)
    subst ha
    simp only [putSel, hb0_, hb1_, hb2_, hb3_, hb4_, hb5_, hb6_, hb7_, hb8_, hb9_, hb10_, hb11_, hb12_, hb13_, hb14_, hb15_, hb16_, hb17_, hb18_, hb19_, hb20_, hb21_, hb22_, hb23_, hb24_, hb25_, hb26_, hb27_, hb28_, hb29_, hb30_, hb31_, hb32_, hb33_, hb34_, hb35_, hb36_, hb37_, hb38_, hb39_, hb40_, if_true, Act.put, List.setIfInBounds_toArray, List.set_cons_zero, List.set_cons_succ]
    have CS := Aside0.mk Q_CS
    clear Q_CS
    have C4 := Aside0.mk Q_C4
    clear Q_C4
    have RV := Aside0.mk Q_RV
    clear Q_RV
    have BL := Aside0.mk Q_BL
    clear Q_BL
    clear hall hb0_ hb1_ hb2_ hb3_ hb4_ hb5_ hb6_ hb7_ hb8_ hb9_ hb10_ hb11_ hb12_ hb13_ hb14_ hb15_ hb16_ hb17_ hb18_ hb19_ hb20_ hb21_ hb22_ hb23_ hb24_ hb25_ hb26_ hb27_ hb28_ hb29_ hb30_ hb31_ hb32_ hb33_ hb34_ hb35_ hb36_ hb37_ hb38_ hb39_ hb40_
    have TL := Lib.hid ((Tail.of HOWN.out).kept BL.out)
    have HB3 := Lib.hid (HB2.out.trans (BL.out.mono HB2.out.size))
    have HC4 := Lib.hid C4.out
    have HRV := Lib.hid RV.out
    clear CS C4 RV BL HB2 HOWN
    go_wp2_with fail
    go_loopw [8] (fun v wr => ∃ i : Nat, v = .int .i64 i ∧ i ≤ L.length ∧ Go.RowKit.Hid (Tail (w.heap.size + 1) wr A2 L i) ∧ Go.RowKit.Hid (wr.heap[w.heap.size]? = some (.cells #[.int .i64 T, .slice A1 (ints L).length c1] 29 (0, 0))) ∧ Go.RowKit.Hid (Dq.Rv B wr (.slice A1 (ints L).length c1) L) ∧ Go.RowKit.Hid (Below w.heap.size w wr)) (fun v _ => L.length - (intOf v).toNat)
    case atStart => exact ⟨0, rfl, Nat.zero_le _, Lib.hid (by simpa using TL.out), HC4, HRV, HB3⟩
    case round =>
      clear TL HB3 HC4 HRV
      obtain ⟨i, rfl, hi, htl, h4, hrv, hb⟩ := hrel
      by_cases hlt : i < L.length
      · obtain ⟨x, hx⟩ : ∃ x, L[i]? = some x := ⟨_, List.getElem?_eq_getElem hlt⟩
        obtain ⟨g, cur, hA2, hg, hh, hcur⟩ := htl.out i x (Nat.le_refl _) hx
        obtain ⟨g1, hA1, hc1⟩ := (own_list hrv.out).cell hx
        have hll := HLL.out
        have hg1 : g1 < w.heap.size := HLT.out g1 (by rw [hA1]; rfl)
        subst hA2
        subst hA1
        have hcl : wr.cell? ⟨g, i, none⟩ = some (.int .u32 x) := (blk_cell hh i).trans hcur
        have fcl := blk_frozen hh i
        have c40 : wr.cell? ⟨w.heap.size, 0, none⟩ = some (.int .i64 T) := (blk_cell h4.out 0).trans rfl
        have c41 : wr.cell? ⟨w.heap.size, 1, none⟩ = some (.slice (some ⟨g1, 0, none⟩) (ints L).length c1) := (blk_cell h4.out 1).trans rfl
        have HG := Lib.hid hg
        have HG1 := Lib.hid hg1
        have hil : i < (ints L).length := by omega
        clear hx hh hcur hg hg1 hll
        go_wp2_with fail
        go_big_quiet (fail)
        go_wp2_with fail
        have h5 := HG.out
        have h6 := HG1.out
        refine ⟨⟨i + 1, rfl, by omega, Lib.hid (Tail.put (show Tail (w.heap.size + 1) (wr.drewN nq) (some ⟨g, 0, none⟩) L i from htl.out) _), Lib.hid (blk_far (w := wr.drewN nq) h4.out (p := ⟨g, i, none⟩) (by simp only []; omega) _), ?_, Lib.hid ((Se.below_of hb.out ⟨rfl, rfl, rfl, rfl⟩ ⟨rfl, rfl, rfl, rfl⟩ : Below w.heap.size w (wr.drewN nq)).setCell (p := ⟨g, i, none⟩) (by simp only []; omega) _)⟩, by simp only [intOf]; omega⟩
        exact Lib.hid (hrv.out.kept (Kept.setCell (Kept.drewN (Kept.refl wr (fun k => k = g)) nq) (p := ⟨g, i, none⟩) (.inl rfl) _) (fun k hk he => by
          have h7 : k = g1 := by simpa [Value.ownBlock] using he
          omega))
      · go_wp2_with fail
        go_ret
        exact ⟨rfl, hb.out⟩
end Go.Proofs.YtkpdmbcefjjfgaaDoor.Sm
